/- Spans in memory: a slice that reads as a list of spans. -/
import Derived.Test.YtdjpkkppcdmdnaaGreatDoorWhl
import Derived.Test.YtdjpkkppcdmdnaaGreatDoorSp
import Derived.Deep.QuietTactic
import Derived.BigQuiet
namespace Go.Proofs.YtdjpkkppcdmdnaaGreatDoor
open Go.RowKit

/-- v reads as these spans -/
def RdS (w : World) (v : Value) (l : List sp.Span) : Prop :=
  ∃ a cap, v = .slice a l.length cap ∧ l.length ≤ 4611686018427387904 ∧ (l ≠ [] → ∃ g off, a = some ⟨g, off, none⟩ ∧
    ∀ (j : Nat) (h : j < l.length), w.cell? ⟨g, off + j * 2, none⟩ = some (.int .i64 l[j].1) ∧ w.cell? ⟨g, off + j * 2 + 1, none⟩ = some (.int .i64 l[j].2))
theorem RdS.below {w w' : World} {v : Value} {l : List sp.Span} (h : RdS w v l) (hb : Below w.heap.size w w') : RdS w' v l := by
  obtain ⟨a, cap, e, hl, h⟩ := h
  exact ⟨a, cap, e, hl, fun hne => (h hne).imp fun g x => x.imp fun off y => ⟨y.1, fun j hj => ⟨kept hb (y.2 j hj).1, kept hb (y.2 j hj).2⟩⟩⟩

def flatS (l : List sp.Span) : List Value := l.flatMap fun s => [.int .i64 s.1, .int .i64 s.2]
theorem flatS_len (l : List sp.Span) : (flatS l).length = l.length * 2 := by
  induction l with
  | nil => rfl
  | cons s l ih => simp only [flatS, List.flatMap_cons, List.length_append, List.length_cons, List.length_nil] at ih ⊢; omega
theorem flatS_at : ∀ (l : List sp.Span) (j : Nat) (h : j < l.length), (flatS l)[j * 2]? = some (.int .i64 l[j].1) ∧ (flatS l)[j * 2 + 1]? = some (.int .i64 l[j].2)
  | s :: l, 0, _ => ⟨rfl, rfl⟩
  | s :: l, j + 1, h => by
    have ih := flatS_at l j (by simpa using h)
    have e1 : (j + 1) * 2 = j * 2 + 1 + 1 := by omega
    rw [e1]
    simpa [flatS] using ih
theorem flatS_snoc (l : List sp.Span) (s : sp.Span) : flatS (l ++ [s]) = flatS l ++ [.int .i64 s.1, .int .i64 s.2] := by simp [flatS]

/-- what the call itself made reads as its spans -/
theorem rdS_owns {w : World} {B t : Nat} {v : Value} {l : List sp.Span} (h : w.ownsRow B t 2 v l.length (flatS l)) (hl : l.length ≤ 4611686018427387904) : RdS w v l := by
  obtain ⟨_, h⟩ := h
  rcases h with ⟨hv, h0⟩ | ⟨g, cap, cur, hv, hB, hg, hn, hc, hs, ht⟩
  · have : l = [] := List.length_eq_zero_iff.1 h0
    subst this
    exact ⟨none, 0, hv, hl, fun h => absurd rfl h⟩
  · refine ⟨_, cap, hv, hl, fun _ => ⟨g, 0, rfl, fun j hj => ?_⟩⟩
    have h1 := flatS_at l j hj
    have hcell : ∀ k, w.cell? ⟨g, k, none⟩ = cur[k]? := fun k => by simp [World.cell?, hg]
    have hk : ∀ k, k < l.length * 2 → cur.toList[k]? = (flatS l)[k]? := fun k hk => by
      rw [← ht, List.getElem?_take_of_lt hk]
    rw [Nat.zero_add, hcell, hcell]
    have a := hk (j * 2) (by omega)
    have b := hk (j * 2 + 1) (by omega)
    rw [h1.1] at a
    rw [h1.2] at b
    exact ⟨by simpa using a, by simpa using b⟩

/-! ### two spans compared -/
theorem eqInt (a b : Int) (w : World) : (Op.equalIn 9999 3 (.int .i64 a) (.int .i64 b)).run Tryz.prog w = .ok (a == b) w := by
  show (Op.equalIn (9998 + 1) 3 _ _).run Tryz.prog w = _
  rw [Op.equalIn]
  simp [underlying, Tryz.underlying3, go_sem]
theorem eqPair (x y p q : Int) (w : World) : (Op.equalIn 10000 27 (.agg #[.int .i64 x, .int .i64 y]) (.agg #[.int .i64 p, .int .i64 q])).run Tryz.prog w = .ok ((x == p) && (y == q)) w := by
  show (Op.equalIn (9998 + 1 + 1) 27 _ _).run Tryz.prog w = _
  rw [Op.equalIn]
  simp [underlying, Tryz.underlying27, go_sem]
  have e : List.range' 0 2 = [0, 1] := rfl
  rw [e]
  simp only [List.forIn_cons, List.forIn_nil]
  cases hx : (x == p) <;> cases hy : (y == q) <;> simp [eqInt, hx, hy, go_sem, Result.andThen]
theorem eqPair_t (x y : Int) (w : World) : (Op.equalIn 10000 27 (.agg #[.int .i64 x, .int .i64 y]) (.agg #[.int .i64 x, .int .i64 y])).run Tryz.prog w = .ok true w := by
  rw [eqPair]; simp
theorem eqPair_f (x y p q : Int) (h : ¬ (x = p ∧ y = q)) (w : World) : (Op.equalIn 10000 27 (.agg #[.int .i64 x, .int .i64 y]) (.agg #[.int .i64 p, .int .i64 q])).run Tryz.prog w = .ok false w := by
  rw [eqPair]
  have : ((x == p) && (y == q)) = false := by rw [Bool.eq_false_iff]; intro hc; rw [Bool.and_eq_true, beq_iff_eq, beq_iff_eq] at hc; exact h hc
  rw [this]

/-! ### Word, port -/
def wordB (n : Int) : Bool := decide (0 ≤ n ∧ n ≤ 65535)
theorem wordB_iff {n : Int} : wordB n = true ↔ 0 ≤ n ∧ n ≤ 65535 := by simp [wordB]
theorem word_any (a : Int) (w : World) : Calls Tryz.prog 36 #[.int .i64 a] w fun e w' => e = .returned (.bool (wordB a)) ∧ w = w' := by
  by_cases h0 : 0 ≤ a <;> by_cases h1 : a ≤ 65535
  all_goals
    have hb : wordB a = decide (0 ≤ a ∧ a ≤ 65535) := rfl
    have Hb := Lib.hid hb
    clear hb
    go_enter Tryz.func36, Tryz.ntmps36
    go_wp2
    go_ret
    exact ⟨by rw [Hb.out]; simp [h0, h1], rfl⟩
theorem port_any (a : Int) (w : World) : Calls Tryz.prog 50 #[.int .i64 a] w fun e w' => e = .returned (.bool (wordB a)) ∧ w = w' := by
  by_cases h0 : 0 ≤ a <;> by_cases h1 : a ≤ 65535
  all_goals
    have hb : wordB a = decide (0 ≤ a ∧ a ≤ 65535) := rfl
    have Hb := Lib.hid hb
    clear hb
    go_enter Tryz.func50, Tryz.ntmps50
    go_wp2
    go_ret
    exact ⟨by rw [Hb.out]; simp [h0, h1], rfl⟩

/-! ### portref1.Spans -/
theorem valid_take {l : List sp.Span} {k : Nat} (h : k < l.length) : sp.valid (l.take (k + 1)) = (sp.valid (l.take k) && sp.okS l[k]) := by
  unfold sp.valid
  rw [List.take_succ_eq_append_getElem h, List.all_append]; simp
theorem valid_not {l : List sp.Span} {k : Nat} (h : k < l.length) (hb : sp.okS l[k] = false) : sp.valid l = false := by
  rw [Bool.eq_false_iff]
  intro hv
  have := List.all_eq_true.1 hv l[k] (List.getElem_mem h)
  rw [hb] at this; cases this

set_option maxHeartbeats 1000000 in
theorem spans_any (v : Value) (l : List sp.Span) (w : World) (hr : RdS w v l) :
    Calls Tryz.prog 15 #[v] w fun e w' => e = .returned (.int .i64 (sp.fault l)) ∧ Below w.heap.size w w' := by
  obtain ⟨a, cap, rfl, hl, hc⟩ := hr
  by_cases h200 : 200 < l.length
  · have hf : sp.fault l = 4 := by unfold sp.fault; rw [if_pos h200]
    have Hf := Lib.hid hf
    clear hf
    go_enter Tryz.func15, Tryz.ntmps15
    go_wp2
    go_ret
    exact ⟨by rw [Hf.out]; rfl, Below.refl _ _⟩
  · have hf : sp.fault l = if sp.valid l then 0 else 1 := by unfold sp.fault; rw [if_neg h200]
    have Hf := Lib.hid hf
    have HC := Lib.hid hc
    clear hf hc
    go_enter Tryz.func15, Tryz.ntmps15
    go_wp2
    go_loopw [3] (fun i wr => ∃ k : Nat, k ≤ l.length ∧ i = .int .i64 k ∧ sp.valid (l.take k) = true ∧ Below w.heap.size w wr) (fun i _ => l.length - (intOf i).toNat)
    case atStart => exact ⟨0, Nat.zero_le _, rfl, rfl, Below.refl _ _⟩
    case round =>
      obtain ⟨k, hk, rfl, hv, hb⟩ := hrel
      by_cases hlt : k < l.length
      · have hne : l ≠ [] := fun e => by rw [e] at hlt; simp at hlt
        obtain ⟨g, off, rfl, hcell⟩ := HC.out hne
        obtain ⟨c0, c1⟩ := hcell k hlt
        have c0 := kept hb c0
        have c1 := kept hb c1
        have hx : sp.okS l[k] = (wordB l[k].1 && wordB l[k].2 && !decide (l[k].2 < l[k].1)) := by
          rw [Bool.eq_iff_iff]
          simp only [sp.okS_iff', wordB_iff, Bool.and_eq_true, Bool.not_eq_true', decide_eq_false_iff_not]
          omega
        have Hx := Lib.hid hx
        have Hn := Lib.hid (valid_take hlt)
        have Hbad := Lib.hid (valid_not hlt)
        have Hv := Lib.hid hv
        have HB := Lib.hid hb
        clear hx hv hb hcell hne
        generalize hgx : l[k].1 = x at *
        generalize hgy : l[k].2 = y at *
        have Hgx := Lib.hid hgx
        have Hgy := Lib.hid hgy
        clear hgx hgy
        have hw1 := fun w => word_any x w
        have hw2 := fun w => word_any y w
        cases b1 : wordB x
        · have hbad : sp.okS l[k] = false := by rw [Hx.out, b1]; rfl
          have hfin := Lib.hid (show sp.fault l = 1 by rw [Hf.out, Hbad.out hbad]; rfl)
          rw [b1] at hw1
          clear b1 hbad
          cases b2 : wordB y
          all_goals
            rw [b2] at hw2
            clear b2
            go_wp2_with fail
            refine (hw1 _).mono ?_
            rintro e w' ⟨rfl, rfl⟩
            go_wp2_with fail
            refine (hw2 _).mono ?_
            rintro e w' ⟨rfl, rfl⟩
            go_wp2
            go_quiet (fail)
            go_wp2
            go_ret
            exact ⟨by rw [hfin.out]; rfl, below_drewN HB.out _⟩
        · rw [b1] at hw1 Hx
          clear b1
          cases b2 : wordB y
          · have hbad : sp.okS l[k] = false := by rw [Hx.out, b2]; rfl
            have hfin := Lib.hid (show sp.fault l = 1 by rw [Hf.out, Hbad.out hbad]; rfl)
            rw [b2] at hw2
            clear b2 hbad
            go_wp2_with fail
            refine (hw1 _).mono ?_
            rintro e w' ⟨rfl, rfl⟩
            go_wp2_with fail
            refine (hw2 _).mono ?_
            rintro e w' ⟨rfl, rfl⟩
            go_wp2
            go_quiet (fail)
            go_wp2
            go_ret
            exact ⟨by rw [hfin.out]; rfl, below_drewN HB.out _⟩
          · rw [b2] at hw2 Hx
            clear b2
            by_cases hxy : y < x
            · have hbad : sp.okS l[k] = false := by rw [Hx.out]; simp [hxy]
              have hfin := Lib.hid (show sp.fault l = 1 by rw [Hf.out, Hbad.out hbad]; rfl)
              clear hbad
              go_wp2_with fail
              refine (hw1 _).mono ?_
              rintro e w' ⟨rfl, rfl⟩
              go_wp2_with fail
              refine (hw2 _).mono ?_
              rintro e w' ⟨rfl, rfl⟩
              go_wp2
              go_quiet (fail)
              go_wp2
              go_ret
              exact ⟨by rw [hfin.out]; rfl, below_drewN HB.out _⟩
            · have hgood : sp.okS l[k] = true := by rw [Hx.out]; simp [hxy]
              have hnx := Lib.hid (show sp.valid (l.take (k + 1)) = true by rw [Hn.out, Hv.out, hgood]; rfl)
              have hd : decide (y < x) = false := by simpa using hxy
              clear hgood
              go_wp2_with fail
              refine (hw1 _).mono ?_
              rintro e w' ⟨rfl, rfl⟩
              go_wp2_with fail
              refine (hw2 _).mono ?_
              rintro e w' ⟨rfl, rfl⟩
              go_wp2
              go_quiet (fail)
              go_wp2
              go_roundw
              case rel => exact ⟨k + 1, by omega, by go_num, hnx.out, below_drewN HB.out _⟩
              case measure => simp [intOf]; omega
      · obtain rfl : k = l.length := by omega
        rw [List.take_length] at hv
        have hfin := Lib.hid (show sp.fault l = 0 by rw [Hf.out, hv]; rfl)
        have HB := Lib.hid hb
        clear hv hb
        go_wp2
        go_ret
        exact ⟨by rw [hfin.out]; rfl, HB.out⟩

end Go.Proofs.YtdjpkkppcdmdnaaGreatDoor
