/- portref1.ShowSpans: spans as text. -/
import Derived.Test.YtdjpkkppcdmdnaaGreatDoorSpChk
import Derived.Test.YtdjpkkppcdmdnaaGreatDoorSpT
namespace Go.Proofs.YtdjpkkppcdmdnaaGreatDoor
open Go.RowKit

/-- the text of the first k spans -/
def preS (l : List sp.Span) (k : Nat) : List UInt8 := sp.joinC ((l.take k).map sp.showSpan)
theorem joinC_snoc : ∀ (ps : List (List UInt8)) (x : List UInt8), ps ≠ [] → sp.joinC (ps ++ [x]) = sp.joinC ps ++ 44 :: x
  | [], _, h => absurd rfl h
  | [p], x, _ => rfl
  | p :: q :: r, x, _ => by
    have ih := joinC_snoc (q :: r) x (by simp)
    show p ++ 44 :: sp.joinC ((q :: r) ++ [x]) = (p ++ 44 :: sp.joinC (q :: r)) ++ 44 :: x
    rw [ih]; simp
theorem preS_zero (l : List sp.Span) (h : 0 < l.length) : preS l 1 = sp.showSpan l[0] := by
  unfold preS
  rw [List.take_succ_eq_append_getElem h]; rfl
theorem preS_succ (l : List sp.Span) (k : Nat) (h : k < l.length) (hk : 0 < k) : preS l (k + 1) = preS l k ++ [44] ++ sp.showSpan l[k] := by
  unfold preS
  rw [List.take_succ_eq_append_getElem h, List.map_append, List.map_cons, List.map_nil, joinC_snoc _ _ (by
    intro e
    have h2 : ((l.take k).map sp.showSpan).length = 0 := by rw [e]; rfl
    rw [List.length_map, List.length_take] at h2
    omega)]
  simp
theorem showSpan_len (s : sp.Span) (h : sp.okS s = true) : (sp.showSpan s).length ≤ 50 := by
  obtain ⟨h0, h1, h2⟩ := sp.okS_iff'.1 h
  have a := dec_len s.1.toNat (by omega)
  have b := dec_len s.2.toNat (by omega)
  unfold sp.showSpan
  rw [List.length_append]
  split
  · simp only [List.length_cons]; omega
  · simp only [List.length_nil]; omega
theorem preS_len (l : List sp.Span) (hv : sp.valid l = true) : ∀ k, k ≤ l.length → (preS l k).length ≤ 51 * k
  | 0, _ => by simp [preS, sp.joinC]
  | k + 1, h => by
    have ih := preS_len l hv k (by omega)
    have hs := showSpan_len l[k] (List.all_eq_true.1 hv _ (List.getElem_mem (by omega)))
    by_cases hk : 0 < k
    · rw [preS_succ l k (by omega) hk]
      simp only [List.length_append, List.length_cons, List.length_nil]
      omega
    · obtain rfl : k = 0 := by omega
      rw [preS_zero l (by omega)]
      omega

set_option maxHeartbeats 2000000 in
theorem showSpans_any (v : Value) (l : List sp.Span) (w : World) (hr : RdS w v l) (hv : sp.valid l = true) (hn : l.length ≤ 1000) :
    Calls Tryz.prog 16 #[v] w fun e w' => e = .returned (strV (sp.showSpans l)) ∧ Below w.heap.size w w' := by
  obtain ⟨a, cap, rfl, hl, hc⟩ := hr
  by_cases h0 : l = []
  · subst h0
    go_enter Tryz.func16, Tryz.ntmps16
    go_wp2
    go_ret
    exact ⟨rfl, Below.refl _ _⟩
  · have hpos : 0 < l.length := List.length_pos_iff.2 h0
    have hres : sp.showSpans l = preS l l.length := by unfold sp.showSpans preS; rw [if_neg h0, List.take_length]
    have Hres := Lib.hid hres
    obtain ⟨g, off, rfl, hcell⟩ := hc h0
    have Hcell := Lib.hid hcell
    have Hv := Lib.hid hv
    have hz : ((l.length : Int) == 0) = false := beq_eq_false_iff_ne.2 (by omega)
    clear hc hres hcell h0 hv
    go_enter Tryz.func16, Tryz.ntmps16
    go_wp2
    go_loopw [3, 4] (fun s i wr => ∃ k : Nat, k ≤ l.length ∧ i = .int .i64 k ∧ s = strV (preS l k) ∧ Below w.heap.size w wr) (fun _ i _ => l.length - (intOf i).toNat)
    case atStart => exact ⟨0, Nat.zero_le _, rfl, rfl, Below.refl _ _⟩
    case round =>
      obtain ⟨k, hk, rfl, rfl, hb⟩ := hrel
      by_cases hlt : k < l.length
      · obtain ⟨c0, c1⟩ := Hcell.out k hlt
        have c0 := kept hb c0
        have c1 := kept hb c1
        have hok : sp.okS l[k] = true := List.all_eq_true.1 Hv.out _ (List.getElem_mem hlt)
        obtain ⟨o0, o1, o2⟩ := sp.okS_iff'.1 hok
        have hss : sp.showSpan l[k] = Lib.decDigits l[k].1.toNat ++ (if l[k].1 < l[k].2 then 45 :: Lib.decDigits l[k].2.toNat else []) := rfl
        have hp0 : k = 0 → preS l (k + 1) = sp.showSpan l[k] := fun e => by subst e; exact preS_zero l hlt
        have hp1 : 0 < k → preS l (k + 1) = preS l k ++ [44] ++ sp.showSpan l[k] := preS_succ l k hlt
        have hlen := preS_len l Hv.out k hk
        have Hq0 := Lib.hid (show k = 0 → preS l k = [] from fun e => by subst e; rfl)
        have HB := Lib.hid hb
        generalize sp.showSpan l[k] = S at *
        generalize hgx : l[k].1 = x at *
        generalize hgy : l[k].2 = y at *
        clear hgx hgy hok hb
        have d1 := dec_len x.toNat (by omega)
        have d2 := dec_len y.toNat (by omega)
        generalize hgt : preS l (k + 1) = T at *
        have HT0 := Lib.hid hgt
        clear hgt
        generalize preS l k = Q at *
        have HS := Lib.hid hss
        have HP0 := Lib.hid hp0
        have HP1 := Lib.hid hp1
        clear hss hp0 hp1
        have hdx := fun w => digits_any x.toNat x (Nat.le_refl _) o0 (by omega) w
        have hdy := fun w => digits_any y.toNat y (Nat.le_refl _) (by omega) (by omega) w
        generalize Lib.decDigits x.toNat = X at *
        generalize Lib.decDigits y.toNat = Y at *
        by_cases hk0 : 0 < k
        · have HT := Lib.hid (HP1.out hk0)
          obtain ⟨Q1, e1⟩ : ∃ q, q = Q ++ [44] := ⟨_, rfl⟩
          obtain ⟨Q2, e2⟩ : ∃ q, q = Q1 ++ X := ⟨_, rfl⟩
          obtain ⟨Q3, e3⟩ : ∃ q, q = Q2 ++ [45] := ⟨_, rfl⟩
          obtain ⟨Q4, e4⟩ : ∃ q, q = Q3 ++ Y := ⟨_, rfl⟩
          have l1 : Q1.length = Q.length + 1 := by rw [e1]; simp
          have l2 : Q2.length = Q1.length + X.length := by rw [e2]; simp
          have l3 : Q3.length = Q2.length + 1 := by rw [e3]; simp
          have a1 : ∀ w, (binOp .add 9 (strV Q) (.string ⟨#[44]⟩)).run Tryz.prog w = .ok (strV Q1) w := fun w => e1 ▸ strAddC 9 Q [44] (by simp only [List.length_cons, List.length_nil]; omega) w
          have a2 : ∀ w, (binOp .add 9 (strV Q1) (strV X)).run Tryz.prog w = .ok (strV Q2) w := fun w => e2 ▸ strAdd 9 _ _ (by omega) w
          have a3 : ∀ w, (binOp .add 9 (strV Q2) (.string ⟨#[45]⟩)).run Tryz.prog w = .ok (strV Q3) w := fun w => e3 ▸ strAddC 9 _ [45] (by simp only [List.length_cons, List.length_nil]; omega) w
          have a4 : ∀ w, (binOp .add 9 (strV Q3) (strV Y)).run Tryz.prog w = .ok (strV Q4) w := fun w => e4 ▸ strAdd 9 _ _ (by omega) w
          have E := Lib.hid (show Q4 = Q ++ [44] ++ X ++ [45] ++ Y ∧ Q2 = Q ++ [44] ++ X by rw [e4, e3, e2, e1]; exact ⟨rfl, rfl⟩)
          clear e1 e2 e3 e4 l1 l2 l3
          by_cases hxy : x < y
          · have hfin := Lib.hid (show T = Q4 by rw [HT.out, HS.out, if_pos hxy, E.out.1]; simp)
            go_wp2_with fail
            refine (hdx _).mono ?_
            rintro e w' ⟨rfl, rfl⟩
            go_wp2
            go_quiet (fail)
            go_wp2_with fail
            refine (hdy _).mono ?_
            rintro e w' ⟨rfl, rfl⟩
            go_wp2
            go_roundw
            case rel => exact ⟨k + 1, by omega, by go_num, by rw [HT0.out, hfin.out], below_drewN HB.out _⟩
            case measure => simp [intOf]; omega
          · have hfin := Lib.hid (show T = Q2 by rw [HT.out, HS.out, if_neg hxy, E.out.2]; simp)
            go_wp2_with fail
            refine (hdx _).mono ?_
            rintro e w' ⟨rfl, rfl⟩
            go_wp2
            go_quiet (fail)
            go_wp2
            go_roundw
            case rel => exact ⟨k + 1, by omega, by go_num, by rw [HT0.out, hfin.out], below_drewN HB.out _⟩
            case measure => simp [intOf]; omega
        · have HT := Lib.hid (HP0.out (by omega))
          have HQ : Q = [] := Hq0.out (by omega)
          subst HQ
          obtain ⟨Q3, e3⟩ : ∃ q, q = X ++ [45] := ⟨_, rfl⟩
          obtain ⟨Q4, e4⟩ : ∃ q, q = Q3 ++ Y := ⟨_, rfl⟩
          have l3 : Q3.length = X.length + 1 := by rw [e3]; simp
          have a2 : ∀ w, (binOp .add 9 (strV []) (strV X)).run Tryz.prog w = .ok (strV X) w := fun w => strAdd 9 _ _ (by simp only [List.length_nil]; omega) w
          have a3 : ∀ w, (binOp .add 9 (strV X) (.string ⟨#[45]⟩)).run Tryz.prog w = .ok (strV Q3) w := fun w => e3 ▸ strAddC 9 _ [45] (by simp only [List.length_cons, List.length_nil]; omega) w
          have a4 : ∀ w, (binOp .add 9 (strV Q3) (strV Y)).run Tryz.prog w = .ok (strV Q4) w := fun w => e4 ▸ strAdd 9 _ _ (by omega) w
          have E := Lib.hid (show Q4 = X ++ [45] ++ Y by rw [e4, e3])
          clear e3 e4 l3
          by_cases hxy : x < y
          · have hfin := Lib.hid (show T = Q4 by rw [HT.out, HS.out, if_pos hxy, E.out]; simp)
            go_wp2_with fail
            refine (hdx _).mono ?_
            rintro e w' ⟨rfl, rfl⟩
            go_wp2
            go_quiet (fail)
            go_wp2_with fail
            refine (hdy _).mono ?_
            rintro e w' ⟨rfl, rfl⟩
            go_wp2
            go_roundw
            case rel => exact ⟨k + 1, by omega, by go_num, by rw [HT0.out, hfin.out], below_drewN HB.out _⟩
            case measure => simp [intOf]; omega
          · have hfin := Lib.hid (show T = X by rw [HT.out, HS.out, if_neg hxy]; simp)
            go_wp2_with fail
            refine (hdx _).mono ?_
            rintro e w' ⟨rfl, rfl⟩
            go_wp2
            go_quiet (fail)
            go_wp2
            go_roundw
            case rel => exact ⟨k + 1, by omega, by go_num, by rw [HT0.out, hfin.out], below_drewN HB.out _⟩
            case measure => simp [intOf]; omega
      · obtain rfl : k = l.length := by omega
        have hfin := Lib.hid (Hres.out)
        have HB := Lib.hid hb
        clear hb
        go_wp2
        go_ret
        exact ⟨by rw [hfin.out]; rfl, HB.out⟩

end Go.Proofs.YtdjpkkppcdmdnaaGreatDoor
