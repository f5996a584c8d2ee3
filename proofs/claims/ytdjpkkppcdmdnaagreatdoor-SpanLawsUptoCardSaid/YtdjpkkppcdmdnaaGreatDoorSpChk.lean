/- span.Check, portsame.Spans: what is wrong with spans; are two lists of spans the same. -/
import Derived.Test.YtdjpkkppcdmdnaaGreatDoorSpMem
import Derived.RegionTactic
import Derived.ChangeAlike
namespace Go.Proofs.YtdjpkkppcdmdnaaGreatDoor
open Go.RowKit

theorem belowA (w : World) (o : Obj) : Below w.heap.size w (w.alloc o) := (Below.refl _ _).alloc (Nat.le_refl _) o

set_option maxHeartbeats 1000000 in
theorem spCheck_any (v : Value) (l : List sp.Span) (w : World) (hr : RdS w v l) :
    Calls Tryz.prog 27 #[v] w fun e w' => e = .returned (errV (sp.fault l)) ∧ Below w.heap.size w w' := by
  obtain ⟨a, cap, rfl, hl, hc⟩ := hr
  by_cases h200 : 200 < l.length
  · have hf : sp.fault l = 4 := by unfold sp.fault; rw [if_pos h200]
    have Hf := Lib.hid hf
    clear hf
    go_enter Tryz.func27, Tryz.ntmps27
    go_wp2
    go_ret
    exact ⟨by rw [Hf.out]; rfl, Below.refl _ _⟩
  · have hf : sp.fault l = if sp.valid l then 0 else 1 := by unfold sp.fault; rw [if_neg h200]
    have Hf := Lib.hid hf
    have HC := Lib.hid hc
    clear hf hc
    go_enter Tryz.func27, Tryz.ntmps27
    go_wp2
    go_loopw [11] (fun i wr => ∃ k : Nat, k ≤ l.length ∧ i = .int .i64 k ∧ sp.valid (l.take k) = true ∧ Below w.heap.size w wr) (fun i _ => l.length - (intOf i).toNat)
    case atStart => exact ⟨0, Nat.zero_le _, rfl, rfl, Below.refl _ _⟩
    case round =>
      obtain ⟨k, hk, rfl, hv, hb⟩ := hrel
      by_cases hlt : k < l.length
      · have hne : l ≠ [] := fun e => by rw [e] at hlt; simp at hlt
        obtain ⟨g, off, rfl, hcell⟩ := HC.out hne
        obtain ⟨c0, c1⟩ := hcell k hlt
        have c0 := kept hb c0
        have c1 := kept hb c1
        have hx : sp.okS l[k] = (wordB l[k].1 && wordB l[k].2 && !decide (l[k].2 < l[k].1)) := by
          rw [Bool.eq_iff_iff]
          simp only [sp.okS_iff', wordB_iff, Bool.and_eq_true, Bool.not_eq_true', decide_eq_false_iff_not]
          omega
        have Hx := Lib.hid hx
        have Hn := Lib.hid (valid_take hlt)
        have Hbad := Lib.hid (valid_not hlt)
        have Hv := Lib.hid hv
        have hbs := hb.size
        clear hx hv hcell hne
        generalize hgx : l[k].1 = x at *
        generalize hgy : l[k].2 = y at *
        have Hgx := Lib.hid hgx
        have Hgy := Lib.hid hgy
        have HB := Lib.hid (hb.trans ((belowA wr (.cells #[.int .i64 x, .int .i64 y] 27)).mono hbs))
        clear hgx hgy hb
        have hw1 := fun w => port_any x w
        have hw2 := fun w => port_any y w
        cases b1 : wordB x
        · have hbad : sp.okS l[k] = false := by rw [Hx.out, b1]; rfl
          have hfin := Lib.hid (show sp.fault l = 1 by rw [Hf.out, Hbad.out hbad]; rfl)
          rw [b1] at hw1
          clear b1 hbad
          go_wp2_with fail
          refine (hw1 _).mono ?_
          rintro e w' ⟨rfl, rfl⟩
          go_wp2
          go_ret
          exact ⟨by rw [hfin.out]; rfl, HB.out⟩
        · rw [b1] at hw1 Hx
          clear b1
          cases b2 : wordB y
          · have hbad : sp.okS l[k] = false := by rw [Hx.out, b2]; rfl
            have hfin := Lib.hid (show sp.fault l = 1 by rw [Hf.out, Hbad.out hbad]; rfl)
            rw [b2] at hw2
            clear b2 hbad
            go_wp2_with fail
            refine (hw1 _).mono ?_
            rintro e w' ⟨rfl, rfl⟩
            go_wp2_with fail
            refine (hw2 _).mono ?_
            rintro e w' ⟨rfl, rfl⟩
            go_wp2
            go_ret
            exact ⟨by rw [hfin.out]; rfl, HB.out⟩
          · rw [b2] at hw2 Hx
            clear b2
            by_cases hxy : y < x
            · have hbad : sp.okS l[k] = false := by rw [Hx.out]; simp [hxy]
              have hfin := Lib.hid (show sp.fault l = 1 by rw [Hf.out, Hbad.out hbad]; rfl)
              clear hbad
              go_wp2_with fail
              refine (hw1 _).mono ?_
              rintro e w' ⟨rfl, rfl⟩
              go_wp2_with fail
              refine (hw2 _).mono ?_
              rintro e w' ⟨rfl, rfl⟩
              go_wp2
              go_ret
              exact ⟨by rw [hfin.out]; rfl, HB.out⟩
            · have hgood : sp.okS l[k] = true := by rw [Hx.out]; simp [hxy]
              have hnx := Lib.hid (show sp.valid (l.take (k + 1)) = true by rw [Hn.out, Hv.out, hgood]; rfl)
              clear hgood
              go_wp2_with fail
              refine (hw1 _).mono ?_
              rintro e w' ⟨rfl, rfl⟩
              go_wp2_with fail
              refine (hw2 _).mono ?_
              rintro e w' ⟨rfl, rfl⟩
              go_wp2
              go_roundw
              case rel => exact ⟨k + 1, by omega, by go_num, hnx.out, HB.out⟩
              case measure => simp [intOf]; omega
      · obtain rfl : k = l.length := by omega
        rw [List.take_length] at hv
        have hfin := Lib.hid (show sp.fault l = 0 by rw [Hf.out, hv]; rfl)
        have HB := Lib.hid hb
        clear hv hb
        go_wp2
        go_ret
        exact ⟨by rw [hfin.out]; rfl, HB.out⟩

/-! ### portsame.Spans -/
theorem same_lens {l m : List sp.Span} (h : l.length ≠ m.length) : (l == m) = false := by
  rw [beq_eq_false_iff_ne]; intro e; exact h (by rw [e])
theorem same_at {l m : List sp.Span} {k : Nat} (h1 : k < l.length) (h2 : k < m.length) (h : l[k] ≠ m[k]) : (l == m) = false := by
  rw [beq_eq_false_iff_ne]; intro e; subst e; exact h rfl
theorem same_all {l m : List sp.Span} (hl : l.length = m.length) (h : l.take l.length = m.take l.length) : (l == m) = true := by
  rw [beq_iff_eq]
  rw [List.take_length, hl, List.take_length] at h
  exact h

set_option maxHeartbeats 1000000 in
theorem sameSpans_any (v u : Value) (l m : List sp.Span) (w : World) (hr : RdS w v l) (hr2 : RdS w u m) :
    Calls Tryz.prog 14 #[v, u] w fun e w' => e = .returned (.bool (l == m)) ∧ Below w.heap.size w w' := by
  obtain ⟨a, cap, rfl, hl, hc⟩ := hr
  obtain ⟨b, cap2, rfl, hl2, hc2⟩ := hr2
  by_cases hlen : l.length = m.length
  · have HC := Lib.hid hc
    have HC2 := Lib.hid hc2
    have Hall := Lib.hid (same_all hlen)
    have Hlen := Lib.hid hlen
    rw [← hlen]
    clear hc hc2 hlen hl2
    go_enter Tryz.func14, Tryz.ntmps14
    go_wp2
    go_loopw [5] (fun i wr => ∃ k : Nat, k ≤ l.length ∧ i = .int .i64 k ∧ l.take k = m.take k ∧ Below w.heap.size w wr) (fun i _ => l.length - (intOf i).toNat)
    case atStart => exact ⟨0, Nat.zero_le _, rfl, rfl, Below.refl _ _⟩
    case round =>
      obtain ⟨k, hk, rfl, hv, hb⟩ := hrel
      by_cases hlt : k < l.length
      · have hltm : k < m.length := by rw [← Hlen.out]; exact hlt
        have hne : l ≠ [] := fun e => by rw [e] at hlt; simp at hlt
        have hne2 : m ≠ [] := fun e => by rw [e] at hltm; simp at hltm
        obtain ⟨g, off, rfl, hcell⟩ := HC.out hne
        obtain ⟨g2, off2, rfl, hcell2⟩ := HC2.out hne2
        obtain ⟨c0, c1⟩ := hcell k hlt
        obtain ⟨d0, d1⟩ := hcell2 k hltm
        have c0 := kept hb c0
        have c1 := kept hb c1
        have d0 := kept hb d0
        have d1 := kept hb d1
        have Hstep := Lib.hid (show l[k] = m[k] → l.take (k + 1) = m.take (k + 1) from fun e => by
          rw [List.take_succ_eq_append_getElem hlt, List.take_succ_eq_append_getElem hltm, hv, e])
        have Hbad := Lib.hid (same_at hlt hltm)
        have HB := Lib.hid hb
        have Hpair := Lib.hid (show (l[k] = m[k]) ↔ (l[k].1 = m[k].1 ∧ l[k].2 = m[k].2) from Prod.ext_iff)
        clear hv hb hcell hcell2 hne hne2
        generalize hgx : l[k].1 = x at *
        generalize hgy : l[k].2 = y at *
        generalize hgp : m[k].1 = p at *
        generalize hgq : m[k].2 = q at *
        clear hgx hgy hgp hgq
        by_cases he : x = p ∧ y = q
        · obtain ⟨rfl, rfl⟩ := he
          have hst := Lib.hid (Hstep.out (Hpair.out.2 ⟨rfl, rfl⟩))
          have hE := fun w => eqPair_t x y w
          go_wp2
          go_region
          all_goals
            go_wp2
            go_roundw
            case rel => exact ⟨k + 1, by omega, by go_num, hst.out, by repeat (first | exact HB.out | refine Below.drew ?_)⟩
            case measure => simp [intOf]; omega
        · have hfin := Lib.hid (Hbad.out (fun e => he (Hpair.out.1 e)))
          have hE := fun w => eqPair_f x y p q he w
          clear he
          go_wp2
          go_region
          all_goals
            go_wp2
            go_ret
            exact ⟨by rw [hfin.out]; rfl, by repeat (first | exact HB.out | refine Below.drew ?_)⟩
      · obtain rfl : k = l.length := by omega
        have hfin := Lib.hid (Hall.out hv)
        have HB := Lib.hid hb
        clear hv hb
        go_wp2
        go_ret
        exact ⟨by rw [hfin.out]; rfl, HB.out⟩
  · have hf := Lib.hid (same_lens hlen)
    have h1 : ((l.length : Int) != (m.length : Int)) = true := bne_iff_ne.2 (by omega)
    have h2 : ((l.length : Int) == (m.length : Int)) = false := beq_eq_false_iff_ne.2 (by omega)
    go_enter Tryz.func14, Tryz.ntmps14
    go_wp2
    go_ret
    exact ⟨by rw [hf.out]; rfl, Below.refl _ _⟩

end Go.Proofs.YtdjpkkppcdmdnaaGreatDoor
