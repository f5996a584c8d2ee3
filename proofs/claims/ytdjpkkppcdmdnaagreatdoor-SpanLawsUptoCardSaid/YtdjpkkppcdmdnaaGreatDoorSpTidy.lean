/- span.Tidy: the fewest spans of some that are right. -/
import Derived.Test.YtdjpkkppcdmdnaaGreatDoorSpSort
import Derived.Test.YtdjpkkppcdmdnaaGreatDoorSpNorm
namespace Go.Proofs.YtdjpkkppcdmdnaaGreatDoor
open Go.RowKit

theorem mrgs_take {m : List sp.Span} {k : Nat} (h : k < m.length) : sp.mrgs (m.take (k + 1)) = sp.mrg (sp.mrgs (m.take k)) m[k] := by
  unfold sp.mrgs
  rw [List.take_succ_eq_append_getElem h, List.foldl_append]; rfl
theorem ownsRow_drewN {w : World} {B t k n : Nat} {v : Value} {xs : List Value} (h : w.ownsRow B t k v n xs) (q : Nat) : (w.drewN q).ownsRow B t k v n xs := ⟨h.1, h.2⟩
theorem mrg_le (M : List sp.Span) (s : sp.Span) : (sp.mrg M s).length ≤ M.length + 1 := by
  unfold sp.mrg
  split
  · simp
  · split <;> simp
theorem flatS_set (r : List sp.Span) (t : sp.Span) (z : Int) : (flatS (r ++ [t])).set (r.length * 2 + 1) (.int .i64 z) = flatS (r ++ [(t.1, z)]) := by
  rw [flatS_snoc, flatS_snoc, List.set_append_right _ _ (by rw [flatS_len]; omega), flatS_len]
  rw [show r.length * 2 + 1 - r.length * 2 = 1 by omega]
  rfl

set_option maxHeartbeats 4000000 in
set_option maxRecDepth 1000000 in
theorem tidyW_any (v : Value) (l : List sp.Span) (w : World) (hr : RdS w v l) (hpl : Plain v) (hv : sp.wide l = true) (hn : l.length ≤ 1000000) :
    Calls Tryz.prog 22 #[v] w fun e w' => ∃ u, e = .returned u ∧ RdS w' u (sp.norm l) ∧ Plain u ∧ (sp.norm l).length ≤ l.length ∧ Below w.heap.size w w' := by
  have hcl := cloneSp_any v l w hr hpl hn
  have Hv := Lib.hid hv
  clear hr hpl hv
  obtain ⟨i0, hi, hz0, hz1, hz2⟩ := info_parts infoPair
  go_enter Tryz.func22, Tryz.ntmps22
  go_wp2_with (go_at_call 41; refine hcl.mono ?_; rintro e w1 ⟨v1, rfl, hown1, hb1⟩)
  refine (sortSp_any v1 l w.heap.size w w1 hown1 hn hb1.size hb1).mono ?_
  rintro e w2 ⟨rfl, m, hp, hs, hrd, hb2⟩
  have Hnorm := Lib.hid (sp.tidy_norm hp hs (sp.wide_rises Hv.out))
  have Hvm := Lib.hid (show sp.wide m = true from List.all_eq_true.2 fun s h => List.all_eq_true.1 Hv.out s (hp.mem_iff.1 h))
  have hml : m.length = l.length := hp.length_eq
  have Hml := Lib.hid hml
  have HB2 := Lib.hid hb2
  obtain ⟨oa, ocap, rfl, hol2, hoc⟩ := hrd
  have Hoc := Lib.hid hoc
  rw [hml] at hol2 ⊢
  clear hp hs hb2 hown1 hb1 hoc hcl
  go_wp2
  go_loopw [2, 12] (fun u i wr => ∃ k : Nat, k ≤ m.length ∧ i = .int .i64 k ∧ wr.ownsRow w2.heap.size 27 2 u (sp.mrgs (m.take k)).length (flatS (sp.mrgs (m.take k)).reverse) ∧ Below w2.heap.size w2 wr ∧ (sp.mrgs (m.take k)).length ≤ k ∧ ∀ t ∈ sp.mrgs (m.take k), 0 ≤ t.2 ∧ t.2 ≤ 4294967296) (fun _ i _ => m.length - (intOf i).toNat)
  case atStart => exact ⟨0, Nat.zero_le _, rfl, World.ownsRow_nil _ _ _ _, Below.refl _ _, Nat.le_refl _, fun t h => by cases h⟩
  case round =>
    obtain ⟨k, hk, rfl, hown, hbi, hle, hval⟩ := hrel
    by_cases hlt : k < m.length
    · obtain ⟨g, off, rfl, hcell⟩ := Hoc.out (fun e => by rw [e] at hlt; simp at hlt)
      obtain ⟨c0, c1⟩ := hcell k hlt
      have c0 := kept hbi c0
      have c1 := kept hbi c1
      obtain ⟨o0, o1, o2⟩ := sp.okW_iff.1 (List.all_eq_true.1 Hvm.out _ (List.getElem_mem hlt))
      have hnx := mrgs_take hlt
      have Hval := Lib.hid hval
      have hkl : k < l.length := by rw [← Hml.out]; exact hlt
      generalize m[k] = s at *
      obtain ⟨p, q⟩ := s
      dsimp only at c0 c1 o0 o1 o2
      generalize hM1 : sp.mrgs (m.take (k + 1)) = M1 at *
      have HM1 := Lib.hid hM1
      generalize sp.mrgs (m.take k) = M at *
      clear hcell hval hM1
      cases M with
      | nil =>
        have Hnx := Lib.hid (show M1 = [(p, q)] from hnx)
        obtain ⟨ua, uc, rfl, _, _⟩ := rdS_owns (l := []) hown (Nat.zero_le _)
        clear hnx
        go_wp2
        go_quiet (fail)
        go_wp2_with (at_builtin; refine wpList_append_own _ rfl (.tmp 44) (.tmp 46) 22 rfl w2.heap.size 27 i0 (.agg #[.int .i64 0, .int .i64 0]) 2 16 Tryz.underlying22 hi hz0 hz1 hz2 rfl (by decide) _ _ _ rfl ((ownsRow_drewN (hown.alloc _) _).alloc _) ⟨_, 0, none⟩ 1 1 [.int .i64 p, .int .i64 q] rfl rfl (newsPair _ _ (by first | rfl | simp) _ _) (onePair _ _) (by unfold maxLen; omega) (by omega) (by have := hbi.size; simp; omega) ?_)
        intro v' w3 hown3 hgrow3 _
        have hb3 : Below w2.heap.size w2 w3 := ((below_drewN (hbi.alloc hbi.size _) _).alloc (by have := hbi.size; simp; omega) _).grown hgrow3 (by have := hbi.size; simp; omega) (fun j hj => (hown.lt j hj).1)
        have HB3 := Lib.hid hb3
        have Hown3 := Lib.hid hown3
        clear hgrow3 hown3 hb3 hown
        go_wp2
        go_roundw
        case rel => exact ⟨k + 1, by omega, by go_num, by rw [HM1.out, Hnx.out]; skip; exact Hown3.out, HB3.out, by rw [HM1.out, Hnx.out]; show 0 + 1 ≤ k + 1; omega, fun t h => by rw [HM1.out, Hnx.out] at h; exact (List.mem_cons.1 h).elim (fun e => by subst e; constructor <;> (show _ ≤ _; omega)) (fun e => Hval.out t e)⟩
        case measure => simp [intOf]; omega
      | cons t r =>
        obtain ⟨t1, t2⟩ := t
        have ht := Hval.out (t1, t2) (by simp)
        dsimp only at ht
        have hfl : (flatS ((t1, t2) :: r).reverse)[r.length * 2 + 1]? = some (.int .i64 t2) := by
          have h1 := (flatS_at ((t1, t2) :: r).reverse r.length (by simp)).2
          rw [h1]; congr 2; simp
        obtain ⟨g2, cap2, rfl⟩ : ∃ g2 cap2, u2 = .slice (some ⟨g2, 0, none⟩) ((t1, t2) :: r).length cap2 := by
          rcases hown.2 with ⟨_, h0⟩ | ⟨g, cap, cur, h1, _⟩
          · cases h0
          · exact ⟨g, cap, h1⟩
        have el : ((t1, t2) :: r).length = r.length + 1 := rfl
        rw [el] at hown hle ⊢
        have e1 : wr.cell? ⟨g2, r.length * 2 + 1, none⟩ = some (.int .i64 t2) := by rw [hown.cellAt _ (by omega)]; exact hfl
        have f1 : wr.frozen? ⟨g2, r.length * 2 + 1, none⟩ = false := hown.frozenAt _
        have e2 := keptA (.cells #[.int .i64 p, .int .i64 q] 27) e1
        have f2 := keptAF (.cells #[.int .i64 p, .int .i64 q] 27) e1 f1
        clear hfl el
        by_cases hpq : p ≤ t2 + 1
        · have Hnx := Lib.hid (show M1 = (t1, max t2 q) :: r from hnx.trans (if_pos hpq))
          clear hnx
          have Hset := Lib.hid (show (flatS ((t1, t2) :: r).reverse).set (r.length * 2 + 1) (.int .i64 (max t2 q)) = flatS (r.reverse ++ [(t1, max t2 q)]) by
            rw [List.reverse_cons]; have := flatS_set r.reverse (t1, t2) (max t2 q); rwa [List.length_reverse] at this)
          go_wp2
          go_quiet (fail)
          go_wp2
          go_region
          go_wp2
          go_roundw
          case rel =>
            refine ⟨k + 1, by omega, by go_num, ?_, ?_, by rw [HM1.out, Hnx.out]; exact Nat.le_succ_of_le hle, fun t h => by rw [HM1.out, Hnx.out] at h; exact (List.mem_cons.1 h).elim (fun e => by subst e; constructor <;> (show _ ≤ _; omega)) (fun e => Hval.out t (List.mem_cons_of_mem _ e))⟩
            · rw [HM1.out, Hnx.out, List.reverse_cons, ← Hset.out]
              exact ((ownsRow_drewN (hown.alloc _) _).stored (r.length * 2 + 1) _).1
            · exact (below_drewN (hbi.alloc hbi.size _) _).grown ((ownsRow_drewN (hown.alloc _) _).stored (r.length * 2 + 1) (.int .i64 (max t2 q))).2 (by have := hbi.size; simp; omega) (fun j hj => by injection hj with hj; subst hj; exact (hown.lt _ rfl).1)
          case measure => simp [intOf]; omega
        · have Hnx := Lib.hid (show M1 = (p, q) :: (t1, t2) :: r from hnx.trans (if_neg hpq))
          clear hnx
          go_wp2
          go_quiet (fail)
          go_wp2_with (at_builtin; refine wpList_append_own _ rfl (.tmp 44) (.tmp 46) 22 rfl w2.heap.size 27 i0 (.agg #[.int .i64 0, .int .i64 0]) 2 16 Tryz.underlying22 hi hz0 hz1 hz2 rfl (by decide) _ _ _ rfl ((ownsRow_drewN (hown.alloc _) _).alloc _) ⟨_, 0, none⟩ 1 1 [.int .i64 p, .int .i64 q] rfl rfl (newsPair _ _ (by first | rfl | simp) _ _) (onePair _ _) (by unfold maxLen; omega) (by omega) (by have := hbi.size; simp; omega) ?_)
          intro v' w3 hown3 hgrow3 _
          have hb3 : Below w2.heap.size w2 w3 := ((below_drewN (hbi.alloc hbi.size _) _).alloc (by have := hbi.size; simp; omega) _).grown hgrow3 (by have := hbi.size; simp; omega) (fun j hj => (hown.lt j hj).1)
          have HB3 := Lib.hid hb3
          have Hown3 := Lib.hid hown3
          clear hgrow3 hown3 hb3 hown
          go_wp2
          go_roundw
          case rel => exact ⟨k + 1, by omega, by go_num, by rw [HM1.out, Hnx.out]; rw [List.reverse_cons, flatS_snoc, List.reverse_cons]; exact Hown3.out, HB3.out, by rw [HM1.out, Hnx.out]; show r.length + 1 + 1 ≤ k + 1; omega, fun t h => by rw [HM1.out, Hnx.out] at h; exact (List.mem_cons.1 h).elim (fun e => by subst e; constructor <;> (show _ ≤ _; omega)) (fun e => Hval.out t e)⟩
          case measure => simp [intOf]; omega
    · obtain rfl : k = m.length := by omega
      rw [List.take_length] at hown hle
      have HRd := Lib.hid (rdS_owns (l := (sp.mrgs m).reverse) (by rw [List.length_reverse]; exact hown) (by rw [List.length_reverse]; omega))
      have HPl := Lib.hid (plain_owns hown)
      have HLe := Lib.hid hle
      have HB := Lib.hid (HB2.out.trans (hbi.mono HB2.out.size))
      clear hown hle hbi
      go_wp2
      go_ret
      exact ⟨_, rfl, Hnorm.out ▸ HRd.out, HPl.out, by rw [← Hnorm.out, List.length_reverse, ← Hml.out]; exact HLe.out, HB.out⟩

theorem tidy_any (v : Value) (l : List sp.Span) (w : World) (hr : RdS w v l) (hpl : Plain v) (hv : sp.valid l = true) (hn : l.length ≤ 1000) :
    Calls Tryz.prog 22 #[v] w fun e w' => ∃ u, e = .returned u ∧ RdS w' u (sp.norm l) ∧ Plain u ∧ (sp.norm l).length ≤ l.length ∧ Below w.heap.size w w' :=
  tidyW_any v l w hr hpl (sp.wide_valid hv) (by omega)

end Go.Proofs.YtdjpkkppcdmdnaaGreatDoor
