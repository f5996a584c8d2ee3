/- span.Rest: what is not in spans that are tidy. -/
import Derived.Test.YtdjpkkppcdmdnaaGreatDoorSpTidy
import Derived.Test.YtdjpkkppcdmdnaaGreatDoorSpSet
namespace Go.Proofs.YtdjpkkppcdmdnaaGreatDoor.sp
def restStep (p : List Span × Int) (s : Span) : List Span × Int := (if p.2 < s.1 then p.1 ++ [(p.2, s.1 - 1)] else p.1, s.2 + 1)
def restF (low : Int) (l : List Span) : List Span × Int := l.foldl restStep ([], low)
def restEnd (high : Int) (p : List Span × Int) : List Span := if p.2 ≤ high then p.1 ++ [(p.2, high)] else p.1
theorem restF_acc (high : Int) : ∀ (l : List Span) (p : List Span × Int), restEnd high (l.foldl restStep p) = p.1 ++ rest high p.2 l
  | [], (o, x) => by
    unfold restEnd rest
    show (if x ≤ high then _ else _) = _
    split <;> simp
  | s :: l, (o, x) => by
    rw [List.foldl_cons, restF_acc high l]
    have e : rest high x (s :: l) = if x < s.1 then (x, s.1 - 1) :: rest high (s.2 + 1) l else rest high (s.2 + 1) l := rfl
    show (restStep (o, x) s).1 ++ rest high (s.2 + 1) l = o ++ rest high x (s :: l)
    rw [e]
    show (if x < s.1 then o ++ [(x, s.1 - 1)] else o) ++ _ = _
    split <;> simp
theorem restF_end (high low : Int) (l : List Span) : restEnd high (restF low l) = rest high low l := by
  unfold restF; rw [restF_acc]; rfl
theorem restF_take {l : List Span} {k : Nat} (low : Int) (h : k < l.length) : restF low (l.take (k + 1)) = restStep (restF low (l.take k)) l[k] := by
  unfold restF
  rw [List.take_succ_eq_append_getElem h, List.foldl_append]; rfl
end Go.Proofs.YtdjpkkppcdmdnaaGreatDoor.sp
namespace Go.Proofs.YtdjpkkppcdmdnaaGreatDoor
open Go.RowKit

set_option maxHeartbeats 4000000 in
set_option maxRecDepth 1000000 in
theorem rest_any (v : Value) (l : List sp.Span) (low high : Int) (w : World) (hr : RdS w v l) (hv : sp.wide l = true) (hn : l.length ≤ 1000000) (h0 : 0 ≤ low) (h1 : low ≤ 4294967297) :
    Calls Tryz.prog 32 #[v, .int .i64 low, .int .i64 high] w fun e w' => ∃ u, e = .returned u ∧ RdS w' u (sp.rest high low l) ∧ Plain u ∧ Below w.heap.size w w' := by
  have Hv := Lib.hid hv
  have Hend := Lib.hid (sp.restF_end high low l)
  obtain ⟨oa, ocap, rfl, hol, hoc⟩ := hr
  have Hoc := Lib.hid hoc
  clear hv hoc
  obtain ⟨i0, hi, hz0, hz1, hz2⟩ := info_parts infoPair
  go_enter Tryz.func32, Tryz.ntmps32
  go_wp2
  go_loopw [6, 11, 1] (fun u i x wr => ∃ k : Nat, k ≤ l.length ∧ i = .int .i64 k ∧ x = .int .i64 (sp.restF low (l.take k)).2 ∧ wr.ownsRow w.heap.size 27 2 u (sp.restF low (l.take k)).1.length (flatS (sp.restF low (l.take k)).1) ∧ Below w.heap.size w wr ∧ (sp.restF low (l.take k)).1.length ≤ k ∧ 0 ≤ (sp.restF low (l.take k)).2 ∧ (sp.restF low (l.take k)).2 ≤ 4294967297) (fun _ i _ _ => l.length - (intOf i).toNat)
  case atStart => exact ⟨0, Nat.zero_le _, rfl, rfl, World.ownsRow_nil _ _ _ _, Below.refl _ _, Nat.le_refl _, h0, h1⟩
  case round =>
    obtain ⟨k, hk, rfl, rfl, hown, hbi, hle, hx0, hx1⟩ := hrel
    by_cases hlt : k < l.length
    · obtain ⟨g, off, rfl, hcell⟩ := Hoc.out (fun e => by rw [e] at hlt; simp at hlt)
      obtain ⟨c0, c1⟩ := hcell k hlt
      have c0 := kept hbi c0
      have c1 := kept hbi c1
      obtain ⟨o0, o1, o2⟩ := sp.okW_iff.1 (List.all_eq_true.1 Hv.out _ (List.getElem_mem hlt))
      have hnx := sp.restF_take low hlt
      generalize l[k] = s at *
      obtain ⟨p, q⟩ := s
      dsimp only at c0 c1 o0 o1 o2
      generalize hM1 : sp.restF low (l.take (k + 1)) = M1 at *
      have HM1 := Lib.hid hM1
      generalize sp.restF low (l.take k) = M at *
      clear hcell hM1
      obtain ⟨M, x⟩ := M
      dsimp only at hown hle hx0 hx1 ⊢
      by_cases hpq : x < p
      · have Hnx := Lib.hid (show M1 = (M ++ [(x, p - 1)], q + 1) from hnx.trans (by unfold sp.restStep; rw [if_pos hpq]))
        clear hnx
        go_wp2_with (at_builtin; refine wpList_append_own _ rfl (.tmp 19) (.tmp 25) 22 rfl w.heap.size 27 i0 (.agg #[.int .i64 0, .int .i64 0]) 2 16 Tryz.underlying22 hi hz0 hz1 hz2 rfl (by decide) _ _ _ rfl ((hown.alloc _).alloc _) ⟨_, 0, none⟩ 1 1 [.int .i64 x, .int .i64 (p - 1)] rfl rfl (newsPair _ _ (by first | rfl | simp) _ _) (onePair _ _) (by unfold maxLen; omega) (by omega) (by have := hbi.size; simp; omega) ?_)
        intro v' w3 hown3 hgrow3 _
        have hb3 : Below w.heap.size w w3 := ((hbi.alloc hbi.size _).alloc (by have := hbi.size; simp; omega) _).grown hgrow3 (by have := hbi.size; simp; omega) (fun j hj => (hown.lt j hj).1)
        have hd1 : w3.cell? ⟨wr.heap.size, 1, none⟩ = some (.int .i64 q) := (World.cell?_of_block (hgrow3.block wr.heap.size (by simp; omega) (fun e => by have := (hown.lt _ e.symm).2; omega))).trans (keptA _ (newCell wr #[.int .i64 p, .int .i64 q] 27 1 _ rfl))
        have HB3 := Lib.hid hb3
        have Hown3 := Lib.hid hown3
        clear hgrow3 hown3 hb3 hown
        go_wp2
        go_roundw
        case rel => exact ⟨k + 1, by omega, by go_num, by rw [HM1.out, Hnx.out], by rw [HM1.out, Hnx.out]; show w3.ownsRow _ _ _ _ (M ++ [(x, p - 1)]).length (flatS (M ++ [(x, p - 1)])); rw [flatS_snoc, List.length_append]; exact Hown3.out, HB3.out, by rw [HM1.out, Hnx.out]; show (M ++ [(x, p - 1)]).length ≤ k + 1; rw [List.length_append]; exact Nat.succ_le_succ hle, by rw [HM1.out, Hnx.out]; show 0 ≤ q + 1; omega, by rw [HM1.out, Hnx.out]; show q + 1 ≤ 4294967297; omega⟩
        case measure => simp [intOf]; omega
      · have Hnx := Lib.hid (show M1 = (M, q + 1) from hnx.trans (by unfold sp.restStep; rw [if_neg hpq]))
        clear hnx
        go_wp2
        go_roundw
        case rel => exact ⟨k + 1, by omega, by go_num, by rw [HM1.out, Hnx.out], by rw [HM1.out, Hnx.out]; exact hown.alloc _, hbi.alloc hbi.size _, by rw [HM1.out, Hnx.out]; exact Nat.le_succ_of_le hle, by rw [HM1.out, Hnx.out]; show 0 ≤ q + 1; omega, by rw [HM1.out, Hnx.out]; show q + 1 ≤ 4294967297; omega⟩
        case measure => simp [intOf]; omega
    · obtain rfl : k = l.length := by omega
      rw [List.take_length] at *
      generalize sp.restF low l = M at *
      obtain ⟨M, x⟩ := M
      dsimp only at hown hle hx0 hx1 ⊢
      by_cases hpq : x ≤ high
      · have Hnx := Lib.hid (show sp.rest high low l = M ++ [(x, high)] from Hend.out.symm.trans (by unfold sp.restEnd; rw [if_pos hpq]))
        go_wp2_with (at_builtin; refine wpList_append_own _ rfl (.tmp 34) (.tmp 38) 22 rfl w.heap.size 27 i0 (.agg #[.int .i64 0, .int .i64 0]) 2 16 Tryz.underlying22 hi hz0 hz1 hz2 rfl (by decide) _ _ _ rfl (hown.alloc _) ⟨_, 0, none⟩ 1 1 [.int .i64 x, .int .i64 high] rfl rfl (newsPair _ _ (by first | rfl | simp) _ _) (onePair _ _) (by unfold maxLen; omega) (by omega) (by have := hbi.size; simp; omega) ?_)
        intro v' w3 hown3 hgrow3 _
        have hb3 : Below w.heap.size w w3 := (hbi.alloc hbi.size _).grown hgrow3 (by have := hbi.size; simp; omega) (fun j hj => (hown.lt j hj).1)
        have HB3 := Lib.hid hb3
        have Hown3 := Lib.hid hown3
        clear hgrow3 hown3 hb3 hown
        go_wp2
        go_ret
        refine ⟨_, rfl, ?_, plain_owns Hown3.out, HB3.out⟩
        rw [Hnx.out]
        exact rdS_owns (by rw [flatS_snoc, List.length_append]; exact Hown3.out) (by rw [List.length_append]; simp; omega)
      · have Hnx := Lib.hid (show sp.rest high low l = M from Hend.out.symm.trans (by unfold sp.restEnd; rw [if_neg hpq]))
        go_wp2
        go_ret
        exact ⟨_, rfl, by rw [Hnx.out]; exact rdS_owns hown (by omega), plain_owns hown, hbi⟩

end Go.Proofs.YtdjpkkppcdmdnaaGreatDoor
