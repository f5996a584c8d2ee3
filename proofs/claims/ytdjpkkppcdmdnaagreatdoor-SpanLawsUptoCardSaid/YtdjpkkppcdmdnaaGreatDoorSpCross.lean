/- span.Cross: what two have in common. -/
import Derived.Test.YtdjpkkppcdmdnaaGreatDoorSpRest
import Derived.Test.YtdjpkkppcdmdnaaGreatDoorApp
namespace Go.Proofs.YtdjpkkppcdmdnaaGreatDoor.sp
theorem pairs_take {a : List Span} (b : List Span) {k : Nat} (h : k < a.length) : pairs (a.take (k + 1)) b = pairs (a.take k) b ++ pairs1 a[k] b := by
  unfold pairs
  rw [List.take_succ_eq_append_getElem h, List.flatMap_append]; simp
theorem pairs1_take (s : Span) {b : List Span} {j : Nat} (h : j < b.length) : pairs1 s (b.take (j + 1)) = pairs1 s (b.take j) ++ (meet2 s b[j]).toList := by
  unfold pairs1
  rw [List.take_succ_eq_append_getElem h, List.filterMap_append]
  cases h2 : meet2 s b[j] <;> simp [h2]
theorem wide_pairs {a b : List Span} (ha : wide a = true) : wide (pairs a b) = true := List.all_eq_true.2 fun u hu => by
  obtain ⟨s, hs, t, ht, h, rfl⟩ := mem_pairs.1 hu
  have h1 := okW_iff.1 (List.all_eq_true.1 ha s hs)
  exact okW_iff.2 ⟨by show 0 ≤ max s.1 t.1; omega, h, by show min s.2 t.2 ≤ _; omega⟩
end Go.Proofs.YtdjpkkppcdmdnaaGreatDoor.sp
namespace Go.Proofs.YtdjpkkppcdmdnaaGreatDoor
open Go.RowKit

set_option maxHeartbeats 4000000 in
set_option maxRecDepth 1000000 in
theorem cross_any (va vb : Value) (a b : List sp.Span) (w : World) (hra : RdS w va a) (hrb : RdS w vb b) (hva : sp.wide a = true) (hvb : sp.wide b = true) (hab : a.length * b.length ≤ 1000000) :
    Calls Tryz.prog 30 #[va, vb] w fun e w' => ∃ u, e = .returned u ∧ RdS w' u (sp.cross a b) ∧ Plain u ∧ (sp.cross a b).length ≤ a.length * b.length ∧ Below w.heap.size w w' := by
  have Hva := Lib.hid hva
  have Hvb := Lib.hid hvb
  have Hwp := Lib.hid (sp.wide_pairs (b := b) hva)
  have Hpl := Lib.hid (sp.pairs_len a b)
  obtain ⟨aa, acap, rfl, hal, hac⟩ := hra
  obtain ⟨ba, bcap, rfl, hbl, hbc⟩ := hrb
  have Hac := Lib.hid hac
  have Hbc := Lib.hid hbc
  clear hva hvb hac hbc
  obtain ⟨i0, hi, hz0, hz1, hz2⟩ := info_parts infoPair
  go_enter Tryz.func30, Tryz.ntmps30
  go_wp2
  go_loopw [4, 13] (fun u i wr => ∃ k : Nat, k ≤ a.length ∧ i = .int .i64 k ∧ wr.ownsRow w.heap.size 27 2 u (sp.pairs (a.take k) b).length (flatS (sp.pairs (a.take k) b)) ∧ Below w.heap.size w wr ∧ (sp.pairs (a.take k) b).length ≤ k * b.length) (fun _ i _ => a.length - (intOf i).toNat)
  case atStart => exact ⟨0, Nat.zero_le _, rfl, World.ownsRow_nil _ _ _ _, Below.refl _ _, Nat.zero_le _⟩
  case round =>
    obtain ⟨k, hk, rfl, hown, hbi, hle⟩ := hrel
    by_cases hlt : k < a.length
    · obtain ⟨wo, hwo⟩ : ∃ x, x = wr := ⟨wr, rfl⟩
      subst hwo
      obtain ⟨g, off, rfl, hcell⟩ := Hac.out (fun e => by rw [e] at hlt; simp at hlt)
      obtain ⟨c0, c1⟩ := hcell k hlt
      have c0 := kept hbi c0
      have c1 := kept hbi c1
      obtain ⟨o0, o1, o2⟩ := sp.okW_iff.1 (List.all_eq_true.1 Hva.out _ (List.getElem_mem hlt))
      have Hnx := Lib.hid (sp.pairs_take b hlt)
      have hkb : k * b.length + b.length ≤ 1000000 := by
        have : (k + 1) * b.length ≤ a.length * b.length := Nat.mul_le_mul_right _ hlt
        rw [Nat.add_mul] at this; omega
      generalize a[k] = s at *
      obtain ⟨p, q⟩ := s
      dsimp only at c0 c1 o0 o1 o2
      generalize hM1 : sp.pairs (a.take (k + 1)) b = M1 at *
      have HM1 := Lib.hid hM1
      generalize sp.pairs (a.take k) b = M at *
      clear hcell hM1
      obtain ⟨kb, hkb2⟩ : ∃ x, x = k * b.length := ⟨_, rfl⟩
      have Hkb := Lib.hid hkb2
      rw [← hkb2] at hkb hle
      clear hkb2
      go_wp2
      go_loopw [4, 19] (fun u i wr => ∃ j : Nat, j ≤ b.length ∧ i = .int .i64 j ∧ wr.ownsRow w.heap.size 27 2 u (M ++ sp.pairs1 (p, q) (b.take j)).length (flatS (M ++ sp.pairs1 (p, q) (b.take j))) ∧ Below w.heap.size w wr ∧ (wr.cell? ⟨wo.heap.size, 0, none⟩ = some (.int .i64 p) ∧ wr.cell? ⟨wo.heap.size, 1, none⟩ = some (.int .i64 q) ∧ u.ownBlock ≠ some wo.heap.size) ∧ (M ++ sp.pairs1 (p, q) (b.take j)).length ≤ kb + j) (fun _ i _ => b.length - (intOf i).toNat)
      case atStart => exact ⟨0, Nat.zero_le _, rfl, by simp only [List.take_zero, sp.pairs1, List.filterMap_nil, List.append_nil]; exact hown.alloc _, hbi.alloc hbi.size _, ⟨newCell wo _ 27 0 _ rfl, newCell wo _ 27 1 _ rfl, fun e => by have := (hown.lt _ e).2; omega⟩, by simpa [sp.pairs1] using hle⟩
      case round =>
        obtain ⟨j, hj, rfl, hown2, hbw, ⟨d0, d1, hnb⟩, hle2⟩ := hrel
        by_cases hlt2 : j < b.length
        · obtain ⟨g2, off2, rfl, hcell2⟩ := Hbc.out (fun e => by rw [e] at hlt2; simp at hlt2)
          obtain ⟨e0, e1⟩ := hcell2 j hlt2
          have e0 := kept hbw e0
          have e1 := kept hbw e1
          obtain ⟨r0, r1, r2⟩ := sp.okW_iff.1 (List.all_eq_true.1 Hvb.out _ (List.getElem_mem hlt2))
          have hnx2 := sp.pairs1_take (p, q) hlt2
          generalize b[j] = t at *
          obtain ⟨x, y⟩ := t
          dsimp only at e0 e1 r0 r1 r2
          generalize hN1 : sp.pairs1 (p, q) (b.take (j + 1)) = N1 at *
          have HN1 := Lib.hid hN1
          generalize hNN : M ++ sp.pairs1 (p, q) (b.take j) = N at *
          have HNN := Lib.hid hNN
          clear hcell2 hN1 hNN
          have hlt0 := cell_lt d0
          dsimp only at hlt0
          have d0 := keptA (.cells #[.int .i64 x, .int .i64 y] 27) d0
          have d1 := keptA (.cells #[.int .i64 x, .int .i64 y] 27) d1
          by_cases hpq : max p x ≤ min q y
          · have Hn2 := Lib.hid (show M ++ N1 = N ++ [(max p x, min q y)] by
              have : sp.meet2 (p, q) (x, y) = some (max p x, min q y) := if_pos hpq
              rw [hnx2, this, ← HNN.out, List.append_assoc]; rfl)
            clear hnx2
            go_wp2
            go_quiet (fail)
            go_wp2_with (at_builtin; refine wpList_append_own2 rfl (.tmp 36) (.tmp 40) 22 rfl w.heap.size 27 i0 (.agg #[.int .i64 0, .int .i64 0]) 2 16 Tryz.underlying22 hi hz0 hz1 hz2 rfl (by decide) _ _ _ rfl ((ownsRow_drewN (hown2.alloc _) _).alloc _) ⟨_, 0, none⟩ 1 1 [.int .i64 (max p x), .int .i64 (min q y)] rfl rfl (newsPair _ _ (by first | rfl | simp) _ _) (onePair _ _) (by unfold maxLen; omega) (by omega) (by have := hbw.size; simp; omega) (by decide) ?_)
            intro v' w3 hown3 hgrow3 hob
            have hb3 : Below w.heap.size w w3 := ((below_drewN (hbw.alloc hbw.size _) _).alloc (by have := hbw.size; simp; omega) _).grown hgrow3 (by have := hbw.size; simp; omega) (fun j hj => (hown2.lt j hj).1)
            have hbl := hgrow3.block wo.heap.size (by simp; omega) (fun e => hnb e.symm)
            have D03 := Lib.hid ((World.cell?_of_block hbl).trans (keptA _ d0))
            have D13 := Lib.hid ((World.cell?_of_block hbl).trans (keptA _ d1))
            have Hnb := Lib.hid (show v'.ownBlock ≠ some wo.heap.size from fun e => hob.elim (fun h => hnb (h ▸ e)) (fun h => absurd (h _ e) (Nat.not_le.2 (by omega))))
            have HB3 := Lib.hid hb3
            have Hown3 := Lib.hid hown3
            clear hgrow3 hown3 hb3 hown2 hob hbl
            go_wp2
            go_roundw
            case rel => exact ⟨j + 1, by omega, by go_num, by rw [HN1.out, Hn2.out, flatS_snoc, List.length_append]; exact Hown3.out, HB3.out, ⟨D03.out, D13.out, Hnb.out⟩, by rw [HN1.out, Hn2.out, List.length_append]; exact Nat.succ_le_succ hle2⟩
            case measure => simp [intOf]; omega
          · have Hn2 := Lib.hid (show M ++ N1 = N by
              have : sp.meet2 (p, q) (x, y) = none := if_neg hpq
              rw [hnx2, this, ← HNN.out]; simp)
            clear hnx2
            go_wp2
            go_quiet (fail)
            go_wp2
            go_roundw
            case rel => exact ⟨j + 1, by omega, by go_num, by rw [HN1.out, Hn2.out]; exact ownsRow_drewN (hown2.alloc _) _, below_drewN (hbw.alloc hbw.size _) _, ⟨d0, d1, hnb⟩, by rw [HN1.out, Hn2.out]; omega⟩
            case measure => simp [intOf]; omega
        · obtain rfl : j = b.length := by omega
          rw [List.take_length] at hown2 hle2
          have Hown2 := Lib.hid hown2
          have HBw := Lib.hid hbw
          have Hle2 := Lib.hid hle2
          clear hown2 hbw hle2 hown hbi hle d0 d1 hnb
          go_wp2
          go_roundw
          case rel => exact ⟨k + 1, by omega, by go_num, by rw [HM1.out, Hnx.out]; exact Hown2.out, HBw.out, by rw [HM1.out, Hnx.out, Nat.add_mul, Nat.one_mul, ← Hkb.out]; exact Hle2.out⟩
          case measure => simp [intOf]; omega
    · obtain rfl : k = a.length := by omega
      rw [List.take_length] at hown hle
      have hpl := Hpl.out
      have hre := rdS_owns hown (by omega)
      have hpo := plain_owns hown
      have HB := Lib.hid hbi
      have HC := Lib.hid (show sp.norm (sp.pairs a b) = sp.cross a b from rfl)
      go_wp2_with (go_at_call 22; refine (tidyW_any _ _ _ hre hpo Hwp.out (by omega)).mono ?_; rintro e w1 ⟨u, rfl, h1, h2, h3, h4⟩)
      have H1 := Lib.hid h1
      have H3 := Lib.hid h3
      have HB2 := Lib.hid (HB.out.trans (h4.mono HB.out.size))
      clear h1 h3 h4
      go_wp2
      go_ret
      exact ⟨u, rfl, by rw [← HC.out]; exact H1.out, h2, by rw [← HC.out]; exact Nat.le_trans H3.out hpl, HB2.out⟩

end Go.Proofs.YtdjpkkppcdmdnaaGreatDoor
