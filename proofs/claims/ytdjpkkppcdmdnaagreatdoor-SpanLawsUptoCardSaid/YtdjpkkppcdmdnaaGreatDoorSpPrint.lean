/- span.Print: spans as text. -/
import Derived.Test.YtdjpkkppcdmdnaaGreatDoorSpTidy
import Derived.Test.YtdjpkkppcdmdnaaGreatDoorLib
namespace Go.Proofs.YtdjpkkppcdmdnaaGreatDoor
open Go.RowKit

theorem errV4 : errV 4 = .iface 51 (.int .i64 4) := rfl
theorem itoaS (n : Int) (h : 0 ≤ n) : Lib.itoa n = Lib.decDigits n.toNat := by
  unfold Lib.itoa
  rw [if_neg (by omega)]
theorem joinC_lib : ∀ (ls : List (List UInt8)), sp.joinC ls = Lib.join ls [44]
  | [] => rfl
  | [p] => by simp [sp.joinC, Lib.join]
  | p :: q :: r => by
    have ih := joinC_lib (q :: r)
    simp [sp.joinC, Lib.join] at ih ⊢
    rw [ih]
def printS (l : List sp.Span) : List UInt8 := if sp.fault l = 0 then sp.showSpans (sp.norm l) else []

theorem infoStr2 : (Tryz.prog.info? 9).map (fun i => (i.zero, i.size, i.bytes)) = some (some (.string ⟨#[]⟩), 1, 16) := by kernel_rfl
theorem newsOne (w : World) (g : Nat) (hg : g = w.heap.size) (u : Value) : ∀ (j : Nat) x, ([u] : List Value)[j]? = some x → (w.alloc (.cells #[u] 9)).cell? ((⟨g, 0, none⟩ : Addr).add j) = some x := by
  intro j x hj
  subst hg
  match j, hj with
  | 0, hj => simp at hj; subst hj; exact newCell w _ 9 0 _ rfl
theorem oneStr (b : ByteArray) : ∀ u ∈ ([.string b] : List Value), u.oneCell' = true := by
  intro u hu; simp at hu; subst hu; rfl

set_option maxHeartbeats 4000000 in
set_option maxRecDepth 1000000 in
theorem spPrint_any (v : Value) (l : List sp.Span) (w : World) (hr : RdS w v l) (hpl : Plain v) (G : Glob w) :
    Calls Tryz.prog 7 #[v] w fun e w' => e = .returned (.tuple #[strV (printS l), errV (sp.fault l)]) ∧ Below w.heap.size w w' := by
  have hck := spCheck_any v l w hr
  by_cases hf : sp.fault l = 0
  · obtain ⟨hn, hv⟩ := sp.fault_zero.1 hf
    have hres : printS l = sp.showSpans (sp.norm l) := if_pos hf
    rw [hres, hf, errV0]
    rw [hf, errV0] at hck
    clear hres hf
    obtain ⟨i0, hi, hz0, hz1, hz2⟩ := info_parts infoStr2
    have Hr := Lib.hid hr
    have Hpl := Lib.hid hpl
    have Hv := Lib.hid hv
    have HG := Lib.hid G
    clear hr hpl hv G
    go_enter Tryz.func7, Tryz.ntmps7
    go_wp2_with fail
    refine hck.mono ?_
    rintro e w0 ⟨rfl, hb0⟩
    have hsz0 := hb0.size
    have HB0 := Lib.hid hb0
    go_wp2_with fail
    refine (tidy_any v l w0 (Hr.out.below HB0.out) Hpl.out Hv.out (by omega)).mono ?_
    rintro e w1 ⟨u, rfl, hrd, hpl1, hnl, hb1⟩
    have HB1 := Lib.hid (HB0.out.trans (hb1.mono hsz0))
    have HG1 := Lib.hid (HG.out.below HB1.out)
    have hvN := sp.norm_valid Hv.out
    generalize hN : sp.norm l = N at *
    have HN := Lib.hid hN
    clear hN
    have HvN := Lib.hid hvN
    obtain ⟨oa, ocap, rfl, hol2, hoc⟩ := hrd
    have Hoc := Lib.hid hoc
    clear hb0 hb1 hpl1 hoc hvN hck
    go_wp2
    go_loopw [5, 17] (fun a i wr => ∃ k : Nat, k ≤ N.length ∧ i = .int .i64 k ∧ wr.ownsRow w1.heap.size 9 1 a k (((N.take k).map sp.showSpan).map strV) ∧ Below w1.heap.size w1 wr) (fun _ i _ => N.length - (intOf i).toNat)
    case atStart => exact ⟨0, Nat.zero_le _, rfl, World.ownsRow_nil _ _ _ _, Below.refl _ _⟩
    case round =>
      obtain ⟨k, hk, rfl, hown, hbi⟩ := hrel
      by_cases hlt : k < N.length
      · obtain ⟨g, off, rfl, hcell⟩ := Hoc.out (fun e => by rw [e] at hlt; simp at hlt)
        obtain ⟨c0, c1⟩ := hcell k hlt
        have c0 := kept hbi c0
        have c1 := kept hbi c1
        obtain ⟨o0, o1, o2⟩ := sp.okS_iff'.1 (List.all_eq_true.1 HvN.out _ (List.getElem_mem hlt))
        have Hnx := Lib.hid (show (((N.take (k + 1)).map sp.showSpan).map strV) = ((N.take k).map sp.showSpan).map strV ++ [strV (sp.showSpan N[k])] by
          rw [List.take_succ_eq_append_getElem hlt, List.map_append, List.map_append]; rfl)
        generalize ((N.take k).map sp.showSpan).map strV = D at *
        have hss : sp.showSpan N[k] = Lib.decDigits N[k].1.toNat ++ (if N[k].1 < N[k].2 then 45 :: Lib.decDigits N[k].2.toNat else []) := rfl
        generalize sp.showSpan N[k] = S at *
        generalize N[k].1 = x at *
        generalize N[k].2 = y at *
        have hdx := dec_len x.toNat (by omega)
        have hdy := dec_len y.toNat (by omega)
        generalize hX : Lib.decDigits x.toNat = X at *
        generalize hY : Lib.decDigits y.toNat = Y at *
        have HX := Lib.hid hX
        have HY := Lib.hid hY
        have HS := Lib.hid hss
        clear hss hX hY hcell
        have hbb := hbi.alloc hbi.size (.cells #[.int .i64 x, .int .i64 y] 27)
        have HBi := Lib.hid hbb
        have HGa := Lib.hid (HG1.out.below hbb)
        have hownA := hown.alloc (.cells #[.int .i64 x, .int .i64 y] 27)
        have hszi := hbi.size
        have hszA : w1.heap.size ≤ (wr.alloc (.cells #[.int .i64 x, .int .i64 y] 27)).heap.size := hbb.size
        have HszA := Lib.hid hszA
        clear hbi hbb hown hszA
        by_cases hxy : x < y
        · have hfin := Lib.hid (show S = X ++ 45 :: Y by rw [HS.out, if_pos hxy])
          obtain ⟨Q1, e1⟩ : ∃ q, q = 45 :: Y := ⟨_, rfl⟩
          obtain ⟨Q2, e2⟩ : ∃ q, q = X ++ Q1 := ⟨_, rfl⟩
          have l1 : Q1.length = Y.length + 1 := by rw [e1]; rfl
          have a1 : ∀ w, (binOp .add 9 (.string ⟨#[45]⟩) (strV Y)).run Tryz.prog w = .ok (strV Q1) w := fun w => e1 ▸ strAdd 9 [45] Y (by simp only [List.length_cons, List.length_nil]; omega) w
          have a2 : ∀ w, (binOp .add 9 (strV X) (strV Q1)).run Tryz.prog w = .ok (.string ⟨Q2.toArray⟩) w := fun w => e2 ▸ strAdd 9 X Q1 (by omega) w
          have HQ := Lib.hid (show Q2 = S by rw [hfin.out, e2, e1])
          clear e1 e2 l1
          go_wp2_with fail
          refine (itoa_any x (by omega) (by omega) _ HGa.out).mono ?_
          rintro e w2 ⟨rfl, hb2⟩
          rw [itoaS x (by omega), HX.out]
          have b0 := kept hb2 (newCell wr #[.int .i64 x, .int .i64 y] 27 0 _ rfl)
          have b1 := kept hb2 (newCell wr #[.int .i64 x, .int .i64 y] 27 1 _ rfl)
          have HB2 := Lib.hid (HBi.out.trans (hb2.mono HszA.out))
          have HG2 := Lib.hid (HGa.out.below hb2)
          have hown2 := ownsRow_below hownA hb2
          clear hb2 hownA
          go_wp2_with fail
          refine (itoa_any y (by omega) (by omega) _ HG2.out).mono ?_
          rintro e w3 ⟨rfl, hb3⟩
          rw [itoaS y (by omega), HY.out]
          have HB3 := Lib.hid (HB2.out.trans (hb3.mono HB2.out.size))
          have hown3 := ownsRow_below hown2 hb3
          clear hb3 hown2 b0 b1
          go_wp2_with (at_builtin; refine wpList_append_own _ rfl (.tmp 35) (.tmp 37) 45 rfl w1.heap.size 9 i0 (.string ⟨#[]⟩) 1 16 Tryz.underlying45 hi hz0 hz1 hz2 rfl (by decide) _ _ _ rfl (hown3.alloc _) ⟨_, 0, none⟩ 1 1 [.string ⟨Q2.toArray⟩] rfl rfl (newsOne _ _ (by first | rfl | simp) _) (oneStr _) (by unfold maxLen; omega) (by omega) (by have := HB3.out.size; simp; omega) ?_)
          intro v' w4 hown4 hgrow4 _
          have hb4 : Below w1.heap.size w1 w4 := (HB3.out.alloc HB3.out.size _).grown hgrow4 (by have := HB3.out.size; simp; omega) (fun j hj => (hown3.lt j hj).1)
          have HB4 := Lib.hid hb4
          have Hown4 := Lib.hid hown4
          clear hgrow4 hown4 hb4 hown3
          go_wp2
          go_roundw
          case rel => exact ⟨k + 1, by omega, by go_num, by rw [Hnx.out, ← HQ.out]; exact Hown4.out, HB4.out⟩
          case measure => simp [intOf]; omega
        · have hfin := Lib.hid (show S = X by rw [HS.out, if_neg hxy, List.append_nil])
          have HQ := Lib.hid (show X = S from hfin.out.symm)
          go_wp2_with fail
          refine (itoa_any x (by omega) (by omega) _ HGa.out).mono ?_
          rintro e w3 ⟨rfl, hb3⟩
          rw [itoaS x (by omega), HX.out, strV_def]
          have b0 := kept hb3 (newCell wr #[.int .i64 x, .int .i64 y] 27 0 _ rfl)
          have b1 := kept hb3 (newCell wr #[.int .i64 x, .int .i64 y] 27 1 _ rfl)
          have HB3 := Lib.hid (HBi.out.trans (hb3.mono HszA.out))
          have hown3 := ownsRow_below hownA hb3
          clear hb3 hownA
          go_wp2_with (at_builtin; refine wpList_append_own _ rfl (.tmp 35) (.tmp 37) 45 rfl w1.heap.size 9 i0 (.string ⟨#[]⟩) 1 16 Tryz.underlying45 hi hz0 hz1 hz2 rfl (by decide) _ _ _ rfl (hown3.alloc _) ⟨_, 0, none⟩ 1 1 [.string ⟨X.toArray⟩] rfl rfl (newsOne _ _ (by first | rfl | simp) _) (oneStr _) (by unfold maxLen; omega) (by omega) (by have := HB3.out.size; simp; omega) ?_)
          intro v' w4 hown4 hgrow4 _
          have hb4 : Below w1.heap.size w1 w4 := (HB3.out.alloc HB3.out.size _).grown hgrow4 (by have := HB3.out.size; simp; omega) (fun j hj => (hown3.lt j hj).1)
          have HB4 := Lib.hid hb4
          have Hown4 := Lib.hid hown4
          clear hgrow4 hown4 hb4 hown3
          go_wp2
          go_roundw
          case rel => exact ⟨k + 1, by omega, by go_num, by rw [Hnx.out, ← HQ.out]; exact Hown4.out, HB4.out⟩
          case measure => simp [intOf]; omega
      · obtain rfl : k = N.length := by omega
        rw [List.take_length] at hown
        have HB3 := Lib.hid (HB1.out.trans (hbi.mono HB1.out.size))
        clear hbi
        by_cases hNe : N = []
        · have Hfin := Lib.hid (show sp.showSpans N = [45] from if_pos hNe)
          have h0 : N.length = 0 := by rw [hNe]; rfl
          obtain ⟨ua, uc, rfl⟩ : ∃ ua uc, u5 = .slice ua N.length uc := by
            rcases hown.2 with ⟨h1, h2⟩ | ⟨g, cap, cur, h1, _⟩
            · exact ⟨none, 0, by rw [h0]; exact h1⟩
            · exact ⟨_, cap, h1⟩
          rw [h0]
          clear hown
          go_wp2
          go_ret2
          exact ⟨by rw [HN.out, Hfin.out]; rfl, HB3.out⟩
        · have hrow : RowOf wr w1.heap.size u5 (N.map sp.showSpan) := rowOf_owns (by rw [List.length_map]; exact hown) (by simpa using hNe)
          have hjl : sp.joinC (N.map sp.showSpan) = Lib.join (N.map sp.showSpan) [44] := joinC_lib _
          have hlen := preS_len N HvN.out N.length (Nat.le_refl _)
          unfold preS at hlen
          rw [List.take_length] at hlen
          have hj := join_any (N.map sp.showSpan) 44 wr w1.heap.size u5 hrow (by rw [List.length_map]; omega) (by rw [← hjl]; omega)
          rw [← hjl] at hj
          have Hfin := Lib.hid (show sp.showSpans N = sp.joinC (N.map sp.showSpan) from if_neg hNe)
          obtain ⟨g5, c5, rfl, _⟩ := hrow
          rw [List.length_map] at hj ⊢
          have hpos : 0 < N.length := List.length_pos_iff.2 hNe
          have hz : ((N.length : Int) == 0) = false := beq_eq_false_iff_ne.2 (by omega)
          generalize sp.joinC (N.map sp.showSpan) = J at *
          clear hown hjl hlen hNe
          go_wp2_with fail
          refine hj.mono ?_
          rintro e w4 ⟨rfl, hb4⟩
          have HB4 := Lib.hid (HB3.out.trans (hb4.mono HB3.out.size))
          clear hb4
          go_wp2
          go_ret2
          exact ⟨by rw [HN.out, Hfin.out]; rfl, HB4.out⟩
  · have hres : printS l = [] := if_neg hf
    have hc : sp.fault l = 1 ∨ sp.fault l = 4 := by unfold sp.fault at hf ⊢; split <;> simp_all
    rw [hres]
    clear hr hpl G hres hf
    rcases hc with hc | hc
    all_goals
      rw [hc] at hck ⊢
      clear hc
      try rw [errV1] at hck ⊢
      try rw [errV4] at hck ⊢
      go_enter Tryz.func7, Tryz.ntmps7
      go_wp2_with fail
      refine hck.mono ?_
      rintro e w0 ⟨rfl, hb0⟩
      have HB0 := Lib.hid hb0
      clear hb0
      go_wp2
      go_ret2
      exact ⟨rfl, HB0.out⟩

end Go.Proofs.YtdjpkkppcdmdnaaGreatDoor
