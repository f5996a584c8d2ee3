/- addr.ParsePrefix: the prefix of a text. -/
import Derived.Test.YtjefehphfaamcaaGreatDoorPars2L
namespace Go.Proofs.YtjefehphfaamcaaGreatDoor
open Go.RowKit

theorem parsePrefix_anyT (l : List UInt8) (w : World) (he : l = tx.anyT) :
    Calls Tryz.prog 15 #[strV l] w fun e w' => e = .returned (parsePV (tx.readPrefix l)) ∧ Below w.heap.size w w' := by
  subst he
  go_enter Tryz.func15, Tryz.ntmps15
  have hx : strV tx.anyT = .string ⟨#[97, 110, 121]⟩ := rfl
  rw [hx]
  go_wp2
  exact bodyPost_ret (v := .tuple #[.agg #[.int .i64 0, .int .i64 0], .nilIface]) (by simp [results, Tryz.results15, go_sem]) rfl ⟨rfl, (Below.refl _ _).alloc (Nat.le_refl _) _⟩

/-- a store behind the variables leaves them as they are -/
theorem setG {w : World} (G : Glob w) {a : Addr} (h : gTop ≤ a.block) (v : Value) : Glob (w.setCell a v) := by
  have ne : ∀ k, k < gTop → a.block ≠ k := fun k hk e => by omega
  have c : ∀ k u, k < gTop → w.cell? ⟨k, 0, none⟩ = some u → (w.setCell a v).cell? ⟨k, 0, none⟩ = some u := fun k u hk hu => (World.cell?_setCell_other _ _ _ _ (fun e => ne k hk (congrArg Addr.block e))).trans hu
  refine ⟨c _ _ (by decide) G.err, G.max.imp fun _ k => c _ _ (by decide) k, ?_, G.syn.imp fun _ k => k.imp fun _ k => c _ _ (by decide) k, G.rng.imp fun _ k => k.imp fun _ k => c _ _ (by decide) k⟩
  have hg : Tryz.prog.globalNamed "internal/strconv.uint64pow10" = some 4 := by kernel_rfl
  have ht := G.tab
  unfold Lib.TabIs World.var? at ht ⊢
  rw [hg] at ht ⊢
  simp only [Option.bind_some] at ht ⊢
  rw [Below.heap_setCell w a v _ (fun e => ne 4 (by decide) e.symm)]
  exact ht
theorem goRes_yes {a : Nat} {v : Int} (h : v ≠ 0) (hF : tx.pfault (a : Int) v = 0) : goRes (some a) (some v) = some (a, v.toNat) := by
  show (if v ≠ 0 ∧ tx.pfault (a : Int) v = 0 then some (a, v.toNat) else none) = _
  rw [if_pos ⟨h, hF⟩]
theorem goRes_no {a : Nat} {v : Int} (h : v = 0 ∨ tx.pfault (a : Int) v ≠ 0) : goRes (some a) (some v) = none := by
  show (if v ≠ 0 ∧ tx.pfault (a : Int) v = 0 then some (a, v.toNat) else none) = _
  rw [if_neg fun x => h.elim x.1 fun y => y x.2]
theorem parsePV_some (a : Nat) (v : Int) (h : 0 ≤ v) : parsePV (some (a, v.toNat)) = .tuple #[.agg #[.int .i64 a, .int .i64 v], .nilIface] := by
  show Value.tuple #[.agg #[.int .i64 a, .int .i64 (v.toNat : Int)], .nilIface] = _
  rw [Int.toNat_of_nonneg h]

set_option maxHeartbeats 4000000 in
set_option maxRecDepth 1000000 in
theorem parsePrefix_plain (l : List UInt8) (w : World) (he : l ≠ tx.anyT) (hs : l.length < 4294967281) (G : Glob w) (hsl : (47 : UInt8) ∉ l) :
    Calls Tryz.prog 15 #[strV l] w fun e w' => e = .returned (parsePV (tx.readPrefix l)) ∧ Below w.heap.size w w' := by
  have heq : (l == [97, 110, 121]) = false := beq_eq_false_iff_ne.2 he
  have B0 := ((Below.refl w.heap.size w).alloc (Nat.le_refl _) (.cells #[.int .i64 0, .int .i64 0] 23)).alloc (by simp) (.cells #[.int .i64 0, .int .i64 32] 23)
  have H0 : PR ((w.alloc (.cells #[.int .i64 0, .int .i64 0] 23)).alloc (.cells #[.int .i64 0, .int .i64 32] 23)) w.heap.size (w.heap.size + 1) 0 32 :=
    ⟨by simp, by simp, by simp, by simp, by simp, by simp, by simp, by simp⟩
  have hne : w.heap.size + 1 ≠ w.heap.size := by omega
  have HG0 := Lib.hid (G.below B0)
  have B0 := Lib.hid B0
  have H0 := Lib.hid H0
  have Hne := Lib.hid hne
  have HG0sz := Lib.hid (G.top)
  clear G hne
  have hres := readP_plain hsl he
  have hcut := fun w G => cutLib_any l 47 hs w G
  have hpar := fun w G => parse_any l w hs G
  rw [tx.cut_free 47 l hsl] at hcut
  generalize tx.readPrefix l = R at *
  generalize tx.readAddr l = ra at *
  have Hres := Lib.hid hres
  clear hres hsl he
  cases ra with
  | none =>
    have hpar : ∀ w (_ : Glob w), Calls Tryz.prog 9 #[strV l] w fun e w' => e = .returned (.tuple #[.int .i64 0, .iface 44 (.int .i64 2)]) ∧ Below w.heap.size w w' := hpar
    have hfin : parsePV R = .tuple #[.agg #[.int .i64 0, .int .i64 0], .iface 44 (.int .i64 2)] := by rw [Hres.out]; rfl
    have Hfin := Lib.hid hfin
    clear hfin
    go_enter Tryz.func15, Tryz.ntmps15
    have hx : strV l = .string ⟨l.toArray⟩ := rfl
    rw [hx]
    clear hx
    go_wp2_with fail
    refine (hcut _ HG0.out).mono ?_
    rintro e w1 ⟨rfl, hb⟩
    simp only [strV_def]
    have H1 := Lib.hid (H0.out.below hb)
    have HG1 := Lib.hid (HG0.out.below hb)
    have B1 := Lib.hid (B0.out.trans (hb.mono B0.out.size))
    clear hb
    go_wp2_with fail
    refine (hpar _ HG1.out).mono ?_
    rintro e w2 ⟨rfl, hb⟩
    have H2 := Lib.hid (H1.out.below hb)
    have HG2 := Lib.hid (HG1.out.below hb)
    have B2 := Lib.hid (B1.out.trans (hb.mono B1.out.size))
    clear hb
    have q0 := H2.out.r0
    have q1 := H2.out.r1
    have q2 := H2.out.p0
    have q3 := H2.out.p1
    have q4 := H2.out.f0
    have q5 := H2.out.f1
    have q6 := H2.out.g0
    have q7 := H2.out.g1
    have H3 := Lib.hid (H2.out.set0 Hne.out 0)
    have B3 := Lib.hid (B2.out.setCell (p := ⟨w.heap.size + 1, 0, none⟩) (Nat.le_succ _) (.int .i64 0))
    go_wp2
    refine bodyPost_ret (v := .tuple #[.agg #[.int .i64 0, .int .i64 0], .iface 44 (.int .i64 2)]) ?_ rfl ?_
    · have m1 : (((w2.setCell ⟨w.heap.size + 1, 0, none⟩ (.int .i64 0)).setCell ⟨w.heap.size, 0, none⟩ (.int .i64 0)).setCell ⟨w.heap.size, 1, none⟩ (.int .i64 0)).cell? ⟨w.heap.size, 1, none⟩ = some (.int .i64 0) := World.cell?_setCell_same _ _ _ ((World.cell?_setCell_other _ _ _ _ (by simp)).trans H3.out.r1)
      have m0 : (((w2.setCell ⟨w.heap.size + 1, 0, none⟩ (.int .i64 0)).setCell ⟨w.heap.size, 0, none⟩ (.int .i64 0)).setCell ⟨w.heap.size, 1, none⟩ (.int .i64 0)).cell? ⟨w.heap.size, 0, none⟩ = some (.int .i64 0) := (World.cell?_setCell_other _ _ _ _ (by simp)).trans (World.cell?_setCell_same _ _ _ H3.out.r0)
      simp [results, Tryz.results15, go_sem, m0, m1]
    · refine ⟨?_, (B3.out.setCell (Nat.le_refl _) _).setCell (Nat.le_refl _) _⟩
      rw [Hfin.out]
  | some a =>
    have hpar : ∀ w (_ : Glob w), Calls Tryz.prog 9 #[strV l] w fun e w' => e = .returned (.tuple #[.int .i64 a, .nilIface]) ∧ Below w.heap.size w w' := hpar
    have hC := fun w => check_any (a : Int) 32 w
    by_cases hF : tx.pfault (a : Int) 32 = 0
    · have hfin : parsePV R = .tuple #[.agg #[.int .i64 a, .int .i64 32], .nilIface] := by rw [Hres.out]; rw [goRes_yes (by decide) hF]; rfl
      rw [hF, errV0] at hC
      have Hfin := Lib.hid hfin
      clear hfin hF
      go_enter Tryz.func15, Tryz.ntmps15
      have hx : strV l = .string ⟨l.toArray⟩ := rfl
      rw [hx]
      clear hx
      go_wp2_with fail
      refine (hcut _ HG0.out).mono ?_
      rintro e w1 ⟨rfl, hb⟩
      simp only [strV_def]
      have H1 := Lib.hid (H0.out.below hb)
      have HG1 := Lib.hid (HG0.out.below hb)
      have B1 := Lib.hid (B0.out.trans (hb.mono B0.out.size))
      clear hb
      go_wp2_with fail
      refine (hpar _ HG1.out).mono ?_
      rintro e w2 ⟨rfl, hb⟩
      have H2 := Lib.hid (H1.out.below hb)
      have HG2 := Lib.hid (HG1.out.below hb)
      have B2 := Lib.hid (B1.out.trans (hb.mono B1.out.size))
      clear hb
      have q0 := H2.out.r0
      have q1 := H2.out.r1
      have q2 := H2.out.p0
      have q3 := H2.out.p1
      have q4 := H2.out.f0
      have q5 := H2.out.f1
      have q6 := H2.out.g0
      have q7 := H2.out.g1
      have H3 := Lib.hid (H2.out.set0 Hne.out a)
      have B3 := Lib.hid (B2.out.setCell (p := ⟨w.heap.size + 1, 0, none⟩) (Nat.le_succ _) (.int .i64 a))
      go_wp2_with fail
      clear q0 q1 q2 q3 q4 q5 q6 q7
      refine (hC _).mono ?_
      rintro e w4 ⟨rfl, hb⟩
      have H4 := Lib.hid (H3.out.below hb)
      have B4 := Lib.hid (B3.out.trans (hb.mono B3.out.size))
      clear hb
      have q0 := H4.out.r0
      have q1 := H4.out.r1
      have q2 := H4.out.p0
      have q3 := H4.out.p1
      have q4 := H4.out.f0
      have q5 := H4.out.f1
      have q6 := H4.out.g0
      have q7 := H4.out.g1
      go_wp2
      refine bodyPost_ret (v := .tuple #[.agg #[.int .i64 a, .int .i64 32], .nilIface]) ?_ rfl ?_
      · have m1 : ((w4.setCell ⟨w.heap.size, 0, none⟩ (.int .i64 a)).setCell ⟨w.heap.size, 1, none⟩ (.int .i64 32)).cell? ⟨w.heap.size, 1, none⟩ = some (.int .i64 32) := World.cell?_setCell_same _ _ _ ((World.cell?_setCell_other _ _ _ _ (by simp)).trans H4.out.r1)
        have m0 : ((w4.setCell ⟨w.heap.size, 0, none⟩ (.int .i64 a)).setCell ⟨w.heap.size, 1, none⟩ (.int .i64 32)).cell? ⟨w.heap.size, 0, none⟩ = some (.int .i64 a) := (World.cell?_setCell_other _ _ _ _ (by simp)).trans (World.cell?_setCell_same _ _ _ H4.out.r0)
        simp [results, Tryz.results15, go_sem, m0, m1]
      · refine ⟨?_, (B4.out.setCell (Nat.le_refl _) _).setCell (Nat.le_refl _) _⟩
        rw [Hfin.out]
    · have hfin : parsePV R = .tuple #[.agg #[.int .i64 0, .int .i64 0], .iface 44 (.int .i64 2)] := by rw [Hres.out]; rw [goRes_no (Or.inr hF)]; rfl
      have he : errV (tx.pfault (a : Int) 32) = .iface 44 (.int .i64 (tx.pfault (a : Int) 32)) := by unfold errV; rw [if_neg hF]
      rw [he] at hC
      generalize tx.pfault (a : Int) 32 = F at *
      have Hfin := Lib.hid hfin
      clear hfin hF he
      go_enter Tryz.func15, Tryz.ntmps15
      have hx : strV l = .string ⟨l.toArray⟩ := rfl
      rw [hx]
      clear hx
      go_wp2_with fail
      refine (hcut _ HG0.out).mono ?_
      rintro e w1 ⟨rfl, hb⟩
      simp only [strV_def]
      have H1 := Lib.hid (H0.out.below hb)
      have HG1 := Lib.hid (HG0.out.below hb)
      have B1 := Lib.hid (B0.out.trans (hb.mono B0.out.size))
      clear hb
      go_wp2_with fail
      refine (hpar _ HG1.out).mono ?_
      rintro e w2 ⟨rfl, hb⟩
      have H2 := Lib.hid (H1.out.below hb)
      have HG2 := Lib.hid (HG1.out.below hb)
      have B2 := Lib.hid (B1.out.trans (hb.mono B1.out.size))
      clear hb
      have q0 := H2.out.r0
      have q1 := H2.out.r1
      have q2 := H2.out.p0
      have q3 := H2.out.p1
      have q4 := H2.out.f0
      have q5 := H2.out.f1
      have q6 := H2.out.g0
      have q7 := H2.out.g1
      have H3 := Lib.hid (H2.out.set0 Hne.out a)
      have B3 := Lib.hid (B2.out.setCell (p := ⟨w.heap.size + 1, 0, none⟩) (Nat.le_succ _) (.int .i64 a))
      go_wp2_with fail
      clear q0 q1 q2 q3 q4 q5 q6 q7
      refine (hC _).mono ?_
      rintro e w4 ⟨rfl, hb⟩
      have H4 := Lib.hid (H3.out.below hb)
      have B4 := Lib.hid (B3.out.trans (hb.mono B3.out.size))
      clear hb
      have q0 := H4.out.r0
      have q1 := H4.out.r1
      have q2 := H4.out.p0
      have q3 := H4.out.p1
      have q4 := H4.out.f0
      have q5 := H4.out.f1
      have q6 := H4.out.g0
      have q7 := H4.out.g1
      go_wp2
      refine bodyPost_ret (v := .tuple #[.agg #[.int .i64 0, .int .i64 0], .iface 44 (.int .i64 2)]) ?_ rfl ?_
      · have m1 : ((w4.setCell ⟨w.heap.size, 0, none⟩ (.int .i64 0)).setCell ⟨w.heap.size, 1, none⟩ (.int .i64 0)).cell? ⟨w.heap.size, 1, none⟩ = some (.int .i64 0) := World.cell?_setCell_same _ _ _ ((World.cell?_setCell_other _ _ _ _ (by simp)).trans H4.out.r1)
        have m0 : ((w4.setCell ⟨w.heap.size, 0, none⟩ (.int .i64 0)).setCell ⟨w.heap.size, 1, none⟩ (.int .i64 0)).cell? ⟨w.heap.size, 0, none⟩ = some (.int .i64 0) := (World.cell?_setCell_other _ _ _ _ (by simp)).trans (World.cell?_setCell_same _ _ _ H4.out.r0)
        simp [results, Tryz.results15, go_sem, m0, m1]
      · refine ⟨?_, (B4.out.setCell (Nat.le_refl _) _).setCell (Nat.le_refl _) _⟩
        rw [Hfin.out]

set_option maxHeartbeats 4000000 in
set_option maxRecDepth 1000000 in
theorem parsePrefix_cut (l : List UInt8) (w : World) (he : l ≠ tx.anyT) (hs : l.length < 4294967281) (G : Glob w) (p r : List UInt8) (hp : (47 : UInt8) ∉ p) (hl : l = p ++ 47 :: r) :
    Calls Tryz.prog 15 #[strV l] w fun e w' => e = .returned (parsePV (tx.readPrefix l)) ∧ Below w.heap.size w w' := by
  have heq : (l == [97, 110, 121]) = false := beq_eq_false_iff_ne.2 he
  have B0 := ((Below.refl w.heap.size w).alloc (Nat.le_refl _) (.cells #[.int .i64 0, .int .i64 0] 23)).alloc (by simp) (.cells #[.int .i64 0, .int .i64 32] 23)
  have H0 : PR ((w.alloc (.cells #[.int .i64 0, .int .i64 0] 23)).alloc (.cells #[.int .i64 0, .int .i64 32] 23)) w.heap.size (w.heap.size + 1) 0 32 :=
    ⟨by simp, by simp, by simp, by simp, by simp, by simp, by simp, by simp⟩
  have hne : w.heap.size + 1 ≠ w.heap.size := by omega
  have HG0 := Lib.hid (G.below B0)
  have B0 := Lib.hid B0
  have H0 := Lib.hid H0
  have Hne := Lib.hid hne
  have HG0sz := Lib.hid (G.top)
  clear G hne
  have hres := readP_cut (p := p) (r := r) hp (by rw [← hl]; exact he)
  rw [← hl] at hres
  have hcut := fun w G => cutLib_any l 47 hs w G
  have hc2 : Lib.cut l [47] = (p, r, true) := by
    obtain ⟨p', r', e1, e2, e3⟩ := tx.cut_hit 47 l (by rw [hl]; simp)
    rw [e3]
    have : p' = p ∧ r' = r := by
      have h1 := tx.cutF_app 47 r' p' e2
      have h2 := tx.cutF_app 47 r p hp
      rw [← e1, hl, h2] at h1
      injection h1 with h3 h4
      subst h3
      rw [hl] at e1
      have := List.append_cancel_left e1
      injection this with _ h5
      exact ⟨rfl, h5.symm⟩
    rw [this.1, this.2]
  rw [hc2] at hcut
  have hlp : p.length < 4294967281 := by rw [hl] at hs; simp at hs; omega
  have hlr : r.length < 4294967281 := by rw [hl] at hs; simp at hs; omega
  have hpar := fun w G => parse_any p w hlp G
  generalize tx.readPrefix l = R at *
  generalize tx.readAddr p = ra at *
  have Hres := Lib.hid hres
  have Hlr := Lib.hid hlr
  clear hres hp hl he hc2 hlr hlp hs
  by_cases hok : ∃ v, Lib.atoiAll r = .ok v
  · obtain ⟨v, hv⟩ := hok
    have hA := fun w => atoi_ok r Hlr.out v hv w
    have hbd := Lib.atoiAll_bounds hv
    have Hv := Lib.hid hv
    clear hv
    cases ra with
    | none =>
      have hpar : ∀ w (_ : Glob w), Calls Tryz.prog 9 #[strV p] w fun e w' => e = .returned (.tuple #[.int .i64 0, .iface 44 (.int .i64 2)]) ∧ Below w.heap.size w w' := hpar
      have hfin : parsePV R = .tuple #[.agg #[.int .i64 0, .int .i64 0], .iface 44 (.int .i64 2)] := by rw [Hres.out]; rfl
      have Hfin := Lib.hid hfin
      clear hfin
      go_enter Tryz.func15, Tryz.ntmps15
      have hx : strV l = .string ⟨l.toArray⟩ := rfl
      rw [hx]
      clear hx
      go_wp2_with fail
      refine (hcut _ HG0.out).mono ?_
      rintro e w1 ⟨rfl, hb⟩
      simp only [strV_def]
      have H1 := Lib.hid (H0.out.below hb)
      have HG1 := Lib.hid (HG0.out.below hb)
      have B1 := Lib.hid (B0.out.trans (hb.mono B0.out.size))
      clear hb
      go_wp2_with fail
      refine (hpar _ HG1.out).mono ?_
      rintro e w2 ⟨rfl, hb⟩
      have H2 := Lib.hid (H1.out.below hb)
      have HG2 := Lib.hid (HG1.out.below hb)
      have B2 := Lib.hid (B1.out.trans (hb.mono B1.out.size))
      clear hb
      have q0 := H2.out.r0
      have q1 := H2.out.r1
      have q2 := H2.out.p0
      have q3 := H2.out.p1
      have q4 := H2.out.f0
      have q5 := H2.out.f1
      have q6 := H2.out.g0
      have q7 := H2.out.g1
      have H3 := Lib.hid (H2.out.set0 Hne.out 0)
      have B3 := Lib.hid (B2.out.setCell (p := ⟨w.heap.size + 1, 0, none⟩) (Nat.le_succ _) (.int .i64 0))
      have HG3 := Lib.hid (setG HG2.out (a := ⟨w.heap.size + 1, 0, none⟩) (Nat.le_succ_of_le HG0sz.out) (.int .i64 0))
      go_wp2_with fail
      refine (hA _).mono ?_
      rintro e w5 ⟨rfl, hb⟩
      clear q0 q1 q2 q3 q4 q5 q6 q7
      have H5 := Lib.hid (H3.out.below hb)
      have HG5 := Lib.hid (HG3.out.below hb)
      have B5 := Lib.hid (B3.out.trans (hb.mono B3.out.size))
      clear hb
      have q0 := H5.out.r0
      have q1 := H5.out.r1
      have q2 := H5.out.p0
      have q3 := H5.out.p1
      have q4 := H5.out.f0
      have q5 := H5.out.f1
      have q6 := H5.out.g0
      have q7 := H5.out.g1
      have H6 := Lib.hid (H5.out.set1 Hne.out v)
      have B6 := Lib.hid (B5.out.setCell (p := ⟨w.heap.size + 1, 1, none⟩) (Nat.le_succ _) (.int .i64 v))
      have HG6 := Lib.hid (setG HG5.out (a := ⟨w.heap.size + 1, 1, none⟩) (Nat.le_succ_of_le HG0sz.out) (.int .i64 v))
      go_wp2
      refine bodyPost_ret (v := .tuple #[.agg #[.int .i64 0, .int .i64 0], .iface 44 (.int .i64 2)]) ?_ rfl ?_
      · have m1 : (((w5.setCell ⟨w.heap.size + 1, 1, none⟩ (.int .i64 v)).setCell ⟨w.heap.size, 0, none⟩ (.int .i64 0)).setCell ⟨w.heap.size, 1, none⟩ (.int .i64 0)).cell? ⟨w.heap.size, 1, none⟩ = some (.int .i64 0) := World.cell?_setCell_same _ _ _ ((World.cell?_setCell_other _ _ _ _ (by simp)).trans H6.out.r1)
        have m0 : (((w5.setCell ⟨w.heap.size + 1, 1, none⟩ (.int .i64 v)).setCell ⟨w.heap.size, 0, none⟩ (.int .i64 0)).setCell ⟨w.heap.size, 1, none⟩ (.int .i64 0)).cell? ⟨w.heap.size, 0, none⟩ = some (.int .i64 0) := (World.cell?_setCell_other _ _ _ _ (by simp)).trans (World.cell?_setCell_same _ _ _ H6.out.r0)
        simp [results, Tryz.results15, go_sem, m0, m1]
      · refine ⟨?_, (B6.out.setCell (Nat.le_refl _) _).setCell (Nat.le_refl _) _⟩
        rw [Hfin.out]
    | some a =>
      have hpar : ∀ w (_ : Glob w), Calls Tryz.prog 9 #[strV p] w fun e w' => e = .returned (.tuple #[.int .i64 a, .nilIface]) ∧ Below w.heap.size w w' := hpar
      have hC := fun w => check_any (a : Int) v w
      by_cases hi : Lib.itoa v = r
      · have Hg := Lib.hid (goNum_ok Hv.out hi)
        have hne1 : (Lib.itoa v != r) = false := by rw [hi]; simp
        have hne2 : (Lib.itoa v == r) = true := by rw [hi]; simp
        clear hi
        by_cases hz : v = 0
        · have hfin : parsePV R = .tuple #[.agg #[.int .i64 0, .int .i64 0], .iface 44 (.int .i64 2)] := by rw [Hres.out, Hg.out]; rw [goRes_no (Or.inl hz)]; rfl
          have Hfin := Lib.hid hfin
          clear hfin
          have hz0 : (v == 0) = true := beq_iff_eq.2 hz
          clear hz
          go_enter Tryz.func15, Tryz.ntmps15
          have hx : strV l = .string ⟨l.toArray⟩ := rfl
          rw [hx]
          clear hx
          go_wp2_with fail
          refine (hcut _ HG0.out).mono ?_
          rintro e w1 ⟨rfl, hb⟩
          simp only [strV_def]
          have H1 := Lib.hid (H0.out.below hb)
          have HG1 := Lib.hid (HG0.out.below hb)
          have B1 := Lib.hid (B0.out.trans (hb.mono B0.out.size))
          clear hb
          go_wp2_with fail
          refine (hpar _ HG1.out).mono ?_
          rintro e w2 ⟨rfl, hb⟩
          have H2 := Lib.hid (H1.out.below hb)
          have HG2 := Lib.hid (HG1.out.below hb)
          have B2 := Lib.hid (B1.out.trans (hb.mono B1.out.size))
          clear hb
          have q0 := H2.out.r0
          have q1 := H2.out.r1
          have q2 := H2.out.p0
          have q3 := H2.out.p1
          have q4 := H2.out.f0
          have q5 := H2.out.f1
          have q6 := H2.out.g0
          have q7 := H2.out.g1
          have H3 := Lib.hid (H2.out.set0 Hne.out a)
          have B3 := Lib.hid (B2.out.setCell (p := ⟨w.heap.size + 1, 0, none⟩) (Nat.le_succ _) (.int .i64 a))
          have HG3 := Lib.hid (setG HG2.out (a := ⟨w.heap.size + 1, 0, none⟩) (Nat.le_succ_of_le HG0sz.out) (.int .i64 a))
          go_wp2_with fail
          refine (hA _).mono ?_
          rintro e w5 ⟨rfl, hb⟩
          clear q0 q1 q2 q3 q4 q5 q6 q7
          have H5 := Lib.hid (H3.out.below hb)
          have HG5 := Lib.hid (HG3.out.below hb)
          have B5 := Lib.hid (B3.out.trans (hb.mono B3.out.size))
          clear hb
          have q0 := H5.out.r0
          have q1 := H5.out.r1
          have q2 := H5.out.p0
          have q3 := H5.out.p1
          have q4 := H5.out.f0
          have q5 := H5.out.f1
          have q6 := H5.out.g0
          have q7 := H5.out.g1
          have H6 := Lib.hid (H5.out.set1 Hne.out v)
          have B6 := Lib.hid (B5.out.setCell (p := ⟨w.heap.size + 1, 1, none⟩) (Nat.le_succ _) (.int .i64 v))
          have HG6 := Lib.hid (setG HG5.out (a := ⟨w.heap.size + 1, 1, none⟩) (Nat.le_succ_of_le HG0sz.out) (.int .i64 v))
          go_wp2_with fail
          clear q0 q1 q2 q3 q4 q5 q6 q7
          refine (itoa_any _ (by omega) (by omega) _ HG6.out).mono ?_
          rintro e w7 ⟨rfl, hb⟩
          rw [strV_def]
          have H7 := Lib.hid (H6.out.below hb)
          have B7 := Lib.hid (B6.out.trans (hb.mono B6.out.size))
          clear hb
          have q0 := H7.out.r0
          have q1 := H7.out.r1
          have q2 := H7.out.p0
          have q3 := H7.out.p1
          have q4 := H7.out.f0
          have q5 := H7.out.f1
          have q6 := H7.out.g0
          have q7 := H7.out.g1
          go_wp2
          refine bodyPost_ret (v := .tuple #[.agg #[.int .i64 0, .int .i64 0], .iface 44 (.int .i64 2)]) ?_ rfl ?_
          · have m1 : ((w7.setCell ⟨w.heap.size, 0, none⟩ (.int .i64 0)).setCell ⟨w.heap.size, 1, none⟩ (.int .i64 0)).cell? ⟨w.heap.size, 1, none⟩ = some (.int .i64 0) := World.cell?_setCell_same _ _ _ ((World.cell?_setCell_other _ _ _ _ (by simp)).trans H7.out.r1)
            have m0 : ((w7.setCell ⟨w.heap.size, 0, none⟩ (.int .i64 0)).setCell ⟨w.heap.size, 1, none⟩ (.int .i64 0)).cell? ⟨w.heap.size, 0, none⟩ = some (.int .i64 0) := (World.cell?_setCell_other _ _ _ _ (by simp)).trans (World.cell?_setCell_same _ _ _ H7.out.r0)
            simp [results, Tryz.results15, go_sem, m0, m1]
          · refine ⟨?_, (B7.out.setCell (Nat.le_refl _) _).setCell (Nat.le_refl _) _⟩
            rw [Hfin.out]
        · by_cases hF : tx.pfault (a : Int) v = 0
          · have hfin : parsePV R = .tuple #[.agg #[.int .i64 a, .int .i64 v], .nilIface] := by rw [Hres.out, Hg.out]; rw [goRes_yes hz hF]; exact parsePV_some _ _ (pfault_zero hF).2.2.1
            rw [hF, errV0] at hC
            have Hfin := Lib.hid hfin
            clear hfin hF
            have hz0 : (v == 0) = false := beq_eq_false_iff_ne.2 hz
            clear hz
            go_enter Tryz.func15, Tryz.ntmps15
            have hx : strV l = .string ⟨l.toArray⟩ := rfl
            rw [hx]
            clear hx
            go_wp2_with fail
            refine (hcut _ HG0.out).mono ?_
            rintro e w1 ⟨rfl, hb⟩
            simp only [strV_def]
            have H1 := Lib.hid (H0.out.below hb)
            have HG1 := Lib.hid (HG0.out.below hb)
            have B1 := Lib.hid (B0.out.trans (hb.mono B0.out.size))
            clear hb
            go_wp2_with fail
            refine (hpar _ HG1.out).mono ?_
            rintro e w2 ⟨rfl, hb⟩
            have H2 := Lib.hid (H1.out.below hb)
            have HG2 := Lib.hid (HG1.out.below hb)
            have B2 := Lib.hid (B1.out.trans (hb.mono B1.out.size))
            clear hb
            have q0 := H2.out.r0
            have q1 := H2.out.r1
            have q2 := H2.out.p0
            have q3 := H2.out.p1
            have q4 := H2.out.f0
            have q5 := H2.out.f1
            have q6 := H2.out.g0
            have q7 := H2.out.g1
            have H3 := Lib.hid (H2.out.set0 Hne.out a)
            have B3 := Lib.hid (B2.out.setCell (p := ⟨w.heap.size + 1, 0, none⟩) (Nat.le_succ _) (.int .i64 a))
            have HG3 := Lib.hid (setG HG2.out (a := ⟨w.heap.size + 1, 0, none⟩) (Nat.le_succ_of_le HG0sz.out) (.int .i64 a))
            go_wp2_with fail
            refine (hA _).mono ?_
            rintro e w5 ⟨rfl, hb⟩
            clear q0 q1 q2 q3 q4 q5 q6 q7
            have H5 := Lib.hid (H3.out.below hb)
            have HG5 := Lib.hid (HG3.out.below hb)
            have B5 := Lib.hid (B3.out.trans (hb.mono B3.out.size))
            clear hb
            have q0 := H5.out.r0
            have q1 := H5.out.r1
            have q2 := H5.out.p0
            have q3 := H5.out.p1
            have q4 := H5.out.f0
            have q5 := H5.out.f1
            have q6 := H5.out.g0
            have q7 := H5.out.g1
            have H6 := Lib.hid (H5.out.set1 Hne.out v)
            have B6 := Lib.hid (B5.out.setCell (p := ⟨w.heap.size + 1, 1, none⟩) (Nat.le_succ _) (.int .i64 v))
            have HG6 := Lib.hid (setG HG5.out (a := ⟨w.heap.size + 1, 1, none⟩) (Nat.le_succ_of_le HG0sz.out) (.int .i64 v))
            go_wp2_with fail
            clear q0 q1 q2 q3 q4 q5 q6 q7
            refine (itoa_any _ (by omega) (by omega) _ HG6.out).mono ?_
            rintro e w7 ⟨rfl, hb⟩
            rw [strV_def]
            have H7 := Lib.hid (H6.out.below hb)
            have B7 := Lib.hid (B6.out.trans (hb.mono B6.out.size))
            clear hb
            have q0 := H7.out.r0
            have q1 := H7.out.r1
            have q2 := H7.out.p0
            have q3 := H7.out.p1
            have q4 := H7.out.f0
            have q5 := H7.out.f1
            have q6 := H7.out.g0
            have q7 := H7.out.g1
            go_wp2_with fail
            clear q0 q1 q2 q3 q4 q5 q6 q7
            refine (hC _).mono ?_
            rintro e w8 ⟨rfl, hb⟩
            have H8 := Lib.hid (H7.out.below hb)
            have B8 := Lib.hid (B7.out.trans (hb.mono B7.out.size))
            clear hb
            have q0 := H8.out.r0
            have q1 := H8.out.r1
            have q2 := H8.out.p0
            have q3 := H8.out.p1
            have q4 := H8.out.f0
            have q5 := H8.out.f1
            have q6 := H8.out.g0
            have q7 := H8.out.g1
            go_wp2
            refine bodyPost_ret (v := .tuple #[.agg #[.int .i64 a, .int .i64 v], .nilIface]) ?_ rfl ?_
            · have m1 : ((w8.setCell ⟨w.heap.size, 0, none⟩ (.int .i64 a)).setCell ⟨w.heap.size, 1, none⟩ (.int .i64 v)).cell? ⟨w.heap.size, 1, none⟩ = some (.int .i64 v) := World.cell?_setCell_same _ _ _ ((World.cell?_setCell_other _ _ _ _ (by simp)).trans H8.out.r1)
              have m0 : ((w8.setCell ⟨w.heap.size, 0, none⟩ (.int .i64 a)).setCell ⟨w.heap.size, 1, none⟩ (.int .i64 v)).cell? ⟨w.heap.size, 0, none⟩ = some (.int .i64 a) := (World.cell?_setCell_other _ _ _ _ (by simp)).trans (World.cell?_setCell_same _ _ _ H8.out.r0)
              simp [results, Tryz.results15, go_sem, m0, m1]
            · refine ⟨?_, (B8.out.setCell (Nat.le_refl _) _).setCell (Nat.le_refl _) _⟩
              rw [Hfin.out]
          · have hfin : parsePV R = .tuple #[.agg #[.int .i64 0, .int .i64 0], .iface 44 (.int .i64 2)] := by rw [Hres.out, Hg.out]; rw [goRes_no (Or.inr hF)]; rfl
            have he : errV (tx.pfault (a : Int) v) = .iface 44 (.int .i64 (tx.pfault (a : Int) v)) := by unfold errV; rw [if_neg hF]
            rw [he] at hC
            generalize tx.pfault (a : Int) v = F at *
            have Hfin := Lib.hid hfin
            clear hfin hF he
            have hz0 : (v == 0) = false := beq_eq_false_iff_ne.2 hz
            clear hz
            go_enter Tryz.func15, Tryz.ntmps15
            have hx : strV l = .string ⟨l.toArray⟩ := rfl
            rw [hx]
            clear hx
            go_wp2_with fail
            refine (hcut _ HG0.out).mono ?_
            rintro e w1 ⟨rfl, hb⟩
            simp only [strV_def]
            have H1 := Lib.hid (H0.out.below hb)
            have HG1 := Lib.hid (HG0.out.below hb)
            have B1 := Lib.hid (B0.out.trans (hb.mono B0.out.size))
            clear hb
            go_wp2_with fail
            refine (hpar _ HG1.out).mono ?_
            rintro e w2 ⟨rfl, hb⟩
            have H2 := Lib.hid (H1.out.below hb)
            have HG2 := Lib.hid (HG1.out.below hb)
            have B2 := Lib.hid (B1.out.trans (hb.mono B1.out.size))
            clear hb
            have q0 := H2.out.r0
            have q1 := H2.out.r1
            have q2 := H2.out.p0
            have q3 := H2.out.p1
            have q4 := H2.out.f0
            have q5 := H2.out.f1
            have q6 := H2.out.g0
            have q7 := H2.out.g1
            have H3 := Lib.hid (H2.out.set0 Hne.out a)
            have B3 := Lib.hid (B2.out.setCell (p := ⟨w.heap.size + 1, 0, none⟩) (Nat.le_succ _) (.int .i64 a))
            have HG3 := Lib.hid (setG HG2.out (a := ⟨w.heap.size + 1, 0, none⟩) (Nat.le_succ_of_le HG0sz.out) (.int .i64 a))
            go_wp2_with fail
            refine (hA _).mono ?_
            rintro e w5 ⟨rfl, hb⟩
            clear q0 q1 q2 q3 q4 q5 q6 q7
            have H5 := Lib.hid (H3.out.below hb)
            have HG5 := Lib.hid (HG3.out.below hb)
            have B5 := Lib.hid (B3.out.trans (hb.mono B3.out.size))
            clear hb
            have q0 := H5.out.r0
            have q1 := H5.out.r1
            have q2 := H5.out.p0
            have q3 := H5.out.p1
            have q4 := H5.out.f0
            have q5 := H5.out.f1
            have q6 := H5.out.g0
            have q7 := H5.out.g1
            have H6 := Lib.hid (H5.out.set1 Hne.out v)
            have B6 := Lib.hid (B5.out.setCell (p := ⟨w.heap.size + 1, 1, none⟩) (Nat.le_succ _) (.int .i64 v))
            have HG6 := Lib.hid (setG HG5.out (a := ⟨w.heap.size + 1, 1, none⟩) (Nat.le_succ_of_le HG0sz.out) (.int .i64 v))
            go_wp2_with fail
            clear q0 q1 q2 q3 q4 q5 q6 q7
            refine (itoa_any _ (by omega) (by omega) _ HG6.out).mono ?_
            rintro e w7 ⟨rfl, hb⟩
            rw [strV_def]
            have H7 := Lib.hid (H6.out.below hb)
            have B7 := Lib.hid (B6.out.trans (hb.mono B6.out.size))
            clear hb
            have q0 := H7.out.r0
            have q1 := H7.out.r1
            have q2 := H7.out.p0
            have q3 := H7.out.p1
            have q4 := H7.out.f0
            have q5 := H7.out.f1
            have q6 := H7.out.g0
            have q7 := H7.out.g1
            go_wp2_with fail
            clear q0 q1 q2 q3 q4 q5 q6 q7
            refine (hC _).mono ?_
            rintro e w8 ⟨rfl, hb⟩
            have H8 := Lib.hid (H7.out.below hb)
            have B8 := Lib.hid (B7.out.trans (hb.mono B7.out.size))
            clear hb
            have q0 := H8.out.r0
            have q1 := H8.out.r1
            have q2 := H8.out.p0
            have q3 := H8.out.p1
            have q4 := H8.out.f0
            have q5 := H8.out.f1
            have q6 := H8.out.g0
            have q7 := H8.out.g1
            go_wp2
            refine bodyPost_ret (v := .tuple #[.agg #[.int .i64 0, .int .i64 0], .iface 44 (.int .i64 2)]) ?_ rfl ?_
            · have m1 : ((w8.setCell ⟨w.heap.size, 0, none⟩ (.int .i64 0)).setCell ⟨w.heap.size, 1, none⟩ (.int .i64 0)).cell? ⟨w.heap.size, 1, none⟩ = some (.int .i64 0) := World.cell?_setCell_same _ _ _ ((World.cell?_setCell_other _ _ _ _ (by simp)).trans H8.out.r1)
              have m0 : ((w8.setCell ⟨w.heap.size, 0, none⟩ (.int .i64 0)).setCell ⟨w.heap.size, 1, none⟩ (.int .i64 0)).cell? ⟨w.heap.size, 0, none⟩ = some (.int .i64 0) := (World.cell?_setCell_other _ _ _ _ (by simp)).trans (World.cell?_setCell_same _ _ _ H8.out.r0)
              simp [results, Tryz.results15, go_sem, m0, m1]
            · refine ⟨?_, (B8.out.setCell (Nat.le_refl _) _).setCell (Nat.le_refl _) _⟩
              rw [Hfin.out]
      · have Hg := Lib.hid (goNum_ne Hv.out hi)
        have hne1 : (Lib.itoa v != r) = true := bne_iff_ne.2 hi
        have hne2 : (Lib.itoa v == r) = false := beq_eq_false_iff_ne.2 hi
        clear hi
        have hfin : parsePV R = .tuple #[.agg #[.int .i64 0, .int .i64 0], .iface 44 (.int .i64 2)] := by rw [Hres.out, Hg.out]; rfl
        have Hfin := Lib.hid hfin
        clear hfin
        go_enter Tryz.func15, Tryz.ntmps15
        have hx : strV l = .string ⟨l.toArray⟩ := rfl
        rw [hx]
        clear hx
        go_wp2_with fail
        refine (hcut _ HG0.out).mono ?_
        rintro e w1 ⟨rfl, hb⟩
        simp only [strV_def]
        have H1 := Lib.hid (H0.out.below hb)
        have HG1 := Lib.hid (HG0.out.below hb)
        have B1 := Lib.hid (B0.out.trans (hb.mono B0.out.size))
        clear hb
        go_wp2_with fail
        refine (hpar _ HG1.out).mono ?_
        rintro e w2 ⟨rfl, hb⟩
        have H2 := Lib.hid (H1.out.below hb)
        have HG2 := Lib.hid (HG1.out.below hb)
        have B2 := Lib.hid (B1.out.trans (hb.mono B1.out.size))
        clear hb
        have q0 := H2.out.r0
        have q1 := H2.out.r1
        have q2 := H2.out.p0
        have q3 := H2.out.p1
        have q4 := H2.out.f0
        have q5 := H2.out.f1
        have q6 := H2.out.g0
        have q7 := H2.out.g1
        have H3 := Lib.hid (H2.out.set0 Hne.out a)
        have B3 := Lib.hid (B2.out.setCell (p := ⟨w.heap.size + 1, 0, none⟩) (Nat.le_succ _) (.int .i64 a))
        have HG3 := Lib.hid (setG HG2.out (a := ⟨w.heap.size + 1, 0, none⟩) (Nat.le_succ_of_le HG0sz.out) (.int .i64 a))
        go_wp2_with fail
        refine (hA _).mono ?_
        rintro e w5 ⟨rfl, hb⟩
        clear q0 q1 q2 q3 q4 q5 q6 q7
        have H5 := Lib.hid (H3.out.below hb)
        have HG5 := Lib.hid (HG3.out.below hb)
        have B5 := Lib.hid (B3.out.trans (hb.mono B3.out.size))
        clear hb
        have q0 := H5.out.r0
        have q1 := H5.out.r1
        have q2 := H5.out.p0
        have q3 := H5.out.p1
        have q4 := H5.out.f0
        have q5 := H5.out.f1
        have q6 := H5.out.g0
        have q7 := H5.out.g1
        have H6 := Lib.hid (H5.out.set1 Hne.out v)
        have B6 := Lib.hid (B5.out.setCell (p := ⟨w.heap.size + 1, 1, none⟩) (Nat.le_succ _) (.int .i64 v))
        have HG6 := Lib.hid (setG HG5.out (a := ⟨w.heap.size + 1, 1, none⟩) (Nat.le_succ_of_le HG0sz.out) (.int .i64 v))
        go_wp2_with fail
        clear q0 q1 q2 q3 q4 q5 q6 q7
        refine (itoa_any _ (by omega) (by omega) _ HG6.out).mono ?_
        rintro e w7 ⟨rfl, hb⟩
        rw [strV_def]
        have H7 := Lib.hid (H6.out.below hb)
        have B7 := Lib.hid (B6.out.trans (hb.mono B6.out.size))
        clear hb
        have q0 := H7.out.r0
        have q1 := H7.out.r1
        have q2 := H7.out.p0
        have q3 := H7.out.p1
        have q4 := H7.out.f0
        have q5 := H7.out.f1
        have q6 := H7.out.g0
        have q7 := H7.out.g1
        go_wp2
        refine bodyPost_ret (v := .tuple #[.agg #[.int .i64 0, .int .i64 0], .iface 44 (.int .i64 2)]) ?_ rfl ?_
        · have m1 : ((w7.setCell ⟨w.heap.size, 0, none⟩ (.int .i64 0)).setCell ⟨w.heap.size, 1, none⟩ (.int .i64 0)).cell? ⟨w.heap.size, 1, none⟩ = some (.int .i64 0) := World.cell?_setCell_same _ _ _ ((World.cell?_setCell_other _ _ _ _ (by simp)).trans H7.out.r1)
          have m0 : ((w7.setCell ⟨w.heap.size, 0, none⟩ (.int .i64 0)).setCell ⟨w.heap.size, 1, none⟩ (.int .i64 0)).cell? ⟨w.heap.size, 0, none⟩ = some (.int .i64 0) := (World.cell?_setCell_other _ _ _ _ (by simp)).trans (World.cell?_setCell_same _ _ _ H7.out.r0)
          simp [results, Tryz.results15, go_sem, m0, m1]
        · refine ⟨?_, (B7.out.setCell (Nat.le_refl _) _).setCell (Nat.le_refl _) _⟩
          rw [Hfin.out]
  · have hA := fun w G => atoi_bad r Hlr.out (fun v hv => hok ⟨v, hv⟩) w G
    have Hg := Lib.hid (goNum_bad fun v hv => hok ⟨v, hv⟩)
    clear hok
    cases ra with
    | none =>
      have hpar : ∀ w (_ : Glob w), Calls Tryz.prog 9 #[strV p] w fun e w' => e = .returned (.tuple #[.int .i64 0, .iface 44 (.int .i64 2)]) ∧ Below w.heap.size w w' := hpar
      have hfin : parsePV R = .tuple #[.agg #[.int .i64 0, .int .i64 0], .iface 44 (.int .i64 2)] := by rw [Hres.out]; rfl
      have Hfin := Lib.hid hfin
      clear hfin
      go_enter Tryz.func15, Tryz.ntmps15
      have hx : strV l = .string ⟨l.toArray⟩ := rfl
      rw [hx]
      clear hx
      go_wp2_with fail
      refine (hcut _ HG0.out).mono ?_
      rintro e w1 ⟨rfl, hb⟩
      simp only [strV_def]
      have H1 := Lib.hid (H0.out.below hb)
      have HG1 := Lib.hid (HG0.out.below hb)
      have B1 := Lib.hid (B0.out.trans (hb.mono B0.out.size))
      clear hb
      go_wp2_with fail
      refine (hpar _ HG1.out).mono ?_
      rintro e w2 ⟨rfl, hb⟩
      have H2 := Lib.hid (H1.out.below hb)
      have HG2 := Lib.hid (HG1.out.below hb)
      have B2 := Lib.hid (B1.out.trans (hb.mono B1.out.size))
      clear hb
      have q0 := H2.out.r0
      have q1 := H2.out.r1
      have q2 := H2.out.p0
      have q3 := H2.out.p1
      have q4 := H2.out.f0
      have q5 := H2.out.f1
      have q6 := H2.out.g0
      have q7 := H2.out.g1
      have H3 := Lib.hid (H2.out.set0 Hne.out 0)
      have B3 := Lib.hid (B2.out.setCell (p := ⟨w.heap.size + 1, 0, none⟩) (Nat.le_succ _) (.int .i64 0))
      have HG3 := Lib.hid (setG HG2.out (a := ⟨w.heap.size + 1, 0, none⟩) (Nat.le_succ_of_le HG0sz.out) (.int .i64 0))
      go_wp2_with fail
      refine (hA _ HG3.out).mono ?_
      rintro e w5 ⟨⟨v, t, q, rfl⟩, hb⟩
      clear q0 q1 q2 q3 q4 q5 q6 q7
      have H5 := Lib.hid (H3.out.below hb)
      have HG5 := Lib.hid (HG3.out.below hb)
      have B5 := Lib.hid (B3.out.trans (hb.mono B3.out.size))
      clear hb
      have q0 := H5.out.r0
      have q1 := H5.out.r1
      have q2 := H5.out.p0
      have q3 := H5.out.p1
      have q4 := H5.out.f0
      have q5 := H5.out.f1
      have q6 := H5.out.g0
      have q7 := H5.out.g1
      have H6 := Lib.hid (H5.out.set1 Hne.out v)
      have B6 := Lib.hid (B5.out.setCell (p := ⟨w.heap.size + 1, 1, none⟩) (Nat.le_succ _) (.int .i64 v))
      have HG6 := Lib.hid (setG HG5.out (a := ⟨w.heap.size + 1, 1, none⟩) (Nat.le_succ_of_le HG0sz.out) (.int .i64 v))
      go_wp2
      refine bodyPost_ret (v := .tuple #[.agg #[.int .i64 0, .int .i64 0], .iface 44 (.int .i64 2)]) ?_ rfl ?_
      · have m1 : (((w5.setCell ⟨w.heap.size + 1, 1, none⟩ (.int .i64 v)).setCell ⟨w.heap.size, 0, none⟩ (.int .i64 0)).setCell ⟨w.heap.size, 1, none⟩ (.int .i64 0)).cell? ⟨w.heap.size, 1, none⟩ = some (.int .i64 0) := World.cell?_setCell_same _ _ _ ((World.cell?_setCell_other _ _ _ _ (by simp)).trans H6.out.r1)
        have m0 : (((w5.setCell ⟨w.heap.size + 1, 1, none⟩ (.int .i64 v)).setCell ⟨w.heap.size, 0, none⟩ (.int .i64 0)).setCell ⟨w.heap.size, 1, none⟩ (.int .i64 0)).cell? ⟨w.heap.size, 0, none⟩ = some (.int .i64 0) := (World.cell?_setCell_other _ _ _ _ (by simp)).trans (World.cell?_setCell_same _ _ _ H6.out.r0)
        simp [results, Tryz.results15, go_sem, m0, m1]
      · refine ⟨?_, (B6.out.setCell (Nat.le_refl _) _).setCell (Nat.le_refl _) _⟩
        rw [Hfin.out]
    | some a =>
      have hpar : ∀ w (_ : Glob w), Calls Tryz.prog 9 #[strV p] w fun e w' => e = .returned (.tuple #[.int .i64 a, .nilIface]) ∧ Below w.heap.size w w' := hpar
      have hfin : parsePV R = .tuple #[.agg #[.int .i64 0, .int .i64 0], .iface 44 (.int .i64 2)] := by rw [Hres.out, Hg.out]; rfl
      have Hfin := Lib.hid hfin
      clear hfin
      go_enter Tryz.func15, Tryz.ntmps15
      have hx : strV l = .string ⟨l.toArray⟩ := rfl
      rw [hx]
      clear hx
      go_wp2_with fail
      refine (hcut _ HG0.out).mono ?_
      rintro e w1 ⟨rfl, hb⟩
      simp only [strV_def]
      have H1 := Lib.hid (H0.out.below hb)
      have HG1 := Lib.hid (HG0.out.below hb)
      have B1 := Lib.hid (B0.out.trans (hb.mono B0.out.size))
      clear hb
      go_wp2_with fail
      refine (hpar _ HG1.out).mono ?_
      rintro e w2 ⟨rfl, hb⟩
      have H2 := Lib.hid (H1.out.below hb)
      have HG2 := Lib.hid (HG1.out.below hb)
      have B2 := Lib.hid (B1.out.trans (hb.mono B1.out.size))
      clear hb
      have q0 := H2.out.r0
      have q1 := H2.out.r1
      have q2 := H2.out.p0
      have q3 := H2.out.p1
      have q4 := H2.out.f0
      have q5 := H2.out.f1
      have q6 := H2.out.g0
      have q7 := H2.out.g1
      have H3 := Lib.hid (H2.out.set0 Hne.out a)
      have B3 := Lib.hid (B2.out.setCell (p := ⟨w.heap.size + 1, 0, none⟩) (Nat.le_succ _) (.int .i64 a))
      have HG3 := Lib.hid (setG HG2.out (a := ⟨w.heap.size + 1, 0, none⟩) (Nat.le_succ_of_le HG0sz.out) (.int .i64 a))
      go_wp2_with fail
      refine (hA _ HG3.out).mono ?_
      rintro e w5 ⟨⟨v, t, q, rfl⟩, hb⟩
      clear q0 q1 q2 q3 q4 q5 q6 q7
      have H5 := Lib.hid (H3.out.below hb)
      have HG5 := Lib.hid (HG3.out.below hb)
      have B5 := Lib.hid (B3.out.trans (hb.mono B3.out.size))
      clear hb
      have q0 := H5.out.r0
      have q1 := H5.out.r1
      have q2 := H5.out.p0
      have q3 := H5.out.p1
      have q4 := H5.out.f0
      have q5 := H5.out.f1
      have q6 := H5.out.g0
      have q7 := H5.out.g1
      have H6 := Lib.hid (H5.out.set1 Hne.out v)
      have B6 := Lib.hid (B5.out.setCell (p := ⟨w.heap.size + 1, 1, none⟩) (Nat.le_succ _) (.int .i64 v))
      have HG6 := Lib.hid (setG HG5.out (a := ⟨w.heap.size + 1, 1, none⟩) (Nat.le_succ_of_le HG0sz.out) (.int .i64 v))
      go_wp2
      refine bodyPost_ret (v := .tuple #[.agg #[.int .i64 0, .int .i64 0], .iface 44 (.int .i64 2)]) ?_ rfl ?_
      · have m1 : (((w5.setCell ⟨w.heap.size + 1, 1, none⟩ (.int .i64 v)).setCell ⟨w.heap.size, 0, none⟩ (.int .i64 0)).setCell ⟨w.heap.size, 1, none⟩ (.int .i64 0)).cell? ⟨w.heap.size, 1, none⟩ = some (.int .i64 0) := World.cell?_setCell_same _ _ _ ((World.cell?_setCell_other _ _ _ _ (by simp)).trans H6.out.r1)
        have m0 : (((w5.setCell ⟨w.heap.size + 1, 1, none⟩ (.int .i64 v)).setCell ⟨w.heap.size, 0, none⟩ (.int .i64 0)).setCell ⟨w.heap.size, 1, none⟩ (.int .i64 0)).cell? ⟨w.heap.size, 0, none⟩ = some (.int .i64 0) := (World.cell?_setCell_other _ _ _ _ (by simp)).trans (World.cell?_setCell_same _ _ _ H6.out.r0)
        simp [results, Tryz.results15, go_sem, m0, m1]
      · refine ⟨?_, (B6.out.setCell (Nat.le_refl _) _).setCell (Nat.le_refl _) _⟩
        rw [Hfin.out]

end Go.Proofs.YtjefehphfaamcaaGreatDoor
