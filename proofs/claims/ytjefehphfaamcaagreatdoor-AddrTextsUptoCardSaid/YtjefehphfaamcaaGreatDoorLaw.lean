/- portlaw1.AddrTexts: the law's walk, case by case. -/
import Derived.Test.YtjefehphfaamcaaGreatDoorErr
import Derived.Test.YtjefehphfaamcaaGreatDoorPars2
namespace Go.Proofs.YtjefehphfaamcaaGreatDoor
open Go.RowKit

/-- a struct of two ints in memory -/
structure Bx (w : World) (b : Nat) (x y : Int) : Prop where
  c0 : w.cell? ⟨b, 0, none⟩ = some (.int .i64 x)
  c1 : w.cell? ⟨b, 1, none⟩ = some (.int .i64 y)
theorem Bx.below {w w' : World} {b : Nat} {x y : Int} (h : Bx w b x y) (hb : Below w.heap.size w w') : Bx w' b x y := ⟨kept hb h.c0, kept hb h.c1⟩
theorem belowA (w : World) (o : Obj) : Below w.heap.size w (w.alloc o) := (Below.refl _ _).alloc (Nat.le_refl _) o

theorem readPrefix_any (l : List UInt8) (w : World) (hs : l.length < 4294967281) :
    Calls Tryz.prog 14 #[strV l] w fun e w' => e = .returned (pxV (tx.readPrefix l)) ∧ Below w.heap.size w w' := by
  by_cases h : l = tx.anyT
  · exact readPrefix_no l w h
  · exact readPrefix_yes l w h hs
theorem parsePrefix_any (l : List UInt8) (w : World) (hs : l.length < 4294967281) (G : Glob w) :
    Calls Tryz.prog 15 #[strV l] w fun e w' => e = .returned (parsePV (tx.readPrefix l)) ∧ Below w.heap.size w w' := by
  by_cases h : l = tx.anyT
  · exact parsePrefix_anyT l w h
  · by_cases h47 : (47 : UInt8) ∈ l
    · obtain ⟨p, r, e, hp, _⟩ := tx.cut_hit 47 l h47
      exact parsePrefix_cut l w h hs G p r hp e
    · exact parsePrefix_plain l w h hs G h47
theorem err0 (w : World) (G : Glob w) : Calls Tryz.prog 7 #[.nilIface, .int .i64 0] w fun e w' => e = .returned (.bool true) ∧ Below w.heap.size w w' := error_same 0 w G
theorem err1 (w : World) (G : Glob w) : Calls Tryz.prog 7 #[.iface 44 (.int .i64 1), .int .i64 1] w fun e w' => e = .returned (.bool true) ∧ Below w.heap.size w w' := error_same 1 w G
theorem err2 (w : World) (G : Glob w) : Calls Tryz.prog 7 #[.iface 44 (.int .i64 2), .int .i64 2] w fun e w' => e = .returned (.bool true) ∧ Below w.heap.size w w' := error_same 2 w G
theorem errF (k : Int) (h : k ≠ 0) (w : World) (G : Glob w) : Calls Tryz.prog 7 #[.iface 44 (.int .i64 k), .int .i64 k] w fun e w' => e = .returned (.bool true) ∧ Below w.heap.size w w' := by
  have := error_same k w G
  unfold errV at this
  rw [if_neg h] at this
  exact this

set_option maxHeartbeats 4000000 in
set_option maxRecDepth 1000000 in
theorem law_1111 (a pa pn : Int) (l : List UInt8) (w : World) (G : Glob w) (hs : l.length < 4294967281) (hA : addrB a = true) (n : Nat) (hS : tx.readAddr l = some n) (hP : tx.pfault pa pn = 0) (qa qn : Nat) (hQ : tx.readPrefix l = some (qa, qn)) :
    Calls Tryz.prog 3 #[.int .i64 a, .agg #[.int .i64 pa, .int .i64 pn], strV l] w fun e w' => e = .returned (.bool true) ∧ Below w.heap.size w w' := by
  have h4 := fun w => addr_any a w
  rw [hA] at h4
  obtain ⟨a0, a1⟩ := addrB_iff.1 hA
  have h5 := fun w => show_any a a0 a1 w
  have h6 := fun w G => print_ok a a0 a1 w G
  have h8 := fun w => readAddr_any l w hs
  rw [hS] at h8
  have h8 : ∀ w, Calls Tryz.prog 8 #[strV l] w fun e w' => e = .returned (.int .i64 n) ∧ Below w.heap.size w w' := h8
  have h9 := fun w G => parse_any l w hs G
  rw [hS] at h9
  have h9 : ∀ w (_ : Glob w), Calls Tryz.prog 9 #[strV l] w fun e w' => e = .returned (.tuple #[.int .i64 n, .nilIface]) ∧ Below w.heap.size w w' := h9
  have h10 := fun w => prefix_any pa pn w
  have h12 := fun w => check_any pa pn w
  have h11 := fun w => showPrefix_any pa pn hP w
  have h13 := fun w G => printPrefix_ok pa pn hP w G
  rw [hP] at h10 h12
  rw [errV0] at h12
  have h14 := fun w => readPrefix_any l w hs
  have h15 := fun w G => parsePrefix_any l w hs G
  rw [hQ] at h14 h15
  have h14 : ∀ w, Calls Tryz.prog 14 #[strV l] w fun e w' => e = .returned (.tuple #[.agg #[.int .i64 qa, .int .i64 qn], .bool true]) ∧ Below w.heap.size w w' := h14
  have h15 : ∀ w (_ : Glob w), Calls Tryz.prog 15 #[strV l] w fun e w' => e = .returned (.tuple #[.agg #[.int .i64 qa, .int .i64 qn], .nilIface]) ∧ Below w.heap.size w w' := h15
  have X0 := Lib.hid (show Bx (w.alloc (.cells #[.int .i64 pa, .int .i64 pn] 23)) w.heap.size pa pn from ⟨by simp, by simp⟩)
  have B0 := Lib.hid (belowA w (.cells #[.int .i64 pa, .int .i64 pn] 23))
  have G0 := Lib.hid (G.below B0.out)
  clear hA hS hP hQ hs G
  go_enter Tryz.func3, Tryz.ntmps3
  have c0 := X0.out.c0
  have c1 := X0.out.c1
  go_wp2_with fail
  clear c0 c1
  refine (h4 _).mono ?_
  rintro e w' ⟨rfl, rfl⟩
  have c0 := X0.out.c0
  have c1 := X0.out.c1
  go_wp2_with fail
  clear c0 c1
  refine (h5 _).mono ?_
  rintro e w' ⟨rfl, rfl⟩
  have c0 := X0.out.c0
  have c1 := X0.out.c1
  go_wp2_with fail
  clear c0 c1
  refine (h6 _ G0.out).mono ?_
  rintro e w1 ⟨rfl, hb⟩
  have G1 := Lib.hid (G0.out.below hb)
  have B1 := Lib.hid (B0.out.trans (hb.mono B0.out.size))
  have X1 := Lib.hid (X0.out.below hb)
  clear hb
  have c0 := X1.out.c0
  have c1 := X1.out.c1
  go_wp2_with fail
  clear c0 c1
  refine (err0 _ G1.out).mono ?_
  rintro e w2 ⟨rfl, hb⟩
  have G2 := Lib.hid (G1.out.below hb)
  have B2 := Lib.hid (B1.out.trans (hb.mono B1.out.size))
  have X2 := Lib.hid (X1.out.below hb)
  clear hb
  have c0 := X2.out.c0
  have c1 := X2.out.c1
  simp only [strV_def]
  go_wp2_with fail
  clear c0 c1
  refine (h8 _).mono ?_
  rintro e w3 ⟨rfl, hb⟩
  have G3 := Lib.hid (G2.out.below hb)
  have B3 := Lib.hid (B2.out.trans (hb.mono B2.out.size))
  have X3 := Lib.hid (X2.out.below hb)
  clear hb
  have c0 := X3.out.c0
  have c1 := X3.out.c1
  go_wp2_with fail
  clear c0 c1
  refine (h9 _ G3.out).mono ?_
  rintro e w4 ⟨rfl, hb⟩
  have G4 := Lib.hid (G3.out.below hb)
  have B4 := Lib.hid (B3.out.trans (hb.mono B3.out.size))
  have X4 := Lib.hid (X3.out.below hb)
  clear hb
  have c0 := X4.out.c0
  have c1 := X4.out.c1
  go_wp2_with fail
  clear c0 c1
  refine (err0 _ G4.out).mono ?_
  rintro e w5 ⟨rfl, hb⟩
  have G5 := Lib.hid (G4.out.below hb)
  have B5 := Lib.hid (B4.out.trans (hb.mono B4.out.size))
  have X5 := Lib.hid (X4.out.below hb)
  clear hb
  have c0 := X5.out.c0
  have c1 := X5.out.c1
  go_wp2_with fail
  clear c0 c1
  refine (h10 _).mono ?_
  rintro e w6 ⟨rfl, hb⟩
  have G6 := Lib.hid (G5.out.below hb)
  have B6 := Lib.hid (B5.out.trans (hb.mono B5.out.size))
  have X6 := Lib.hid (X5.out.below hb)
  clear hb
  have c0 := X6.out.c0
  have c1 := X6.out.c1
  go_wp2_with fail
  clear c0 c1
  refine (h11 _).mono ?_
  rintro e w7 ⟨rfl, hb⟩
  have G7 := Lib.hid (G6.out.below hb)
  have B7 := Lib.hid (B6.out.trans (hb.mono B6.out.size))
  have X7 := Lib.hid (X6.out.below hb)
  clear hb
  have c0 := X7.out.c0
  have c1 := X7.out.c1
  go_wp2_with fail
  clear c0 c1
  refine (h12 _).mono ?_
  rintro e w8 ⟨rfl, hb⟩
  have G8 := Lib.hid (G7.out.below hb)
  have B8 := Lib.hid (B7.out.trans (hb.mono B7.out.size))
  have X8 := Lib.hid (X7.out.below hb)
  clear hb
  have c0 := X8.out.c0
  have c1 := X8.out.c1
  go_wp2_with fail
  clear c0 c1
  refine (err0 _ G8.out).mono ?_
  rintro e w9 ⟨rfl, hb⟩
  have G9 := Lib.hid (G8.out.below hb)
  have B9 := Lib.hid (B8.out.trans (hb.mono B8.out.size))
  have X9 := Lib.hid (X8.out.below hb)
  clear hb
  have c0 := X9.out.c0
  have c1 := X9.out.c1
  go_wp2_with fail
  clear c0 c1
  refine (h13 _ G9.out).mono ?_
  rintro e w10 ⟨rfl, hb⟩
  have G10 := Lib.hid (G9.out.below hb)
  have B10 := Lib.hid (B9.out.trans (hb.mono B9.out.size))
  have X10 := Lib.hid (X9.out.below hb)
  clear hb
  have c0 := X10.out.c0
  have c1 := X10.out.c1
  go_wp2_with fail
  clear c0 c1
  refine (err0 _ G10.out).mono ?_
  rintro e w11 ⟨rfl, hb⟩
  have G11 := Lib.hid (G10.out.below hb)
  have B11 := Lib.hid (B10.out.trans (hb.mono B10.out.size))
  have X11 := Lib.hid (X10.out.below hb)
  clear hb
  have c0 := X11.out.c0
  have c1 := X11.out.c1
  simp only [strV_def]
  go_wp2_with fail
  clear c0 c1
  refine (h14 _).mono ?_
  rintro e w12 ⟨rfl, hb⟩
  have G12 := Lib.hid (G11.out.below hb)
  have B12 := Lib.hid (B11.out.trans (hb.mono B11.out.size))
  have X12 := Lib.hid (X11.out.below hb)
  clear hb
  have c0 := X12.out.c0
  have c1 := X12.out.c1
  have hb := belowA w12 (.cells #[.int .i64 qa, .int .i64 qn] 23)
  clear c0 c1
  have G13 := Lib.hid (G12.out.below hb)
  have B13 := Lib.hid (B12.out.trans (hb.mono B12.out.size))
  have X13 := Lib.hid (X12.out.below hb)
  have Y13 := Lib.hid (show Bx (w12.alloc (.cells #[.int .i64 qa, .int .i64 qn] 23)) w12.heap.size qa qn from ⟨by simp, by simp⟩)
  clear hb
  have c0 := X13.out.c0
  have c1 := X13.out.c1
  have d0 := Y13.out.c0
  have d1 := Y13.out.c1
  go_wp2_with fail
  clear c0 c1 d0 d1
  refine (h15 _ G13.out).mono ?_
  rintro e w14 ⟨rfl, hb⟩
  have G14 := Lib.hid (G13.out.below hb)
  have B14 := Lib.hid (B13.out.trans (hb.mono B13.out.size))
  have X14 := Lib.hid (X13.out.below hb)
  have Y14 := Lib.hid (Y13.out.below hb)
  clear hb
  have c0 := X14.out.c0
  have c1 := X14.out.c1
  have d0 := Y14.out.c0
  have d1 := Y14.out.c1
  have hb := belowA w14 (.cells #[.int .i64 qa, .int .i64 qn] 23)
  clear c0 c1 d0 d1
  have G15 := Lib.hid (G14.out.below hb)
  have B15 := Lib.hid (B14.out.trans (hb.mono B14.out.size))
  have X15 := Lib.hid (X14.out.below hb)
  have Y15 := Lib.hid (Y14.out.below hb)
  have Z15 := Lib.hid (show Bx (w14.alloc (.cells #[.int .i64 qa, .int .i64 qn] 23)) w14.heap.size qa qn from ⟨by simp, by simp⟩)
  clear hb
  have c0 := X15.out.c0
  have c1 := X15.out.c1
  have d0 := Y15.out.c0
  have d1 := Y15.out.c1
  have e0 := Z15.out.c0
  have e1 := Z15.out.c1
  go_wp2_with fail
  clear c0 c1 d0 d1 e0 e1
  refine (err0 _ G15.out).mono ?_
  rintro e w16 ⟨rfl, hb⟩
  have G16 := Lib.hid (G15.out.below hb)
  have B16 := Lib.hid (B15.out.trans (hb.mono B15.out.size))
  have X16 := Lib.hid (X15.out.below hb)
  have Y16 := Lib.hid (Y15.out.below hb)
  have Z16 := Lib.hid (Z15.out.below hb)
  clear hb
  have c0 := X16.out.c0
  have c1 := X16.out.c1
  have d0 := Y16.out.c0
  have d1 := Y16.out.c1
  have e0 := Z16.out.c0
  have e1 := Z16.out.c1
  go_wp2
  go_ret
  exact ⟨rfl, B16.out⟩

set_option maxHeartbeats 4000000 in
set_option maxRecDepth 1000000 in
theorem law_1110 (a pa pn : Int) (l : List UInt8) (w : World) (G : Glob w) (hs : l.length < 4294967281) (hA : addrB a = true) (n : Nat) (hS : tx.readAddr l = some n) (hP : tx.pfault pa pn = 0) (hQ : tx.readPrefix l = none) :
    Calls Tryz.prog 3 #[.int .i64 a, .agg #[.int .i64 pa, .int .i64 pn], strV l] w fun e w' => e = .returned (.bool true) ∧ Below w.heap.size w w' := by
  have h4 := fun w => addr_any a w
  rw [hA] at h4
  obtain ⟨a0, a1⟩ := addrB_iff.1 hA
  have h5 := fun w => show_any a a0 a1 w
  have h6 := fun w G => print_ok a a0 a1 w G
  have h8 := fun w => readAddr_any l w hs
  rw [hS] at h8
  have h8 : ∀ w, Calls Tryz.prog 8 #[strV l] w fun e w' => e = .returned (.int .i64 n) ∧ Below w.heap.size w w' := h8
  have h9 := fun w G => parse_any l w hs G
  rw [hS] at h9
  have h9 : ∀ w (_ : Glob w), Calls Tryz.prog 9 #[strV l] w fun e w' => e = .returned (.tuple #[.int .i64 n, .nilIface]) ∧ Below w.heap.size w w' := h9
  have h10 := fun w => prefix_any pa pn w
  have h12 := fun w => check_any pa pn w
  have h11 := fun w => showPrefix_any pa pn hP w
  have h13 := fun w G => printPrefix_ok pa pn hP w G
  rw [hP] at h10 h12
  rw [errV0] at h12
  have h14 := fun w => readPrefix_any l w hs
  have h15 := fun w G => parsePrefix_any l w hs G
  rw [hQ] at h14 h15
  have h14 : ∀ w, Calls Tryz.prog 14 #[strV l] w fun e w' => e = .returned (.tuple #[.agg #[.int .i64 0, .int .i64 0], .bool false]) ∧ Below w.heap.size w w' := h14
  have h15 : ∀ w (_ : Glob w), Calls Tryz.prog 15 #[strV l] w fun e w' => e = .returned (.tuple #[.agg #[.int .i64 0, .int .i64 0], .iface 44 (.int .i64 2)]) ∧ Below w.heap.size w w' := h15
  have X0 := Lib.hid (show Bx (w.alloc (.cells #[.int .i64 pa, .int .i64 pn] 23)) w.heap.size pa pn from ⟨by simp, by simp⟩)
  have B0 := Lib.hid (belowA w (.cells #[.int .i64 pa, .int .i64 pn] 23))
  have G0 := Lib.hid (G.below B0.out)
  clear hA hS hP hQ hs G
  go_enter Tryz.func3, Tryz.ntmps3
  have c0 := X0.out.c0
  have c1 := X0.out.c1
  go_wp2_with fail
  clear c0 c1
  refine (h4 _).mono ?_
  rintro e w' ⟨rfl, rfl⟩
  have c0 := X0.out.c0
  have c1 := X0.out.c1
  go_wp2_with fail
  clear c0 c1
  refine (h5 _).mono ?_
  rintro e w' ⟨rfl, rfl⟩
  have c0 := X0.out.c0
  have c1 := X0.out.c1
  go_wp2_with fail
  clear c0 c1
  refine (h6 _ G0.out).mono ?_
  rintro e w1 ⟨rfl, hb⟩
  have G1 := Lib.hid (G0.out.below hb)
  have B1 := Lib.hid (B0.out.trans (hb.mono B0.out.size))
  have X1 := Lib.hid (X0.out.below hb)
  clear hb
  have c0 := X1.out.c0
  have c1 := X1.out.c1
  go_wp2_with fail
  clear c0 c1
  refine (err0 _ G1.out).mono ?_
  rintro e w2 ⟨rfl, hb⟩
  have G2 := Lib.hid (G1.out.below hb)
  have B2 := Lib.hid (B1.out.trans (hb.mono B1.out.size))
  have X2 := Lib.hid (X1.out.below hb)
  clear hb
  have c0 := X2.out.c0
  have c1 := X2.out.c1
  simp only [strV_def]
  go_wp2_with fail
  clear c0 c1
  refine (h8 _).mono ?_
  rintro e w3 ⟨rfl, hb⟩
  have G3 := Lib.hid (G2.out.below hb)
  have B3 := Lib.hid (B2.out.trans (hb.mono B2.out.size))
  have X3 := Lib.hid (X2.out.below hb)
  clear hb
  have c0 := X3.out.c0
  have c1 := X3.out.c1
  go_wp2_with fail
  clear c0 c1
  refine (h9 _ G3.out).mono ?_
  rintro e w4 ⟨rfl, hb⟩
  have G4 := Lib.hid (G3.out.below hb)
  have B4 := Lib.hid (B3.out.trans (hb.mono B3.out.size))
  have X4 := Lib.hid (X3.out.below hb)
  clear hb
  have c0 := X4.out.c0
  have c1 := X4.out.c1
  go_wp2_with fail
  clear c0 c1
  refine (err0 _ G4.out).mono ?_
  rintro e w5 ⟨rfl, hb⟩
  have G5 := Lib.hid (G4.out.below hb)
  have B5 := Lib.hid (B4.out.trans (hb.mono B4.out.size))
  have X5 := Lib.hid (X4.out.below hb)
  clear hb
  have c0 := X5.out.c0
  have c1 := X5.out.c1
  go_wp2_with fail
  clear c0 c1
  refine (h10 _).mono ?_
  rintro e w6 ⟨rfl, hb⟩
  have G6 := Lib.hid (G5.out.below hb)
  have B6 := Lib.hid (B5.out.trans (hb.mono B5.out.size))
  have X6 := Lib.hid (X5.out.below hb)
  clear hb
  have c0 := X6.out.c0
  have c1 := X6.out.c1
  go_wp2_with fail
  clear c0 c1
  refine (h11 _).mono ?_
  rintro e w7 ⟨rfl, hb⟩
  have G7 := Lib.hid (G6.out.below hb)
  have B7 := Lib.hid (B6.out.trans (hb.mono B6.out.size))
  have X7 := Lib.hid (X6.out.below hb)
  clear hb
  have c0 := X7.out.c0
  have c1 := X7.out.c1
  go_wp2_with fail
  clear c0 c1
  refine (h12 _).mono ?_
  rintro e w8 ⟨rfl, hb⟩
  have G8 := Lib.hid (G7.out.below hb)
  have B8 := Lib.hid (B7.out.trans (hb.mono B7.out.size))
  have X8 := Lib.hid (X7.out.below hb)
  clear hb
  have c0 := X8.out.c0
  have c1 := X8.out.c1
  go_wp2_with fail
  clear c0 c1
  refine (err0 _ G8.out).mono ?_
  rintro e w9 ⟨rfl, hb⟩
  have G9 := Lib.hid (G8.out.below hb)
  have B9 := Lib.hid (B8.out.trans (hb.mono B8.out.size))
  have X9 := Lib.hid (X8.out.below hb)
  clear hb
  have c0 := X9.out.c0
  have c1 := X9.out.c1
  go_wp2_with fail
  clear c0 c1
  refine (h13 _ G9.out).mono ?_
  rintro e w10 ⟨rfl, hb⟩
  have G10 := Lib.hid (G9.out.below hb)
  have B10 := Lib.hid (B9.out.trans (hb.mono B9.out.size))
  have X10 := Lib.hid (X9.out.below hb)
  clear hb
  have c0 := X10.out.c0
  have c1 := X10.out.c1
  go_wp2_with fail
  clear c0 c1
  refine (err0 _ G10.out).mono ?_
  rintro e w11 ⟨rfl, hb⟩
  have G11 := Lib.hid (G10.out.below hb)
  have B11 := Lib.hid (B10.out.trans (hb.mono B10.out.size))
  have X11 := Lib.hid (X10.out.below hb)
  clear hb
  have c0 := X11.out.c0
  have c1 := X11.out.c1
  simp only [strV_def]
  go_wp2_with fail
  clear c0 c1
  refine (h14 _).mono ?_
  rintro e w12 ⟨rfl, hb⟩
  have G12 := Lib.hid (G11.out.below hb)
  have B12 := Lib.hid (B11.out.trans (hb.mono B11.out.size))
  have X12 := Lib.hid (X11.out.below hb)
  clear hb
  have c0 := X12.out.c0
  have c1 := X12.out.c1
  have hb := belowA w12 (.cells #[.int .i64 0, .int .i64 0] 23)
  clear c0 c1
  have G13 := Lib.hid (G12.out.below hb)
  have B13 := Lib.hid (B12.out.trans (hb.mono B12.out.size))
  have X13 := Lib.hid (X12.out.below hb)
  have Y13 := Lib.hid (show Bx (w12.alloc (.cells #[.int .i64 0, .int .i64 0] 23)) w12.heap.size 0 0 from ⟨by simp, by simp⟩)
  clear hb
  have c0 := X13.out.c0
  have c1 := X13.out.c1
  have d0 := Y13.out.c0
  have d1 := Y13.out.c1
  go_wp2_with fail
  clear c0 c1 d0 d1
  refine (h15 _ G13.out).mono ?_
  rintro e w14 ⟨rfl, hb⟩
  have G14 := Lib.hid (G13.out.below hb)
  have B14 := Lib.hid (B13.out.trans (hb.mono B13.out.size))
  have X14 := Lib.hid (X13.out.below hb)
  have Y14 := Lib.hid (Y13.out.below hb)
  clear hb
  have c0 := X14.out.c0
  have c1 := X14.out.c1
  have d0 := Y14.out.c0
  have d1 := Y14.out.c1
  have hb := belowA w14 (.cells #[.int .i64 0, .int .i64 0] 23)
  clear c0 c1 d0 d1
  have G15 := Lib.hid (G14.out.below hb)
  have B15 := Lib.hid (B14.out.trans (hb.mono B14.out.size))
  have X15 := Lib.hid (X14.out.below hb)
  have Y15 := Lib.hid (Y14.out.below hb)
  have Z15 := Lib.hid (show Bx (w14.alloc (.cells #[.int .i64 0, .int .i64 0] 23)) w14.heap.size 0 0 from ⟨by simp, by simp⟩)
  clear hb
  have c0 := X15.out.c0
  have c1 := X15.out.c1
  have d0 := Y15.out.c0
  have d1 := Y15.out.c1
  have e0 := Z15.out.c0
  have e1 := Z15.out.c1
  go_wp2_with fail
  clear c0 c1 d0 d1 e0 e1
  refine (err2 _ G15.out).mono ?_
  rintro e w16 ⟨rfl, hb⟩
  have G16 := Lib.hid (G15.out.below hb)
  have B16 := Lib.hid (B15.out.trans (hb.mono B15.out.size))
  have X16 := Lib.hid (X15.out.below hb)
  have Y16 := Lib.hid (Y15.out.below hb)
  have Z16 := Lib.hid (Z15.out.below hb)
  clear hb
  have c0 := X16.out.c0
  have c1 := X16.out.c1
  have d0 := Y16.out.c0
  have d1 := Y16.out.c1
  have e0 := Z16.out.c0
  have e1 := Z16.out.c1
  go_wp2
  go_ret
  exact ⟨rfl, B16.out⟩

set_option maxHeartbeats 4000000 in
set_option maxRecDepth 1000000 in
theorem law_1101 (a pa pn : Int) (l : List UInt8) (w : World) (G : Glob w) (hs : l.length < 4294967281) (hA : addrB a = true) (n : Nat) (hS : tx.readAddr l = some n) (hP : tx.pfault pa pn ≠ 0) (qa qn : Nat) (hQ : tx.readPrefix l = some (qa, qn)) :
    Calls Tryz.prog 3 #[.int .i64 a, .agg #[.int .i64 pa, .int .i64 pn], strV l] w fun e w' => e = .returned (.bool true) ∧ Below w.heap.size w w' := by
  have h4 := fun w => addr_any a w
  rw [hA] at h4
  obtain ⟨a0, a1⟩ := addrB_iff.1 hA
  have h5 := fun w => show_any a a0 a1 w
  have h6 := fun w G => print_ok a a0 a1 w G
  have h8 := fun w => readAddr_any l w hs
  rw [hS] at h8
  have h8 : ∀ w, Calls Tryz.prog 8 #[strV l] w fun e w' => e = .returned (.int .i64 n) ∧ Below w.heap.size w w' := h8
  have h9 := fun w G => parse_any l w hs G
  rw [hS] at h9
  have h9 : ∀ w (_ : Glob w), Calls Tryz.prog 9 #[strV l] w fun e w' => e = .returned (.tuple #[.int .i64 n, .nilIface]) ∧ Below w.heap.size w w' := h9
  have h10 := fun w => prefix_any pa pn w
  have h12 := fun w => check_any pa pn w
  have h13 := fun w => printPrefix_bad pa pn hP w
  have hE := fun w G => errF _ hP w G
  have he : errV (tx.pfault pa pn) = .iface 44 (.int .i64 (tx.pfault pa pn)) := by unfold errV; rw [if_neg hP]
  rw [he] at h12 h13
  have hF1 : (tx.pfault pa pn == 0) = false := beq_eq_false_iff_ne.2 hP
  generalize tx.pfault pa pn = F at *
  have h14 := fun w => readPrefix_any l w hs
  have h15 := fun w G => parsePrefix_any l w hs G
  rw [hQ] at h14 h15
  have h14 : ∀ w, Calls Tryz.prog 14 #[strV l] w fun e w' => e = .returned (.tuple #[.agg #[.int .i64 qa, .int .i64 qn], .bool true]) ∧ Below w.heap.size w w' := h14
  have h15 : ∀ w (_ : Glob w), Calls Tryz.prog 15 #[strV l] w fun e w' => e = .returned (.tuple #[.agg #[.int .i64 qa, .int .i64 qn], .nilIface]) ∧ Below w.heap.size w w' := h15
  have X0 := Lib.hid (show Bx (w.alloc (.cells #[.int .i64 pa, .int .i64 pn] 23)) w.heap.size pa pn from ⟨by simp, by simp⟩)
  have B0 := Lib.hid (belowA w (.cells #[.int .i64 pa, .int .i64 pn] 23))
  have G0 := Lib.hid (G.below B0.out)
  clear hA hS hP hQ hs G he
  go_enter Tryz.func3, Tryz.ntmps3
  have c0 := X0.out.c0
  have c1 := X0.out.c1
  go_wp2_with fail
  clear c0 c1
  refine (h4 _).mono ?_
  rintro e w' ⟨rfl, rfl⟩
  have c0 := X0.out.c0
  have c1 := X0.out.c1
  go_wp2_with fail
  clear c0 c1
  refine (h5 _).mono ?_
  rintro e w' ⟨rfl, rfl⟩
  have c0 := X0.out.c0
  have c1 := X0.out.c1
  go_wp2_with fail
  clear c0 c1
  refine (h6 _ G0.out).mono ?_
  rintro e w1 ⟨rfl, hb⟩
  have G1 := Lib.hid (G0.out.below hb)
  have B1 := Lib.hid (B0.out.trans (hb.mono B0.out.size))
  have X1 := Lib.hid (X0.out.below hb)
  clear hb
  have c0 := X1.out.c0
  have c1 := X1.out.c1
  go_wp2_with fail
  clear c0 c1
  refine (err0 _ G1.out).mono ?_
  rintro e w2 ⟨rfl, hb⟩
  have G2 := Lib.hid (G1.out.below hb)
  have B2 := Lib.hid (B1.out.trans (hb.mono B1.out.size))
  have X2 := Lib.hid (X1.out.below hb)
  clear hb
  have c0 := X2.out.c0
  have c1 := X2.out.c1
  simp only [strV_def]
  go_wp2_with fail
  clear c0 c1
  refine (h8 _).mono ?_
  rintro e w3 ⟨rfl, hb⟩
  have G3 := Lib.hid (G2.out.below hb)
  have B3 := Lib.hid (B2.out.trans (hb.mono B2.out.size))
  have X3 := Lib.hid (X2.out.below hb)
  clear hb
  have c0 := X3.out.c0
  have c1 := X3.out.c1
  go_wp2_with fail
  clear c0 c1
  refine (h9 _ G3.out).mono ?_
  rintro e w4 ⟨rfl, hb⟩
  have G4 := Lib.hid (G3.out.below hb)
  have B4 := Lib.hid (B3.out.trans (hb.mono B3.out.size))
  have X4 := Lib.hid (X3.out.below hb)
  clear hb
  have c0 := X4.out.c0
  have c1 := X4.out.c1
  go_wp2_with fail
  clear c0 c1
  refine (err0 _ G4.out).mono ?_
  rintro e w5 ⟨rfl, hb⟩
  have G5 := Lib.hid (G4.out.below hb)
  have B5 := Lib.hid (B4.out.trans (hb.mono B4.out.size))
  have X5 := Lib.hid (X4.out.below hb)
  clear hb
  have c0 := X5.out.c0
  have c1 := X5.out.c1
  go_wp2_with fail
  clear c0 c1
  refine (h10 _).mono ?_
  rintro e w6 ⟨rfl, hb⟩
  have G6 := Lib.hid (G5.out.below hb)
  have B6 := Lib.hid (B5.out.trans (hb.mono B5.out.size))
  have X6 := Lib.hid (X5.out.below hb)
  clear hb
  have c0 := X6.out.c0
  have c1 := X6.out.c1
  go_wp2_with fail
  clear c0 c1
  refine (h12 _).mono ?_
  rintro e w7 ⟨rfl, hb⟩
  have G7 := Lib.hid (G6.out.below hb)
  have B7 := Lib.hid (B6.out.trans (hb.mono B6.out.size))
  have X7 := Lib.hid (X6.out.below hb)
  clear hb
  have c0 := X7.out.c0
  have c1 := X7.out.c1
  go_wp2_with fail
  clear c0 c1
  refine (hE _ G7.out).mono ?_
  rintro e w8 ⟨rfl, hb⟩
  have G8 := Lib.hid (G7.out.below hb)
  have B8 := Lib.hid (B7.out.trans (hb.mono B7.out.size))
  have X8 := Lib.hid (X7.out.below hb)
  clear hb
  have c0 := X8.out.c0
  have c1 := X8.out.c1
  go_wp2_with fail
  clear c0 c1
  refine (h13 _).mono ?_
  rintro e w9 ⟨rfl, hb⟩
  have G9 := Lib.hid (G8.out.below hb)
  have B9 := Lib.hid (B8.out.trans (hb.mono B8.out.size))
  have X9 := Lib.hid (X8.out.below hb)
  clear hb
  have c0 := X9.out.c0
  have c1 := X9.out.c1
  go_wp2_with fail
  clear c0 c1
  refine (hE _ G9.out).mono ?_
  rintro e w10 ⟨rfl, hb⟩
  have G10 := Lib.hid (G9.out.below hb)
  have B10 := Lib.hid (B9.out.trans (hb.mono B9.out.size))
  have X10 := Lib.hid (X9.out.below hb)
  clear hb
  have c0 := X10.out.c0
  have c1 := X10.out.c1
  simp only [strV_def]
  go_wp2_with fail
  clear c0 c1
  refine (h14 _).mono ?_
  rintro e w11 ⟨rfl, hb⟩
  have G11 := Lib.hid (G10.out.below hb)
  have B11 := Lib.hid (B10.out.trans (hb.mono B10.out.size))
  have X11 := Lib.hid (X10.out.below hb)
  clear hb
  have c0 := X11.out.c0
  have c1 := X11.out.c1
  have hb := belowA w11 (.cells #[.int .i64 qa, .int .i64 qn] 23)
  clear c0 c1
  have G12 := Lib.hid (G11.out.below hb)
  have B12 := Lib.hid (B11.out.trans (hb.mono B11.out.size))
  have X12 := Lib.hid (X11.out.below hb)
  have Y12 := Lib.hid (show Bx (w11.alloc (.cells #[.int .i64 qa, .int .i64 qn] 23)) w11.heap.size qa qn from ⟨by simp, by simp⟩)
  clear hb
  have c0 := X12.out.c0
  have c1 := X12.out.c1
  have d0 := Y12.out.c0
  have d1 := Y12.out.c1
  go_wp2_with fail
  clear c0 c1 d0 d1
  refine (h15 _ G12.out).mono ?_
  rintro e w13 ⟨rfl, hb⟩
  have G13 := Lib.hid (G12.out.below hb)
  have B13 := Lib.hid (B12.out.trans (hb.mono B12.out.size))
  have X13 := Lib.hid (X12.out.below hb)
  have Y13 := Lib.hid (Y12.out.below hb)
  clear hb
  have c0 := X13.out.c0
  have c1 := X13.out.c1
  have d0 := Y13.out.c0
  have d1 := Y13.out.c1
  have hb := belowA w13 (.cells #[.int .i64 qa, .int .i64 qn] 23)
  clear c0 c1 d0 d1
  have G14 := Lib.hid (G13.out.below hb)
  have B14 := Lib.hid (B13.out.trans (hb.mono B13.out.size))
  have X14 := Lib.hid (X13.out.below hb)
  have Y14 := Lib.hid (Y13.out.below hb)
  have Z14 := Lib.hid (show Bx (w13.alloc (.cells #[.int .i64 qa, .int .i64 qn] 23)) w13.heap.size qa qn from ⟨by simp, by simp⟩)
  clear hb
  have c0 := X14.out.c0
  have c1 := X14.out.c1
  have d0 := Y14.out.c0
  have d1 := Y14.out.c1
  have e0 := Z14.out.c0
  have e1 := Z14.out.c1
  go_wp2_with fail
  clear c0 c1 d0 d1 e0 e1
  refine (err0 _ G14.out).mono ?_
  rintro e w15 ⟨rfl, hb⟩
  have G15 := Lib.hid (G14.out.below hb)
  have B15 := Lib.hid (B14.out.trans (hb.mono B14.out.size))
  have X15 := Lib.hid (X14.out.below hb)
  have Y15 := Lib.hid (Y14.out.below hb)
  have Z15 := Lib.hid (Z14.out.below hb)
  clear hb
  have c0 := X15.out.c0
  have c1 := X15.out.c1
  have d0 := Y15.out.c0
  have d1 := Y15.out.c1
  have e0 := Z15.out.c0
  have e1 := Z15.out.c1
  go_wp2
  go_ret
  exact ⟨rfl, B15.out⟩

set_option maxHeartbeats 4000000 in
set_option maxRecDepth 1000000 in
theorem law_1100 (a pa pn : Int) (l : List UInt8) (w : World) (G : Glob w) (hs : l.length < 4294967281) (hA : addrB a = true) (n : Nat) (hS : tx.readAddr l = some n) (hP : tx.pfault pa pn ≠ 0) (hQ : tx.readPrefix l = none) :
    Calls Tryz.prog 3 #[.int .i64 a, .agg #[.int .i64 pa, .int .i64 pn], strV l] w fun e w' => e = .returned (.bool true) ∧ Below w.heap.size w w' := by
  have h4 := fun w => addr_any a w
  rw [hA] at h4
  obtain ⟨a0, a1⟩ := addrB_iff.1 hA
  have h5 := fun w => show_any a a0 a1 w
  have h6 := fun w G => print_ok a a0 a1 w G
  have h8 := fun w => readAddr_any l w hs
  rw [hS] at h8
  have h8 : ∀ w, Calls Tryz.prog 8 #[strV l] w fun e w' => e = .returned (.int .i64 n) ∧ Below w.heap.size w w' := h8
  have h9 := fun w G => parse_any l w hs G
  rw [hS] at h9
  have h9 : ∀ w (_ : Glob w), Calls Tryz.prog 9 #[strV l] w fun e w' => e = .returned (.tuple #[.int .i64 n, .nilIface]) ∧ Below w.heap.size w w' := h9
  have h10 := fun w => prefix_any pa pn w
  have h12 := fun w => check_any pa pn w
  have h13 := fun w => printPrefix_bad pa pn hP w
  have hE := fun w G => errF _ hP w G
  have he : errV (tx.pfault pa pn) = .iface 44 (.int .i64 (tx.pfault pa pn)) := by unfold errV; rw [if_neg hP]
  rw [he] at h12 h13
  have hF1 : (tx.pfault pa pn == 0) = false := beq_eq_false_iff_ne.2 hP
  generalize tx.pfault pa pn = F at *
  have h14 := fun w => readPrefix_any l w hs
  have h15 := fun w G => parsePrefix_any l w hs G
  rw [hQ] at h14 h15
  have h14 : ∀ w, Calls Tryz.prog 14 #[strV l] w fun e w' => e = .returned (.tuple #[.agg #[.int .i64 0, .int .i64 0], .bool false]) ∧ Below w.heap.size w w' := h14
  have h15 : ∀ w (_ : Glob w), Calls Tryz.prog 15 #[strV l] w fun e w' => e = .returned (.tuple #[.agg #[.int .i64 0, .int .i64 0], .iface 44 (.int .i64 2)]) ∧ Below w.heap.size w w' := h15
  have X0 := Lib.hid (show Bx (w.alloc (.cells #[.int .i64 pa, .int .i64 pn] 23)) w.heap.size pa pn from ⟨by simp, by simp⟩)
  have B0 := Lib.hid (belowA w (.cells #[.int .i64 pa, .int .i64 pn] 23))
  have G0 := Lib.hid (G.below B0.out)
  clear hA hS hP hQ hs G he
  go_enter Tryz.func3, Tryz.ntmps3
  have c0 := X0.out.c0
  have c1 := X0.out.c1
  go_wp2_with fail
  clear c0 c1
  refine (h4 _).mono ?_
  rintro e w' ⟨rfl, rfl⟩
  have c0 := X0.out.c0
  have c1 := X0.out.c1
  go_wp2_with fail
  clear c0 c1
  refine (h5 _).mono ?_
  rintro e w' ⟨rfl, rfl⟩
  have c0 := X0.out.c0
  have c1 := X0.out.c1
  go_wp2_with fail
  clear c0 c1
  refine (h6 _ G0.out).mono ?_
  rintro e w1 ⟨rfl, hb⟩
  have G1 := Lib.hid (G0.out.below hb)
  have B1 := Lib.hid (B0.out.trans (hb.mono B0.out.size))
  have X1 := Lib.hid (X0.out.below hb)
  clear hb
  have c0 := X1.out.c0
  have c1 := X1.out.c1
  go_wp2_with fail
  clear c0 c1
  refine (err0 _ G1.out).mono ?_
  rintro e w2 ⟨rfl, hb⟩
  have G2 := Lib.hid (G1.out.below hb)
  have B2 := Lib.hid (B1.out.trans (hb.mono B1.out.size))
  have X2 := Lib.hid (X1.out.below hb)
  clear hb
  have c0 := X2.out.c0
  have c1 := X2.out.c1
  simp only [strV_def]
  go_wp2_with fail
  clear c0 c1
  refine (h8 _).mono ?_
  rintro e w3 ⟨rfl, hb⟩
  have G3 := Lib.hid (G2.out.below hb)
  have B3 := Lib.hid (B2.out.trans (hb.mono B2.out.size))
  have X3 := Lib.hid (X2.out.below hb)
  clear hb
  have c0 := X3.out.c0
  have c1 := X3.out.c1
  go_wp2_with fail
  clear c0 c1
  refine (h9 _ G3.out).mono ?_
  rintro e w4 ⟨rfl, hb⟩
  have G4 := Lib.hid (G3.out.below hb)
  have B4 := Lib.hid (B3.out.trans (hb.mono B3.out.size))
  have X4 := Lib.hid (X3.out.below hb)
  clear hb
  have c0 := X4.out.c0
  have c1 := X4.out.c1
  go_wp2_with fail
  clear c0 c1
  refine (err0 _ G4.out).mono ?_
  rintro e w5 ⟨rfl, hb⟩
  have G5 := Lib.hid (G4.out.below hb)
  have B5 := Lib.hid (B4.out.trans (hb.mono B4.out.size))
  have X5 := Lib.hid (X4.out.below hb)
  clear hb
  have c0 := X5.out.c0
  have c1 := X5.out.c1
  go_wp2_with fail
  clear c0 c1
  refine (h10 _).mono ?_
  rintro e w6 ⟨rfl, hb⟩
  have G6 := Lib.hid (G5.out.below hb)
  have B6 := Lib.hid (B5.out.trans (hb.mono B5.out.size))
  have X6 := Lib.hid (X5.out.below hb)
  clear hb
  have c0 := X6.out.c0
  have c1 := X6.out.c1
  go_wp2_with fail
  clear c0 c1
  refine (h12 _).mono ?_
  rintro e w7 ⟨rfl, hb⟩
  have G7 := Lib.hid (G6.out.below hb)
  have B7 := Lib.hid (B6.out.trans (hb.mono B6.out.size))
  have X7 := Lib.hid (X6.out.below hb)
  clear hb
  have c0 := X7.out.c0
  have c1 := X7.out.c1
  go_wp2_with fail
  clear c0 c1
  refine (hE _ G7.out).mono ?_
  rintro e w8 ⟨rfl, hb⟩
  have G8 := Lib.hid (G7.out.below hb)
  have B8 := Lib.hid (B7.out.trans (hb.mono B7.out.size))
  have X8 := Lib.hid (X7.out.below hb)
  clear hb
  have c0 := X8.out.c0
  have c1 := X8.out.c1
  go_wp2_with fail
  clear c0 c1
  refine (h13 _).mono ?_
  rintro e w9 ⟨rfl, hb⟩
  have G9 := Lib.hid (G8.out.below hb)
  have B9 := Lib.hid (B8.out.trans (hb.mono B8.out.size))
  have X9 := Lib.hid (X8.out.below hb)
  clear hb
  have c0 := X9.out.c0
  have c1 := X9.out.c1
  go_wp2_with fail
  clear c0 c1
  refine (hE _ G9.out).mono ?_
  rintro e w10 ⟨rfl, hb⟩
  have G10 := Lib.hid (G9.out.below hb)
  have B10 := Lib.hid (B9.out.trans (hb.mono B9.out.size))
  have X10 := Lib.hid (X9.out.below hb)
  clear hb
  have c0 := X10.out.c0
  have c1 := X10.out.c1
  simp only [strV_def]
  go_wp2_with fail
  clear c0 c1
  refine (h14 _).mono ?_
  rintro e w11 ⟨rfl, hb⟩
  have G11 := Lib.hid (G10.out.below hb)
  have B11 := Lib.hid (B10.out.trans (hb.mono B10.out.size))
  have X11 := Lib.hid (X10.out.below hb)
  clear hb
  have c0 := X11.out.c0
  have c1 := X11.out.c1
  have hb := belowA w11 (.cells #[.int .i64 0, .int .i64 0] 23)
  clear c0 c1
  have G12 := Lib.hid (G11.out.below hb)
  have B12 := Lib.hid (B11.out.trans (hb.mono B11.out.size))
  have X12 := Lib.hid (X11.out.below hb)
  have Y12 := Lib.hid (show Bx (w11.alloc (.cells #[.int .i64 0, .int .i64 0] 23)) w11.heap.size 0 0 from ⟨by simp, by simp⟩)
  clear hb
  have c0 := X12.out.c0
  have c1 := X12.out.c1
  have d0 := Y12.out.c0
  have d1 := Y12.out.c1
  go_wp2_with fail
  clear c0 c1 d0 d1
  refine (h15 _ G12.out).mono ?_
  rintro e w13 ⟨rfl, hb⟩
  have G13 := Lib.hid (G12.out.below hb)
  have B13 := Lib.hid (B12.out.trans (hb.mono B12.out.size))
  have X13 := Lib.hid (X12.out.below hb)
  have Y13 := Lib.hid (Y12.out.below hb)
  clear hb
  have c0 := X13.out.c0
  have c1 := X13.out.c1
  have d0 := Y13.out.c0
  have d1 := Y13.out.c1
  have hb := belowA w13 (.cells #[.int .i64 0, .int .i64 0] 23)
  clear c0 c1 d0 d1
  have G14 := Lib.hid (G13.out.below hb)
  have B14 := Lib.hid (B13.out.trans (hb.mono B13.out.size))
  have X14 := Lib.hid (X13.out.below hb)
  have Y14 := Lib.hid (Y13.out.below hb)
  have Z14 := Lib.hid (show Bx (w13.alloc (.cells #[.int .i64 0, .int .i64 0] 23)) w13.heap.size 0 0 from ⟨by simp, by simp⟩)
  clear hb
  have c0 := X14.out.c0
  have c1 := X14.out.c1
  have d0 := Y14.out.c0
  have d1 := Y14.out.c1
  have e0 := Z14.out.c0
  have e1 := Z14.out.c1
  go_wp2_with fail
  clear c0 c1 d0 d1 e0 e1
  refine (err2 _ G14.out).mono ?_
  rintro e w15 ⟨rfl, hb⟩
  have G15 := Lib.hid (G14.out.below hb)
  have B15 := Lib.hid (B14.out.trans (hb.mono B14.out.size))
  have X15 := Lib.hid (X14.out.below hb)
  have Y15 := Lib.hid (Y14.out.below hb)
  have Z15 := Lib.hid (Z14.out.below hb)
  clear hb
  have c0 := X15.out.c0
  have c1 := X15.out.c1
  have d0 := Y15.out.c0
  have d1 := Y15.out.c1
  have e0 := Z15.out.c0
  have e1 := Z15.out.c1
  go_wp2
  go_ret
  exact ⟨rfl, B15.out⟩

set_option maxHeartbeats 4000000 in
set_option maxRecDepth 1000000 in
theorem law_1011 (a pa pn : Int) (l : List UInt8) (w : World) (G : Glob w) (hs : l.length < 4294967281) (hA : addrB a = true) (hS : tx.readAddr l = none) (hP : tx.pfault pa pn = 0) (qa qn : Nat) (hQ : tx.readPrefix l = some (qa, qn)) :
    Calls Tryz.prog 3 #[.int .i64 a, .agg #[.int .i64 pa, .int .i64 pn], strV l] w fun e w' => e = .returned (.bool true) ∧ Below w.heap.size w w' := by
  have h4 := fun w => addr_any a w
  rw [hA] at h4
  obtain ⟨a0, a1⟩ := addrB_iff.1 hA
  have h5 := fun w => show_any a a0 a1 w
  have h6 := fun w G => print_ok a a0 a1 w G
  have h8 := fun w => readAddr_any l w hs
  rw [hS] at h8
  have h8 : ∀ w, Calls Tryz.prog 8 #[strV l] w fun e w' => e = .returned (.int .i64 (-1)) ∧ Below w.heap.size w w' := h8
  have h9 := fun w G => parse_any l w hs G
  rw [hS] at h9
  have h9 : ∀ w (_ : Glob w), Calls Tryz.prog 9 #[strV l] w fun e w' => e = .returned (.tuple #[.int .i64 0, .iface 44 (.int .i64 2)]) ∧ Below w.heap.size w w' := h9
  have h10 := fun w => prefix_any pa pn w
  have h12 := fun w => check_any pa pn w
  have h11 := fun w => showPrefix_any pa pn hP w
  have h13 := fun w G => printPrefix_ok pa pn hP w G
  rw [hP] at h10 h12
  rw [errV0] at h12
  have h14 := fun w => readPrefix_any l w hs
  have h15 := fun w G => parsePrefix_any l w hs G
  rw [hQ] at h14 h15
  have h14 : ∀ w, Calls Tryz.prog 14 #[strV l] w fun e w' => e = .returned (.tuple #[.agg #[.int .i64 qa, .int .i64 qn], .bool true]) ∧ Below w.heap.size w w' := h14
  have h15 : ∀ w (_ : Glob w), Calls Tryz.prog 15 #[strV l] w fun e w' => e = .returned (.tuple #[.agg #[.int .i64 qa, .int .i64 qn], .nilIface]) ∧ Below w.heap.size w w' := h15
  have X0 := Lib.hid (show Bx (w.alloc (.cells #[.int .i64 pa, .int .i64 pn] 23)) w.heap.size pa pn from ⟨by simp, by simp⟩)
  have B0 := Lib.hid (belowA w (.cells #[.int .i64 pa, .int .i64 pn] 23))
  have G0 := Lib.hid (G.below B0.out)
  clear hA hS hP hQ hs G
  go_enter Tryz.func3, Tryz.ntmps3
  have c0 := X0.out.c0
  have c1 := X0.out.c1
  go_wp2_with fail
  clear c0 c1
  refine (h4 _).mono ?_
  rintro e w' ⟨rfl, rfl⟩
  have c0 := X0.out.c0
  have c1 := X0.out.c1
  go_wp2_with fail
  clear c0 c1
  refine (h5 _).mono ?_
  rintro e w' ⟨rfl, rfl⟩
  have c0 := X0.out.c0
  have c1 := X0.out.c1
  go_wp2_with fail
  clear c0 c1
  refine (h6 _ G0.out).mono ?_
  rintro e w1 ⟨rfl, hb⟩
  have G1 := Lib.hid (G0.out.below hb)
  have B1 := Lib.hid (B0.out.trans (hb.mono B0.out.size))
  have X1 := Lib.hid (X0.out.below hb)
  clear hb
  have c0 := X1.out.c0
  have c1 := X1.out.c1
  go_wp2_with fail
  clear c0 c1
  refine (err0 _ G1.out).mono ?_
  rintro e w2 ⟨rfl, hb⟩
  have G2 := Lib.hid (G1.out.below hb)
  have B2 := Lib.hid (B1.out.trans (hb.mono B1.out.size))
  have X2 := Lib.hid (X1.out.below hb)
  clear hb
  have c0 := X2.out.c0
  have c1 := X2.out.c1
  simp only [strV_def]
  go_wp2_with fail
  clear c0 c1
  refine (h8 _).mono ?_
  rintro e w3 ⟨rfl, hb⟩
  have G3 := Lib.hid (G2.out.below hb)
  have B3 := Lib.hid (B2.out.trans (hb.mono B2.out.size))
  have X3 := Lib.hid (X2.out.below hb)
  clear hb
  have c0 := X3.out.c0
  have c1 := X3.out.c1
  go_wp2_with fail
  clear c0 c1
  refine (h9 _ G3.out).mono ?_
  rintro e w4 ⟨rfl, hb⟩
  have G4 := Lib.hid (G3.out.below hb)
  have B4 := Lib.hid (B3.out.trans (hb.mono B3.out.size))
  have X4 := Lib.hid (X3.out.below hb)
  clear hb
  have c0 := X4.out.c0
  have c1 := X4.out.c1
  go_wp2_with fail
  clear c0 c1
  refine (err2 _ G4.out).mono ?_
  rintro e w5 ⟨rfl, hb⟩
  have G5 := Lib.hid (G4.out.below hb)
  have B5 := Lib.hid (B4.out.trans (hb.mono B4.out.size))
  have X5 := Lib.hid (X4.out.below hb)
  clear hb
  have c0 := X5.out.c0
  have c1 := X5.out.c1
  go_wp2_with fail
  clear c0 c1
  refine (h10 _).mono ?_
  rintro e w6 ⟨rfl, hb⟩
  have G6 := Lib.hid (G5.out.below hb)
  have B6 := Lib.hid (B5.out.trans (hb.mono B5.out.size))
  have X6 := Lib.hid (X5.out.below hb)
  clear hb
  have c0 := X6.out.c0
  have c1 := X6.out.c1
  go_wp2_with fail
  clear c0 c1
  refine (h11 _).mono ?_
  rintro e w7 ⟨rfl, hb⟩
  have G7 := Lib.hid (G6.out.below hb)
  have B7 := Lib.hid (B6.out.trans (hb.mono B6.out.size))
  have X7 := Lib.hid (X6.out.below hb)
  clear hb
  have c0 := X7.out.c0
  have c1 := X7.out.c1
  go_wp2_with fail
  clear c0 c1
  refine (h12 _).mono ?_
  rintro e w8 ⟨rfl, hb⟩
  have G8 := Lib.hid (G7.out.below hb)
  have B8 := Lib.hid (B7.out.trans (hb.mono B7.out.size))
  have X8 := Lib.hid (X7.out.below hb)
  clear hb
  have c0 := X8.out.c0
  have c1 := X8.out.c1
  go_wp2_with fail
  clear c0 c1
  refine (err0 _ G8.out).mono ?_
  rintro e w9 ⟨rfl, hb⟩
  have G9 := Lib.hid (G8.out.below hb)
  have B9 := Lib.hid (B8.out.trans (hb.mono B8.out.size))
  have X9 := Lib.hid (X8.out.below hb)
  clear hb
  have c0 := X9.out.c0
  have c1 := X9.out.c1
  go_wp2_with fail
  clear c0 c1
  refine (h13 _ G9.out).mono ?_
  rintro e w10 ⟨rfl, hb⟩
  have G10 := Lib.hid (G9.out.below hb)
  have B10 := Lib.hid (B9.out.trans (hb.mono B9.out.size))
  have X10 := Lib.hid (X9.out.below hb)
  clear hb
  have c0 := X10.out.c0
  have c1 := X10.out.c1
  go_wp2_with fail
  clear c0 c1
  refine (err0 _ G10.out).mono ?_
  rintro e w11 ⟨rfl, hb⟩
  have G11 := Lib.hid (G10.out.below hb)
  have B11 := Lib.hid (B10.out.trans (hb.mono B10.out.size))
  have X11 := Lib.hid (X10.out.below hb)
  clear hb
  have c0 := X11.out.c0
  have c1 := X11.out.c1
  simp only [strV_def]
  go_wp2_with fail
  clear c0 c1
  refine (h14 _).mono ?_
  rintro e w12 ⟨rfl, hb⟩
  have G12 := Lib.hid (G11.out.below hb)
  have B12 := Lib.hid (B11.out.trans (hb.mono B11.out.size))
  have X12 := Lib.hid (X11.out.below hb)
  clear hb
  have c0 := X12.out.c0
  have c1 := X12.out.c1
  have hb := belowA w12 (.cells #[.int .i64 qa, .int .i64 qn] 23)
  clear c0 c1
  have G13 := Lib.hid (G12.out.below hb)
  have B13 := Lib.hid (B12.out.trans (hb.mono B12.out.size))
  have X13 := Lib.hid (X12.out.below hb)
  have Y13 := Lib.hid (show Bx (w12.alloc (.cells #[.int .i64 qa, .int .i64 qn] 23)) w12.heap.size qa qn from ⟨by simp, by simp⟩)
  clear hb
  have c0 := X13.out.c0
  have c1 := X13.out.c1
  have d0 := Y13.out.c0
  have d1 := Y13.out.c1
  go_wp2_with fail
  clear c0 c1 d0 d1
  refine (h15 _ G13.out).mono ?_
  rintro e w14 ⟨rfl, hb⟩
  have G14 := Lib.hid (G13.out.below hb)
  have B14 := Lib.hid (B13.out.trans (hb.mono B13.out.size))
  have X14 := Lib.hid (X13.out.below hb)
  have Y14 := Lib.hid (Y13.out.below hb)
  clear hb
  have c0 := X14.out.c0
  have c1 := X14.out.c1
  have d0 := Y14.out.c0
  have d1 := Y14.out.c1
  have hb := belowA w14 (.cells #[.int .i64 qa, .int .i64 qn] 23)
  clear c0 c1 d0 d1
  have G15 := Lib.hid (G14.out.below hb)
  have B15 := Lib.hid (B14.out.trans (hb.mono B14.out.size))
  have X15 := Lib.hid (X14.out.below hb)
  have Y15 := Lib.hid (Y14.out.below hb)
  have Z15 := Lib.hid (show Bx (w14.alloc (.cells #[.int .i64 qa, .int .i64 qn] 23)) w14.heap.size qa qn from ⟨by simp, by simp⟩)
  clear hb
  have c0 := X15.out.c0
  have c1 := X15.out.c1
  have d0 := Y15.out.c0
  have d1 := Y15.out.c1
  have e0 := Z15.out.c0
  have e1 := Z15.out.c1
  go_wp2_with fail
  clear c0 c1 d0 d1 e0 e1
  refine (err0 _ G15.out).mono ?_
  rintro e w16 ⟨rfl, hb⟩
  have G16 := Lib.hid (G15.out.below hb)
  have B16 := Lib.hid (B15.out.trans (hb.mono B15.out.size))
  have X16 := Lib.hid (X15.out.below hb)
  have Y16 := Lib.hid (Y15.out.below hb)
  have Z16 := Lib.hid (Z15.out.below hb)
  clear hb
  have c0 := X16.out.c0
  have c1 := X16.out.c1
  have d0 := Y16.out.c0
  have d1 := Y16.out.c1
  have e0 := Z16.out.c0
  have e1 := Z16.out.c1
  go_wp2
  go_ret
  exact ⟨rfl, B16.out⟩

set_option maxHeartbeats 4000000 in
set_option maxRecDepth 1000000 in
theorem law_1010 (a pa pn : Int) (l : List UInt8) (w : World) (G : Glob w) (hs : l.length < 4294967281) (hA : addrB a = true) (hS : tx.readAddr l = none) (hP : tx.pfault pa pn = 0) (hQ : tx.readPrefix l = none) :
    Calls Tryz.prog 3 #[.int .i64 a, .agg #[.int .i64 pa, .int .i64 pn], strV l] w fun e w' => e = .returned (.bool true) ∧ Below w.heap.size w w' := by
  have h4 := fun w => addr_any a w
  rw [hA] at h4
  obtain ⟨a0, a1⟩ := addrB_iff.1 hA
  have h5 := fun w => show_any a a0 a1 w
  have h6 := fun w G => print_ok a a0 a1 w G
  have h8 := fun w => readAddr_any l w hs
  rw [hS] at h8
  have h8 : ∀ w, Calls Tryz.prog 8 #[strV l] w fun e w' => e = .returned (.int .i64 (-1)) ∧ Below w.heap.size w w' := h8
  have h9 := fun w G => parse_any l w hs G
  rw [hS] at h9
  have h9 : ∀ w (_ : Glob w), Calls Tryz.prog 9 #[strV l] w fun e w' => e = .returned (.tuple #[.int .i64 0, .iface 44 (.int .i64 2)]) ∧ Below w.heap.size w w' := h9
  have h10 := fun w => prefix_any pa pn w
  have h12 := fun w => check_any pa pn w
  have h11 := fun w => showPrefix_any pa pn hP w
  have h13 := fun w G => printPrefix_ok pa pn hP w G
  rw [hP] at h10 h12
  rw [errV0] at h12
  have h14 := fun w => readPrefix_any l w hs
  have h15 := fun w G => parsePrefix_any l w hs G
  rw [hQ] at h14 h15
  have h14 : ∀ w, Calls Tryz.prog 14 #[strV l] w fun e w' => e = .returned (.tuple #[.agg #[.int .i64 0, .int .i64 0], .bool false]) ∧ Below w.heap.size w w' := h14
  have h15 : ∀ w (_ : Glob w), Calls Tryz.prog 15 #[strV l] w fun e w' => e = .returned (.tuple #[.agg #[.int .i64 0, .int .i64 0], .iface 44 (.int .i64 2)]) ∧ Below w.heap.size w w' := h15
  have X0 := Lib.hid (show Bx (w.alloc (.cells #[.int .i64 pa, .int .i64 pn] 23)) w.heap.size pa pn from ⟨by simp, by simp⟩)
  have B0 := Lib.hid (belowA w (.cells #[.int .i64 pa, .int .i64 pn] 23))
  have G0 := Lib.hid (G.below B0.out)
  clear hA hS hP hQ hs G
  go_enter Tryz.func3, Tryz.ntmps3
  have c0 := X0.out.c0
  have c1 := X0.out.c1
  go_wp2_with fail
  clear c0 c1
  refine (h4 _).mono ?_
  rintro e w' ⟨rfl, rfl⟩
  have c0 := X0.out.c0
  have c1 := X0.out.c1
  go_wp2_with fail
  clear c0 c1
  refine (h5 _).mono ?_
  rintro e w' ⟨rfl, rfl⟩
  have c0 := X0.out.c0
  have c1 := X0.out.c1
  go_wp2_with fail
  clear c0 c1
  refine (h6 _ G0.out).mono ?_
  rintro e w1 ⟨rfl, hb⟩
  have G1 := Lib.hid (G0.out.below hb)
  have B1 := Lib.hid (B0.out.trans (hb.mono B0.out.size))
  have X1 := Lib.hid (X0.out.below hb)
  clear hb
  have c0 := X1.out.c0
  have c1 := X1.out.c1
  go_wp2_with fail
  clear c0 c1
  refine (err0 _ G1.out).mono ?_
  rintro e w2 ⟨rfl, hb⟩
  have G2 := Lib.hid (G1.out.below hb)
  have B2 := Lib.hid (B1.out.trans (hb.mono B1.out.size))
  have X2 := Lib.hid (X1.out.below hb)
  clear hb
  have c0 := X2.out.c0
  have c1 := X2.out.c1
  simp only [strV_def]
  go_wp2_with fail
  clear c0 c1
  refine (h8 _).mono ?_
  rintro e w3 ⟨rfl, hb⟩
  have G3 := Lib.hid (G2.out.below hb)
  have B3 := Lib.hid (B2.out.trans (hb.mono B2.out.size))
  have X3 := Lib.hid (X2.out.below hb)
  clear hb
  have c0 := X3.out.c0
  have c1 := X3.out.c1
  go_wp2_with fail
  clear c0 c1
  refine (h9 _ G3.out).mono ?_
  rintro e w4 ⟨rfl, hb⟩
  have G4 := Lib.hid (G3.out.below hb)
  have B4 := Lib.hid (B3.out.trans (hb.mono B3.out.size))
  have X4 := Lib.hid (X3.out.below hb)
  clear hb
  have c0 := X4.out.c0
  have c1 := X4.out.c1
  go_wp2_with fail
  clear c0 c1
  refine (err2 _ G4.out).mono ?_
  rintro e w5 ⟨rfl, hb⟩
  have G5 := Lib.hid (G4.out.below hb)
  have B5 := Lib.hid (B4.out.trans (hb.mono B4.out.size))
  have X5 := Lib.hid (X4.out.below hb)
  clear hb
  have c0 := X5.out.c0
  have c1 := X5.out.c1
  go_wp2_with fail
  clear c0 c1
  refine (h10 _).mono ?_
  rintro e w6 ⟨rfl, hb⟩
  have G6 := Lib.hid (G5.out.below hb)
  have B6 := Lib.hid (B5.out.trans (hb.mono B5.out.size))
  have X6 := Lib.hid (X5.out.below hb)
  clear hb
  have c0 := X6.out.c0
  have c1 := X6.out.c1
  go_wp2_with fail
  clear c0 c1
  refine (h11 _).mono ?_
  rintro e w7 ⟨rfl, hb⟩
  have G7 := Lib.hid (G6.out.below hb)
  have B7 := Lib.hid (B6.out.trans (hb.mono B6.out.size))
  have X7 := Lib.hid (X6.out.below hb)
  clear hb
  have c0 := X7.out.c0
  have c1 := X7.out.c1
  go_wp2_with fail
  clear c0 c1
  refine (h12 _).mono ?_
  rintro e w8 ⟨rfl, hb⟩
  have G8 := Lib.hid (G7.out.below hb)
  have B8 := Lib.hid (B7.out.trans (hb.mono B7.out.size))
  have X8 := Lib.hid (X7.out.below hb)
  clear hb
  have c0 := X8.out.c0
  have c1 := X8.out.c1
  go_wp2_with fail
  clear c0 c1
  refine (err0 _ G8.out).mono ?_
  rintro e w9 ⟨rfl, hb⟩
  have G9 := Lib.hid (G8.out.below hb)
  have B9 := Lib.hid (B8.out.trans (hb.mono B8.out.size))
  have X9 := Lib.hid (X8.out.below hb)
  clear hb
  have c0 := X9.out.c0
  have c1 := X9.out.c1
  go_wp2_with fail
  clear c0 c1
  refine (h13 _ G9.out).mono ?_
  rintro e w10 ⟨rfl, hb⟩
  have G10 := Lib.hid (G9.out.below hb)
  have B10 := Lib.hid (B9.out.trans (hb.mono B9.out.size))
  have X10 := Lib.hid (X9.out.below hb)
  clear hb
  have c0 := X10.out.c0
  have c1 := X10.out.c1
  go_wp2_with fail
  clear c0 c1
  refine (err0 _ G10.out).mono ?_
  rintro e w11 ⟨rfl, hb⟩
  have G11 := Lib.hid (G10.out.below hb)
  have B11 := Lib.hid (B10.out.trans (hb.mono B10.out.size))
  have X11 := Lib.hid (X10.out.below hb)
  clear hb
  have c0 := X11.out.c0
  have c1 := X11.out.c1
  simp only [strV_def]
  go_wp2_with fail
  clear c0 c1
  refine (h14 _).mono ?_
  rintro e w12 ⟨rfl, hb⟩
  have G12 := Lib.hid (G11.out.below hb)
  have B12 := Lib.hid (B11.out.trans (hb.mono B11.out.size))
  have X12 := Lib.hid (X11.out.below hb)
  clear hb
  have c0 := X12.out.c0
  have c1 := X12.out.c1
  have hb := belowA w12 (.cells #[.int .i64 0, .int .i64 0] 23)
  clear c0 c1
  have G13 := Lib.hid (G12.out.below hb)
  have B13 := Lib.hid (B12.out.trans (hb.mono B12.out.size))
  have X13 := Lib.hid (X12.out.below hb)
  have Y13 := Lib.hid (show Bx (w12.alloc (.cells #[.int .i64 0, .int .i64 0] 23)) w12.heap.size 0 0 from ⟨by simp, by simp⟩)
  clear hb
  have c0 := X13.out.c0
  have c1 := X13.out.c1
  have d0 := Y13.out.c0
  have d1 := Y13.out.c1
  go_wp2_with fail
  clear c0 c1 d0 d1
  refine (h15 _ G13.out).mono ?_
  rintro e w14 ⟨rfl, hb⟩
  have G14 := Lib.hid (G13.out.below hb)
  have B14 := Lib.hid (B13.out.trans (hb.mono B13.out.size))
  have X14 := Lib.hid (X13.out.below hb)
  have Y14 := Lib.hid (Y13.out.below hb)
  clear hb
  have c0 := X14.out.c0
  have c1 := X14.out.c1
  have d0 := Y14.out.c0
  have d1 := Y14.out.c1
  have hb := belowA w14 (.cells #[.int .i64 0, .int .i64 0] 23)
  clear c0 c1 d0 d1
  have G15 := Lib.hid (G14.out.below hb)
  have B15 := Lib.hid (B14.out.trans (hb.mono B14.out.size))
  have X15 := Lib.hid (X14.out.below hb)
  have Y15 := Lib.hid (Y14.out.below hb)
  have Z15 := Lib.hid (show Bx (w14.alloc (.cells #[.int .i64 0, .int .i64 0] 23)) w14.heap.size 0 0 from ⟨by simp, by simp⟩)
  clear hb
  have c0 := X15.out.c0
  have c1 := X15.out.c1
  have d0 := Y15.out.c0
  have d1 := Y15.out.c1
  have e0 := Z15.out.c0
  have e1 := Z15.out.c1
  go_wp2_with fail
  clear c0 c1 d0 d1 e0 e1
  refine (err2 _ G15.out).mono ?_
  rintro e w16 ⟨rfl, hb⟩
  have G16 := Lib.hid (G15.out.below hb)
  have B16 := Lib.hid (B15.out.trans (hb.mono B15.out.size))
  have X16 := Lib.hid (X15.out.below hb)
  have Y16 := Lib.hid (Y15.out.below hb)
  have Z16 := Lib.hid (Z15.out.below hb)
  clear hb
  have c0 := X16.out.c0
  have c1 := X16.out.c1
  have d0 := Y16.out.c0
  have d1 := Y16.out.c1
  have e0 := Z16.out.c0
  have e1 := Z16.out.c1
  go_wp2
  go_ret
  exact ⟨rfl, B16.out⟩

set_option maxHeartbeats 4000000 in
set_option maxRecDepth 1000000 in
theorem law_1001 (a pa pn : Int) (l : List UInt8) (w : World) (G : Glob w) (hs : l.length < 4294967281) (hA : addrB a = true) (hS : tx.readAddr l = none) (hP : tx.pfault pa pn ≠ 0) (qa qn : Nat) (hQ : tx.readPrefix l = some (qa, qn)) :
    Calls Tryz.prog 3 #[.int .i64 a, .agg #[.int .i64 pa, .int .i64 pn], strV l] w fun e w' => e = .returned (.bool true) ∧ Below w.heap.size w w' := by
  have h4 := fun w => addr_any a w
  rw [hA] at h4
  obtain ⟨a0, a1⟩ := addrB_iff.1 hA
  have h5 := fun w => show_any a a0 a1 w
  have h6 := fun w G => print_ok a a0 a1 w G
  have h8 := fun w => readAddr_any l w hs
  rw [hS] at h8
  have h8 : ∀ w, Calls Tryz.prog 8 #[strV l] w fun e w' => e = .returned (.int .i64 (-1)) ∧ Below w.heap.size w w' := h8
  have h9 := fun w G => parse_any l w hs G
  rw [hS] at h9
  have h9 : ∀ w (_ : Glob w), Calls Tryz.prog 9 #[strV l] w fun e w' => e = .returned (.tuple #[.int .i64 0, .iface 44 (.int .i64 2)]) ∧ Below w.heap.size w w' := h9
  have h10 := fun w => prefix_any pa pn w
  have h12 := fun w => check_any pa pn w
  have h13 := fun w => printPrefix_bad pa pn hP w
  have hE := fun w G => errF _ hP w G
  have he : errV (tx.pfault pa pn) = .iface 44 (.int .i64 (tx.pfault pa pn)) := by unfold errV; rw [if_neg hP]
  rw [he] at h12 h13
  have hF1 : (tx.pfault pa pn == 0) = false := beq_eq_false_iff_ne.2 hP
  generalize tx.pfault pa pn = F at *
  have h14 := fun w => readPrefix_any l w hs
  have h15 := fun w G => parsePrefix_any l w hs G
  rw [hQ] at h14 h15
  have h14 : ∀ w, Calls Tryz.prog 14 #[strV l] w fun e w' => e = .returned (.tuple #[.agg #[.int .i64 qa, .int .i64 qn], .bool true]) ∧ Below w.heap.size w w' := h14
  have h15 : ∀ w (_ : Glob w), Calls Tryz.prog 15 #[strV l] w fun e w' => e = .returned (.tuple #[.agg #[.int .i64 qa, .int .i64 qn], .nilIface]) ∧ Below w.heap.size w w' := h15
  have X0 := Lib.hid (show Bx (w.alloc (.cells #[.int .i64 pa, .int .i64 pn] 23)) w.heap.size pa pn from ⟨by simp, by simp⟩)
  have B0 := Lib.hid (belowA w (.cells #[.int .i64 pa, .int .i64 pn] 23))
  have G0 := Lib.hid (G.below B0.out)
  clear hA hS hP hQ hs G he
  go_enter Tryz.func3, Tryz.ntmps3
  have c0 := X0.out.c0
  have c1 := X0.out.c1
  go_wp2_with fail
  clear c0 c1
  refine (h4 _).mono ?_
  rintro e w' ⟨rfl, rfl⟩
  have c0 := X0.out.c0
  have c1 := X0.out.c1
  go_wp2_with fail
  clear c0 c1
  refine (h5 _).mono ?_
  rintro e w' ⟨rfl, rfl⟩
  have c0 := X0.out.c0
  have c1 := X0.out.c1
  go_wp2_with fail
  clear c0 c1
  refine (h6 _ G0.out).mono ?_
  rintro e w1 ⟨rfl, hb⟩
  have G1 := Lib.hid (G0.out.below hb)
  have B1 := Lib.hid (B0.out.trans (hb.mono B0.out.size))
  have X1 := Lib.hid (X0.out.below hb)
  clear hb
  have c0 := X1.out.c0
  have c1 := X1.out.c1
  go_wp2_with fail
  clear c0 c1
  refine (err0 _ G1.out).mono ?_
  rintro e w2 ⟨rfl, hb⟩
  have G2 := Lib.hid (G1.out.below hb)
  have B2 := Lib.hid (B1.out.trans (hb.mono B1.out.size))
  have X2 := Lib.hid (X1.out.below hb)
  clear hb
  have c0 := X2.out.c0
  have c1 := X2.out.c1
  simp only [strV_def]
  go_wp2_with fail
  clear c0 c1
  refine (h8 _).mono ?_
  rintro e w3 ⟨rfl, hb⟩
  have G3 := Lib.hid (G2.out.below hb)
  have B3 := Lib.hid (B2.out.trans (hb.mono B2.out.size))
  have X3 := Lib.hid (X2.out.below hb)
  clear hb
  have c0 := X3.out.c0
  have c1 := X3.out.c1
  go_wp2_with fail
  clear c0 c1
  refine (h9 _ G3.out).mono ?_
  rintro e w4 ⟨rfl, hb⟩
  have G4 := Lib.hid (G3.out.below hb)
  have B4 := Lib.hid (B3.out.trans (hb.mono B3.out.size))
  have X4 := Lib.hid (X3.out.below hb)
  clear hb
  have c0 := X4.out.c0
  have c1 := X4.out.c1
  go_wp2_with fail
  clear c0 c1
  refine (err2 _ G4.out).mono ?_
  rintro e w5 ⟨rfl, hb⟩
  have G5 := Lib.hid (G4.out.below hb)
  have B5 := Lib.hid (B4.out.trans (hb.mono B4.out.size))
  have X5 := Lib.hid (X4.out.below hb)
  clear hb
  have c0 := X5.out.c0
  have c1 := X5.out.c1
  go_wp2_with fail
  clear c0 c1
  refine (h10 _).mono ?_
  rintro e w6 ⟨rfl, hb⟩
  have G6 := Lib.hid (G5.out.below hb)
  have B6 := Lib.hid (B5.out.trans (hb.mono B5.out.size))
  have X6 := Lib.hid (X5.out.below hb)
  clear hb
  have c0 := X6.out.c0
  have c1 := X6.out.c1
  go_wp2_with fail
  clear c0 c1
  refine (h12 _).mono ?_
  rintro e w7 ⟨rfl, hb⟩
  have G7 := Lib.hid (G6.out.below hb)
  have B7 := Lib.hid (B6.out.trans (hb.mono B6.out.size))
  have X7 := Lib.hid (X6.out.below hb)
  clear hb
  have c0 := X7.out.c0
  have c1 := X7.out.c1
  go_wp2_with fail
  clear c0 c1
  refine (hE _ G7.out).mono ?_
  rintro e w8 ⟨rfl, hb⟩
  have G8 := Lib.hid (G7.out.below hb)
  have B8 := Lib.hid (B7.out.trans (hb.mono B7.out.size))
  have X8 := Lib.hid (X7.out.below hb)
  clear hb
  have c0 := X8.out.c0
  have c1 := X8.out.c1
  go_wp2_with fail
  clear c0 c1
  refine (h13 _).mono ?_
  rintro e w9 ⟨rfl, hb⟩
  have G9 := Lib.hid (G8.out.below hb)
  have B9 := Lib.hid (B8.out.trans (hb.mono B8.out.size))
  have X9 := Lib.hid (X8.out.below hb)
  clear hb
  have c0 := X9.out.c0
  have c1 := X9.out.c1
  go_wp2_with fail
  clear c0 c1
  refine (hE _ G9.out).mono ?_
  rintro e w10 ⟨rfl, hb⟩
  have G10 := Lib.hid (G9.out.below hb)
  have B10 := Lib.hid (B9.out.trans (hb.mono B9.out.size))
  have X10 := Lib.hid (X9.out.below hb)
  clear hb
  have c0 := X10.out.c0
  have c1 := X10.out.c1
  simp only [strV_def]
  go_wp2_with fail
  clear c0 c1
  refine (h14 _).mono ?_
  rintro e w11 ⟨rfl, hb⟩
  have G11 := Lib.hid (G10.out.below hb)
  have B11 := Lib.hid (B10.out.trans (hb.mono B10.out.size))
  have X11 := Lib.hid (X10.out.below hb)
  clear hb
  have c0 := X11.out.c0
  have c1 := X11.out.c1
  have hb := belowA w11 (.cells #[.int .i64 qa, .int .i64 qn] 23)
  clear c0 c1
  have G12 := Lib.hid (G11.out.below hb)
  have B12 := Lib.hid (B11.out.trans (hb.mono B11.out.size))
  have X12 := Lib.hid (X11.out.below hb)
  have Y12 := Lib.hid (show Bx (w11.alloc (.cells #[.int .i64 qa, .int .i64 qn] 23)) w11.heap.size qa qn from ⟨by simp, by simp⟩)
  clear hb
  have c0 := X12.out.c0
  have c1 := X12.out.c1
  have d0 := Y12.out.c0
  have d1 := Y12.out.c1
  go_wp2_with fail
  clear c0 c1 d0 d1
  refine (h15 _ G12.out).mono ?_
  rintro e w13 ⟨rfl, hb⟩
  have G13 := Lib.hid (G12.out.below hb)
  have B13 := Lib.hid (B12.out.trans (hb.mono B12.out.size))
  have X13 := Lib.hid (X12.out.below hb)
  have Y13 := Lib.hid (Y12.out.below hb)
  clear hb
  have c0 := X13.out.c0
  have c1 := X13.out.c1
  have d0 := Y13.out.c0
  have d1 := Y13.out.c1
  have hb := belowA w13 (.cells #[.int .i64 qa, .int .i64 qn] 23)
  clear c0 c1 d0 d1
  have G14 := Lib.hid (G13.out.below hb)
  have B14 := Lib.hid (B13.out.trans (hb.mono B13.out.size))
  have X14 := Lib.hid (X13.out.below hb)
  have Y14 := Lib.hid (Y13.out.below hb)
  have Z14 := Lib.hid (show Bx (w13.alloc (.cells #[.int .i64 qa, .int .i64 qn] 23)) w13.heap.size qa qn from ⟨by simp, by simp⟩)
  clear hb
  have c0 := X14.out.c0
  have c1 := X14.out.c1
  have d0 := Y14.out.c0
  have d1 := Y14.out.c1
  have e0 := Z14.out.c0
  have e1 := Z14.out.c1
  go_wp2_with fail
  clear c0 c1 d0 d1 e0 e1
  refine (err0 _ G14.out).mono ?_
  rintro e w15 ⟨rfl, hb⟩
  have G15 := Lib.hid (G14.out.below hb)
  have B15 := Lib.hid (B14.out.trans (hb.mono B14.out.size))
  have X15 := Lib.hid (X14.out.below hb)
  have Y15 := Lib.hid (Y14.out.below hb)
  have Z15 := Lib.hid (Z14.out.below hb)
  clear hb
  have c0 := X15.out.c0
  have c1 := X15.out.c1
  have d0 := Y15.out.c0
  have d1 := Y15.out.c1
  have e0 := Z15.out.c0
  have e1 := Z15.out.c1
  go_wp2
  go_ret
  exact ⟨rfl, B15.out⟩

set_option maxHeartbeats 4000000 in
set_option maxRecDepth 1000000 in
theorem law_1000 (a pa pn : Int) (l : List UInt8) (w : World) (G : Glob w) (hs : l.length < 4294967281) (hA : addrB a = true) (hS : tx.readAddr l = none) (hP : tx.pfault pa pn ≠ 0) (hQ : tx.readPrefix l = none) :
    Calls Tryz.prog 3 #[.int .i64 a, .agg #[.int .i64 pa, .int .i64 pn], strV l] w fun e w' => e = .returned (.bool true) ∧ Below w.heap.size w w' := by
  have h4 := fun w => addr_any a w
  rw [hA] at h4
  obtain ⟨a0, a1⟩ := addrB_iff.1 hA
  have h5 := fun w => show_any a a0 a1 w
  have h6 := fun w G => print_ok a a0 a1 w G
  have h8 := fun w => readAddr_any l w hs
  rw [hS] at h8
  have h8 : ∀ w, Calls Tryz.prog 8 #[strV l] w fun e w' => e = .returned (.int .i64 (-1)) ∧ Below w.heap.size w w' := h8
  have h9 := fun w G => parse_any l w hs G
  rw [hS] at h9
  have h9 : ∀ w (_ : Glob w), Calls Tryz.prog 9 #[strV l] w fun e w' => e = .returned (.tuple #[.int .i64 0, .iface 44 (.int .i64 2)]) ∧ Below w.heap.size w w' := h9
  have h10 := fun w => prefix_any pa pn w
  have h12 := fun w => check_any pa pn w
  have h13 := fun w => printPrefix_bad pa pn hP w
  have hE := fun w G => errF _ hP w G
  have he : errV (tx.pfault pa pn) = .iface 44 (.int .i64 (tx.pfault pa pn)) := by unfold errV; rw [if_neg hP]
  rw [he] at h12 h13
  have hF1 : (tx.pfault pa pn == 0) = false := beq_eq_false_iff_ne.2 hP
  generalize tx.pfault pa pn = F at *
  have h14 := fun w => readPrefix_any l w hs
  have h15 := fun w G => parsePrefix_any l w hs G
  rw [hQ] at h14 h15
  have h14 : ∀ w, Calls Tryz.prog 14 #[strV l] w fun e w' => e = .returned (.tuple #[.agg #[.int .i64 0, .int .i64 0], .bool false]) ∧ Below w.heap.size w w' := h14
  have h15 : ∀ w (_ : Glob w), Calls Tryz.prog 15 #[strV l] w fun e w' => e = .returned (.tuple #[.agg #[.int .i64 0, .int .i64 0], .iface 44 (.int .i64 2)]) ∧ Below w.heap.size w w' := h15
  have X0 := Lib.hid (show Bx (w.alloc (.cells #[.int .i64 pa, .int .i64 pn] 23)) w.heap.size pa pn from ⟨by simp, by simp⟩)
  have B0 := Lib.hid (belowA w (.cells #[.int .i64 pa, .int .i64 pn] 23))
  have G0 := Lib.hid (G.below B0.out)
  clear hA hS hP hQ hs G he
  go_enter Tryz.func3, Tryz.ntmps3
  have c0 := X0.out.c0
  have c1 := X0.out.c1
  go_wp2_with fail
  clear c0 c1
  refine (h4 _).mono ?_
  rintro e w' ⟨rfl, rfl⟩
  have c0 := X0.out.c0
  have c1 := X0.out.c1
  go_wp2_with fail
  clear c0 c1
  refine (h5 _).mono ?_
  rintro e w' ⟨rfl, rfl⟩
  have c0 := X0.out.c0
  have c1 := X0.out.c1
  go_wp2_with fail
  clear c0 c1
  refine (h6 _ G0.out).mono ?_
  rintro e w1 ⟨rfl, hb⟩
  have G1 := Lib.hid (G0.out.below hb)
  have B1 := Lib.hid (B0.out.trans (hb.mono B0.out.size))
  have X1 := Lib.hid (X0.out.below hb)
  clear hb
  have c0 := X1.out.c0
  have c1 := X1.out.c1
  go_wp2_with fail
  clear c0 c1
  refine (err0 _ G1.out).mono ?_
  rintro e w2 ⟨rfl, hb⟩
  have G2 := Lib.hid (G1.out.below hb)
  have B2 := Lib.hid (B1.out.trans (hb.mono B1.out.size))
  have X2 := Lib.hid (X1.out.below hb)
  clear hb
  have c0 := X2.out.c0
  have c1 := X2.out.c1
  simp only [strV_def]
  go_wp2_with fail
  clear c0 c1
  refine (h8 _).mono ?_
  rintro e w3 ⟨rfl, hb⟩
  have G3 := Lib.hid (G2.out.below hb)
  have B3 := Lib.hid (B2.out.trans (hb.mono B2.out.size))
  have X3 := Lib.hid (X2.out.below hb)
  clear hb
  have c0 := X3.out.c0
  have c1 := X3.out.c1
  go_wp2_with fail
  clear c0 c1
  refine (h9 _ G3.out).mono ?_
  rintro e w4 ⟨rfl, hb⟩
  have G4 := Lib.hid (G3.out.below hb)
  have B4 := Lib.hid (B3.out.trans (hb.mono B3.out.size))
  have X4 := Lib.hid (X3.out.below hb)
  clear hb
  have c0 := X4.out.c0
  have c1 := X4.out.c1
  go_wp2_with fail
  clear c0 c1
  refine (err2 _ G4.out).mono ?_
  rintro e w5 ⟨rfl, hb⟩
  have G5 := Lib.hid (G4.out.below hb)
  have B5 := Lib.hid (B4.out.trans (hb.mono B4.out.size))
  have X5 := Lib.hid (X4.out.below hb)
  clear hb
  have c0 := X5.out.c0
  have c1 := X5.out.c1
  go_wp2_with fail
  clear c0 c1
  refine (h10 _).mono ?_
  rintro e w6 ⟨rfl, hb⟩
  have G6 := Lib.hid (G5.out.below hb)
  have B6 := Lib.hid (B5.out.trans (hb.mono B5.out.size))
  have X6 := Lib.hid (X5.out.below hb)
  clear hb
  have c0 := X6.out.c0
  have c1 := X6.out.c1
  go_wp2_with fail
  clear c0 c1
  refine (h12 _).mono ?_
  rintro e w7 ⟨rfl, hb⟩
  have G7 := Lib.hid (G6.out.below hb)
  have B7 := Lib.hid (B6.out.trans (hb.mono B6.out.size))
  have X7 := Lib.hid (X6.out.below hb)
  clear hb
  have c0 := X7.out.c0
  have c1 := X7.out.c1
  go_wp2_with fail
  clear c0 c1
  refine (hE _ G7.out).mono ?_
  rintro e w8 ⟨rfl, hb⟩
  have G8 := Lib.hid (G7.out.below hb)
  have B8 := Lib.hid (B7.out.trans (hb.mono B7.out.size))
  have X8 := Lib.hid (X7.out.below hb)
  clear hb
  have c0 := X8.out.c0
  have c1 := X8.out.c1
  go_wp2_with fail
  clear c0 c1
  refine (h13 _).mono ?_
  rintro e w9 ⟨rfl, hb⟩
  have G9 := Lib.hid (G8.out.below hb)
  have B9 := Lib.hid (B8.out.trans (hb.mono B8.out.size))
  have X9 := Lib.hid (X8.out.below hb)
  clear hb
  have c0 := X9.out.c0
  have c1 := X9.out.c1
  go_wp2_with fail
  clear c0 c1
  refine (hE _ G9.out).mono ?_
  rintro e w10 ⟨rfl, hb⟩
  have G10 := Lib.hid (G9.out.below hb)
  have B10 := Lib.hid (B9.out.trans (hb.mono B9.out.size))
  have X10 := Lib.hid (X9.out.below hb)
  clear hb
  have c0 := X10.out.c0
  have c1 := X10.out.c1
  simp only [strV_def]
  go_wp2_with fail
  clear c0 c1
  refine (h14 _).mono ?_
  rintro e w11 ⟨rfl, hb⟩
  have G11 := Lib.hid (G10.out.below hb)
  have B11 := Lib.hid (B10.out.trans (hb.mono B10.out.size))
  have X11 := Lib.hid (X10.out.below hb)
  clear hb
  have c0 := X11.out.c0
  have c1 := X11.out.c1
  have hb := belowA w11 (.cells #[.int .i64 0, .int .i64 0] 23)
  clear c0 c1
  have G12 := Lib.hid (G11.out.below hb)
  have B12 := Lib.hid (B11.out.trans (hb.mono B11.out.size))
  have X12 := Lib.hid (X11.out.below hb)
  have Y12 := Lib.hid (show Bx (w11.alloc (.cells #[.int .i64 0, .int .i64 0] 23)) w11.heap.size 0 0 from ⟨by simp, by simp⟩)
  clear hb
  have c0 := X12.out.c0
  have c1 := X12.out.c1
  have d0 := Y12.out.c0
  have d1 := Y12.out.c1
  go_wp2_with fail
  clear c0 c1 d0 d1
  refine (h15 _ G12.out).mono ?_
  rintro e w13 ⟨rfl, hb⟩
  have G13 := Lib.hid (G12.out.below hb)
  have B13 := Lib.hid (B12.out.trans (hb.mono B12.out.size))
  have X13 := Lib.hid (X12.out.below hb)
  have Y13 := Lib.hid (Y12.out.below hb)
  clear hb
  have c0 := X13.out.c0
  have c1 := X13.out.c1
  have d0 := Y13.out.c0
  have d1 := Y13.out.c1
  have hb := belowA w13 (.cells #[.int .i64 0, .int .i64 0] 23)
  clear c0 c1 d0 d1
  have G14 := Lib.hid (G13.out.below hb)
  have B14 := Lib.hid (B13.out.trans (hb.mono B13.out.size))
  have X14 := Lib.hid (X13.out.below hb)
  have Y14 := Lib.hid (Y13.out.below hb)
  have Z14 := Lib.hid (show Bx (w13.alloc (.cells #[.int .i64 0, .int .i64 0] 23)) w13.heap.size 0 0 from ⟨by simp, by simp⟩)
  clear hb
  have c0 := X14.out.c0
  have c1 := X14.out.c1
  have d0 := Y14.out.c0
  have d1 := Y14.out.c1
  have e0 := Z14.out.c0
  have e1 := Z14.out.c1
  go_wp2_with fail
  clear c0 c1 d0 d1 e0 e1
  refine (err2 _ G14.out).mono ?_
  rintro e w15 ⟨rfl, hb⟩
  have G15 := Lib.hid (G14.out.below hb)
  have B15 := Lib.hid (B14.out.trans (hb.mono B14.out.size))
  have X15 := Lib.hid (X14.out.below hb)
  have Y15 := Lib.hid (Y14.out.below hb)
  have Z15 := Lib.hid (Z14.out.below hb)
  clear hb
  have c0 := X15.out.c0
  have c1 := X15.out.c1
  have d0 := Y15.out.c0
  have d1 := Y15.out.c1
  have e0 := Z15.out.c0
  have e1 := Z15.out.c1
  go_wp2
  go_ret
  exact ⟨rfl, B15.out⟩

set_option maxHeartbeats 4000000 in
set_option maxRecDepth 1000000 in
theorem law_0111 (a pa pn : Int) (l : List UInt8) (w : World) (G : Glob w) (hs : l.length < 4294967281) (hA : addrB a = false) (n : Nat) (hS : tx.readAddr l = some n) (hP : tx.pfault pa pn = 0) (qa qn : Nat) (hQ : tx.readPrefix l = some (qa, qn)) :
    Calls Tryz.prog 3 #[.int .i64 a, .agg #[.int .i64 pa, .int .i64 pn], strV l] w fun e w' => e = .returned (.bool true) ∧ Below w.heap.size w w' := by
  have h4 := fun w => addr_any a w
  rw [hA] at h4
  have h6 : ∀ w, Calls Tryz.prog 6 #[.int .i64 a] w fun e w' => e = .returned (.tuple #[strV [], .iface 44 (.int .i64 1)]) ∧ w = w' := fun w => print_bad a hA w
  have h8 := fun w => readAddr_any l w hs
  rw [hS] at h8
  have h8 : ∀ w, Calls Tryz.prog 8 #[strV l] w fun e w' => e = .returned (.int .i64 n) ∧ Below w.heap.size w w' := h8
  have h9 := fun w G => parse_any l w hs G
  rw [hS] at h9
  have h9 : ∀ w (_ : Glob w), Calls Tryz.prog 9 #[strV l] w fun e w' => e = .returned (.tuple #[.int .i64 n, .nilIface]) ∧ Below w.heap.size w w' := h9
  have h10 := fun w => prefix_any pa pn w
  have h12 := fun w => check_any pa pn w
  have h11 := fun w => showPrefix_any pa pn hP w
  have h13 := fun w G => printPrefix_ok pa pn hP w G
  rw [hP] at h10 h12
  rw [errV0] at h12
  have h14 := fun w => readPrefix_any l w hs
  have h15 := fun w G => parsePrefix_any l w hs G
  rw [hQ] at h14 h15
  have h14 : ∀ w, Calls Tryz.prog 14 #[strV l] w fun e w' => e = .returned (.tuple #[.agg #[.int .i64 qa, .int .i64 qn], .bool true]) ∧ Below w.heap.size w w' := h14
  have h15 : ∀ w (_ : Glob w), Calls Tryz.prog 15 #[strV l] w fun e w' => e = .returned (.tuple #[.agg #[.int .i64 qa, .int .i64 qn], .nilIface]) ∧ Below w.heap.size w w' := h15
  have X0 := Lib.hid (show Bx (w.alloc (.cells #[.int .i64 pa, .int .i64 pn] 23)) w.heap.size pa pn from ⟨by simp, by simp⟩)
  have B0 := Lib.hid (belowA w (.cells #[.int .i64 pa, .int .i64 pn] 23))
  have G0 := Lib.hid (G.below B0.out)
  clear hA hS hP hQ hs G
  go_enter Tryz.func3, Tryz.ntmps3
  have c0 := X0.out.c0
  have c1 := X0.out.c1
  go_wp2_with fail
  clear c0 c1
  refine (h4 _).mono ?_
  rintro e w' ⟨rfl, rfl⟩
  have c0 := X0.out.c0
  have c1 := X0.out.c1
  go_wp2_with fail
  clear c0 c1
  refine (h6 _).mono ?_
  rintro e w' ⟨rfl, rfl⟩
  have c0 := X0.out.c0
  have c1 := X0.out.c1
  go_wp2_with fail
  clear c0 c1
  refine (err1 _ G0.out).mono ?_
  rintro e w1 ⟨rfl, hb⟩
  have G1 := Lib.hid (G0.out.below hb)
  have B1 := Lib.hid (B0.out.trans (hb.mono B0.out.size))
  have X1 := Lib.hid (X0.out.below hb)
  clear hb
  have c0 := X1.out.c0
  have c1 := X1.out.c1
  simp only [strV_def]
  go_wp2_with fail
  clear c0 c1
  refine (h8 _).mono ?_
  rintro e w2 ⟨rfl, hb⟩
  have G2 := Lib.hid (G1.out.below hb)
  have B2 := Lib.hid (B1.out.trans (hb.mono B1.out.size))
  have X2 := Lib.hid (X1.out.below hb)
  clear hb
  have c0 := X2.out.c0
  have c1 := X2.out.c1
  go_wp2_with fail
  clear c0 c1
  refine (h9 _ G2.out).mono ?_
  rintro e w3 ⟨rfl, hb⟩
  have G3 := Lib.hid (G2.out.below hb)
  have B3 := Lib.hid (B2.out.trans (hb.mono B2.out.size))
  have X3 := Lib.hid (X2.out.below hb)
  clear hb
  have c0 := X3.out.c0
  have c1 := X3.out.c1
  go_wp2_with fail
  clear c0 c1
  refine (err0 _ G3.out).mono ?_
  rintro e w4 ⟨rfl, hb⟩
  have G4 := Lib.hid (G3.out.below hb)
  have B4 := Lib.hid (B3.out.trans (hb.mono B3.out.size))
  have X4 := Lib.hid (X3.out.below hb)
  clear hb
  have c0 := X4.out.c0
  have c1 := X4.out.c1
  go_wp2_with fail
  clear c0 c1
  refine (h10 _).mono ?_
  rintro e w5 ⟨rfl, hb⟩
  have G5 := Lib.hid (G4.out.below hb)
  have B5 := Lib.hid (B4.out.trans (hb.mono B4.out.size))
  have X5 := Lib.hid (X4.out.below hb)
  clear hb
  have c0 := X5.out.c0
  have c1 := X5.out.c1
  go_wp2_with fail
  clear c0 c1
  refine (h11 _).mono ?_
  rintro e w6 ⟨rfl, hb⟩
  have G6 := Lib.hid (G5.out.below hb)
  have B6 := Lib.hid (B5.out.trans (hb.mono B5.out.size))
  have X6 := Lib.hid (X5.out.below hb)
  clear hb
  have c0 := X6.out.c0
  have c1 := X6.out.c1
  go_wp2_with fail
  clear c0 c1
  refine (h12 _).mono ?_
  rintro e w7 ⟨rfl, hb⟩
  have G7 := Lib.hid (G6.out.below hb)
  have B7 := Lib.hid (B6.out.trans (hb.mono B6.out.size))
  have X7 := Lib.hid (X6.out.below hb)
  clear hb
  have c0 := X7.out.c0
  have c1 := X7.out.c1
  go_wp2_with fail
  clear c0 c1
  refine (err0 _ G7.out).mono ?_
  rintro e w8 ⟨rfl, hb⟩
  have G8 := Lib.hid (G7.out.below hb)
  have B8 := Lib.hid (B7.out.trans (hb.mono B7.out.size))
  have X8 := Lib.hid (X7.out.below hb)
  clear hb
  have c0 := X8.out.c0
  have c1 := X8.out.c1
  go_wp2_with fail
  clear c0 c1
  refine (h13 _ G8.out).mono ?_
  rintro e w9 ⟨rfl, hb⟩
  have G9 := Lib.hid (G8.out.below hb)
  have B9 := Lib.hid (B8.out.trans (hb.mono B8.out.size))
  have X9 := Lib.hid (X8.out.below hb)
  clear hb
  have c0 := X9.out.c0
  have c1 := X9.out.c1
  go_wp2_with fail
  clear c0 c1
  refine (err0 _ G9.out).mono ?_
  rintro e w10 ⟨rfl, hb⟩
  have G10 := Lib.hid (G9.out.below hb)
  have B10 := Lib.hid (B9.out.trans (hb.mono B9.out.size))
  have X10 := Lib.hid (X9.out.below hb)
  clear hb
  have c0 := X10.out.c0
  have c1 := X10.out.c1
  simp only [strV_def]
  go_wp2_with fail
  clear c0 c1
  refine (h14 _).mono ?_
  rintro e w11 ⟨rfl, hb⟩
  have G11 := Lib.hid (G10.out.below hb)
  have B11 := Lib.hid (B10.out.trans (hb.mono B10.out.size))
  have X11 := Lib.hid (X10.out.below hb)
  clear hb
  have c0 := X11.out.c0
  have c1 := X11.out.c1
  have hb := belowA w11 (.cells #[.int .i64 qa, .int .i64 qn] 23)
  clear c0 c1
  have G12 := Lib.hid (G11.out.below hb)
  have B12 := Lib.hid (B11.out.trans (hb.mono B11.out.size))
  have X12 := Lib.hid (X11.out.below hb)
  have Y12 := Lib.hid (show Bx (w11.alloc (.cells #[.int .i64 qa, .int .i64 qn] 23)) w11.heap.size qa qn from ⟨by simp, by simp⟩)
  clear hb
  have c0 := X12.out.c0
  have c1 := X12.out.c1
  have d0 := Y12.out.c0
  have d1 := Y12.out.c1
  go_wp2_with fail
  clear c0 c1 d0 d1
  refine (h15 _ G12.out).mono ?_
  rintro e w13 ⟨rfl, hb⟩
  have G13 := Lib.hid (G12.out.below hb)
  have B13 := Lib.hid (B12.out.trans (hb.mono B12.out.size))
  have X13 := Lib.hid (X12.out.below hb)
  have Y13 := Lib.hid (Y12.out.below hb)
  clear hb
  have c0 := X13.out.c0
  have c1 := X13.out.c1
  have d0 := Y13.out.c0
  have d1 := Y13.out.c1
  have hb := belowA w13 (.cells #[.int .i64 qa, .int .i64 qn] 23)
  clear c0 c1 d0 d1
  have G14 := Lib.hid (G13.out.below hb)
  have B14 := Lib.hid (B13.out.trans (hb.mono B13.out.size))
  have X14 := Lib.hid (X13.out.below hb)
  have Y14 := Lib.hid (Y13.out.below hb)
  have Z14 := Lib.hid (show Bx (w13.alloc (.cells #[.int .i64 qa, .int .i64 qn] 23)) w13.heap.size qa qn from ⟨by simp, by simp⟩)
  clear hb
  have c0 := X14.out.c0
  have c1 := X14.out.c1
  have d0 := Y14.out.c0
  have d1 := Y14.out.c1
  have e0 := Z14.out.c0
  have e1 := Z14.out.c1
  go_wp2_with fail
  clear c0 c1 d0 d1 e0 e1
  refine (err0 _ G14.out).mono ?_
  rintro e w15 ⟨rfl, hb⟩
  have G15 := Lib.hid (G14.out.below hb)
  have B15 := Lib.hid (B14.out.trans (hb.mono B14.out.size))
  have X15 := Lib.hid (X14.out.below hb)
  have Y15 := Lib.hid (Y14.out.below hb)
  have Z15 := Lib.hid (Z14.out.below hb)
  clear hb
  have c0 := X15.out.c0
  have c1 := X15.out.c1
  have d0 := Y15.out.c0
  have d1 := Y15.out.c1
  have e0 := Z15.out.c0
  have e1 := Z15.out.c1
  go_wp2
  go_ret
  exact ⟨rfl, B15.out⟩

set_option maxHeartbeats 4000000 in
set_option maxRecDepth 1000000 in
theorem law_0110 (a pa pn : Int) (l : List UInt8) (w : World) (G : Glob w) (hs : l.length < 4294967281) (hA : addrB a = false) (n : Nat) (hS : tx.readAddr l = some n) (hP : tx.pfault pa pn = 0) (hQ : tx.readPrefix l = none) :
    Calls Tryz.prog 3 #[.int .i64 a, .agg #[.int .i64 pa, .int .i64 pn], strV l] w fun e w' => e = .returned (.bool true) ∧ Below w.heap.size w w' := by
  have h4 := fun w => addr_any a w
  rw [hA] at h4
  have h6 : ∀ w, Calls Tryz.prog 6 #[.int .i64 a] w fun e w' => e = .returned (.tuple #[strV [], .iface 44 (.int .i64 1)]) ∧ w = w' := fun w => print_bad a hA w
  have h8 := fun w => readAddr_any l w hs
  rw [hS] at h8
  have h8 : ∀ w, Calls Tryz.prog 8 #[strV l] w fun e w' => e = .returned (.int .i64 n) ∧ Below w.heap.size w w' := h8
  have h9 := fun w G => parse_any l w hs G
  rw [hS] at h9
  have h9 : ∀ w (_ : Glob w), Calls Tryz.prog 9 #[strV l] w fun e w' => e = .returned (.tuple #[.int .i64 n, .nilIface]) ∧ Below w.heap.size w w' := h9
  have h10 := fun w => prefix_any pa pn w
  have h12 := fun w => check_any pa pn w
  have h11 := fun w => showPrefix_any pa pn hP w
  have h13 := fun w G => printPrefix_ok pa pn hP w G
  rw [hP] at h10 h12
  rw [errV0] at h12
  have h14 := fun w => readPrefix_any l w hs
  have h15 := fun w G => parsePrefix_any l w hs G
  rw [hQ] at h14 h15
  have h14 : ∀ w, Calls Tryz.prog 14 #[strV l] w fun e w' => e = .returned (.tuple #[.agg #[.int .i64 0, .int .i64 0], .bool false]) ∧ Below w.heap.size w w' := h14
  have h15 : ∀ w (_ : Glob w), Calls Tryz.prog 15 #[strV l] w fun e w' => e = .returned (.tuple #[.agg #[.int .i64 0, .int .i64 0], .iface 44 (.int .i64 2)]) ∧ Below w.heap.size w w' := h15
  have X0 := Lib.hid (show Bx (w.alloc (.cells #[.int .i64 pa, .int .i64 pn] 23)) w.heap.size pa pn from ⟨by simp, by simp⟩)
  have B0 := Lib.hid (belowA w (.cells #[.int .i64 pa, .int .i64 pn] 23))
  have G0 := Lib.hid (G.below B0.out)
  clear hA hS hP hQ hs G
  go_enter Tryz.func3, Tryz.ntmps3
  have c0 := X0.out.c0
  have c1 := X0.out.c1
  go_wp2_with fail
  clear c0 c1
  refine (h4 _).mono ?_
  rintro e w' ⟨rfl, rfl⟩
  have c0 := X0.out.c0
  have c1 := X0.out.c1
  go_wp2_with fail
  clear c0 c1
  refine (h6 _).mono ?_
  rintro e w' ⟨rfl, rfl⟩
  have c0 := X0.out.c0
  have c1 := X0.out.c1
  go_wp2_with fail
  clear c0 c1
  refine (err1 _ G0.out).mono ?_
  rintro e w1 ⟨rfl, hb⟩
  have G1 := Lib.hid (G0.out.below hb)
  have B1 := Lib.hid (B0.out.trans (hb.mono B0.out.size))
  have X1 := Lib.hid (X0.out.below hb)
  clear hb
  have c0 := X1.out.c0
  have c1 := X1.out.c1
  simp only [strV_def]
  go_wp2_with fail
  clear c0 c1
  refine (h8 _).mono ?_
  rintro e w2 ⟨rfl, hb⟩
  have G2 := Lib.hid (G1.out.below hb)
  have B2 := Lib.hid (B1.out.trans (hb.mono B1.out.size))
  have X2 := Lib.hid (X1.out.below hb)
  clear hb
  have c0 := X2.out.c0
  have c1 := X2.out.c1
  go_wp2_with fail
  clear c0 c1
  refine (h9 _ G2.out).mono ?_
  rintro e w3 ⟨rfl, hb⟩
  have G3 := Lib.hid (G2.out.below hb)
  have B3 := Lib.hid (B2.out.trans (hb.mono B2.out.size))
  have X3 := Lib.hid (X2.out.below hb)
  clear hb
  have c0 := X3.out.c0
  have c1 := X3.out.c1
  go_wp2_with fail
  clear c0 c1
  refine (err0 _ G3.out).mono ?_
  rintro e w4 ⟨rfl, hb⟩
  have G4 := Lib.hid (G3.out.below hb)
  have B4 := Lib.hid (B3.out.trans (hb.mono B3.out.size))
  have X4 := Lib.hid (X3.out.below hb)
  clear hb
  have c0 := X4.out.c0
  have c1 := X4.out.c1
  go_wp2_with fail
  clear c0 c1
  refine (h10 _).mono ?_
  rintro e w5 ⟨rfl, hb⟩
  have G5 := Lib.hid (G4.out.below hb)
  have B5 := Lib.hid (B4.out.trans (hb.mono B4.out.size))
  have X5 := Lib.hid (X4.out.below hb)
  clear hb
  have c0 := X5.out.c0
  have c1 := X5.out.c1
  go_wp2_with fail
  clear c0 c1
  refine (h11 _).mono ?_
  rintro e w6 ⟨rfl, hb⟩
  have G6 := Lib.hid (G5.out.below hb)
  have B6 := Lib.hid (B5.out.trans (hb.mono B5.out.size))
  have X6 := Lib.hid (X5.out.below hb)
  clear hb
  have c0 := X6.out.c0
  have c1 := X6.out.c1
  go_wp2_with fail
  clear c0 c1
  refine (h12 _).mono ?_
  rintro e w7 ⟨rfl, hb⟩
  have G7 := Lib.hid (G6.out.below hb)
  have B7 := Lib.hid (B6.out.trans (hb.mono B6.out.size))
  have X7 := Lib.hid (X6.out.below hb)
  clear hb
  have c0 := X7.out.c0
  have c1 := X7.out.c1
  go_wp2_with fail
  clear c0 c1
  refine (err0 _ G7.out).mono ?_
  rintro e w8 ⟨rfl, hb⟩
  have G8 := Lib.hid (G7.out.below hb)
  have B8 := Lib.hid (B7.out.trans (hb.mono B7.out.size))
  have X8 := Lib.hid (X7.out.below hb)
  clear hb
  have c0 := X8.out.c0
  have c1 := X8.out.c1
  go_wp2_with fail
  clear c0 c1
  refine (h13 _ G8.out).mono ?_
  rintro e w9 ⟨rfl, hb⟩
  have G9 := Lib.hid (G8.out.below hb)
  have B9 := Lib.hid (B8.out.trans (hb.mono B8.out.size))
  have X9 := Lib.hid (X8.out.below hb)
  clear hb
  have c0 := X9.out.c0
  have c1 := X9.out.c1
  go_wp2_with fail
  clear c0 c1
  refine (err0 _ G9.out).mono ?_
  rintro e w10 ⟨rfl, hb⟩
  have G10 := Lib.hid (G9.out.below hb)
  have B10 := Lib.hid (B9.out.trans (hb.mono B9.out.size))
  have X10 := Lib.hid (X9.out.below hb)
  clear hb
  have c0 := X10.out.c0
  have c1 := X10.out.c1
  simp only [strV_def]
  go_wp2_with fail
  clear c0 c1
  refine (h14 _).mono ?_
  rintro e w11 ⟨rfl, hb⟩
  have G11 := Lib.hid (G10.out.below hb)
  have B11 := Lib.hid (B10.out.trans (hb.mono B10.out.size))
  have X11 := Lib.hid (X10.out.below hb)
  clear hb
  have c0 := X11.out.c0
  have c1 := X11.out.c1
  have hb := belowA w11 (.cells #[.int .i64 0, .int .i64 0] 23)
  clear c0 c1
  have G12 := Lib.hid (G11.out.below hb)
  have B12 := Lib.hid (B11.out.trans (hb.mono B11.out.size))
  have X12 := Lib.hid (X11.out.below hb)
  have Y12 := Lib.hid (show Bx (w11.alloc (.cells #[.int .i64 0, .int .i64 0] 23)) w11.heap.size 0 0 from ⟨by simp, by simp⟩)
  clear hb
  have c0 := X12.out.c0
  have c1 := X12.out.c1
  have d0 := Y12.out.c0
  have d1 := Y12.out.c1
  go_wp2_with fail
  clear c0 c1 d0 d1
  refine (h15 _ G12.out).mono ?_
  rintro e w13 ⟨rfl, hb⟩
  have G13 := Lib.hid (G12.out.below hb)
  have B13 := Lib.hid (B12.out.trans (hb.mono B12.out.size))
  have X13 := Lib.hid (X12.out.below hb)
  have Y13 := Lib.hid (Y12.out.below hb)
  clear hb
  have c0 := X13.out.c0
  have c1 := X13.out.c1
  have d0 := Y13.out.c0
  have d1 := Y13.out.c1
  have hb := belowA w13 (.cells #[.int .i64 0, .int .i64 0] 23)
  clear c0 c1 d0 d1
  have G14 := Lib.hid (G13.out.below hb)
  have B14 := Lib.hid (B13.out.trans (hb.mono B13.out.size))
  have X14 := Lib.hid (X13.out.below hb)
  have Y14 := Lib.hid (Y13.out.below hb)
  have Z14 := Lib.hid (show Bx (w13.alloc (.cells #[.int .i64 0, .int .i64 0] 23)) w13.heap.size 0 0 from ⟨by simp, by simp⟩)
  clear hb
  have c0 := X14.out.c0
  have c1 := X14.out.c1
  have d0 := Y14.out.c0
  have d1 := Y14.out.c1
  have e0 := Z14.out.c0
  have e1 := Z14.out.c1
  go_wp2_with fail
  clear c0 c1 d0 d1 e0 e1
  refine (err2 _ G14.out).mono ?_
  rintro e w15 ⟨rfl, hb⟩
  have G15 := Lib.hid (G14.out.below hb)
  have B15 := Lib.hid (B14.out.trans (hb.mono B14.out.size))
  have X15 := Lib.hid (X14.out.below hb)
  have Y15 := Lib.hid (Y14.out.below hb)
  have Z15 := Lib.hid (Z14.out.below hb)
  clear hb
  have c0 := X15.out.c0
  have c1 := X15.out.c1
  have d0 := Y15.out.c0
  have d1 := Y15.out.c1
  have e0 := Z15.out.c0
  have e1 := Z15.out.c1
  go_wp2
  go_ret
  exact ⟨rfl, B15.out⟩

set_option maxHeartbeats 4000000 in
set_option maxRecDepth 1000000 in
theorem law_0101 (a pa pn : Int) (l : List UInt8) (w : World) (G : Glob w) (hs : l.length < 4294967281) (hA : addrB a = false) (n : Nat) (hS : tx.readAddr l = some n) (hP : tx.pfault pa pn ≠ 0) (qa qn : Nat) (hQ : tx.readPrefix l = some (qa, qn)) :
    Calls Tryz.prog 3 #[.int .i64 a, .agg #[.int .i64 pa, .int .i64 pn], strV l] w fun e w' => e = .returned (.bool true) ∧ Below w.heap.size w w' := by
  have h4 := fun w => addr_any a w
  rw [hA] at h4
  have h6 : ∀ w, Calls Tryz.prog 6 #[.int .i64 a] w fun e w' => e = .returned (.tuple #[strV [], .iface 44 (.int .i64 1)]) ∧ w = w' := fun w => print_bad a hA w
  have h8 := fun w => readAddr_any l w hs
  rw [hS] at h8
  have h8 : ∀ w, Calls Tryz.prog 8 #[strV l] w fun e w' => e = .returned (.int .i64 n) ∧ Below w.heap.size w w' := h8
  have h9 := fun w G => parse_any l w hs G
  rw [hS] at h9
  have h9 : ∀ w (_ : Glob w), Calls Tryz.prog 9 #[strV l] w fun e w' => e = .returned (.tuple #[.int .i64 n, .nilIface]) ∧ Below w.heap.size w w' := h9
  have h10 := fun w => prefix_any pa pn w
  have h12 := fun w => check_any pa pn w
  have h13 := fun w => printPrefix_bad pa pn hP w
  have hE := fun w G => errF _ hP w G
  have he : errV (tx.pfault pa pn) = .iface 44 (.int .i64 (tx.pfault pa pn)) := by unfold errV; rw [if_neg hP]
  rw [he] at h12 h13
  have hF1 : (tx.pfault pa pn == 0) = false := beq_eq_false_iff_ne.2 hP
  generalize tx.pfault pa pn = F at *
  have h14 := fun w => readPrefix_any l w hs
  have h15 := fun w G => parsePrefix_any l w hs G
  rw [hQ] at h14 h15
  have h14 : ∀ w, Calls Tryz.prog 14 #[strV l] w fun e w' => e = .returned (.tuple #[.agg #[.int .i64 qa, .int .i64 qn], .bool true]) ∧ Below w.heap.size w w' := h14
  have h15 : ∀ w (_ : Glob w), Calls Tryz.prog 15 #[strV l] w fun e w' => e = .returned (.tuple #[.agg #[.int .i64 qa, .int .i64 qn], .nilIface]) ∧ Below w.heap.size w w' := h15
  have X0 := Lib.hid (show Bx (w.alloc (.cells #[.int .i64 pa, .int .i64 pn] 23)) w.heap.size pa pn from ⟨by simp, by simp⟩)
  have B0 := Lib.hid (belowA w (.cells #[.int .i64 pa, .int .i64 pn] 23))
  have G0 := Lib.hid (G.below B0.out)
  clear hA hS hP hQ hs G he
  go_enter Tryz.func3, Tryz.ntmps3
  have c0 := X0.out.c0
  have c1 := X0.out.c1
  go_wp2_with fail
  clear c0 c1
  refine (h4 _).mono ?_
  rintro e w' ⟨rfl, rfl⟩
  have c0 := X0.out.c0
  have c1 := X0.out.c1
  go_wp2_with fail
  clear c0 c1
  refine (h6 _).mono ?_
  rintro e w' ⟨rfl, rfl⟩
  have c0 := X0.out.c0
  have c1 := X0.out.c1
  go_wp2_with fail
  clear c0 c1
  refine (err1 _ G0.out).mono ?_
  rintro e w1 ⟨rfl, hb⟩
  have G1 := Lib.hid (G0.out.below hb)
  have B1 := Lib.hid (B0.out.trans (hb.mono B0.out.size))
  have X1 := Lib.hid (X0.out.below hb)
  clear hb
  have c0 := X1.out.c0
  have c1 := X1.out.c1
  simp only [strV_def]
  go_wp2_with fail
  clear c0 c1
  refine (h8 _).mono ?_
  rintro e w2 ⟨rfl, hb⟩
  have G2 := Lib.hid (G1.out.below hb)
  have B2 := Lib.hid (B1.out.trans (hb.mono B1.out.size))
  have X2 := Lib.hid (X1.out.below hb)
  clear hb
  have c0 := X2.out.c0
  have c1 := X2.out.c1
  go_wp2_with fail
  clear c0 c1
  refine (h9 _ G2.out).mono ?_
  rintro e w3 ⟨rfl, hb⟩
  have G3 := Lib.hid (G2.out.below hb)
  have B3 := Lib.hid (B2.out.trans (hb.mono B2.out.size))
  have X3 := Lib.hid (X2.out.below hb)
  clear hb
  have c0 := X3.out.c0
  have c1 := X3.out.c1
  go_wp2_with fail
  clear c0 c1
  refine (err0 _ G3.out).mono ?_
  rintro e w4 ⟨rfl, hb⟩
  have G4 := Lib.hid (G3.out.below hb)
  have B4 := Lib.hid (B3.out.trans (hb.mono B3.out.size))
  have X4 := Lib.hid (X3.out.below hb)
  clear hb
  have c0 := X4.out.c0
  have c1 := X4.out.c1
  go_wp2_with fail
  clear c0 c1
  refine (h10 _).mono ?_
  rintro e w5 ⟨rfl, hb⟩
  have G5 := Lib.hid (G4.out.below hb)
  have B5 := Lib.hid (B4.out.trans (hb.mono B4.out.size))
  have X5 := Lib.hid (X4.out.below hb)
  clear hb
  have c0 := X5.out.c0
  have c1 := X5.out.c1
  go_wp2_with fail
  clear c0 c1
  refine (h12 _).mono ?_
  rintro e w6 ⟨rfl, hb⟩
  have G6 := Lib.hid (G5.out.below hb)
  have B6 := Lib.hid (B5.out.trans (hb.mono B5.out.size))
  have X6 := Lib.hid (X5.out.below hb)
  clear hb
  have c0 := X6.out.c0
  have c1 := X6.out.c1
  go_wp2_with fail
  clear c0 c1
  refine (hE _ G6.out).mono ?_
  rintro e w7 ⟨rfl, hb⟩
  have G7 := Lib.hid (G6.out.below hb)
  have B7 := Lib.hid (B6.out.trans (hb.mono B6.out.size))
  have X7 := Lib.hid (X6.out.below hb)
  clear hb
  have c0 := X7.out.c0
  have c1 := X7.out.c1
  go_wp2_with fail
  clear c0 c1
  refine (h13 _).mono ?_
  rintro e w8 ⟨rfl, hb⟩
  have G8 := Lib.hid (G7.out.below hb)
  have B8 := Lib.hid (B7.out.trans (hb.mono B7.out.size))
  have X8 := Lib.hid (X7.out.below hb)
  clear hb
  have c0 := X8.out.c0
  have c1 := X8.out.c1
  go_wp2_with fail
  clear c0 c1
  refine (hE _ G8.out).mono ?_
  rintro e w9 ⟨rfl, hb⟩
  have G9 := Lib.hid (G8.out.below hb)
  have B9 := Lib.hid (B8.out.trans (hb.mono B8.out.size))
  have X9 := Lib.hid (X8.out.below hb)
  clear hb
  have c0 := X9.out.c0
  have c1 := X9.out.c1
  simp only [strV_def]
  go_wp2_with fail
  clear c0 c1
  refine (h14 _).mono ?_
  rintro e w10 ⟨rfl, hb⟩
  have G10 := Lib.hid (G9.out.below hb)
  have B10 := Lib.hid (B9.out.trans (hb.mono B9.out.size))
  have X10 := Lib.hid (X9.out.below hb)
  clear hb
  have c0 := X10.out.c0
  have c1 := X10.out.c1
  have hb := belowA w10 (.cells #[.int .i64 qa, .int .i64 qn] 23)
  clear c0 c1
  have G11 := Lib.hid (G10.out.below hb)
  have B11 := Lib.hid (B10.out.trans (hb.mono B10.out.size))
  have X11 := Lib.hid (X10.out.below hb)
  have Y11 := Lib.hid (show Bx (w10.alloc (.cells #[.int .i64 qa, .int .i64 qn] 23)) w10.heap.size qa qn from ⟨by simp, by simp⟩)
  clear hb
  have c0 := X11.out.c0
  have c1 := X11.out.c1
  have d0 := Y11.out.c0
  have d1 := Y11.out.c1
  go_wp2_with fail
  clear c0 c1 d0 d1
  refine (h15 _ G11.out).mono ?_
  rintro e w12 ⟨rfl, hb⟩
  have G12 := Lib.hid (G11.out.below hb)
  have B12 := Lib.hid (B11.out.trans (hb.mono B11.out.size))
  have X12 := Lib.hid (X11.out.below hb)
  have Y12 := Lib.hid (Y11.out.below hb)
  clear hb
  have c0 := X12.out.c0
  have c1 := X12.out.c1
  have d0 := Y12.out.c0
  have d1 := Y12.out.c1
  have hb := belowA w12 (.cells #[.int .i64 qa, .int .i64 qn] 23)
  clear c0 c1 d0 d1
  have G13 := Lib.hid (G12.out.below hb)
  have B13 := Lib.hid (B12.out.trans (hb.mono B12.out.size))
  have X13 := Lib.hid (X12.out.below hb)
  have Y13 := Lib.hid (Y12.out.below hb)
  have Z13 := Lib.hid (show Bx (w12.alloc (.cells #[.int .i64 qa, .int .i64 qn] 23)) w12.heap.size qa qn from ⟨by simp, by simp⟩)
  clear hb
  have c0 := X13.out.c0
  have c1 := X13.out.c1
  have d0 := Y13.out.c0
  have d1 := Y13.out.c1
  have e0 := Z13.out.c0
  have e1 := Z13.out.c1
  go_wp2_with fail
  clear c0 c1 d0 d1 e0 e1
  refine (err0 _ G13.out).mono ?_
  rintro e w14 ⟨rfl, hb⟩
  have G14 := Lib.hid (G13.out.below hb)
  have B14 := Lib.hid (B13.out.trans (hb.mono B13.out.size))
  have X14 := Lib.hid (X13.out.below hb)
  have Y14 := Lib.hid (Y13.out.below hb)
  have Z14 := Lib.hid (Z13.out.below hb)
  clear hb
  have c0 := X14.out.c0
  have c1 := X14.out.c1
  have d0 := Y14.out.c0
  have d1 := Y14.out.c1
  have e0 := Z14.out.c0
  have e1 := Z14.out.c1
  go_wp2
  go_ret
  exact ⟨rfl, B14.out⟩

set_option maxHeartbeats 4000000 in
set_option maxRecDepth 1000000 in
theorem law_0100 (a pa pn : Int) (l : List UInt8) (w : World) (G : Glob w) (hs : l.length < 4294967281) (hA : addrB a = false) (n : Nat) (hS : tx.readAddr l = some n) (hP : tx.pfault pa pn ≠ 0) (hQ : tx.readPrefix l = none) :
    Calls Tryz.prog 3 #[.int .i64 a, .agg #[.int .i64 pa, .int .i64 pn], strV l] w fun e w' => e = .returned (.bool true) ∧ Below w.heap.size w w' := by
  have h4 := fun w => addr_any a w
  rw [hA] at h4
  have h6 : ∀ w, Calls Tryz.prog 6 #[.int .i64 a] w fun e w' => e = .returned (.tuple #[strV [], .iface 44 (.int .i64 1)]) ∧ w = w' := fun w => print_bad a hA w
  have h8 := fun w => readAddr_any l w hs
  rw [hS] at h8
  have h8 : ∀ w, Calls Tryz.prog 8 #[strV l] w fun e w' => e = .returned (.int .i64 n) ∧ Below w.heap.size w w' := h8
  have h9 := fun w G => parse_any l w hs G
  rw [hS] at h9
  have h9 : ∀ w (_ : Glob w), Calls Tryz.prog 9 #[strV l] w fun e w' => e = .returned (.tuple #[.int .i64 n, .nilIface]) ∧ Below w.heap.size w w' := h9
  have h10 := fun w => prefix_any pa pn w
  have h12 := fun w => check_any pa pn w
  have h13 := fun w => printPrefix_bad pa pn hP w
  have hE := fun w G => errF _ hP w G
  have he : errV (tx.pfault pa pn) = .iface 44 (.int .i64 (tx.pfault pa pn)) := by unfold errV; rw [if_neg hP]
  rw [he] at h12 h13
  have hF1 : (tx.pfault pa pn == 0) = false := beq_eq_false_iff_ne.2 hP
  generalize tx.pfault pa pn = F at *
  have h14 := fun w => readPrefix_any l w hs
  have h15 := fun w G => parsePrefix_any l w hs G
  rw [hQ] at h14 h15
  have h14 : ∀ w, Calls Tryz.prog 14 #[strV l] w fun e w' => e = .returned (.tuple #[.agg #[.int .i64 0, .int .i64 0], .bool false]) ∧ Below w.heap.size w w' := h14
  have h15 : ∀ w (_ : Glob w), Calls Tryz.prog 15 #[strV l] w fun e w' => e = .returned (.tuple #[.agg #[.int .i64 0, .int .i64 0], .iface 44 (.int .i64 2)]) ∧ Below w.heap.size w w' := h15
  have X0 := Lib.hid (show Bx (w.alloc (.cells #[.int .i64 pa, .int .i64 pn] 23)) w.heap.size pa pn from ⟨by simp, by simp⟩)
  have B0 := Lib.hid (belowA w (.cells #[.int .i64 pa, .int .i64 pn] 23))
  have G0 := Lib.hid (G.below B0.out)
  clear hA hS hP hQ hs G he
  go_enter Tryz.func3, Tryz.ntmps3
  have c0 := X0.out.c0
  have c1 := X0.out.c1
  go_wp2_with fail
  clear c0 c1
  refine (h4 _).mono ?_
  rintro e w' ⟨rfl, rfl⟩
  have c0 := X0.out.c0
  have c1 := X0.out.c1
  go_wp2_with fail
  clear c0 c1
  refine (h6 _).mono ?_
  rintro e w' ⟨rfl, rfl⟩
  have c0 := X0.out.c0
  have c1 := X0.out.c1
  go_wp2_with fail
  clear c0 c1
  refine (err1 _ G0.out).mono ?_
  rintro e w1 ⟨rfl, hb⟩
  have G1 := Lib.hid (G0.out.below hb)
  have B1 := Lib.hid (B0.out.trans (hb.mono B0.out.size))
  have X1 := Lib.hid (X0.out.below hb)
  clear hb
  have c0 := X1.out.c0
  have c1 := X1.out.c1
  simp only [strV_def]
  go_wp2_with fail
  clear c0 c1
  refine (h8 _).mono ?_
  rintro e w2 ⟨rfl, hb⟩
  have G2 := Lib.hid (G1.out.below hb)
  have B2 := Lib.hid (B1.out.trans (hb.mono B1.out.size))
  have X2 := Lib.hid (X1.out.below hb)
  clear hb
  have c0 := X2.out.c0
  have c1 := X2.out.c1
  go_wp2_with fail
  clear c0 c1
  refine (h9 _ G2.out).mono ?_
  rintro e w3 ⟨rfl, hb⟩
  have G3 := Lib.hid (G2.out.below hb)
  have B3 := Lib.hid (B2.out.trans (hb.mono B2.out.size))
  have X3 := Lib.hid (X2.out.below hb)
  clear hb
  have c0 := X3.out.c0
  have c1 := X3.out.c1
  go_wp2_with fail
  clear c0 c1
  refine (err0 _ G3.out).mono ?_
  rintro e w4 ⟨rfl, hb⟩
  have G4 := Lib.hid (G3.out.below hb)
  have B4 := Lib.hid (B3.out.trans (hb.mono B3.out.size))
  have X4 := Lib.hid (X3.out.below hb)
  clear hb
  have c0 := X4.out.c0
  have c1 := X4.out.c1
  go_wp2_with fail
  clear c0 c1
  refine (h10 _).mono ?_
  rintro e w5 ⟨rfl, hb⟩
  have G5 := Lib.hid (G4.out.below hb)
  have B5 := Lib.hid (B4.out.trans (hb.mono B4.out.size))
  have X5 := Lib.hid (X4.out.below hb)
  clear hb
  have c0 := X5.out.c0
  have c1 := X5.out.c1
  go_wp2_with fail
  clear c0 c1
  refine (h12 _).mono ?_
  rintro e w6 ⟨rfl, hb⟩
  have G6 := Lib.hid (G5.out.below hb)
  have B6 := Lib.hid (B5.out.trans (hb.mono B5.out.size))
  have X6 := Lib.hid (X5.out.below hb)
  clear hb
  have c0 := X6.out.c0
  have c1 := X6.out.c1
  go_wp2_with fail
  clear c0 c1
  refine (hE _ G6.out).mono ?_
  rintro e w7 ⟨rfl, hb⟩
  have G7 := Lib.hid (G6.out.below hb)
  have B7 := Lib.hid (B6.out.trans (hb.mono B6.out.size))
  have X7 := Lib.hid (X6.out.below hb)
  clear hb
  have c0 := X7.out.c0
  have c1 := X7.out.c1
  go_wp2_with fail
  clear c0 c1
  refine (h13 _).mono ?_
  rintro e w8 ⟨rfl, hb⟩
  have G8 := Lib.hid (G7.out.below hb)
  have B8 := Lib.hid (B7.out.trans (hb.mono B7.out.size))
  have X8 := Lib.hid (X7.out.below hb)
  clear hb
  have c0 := X8.out.c0
  have c1 := X8.out.c1
  go_wp2_with fail
  clear c0 c1
  refine (hE _ G8.out).mono ?_
  rintro e w9 ⟨rfl, hb⟩
  have G9 := Lib.hid (G8.out.below hb)
  have B9 := Lib.hid (B8.out.trans (hb.mono B8.out.size))
  have X9 := Lib.hid (X8.out.below hb)
  clear hb
  have c0 := X9.out.c0
  have c1 := X9.out.c1
  simp only [strV_def]
  go_wp2_with fail
  clear c0 c1
  refine (h14 _).mono ?_
  rintro e w10 ⟨rfl, hb⟩
  have G10 := Lib.hid (G9.out.below hb)
  have B10 := Lib.hid (B9.out.trans (hb.mono B9.out.size))
  have X10 := Lib.hid (X9.out.below hb)
  clear hb
  have c0 := X10.out.c0
  have c1 := X10.out.c1
  have hb := belowA w10 (.cells #[.int .i64 0, .int .i64 0] 23)
  clear c0 c1
  have G11 := Lib.hid (G10.out.below hb)
  have B11 := Lib.hid (B10.out.trans (hb.mono B10.out.size))
  have X11 := Lib.hid (X10.out.below hb)
  have Y11 := Lib.hid (show Bx (w10.alloc (.cells #[.int .i64 0, .int .i64 0] 23)) w10.heap.size 0 0 from ⟨by simp, by simp⟩)
  clear hb
  have c0 := X11.out.c0
  have c1 := X11.out.c1
  have d0 := Y11.out.c0
  have d1 := Y11.out.c1
  go_wp2_with fail
  clear c0 c1 d0 d1
  refine (h15 _ G11.out).mono ?_
  rintro e w12 ⟨rfl, hb⟩
  have G12 := Lib.hid (G11.out.below hb)
  have B12 := Lib.hid (B11.out.trans (hb.mono B11.out.size))
  have X12 := Lib.hid (X11.out.below hb)
  have Y12 := Lib.hid (Y11.out.below hb)
  clear hb
  have c0 := X12.out.c0
  have c1 := X12.out.c1
  have d0 := Y12.out.c0
  have d1 := Y12.out.c1
  have hb := belowA w12 (.cells #[.int .i64 0, .int .i64 0] 23)
  clear c0 c1 d0 d1
  have G13 := Lib.hid (G12.out.below hb)
  have B13 := Lib.hid (B12.out.trans (hb.mono B12.out.size))
  have X13 := Lib.hid (X12.out.below hb)
  have Y13 := Lib.hid (Y12.out.below hb)
  have Z13 := Lib.hid (show Bx (w12.alloc (.cells #[.int .i64 0, .int .i64 0] 23)) w12.heap.size 0 0 from ⟨by simp, by simp⟩)
  clear hb
  have c0 := X13.out.c0
  have c1 := X13.out.c1
  have d0 := Y13.out.c0
  have d1 := Y13.out.c1
  have e0 := Z13.out.c0
  have e1 := Z13.out.c1
  go_wp2_with fail
  clear c0 c1 d0 d1 e0 e1
  refine (err2 _ G13.out).mono ?_
  rintro e w14 ⟨rfl, hb⟩
  have G14 := Lib.hid (G13.out.below hb)
  have B14 := Lib.hid (B13.out.trans (hb.mono B13.out.size))
  have X14 := Lib.hid (X13.out.below hb)
  have Y14 := Lib.hid (Y13.out.below hb)
  have Z14 := Lib.hid (Z13.out.below hb)
  clear hb
  have c0 := X14.out.c0
  have c1 := X14.out.c1
  have d0 := Y14.out.c0
  have d1 := Y14.out.c1
  have e0 := Z14.out.c0
  have e1 := Z14.out.c1
  go_wp2
  go_ret
  exact ⟨rfl, B14.out⟩

set_option maxHeartbeats 4000000 in
set_option maxRecDepth 1000000 in
theorem law_0011 (a pa pn : Int) (l : List UInt8) (w : World) (G : Glob w) (hs : l.length < 4294967281) (hA : addrB a = false) (hS : tx.readAddr l = none) (hP : tx.pfault pa pn = 0) (qa qn : Nat) (hQ : tx.readPrefix l = some (qa, qn)) :
    Calls Tryz.prog 3 #[.int .i64 a, .agg #[.int .i64 pa, .int .i64 pn], strV l] w fun e w' => e = .returned (.bool true) ∧ Below w.heap.size w w' := by
  have h4 := fun w => addr_any a w
  rw [hA] at h4
  have h6 : ∀ w, Calls Tryz.prog 6 #[.int .i64 a] w fun e w' => e = .returned (.tuple #[strV [], .iface 44 (.int .i64 1)]) ∧ w = w' := fun w => print_bad a hA w
  have h8 := fun w => readAddr_any l w hs
  rw [hS] at h8
  have h8 : ∀ w, Calls Tryz.prog 8 #[strV l] w fun e w' => e = .returned (.int .i64 (-1)) ∧ Below w.heap.size w w' := h8
  have h9 := fun w G => parse_any l w hs G
  rw [hS] at h9
  have h9 : ∀ w (_ : Glob w), Calls Tryz.prog 9 #[strV l] w fun e w' => e = .returned (.tuple #[.int .i64 0, .iface 44 (.int .i64 2)]) ∧ Below w.heap.size w w' := h9
  have h10 := fun w => prefix_any pa pn w
  have h12 := fun w => check_any pa pn w
  have h11 := fun w => showPrefix_any pa pn hP w
  have h13 := fun w G => printPrefix_ok pa pn hP w G
  rw [hP] at h10 h12
  rw [errV0] at h12
  have h14 := fun w => readPrefix_any l w hs
  have h15 := fun w G => parsePrefix_any l w hs G
  rw [hQ] at h14 h15
  have h14 : ∀ w, Calls Tryz.prog 14 #[strV l] w fun e w' => e = .returned (.tuple #[.agg #[.int .i64 qa, .int .i64 qn], .bool true]) ∧ Below w.heap.size w w' := h14
  have h15 : ∀ w (_ : Glob w), Calls Tryz.prog 15 #[strV l] w fun e w' => e = .returned (.tuple #[.agg #[.int .i64 qa, .int .i64 qn], .nilIface]) ∧ Below w.heap.size w w' := h15
  have X0 := Lib.hid (show Bx (w.alloc (.cells #[.int .i64 pa, .int .i64 pn] 23)) w.heap.size pa pn from ⟨by simp, by simp⟩)
  have B0 := Lib.hid (belowA w (.cells #[.int .i64 pa, .int .i64 pn] 23))
  have G0 := Lib.hid (G.below B0.out)
  clear hA hS hP hQ hs G
  go_enter Tryz.func3, Tryz.ntmps3
  have c0 := X0.out.c0
  have c1 := X0.out.c1
  go_wp2_with fail
  clear c0 c1
  refine (h4 _).mono ?_
  rintro e w' ⟨rfl, rfl⟩
  have c0 := X0.out.c0
  have c1 := X0.out.c1
  go_wp2_with fail
  clear c0 c1
  refine (h6 _).mono ?_
  rintro e w' ⟨rfl, rfl⟩
  have c0 := X0.out.c0
  have c1 := X0.out.c1
  go_wp2_with fail
  clear c0 c1
  refine (err1 _ G0.out).mono ?_
  rintro e w1 ⟨rfl, hb⟩
  have G1 := Lib.hid (G0.out.below hb)
  have B1 := Lib.hid (B0.out.trans (hb.mono B0.out.size))
  have X1 := Lib.hid (X0.out.below hb)
  clear hb
  have c0 := X1.out.c0
  have c1 := X1.out.c1
  simp only [strV_def]
  go_wp2_with fail
  clear c0 c1
  refine (h8 _).mono ?_
  rintro e w2 ⟨rfl, hb⟩
  have G2 := Lib.hid (G1.out.below hb)
  have B2 := Lib.hid (B1.out.trans (hb.mono B1.out.size))
  have X2 := Lib.hid (X1.out.below hb)
  clear hb
  have c0 := X2.out.c0
  have c1 := X2.out.c1
  go_wp2_with fail
  clear c0 c1
  refine (h9 _ G2.out).mono ?_
  rintro e w3 ⟨rfl, hb⟩
  have G3 := Lib.hid (G2.out.below hb)
  have B3 := Lib.hid (B2.out.trans (hb.mono B2.out.size))
  have X3 := Lib.hid (X2.out.below hb)
  clear hb
  have c0 := X3.out.c0
  have c1 := X3.out.c1
  go_wp2_with fail
  clear c0 c1
  refine (err2 _ G3.out).mono ?_
  rintro e w4 ⟨rfl, hb⟩
  have G4 := Lib.hid (G3.out.below hb)
  have B4 := Lib.hid (B3.out.trans (hb.mono B3.out.size))
  have X4 := Lib.hid (X3.out.below hb)
  clear hb
  have c0 := X4.out.c0
  have c1 := X4.out.c1
  go_wp2_with fail
  clear c0 c1
  refine (h10 _).mono ?_
  rintro e w5 ⟨rfl, hb⟩
  have G5 := Lib.hid (G4.out.below hb)
  have B5 := Lib.hid (B4.out.trans (hb.mono B4.out.size))
  have X5 := Lib.hid (X4.out.below hb)
  clear hb
  have c0 := X5.out.c0
  have c1 := X5.out.c1
  go_wp2_with fail
  clear c0 c1
  refine (h11 _).mono ?_
  rintro e w6 ⟨rfl, hb⟩
  have G6 := Lib.hid (G5.out.below hb)
  have B6 := Lib.hid (B5.out.trans (hb.mono B5.out.size))
  have X6 := Lib.hid (X5.out.below hb)
  clear hb
  have c0 := X6.out.c0
  have c1 := X6.out.c1
  go_wp2_with fail
  clear c0 c1
  refine (h12 _).mono ?_
  rintro e w7 ⟨rfl, hb⟩
  have G7 := Lib.hid (G6.out.below hb)
  have B7 := Lib.hid (B6.out.trans (hb.mono B6.out.size))
  have X7 := Lib.hid (X6.out.below hb)
  clear hb
  have c0 := X7.out.c0
  have c1 := X7.out.c1
  go_wp2_with fail
  clear c0 c1
  refine (err0 _ G7.out).mono ?_
  rintro e w8 ⟨rfl, hb⟩
  have G8 := Lib.hid (G7.out.below hb)
  have B8 := Lib.hid (B7.out.trans (hb.mono B7.out.size))
  have X8 := Lib.hid (X7.out.below hb)
  clear hb
  have c0 := X8.out.c0
  have c1 := X8.out.c1
  go_wp2_with fail
  clear c0 c1
  refine (h13 _ G8.out).mono ?_
  rintro e w9 ⟨rfl, hb⟩
  have G9 := Lib.hid (G8.out.below hb)
  have B9 := Lib.hid (B8.out.trans (hb.mono B8.out.size))
  have X9 := Lib.hid (X8.out.below hb)
  clear hb
  have c0 := X9.out.c0
  have c1 := X9.out.c1
  go_wp2_with fail
  clear c0 c1
  refine (err0 _ G9.out).mono ?_
  rintro e w10 ⟨rfl, hb⟩
  have G10 := Lib.hid (G9.out.below hb)
  have B10 := Lib.hid (B9.out.trans (hb.mono B9.out.size))
  have X10 := Lib.hid (X9.out.below hb)
  clear hb
  have c0 := X10.out.c0
  have c1 := X10.out.c1
  simp only [strV_def]
  go_wp2_with fail
  clear c0 c1
  refine (h14 _).mono ?_
  rintro e w11 ⟨rfl, hb⟩
  have G11 := Lib.hid (G10.out.below hb)
  have B11 := Lib.hid (B10.out.trans (hb.mono B10.out.size))
  have X11 := Lib.hid (X10.out.below hb)
  clear hb
  have c0 := X11.out.c0
  have c1 := X11.out.c1
  have hb := belowA w11 (.cells #[.int .i64 qa, .int .i64 qn] 23)
  clear c0 c1
  have G12 := Lib.hid (G11.out.below hb)
  have B12 := Lib.hid (B11.out.trans (hb.mono B11.out.size))
  have X12 := Lib.hid (X11.out.below hb)
  have Y12 := Lib.hid (show Bx (w11.alloc (.cells #[.int .i64 qa, .int .i64 qn] 23)) w11.heap.size qa qn from ⟨by simp, by simp⟩)
  clear hb
  have c0 := X12.out.c0
  have c1 := X12.out.c1
  have d0 := Y12.out.c0
  have d1 := Y12.out.c1
  go_wp2_with fail
  clear c0 c1 d0 d1
  refine (h15 _ G12.out).mono ?_
  rintro e w13 ⟨rfl, hb⟩
  have G13 := Lib.hid (G12.out.below hb)
  have B13 := Lib.hid (B12.out.trans (hb.mono B12.out.size))
  have X13 := Lib.hid (X12.out.below hb)
  have Y13 := Lib.hid (Y12.out.below hb)
  clear hb
  have c0 := X13.out.c0
  have c1 := X13.out.c1
  have d0 := Y13.out.c0
  have d1 := Y13.out.c1
  have hb := belowA w13 (.cells #[.int .i64 qa, .int .i64 qn] 23)
  clear c0 c1 d0 d1
  have G14 := Lib.hid (G13.out.below hb)
  have B14 := Lib.hid (B13.out.trans (hb.mono B13.out.size))
  have X14 := Lib.hid (X13.out.below hb)
  have Y14 := Lib.hid (Y13.out.below hb)
  have Z14 := Lib.hid (show Bx (w13.alloc (.cells #[.int .i64 qa, .int .i64 qn] 23)) w13.heap.size qa qn from ⟨by simp, by simp⟩)
  clear hb
  have c0 := X14.out.c0
  have c1 := X14.out.c1
  have d0 := Y14.out.c0
  have d1 := Y14.out.c1
  have e0 := Z14.out.c0
  have e1 := Z14.out.c1
  go_wp2_with fail
  clear c0 c1 d0 d1 e0 e1
  refine (err0 _ G14.out).mono ?_
  rintro e w15 ⟨rfl, hb⟩
  have G15 := Lib.hid (G14.out.below hb)
  have B15 := Lib.hid (B14.out.trans (hb.mono B14.out.size))
  have X15 := Lib.hid (X14.out.below hb)
  have Y15 := Lib.hid (Y14.out.below hb)
  have Z15 := Lib.hid (Z14.out.below hb)
  clear hb
  have c0 := X15.out.c0
  have c1 := X15.out.c1
  have d0 := Y15.out.c0
  have d1 := Y15.out.c1
  have e0 := Z15.out.c0
  have e1 := Z15.out.c1
  go_wp2
  go_ret
  exact ⟨rfl, B15.out⟩

set_option maxHeartbeats 4000000 in
set_option maxRecDepth 1000000 in
theorem law_0010 (a pa pn : Int) (l : List UInt8) (w : World) (G : Glob w) (hs : l.length < 4294967281) (hA : addrB a = false) (hS : tx.readAddr l = none) (hP : tx.pfault pa pn = 0) (hQ : tx.readPrefix l = none) :
    Calls Tryz.prog 3 #[.int .i64 a, .agg #[.int .i64 pa, .int .i64 pn], strV l] w fun e w' => e = .returned (.bool true) ∧ Below w.heap.size w w' := by
  have h4 := fun w => addr_any a w
  rw [hA] at h4
  have h6 : ∀ w, Calls Tryz.prog 6 #[.int .i64 a] w fun e w' => e = .returned (.tuple #[strV [], .iface 44 (.int .i64 1)]) ∧ w = w' := fun w => print_bad a hA w
  have h8 := fun w => readAddr_any l w hs
  rw [hS] at h8
  have h8 : ∀ w, Calls Tryz.prog 8 #[strV l] w fun e w' => e = .returned (.int .i64 (-1)) ∧ Below w.heap.size w w' := h8
  have h9 := fun w G => parse_any l w hs G
  rw [hS] at h9
  have h9 : ∀ w (_ : Glob w), Calls Tryz.prog 9 #[strV l] w fun e w' => e = .returned (.tuple #[.int .i64 0, .iface 44 (.int .i64 2)]) ∧ Below w.heap.size w w' := h9
  have h10 := fun w => prefix_any pa pn w
  have h12 := fun w => check_any pa pn w
  have h11 := fun w => showPrefix_any pa pn hP w
  have h13 := fun w G => printPrefix_ok pa pn hP w G
  rw [hP] at h10 h12
  rw [errV0] at h12
  have h14 := fun w => readPrefix_any l w hs
  have h15 := fun w G => parsePrefix_any l w hs G
  rw [hQ] at h14 h15
  have h14 : ∀ w, Calls Tryz.prog 14 #[strV l] w fun e w' => e = .returned (.tuple #[.agg #[.int .i64 0, .int .i64 0], .bool false]) ∧ Below w.heap.size w w' := h14
  have h15 : ∀ w (_ : Glob w), Calls Tryz.prog 15 #[strV l] w fun e w' => e = .returned (.tuple #[.agg #[.int .i64 0, .int .i64 0], .iface 44 (.int .i64 2)]) ∧ Below w.heap.size w w' := h15
  have X0 := Lib.hid (show Bx (w.alloc (.cells #[.int .i64 pa, .int .i64 pn] 23)) w.heap.size pa pn from ⟨by simp, by simp⟩)
  have B0 := Lib.hid (belowA w (.cells #[.int .i64 pa, .int .i64 pn] 23))
  have G0 := Lib.hid (G.below B0.out)
  clear hA hS hP hQ hs G
  go_enter Tryz.func3, Tryz.ntmps3
  have c0 := X0.out.c0
  have c1 := X0.out.c1
  go_wp2_with fail
  clear c0 c1
  refine (h4 _).mono ?_
  rintro e w' ⟨rfl, rfl⟩
  have c0 := X0.out.c0
  have c1 := X0.out.c1
  go_wp2_with fail
  clear c0 c1
  refine (h6 _).mono ?_
  rintro e w' ⟨rfl, rfl⟩
  have c0 := X0.out.c0
  have c1 := X0.out.c1
  go_wp2_with fail
  clear c0 c1
  refine (err1 _ G0.out).mono ?_
  rintro e w1 ⟨rfl, hb⟩
  have G1 := Lib.hid (G0.out.below hb)
  have B1 := Lib.hid (B0.out.trans (hb.mono B0.out.size))
  have X1 := Lib.hid (X0.out.below hb)
  clear hb
  have c0 := X1.out.c0
  have c1 := X1.out.c1
  simp only [strV_def]
  go_wp2_with fail
  clear c0 c1
  refine (h8 _).mono ?_
  rintro e w2 ⟨rfl, hb⟩
  have G2 := Lib.hid (G1.out.below hb)
  have B2 := Lib.hid (B1.out.trans (hb.mono B1.out.size))
  have X2 := Lib.hid (X1.out.below hb)
  clear hb
  have c0 := X2.out.c0
  have c1 := X2.out.c1
  go_wp2_with fail
  clear c0 c1
  refine (h9 _ G2.out).mono ?_
  rintro e w3 ⟨rfl, hb⟩
  have G3 := Lib.hid (G2.out.below hb)
  have B3 := Lib.hid (B2.out.trans (hb.mono B2.out.size))
  have X3 := Lib.hid (X2.out.below hb)
  clear hb
  have c0 := X3.out.c0
  have c1 := X3.out.c1
  go_wp2_with fail
  clear c0 c1
  refine (err2 _ G3.out).mono ?_
  rintro e w4 ⟨rfl, hb⟩
  have G4 := Lib.hid (G3.out.below hb)
  have B4 := Lib.hid (B3.out.trans (hb.mono B3.out.size))
  have X4 := Lib.hid (X3.out.below hb)
  clear hb
  have c0 := X4.out.c0
  have c1 := X4.out.c1
  go_wp2_with fail
  clear c0 c1
  refine (h10 _).mono ?_
  rintro e w5 ⟨rfl, hb⟩
  have G5 := Lib.hid (G4.out.below hb)
  have B5 := Lib.hid (B4.out.trans (hb.mono B4.out.size))
  have X5 := Lib.hid (X4.out.below hb)
  clear hb
  have c0 := X5.out.c0
  have c1 := X5.out.c1
  go_wp2_with fail
  clear c0 c1
  refine (h11 _).mono ?_
  rintro e w6 ⟨rfl, hb⟩
  have G6 := Lib.hid (G5.out.below hb)
  have B6 := Lib.hid (B5.out.trans (hb.mono B5.out.size))
  have X6 := Lib.hid (X5.out.below hb)
  clear hb
  have c0 := X6.out.c0
  have c1 := X6.out.c1
  go_wp2_with fail
  clear c0 c1
  refine (h12 _).mono ?_
  rintro e w7 ⟨rfl, hb⟩
  have G7 := Lib.hid (G6.out.below hb)
  have B7 := Lib.hid (B6.out.trans (hb.mono B6.out.size))
  have X7 := Lib.hid (X6.out.below hb)
  clear hb
  have c0 := X7.out.c0
  have c1 := X7.out.c1
  go_wp2_with fail
  clear c0 c1
  refine (err0 _ G7.out).mono ?_
  rintro e w8 ⟨rfl, hb⟩
  have G8 := Lib.hid (G7.out.below hb)
  have B8 := Lib.hid (B7.out.trans (hb.mono B7.out.size))
  have X8 := Lib.hid (X7.out.below hb)
  clear hb
  have c0 := X8.out.c0
  have c1 := X8.out.c1
  go_wp2_with fail
  clear c0 c1
  refine (h13 _ G8.out).mono ?_
  rintro e w9 ⟨rfl, hb⟩
  have G9 := Lib.hid (G8.out.below hb)
  have B9 := Lib.hid (B8.out.trans (hb.mono B8.out.size))
  have X9 := Lib.hid (X8.out.below hb)
  clear hb
  have c0 := X9.out.c0
  have c1 := X9.out.c1
  go_wp2_with fail
  clear c0 c1
  refine (err0 _ G9.out).mono ?_
  rintro e w10 ⟨rfl, hb⟩
  have G10 := Lib.hid (G9.out.below hb)
  have B10 := Lib.hid (B9.out.trans (hb.mono B9.out.size))
  have X10 := Lib.hid (X9.out.below hb)
  clear hb
  have c0 := X10.out.c0
  have c1 := X10.out.c1
  simp only [strV_def]
  go_wp2_with fail
  clear c0 c1
  refine (h14 _).mono ?_
  rintro e w11 ⟨rfl, hb⟩
  have G11 := Lib.hid (G10.out.below hb)
  have B11 := Lib.hid (B10.out.trans (hb.mono B10.out.size))
  have X11 := Lib.hid (X10.out.below hb)
  clear hb
  have c0 := X11.out.c0
  have c1 := X11.out.c1
  have hb := belowA w11 (.cells #[.int .i64 0, .int .i64 0] 23)
  clear c0 c1
  have G12 := Lib.hid (G11.out.below hb)
  have B12 := Lib.hid (B11.out.trans (hb.mono B11.out.size))
  have X12 := Lib.hid (X11.out.below hb)
  have Y12 := Lib.hid (show Bx (w11.alloc (.cells #[.int .i64 0, .int .i64 0] 23)) w11.heap.size 0 0 from ⟨by simp, by simp⟩)
  clear hb
  have c0 := X12.out.c0
  have c1 := X12.out.c1
  have d0 := Y12.out.c0
  have d1 := Y12.out.c1
  go_wp2_with fail
  clear c0 c1 d0 d1
  refine (h15 _ G12.out).mono ?_
  rintro e w13 ⟨rfl, hb⟩
  have G13 := Lib.hid (G12.out.below hb)
  have B13 := Lib.hid (B12.out.trans (hb.mono B12.out.size))
  have X13 := Lib.hid (X12.out.below hb)
  have Y13 := Lib.hid (Y12.out.below hb)
  clear hb
  have c0 := X13.out.c0
  have c1 := X13.out.c1
  have d0 := Y13.out.c0
  have d1 := Y13.out.c1
  have hb := belowA w13 (.cells #[.int .i64 0, .int .i64 0] 23)
  clear c0 c1 d0 d1
  have G14 := Lib.hid (G13.out.below hb)
  have B14 := Lib.hid (B13.out.trans (hb.mono B13.out.size))
  have X14 := Lib.hid (X13.out.below hb)
  have Y14 := Lib.hid (Y13.out.below hb)
  have Z14 := Lib.hid (show Bx (w13.alloc (.cells #[.int .i64 0, .int .i64 0] 23)) w13.heap.size 0 0 from ⟨by simp, by simp⟩)
  clear hb
  have c0 := X14.out.c0
  have c1 := X14.out.c1
  have d0 := Y14.out.c0
  have d1 := Y14.out.c1
  have e0 := Z14.out.c0
  have e1 := Z14.out.c1
  go_wp2_with fail
  clear c0 c1 d0 d1 e0 e1
  refine (err2 _ G14.out).mono ?_
  rintro e w15 ⟨rfl, hb⟩
  have G15 := Lib.hid (G14.out.below hb)
  have B15 := Lib.hid (B14.out.trans (hb.mono B14.out.size))
  have X15 := Lib.hid (X14.out.below hb)
  have Y15 := Lib.hid (Y14.out.below hb)
  have Z15 := Lib.hid (Z14.out.below hb)
  clear hb
  have c0 := X15.out.c0
  have c1 := X15.out.c1
  have d0 := Y15.out.c0
  have d1 := Y15.out.c1
  have e0 := Z15.out.c0
  have e1 := Z15.out.c1
  go_wp2
  go_ret
  exact ⟨rfl, B15.out⟩

set_option maxHeartbeats 4000000 in
set_option maxRecDepth 1000000 in
theorem law_0001 (a pa pn : Int) (l : List UInt8) (w : World) (G : Glob w) (hs : l.length < 4294967281) (hA : addrB a = false) (hS : tx.readAddr l = none) (hP : tx.pfault pa pn ≠ 0) (qa qn : Nat) (hQ : tx.readPrefix l = some (qa, qn)) :
    Calls Tryz.prog 3 #[.int .i64 a, .agg #[.int .i64 pa, .int .i64 pn], strV l] w fun e w' => e = .returned (.bool true) ∧ Below w.heap.size w w' := by
  have h4 := fun w => addr_any a w
  rw [hA] at h4
  have h6 : ∀ w, Calls Tryz.prog 6 #[.int .i64 a] w fun e w' => e = .returned (.tuple #[strV [], .iface 44 (.int .i64 1)]) ∧ w = w' := fun w => print_bad a hA w
  have h8 := fun w => readAddr_any l w hs
  rw [hS] at h8
  have h8 : ∀ w, Calls Tryz.prog 8 #[strV l] w fun e w' => e = .returned (.int .i64 (-1)) ∧ Below w.heap.size w w' := h8
  have h9 := fun w G => parse_any l w hs G
  rw [hS] at h9
  have h9 : ∀ w (_ : Glob w), Calls Tryz.prog 9 #[strV l] w fun e w' => e = .returned (.tuple #[.int .i64 0, .iface 44 (.int .i64 2)]) ∧ Below w.heap.size w w' := h9
  have h10 := fun w => prefix_any pa pn w
  have h12 := fun w => check_any pa pn w
  have h13 := fun w => printPrefix_bad pa pn hP w
  have hE := fun w G => errF _ hP w G
  have he : errV (tx.pfault pa pn) = .iface 44 (.int .i64 (tx.pfault pa pn)) := by unfold errV; rw [if_neg hP]
  rw [he] at h12 h13
  have hF1 : (tx.pfault pa pn == 0) = false := beq_eq_false_iff_ne.2 hP
  generalize tx.pfault pa pn = F at *
  have h14 := fun w => readPrefix_any l w hs
  have h15 := fun w G => parsePrefix_any l w hs G
  rw [hQ] at h14 h15
  have h14 : ∀ w, Calls Tryz.prog 14 #[strV l] w fun e w' => e = .returned (.tuple #[.agg #[.int .i64 qa, .int .i64 qn], .bool true]) ∧ Below w.heap.size w w' := h14
  have h15 : ∀ w (_ : Glob w), Calls Tryz.prog 15 #[strV l] w fun e w' => e = .returned (.tuple #[.agg #[.int .i64 qa, .int .i64 qn], .nilIface]) ∧ Below w.heap.size w w' := h15
  have X0 := Lib.hid (show Bx (w.alloc (.cells #[.int .i64 pa, .int .i64 pn] 23)) w.heap.size pa pn from ⟨by simp, by simp⟩)
  have B0 := Lib.hid (belowA w (.cells #[.int .i64 pa, .int .i64 pn] 23))
  have G0 := Lib.hid (G.below B0.out)
  clear hA hS hP hQ hs G he
  go_enter Tryz.func3, Tryz.ntmps3
  have c0 := X0.out.c0
  have c1 := X0.out.c1
  go_wp2_with fail
  clear c0 c1
  refine (h4 _).mono ?_
  rintro e w' ⟨rfl, rfl⟩
  have c0 := X0.out.c0
  have c1 := X0.out.c1
  go_wp2_with fail
  clear c0 c1
  refine (h6 _).mono ?_
  rintro e w' ⟨rfl, rfl⟩
  have c0 := X0.out.c0
  have c1 := X0.out.c1
  go_wp2_with fail
  clear c0 c1
  refine (err1 _ G0.out).mono ?_
  rintro e w1 ⟨rfl, hb⟩
  have G1 := Lib.hid (G0.out.below hb)
  have B1 := Lib.hid (B0.out.trans (hb.mono B0.out.size))
  have X1 := Lib.hid (X0.out.below hb)
  clear hb
  have c0 := X1.out.c0
  have c1 := X1.out.c1
  simp only [strV_def]
  go_wp2_with fail
  clear c0 c1
  refine (h8 _).mono ?_
  rintro e w2 ⟨rfl, hb⟩
  have G2 := Lib.hid (G1.out.below hb)
  have B2 := Lib.hid (B1.out.trans (hb.mono B1.out.size))
  have X2 := Lib.hid (X1.out.below hb)
  clear hb
  have c0 := X2.out.c0
  have c1 := X2.out.c1
  go_wp2_with fail
  clear c0 c1
  refine (h9 _ G2.out).mono ?_
  rintro e w3 ⟨rfl, hb⟩
  have G3 := Lib.hid (G2.out.below hb)
  have B3 := Lib.hid (B2.out.trans (hb.mono B2.out.size))
  have X3 := Lib.hid (X2.out.below hb)
  clear hb
  have c0 := X3.out.c0
  have c1 := X3.out.c1
  go_wp2_with fail
  clear c0 c1
  refine (err2 _ G3.out).mono ?_
  rintro e w4 ⟨rfl, hb⟩
  have G4 := Lib.hid (G3.out.below hb)
  have B4 := Lib.hid (B3.out.trans (hb.mono B3.out.size))
  have X4 := Lib.hid (X3.out.below hb)
  clear hb
  have c0 := X4.out.c0
  have c1 := X4.out.c1
  go_wp2_with fail
  clear c0 c1
  refine (h10 _).mono ?_
  rintro e w5 ⟨rfl, hb⟩
  have G5 := Lib.hid (G4.out.below hb)
  have B5 := Lib.hid (B4.out.trans (hb.mono B4.out.size))
  have X5 := Lib.hid (X4.out.below hb)
  clear hb
  have c0 := X5.out.c0
  have c1 := X5.out.c1
  go_wp2_with fail
  clear c0 c1
  refine (h12 _).mono ?_
  rintro e w6 ⟨rfl, hb⟩
  have G6 := Lib.hid (G5.out.below hb)
  have B6 := Lib.hid (B5.out.trans (hb.mono B5.out.size))
  have X6 := Lib.hid (X5.out.below hb)
  clear hb
  have c0 := X6.out.c0
  have c1 := X6.out.c1
  go_wp2_with fail
  clear c0 c1
  refine (hE _ G6.out).mono ?_
  rintro e w7 ⟨rfl, hb⟩
  have G7 := Lib.hid (G6.out.below hb)
  have B7 := Lib.hid (B6.out.trans (hb.mono B6.out.size))
  have X7 := Lib.hid (X6.out.below hb)
  clear hb
  have c0 := X7.out.c0
  have c1 := X7.out.c1
  go_wp2_with fail
  clear c0 c1
  refine (h13 _).mono ?_
  rintro e w8 ⟨rfl, hb⟩
  have G8 := Lib.hid (G7.out.below hb)
  have B8 := Lib.hid (B7.out.trans (hb.mono B7.out.size))
  have X8 := Lib.hid (X7.out.below hb)
  clear hb
  have c0 := X8.out.c0
  have c1 := X8.out.c1
  go_wp2_with fail
  clear c0 c1
  refine (hE _ G8.out).mono ?_
  rintro e w9 ⟨rfl, hb⟩
  have G9 := Lib.hid (G8.out.below hb)
  have B9 := Lib.hid (B8.out.trans (hb.mono B8.out.size))
  have X9 := Lib.hid (X8.out.below hb)
  clear hb
  have c0 := X9.out.c0
  have c1 := X9.out.c1
  simp only [strV_def]
  go_wp2_with fail
  clear c0 c1
  refine (h14 _).mono ?_
  rintro e w10 ⟨rfl, hb⟩
  have G10 := Lib.hid (G9.out.below hb)
  have B10 := Lib.hid (B9.out.trans (hb.mono B9.out.size))
  have X10 := Lib.hid (X9.out.below hb)
  clear hb
  have c0 := X10.out.c0
  have c1 := X10.out.c1
  have hb := belowA w10 (.cells #[.int .i64 qa, .int .i64 qn] 23)
  clear c0 c1
  have G11 := Lib.hid (G10.out.below hb)
  have B11 := Lib.hid (B10.out.trans (hb.mono B10.out.size))
  have X11 := Lib.hid (X10.out.below hb)
  have Y11 := Lib.hid (show Bx (w10.alloc (.cells #[.int .i64 qa, .int .i64 qn] 23)) w10.heap.size qa qn from ⟨by simp, by simp⟩)
  clear hb
  have c0 := X11.out.c0
  have c1 := X11.out.c1
  have d0 := Y11.out.c0
  have d1 := Y11.out.c1
  go_wp2_with fail
  clear c0 c1 d0 d1
  refine (h15 _ G11.out).mono ?_
  rintro e w12 ⟨rfl, hb⟩
  have G12 := Lib.hid (G11.out.below hb)
  have B12 := Lib.hid (B11.out.trans (hb.mono B11.out.size))
  have X12 := Lib.hid (X11.out.below hb)
  have Y12 := Lib.hid (Y11.out.below hb)
  clear hb
  have c0 := X12.out.c0
  have c1 := X12.out.c1
  have d0 := Y12.out.c0
  have d1 := Y12.out.c1
  have hb := belowA w12 (.cells #[.int .i64 qa, .int .i64 qn] 23)
  clear c0 c1 d0 d1
  have G13 := Lib.hid (G12.out.below hb)
  have B13 := Lib.hid (B12.out.trans (hb.mono B12.out.size))
  have X13 := Lib.hid (X12.out.below hb)
  have Y13 := Lib.hid (Y12.out.below hb)
  have Z13 := Lib.hid (show Bx (w12.alloc (.cells #[.int .i64 qa, .int .i64 qn] 23)) w12.heap.size qa qn from ⟨by simp, by simp⟩)
  clear hb
  have c0 := X13.out.c0
  have c1 := X13.out.c1
  have d0 := Y13.out.c0
  have d1 := Y13.out.c1
  have e0 := Z13.out.c0
  have e1 := Z13.out.c1
  go_wp2_with fail
  clear c0 c1 d0 d1 e0 e1
  refine (err0 _ G13.out).mono ?_
  rintro e w14 ⟨rfl, hb⟩
  have G14 := Lib.hid (G13.out.below hb)
  have B14 := Lib.hid (B13.out.trans (hb.mono B13.out.size))
  have X14 := Lib.hid (X13.out.below hb)
  have Y14 := Lib.hid (Y13.out.below hb)
  have Z14 := Lib.hid (Z13.out.below hb)
  clear hb
  have c0 := X14.out.c0
  have c1 := X14.out.c1
  have d0 := Y14.out.c0
  have d1 := Y14.out.c1
  have e0 := Z14.out.c0
  have e1 := Z14.out.c1
  go_wp2
  go_ret
  exact ⟨rfl, B14.out⟩

set_option maxHeartbeats 4000000 in
set_option maxRecDepth 1000000 in
theorem law_0000 (a pa pn : Int) (l : List UInt8) (w : World) (G : Glob w) (hs : l.length < 4294967281) (hA : addrB a = false) (hS : tx.readAddr l = none) (hP : tx.pfault pa pn ≠ 0) (hQ : tx.readPrefix l = none) :
    Calls Tryz.prog 3 #[.int .i64 a, .agg #[.int .i64 pa, .int .i64 pn], strV l] w fun e w' => e = .returned (.bool true) ∧ Below w.heap.size w w' := by
  have h4 := fun w => addr_any a w
  rw [hA] at h4
  have h6 : ∀ w, Calls Tryz.prog 6 #[.int .i64 a] w fun e w' => e = .returned (.tuple #[strV [], .iface 44 (.int .i64 1)]) ∧ w = w' := fun w => print_bad a hA w
  have h8 := fun w => readAddr_any l w hs
  rw [hS] at h8
  have h8 : ∀ w, Calls Tryz.prog 8 #[strV l] w fun e w' => e = .returned (.int .i64 (-1)) ∧ Below w.heap.size w w' := h8
  have h9 := fun w G => parse_any l w hs G
  rw [hS] at h9
  have h9 : ∀ w (_ : Glob w), Calls Tryz.prog 9 #[strV l] w fun e w' => e = .returned (.tuple #[.int .i64 0, .iface 44 (.int .i64 2)]) ∧ Below w.heap.size w w' := h9
  have h10 := fun w => prefix_any pa pn w
  have h12 := fun w => check_any pa pn w
  have h13 := fun w => printPrefix_bad pa pn hP w
  have hE := fun w G => errF _ hP w G
  have he : errV (tx.pfault pa pn) = .iface 44 (.int .i64 (tx.pfault pa pn)) := by unfold errV; rw [if_neg hP]
  rw [he] at h12 h13
  have hF1 : (tx.pfault pa pn == 0) = false := beq_eq_false_iff_ne.2 hP
  generalize tx.pfault pa pn = F at *
  have h14 := fun w => readPrefix_any l w hs
  have h15 := fun w G => parsePrefix_any l w hs G
  rw [hQ] at h14 h15
  have h14 : ∀ w, Calls Tryz.prog 14 #[strV l] w fun e w' => e = .returned (.tuple #[.agg #[.int .i64 0, .int .i64 0], .bool false]) ∧ Below w.heap.size w w' := h14
  have h15 : ∀ w (_ : Glob w), Calls Tryz.prog 15 #[strV l] w fun e w' => e = .returned (.tuple #[.agg #[.int .i64 0, .int .i64 0], .iface 44 (.int .i64 2)]) ∧ Below w.heap.size w w' := h15
  have X0 := Lib.hid (show Bx (w.alloc (.cells #[.int .i64 pa, .int .i64 pn] 23)) w.heap.size pa pn from ⟨by simp, by simp⟩)
  have B0 := Lib.hid (belowA w (.cells #[.int .i64 pa, .int .i64 pn] 23))
  have G0 := Lib.hid (G.below B0.out)
  clear hA hS hP hQ hs G he
  go_enter Tryz.func3, Tryz.ntmps3
  have c0 := X0.out.c0
  have c1 := X0.out.c1
  go_wp2_with fail
  clear c0 c1
  refine (h4 _).mono ?_
  rintro e w' ⟨rfl, rfl⟩
  have c0 := X0.out.c0
  have c1 := X0.out.c1
  go_wp2_with fail
  clear c0 c1
  refine (h6 _).mono ?_
  rintro e w' ⟨rfl, rfl⟩
  have c0 := X0.out.c0
  have c1 := X0.out.c1
  go_wp2_with fail
  clear c0 c1
  refine (err1 _ G0.out).mono ?_
  rintro e w1 ⟨rfl, hb⟩
  have G1 := Lib.hid (G0.out.below hb)
  have B1 := Lib.hid (B0.out.trans (hb.mono B0.out.size))
  have X1 := Lib.hid (X0.out.below hb)
  clear hb
  have c0 := X1.out.c0
  have c1 := X1.out.c1
  simp only [strV_def]
  go_wp2_with fail
  clear c0 c1
  refine (h8 _).mono ?_
  rintro e w2 ⟨rfl, hb⟩
  have G2 := Lib.hid (G1.out.below hb)
  have B2 := Lib.hid (B1.out.trans (hb.mono B1.out.size))
  have X2 := Lib.hid (X1.out.below hb)
  clear hb
  have c0 := X2.out.c0
  have c1 := X2.out.c1
  go_wp2_with fail
  clear c0 c1
  refine (h9 _ G2.out).mono ?_
  rintro e w3 ⟨rfl, hb⟩
  have G3 := Lib.hid (G2.out.below hb)
  have B3 := Lib.hid (B2.out.trans (hb.mono B2.out.size))
  have X3 := Lib.hid (X2.out.below hb)
  clear hb
  have c0 := X3.out.c0
  have c1 := X3.out.c1
  go_wp2_with fail
  clear c0 c1
  refine (err2 _ G3.out).mono ?_
  rintro e w4 ⟨rfl, hb⟩
  have G4 := Lib.hid (G3.out.below hb)
  have B4 := Lib.hid (B3.out.trans (hb.mono B3.out.size))
  have X4 := Lib.hid (X3.out.below hb)
  clear hb
  have c0 := X4.out.c0
  have c1 := X4.out.c1
  go_wp2_with fail
  clear c0 c1
  refine (h10 _).mono ?_
  rintro e w5 ⟨rfl, hb⟩
  have G5 := Lib.hid (G4.out.below hb)
  have B5 := Lib.hid (B4.out.trans (hb.mono B4.out.size))
  have X5 := Lib.hid (X4.out.below hb)
  clear hb
  have c0 := X5.out.c0
  have c1 := X5.out.c1
  go_wp2_with fail
  clear c0 c1
  refine (h12 _).mono ?_
  rintro e w6 ⟨rfl, hb⟩
  have G6 := Lib.hid (G5.out.below hb)
  have B6 := Lib.hid (B5.out.trans (hb.mono B5.out.size))
  have X6 := Lib.hid (X5.out.below hb)
  clear hb
  have c0 := X6.out.c0
  have c1 := X6.out.c1
  go_wp2_with fail
  clear c0 c1
  refine (hE _ G6.out).mono ?_
  rintro e w7 ⟨rfl, hb⟩
  have G7 := Lib.hid (G6.out.below hb)
  have B7 := Lib.hid (B6.out.trans (hb.mono B6.out.size))
  have X7 := Lib.hid (X6.out.below hb)
  clear hb
  have c0 := X7.out.c0
  have c1 := X7.out.c1
  go_wp2_with fail
  clear c0 c1
  refine (h13 _).mono ?_
  rintro e w8 ⟨rfl, hb⟩
  have G8 := Lib.hid (G7.out.below hb)
  have B8 := Lib.hid (B7.out.trans (hb.mono B7.out.size))
  have X8 := Lib.hid (X7.out.below hb)
  clear hb
  have c0 := X8.out.c0
  have c1 := X8.out.c1
  go_wp2_with fail
  clear c0 c1
  refine (hE _ G8.out).mono ?_
  rintro e w9 ⟨rfl, hb⟩
  have G9 := Lib.hid (G8.out.below hb)
  have B9 := Lib.hid (B8.out.trans (hb.mono B8.out.size))
  have X9 := Lib.hid (X8.out.below hb)
  clear hb
  have c0 := X9.out.c0
  have c1 := X9.out.c1
  simp only [strV_def]
  go_wp2_with fail
  clear c0 c1
  refine (h14 _).mono ?_
  rintro e w10 ⟨rfl, hb⟩
  have G10 := Lib.hid (G9.out.below hb)
  have B10 := Lib.hid (B9.out.trans (hb.mono B9.out.size))
  have X10 := Lib.hid (X9.out.below hb)
  clear hb
  have c0 := X10.out.c0
  have c1 := X10.out.c1
  have hb := belowA w10 (.cells #[.int .i64 0, .int .i64 0] 23)
  clear c0 c1
  have G11 := Lib.hid (G10.out.below hb)
  have B11 := Lib.hid (B10.out.trans (hb.mono B10.out.size))
  have X11 := Lib.hid (X10.out.below hb)
  have Y11 := Lib.hid (show Bx (w10.alloc (.cells #[.int .i64 0, .int .i64 0] 23)) w10.heap.size 0 0 from ⟨by simp, by simp⟩)
  clear hb
  have c0 := X11.out.c0
  have c1 := X11.out.c1
  have d0 := Y11.out.c0
  have d1 := Y11.out.c1
  go_wp2_with fail
  clear c0 c1 d0 d1
  refine (h15 _ G11.out).mono ?_
  rintro e w12 ⟨rfl, hb⟩
  have G12 := Lib.hid (G11.out.below hb)
  have B12 := Lib.hid (B11.out.trans (hb.mono B11.out.size))
  have X12 := Lib.hid (X11.out.below hb)
  have Y12 := Lib.hid (Y11.out.below hb)
  clear hb
  have c0 := X12.out.c0
  have c1 := X12.out.c1
  have d0 := Y12.out.c0
  have d1 := Y12.out.c1
  have hb := belowA w12 (.cells #[.int .i64 0, .int .i64 0] 23)
  clear c0 c1 d0 d1
  have G13 := Lib.hid (G12.out.below hb)
  have B13 := Lib.hid (B12.out.trans (hb.mono B12.out.size))
  have X13 := Lib.hid (X12.out.below hb)
  have Y13 := Lib.hid (Y12.out.below hb)
  have Z13 := Lib.hid (show Bx (w12.alloc (.cells #[.int .i64 0, .int .i64 0] 23)) w12.heap.size 0 0 from ⟨by simp, by simp⟩)
  clear hb
  have c0 := X13.out.c0
  have c1 := X13.out.c1
  have d0 := Y13.out.c0
  have d1 := Y13.out.c1
  have e0 := Z13.out.c0
  have e1 := Z13.out.c1
  go_wp2_with fail
  clear c0 c1 d0 d1 e0 e1
  refine (err2 _ G13.out).mono ?_
  rintro e w14 ⟨rfl, hb⟩
  have G14 := Lib.hid (G13.out.below hb)
  have B14 := Lib.hid (B13.out.trans (hb.mono B13.out.size))
  have X14 := Lib.hid (X13.out.below hb)
  have Y14 := Lib.hid (Y13.out.below hb)
  have Z14 := Lib.hid (Z13.out.below hb)
  clear hb
  have c0 := X14.out.c0
  have c1 := X14.out.c1
  have d0 := Y14.out.c0
  have d1 := Y14.out.c1
  have e0 := Z14.out.c0
  have e1 := Z14.out.c1
  go_wp2
  go_ret
  exact ⟨rfl, B14.out⟩

end Go.Proofs.YtjefehphfaamcaaGreatDoor
