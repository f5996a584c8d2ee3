/- portlaw1.SpanTexts answers true. -/
import Derived.Test.YtdjpkkppcdmdnaaGreatDoorSpParse
import Derived.Test.YtdjpkkppcdmdnaaGreatDoorErr
namespace Go.Proofs.YtdjpkkppcdmdnaaGreatDoor
open Go.RowKit

theorem rdS_nil (w : World) : RdS w (.slice none 0 0) [] := ⟨none, 0, rfl, Nat.zero_le _, fun h => absurd rfl h⟩
theorem sameSelf (m : List sp.Span) : (m == m) = true := beq_self_eq_true _

set_option maxHeartbeats 4000000 in
set_option maxRecDepth 1000000 in
theorem spanTexts_any (v : Value) (l : List sp.Span) (s : List UInt8) (w : World) (hr : RdS w v l) (hpl : Plain v) (hs : s.length < 4294967281) (G : GlobE w) :
    Calls Tryz.prog 4 #[v, strV s] w fun e w' => e = .returned (.bool true) ∧ Below w.heap.size w w' := by
  have hgo := sp.goParse_eq s
  have hS := fun w (h : RdS w v l) => spans_any v l w h
  have hP := fun w (h : RdS w v l) G => spPrint_any v l w h hpl G
  have hR := fun w => readSpans_any s w hs
  have hQ := fun w G => spParse_any s w hs G
  rw [hgo] at hQ
  have HR0 := Lib.hid hr
  have HG := Lib.hid G
  have hE := fun w G => error_same (sp.fault l) w G
  by_cases hf : sp.fault l = 0
  · obtain ⟨hn, hv⟩ := sp.fault_zero.1 hf
    have hN := fun w (h : RdS w v l) => normR_any v l w h hv (by omega)
    have hvN := sp.norm_valid hv
    have hW := fun w u (h : RdS w u (sp.norm l)) (h2 : (sp.norm l).length ≤ 1000) => showSpans_any u (sp.norm l) w h hvN h2
    have hps : printS l = sp.showSpans (sp.norm l) := if_pos hf
    rw [hps] at hP
    rw [hf] at hS hP hE
    generalize sp.norm l = N at *
    generalize sp.showSpans N = P at *
    have hE0 := fun w G => error_same 0 w G
    have hE2 := fun w G => error_same 2 w G
    have hE0 := hE0
    clear hr hpl G hgo hf hps hv hvN
    have HN := Lib.hid hn
    have qq : (P == P) = true := beq_self_eq_true _
    go_enter Tryz.func4, Tryz.ntmps4
    go_wp2_with fail
    refine (hS _ HR0.out).mono ?_
    rintro e w1 ⟨rfl, hb1⟩
    have HB1 := Lib.hid hb1
    have HR1 := Lib.hid (HR0.out.below hb1)
    clear hb1
    go_wp2_with fail
    refine (hN _ HR1.out).mono ?_
    rintro e w2 ⟨u, rfl, hru, hul, hb2⟩
    have HB2 := Lib.hid (HB1.out.trans (hb2.mono HB1.out.size))
    have HRu := Lib.hid hru
    have HR2 := Lib.hid (HR1.out.below hb2)
    clear hb2 hru
    go_wp2_with fail
    refine (hW _ u HRu.out (by have := HN.out; omega)).mono ?_
    rintro e w3 ⟨rfl, hb3⟩
    have HB3 := Lib.hid (HB2.out.trans (hb3.mono HB2.out.size))
    have HR3 := Lib.hid (HR2.out.below hb3)
    have HG3 := Lib.hid (HG.out.below HB3.out)
    clear hb3
    go_wp2_with fail
    refine (hP _ HR3.out HG3.out.g).mono ?_
    rintro e w4 ⟨rfl, hb4⟩
    have HB4 := Lib.hid (HB3.out.trans (hb4.mono HB3.out.size))
    have HG4 := Lib.hid (HG3.out.below hb4)
    clear hb4
    go_wp2_with fail
    refine (hE0 _ HG4.out).mono ?_
    rintro e w5 ⟨rfl, hb5⟩
    have HB5 := Lib.hid (HB4.out.trans (hb5.mono HB4.out.size))
    have HG5 := Lib.hid (HG4.out.below hb5)
    clear hb5
    go_wp2_with fail
    refine (hR _).mono ?_
    rintro e w6 ⟨hres, hb6⟩
    have HB6 := Lib.hid (HB5.out.trans (hb6.mono HB5.out.size))
    have HG6 := Lib.hid (HG5.out.below hb6)
    clear hb6 hR
    generalize sp.readSpans s = R at *
    cases R with
    | none =>
      obtain rfl : e = .returned (.tuple #[.slice none 0 0, .bool false]) := hres
      go_wp2_with fail
      refine (hQ _ HG6.out.g).mono ?_
      rintro e w7 ⟨hres, hb7⟩
      obtain rfl : e = .returned (.tuple #[.slice none 0 0, errV 2]) := hres
      have HB7 := Lib.hid (HB6.out.trans (hb7.mono HB6.out.size))
      have HG7 := Lib.hid (HG6.out.below hb7)
      clear hb7 hQ
      generalize errV 2 = V2 at *
      go_wp2_with fail
      refine (hE2 _ HG7.out).mono ?_
      rintro e w8 ⟨rfl, hb8⟩
      have HB8 := Lib.hid (HB7.out.trans (hb8.mono HB7.out.size))
      clear hb8
      have hss := sameSpans_any (.slice none 0 0) (.slice none 0 0) [] [] w8 (rdS_nil _) (rdS_nil _)
      rw [sameSelf] at hss
      go_wp2_with fail
      refine hss.mono ?_
      rintro e w9 ⟨rfl, hb9⟩
      have HB9 := Lib.hid (HB8.out.trans (hb9.mono HB8.out.size))
      clear hb9 hss
      try simp only [strV_def]
      go_wp2
      go_ret
      exact ⟨rfl, HB9.out⟩
    | some m =>
      obtain ⟨v6, rfl, hr6⟩ := hres
      have HR6 := Lib.hid hr6
      clear hr6
      go_wp2_with fail
      refine (hQ _ HG6.out.g).mono ?_
      rintro e w7 ⟨hres, hb7⟩
      obtain ⟨v7, rfl, hr7⟩ := hres
      have HR7 := Lib.hid hr7
      have HR67 := Lib.hid (HR6.out.below hb7)
      have HB7 := Lib.hid (HB6.out.trans (hb7.mono HB6.out.size))
      have HG7 := Lib.hid (HG6.out.below hb7)
      clear hb7 hQ hr7
      go_wp2_with fail
      refine (hE0 _ HG7.out).mono ?_
      rintro e w8 ⟨rfl, hb8⟩
      have HB8 := Lib.hid (HB7.out.trans (hb8.mono HB7.out.size))
      have hss := sameSpans_any v7 v6 m m w8 (HR7.out.below hb8) (HR67.out.below hb8)
      rw [sameSelf] at hss
      clear hb8
      go_wp2_with fail
      refine hss.mono ?_
      rintro e w9 ⟨rfl, hb9⟩
      have HB9 := Lib.hid (HB8.out.trans (hb9.mono HB8.out.size))
      clear hb9 hss
      try simp only [strV_def]
      go_wp2
      go_ret
      exact ⟨rfl, HB9.out⟩
  · have hps : printS l = [] := if_neg hf
    rw [hps, show strV [] = .string ⟨#[]⟩ from rfl] at hP
    have hE0 := fun w G => error_same 0 w G
    have hE2 := fun w G => error_same 2 w G
    have hc : sp.fault l = 1 ∨ sp.fault l = 4 := by unfold sp.fault at hf ⊢; split <;> simp_all
    clear hr hpl G hgo hf hps
    generalize sp.fault l = k at *
    have hz : (k == 0) = false := by rcases hc with rfl | rfl <;> rfl
    clear hc
    generalize errV k = Vk at *
    have hE0 := hE0
    go_enter Tryz.func4, Tryz.ntmps4
    go_wp2_with fail
    refine (hS _ HR0.out).mono ?_
    rintro e w1 ⟨rfl, hb1⟩
    have HB1 := Lib.hid hb1
    have HR1 := Lib.hid (HR0.out.below hb1)
    have HG1 := Lib.hid (HG.out.below hb1)
    clear hb1
    go_wp2_with fail
    refine (hP _ HR1.out HG1.out.g).mono ?_
    rintro e w4 ⟨rfl, hb4⟩
    have HB4 := Lib.hid (HB1.out.trans (hb4.mono HB1.out.size))
    have HG4 := Lib.hid (HG1.out.below hb4)
    clear hb4
    go_wp2_with fail
    refine (hE _ HG4.out).mono ?_
    rintro e w5 ⟨rfl, hb5⟩
    have HB5 := Lib.hid (HB4.out.trans (hb5.mono HB4.out.size))
    have HG5 := Lib.hid (HG4.out.below hb5)
    clear hb5
    go_wp2_with fail
    refine (hR _).mono ?_
    rintro e w6 ⟨hres, hb6⟩
    have HB6 := Lib.hid (HB5.out.trans (hb6.mono HB5.out.size))
    have HG6 := Lib.hid (HG5.out.below hb6)
    clear hb6 hR
    generalize sp.readSpans s = R at *
    cases R with
    | none =>
      obtain rfl : e = .returned (.tuple #[.slice none 0 0, .bool false]) := hres
      go_wp2_with fail
      refine (hQ _ HG6.out.g).mono ?_
      rintro e w7 ⟨hres, hb7⟩
      obtain rfl : e = .returned (.tuple #[.slice none 0 0, errV 2]) := hres
      have HB7 := Lib.hid (HB6.out.trans (hb7.mono HB6.out.size))
      have HG7 := Lib.hid (HG6.out.below hb7)
      clear hb7 hQ
      generalize errV 2 = V2 at *
      go_wp2_with fail
      refine (hE2 _ HG7.out).mono ?_
      rintro e w8 ⟨rfl, hb8⟩
      have HB8 := Lib.hid (HB7.out.trans (hb8.mono HB7.out.size))
      clear hb8
      have hss := sameSpans_any (.slice none 0 0) (.slice none 0 0) [] [] w8 (rdS_nil _) (rdS_nil _)
      rw [sameSelf] at hss
      go_wp2_with fail
      refine hss.mono ?_
      rintro e w9 ⟨rfl, hb9⟩
      have HB9 := Lib.hid (HB8.out.trans (hb9.mono HB8.out.size))
      clear hb9 hss
      try simp only [strV_def]
      go_wp2
      go_ret
      exact ⟨rfl, HB9.out⟩
    | some m =>
      obtain ⟨v6, rfl, hr6⟩ := hres
      have HR6 := Lib.hid hr6
      clear hr6
      go_wp2_with fail
      refine (hQ _ HG6.out.g).mono ?_
      rintro e w7 ⟨hres, hb7⟩
      obtain ⟨v7, rfl, hr7⟩ := hres
      have HR7 := Lib.hid hr7
      have HR67 := Lib.hid (HR6.out.below hb7)
      have HB7 := Lib.hid (HB6.out.trans (hb7.mono HB6.out.size))
      have HG7 := Lib.hid (HG6.out.below hb7)
      clear hb7 hQ hr7
      go_wp2_with fail
      refine (hE0 _ HG7.out).mono ?_
      rintro e w8 ⟨rfl, hb8⟩
      have HB8 := Lib.hid (HB7.out.trans (hb8.mono HB7.out.size))
      have hss := sameSpans_any v7 v6 m m w8 (HR7.out.below hb8) (HR67.out.below hb8)
      rw [sameSelf] at hss
      clear hb8
      go_wp2_with fail
      refine hss.mono ?_
      rintro e w9 ⟨rfl, hb9⟩
      have HB9 := Lib.hid (HB8.out.trans (hb9.mono HB8.out.size))
      clear hb9 hss
      try simp only [strV_def]
      go_wp2
      go_ret
      exact ⟨rfl, HB9.out⟩

end Go.Proofs.YtdjpkkppcdmdnaaGreatDoor
