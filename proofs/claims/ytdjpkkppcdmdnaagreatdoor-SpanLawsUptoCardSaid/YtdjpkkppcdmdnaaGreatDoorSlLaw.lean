/- portlaw1.SpanLaws answers true. -/
import Derived.Test.YtdjpkkppcdmdnaaGreatDoorSpHas
import Derived.Test.YtdjpkkppcdmdnaaGreatDoorSpParse
import Derived.Deep.DeepCutAuto
namespace Go.Proofs.YtdjpkkppcdmdnaaGreatDoor
open Go.RowKit

theorem read_print {s : List UInt8} {m : List sp.Span} (h : sp.readSpans s = some m) : sp.fault m = 0 ∧ printS m = s := by
  obtain ⟨hg, hv, hl, rfl⟩ := sp.readSpans_iff.1 h
  have hf : sp.fault m = 0 := sp.fault_zero.2 ⟨hl, hv⟩
  refine ⟨hf, ?_⟩
  unfold printS
  rw [if_pos hf, sp.norm_gapped (sp.valid_rises hv) hg]
theorem many_range {l : List sp.Span} (h : sp.fault l = 0) : 0 ≤ sp.many l ∧ sp.many l ≤ 65536 := by
  rw [sp.many_ok h]
  have : sp.cnt (sp.inS l) sp.full ≤ sp.full := by
    unfold sp.cnt
    exact Nat.le_trans (List.countP_le_length ..) (Nat.le_of_eq List.length_range)
  have hf : sp.full = 65536 := rfl
  omega
/-- a fresh slice of one pair -/
theorem rdS_one (w : World) (o : Nat) (p q : Int) (t : TypeId) (ho : o = w.heap.size) : RdS (w.alloc (.cells #[.int .i64 p, .int .i64 q] t)) (.slice (some ⟨o, 0, none⟩) 1 1) [(p, q)] := by
  subst ho
  refine ⟨_, 1, rfl, by simp, fun _ => ⟨w.heap.size, 0, rfl, fun j hj => ?_⟩⟩
  obtain rfl : j = 0 := by simpa using hj
  exact ⟨newCell w _ t 0 _ rfl, newCell w _ t 1 _ rfl⟩
theorem plain_at (g n c : Nat) : Plain (.slice (some ⟨g, 0, none⟩) n c) := ⟨fun p n c e => (by injection e with e; injection e with e; exact ⟨g, 0, e.symm⟩), fun n c e => (by injection e with e; cases e)⟩
theorem join_fact : sp.join [(1, 2)] [(3, 4)] = [(1, 4)] := by decide


set_option maxHeartbeats 8000000 in
set_option maxRecDepth 1000000 in
theorem spanLaws_none_bad (va vb : Value) (a b : List sp.Span) (n : Int) (s : List UInt8) (w : World) (hra : RdS w va a) (hrb : RdS w vb b) (_hpa : Plain va) (_hpb : Plain vb) (hs : s.length < 4294967281) (G : Glob w) (hf : fault2 a b ≠ 0) (hm : sp.readSpans s = none) :
    Calls Tryz.prog 3 #[va, vb, .int .i64 n, strV s] w fun e w' => e = .returned (.bool true) ∧ Below w.heap.size w w' := by
  have HF := Lib.hid (fun (w : World) (t : TypeId) => spJoin_any (.slice (some ⟨w.heap.size, 0, none⟩) 1 1) (.slice (some ⟨w.heap.size + 1, 0, none⟩) 1 1) [(1, 2)] [(3, 4)] ((w.alloc (.cells #[.int .i64 1, .int .i64 2] t)).alloc (.cells #[.int .i64 3, .int .i64 4] t)) ((rdS_one w _ 1 2 t rfl).below (belowA _ _)) (rdS_one _ _ 3 4 t (by simp)) (plain_at _ _ _) (plain_at _ _ _) (by decide) (by decide))
  have HBA := Lib.hid (fun (w : World) o o' => (belowA w o).trans ((belowA (w.alloc o) o').mono (belowA w o).size))
  have hQ := fun w G => spParse_any s w hs G
  rw [sp.goParse_eq, hm] at hQ
  have HQ := Lib.hid hQ
  have ef : errV (fault2 a b) = .iface 51 (.int .i64 (fault2 a b)) := if_neg hf
  have hJ := fun w (h : RdS w va a) (h' : RdS w vb b) => spJoin_bad va vb a b w h h' hf
  have hM := fun w (h : RdS w va a) (h' : RdS w vb b) => spMeet_bad va vb a b w h h' hf
  have hL := fun w (h : RdS w va a) (h' : RdS w vb b) => spLess_bad va vb a b w h h' hf
  rw [ef] at hJ hM hL
  have HJ := Lib.hid hJ
  have HM := Lib.hid hM
  have HL := Lib.hid hL
  clear hJ hM hL ef hf
  generalize fault2 a b = kf at *
  have Hra := Lib.hid hra
  have Hrb := Lib.hid hrb
  have HG := Lib.hid G
  clear hra hrb  hs G hm hQ 
  go_enter Tryz.func3, Tryz.ntmps3
  go_wp2_with fail
  refine (HF.out _ _).mono ?_
  rintro e w1 ⟨u, rfl, hr1, _, hb1⟩
  have HB1 := Lib.hid ((HBA.out w _ _).trans (hb1.mono (HBA.out w _ _).size))
  rw [join_fact] at hr1
  obtain ⟨fa, fc, rfl, _, hfc⟩ := hr1
  obtain ⟨fg, fo, rfl, hfc2⟩ := hfc (by simp)
  obtain ⟨_, hf1⟩ := hfc2 0 (by simp)
  simp only [Nat.zero_mul, Nat.add_zero, List.getElem_cons_zero] at hf1
  have HG1 := Lib.hid (HG.out.below HB1.out)
  clear hb1 hfc hfc2
  simp only [List.length_cons, List.length_nil]
  go_wp2_with fail
  refine (HQ.out _ HG1.out).mono ?_
  rintro e w2 ⟨hres, hb2⟩
  obtain rfl : e = .returned (.tuple #[.slice none 0 0, errV 2]) := hres
  have HB3 := Lib.hid (HB1.out.trans (hb2.mono HB1.out.size))
  clear hb2 hf1 HF HBA HQ
  rw [errV2]
  have Hra3 := Lib.hid (Hra.out.below HB3.out)
  have Hrb3 := Lib.hid (Hrb.out.below HB3.out)
  go_wp2_with fail
  refine (HJ.out _ Hra3.out Hrb3.out).mono ?_
  rintro e w4 ⟨rfl, hb⟩
  have HB4 := Lib.hid (HB3.out.trans (hb.mono HB3.out.size))
  have Hra4 := Lib.hid (Hra3.out.below hb)
  have Hrb4 := Lib.hid (Hrb3.out.below hb)
  clear hb
  go_wp2_with fail
  refine (HM.out _ Hra4.out Hrb4.out).mono ?_
  rintro e w5 ⟨rfl, hb⟩
  have HB5 := Lib.hid (HB4.out.trans (hb.mono HB4.out.size))
  have Hra5 := Lib.hid (Hra4.out.below hb)
  have Hrb5 := Lib.hid (Hrb4.out.below hb)
  clear hb
  go_wp2_with fail
  refine (HL.out _ Hra5.out Hrb5.out).mono ?_
  rintro e w6 ⟨rfl, hb⟩
  have HB6 := Lib.hid (HB5.out.trans (hb.mono HB5.out.size))
  have Hra6 := Lib.hid (Hra5.out.below hb)
  have Hrb6 := Lib.hid (Hrb5.out.below hb)
  clear hb
  go_wp2
  go_ret
  exact ⟨rfl, HB6.out⟩

set_option maxHeartbeats 8000000 in
set_option maxRecDepth 1000000 in
theorem spanLaws_some_bad (va vb : Value) (a b : List sp.Span) (n : Int) (s : List UInt8) (w : World) (hra : RdS w va a) (hrb : RdS w vb b) (_hpa : Plain va) (_hpb : Plain vb) (hs : s.length < 4294967281) (G : Glob w) (hf : fault2 a b ≠ 0) (m : List sp.Span) (hm : sp.readSpans s = some m) :
    Calls Tryz.prog 3 #[va, vb, .int .i64 n, strV s] w fun e w' => e = .returned (.bool true) ∧ Below w.heap.size w w' := by
  have HF := Lib.hid (fun (w : World) (t : TypeId) => spJoin_any (.slice (some ⟨w.heap.size, 0, none⟩) 1 1) (.slice (some ⟨w.heap.size + 1, 0, none⟩) 1 1) [(1, 2)] [(3, 4)] ((w.alloc (.cells #[.int .i64 1, .int .i64 2] t)).alloc (.cells #[.int .i64 3, .int .i64 4] t)) ((rdS_one w _ 1 2 t rfl).below (belowA _ _)) (rdS_one _ _ 3 4 t (by simp)) (plain_at _ _ _) (plain_at _ _ _) (by decide) (by decide))
  have HBA := Lib.hid (fun (w : World) o o' => (belowA w o).trans ((belowA (w.alloc o) o').mono (belowA w o).size))
  have hQ := fun w G => spParse_any s w hs G
  rw [sp.goParse_eq, hm] at hQ
  have HQ := Lib.hid hQ
  obtain ⟨hfm, hpm⟩ := read_print hm
  have hP := fun v w (h : RdS w v m) hp G => spPrint_any v m w h hp G
  rw [hpm, hfm, errV0] at hP
  have HP := Lib.hid hP
  clear hfm hpm hP
  have qs : (s == s) = true := beq_self_eq_true _
  have qn : (s != s) = false := bne_self_eq_false _
  have ef : errV (fault2 a b) = .iface 51 (.int .i64 (fault2 a b)) := if_neg hf
  have hJ := fun w (h : RdS w va a) (h' : RdS w vb b) => spJoin_bad va vb a b w h h' hf
  have hM := fun w (h : RdS w va a) (h' : RdS w vb b) => spMeet_bad va vb a b w h h' hf
  have hL := fun w (h : RdS w va a) (h' : RdS w vb b) => spLess_bad va vb a b w h h' hf
  rw [ef] at hJ hM hL
  have HJ := Lib.hid hJ
  have HM := Lib.hid hM
  have HL := Lib.hid hL
  clear hJ hM hL ef hf
  generalize fault2 a b = kf at *
  have Hra := Lib.hid hra
  have Hrb := Lib.hid hrb
  have HG := Lib.hid G
  clear hra hrb  hs G hm hQ 
  go_enter Tryz.func3, Tryz.ntmps3
  go_wp2_with fail
  refine (HF.out _ _).mono ?_
  rintro e w1 ⟨u, rfl, hr1, _, hb1⟩
  have HB1 := Lib.hid ((HBA.out w _ _).trans (hb1.mono (HBA.out w _ _).size))
  rw [join_fact] at hr1
  obtain ⟨fa, fc, rfl, _, hfc⟩ := hr1
  obtain ⟨fg, fo, rfl, hfc2⟩ := hfc (by simp)
  obtain ⟨_, hf1⟩ := hfc2 0 (by simp)
  simp only [Nat.zero_mul, Nat.add_zero, List.getElem_cons_zero] at hf1
  have HG1 := Lib.hid (HG.out.below HB1.out)
  clear hb1 hfc hfc2
  simp only [List.length_cons, List.length_nil]
  go_wp2_with fail
  refine (HQ.out _ HG1.out).mono ?_
  rintro e w2 ⟨hres, hb2⟩
  obtain ⟨v2, rfl, hr2, hp2⟩ := hres
  have HR2 := Lib.hid hr2
  have HP2 := Lib.hid hp2
  have HB2 := Lib.hid (HB1.out.trans (hb2.mono HB1.out.size))
  have HG2 := Lib.hid (HG1.out.below hb2)
  clear hb2 hr2 hp2 hf1 HF HBA HQ
  rw [errV0]
  go_wp2_with fail
  refine (HP.out _ _ HR2.out HP2.out HG2.out).mono ?_
  rintro e w3 ⟨rfl, hb3⟩
  have HB3 := Lib.hid (HB2.out.trans (hb3.mono HB2.out.size))
  clear hb3
  simp only [strV_def]
  have Hra3 := Lib.hid (Hra.out.below HB3.out)
  have Hrb3 := Lib.hid (Hrb.out.below HB3.out)
  go_wp2_with fail
  refine (HJ.out _ Hra3.out Hrb3.out).mono ?_
  rintro e w4 ⟨rfl, hb⟩
  have HB4 := Lib.hid (HB3.out.trans (hb.mono HB3.out.size))
  have Hra4 := Lib.hid (Hra3.out.below hb)
  have Hrb4 := Lib.hid (Hrb3.out.below hb)
  clear hb
  go_wp2_with fail
  refine (HM.out _ Hra4.out Hrb4.out).mono ?_
  rintro e w5 ⟨rfl, hb⟩
  have HB5 := Lib.hid (HB4.out.trans (hb.mono HB4.out.size))
  have Hra5 := Lib.hid (Hra4.out.below hb)
  have Hrb5 := Lib.hid (Hrb4.out.below hb)
  clear hb
  go_wp2_with fail
  refine (HL.out _ Hra5.out Hrb5.out).mono ?_
  rintro e w6 ⟨rfl, hb⟩
  have HB6 := Lib.hid (HB5.out.trans (hb.mono HB5.out.size))
  have Hra6 := Lib.hid (Hra5.out.below hb)
  have Hrb6 := Lib.hid (Hrb5.out.below hb)
  clear hb
  go_wp2
  go_ret
  exact ⟨rfl, HB6.out⟩

set_option maxHeartbeats 8000000 in
set_option maxRecDepth 1000000 in
theorem spanLaws_none_ok (va vb : Value) (a b : List sp.Span) (n : Int) (s : List UInt8) (w : World) (hra : RdS w va a) (hrb : RdS w vb b) (hpa : Plain va) (hpb : Plain vb) (hs : s.length < 4294967281) (G : Glob w) (ha : sp.fault a = 0) (hb : sp.fault b = 0) (hm : sp.readSpans s = none) :
    Calls Tryz.prog 3 #[va, vb, .int .i64 n, strV s] w fun e w' => e = .returned (.bool true) ∧ Below w.heap.size w w' := by
  have HF := Lib.hid (fun (w : World) (t : TypeId) => spJoin_any (.slice (some ⟨w.heap.size, 0, none⟩) 1 1) (.slice (some ⟨w.heap.size + 1, 0, none⟩) 1 1) [(1, 2)] [(3, 4)] ((w.alloc (.cells #[.int .i64 1, .int .i64 2] t)).alloc (.cells #[.int .i64 3, .int .i64 4] t)) ((rdS_one w _ 1 2 t rfl).below (belowA _ _)) (rdS_one _ _ 3 4 t (by simp)) (plain_at _ _ _) (plain_at _ _ _) (by decide) (by decide))
  have HBA := Lib.hid (fun (w : World) o o' => (belowA w o).trans ((belowA (w.alloc o) o').mono (belowA w o).size))
  have hQ := fun w G => spParse_any s w hs G
  rw [sp.goParse_eq, hm] at hQ
  have HQ := Lib.hid hQ
  have HJ := Lib.hid (fun w (h : RdS w va a) (h' : RdS w vb b) => spJoin_any va vb a b w h h' hpa hpb ha hb)
  have HM := Lib.hid (fun w (h : RdS w va a) (h' : RdS w vb b) => spMeet_any va vb a b w h h' hpa hpb ha hb)
  have HL := Lib.hid (fun w (h : RdS w va a) (h' : RdS w vb b) => spLess_any va vb a b w h h' hpa hpb ha hb)
  have HN := Lib.hid (fun w (h : RdS w va a) => spNot_any va a w h hpa ha)
  have HO := Lib.hid (fun w (h : RdS w va a) => normG_any va a w h hpa ha)
  have HXa := Lib.hid (fun w (h : RdS w va a) => has_any va a n w h)
  have HXb := Lib.hid (fun w (h : RdS w vb b) => has_any vb b n w h)
  have HYa := Lib.hid (fun w (h : RdS w va a) => many_any va a w h hpa)
  have HYb := Lib.hid (fun w (h : RdS w vb b) => many_any vb b w h hpb)
  have HW1 := Lib.hid (fun hj hm hd => sp.law1 ha hb n hj hm hd)
  have HW2 := Lib.hid (fun hc => sp.law2 ha hc)
  have HMa := Lib.hid (many_range ha)
  have HMb := Lib.hid (many_range hb)
  have HGd := Lib.hid (show (sp.Good (sp.join a b) ∧ sp.Good (sp.meet a b)) ∧ sp.Good (sp.less a b) from ⟨⟨(sp.join_of (sp.fault_zero.1 ha).2 (sp.fault_zero.1 hb).2).1, (sp.meet_of (sp.fault_zero.1 ha).2 (sp.fault_zero.1 hb).2).1⟩, (sp.less_of (sp.fault_zero.1 ha).2 (sp.fault_zero.1 hb).2).1⟩)
  generalize sp.join a b = J at *
  generalize sp.meet a b = M at *
  generalize sp.less a b = D at *
  have Hra := Lib.hid hra
  have Hrb := Lib.hid hrb
  have HG := Lib.hid G
  clear hra hrb hpa hpb hs G hm hQ ha hb
  go_enter Tryz.func3, Tryz.ntmps3
  go_wp2_with fail
  refine (HF.out _ _).mono ?_
  rintro e w1 ⟨u, rfl, hr1, _, hb1⟩
  have HB1 := Lib.hid ((HBA.out w _ _).trans (hb1.mono (HBA.out w _ _).size))
  rw [join_fact] at hr1
  obtain ⟨fa, fc, rfl, _, hfc⟩ := hr1
  obtain ⟨fg, fo, rfl, hfc2⟩ := hfc (by simp)
  obtain ⟨_, hf1⟩ := hfc2 0 (by simp)
  simp only [Nat.zero_mul, Nat.add_zero, List.getElem_cons_zero] at hf1
  have HG1 := Lib.hid (HG.out.below HB1.out)
  clear hb1 hfc hfc2
  simp only [List.length_cons, List.length_nil]
  go_wp2_with fail
  refine (HQ.out _ HG1.out).mono ?_
  rintro e w2 ⟨hres, hb2⟩
  obtain rfl : e = .returned (.tuple #[.slice none 0 0, errV 2]) := hres
  have HB3 := Lib.hid (HB1.out.trans (hb2.mono HB1.out.size))
  clear hb2 hf1 HF HBA HQ
  rw [errV2]
  have Hra3 := Lib.hid (Hra.out.below HB3.out)
  have Hrb3 := Lib.hid (Hrb.out.below HB3.out)
  go_wp2_with fail
  refine (HJ.out _ Hra3.out Hrb3.out).mono ?_
  rintro e w4 ⟨vj, rfl, hrj, hpj, hb⟩
  have HB4 := Lib.hid (HB3.out.trans (hb.mono HB3.out.size))
  have Hra4 := Lib.hid (Hra3.out.below hb)
  have Hrb4 := Lib.hid (Hrb3.out.below hb)
  have Hrj4 := Lib.hid hrj
  have Hpj := Lib.hid hpj
  clear hrj hpj
  clear hb
  go_wp2_with fail
  refine (HM.out _ Hra4.out Hrb4.out).mono ?_
  rintro e w5 ⟨vm, rfl, hrm, hpm, hb⟩
  have HB5 := Lib.hid (HB4.out.trans (hb.mono HB4.out.size))
  have Hra5 := Lib.hid (Hra4.out.below hb)
  have Hrb5 := Lib.hid (Hrb4.out.below hb)
  have Hrm5 := Lib.hid hrm
  have Hpm := Lib.hid hpm
  clear hrm hpm
  have Hrj5 := Lib.hid (Hrj4.out.below hb)
  clear hb
  go_wp2_with fail
  refine (HL.out _ Hra5.out Hrb5.out).mono ?_
  rintro e w6 ⟨vd, rfl, hrd, hpd, hb⟩
  have HB6 := Lib.hid (HB5.out.trans (hb.mono HB5.out.size))
  have Hra6 := Lib.hid (Hra5.out.below hb)
  have Hrb6 := Lib.hid (Hrb5.out.below hb)
  have Hrd6 := Lib.hid hrd
  have Hpd := Lib.hid hpd
  clear hrd hpd
  have Hrj6 := Lib.hid (Hrj5.out.below hb)
  have Hrm6 := Lib.hid (Hrm5.out.below hb)
  clear hb
  go_wp2_with fail
  refine (HXa.out _ Hra6.out).mono ?_
  rintro e w7 ⟨rfl, hb⟩
  have HB7 := Lib.hid (HB6.out.trans (hb.mono HB6.out.size))
  have Hra7 := Lib.hid (Hra6.out.below hb)
  have Hrb7 := Lib.hid (Hrb6.out.below hb)
  have Hrj7 := Lib.hid (Hrj6.out.below hb)
  have Hrm7 := Lib.hid (Hrm6.out.below hb)
  have Hrd7 := Lib.hid (Hrd6.out.below hb)
  clear hb
  go_wp2_with fail
  refine (HXb.out _ Hrb7.out).mono ?_
  rintro e w8 ⟨rfl, hb⟩
  have HB8 := Lib.hid (HB7.out.trans (hb.mono HB7.out.size))
  have Hra8 := Lib.hid (Hra7.out.below hb)
  have Hrb8 := Lib.hid (Hrb7.out.below hb)
  have Hrj8 := Lib.hid (Hrj7.out.below hb)
  have Hrm8 := Lib.hid (Hrm7.out.below hb)
  have Hrd8 := Lib.hid (Hrd7.out.below hb)
  clear hb
  obtain ⟨ja, jc, ej, _, _⟩ := Hrj8.out
  obtain ⟨ma, mc, em, _, _⟩ := Hrm8.out
  obtain ⟨da, dc, ed, _, _⟩ := Hrd8.out
  subst ej em ed
  go_upto_region 16 with fail
  go_cut [134] (fun s134 wc => s134 = .bool (decide (0 ≤ n ∧ n ≤ 65535 ∧ J.length ≤ 200 ∧ M.length ≤ 200 ∧ D.length ≤ 200)) ∧ w8 = wc)
  case first =>
    have h6 : ¬ 0 ≤ n ∨ (0 ≤ n ∧ ¬ n ≤ 65535) ∨ (0 ≤ n ∧ n ≤ 65535 ∧ ¬ J.length ≤ 200) ∨ (0 ≤ n ∧ n ≤ 65535 ∧ J.length ≤ 200 ∧ ¬ M.length ≤ 200) ∨ (0 ≤ n ∧ n ≤ 65535 ∧ J.length ≤ 200 ∧ M.length ≤ 200 ∧ ¬ D.length ≤ 200) ∨ (0 ≤ n ∧ n ≤ 65535 ∧ J.length ≤ 200 ∧ M.length ≤ 200 ∧ D.length ≤ 200) := by omega
    rcases h6 with h | ⟨h1, h⟩ | ⟨h1, h2, h⟩ | ⟨h1, h2, h3, h⟩ | ⟨h1, h2, h3, h4, h⟩ | ⟨h1, h2, h3, h4, h⟩
    all_goals
      go_wp2_with fail
      go_meet
      case rel =>
        refine ⟨?_, rfl⟩
        first
          | (refine congrArg Value.bool ?_; rw [Bool.eq_iff_iff]; simp only [decide_eq_true_eq]; omega)
          | (refine congrArg Value.bool ?_; symm; rw [decide_eq_false_iff_not]; omega)
          | (simp; intros; omega)
  case rest =>
    obtain ⟨hc1, hc2⟩ := hcut
    subst hc1
    subst hc2
    go_upto_if 134 with fail
    go_cut [] (fun wc => Below w.heap.size w wc)
    case first =>
      by_cases hcond : 0 ≤ n ∧ n ≤ 65535 ∧ J.length ≤ 200 ∧ M.length ≤ 200 ∧ D.length ≤ 200
      · rw [decide_eq_true hcond]
        obtain ⟨_, _, hj, hm, hd⟩ := hcond
        obtain ⟨x1, x2, x3, x4, x5⟩ := HW1.out hj hm hd
        obtain ⟨⟨gj, gm⟩, gd⟩ := HGd.out
        have r1 := many_range (sp.good_fault gj hj)
        have r2 := many_range (sp.good_fault gm hm)
        have r3 := many_range (sp.good_fault gd hd)
        have r4 := HMa.out
        have r5 := HMb.out
        have HXj := Lib.hid (fun w v (h : RdS w v J) => has_any v J n w h)
        have HXm := Lib.hid (fun w v (h : RdS w v M) => has_any v M n w h)
        have HXd := Lib.hid (fun w v (h : RdS w v D) => has_any v D n w h)
        have HYj := Lib.hid (fun w v (h : RdS w v J) hp => many_any v J w h hp)
        have HYm := Lib.hid (fun w v (h : RdS w v M) hp => many_any v M w h hp)
        have HYd := Lib.hid (fun w v (h : RdS w v D) hp => many_any v D w h hp)
        rw [x1] at HXj
        rw [x2] at HXm
        rw [x3] at HXd
        rw [x4] at HYj r1
        rw [x5] at HYa r4
        clear x1 x2 x3 x4 x5 HW1 HW2 HXa HXb
        generalize sp.has a n = bx at *
        generalize sp.has b n = bY at *
        generalize sp.many D = nD at *
        generalize sp.many M = nM at *
        generalize sp.many b = nB at *
        clear gj gm gd
        cases bx <;> cases bY
        all_goals
          go_wp2_with fail
          refine (HXj.out _ _ Hrj8.out).mono ?_
          rintro e w9 ⟨rfl, hb⟩
          have HB9 := Lib.hid (HB8.out.trans (hb.mono HB8.out.size))
          have Hrm9 := Lib.hid (Hrm8.out.below hb)
          have Hrd9 := Lib.hid (Hrd8.out.below hb)
          have Hrj9 := Lib.hid (Hrj8.out.below hb)
          clear hb
          go_wp2_with fail
          refine (HXm.out _ _ Hrm9.out).mono ?_
          rintro e w10 ⟨rfl, hb⟩
          have HB10 := Lib.hid (HB9.out.trans (hb.mono HB9.out.size))
          have Hrm10 := Lib.hid (Hrm9.out.below hb)
          have Hrd10 := Lib.hid (Hrd9.out.below hb)
          have Hrj10 := Lib.hid (Hrj9.out.below hb)
          clear hb
          go_wp2_with fail
          refine (HXd.out _ _ Hrd10.out).mono ?_
          rintro e w11 ⟨rfl, hb⟩
          have HB11 := Lib.hid (HB10.out.trans (hb.mono HB10.out.size))
          have Hrm11 := Lib.hid (Hrm10.out.below hb)
          have Hrd11 := Lib.hid (Hrd10.out.below hb)
          have Hrj11 := Lib.hid (Hrj10.out.below hb)
          clear hb
          go_wp2_with fail
          refine (HYj.out _ _ Hrj11.out Hpj.out).mono ?_
          rintro e w12 ⟨rfl, hb⟩
          have HB12 := Lib.hid (HB11.out.trans (hb.mono HB11.out.size))
          have Hrm12 := Lib.hid (Hrm11.out.below hb)
          have Hrd12 := Lib.hid (Hrd11.out.below hb)
          clear hb
          go_wp2_with fail
          refine (HYd.out _ _ Hrd12.out Hpd.out).mono ?_
          rintro e w13 ⟨rfl, hb⟩
          have HB13 := Lib.hid (HB12.out.trans (hb.mono HB12.out.size))
          have Hrm13 := Lib.hid (Hrm12.out.below hb)
          have Hrd13 := Lib.hid (Hrd12.out.below hb)
          clear hb
          go_wp2_with fail
          refine (HYb.out _ (Hrb.out.below HB13.out)).mono ?_
          rintro e w14 ⟨rfl, hb⟩
          have HB14 := Lib.hid (HB13.out.trans (hb.mono HB13.out.size))
          have Hrm14 := Lib.hid (Hrm13.out.below hb)
          have Hrd14 := Lib.hid (Hrd13.out.below hb)
          clear hb
          go_wp2_with fail
          refine (HYa.out _ (Hra.out.below HB14.out)).mono ?_
          rintro e w15 ⟨rfl, hb⟩
          have HB15 := Lib.hid (HB14.out.trans (hb.mono HB14.out.size))
          have Hrm15 := Lib.hid (Hrm14.out.below hb)
          have Hrd15 := Lib.hid (Hrd14.out.below hb)
          clear hb
          go_wp2_with fail
          refine (HYd.out _ _ Hrd15.out Hpd.out).mono ?_
          rintro e w16 ⟨rfl, hb⟩
          have HB16 := Lib.hid (HB15.out.trans (hb.mono HB15.out.size))
          have Hrm16 := Lib.hid (Hrm15.out.below hb)
          clear hb
          go_wp2_with fail
          refine (HYm.out _ _ Hrm16.out Hpm.out).mono ?_
          rintro e w17 ⟨rfl, hb⟩
          have HB17 := Lib.hid (HB16.out.trans (hb.mono HB16.out.size))
          clear hb
          go_wp2
          go_meet
          case rel => exact HB17.out
      · rw [decide_eq_false hcond]
        go_wp2_with fail
        go_meet
        case rel => exact HB8.out
    case rest =>
      have HBc := Lib.hid hcut
      clear hcut
      go_wp2_with fail
      refine (HN.out _ (Hra.out.below HBc.out)).mono ?_
      rintro e w20 ⟨vc, rfl, hrc, hpc, hb⟩
      have HB20 := Lib.hid (HBc.out.trans (hb.mono HBc.out.size))
      have Hrc := Lib.hid hrc
      have Hpc := Lib.hid hpc
      obtain ⟨ca, cc, ec, _, _⟩ := hrc
      subst ec
      clear hb hpc
      by_cases hc2 : 200 < (sp.nots a).length
      · go_wp2
        go_ret
        exact ⟨rfl, HB20.out⟩
      · obtain ⟨y1, y2, y3⟩ := HW2.out (by omega)
        have HNc := Lib.hid (fun w v (h : RdS w v (sp.nots a)) hp => spNot_any v (sp.nots a) w h hp y1)
        rw [y2] at HNc
        have hy := many_range y1
        have HYc := Lib.hid (fun w v (h : RdS w v (sp.nots a)) hp => many_any v (sp.nots a) w h hp)
        have hya := HMa.out
        have HSS := Lib.hid (fun w v u (h : RdS w v (sp.norm a)) (h' : RdS w u (sp.norm a)) => sameSpans_any v u (sp.norm a) (sp.norm a) w h h')
        rw [beq_self_eq_true] at HSS
        generalize sp.nots a = C at *
        generalize sp.norm a = NA at *
        generalize sp.many C = nC at *
        generalize sp.many a = nA at *
        clear y1 y2
        go_wp2_with fail
        refine (HNc.out _ _ Hrc.out Hpc.out).mono ?_
        rintro e w21 ⟨vf, rfl, hrf, _, hb⟩
        have HB21 := Lib.hid (HB20.out.trans (hb.mono HB20.out.size))
        have Hrc21 := Lib.hid (Hrc.out.below hb)
        have Hrf := Lib.hid hrf
        clear hb hrf
        go_wp2_with fail
        refine (HO.out _ (Hra.out.below HB21.out)).mono ?_
        rintro e w22 ⟨vg, rfl, hrg, _, hb⟩
        have HB22 := Lib.hid (HB21.out.trans (hb.mono HB21.out.size))
        have Hrc22 := Lib.hid (Hrc21.out.below hb)
        have Hrf22 := Lib.hid (Hrf.out.below hb)
        have Hrg := Lib.hid hrg
        clear hb hrg
        go_wp2_with fail
        refine (HSS.out _ _ _ Hrf22.out Hrg.out).mono ?_
        rintro e w23 ⟨rfl, hb⟩
        have HB23 := Lib.hid (HB22.out.trans (hb.mono HB22.out.size))
        have Hrc23 := Lib.hid (Hrc22.out.below hb)
        clear hb
        go_wp2_with fail
        refine (HYc.out _ _ Hrc23.out Hpc.out).mono ?_
        rintro e w24 ⟨rfl, hb⟩
        have HB24 := Lib.hid (HB23.out.trans (hb.mono HB23.out.size))
        clear hb
        go_wp2_with fail
        refine (HYa.out _ (Hra.out.below HB24.out)).mono ?_
        rintro e w25 ⟨rfl, hb⟩
        have HB25 := Lib.hid (HB24.out.trans (hb.mono HB24.out.size))
        clear hb
        go_wp2
        go_ret
        exact ⟨rfl, HB25.out⟩

set_option maxHeartbeats 8000000 in
set_option maxRecDepth 1000000 in
theorem spanLaws_some_ok (va vb : Value) (a b : List sp.Span) (n : Int) (s : List UInt8) (w : World) (hra : RdS w va a) (hrb : RdS w vb b) (hpa : Plain va) (hpb : Plain vb) (hs : s.length < 4294967281) (G : Glob w) (ha : sp.fault a = 0) (hb : sp.fault b = 0) (m : List sp.Span) (hm : sp.readSpans s = some m) :
    Calls Tryz.prog 3 #[va, vb, .int .i64 n, strV s] w fun e w' => e = .returned (.bool true) ∧ Below w.heap.size w w' := by
  have HF := Lib.hid (fun (w : World) (t : TypeId) => spJoin_any (.slice (some ⟨w.heap.size, 0, none⟩) 1 1) (.slice (some ⟨w.heap.size + 1, 0, none⟩) 1 1) [(1, 2)] [(3, 4)] ((w.alloc (.cells #[.int .i64 1, .int .i64 2] t)).alloc (.cells #[.int .i64 3, .int .i64 4] t)) ((rdS_one w _ 1 2 t rfl).below (belowA _ _)) (rdS_one _ _ 3 4 t (by simp)) (plain_at _ _ _) (plain_at _ _ _) (by decide) (by decide))
  have HBA := Lib.hid (fun (w : World) o o' => (belowA w o).trans ((belowA (w.alloc o) o').mono (belowA w o).size))
  have hQ := fun w G => spParse_any s w hs G
  rw [sp.goParse_eq, hm] at hQ
  have HQ := Lib.hid hQ
  obtain ⟨hfm, hpm⟩ := read_print hm
  have hP := fun v w (h : RdS w v m) hp G => spPrint_any v m w h hp G
  rw [hpm, hfm, errV0] at hP
  have HP := Lib.hid hP
  clear hfm hpm hP
  have qs : (s == s) = true := beq_self_eq_true _
  have qn : (s != s) = false := bne_self_eq_false _
  have HJ := Lib.hid (fun w (h : RdS w va a) (h' : RdS w vb b) => spJoin_any va vb a b w h h' hpa hpb ha hb)
  have HM := Lib.hid (fun w (h : RdS w va a) (h' : RdS w vb b) => spMeet_any va vb a b w h h' hpa hpb ha hb)
  have HL := Lib.hid (fun w (h : RdS w va a) (h' : RdS w vb b) => spLess_any va vb a b w h h' hpa hpb ha hb)
  have HN := Lib.hid (fun w (h : RdS w va a) => spNot_any va a w h hpa ha)
  have HO := Lib.hid (fun w (h : RdS w va a) => normG_any va a w h hpa ha)
  have HXa := Lib.hid (fun w (h : RdS w va a) => has_any va a n w h)
  have HXb := Lib.hid (fun w (h : RdS w vb b) => has_any vb b n w h)
  have HYa := Lib.hid (fun w (h : RdS w va a) => many_any va a w h hpa)
  have HYb := Lib.hid (fun w (h : RdS w vb b) => many_any vb b w h hpb)
  have HW1 := Lib.hid (fun hj hm hd => sp.law1 ha hb n hj hm hd)
  have HW2 := Lib.hid (fun hc => sp.law2 ha hc)
  have HMa := Lib.hid (many_range ha)
  have HMb := Lib.hid (many_range hb)
  have HGd := Lib.hid (show (sp.Good (sp.join a b) ∧ sp.Good (sp.meet a b)) ∧ sp.Good (sp.less a b) from ⟨⟨(sp.join_of (sp.fault_zero.1 ha).2 (sp.fault_zero.1 hb).2).1, (sp.meet_of (sp.fault_zero.1 ha).2 (sp.fault_zero.1 hb).2).1⟩, (sp.less_of (sp.fault_zero.1 ha).2 (sp.fault_zero.1 hb).2).1⟩)
  generalize sp.join a b = J at *
  generalize sp.meet a b = M at *
  generalize sp.less a b = D at *
  have Hra := Lib.hid hra
  have Hrb := Lib.hid hrb
  have HG := Lib.hid G
  clear hra hrb hpa hpb hs G hm hQ ha hb
  go_enter Tryz.func3, Tryz.ntmps3
  go_wp2_with fail
  refine (HF.out _ _).mono ?_
  rintro e w1 ⟨u, rfl, hr1, _, hb1⟩
  have HB1 := Lib.hid ((HBA.out w _ _).trans (hb1.mono (HBA.out w _ _).size))
  rw [join_fact] at hr1
  obtain ⟨fa, fc, rfl, _, hfc⟩ := hr1
  obtain ⟨fg, fo, rfl, hfc2⟩ := hfc (by simp)
  obtain ⟨_, hf1⟩ := hfc2 0 (by simp)
  simp only [Nat.zero_mul, Nat.add_zero, List.getElem_cons_zero] at hf1
  have HG1 := Lib.hid (HG.out.below HB1.out)
  clear hb1 hfc hfc2
  simp only [List.length_cons, List.length_nil]
  go_wp2_with fail
  refine (HQ.out _ HG1.out).mono ?_
  rintro e w2 ⟨hres, hb2⟩
  obtain ⟨v2, rfl, hr2, hp2⟩ := hres
  have HR2 := Lib.hid hr2
  have HP2 := Lib.hid hp2
  have HB2 := Lib.hid (HB1.out.trans (hb2.mono HB1.out.size))
  have HG2 := Lib.hid (HG1.out.below hb2)
  clear hb2 hr2 hp2 hf1 HF HBA HQ
  rw [errV0]
  go_wp2_with fail
  refine (HP.out _ _ HR2.out HP2.out HG2.out).mono ?_
  rintro e w3 ⟨rfl, hb3⟩
  have HB3 := Lib.hid (HB2.out.trans (hb3.mono HB2.out.size))
  clear hb3
  simp only [strV_def]
  have Hra3 := Lib.hid (Hra.out.below HB3.out)
  have Hrb3 := Lib.hid (Hrb.out.below HB3.out)
  go_wp2_with fail
  refine (HJ.out _ Hra3.out Hrb3.out).mono ?_
  rintro e w4 ⟨vj, rfl, hrj, hpj, hb⟩
  have HB4 := Lib.hid (HB3.out.trans (hb.mono HB3.out.size))
  have Hra4 := Lib.hid (Hra3.out.below hb)
  have Hrb4 := Lib.hid (Hrb3.out.below hb)
  have Hrj4 := Lib.hid hrj
  have Hpj := Lib.hid hpj
  clear hrj hpj
  clear hb
  go_wp2_with fail
  refine (HM.out _ Hra4.out Hrb4.out).mono ?_
  rintro e w5 ⟨vm, rfl, hrm, hpm, hb⟩
  have HB5 := Lib.hid (HB4.out.trans (hb.mono HB4.out.size))
  have Hra5 := Lib.hid (Hra4.out.below hb)
  have Hrb5 := Lib.hid (Hrb4.out.below hb)
  have Hrm5 := Lib.hid hrm
  have Hpm := Lib.hid hpm
  clear hrm hpm
  have Hrj5 := Lib.hid (Hrj4.out.below hb)
  clear hb
  go_wp2_with fail
  refine (HL.out _ Hra5.out Hrb5.out).mono ?_
  rintro e w6 ⟨vd, rfl, hrd, hpd, hb⟩
  have HB6 := Lib.hid (HB5.out.trans (hb.mono HB5.out.size))
  have Hra6 := Lib.hid (Hra5.out.below hb)
  have Hrb6 := Lib.hid (Hrb5.out.below hb)
  have Hrd6 := Lib.hid hrd
  have Hpd := Lib.hid hpd
  clear hrd hpd
  have Hrj6 := Lib.hid (Hrj5.out.below hb)
  have Hrm6 := Lib.hid (Hrm5.out.below hb)
  clear hb
  go_wp2_with fail
  refine (HXa.out _ Hra6.out).mono ?_
  rintro e w7 ⟨rfl, hb⟩
  have HB7 := Lib.hid (HB6.out.trans (hb.mono HB6.out.size))
  have Hra7 := Lib.hid (Hra6.out.below hb)
  have Hrb7 := Lib.hid (Hrb6.out.below hb)
  have Hrj7 := Lib.hid (Hrj6.out.below hb)
  have Hrm7 := Lib.hid (Hrm6.out.below hb)
  have Hrd7 := Lib.hid (Hrd6.out.below hb)
  clear hb
  go_wp2_with fail
  refine (HXb.out _ Hrb7.out).mono ?_
  rintro e w8 ⟨rfl, hb⟩
  have HB8 := Lib.hid (HB7.out.trans (hb.mono HB7.out.size))
  have Hra8 := Lib.hid (Hra7.out.below hb)
  have Hrb8 := Lib.hid (Hrb7.out.below hb)
  have Hrj8 := Lib.hid (Hrj7.out.below hb)
  have Hrm8 := Lib.hid (Hrm7.out.below hb)
  have Hrd8 := Lib.hid (Hrd7.out.below hb)
  clear hb
  obtain ⟨ja, jc, ej, _, _⟩ := Hrj8.out
  obtain ⟨ma, mc, em, _, _⟩ := Hrm8.out
  obtain ⟨da, dc, ed, _, _⟩ := Hrd8.out
  subst ej em ed
  go_upto_region 16 with fail
  go_cut [134] (fun s134 wc => s134 = .bool (decide (0 ≤ n ∧ n ≤ 65535 ∧ J.length ≤ 200 ∧ M.length ≤ 200 ∧ D.length ≤ 200)) ∧ w8 = wc)
  case first =>
    have h6 : ¬ 0 ≤ n ∨ (0 ≤ n ∧ ¬ n ≤ 65535) ∨ (0 ≤ n ∧ n ≤ 65535 ∧ ¬ J.length ≤ 200) ∨ (0 ≤ n ∧ n ≤ 65535 ∧ J.length ≤ 200 ∧ ¬ M.length ≤ 200) ∨ (0 ≤ n ∧ n ≤ 65535 ∧ J.length ≤ 200 ∧ M.length ≤ 200 ∧ ¬ D.length ≤ 200) ∨ (0 ≤ n ∧ n ≤ 65535 ∧ J.length ≤ 200 ∧ M.length ≤ 200 ∧ D.length ≤ 200) := by omega
    rcases h6 with h | ⟨h1, h⟩ | ⟨h1, h2, h⟩ | ⟨h1, h2, h3, h⟩ | ⟨h1, h2, h3, h4, h⟩ | ⟨h1, h2, h3, h4, h⟩
    all_goals
      go_wp2_with fail
      go_meet
      case rel =>
        refine ⟨?_, rfl⟩
        first
          | (refine congrArg Value.bool ?_; rw [Bool.eq_iff_iff]; simp only [decide_eq_true_eq]; omega)
          | (refine congrArg Value.bool ?_; symm; rw [decide_eq_false_iff_not]; omega)
          | (simp; intros; omega)
  case rest =>
    obtain ⟨hc1, hc2⟩ := hcut
    subst hc1
    subst hc2
    go_upto_if 134 with fail
    go_cut [] (fun wc => Below w.heap.size w wc)
    case first =>
      by_cases hcond : 0 ≤ n ∧ n ≤ 65535 ∧ J.length ≤ 200 ∧ M.length ≤ 200 ∧ D.length ≤ 200
      · rw [decide_eq_true hcond]
        obtain ⟨_, _, hj, hm, hd⟩ := hcond
        obtain ⟨x1, x2, x3, x4, x5⟩ := HW1.out hj hm hd
        obtain ⟨⟨gj, gm⟩, gd⟩ := HGd.out
        have r1 := many_range (sp.good_fault gj hj)
        have r2 := many_range (sp.good_fault gm hm)
        have r3 := many_range (sp.good_fault gd hd)
        have r4 := HMa.out
        have r5 := HMb.out
        have HXj := Lib.hid (fun w v (h : RdS w v J) => has_any v J n w h)
        have HXm := Lib.hid (fun w v (h : RdS w v M) => has_any v M n w h)
        have HXd := Lib.hid (fun w v (h : RdS w v D) => has_any v D n w h)
        have HYj := Lib.hid (fun w v (h : RdS w v J) hp => many_any v J w h hp)
        have HYm := Lib.hid (fun w v (h : RdS w v M) hp => many_any v M w h hp)
        have HYd := Lib.hid (fun w v (h : RdS w v D) hp => many_any v D w h hp)
        rw [x1] at HXj
        rw [x2] at HXm
        rw [x3] at HXd
        rw [x4] at HYj r1
        rw [x5] at HYa r4
        clear x1 x2 x3 x4 x5 HW1 HW2 HXa HXb
        generalize sp.has a n = bx at *
        generalize sp.has b n = bY at *
        generalize sp.many D = nD at *
        generalize sp.many M = nM at *
        generalize sp.many b = nB at *
        clear gj gm gd
        cases bx <;> cases bY
        all_goals
          go_wp2_with fail
          refine (HXj.out _ _ Hrj8.out).mono ?_
          rintro e w9 ⟨rfl, hb⟩
          have HB9 := Lib.hid (HB8.out.trans (hb.mono HB8.out.size))
          have Hrm9 := Lib.hid (Hrm8.out.below hb)
          have Hrd9 := Lib.hid (Hrd8.out.below hb)
          have Hrj9 := Lib.hid (Hrj8.out.below hb)
          clear hb
          go_wp2_with fail
          refine (HXm.out _ _ Hrm9.out).mono ?_
          rintro e w10 ⟨rfl, hb⟩
          have HB10 := Lib.hid (HB9.out.trans (hb.mono HB9.out.size))
          have Hrm10 := Lib.hid (Hrm9.out.below hb)
          have Hrd10 := Lib.hid (Hrd9.out.below hb)
          have Hrj10 := Lib.hid (Hrj9.out.below hb)
          clear hb
          go_wp2_with fail
          refine (HXd.out _ _ Hrd10.out).mono ?_
          rintro e w11 ⟨rfl, hb⟩
          have HB11 := Lib.hid (HB10.out.trans (hb.mono HB10.out.size))
          have Hrm11 := Lib.hid (Hrm10.out.below hb)
          have Hrd11 := Lib.hid (Hrd10.out.below hb)
          have Hrj11 := Lib.hid (Hrj10.out.below hb)
          clear hb
          go_wp2_with fail
          refine (HYj.out _ _ Hrj11.out Hpj.out).mono ?_
          rintro e w12 ⟨rfl, hb⟩
          have HB12 := Lib.hid (HB11.out.trans (hb.mono HB11.out.size))
          have Hrm12 := Lib.hid (Hrm11.out.below hb)
          have Hrd12 := Lib.hid (Hrd11.out.below hb)
          clear hb
          go_wp2_with fail
          refine (HYd.out _ _ Hrd12.out Hpd.out).mono ?_
          rintro e w13 ⟨rfl, hb⟩
          have HB13 := Lib.hid (HB12.out.trans (hb.mono HB12.out.size))
          have Hrm13 := Lib.hid (Hrm12.out.below hb)
          have Hrd13 := Lib.hid (Hrd12.out.below hb)
          clear hb
          go_wp2_with fail
          refine (HYb.out _ (Hrb.out.below HB13.out)).mono ?_
          rintro e w14 ⟨rfl, hb⟩
          have HB14 := Lib.hid (HB13.out.trans (hb.mono HB13.out.size))
          have Hrm14 := Lib.hid (Hrm13.out.below hb)
          have Hrd14 := Lib.hid (Hrd13.out.below hb)
          clear hb
          go_wp2_with fail
          refine (HYa.out _ (Hra.out.below HB14.out)).mono ?_
          rintro e w15 ⟨rfl, hb⟩
          have HB15 := Lib.hid (HB14.out.trans (hb.mono HB14.out.size))
          have Hrm15 := Lib.hid (Hrm14.out.below hb)
          have Hrd15 := Lib.hid (Hrd14.out.below hb)
          clear hb
          go_wp2_with fail
          refine (HYd.out _ _ Hrd15.out Hpd.out).mono ?_
          rintro e w16 ⟨rfl, hb⟩
          have HB16 := Lib.hid (HB15.out.trans (hb.mono HB15.out.size))
          have Hrm16 := Lib.hid (Hrm15.out.below hb)
          clear hb
          go_wp2_with fail
          refine (HYm.out _ _ Hrm16.out Hpm.out).mono ?_
          rintro e w17 ⟨rfl, hb⟩
          have HB17 := Lib.hid (HB16.out.trans (hb.mono HB16.out.size))
          clear hb
          go_wp2
          go_meet
          case rel => exact HB17.out
      · rw [decide_eq_false hcond]
        go_wp2_with fail
        go_meet
        case rel => exact HB8.out
    case rest =>
      have HBc := Lib.hid hcut
      clear hcut
      go_wp2_with fail
      refine (HN.out _ (Hra.out.below HBc.out)).mono ?_
      rintro e w20 ⟨vc, rfl, hrc, hpc, hb⟩
      have HB20 := Lib.hid (HBc.out.trans (hb.mono HBc.out.size))
      have Hrc := Lib.hid hrc
      have Hpc := Lib.hid hpc
      obtain ⟨ca, cc, ec, _, _⟩ := hrc
      subst ec
      clear hb hpc
      by_cases hc2 : 200 < (sp.nots a).length
      · go_wp2
        go_ret
        exact ⟨rfl, HB20.out⟩
      · obtain ⟨y1, y2, y3⟩ := HW2.out (by omega)
        have HNc := Lib.hid (fun w v (h : RdS w v (sp.nots a)) hp => spNot_any v (sp.nots a) w h hp y1)
        rw [y2] at HNc
        have hy := many_range y1
        have HYc := Lib.hid (fun w v (h : RdS w v (sp.nots a)) hp => many_any v (sp.nots a) w h hp)
        have hya := HMa.out
        have HSS := Lib.hid (fun w v u (h : RdS w v (sp.norm a)) (h' : RdS w u (sp.norm a)) => sameSpans_any v u (sp.norm a) (sp.norm a) w h h')
        rw [beq_self_eq_true] at HSS
        generalize sp.nots a = C at *
        generalize sp.norm a = NA at *
        generalize sp.many C = nC at *
        generalize sp.many a = nA at *
        clear y1 y2
        go_wp2_with fail
        refine (HNc.out _ _ Hrc.out Hpc.out).mono ?_
        rintro e w21 ⟨vf, rfl, hrf, _, hb⟩
        have HB21 := Lib.hid (HB20.out.trans (hb.mono HB20.out.size))
        have Hrc21 := Lib.hid (Hrc.out.below hb)
        have Hrf := Lib.hid hrf
        clear hb hrf
        go_wp2_with fail
        refine (HO.out _ (Hra.out.below HB21.out)).mono ?_
        rintro e w22 ⟨vg, rfl, hrg, _, hb⟩
        have HB22 := Lib.hid (HB21.out.trans (hb.mono HB21.out.size))
        have Hrc22 := Lib.hid (Hrc21.out.below hb)
        have Hrf22 := Lib.hid (Hrf.out.below hb)
        have Hrg := Lib.hid hrg
        clear hb hrg
        go_wp2_with fail
        refine (HSS.out _ _ _ Hrf22.out Hrg.out).mono ?_
        rintro e w23 ⟨rfl, hb⟩
        have HB23 := Lib.hid (HB22.out.trans (hb.mono HB22.out.size))
        have Hrc23 := Lib.hid (Hrc22.out.below hb)
        clear hb
        go_wp2_with fail
        refine (HYc.out _ _ Hrc23.out Hpc.out).mono ?_
        rintro e w24 ⟨rfl, hb⟩
        have HB24 := Lib.hid (HB23.out.trans (hb.mono HB23.out.size))
        clear hb
        go_wp2_with fail
        refine (HYa.out _ (Hra.out.below HB24.out)).mono ?_
        rintro e w25 ⟨rfl, hb⟩
        have HB25 := Lib.hid (HB24.out.trans (hb.mono HB24.out.size))
        clear hb
        go_wp2
        go_ret
        exact ⟨rfl, HB25.out⟩

theorem fault2_zero {a b : List sp.Span} (h : fault2 a b = 0) : sp.fault a = 0 ∧ sp.fault b = 0 := by
  unfold fault2 at h
  split at h
  · rename_i h0; exact ⟨h0, h⟩
  · rename_i h0; exact absurd h h0
theorem spanLaws_any (va vb : Value) (a b : List sp.Span) (n : Int) (s : List UInt8) (w : World) (hra : RdS w va a) (hrb : RdS w vb b) (hpa : Plain va) (hpb : Plain vb) (hs : s.length < 4294967281) (G : Glob w) :
    Calls Tryz.prog 3 #[va, vb, .int .i64 n, strV s] w fun e w' => e = .returned (.bool true) ∧ Below w.heap.size w w' := by
  by_cases hf : fault2 a b = 0
  · obtain ⟨ha, hb⟩ := fault2_zero hf
    cases hm : sp.readSpans s with
    | none => exact spanLaws_none_ok va vb a b n s w hra hrb hpa hpb hs G ha hb hm
    | some m => exact spanLaws_some_ok va vb a b n s w hra hrb hpa hpb hs G ha hb m hm
  · cases hm : sp.readSpans s with
    | none => exact spanLaws_none_bad va vb a b n s w hra hrb hpa hpb hs G hf hm
    | some m => exact spanLaws_some_bad va vb a b n s w hra hrb hpa hpb hs G hf m hm

end Go.Proofs.YtdjpkkppcdmdnaaGreatDoor
