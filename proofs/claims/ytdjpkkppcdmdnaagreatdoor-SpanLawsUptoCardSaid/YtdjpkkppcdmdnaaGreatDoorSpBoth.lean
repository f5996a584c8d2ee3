/- span.both, Join, Meet, Less, Not, Norm, Has, Many. -/
import Derived.Test.YtdjpkkppcdmdnaaGreatDoorSpSetW
namespace Go.Proofs.YtdjpkkppcdmdnaaGreatDoor
open Go.RowKit

set_option maxHeartbeats 1000000 in
theorem joinF_any (va vb : Value) (a b : List sp.Span) (w : World) (hra : RdS w va a) (hrb : RdS w vb b) (hpa : Plain va) (hpb : Plain vb) (hva : sp.valid a = true) (hvb : sp.valid b = true) (hla : a.length ≤ 200) (hlb : b.length ≤ 200) :
    Calls Tryz.prog 21 #[va, vb] w fun e w' => ∃ u, e = .returned u ∧ RdS w' u (sp.norm (a ++ b)) ∧ Plain u ∧ Below w.heap.size w w' := by
  have hc := fun o => concat_any w.heap.size va vb a b (w.alloc (.cells #[va, vb] o)) (newCell w _ o 0 _ rfl) (newCell w _ o 1 _ rfl) (hra.below (belowA w _)) (hrb.below (belowA w _)) hpa hpb (by omega)
  have hv := sp.wide_valid (sp.valid_append hva hvb)
  have hl : (a ++ b).length ≤ 1000000 := by rw [List.length_append]; omega
  have Hc := Lib.hid hc
  have Hv := Lib.hid hv
  have Hl := Lib.hid hl
  have HA := Lib.hid (fun o => belowA w o)
  obtain ⟨aa, acap, rfl, _, _⟩ := hra
  obtain ⟨ba, bcap, rfl, _, _⟩ := hrb
  clear hc hv hl hpa hpb hva hvb hla hlb
  go_enter Tryz.func21, Tryz.ntmps21
  go_wp2_with fail
  refine (Hc.out _).mono ?_
  rintro e w1 ⟨u, rfl, h1, h2, h3⟩
  have HB := Lib.hid ((HA.out _).trans (h3.mono (HA.out _).size))
  have ht := tidyW_any u _ w1 h1 h2 Hv.out Hl.out
  have Ht := Lib.hid ht
  clear h1 h2 h3 ht
  go_wp2_with fail
  refine Ht.out.mono ?_
  rintro e w2 ⟨u2, rfl, h1, h2, _, h3⟩
  have HB2 := Lib.hid (HB.out.trans (h3.mono HB.out.size))
  clear h3
  go_wp2
  go_ret
  exact ⟨_, rfl, h1, h2, HB2.out⟩

theorem meetF_any (va vb : Value) (a b : List sp.Span) (w : World) (hra : RdS w va a) (hrb : RdS w vb b) (_hpa : Plain va) (_hpb : Plain vb) (hva : sp.valid a = true) (hvb : sp.valid b = true) (hla : a.length ≤ 200) (hlb : b.length ≤ 200) :
    Calls Tryz.prog 30 #[va, vb] w fun e w' => ∃ u, e = .returned u ∧ RdS w' u (sp.cross a b) ∧ Plain u ∧ Below w.heap.size w w' :=
  (cross_any va vb a b w hra hrb (sp.wide_valid hva) (sp.wide_valid hvb) (by have := Nat.mul_le_mul hla hlb; omega)).mono fun _ _ ⟨u, h1, h2, h3, _, h4⟩ => ⟨u, h1, h2, h3, h4⟩

theorem rest_valid {b : List sp.Span} (hvb : sp.valid b = true) (hg : sp.gapped b = true) : sp.wide (sp.rest 65535 0 b) = true := sp.wide_valid (sp.rest_of ⟨hg, hvb⟩).1.v

set_option maxHeartbeats 1000000 in
theorem lessF_any (va vb : Value) (a b : List sp.Span) (w : World) (hra : RdS w va a) (hrb : RdS w vb b) (hva : sp.valid a = true) (hvb : sp.valid b = true) (hgb : sp.gapped b = true) (hla : a.length ≤ 200) (hlb : b.length ≤ 200) :
    Calls Tryz.prog 31 #[va, vb] w fun e w' => ∃ u, e = .returned u ∧ RdS w' u (sp.cross a (sp.rest 65535 0 b)) ∧ Plain u ∧ Below w.heap.size w w' := by
  have hc := rest_any vb b 0 65535 w hrb (sp.wide_valid hvb) (by omega) (by decide) (by decide)
  have hv := rest_valid hvb hgb
  have hl := Nat.mul_le_mul hla (Nat.le_trans (sp.rest_len 65535 b 0) (Nat.succ_le_succ hlb))
  have Hc := Lib.hid hc
  have Hv := Lib.hid hv
  have Hva := Lib.hid (sp.wide_valid hva)
  have Hl := Lib.hid hl
  have Hra := Lib.hid hra
  clear hc hv hl hra hrb hva hvb hla hlb hgb
  go_enter Tryz.func31, Tryz.ntmps31
  go_wp2_with fail
  refine Hc.out.mono ?_
  rintro e w1 ⟨u, rfl, h1, h2, h3⟩
  have HB := Lib.hid h3
  have ht := cross_any va u a _ w1 (Hra.out.below h3) h1 Hva.out Hv.out (by have := Hl.out; omega)
  have Ht := Lib.hid ht
  clear h1 h2 h3 ht
  go_wp2_with fail
  refine Ht.out.mono ?_
  rintro e w2 ⟨u2, rfl, h1, h2, _, h3⟩
  have HB2 := Lib.hid (HB.out.trans (h3.mono HB.out.size))
  clear h3
  go_wp2
  go_ret
  exact ⟨_, rfl, h1, h2, HB2.out⟩

set_option maxHeartbeats 1000000 in
theorem notF_any (va vb : Value) (a : List sp.Span) (w : World) (hra : RdS w va a) (hva : sp.valid a = true) (hla : a.length ≤ 200) :
    Calls Tryz.prog 35 #[va, vb] w fun e w' => ∃ u, e = .returned u ∧ RdS w' u (sp.rest 65535 0 a) ∧ Plain u ∧ Below w.heap.size w w' := by
  have hc := rest_any va a 0 65535 w hra (sp.wide_valid hva) (by omega) (by decide) (by decide)
  have Hc := Lib.hid hc
  clear hc hra hva hla
  go_enter Tryz.func35, Tryz.ntmps35
  go_wp2_with fail
  refine Hc.out.mono ?_
  rintro e w1 ⟨u, rfl, h1, h2, h3⟩
  go_wp2
  go_ret
  exact ⟨_, rfl, h1, h2, h3⟩

/-- the fault of two -/
def fault2 (a b : List sp.Span) : Int := if sp.fault a = 0 then sp.fault b else sp.fault a
theorem errV_fault {l : List sp.Span} (h : sp.fault l ≠ 0) : errV (sp.fault l) = .iface 51 (.int .i64 (sp.fault l)) := if_neg h

set_option maxHeartbeats 1000000 in
theorem both_bad (va vb F : Value) (a b : List sp.Span) (w : World) (hra : RdS w va a) (hrb : RdS w vb b) (hf : fault2 a b ≠ 0) :
    Calls Tryz.prog 20 #[va, vb, F] w fun e w' => e = .returned (.tuple #[.slice none 0 0, errV (fault2 a b)]) ∧ Below w.heap.size w w' := by
  by_cases ha : sp.fault a = 0
  · have e : fault2 a b = sp.fault b := if_pos ha
    rw [e] at hf ⊢
    have eb := errV_fault hf
    have h1 := spCheck_any va a w hra
    have H2 := Lib.hid (fun w (h : RdS w vb b) => spCheck_any vb b w h)
    have Hrb := Lib.hid hrb
    rw [ha, errV0] at h1
    have H1 := Lib.hid h1
    have Heb := Lib.hid eb
    rw [eb] at H2 ⊢
    generalize sp.fault b = k at *
    clear ha e hf hra hrb h1 eb Heb
    go_enter Tryz.func20, Tryz.ntmps20
    go_wp2_with fail
    refine H1.out.mono ?_
    rintro e w1 ⟨rfl, hb1⟩
    have HB1 := Lib.hid hb1
    have Hrb1 := Lib.hid (Hrb.out.below hb1)
    clear hb1
    go_wp2_with fail
    refine (H2.out _ Hrb1.out).mono ?_
    rintro e w2 ⟨rfl, hb2⟩
    have HB2 := Lib.hid (HB1.out.trans (hb2.mono HB1.out.size))
    clear hb2
    go_wp2
    go_ret2
    exact ⟨rfl, HB2.out⟩
  · have e : fault2 a b = sp.fault a := if_neg ha
    rw [e] at hf ⊢
    have eb := errV_fault hf
    have h1 := spCheck_any va a w hra
    rw [eb] at h1 ⊢
    have H1 := Lib.hid h1
    generalize sp.fault a = k at *
    clear ha e hf hra hrb h1 eb
    go_enter Tryz.func20, Tryz.ntmps20
    go_wp2_with fail
    refine H1.out.mono ?_
    rintro e w1 ⟨rfl, hb1⟩
    go_wp2
    go_ret2
    exact ⟨rfl, hb1⟩

set_option maxHeartbeats 2000000 in
theorem both_join (va vb : Value) (a b : List sp.Span) (w : World) (hra : RdS w va a) (hrb : RdS w vb b) (hpa : Plain va) (hpb : Plain vb) (ha : sp.fault a = 0) (hb : sp.fault b = 0) :
    Calls Tryz.prog 20 #[va, vb, .func (.func 21) #[] #[]] w fun e w' => ∃ u, e = .returned (.tuple #[u, .nilIface]) ∧ RdS w' u (sp.join a b) ∧ Plain u ∧ Below w.heap.size w w' := by
  obtain ⟨la, hva⟩ := sp.fault_zero.1 ha
  obtain ⟨lb, hvb⟩ := sp.fault_zero.1 hb
  have h1 := spCheck_any va a w hra
  have h2 := fun w (h : RdS w vb b) => spCheck_any vb b w h
  rw [ha, errV0] at h1
  rw [hb, errV0] at h2
  have h3 := fun w (h : RdS w va a) => tidy_any va a w h hpa hva (by omega)
  have h4 := fun w (h : RdS w vb b) => tidy_any vb b w h hpb hvb (by omega)
  have h5 := fun w u v (h : RdS w u (sp.norm a)) (h' : RdS w v (sp.norm b)) (hp : Plain u) (hq : Plain v) (hl : (sp.norm a).length ≤ 200) (hm : (sp.norm b).length ≤ 200) => joinF_any u v _ _ w h h' hp hq (sp.norm_valid hva) (sp.norm_valid hvb) hl hm
  have H1 := Lib.hid h1
  have H2 := Lib.hid h2
  have H3 := Lib.hid h3
  have H4 := Lib.hid h4
  have H5 := Lib.hid h5
  have Hra := Lib.hid hra
  have Hrb := Lib.hid hrb
  clear h1 h2 h3 h4 h5 hra hrb hva hvb ha hb hpa hpb
  go_enter Tryz.func20, Tryz.ntmps20
  go_wp2_with fail
  refine H1.out.mono ?_
  rintro e w1 ⟨rfl, hb1⟩
  have HB1 := Lib.hid hb1
  have Hra1 := Lib.hid (Hra.out.below hb1)
  have Hrb1 := Lib.hid (Hrb.out.below hb1)
  clear hb1
  go_wp2_with fail
  refine (H2.out _ Hrb1.out).mono ?_
  rintro e w2 ⟨rfl, hb2⟩
  have HB2 := Lib.hid (HB1.out.trans (hb2.mono HB1.out.size))
  have Hra2 := Lib.hid (Hra1.out.below hb2)
  have Hrb2 := Lib.hid (Hrb1.out.below hb2)
  clear hb2
  go_wp2_with fail
  refine (H3.out _ Hra2.out).mono ?_
  rintro e w3 ⟨u3, rfl, hr3, hp3, hl3, hb3⟩
  have HB3 := Lib.hid (HB2.out.trans (hb3.mono HB2.out.size))
  have Hrb3 := Lib.hid (Hrb2.out.below hb3)
  have Hr3 := Lib.hid hr3
  have Hp3 := Lib.hid hp3
  clear hb3 hr3 hp3
  go_wp2_with fail
  refine (H4.out _ Hrb3.out).mono ?_
  rintro e w4 ⟨u4, rfl, hr4, hp4, hl4, hb4⟩
  have HB4 := Lib.hid (HB3.out.trans (hb4.mono HB3.out.size))
  have Hr34 := Lib.hid (Hr3.out.below hb4)
  have h6 := H5.out w4 u3 u4 Hr34.out hr4 Hp3.out hp4 (by omega) (by omega)
  have H6 := Lib.hid h6
  clear hb4 hr4 hp4 h6
  go_wp2_with fail
  refine H6.out.mono ?_
  rintro e w5 ⟨u5, rfl, hr5, hp5, hb5⟩
  have HB5 := Lib.hid (HB4.out.trans (hb5.mono HB4.out.size))
  have Hr5 := Lib.hid hr5
  have Hp5 := Lib.hid hp5
  clear hb5 hr5 hp5
  go_wp2
  go_ret2
  exact ⟨_, rfl, Hr5.out, Hp5.out, HB5.out⟩

set_option maxHeartbeats 2000000 in
theorem both_meet (va vb : Value) (a b : List sp.Span) (w : World) (hra : RdS w va a) (hrb : RdS w vb b) (hpa : Plain va) (hpb : Plain vb) (ha : sp.fault a = 0) (hb : sp.fault b = 0) :
    Calls Tryz.prog 20 #[va, vb, .func (.func 30) #[] #[]] w fun e w' => ∃ u, e = .returned (.tuple #[u, .nilIface]) ∧ RdS w' u (sp.meet a b) ∧ Plain u ∧ Below w.heap.size w w' := by
  obtain ⟨la, hva⟩ := sp.fault_zero.1 ha
  obtain ⟨lb, hvb⟩ := sp.fault_zero.1 hb
  have h1 := spCheck_any va a w hra
  have h2 := fun w (h : RdS w vb b) => spCheck_any vb b w h
  rw [ha, errV0] at h1
  rw [hb, errV0] at h2
  have h3 := fun w (h : RdS w va a) => tidy_any va a w h hpa hva (by omega)
  have h4 := fun w (h : RdS w vb b) => tidy_any vb b w h hpb hvb (by omega)
  have h5 := fun w u v (h : RdS w u (sp.norm a)) (h' : RdS w v (sp.norm b)) (hp : Plain u) (hq : Plain v) (hl : (sp.norm a).length ≤ 200) (hm : (sp.norm b).length ≤ 200) => meetF_any u v _ _ w h h' hp hq (sp.norm_valid hva) (sp.norm_valid hvb) hl hm
  have H1 := Lib.hid h1
  have H2 := Lib.hid h2
  have H3 := Lib.hid h3
  have H4 := Lib.hid h4
  have H5 := Lib.hid h5
  have Hra := Lib.hid hra
  have Hrb := Lib.hid hrb
  clear h1 h2 h3 h4 h5 hra hrb hva hvb ha hb hpa hpb
  go_enter Tryz.func20, Tryz.ntmps20
  go_wp2_with fail
  refine H1.out.mono ?_
  rintro e w1 ⟨rfl, hb1⟩
  have HB1 := Lib.hid hb1
  have Hra1 := Lib.hid (Hra.out.below hb1)
  have Hrb1 := Lib.hid (Hrb.out.below hb1)
  clear hb1
  go_wp2_with fail
  refine (H2.out _ Hrb1.out).mono ?_
  rintro e w2 ⟨rfl, hb2⟩
  have HB2 := Lib.hid (HB1.out.trans (hb2.mono HB1.out.size))
  have Hra2 := Lib.hid (Hra1.out.below hb2)
  have Hrb2 := Lib.hid (Hrb1.out.below hb2)
  clear hb2
  go_wp2_with fail
  refine (H3.out _ Hra2.out).mono ?_
  rintro e w3 ⟨u3, rfl, hr3, hp3, hl3, hb3⟩
  have HB3 := Lib.hid (HB2.out.trans (hb3.mono HB2.out.size))
  have Hrb3 := Lib.hid (Hrb2.out.below hb3)
  have Hr3 := Lib.hid hr3
  have Hp3 := Lib.hid hp3
  clear hb3 hr3 hp3
  go_wp2_with fail
  refine (H4.out _ Hrb3.out).mono ?_
  rintro e w4 ⟨u4, rfl, hr4, hp4, hl4, hb4⟩
  have HB4 := Lib.hid (HB3.out.trans (hb4.mono HB3.out.size))
  have Hr34 := Lib.hid (Hr3.out.below hb4)
  have h6 := H5.out w4 u3 u4 Hr34.out hr4 Hp3.out hp4 (by omega) (by omega)
  have H6 := Lib.hid h6
  clear hb4 hr4 hp4 h6
  go_wp2_with fail
  refine H6.out.mono ?_
  rintro e w5 ⟨u5, rfl, hr5, hp5, hb5⟩
  have HB5 := Lib.hid (HB4.out.trans (hb5.mono HB4.out.size))
  have Hr5 := Lib.hid hr5
  have Hp5 := Lib.hid hp5
  clear hb5 hr5 hp5
  go_wp2
  go_ret2
  exact ⟨_, rfl, Hr5.out, Hp5.out, HB5.out⟩

set_option maxHeartbeats 2000000 in
theorem both_less (va vb : Value) (a b : List sp.Span) (w : World) (hra : RdS w va a) (hrb : RdS w vb b) (hpa : Plain va) (hpb : Plain vb) (ha : sp.fault a = 0) (hb : sp.fault b = 0) :
    Calls Tryz.prog 20 #[va, vb, .func (.func 31) #[] #[]] w fun e w' => ∃ u, e = .returned (.tuple #[u, .nilIface]) ∧ RdS w' u (sp.less a b) ∧ Plain u ∧ Below w.heap.size w w' := by
  obtain ⟨la, hva⟩ := sp.fault_zero.1 ha
  obtain ⟨lb, hvb⟩ := sp.fault_zero.1 hb
  have h1 := spCheck_any va a w hra
  have h2 := fun w (h : RdS w vb b) => spCheck_any vb b w h
  rw [ha, errV0] at h1
  rw [hb, errV0] at h2
  have h3 := fun w (h : RdS w va a) => tidy_any va a w h hpa hva (by omega)
  have h4 := fun w (h : RdS w vb b) => tidy_any vb b w h hpb hvb (by omega)
  have h5 := fun w u v (h : RdS w u (sp.norm a)) (h' : RdS w v (sp.norm b)) (hp : Plain u) (hq : Plain v) (hl : (sp.norm a).length ≤ 200) (hm : (sp.norm b).length ≤ 200) => (let _ := hp; let _ := hq; lessF_any u v _ _ w h h' (sp.norm_valid hva) (sp.norm_valid hvb) (sp.good_norm hvb).g hl hm)
  have H1 := Lib.hid h1
  have H2 := Lib.hid h2
  have H3 := Lib.hid h3
  have H4 := Lib.hid h4
  have H5 := Lib.hid h5
  have Hra := Lib.hid hra
  have Hrb := Lib.hid hrb
  clear h1 h2 h3 h4 h5 hra hrb hva hvb ha hb hpa hpb
  go_enter Tryz.func20, Tryz.ntmps20
  go_wp2_with fail
  refine H1.out.mono ?_
  rintro e w1 ⟨rfl, hb1⟩
  have HB1 := Lib.hid hb1
  have Hra1 := Lib.hid (Hra.out.below hb1)
  have Hrb1 := Lib.hid (Hrb.out.below hb1)
  clear hb1
  go_wp2_with fail
  refine (H2.out _ Hrb1.out).mono ?_
  rintro e w2 ⟨rfl, hb2⟩
  have HB2 := Lib.hid (HB1.out.trans (hb2.mono HB1.out.size))
  have Hra2 := Lib.hid (Hra1.out.below hb2)
  have Hrb2 := Lib.hid (Hrb1.out.below hb2)
  clear hb2
  go_wp2_with fail
  refine (H3.out _ Hra2.out).mono ?_
  rintro e w3 ⟨u3, rfl, hr3, hp3, hl3, hb3⟩
  have HB3 := Lib.hid (HB2.out.trans (hb3.mono HB2.out.size))
  have Hrb3 := Lib.hid (Hrb2.out.below hb3)
  have Hr3 := Lib.hid hr3
  have Hp3 := Lib.hid hp3
  clear hb3 hr3 hp3
  go_wp2_with fail
  refine (H4.out _ Hrb3.out).mono ?_
  rintro e w4 ⟨u4, rfl, hr4, hp4, hl4, hb4⟩
  have HB4 := Lib.hid (HB3.out.trans (hb4.mono HB3.out.size))
  have Hr34 := Lib.hid (Hr3.out.below hb4)
  have h6 := H5.out w4 u3 u4 Hr34.out hr4 Hp3.out hp4 (by omega) (by omega)
  have H6 := Lib.hid h6
  clear hb4 hr4 hp4 h6
  go_wp2_with fail
  refine H6.out.mono ?_
  rintro e w5 ⟨u5, rfl, hr5, hp5, hb5⟩
  have HB5 := Lib.hid (HB4.out.trans (hb5.mono HB4.out.size))
  have Hr5 := Lib.hid hr5
  have Hp5 := Lib.hid hp5
  clear hb5 hr5 hp5
  go_wp2
  go_ret2
  exact ⟨_, rfl, Hr5.out, Hp5.out, HB5.out⟩

set_option maxHeartbeats 2000000 in
theorem both_nots (va vb : Value) (a b : List sp.Span) (w : World) (hra : RdS w va a) (hrb : RdS w vb b) (hpa : Plain va) (hpb : Plain vb) (ha : sp.fault a = 0) (hb : sp.fault b = 0) :
    Calls Tryz.prog 20 #[va, vb, .func (.func 35) #[] #[]] w fun e w' => ∃ u, e = .returned (.tuple #[u, .nilIface]) ∧ RdS w' u (sp.nots a) ∧ Plain u ∧ Below w.heap.size w w' := by
  obtain ⟨la, hva⟩ := sp.fault_zero.1 ha
  obtain ⟨lb, hvb⟩ := sp.fault_zero.1 hb
  have h1 := spCheck_any va a w hra
  have h2 := fun w (h : RdS w vb b) => spCheck_any vb b w h
  rw [ha, errV0] at h1
  rw [hb, errV0] at h2
  have h3 := fun w (h : RdS w va a) => tidy_any va a w h hpa hva (by omega)
  have h4 := fun w (h : RdS w vb b) => tidy_any vb b w h hpb hvb (by omega)
  have h5 := fun w u v (h : RdS w u (sp.norm a)) (h' : RdS w v (sp.norm b)) (hp : Plain u) (hq : Plain v) (hl : (sp.norm a).length ≤ 200) (hm : (sp.norm b).length ≤ 200) => (let _ := hp; let _ := hq; let _ := h'; let _ := hm; notF_any u v _ w h (sp.norm_valid hva) hl)
  have H1 := Lib.hid h1
  have H2 := Lib.hid h2
  have H3 := Lib.hid h3
  have H4 := Lib.hid h4
  have H5 := Lib.hid h5
  have Hra := Lib.hid hra
  have Hrb := Lib.hid hrb
  clear h1 h2 h3 h4 h5 hra hrb hva hvb ha hb hpa hpb
  go_enter Tryz.func20, Tryz.ntmps20
  go_wp2_with fail
  refine H1.out.mono ?_
  rintro e w1 ⟨rfl, hb1⟩
  have HB1 := Lib.hid hb1
  have Hra1 := Lib.hid (Hra.out.below hb1)
  have Hrb1 := Lib.hid (Hrb.out.below hb1)
  clear hb1
  go_wp2_with fail
  refine (H2.out _ Hrb1.out).mono ?_
  rintro e w2 ⟨rfl, hb2⟩
  have HB2 := Lib.hid (HB1.out.trans (hb2.mono HB1.out.size))
  have Hra2 := Lib.hid (Hra1.out.below hb2)
  have Hrb2 := Lib.hid (Hrb1.out.below hb2)
  clear hb2
  go_wp2_with fail
  refine (H3.out _ Hra2.out).mono ?_
  rintro e w3 ⟨u3, rfl, hr3, hp3, hl3, hb3⟩
  have HB3 := Lib.hid (HB2.out.trans (hb3.mono HB2.out.size))
  have Hrb3 := Lib.hid (Hrb2.out.below hb3)
  have Hr3 := Lib.hid hr3
  have Hp3 := Lib.hid hp3
  clear hb3 hr3 hp3
  go_wp2_with fail
  refine (H4.out _ Hrb3.out).mono ?_
  rintro e w4 ⟨u4, rfl, hr4, hp4, hl4, hb4⟩
  have HB4 := Lib.hid (HB3.out.trans (hb4.mono HB3.out.size))
  have Hr34 := Lib.hid (Hr3.out.below hb4)
  have h6 := H5.out w4 u3 u4 Hr34.out hr4 Hp3.out hp4 (by omega) (by omega)
  have H6 := Lib.hid h6
  clear hb4 hr4 hp4 h6
  go_wp2_with fail
  refine H6.out.mono ?_
  rintro e w5 ⟨u5, rfl, hr5, hp5, hb5⟩
  have HB5 := Lib.hid (HB4.out.trans (hb5.mono HB4.out.size))
  have Hr5 := Lib.hid hr5
  have Hp5 := Lib.hid hp5
  clear hb5 hr5 hp5
  go_wp2
  go_ret2
  exact ⟨_, rfl, Hr5.out, Hp5.out, HB5.out⟩

theorem rdS_nil0 (w : World) : RdS w (.slice none 0 0) [] := ⟨none, 0, rfl, Nat.zero_le _, fun h => absurd rfl h⟩

theorem spJoin_any (va vb : Value) (a b : List sp.Span) (w : World) (hra : RdS w va a) (hrb : RdS w vb b) (hpa : Plain va) (hpb : Plain vb) (ha : sp.fault a = 0) (hb : sp.fault b = 0) :
    Calls Tryz.prog 5 #[va, vb] w fun e w' => ∃ u, e = .returned (.tuple #[u, .nilIface]) ∧ RdS w' u (sp.join a b) ∧ Plain u ∧ Below w.heap.size w w' := by
  have h1 := both_join va vb a b w hra hrb hpa hpb ha hb
  have H1 := Lib.hid h1
  clear h1
  go_enter Tryz.func5, Tryz.ntmps5
  go_wp2_with fail
  refine H1.out.mono ?_
  rintro e w1 ⟨u, rfl, hr, hp, hb1⟩
  go_wp2
  go_ret2
  exact ⟨_, rfl, hr, hp, hb1⟩

theorem spJoin_bad (va vb : Value) (a b : List sp.Span) (w : World) (hra : RdS w va a) (hrb : RdS w vb b) (hf : fault2 a b ≠ 0) :
    Calls Tryz.prog 5 #[va, vb] w fun e w' => e = .returned (.tuple #[.slice none 0 0, errV (fault2 a b)]) ∧ Below w.heap.size w w' := by
  have h1 := fun F => both_bad va vb F a b w hra hrb hf
  have H1 := Lib.hid h1
  clear h1 hf
  generalize errV (fault2 a b) = E at *
  go_enter Tryz.func5, Tryz.ntmps5
  go_wp2_with fail
  refine (H1.out _).mono ?_
  rintro e w1 ⟨rfl, hb1⟩
  go_wp2
  go_ret2
  exact ⟨rfl, hb1⟩

theorem spMeet_any (va vb : Value) (a b : List sp.Span) (w : World) (hra : RdS w va a) (hrb : RdS w vb b) (hpa : Plain va) (hpb : Plain vb) (ha : sp.fault a = 0) (hb : sp.fault b = 0) :
    Calls Tryz.prog 8 #[va, vb] w fun e w' => ∃ u, e = .returned (.tuple #[u, .nilIface]) ∧ RdS w' u (sp.meet a b) ∧ Plain u ∧ Below w.heap.size w w' := by
  have h1 := both_meet va vb a b w hra hrb hpa hpb ha hb
  have H1 := Lib.hid h1
  clear h1
  go_enter Tryz.func8, Tryz.ntmps8
  go_wp2_with fail
  refine H1.out.mono ?_
  rintro e w1 ⟨u, rfl, hr, hp, hb1⟩
  go_wp2
  go_ret2
  exact ⟨_, rfl, hr, hp, hb1⟩

theorem spMeet_bad (va vb : Value) (a b : List sp.Span) (w : World) (hra : RdS w va a) (hrb : RdS w vb b) (hf : fault2 a b ≠ 0) :
    Calls Tryz.prog 8 #[va, vb] w fun e w' => e = .returned (.tuple #[.slice none 0 0, errV (fault2 a b)]) ∧ Below w.heap.size w w' := by
  have h1 := fun F => both_bad va vb F a b w hra hrb hf
  have H1 := Lib.hid h1
  clear h1 hf
  generalize errV (fault2 a b) = E at *
  go_enter Tryz.func8, Tryz.ntmps8
  go_wp2_with fail
  refine (H1.out _).mono ?_
  rintro e w1 ⟨rfl, hb1⟩
  go_wp2
  go_ret2
  exact ⟨rfl, hb1⟩

theorem spLess_any (va vb : Value) (a b : List sp.Span) (w : World) (hra : RdS w va a) (hrb : RdS w vb b) (hpa : Plain va) (hpb : Plain vb) (ha : sp.fault a = 0) (hb : sp.fault b = 0) :
    Calls Tryz.prog 9 #[va, vb] w fun e w' => ∃ u, e = .returned (.tuple #[u, .nilIface]) ∧ RdS w' u (sp.less a b) ∧ Plain u ∧ Below w.heap.size w w' := by
  have h1 := both_less va vb a b w hra hrb hpa hpb ha hb
  have H1 := Lib.hid h1
  clear h1
  go_enter Tryz.func9, Tryz.ntmps9
  go_wp2_with fail
  refine H1.out.mono ?_
  rintro e w1 ⟨u, rfl, hr, hp, hb1⟩
  go_wp2
  go_ret2
  exact ⟨_, rfl, hr, hp, hb1⟩

theorem spLess_bad (va vb : Value) (a b : List sp.Span) (w : World) (hra : RdS w va a) (hrb : RdS w vb b) (hf : fault2 a b ≠ 0) :
    Calls Tryz.prog 9 #[va, vb] w fun e w' => e = .returned (.tuple #[.slice none 0 0, errV (fault2 a b)]) ∧ Below w.heap.size w w' := by
  have h1 := fun F => both_bad va vb F a b w hra hrb hf
  have H1 := Lib.hid h1
  clear h1 hf
  generalize errV (fault2 a b) = E at *
  go_enter Tryz.func9, Tryz.ntmps9
  go_wp2_with fail
  refine (H1.out _).mono ?_
  rintro e w1 ⟨rfl, hb1⟩
  go_wp2
  go_ret2
  exact ⟨rfl, hb1⟩

theorem spNot_any (va : Value) (a : List sp.Span) (w : World) (hra : RdS w va a) (hpa : Plain va) (ha : sp.fault a = 0) :
    Calls Tryz.prog 12 #[va] w fun e w' => ∃ u, e = .returned (.tuple #[u, .nilIface]) ∧ RdS w' u (sp.nots a) ∧ Plain u ∧ Below w.heap.size w w' := by
  have h1 := both_nots va (.slice none 0 0) a [] w hra (rdS_nil0 w) hpa plain_nil ha rfl
  have H1 := Lib.hid h1
  clear h1
  go_enter Tryz.func12, Tryz.ntmps12
  go_wp2_with fail
  refine H1.out.mono ?_
  rintro e w1 ⟨u, rfl, hr, hp, hb1⟩
  go_wp2
  go_ret2
  exact ⟨_, rfl, hr, hp, hb1⟩

end Go.Proofs.YtdjpkkppcdmdnaaGreatDoor
