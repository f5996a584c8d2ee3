/- span.Norm, Has, Many. -/
import Derived.Test.YtdjpkkppcdmdnaaGreatDoorSpBoth
namespace Go.Proofs.YtdjpkkppcdmdnaaGreatDoor
open Go.RowKit

set_option maxHeartbeats 1000000 in
theorem has1_any (g : Nat) (p q n : Int) (w : World) (hc : w.cell? ⟨g, 0, none⟩ = some (.int .i64 n)) :
    Calls Tryz.prog 34 #[.agg #[.int .i64 p, .int .i64 q], .pointer (some ⟨g, 0, none⟩)] w fun e w' => e = .returned (.bool (decide (p ≤ n ∧ n ≤ q))) ∧ Below w.heap.size w w' := by
  have hc2 := keptA (.cells #[.int .i64 p, .int .i64 q] 27) hc
  by_cases h0 : p ≤ n <;> by_cases h1 : n ≤ q
  all_goals
    go_enter Tryz.func34, Tryz.ntmps34
    go_wp2
    go_ret
    exact ⟨by simp [h0, h1], belowA _ _⟩

def hasV (g : Nat) : Value := .func (.func 34) #[] #[.pointer (some ⟨g, 0, none⟩)]
def IdxRes (b : Bool) (e : Ending) : Prop := if b = true then ∃ r : Nat, e = .returned (.int .i64 r) else e = .returned (.int .i64 (-1))
theorem inS_take {l : List sp.Span} {k : Nat} (n : Int) (h : k < l.length) : sp.inS (l.take (k + 1)) n = (sp.inS (l.take k) n || decide (l[k].1 ≤ n ∧ n ≤ l[k].2)) := by
  unfold sp.inS
  rw [List.take_succ_eq_append_getElem h, List.any_append]; simp
theorem inS_at {l : List sp.Span} {k : Nat} (n : Int) (h : k < l.length) (hd : decide (l[k].1 ≤ n ∧ n ≤ l[k].2) = true) : sp.inS l n = true :=
  sp.inS_iff.2 ⟨l[k], List.getElem_mem h, of_decide_eq_true hd⟩

set_option maxHeartbeats 2000000 in
theorem indexF_any (g : Nat) (n : Int) (v : Value) (l : List sp.Span) (w : World) (hr : RdS w v l) (hc : w.cell? ⟨g, 0, none⟩ = some (.int .i64 n)) :
    Calls Tryz.prog 55 #[v, hasV g] w fun e w' => IdxRes (sp.inS l n) e ∧ Below w.heap.size w w' := by
  obtain ⟨a, cap, rfl, hl, hcs⟩ := hr
  have Hcs := Lib.hid hcs
  clear hcs
  unfold hasV
  go_enter Tryz.func55, Tryz.ntmps55
  go_wp2
  go_loopw [8] (fun i wr => ∃ k : Nat, k ≤ l.length ∧ i = .int .i64 k ∧ sp.inS (l.take k) n = false ∧ Below w.heap.size w wr) (fun i _ => l.length - (intOf i).toNat)
  case atStart => exact ⟨0, Nat.zero_le _, rfl, rfl, Below.refl _ _⟩
  case round =>
    obtain ⟨k, hk, rfl, hin, hb⟩ := hrel
    by_cases hlt : k < l.length
    · obtain ⟨g2, off, rfl, hcell⟩ := Hcs.out (fun e => by rw [e] at hlt; simp at hlt)
      obtain ⟨c0, c1⟩ := hcell k hlt
      have c0 := kept hb c0
      have c1 := kept hb c1
      have hcn := kept hb hc
      have Hnx := Lib.hid (inS_take n hlt)
      have Hat := Lib.hid (inS_at n hlt)
      have Hin := Lib.hid hin
      have HB := Lib.hid hb
      clear hcell hin hb
      generalize l[k] = s at *
      obtain ⟨p, q⟩ := s
      dsimp only at c0 c1
      have hcon := has1_any g p q n wr hcn
      have Hcon := Lib.hid hcon
      clear hcon
      cases hd : decide (p ≤ n ∧ n ≤ q)
      · rw [hd] at Hcon
        have Hd := Lib.hid hd
        clear hd
        go_wp2_with fail
        refine Hcon.out.mono ?_
        rintro e w1 ⟨rfl, hb1⟩
        have HB1 := Lib.hid (HB.out.trans (hb1.mono HB.out.size))
        clear hb1
        go_wp2
        go_roundw
        case rel => exact ⟨k + 1, by omega, by go_num, by rw [Hnx.out, Hin.out]; exact Hd.out, HB1.out⟩
        case measure => simp [intOf]; omega
      · rw [hd] at Hcon
        have Hd := Lib.hid hd
        clear hd
        go_wp2_with fail
        refine Hcon.out.mono ?_
        rintro e w1 ⟨rfl, hb1⟩
        have HB1 := Lib.hid (HB.out.trans (hb1.mono HB.out.size))
        clear hb1
        go_wp2
        go_ret
        exact ⟨by unfold IdxRes; rw [if_pos (Hat.out Hd.out)]; exact ⟨k, rfl⟩, HB1.out⟩
    · obtain rfl : k = l.length := by omega
      rw [List.take_length] at hin
      have Hin := Lib.hid hin
      clear hin
      go_wp2
      go_ret
      exact ⟨by unfold IdxRes; rw [Hin.out]; rfl, hb⟩

theorem containsF_any (g : Nat) (n : Int) (v : Value) (l : List sp.Span) (w : World) (hr : RdS w v l) (hc : w.cell? ⟨g, 0, none⟩ = some (.int .i64 n)) :
    Calls Tryz.prog 33 #[v, hasV g] w fun e w' => e = .returned (.bool (sp.inS l n)) ∧ Below w.heap.size w w' := by
  have h1 := indexF_any g n v l w hr hc
  have H1 := Lib.hid h1
  clear h1 hr hc
  generalize sp.inS l n = b at *
  unfold hasV at *
  go_enter Tryz.func33, Tryz.ntmps33
  go_wp2_with fail
  refine H1.out.mono ?_
  rintro e w1 ⟨hres, hb1⟩
  have HB1 := Lib.hid hb1
  clear hb1
  cases b
  · obtain rfl : e = .returned (.int .i64 (-1)) := hres
    go_wp2
    go_ret
    exact ⟨rfl, HB1.out⟩
  · obtain ⟨r, rfl⟩ : ∃ r : Nat, e = .returned (.int .i64 r) := hres
    go_wp2
    go_ret
    exact ⟨rfl, HB1.out⟩

theorem has_any (v : Value) (l : List sp.Span) (n : Int) (w : World) (hr : RdS w v l) :
    Calls Tryz.prog 10 #[v, .int .i64 n] w fun e w' => e = .returned (.bool (sp.has l n)) ∧ Below w.heap.size w w' := by
  have hA := fun o => belowA w o
  by_cases hf : sp.fault l = 0
  · have h1 := fun o => spCheck_any v l (w.alloc o) (hr.below (hA o))
    rw [hf, errV0] at h1
    have h2 := fun w1 (h : RdS w1 v l) (hc : w1.cell? ⟨w.heap.size, 0, none⟩ = some (.int .i64 n)) => containsF_any w.heap.size n v l w1 h hc
    have hx : sp.has l n = sp.inS l n := sp.has_ok hf n
    have HA := Lib.hid hA
    have Hr := Lib.hid hr
    have H1 := Lib.hid h1
    have H2 := Lib.hid h2
    rw [hx]
    generalize sp.inS l n = b at *
    clear hA h1 h2 hx hf hr
    unfold hasV at *
    go_enter Tryz.func10, Tryz.ntmps10
    go_wp2_with fail
    refine (H1.out _).mono ?_
    rintro e w1 ⟨rfl, hb1⟩
    have hc1 := kept hb1 (newCell w #[.int .i64 n] 3 0 _ rfl)
    have HC1 := Lib.hid hc1
    have HB1 := Lib.hid ((HA.out _).trans (hb1.mono (HA.out _).size))
    have Hr1 := Lib.hid (Hr.out.below HB1.out)
    clear hc1 hb1
    go_wp2_with fail
    refine (H2.out _ Hr1.out HC1.out).mono ?_
    rintro e w2 ⟨rfl, hb2⟩
    have HB2 := Lib.hid (HB1.out.trans (hb2.mono HB1.out.size))
    clear hb2
    go_wp2
    go_ret
    exact ⟨rfl, HB2.out⟩
  · have h1 := fun o => spCheck_any v l (w.alloc o) (hr.below (hA o))
    rw [errV_fault hf] at h1
    have hx : sp.has l n = false := by unfold sp.has; simp [hf]
    have HA := Lib.hid hA
    have H1 := Lib.hid h1
    rw [hx]
    generalize sp.fault l = k at *
    clear hA h1 hx hf hr
    go_enter Tryz.func10, Tryz.ntmps10
    go_wp2_with fail
    refine (H1.out _).mono ?_
    rintro e w1 ⟨rfl, hb1⟩
    have HB1 := Lib.hid ((HA.out _).trans (hb1.mono (HA.out _).size))
    clear hb1
    go_wp2
    go_ret
    exact ⟨rfl, HB1.out⟩

theorem normG_any (v : Value) (l : List sp.Span) (w : World) (hr : RdS w v l) (hpl : Plain v) (hf : sp.fault l = 0) :
    Calls Tryz.prog 13 #[v] w fun e w' => ∃ u, e = .returned (.tuple #[u, .nilIface]) ∧ RdS w' u (sp.norm l) ∧ Plain u ∧ Below w.heap.size w w' := by
  obtain ⟨la, hva⟩ := sp.fault_zero.1 hf
  have h1 := spCheck_any v l w hr
  rw [hf, errV0] at h1
  have h3 := fun w (h : RdS w v l) => tidy_any v l w h hpl hva (by omega)
  have H1 := Lib.hid h1
  have H3 := Lib.hid h3
  have Hr := Lib.hid hr
  clear h1 h3 hr hva hf hpl
  go_enter Tryz.func13, Tryz.ntmps13
  go_wp2_with fail
  refine H1.out.mono ?_
  rintro e w1 ⟨rfl, hb1⟩
  have HB1 := Lib.hid hb1
  have Hr1 := Lib.hid (Hr.out.below hb1)
  clear hb1
  go_wp2_with fail
  refine (H3.out _ Hr1.out).mono ?_
  rintro e w2 ⟨u, rfl, hr2, hp2, _, hb2⟩
  have HB2 := Lib.hid (HB1.out.trans (hb2.mono HB1.out.size))
  have Hr2 := Lib.hid hr2
  have Hp2 := Lib.hid hp2
  clear hb2 hr2 hp2
  go_wp2
  go_ret2
  exact ⟨_, rfl, Hr2.out, Hp2.out, HB2.out⟩

theorem many_take {l : List sp.Span} {k : Nat} (h : k < l.length) : sp.many1 (l.take (k + 1)) = sp.many1 (l.take k) + (l[k].2 - l[k].1 + 1) := by
  unfold sp.many1
  rw [List.take_succ_eq_append_getElem h, List.foldl_append]; rfl
theorem many_bound {l : List sp.Span} (hv : sp.valid l = true) : ∀ k, k ≤ l.length → 0 ≤ sp.many1 (l.take k) ∧ sp.many1 (l.take k) ≤ 65536 * k
  | 0, _ => by simp [sp.many1]
  | k + 1, h => by
    obtain ⟨a, b⟩ := many_bound hv k (by omega)
    obtain ⟨o0, o1, o2⟩ := sp.okS_iff'.1 (List.all_eq_true.1 hv _ (List.getElem_mem (show k < l.length by omega)))
    rw [many_take (by omega)]
    omega

set_option maxHeartbeats 2000000 in
theorem many_any (v : Value) (l : List sp.Span) (w : World) (hr : RdS w v l) (hpl : Plain v) :
    Calls Tryz.prog 11 #[v] w fun e w' => e = .returned (.int .i64 (sp.many l)) ∧ Below w.heap.size w w' := by
  by_cases hf : sp.fault l = 0
  · obtain ⟨la, hva⟩ := sp.fault_zero.1 hf
    have h1 := spCheck_any v l w hr
    rw [hf, errV0] at h1
    have h3 := fun w (h : RdS w v l) => tidy_any v l w h hpl hva (by omega)
    have hx : sp.many l = sp.many1 (sp.norm l) := if_pos hf
    have hvn := sp.norm_valid hva
    rw [hx]
    generalize sp.norm l = N at *
    have H1 := Lib.hid h1
    have H3 := Lib.hid h3
    have Hr := Lib.hid hr
    have Hvn := Lib.hid hvn
    clear h1 h3 hr hva hf hpl hvn hx
    go_enter Tryz.func11, Tryz.ntmps11
    go_wp2_with fail
    refine H1.out.mono ?_
    rintro e w1 ⟨rfl, hb1⟩
    have HB1 := Lib.hid hb1
    have Hr1 := Lib.hid (Hr.out.below hb1)
    clear hb1
    go_wp2_with fail
    refine (H3.out _ Hr1.out).mono ?_
    rintro e w2 ⟨u, rfl, hr2, hp2, hln, hb2⟩
    have HB2 := Lib.hid (HB1.out.trans (hb2.mono HB1.out.size))
    obtain ⟨a, cap, rfl, hl, hcs⟩ := hr2
    have Hcs := Lib.hid hcs
    clear hb2 hcs hp2
    go_wp2
    go_loopw [3, 12] (fun s i wr => ∃ k : Nat, k ≤ N.length ∧ i = .int .i64 k ∧ s = .int .i64 (sp.many1 (N.take k)) ∧ Below w2.heap.size w2 wr) (fun _ i _ => N.length - (intOf i).toNat)
    case atStart => exact ⟨0, Nat.zero_le _, rfl, rfl, Below.refl _ _⟩
    case round =>
      obtain ⟨k, hk, rfl, rfl, hb⟩ := hrel
      obtain ⟨mb0, mb1⟩ := many_bound Hvn.out k hk
      by_cases hlt : k < N.length
      · obtain ⟨g2, off, rfl, hcell⟩ := Hcs.out (fun e => by rw [e] at hlt; simp at hlt)
        obtain ⟨c0, c1⟩ := hcell k hlt
        have c0 := kept hb c0
        have c1 := kept hb c1
        obtain ⟨o0, o1, o2⟩ := sp.okS_iff'.1 (List.all_eq_true.1 Hvn.out _ (List.getElem_mem hlt))
        have Hnx := Lib.hid (many_take hlt)
        generalize N[k] = s at *
        obtain ⟨p, q⟩ := s
        dsimp only at c0 c1 o0 o1 o2
        generalize sp.many1 (N.take k) = M at *
        clear hcell
        go_wp2
        go_roundw
        case rel => exact ⟨k + 1, by omega, by go_num, by rw [Hnx.out], hb.alloc hb.size _⟩
        case measure => simp [intOf]; omega
      · obtain rfl : k = N.length := by omega
        rw [List.take_length] at *
        have HB := Lib.hid (HB2.out.trans (hb.mono HB2.out.size))
        clear hb
        go_wp2
        go_ret
        exact ⟨rfl, HB.out⟩
  · have h1 := spCheck_any v l w hr
    rw [errV_fault hf] at h1
    have hx : sp.many l = 0 := if_neg hf
    rw [hx]
    have H1 := Lib.hid h1
    generalize sp.fault l = k at *
    clear h1 hr hf hpl hx
    go_enter Tryz.func11, Tryz.ntmps11
    go_wp2_with fail
    refine H1.out.mono ?_
    rintro e w1 ⟨rfl, hb1⟩
    go_wp2
    go_ret
    exact ⟨rfl, hb1⟩

end Go.Proofs.YtdjpkkppcdmdnaaGreatDoor
