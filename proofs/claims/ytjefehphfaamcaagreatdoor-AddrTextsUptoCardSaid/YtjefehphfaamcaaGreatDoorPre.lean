/- portref1.Prefix, ShowPrefix; addr.Check: the fault of a prefix, and its text. -/
import Derived.Test.YtjefehphfaamcaaGreatDoorReadA
import Derived.Deep.QuietTactic
import Derived.BigQuiet
namespace Go.Proofs.YtjefehphfaamcaaGreatDoor
open Go.RowKit

theorem below_drewN {B : Nat} {a w : World} (h : Below B a w) (n : Nat) : Below B a (w.drewN n) := ⟨h.os, h.tape, h.output, h.size, h.block⟩

/-- the error of a number -/
def errV (e : Int) : Value := if e = 0 then .nilIface else .iface 44 (.int .i64 e)
theorem errV0 : errV 0 = .nilIface := rfl

theorem pfault_addr {a n : Int} (h : addrB a = false) : tx.pfault a n = 1 := by
  have : ¬ (0 ≤ a ∧ a ≤ 4294967295) := fun h' => by rw [addrB_iff.2 h'] at h; cases h
  unfold tx.pfault
  rw [if_pos (by omega)]
theorem pfault_low {a n : Int} (h : n < 0) : tx.pfault a n = 1 := by unfold tx.pfault; rw [if_pos (by omega)]
theorem pfault_high {a n : Int} (h : 32 < n) : tx.pfault a n = 1 := by unfold tx.pfault; rw [if_pos (by omega)]
theorem pfault_in {a n : Int} (h : addrB a = true) (h0 : 0 ≤ n) (h1 : n ≤ 32) : tx.pfault a n = if (a % p2 (32 - n).toNat != 0) = true then 3 else 0 := by
  have := addrB_iff.1 h
  unfold tx.pfault
  rw [if_neg (by omega)]
  have e : (2 : Int) ^ (32 - n).toNat = p2 (32 - n).toNat := by unfold p2; simp
  rw [e]
  simp [bne_iff_ne]

set_option maxHeartbeats 1000000 in
theorem prefix_any (a n : Int) (w : World) :
    Calls Tryz.prog 10 #[.agg #[.int .i64 a, .int .i64 n]] w fun e w' => e = .returned (.int .i64 (tx.pfault a n)) ∧ Below w.heap.size w w' := by
  cases ha : addrB a with
  | false =>
    have Hf := Lib.hid (pfault_addr (n := n) ha)
    have hA := fun w => addr_any a w
    rw [ha] at hA
    clear ha
    go_enter Tryz.func10, Tryz.ntmps10
    go_wp2_with (go_at_call 4; refine (hA _).mono ?_; rintro e w' ⟨rfl, rfl⟩)
    go_ret
    exact ⟨by rw [Hf.out]; rfl, (Below.refl _ _).alloc (Nat.le_refl _) _⟩
  | true =>
    have hA := fun w => addr_any a w
    rw [ha] at hA
    have Ha := Lib.hid ha
    clear ha
    by_cases h0 : n < 0
    · have Hf := Lib.hid (pfault_low (a := a) h0)
      go_enter Tryz.func10, Tryz.ntmps10
      go_wp2_with (go_at_call 4; refine (hA _).mono ?_; rintro e w' ⟨rfl, rfl⟩)
      go_ret
      exact ⟨by rw [Hf.out]; rfl, (Below.refl _ _).alloc (Nat.le_refl _) _⟩
    · by_cases h1 : 32 < n
      · have Hf := Lib.hid (pfault_high (a := a) h1)
        go_enter Tryz.func10, Tryz.ntmps10
        go_wp2_with (go_at_call 4; refine (hA _).mono ?_; rintro e w' ⟨rfl, rfl⟩)
        go_ret
        exact ⟨by rw [Hf.out]; rfl, (Below.refl _ _).alloc (Nat.le_refl _) _⟩
      · have hf := pfault_in Ha.out (show 0 ≤ n by omega) (show n ≤ 32 by omega)
        have hr := addrB_iff.1 Ha.out
        have hP := fun w => pow_any (32 - n) (by omega) (by omega) w
        have hq1 := p2_pos (32 - n).toNat
        have hq2 := p2_62 (n := (32 - n).toNat) (by omega)
        generalize hq : p2 (32 - n).toNat = q at *
        have htm : a.tmod q = a % q := Int.tmod_eq_emod_of_nonneg hr.1
        have hwr : IntKind.i64.wrap (32 - n) = 32 - n := IntWalk.i64_in _ (by omega)
        have hq0 : (q == 0) = false := beq_eq_false_iff_ne.2 (by omega)
        obtain ⟨hr1, hr2⟩ := hr
        clear hq
        cases hb : (a % q != 0) with
        | true =>
          rw [hb] at hf
          have Hf := Lib.hid hf
          clear hf
          go_enter Tryz.func10, Tryz.ntmps10
          go_wp2_with (go_at_call 4; refine (hA _).mono ?_; rintro e w' ⟨rfl, rfl⟩)
          go_quiet ((go_at_call 17; exact Calls.quiet_of_same ((hP _).mono (fun _ _ h => ⟨h.1, h.2.symm⟩))))
          go_wp2
          go_ret
          exact ⟨by rw [Hf.out]; rfl, below_drewN ((Below.refl _ _).alloc (Nat.le_refl _) _) _⟩
        | false =>
          rw [hb] at hf
          have Hf := Lib.hid hf
          clear hf
          go_enter Tryz.func10, Tryz.ntmps10
          go_wp2_with (go_at_call 4; refine (hA _).mono ?_; rintro e w' ⟨rfl, rfl⟩)
          go_quiet ((go_at_call 17; exact Calls.quiet_of_same ((hP _).mono (fun _ _ h => ⟨h.1, h.2.symm⟩))))
          go_wp2
          go_ret
          exact ⟨by rw [Hf.out]; rfl, below_drewN ((Below.refl _ _).alloc (Nat.le_refl _) _) _⟩

theorem errV1 : errV 1 = .iface 44 (.int .i64 1) := rfl
theorem errV3 : errV 3 = .iface 44 (.int .i64 3) := rfl

set_option maxHeartbeats 1000000 in
theorem check_any (a n : Int) (w : World) :
    Calls Tryz.prog 12 #[.agg #[.int .i64 a, .int .i64 n]] w fun e w' => e = .returned (errV (tx.pfault a n)) ∧ Below w.heap.size w w' := by
  cases ha : addrB a with
  | false =>
    have Hf := Lib.hid (pfault_addr (n := n) ha)
    have hA := fun w => ok_any a w
    rw [ha] at hA
    clear ha
    go_enter Tryz.func12, Tryz.ntmps12
    go_wp2_with (go_at_call 18; refine (hA _).mono ?_; rintro e w' ⟨rfl, rfl⟩)
    go_ret
    exact ⟨by rw [Hf.out]; rfl, (Below.refl _ _).alloc (Nat.le_refl _) _⟩
  | true =>
    have hA := fun w => ok_any a w
    rw [ha] at hA
    have Ha := Lib.hid ha
    clear ha
    by_cases h0 : n < 0
    · have Hf := Lib.hid (pfault_low (a := a) h0)
      go_enter Tryz.func12, Tryz.ntmps12
      go_wp2_with (go_at_call 18; refine (hA _).mono ?_; rintro e w' ⟨rfl, rfl⟩)
      go_ret
      exact ⟨by rw [Hf.out]; rfl, (Below.refl _ _).alloc (Nat.le_refl _) _⟩
    · by_cases h1 : 32 < n
      · have Hf := Lib.hid (pfault_high (a := a) h1)
        go_enter Tryz.func12, Tryz.ntmps12
        go_wp2_with (go_at_call 18; refine (hA _).mono ?_; rintro e w' ⟨rfl, rfl⟩)
        go_ret
        exact ⟨by rw [Hf.out]; rfl, (Below.refl _ _).alloc (Nat.le_refl _) _⟩
      · have hf := pfault_in Ha.out (show 0 ≤ n by omega) (show n ≤ 32 by omega)
        have hr := addrB_iff.1 Ha.out
        have hP := fun w => size_any n (by omega) (by omega) w
        have hq1 := p2_pos (32 - n).toNat
        have hq2 := p2_62 (n := (32 - n).toNat) (by omega)
        generalize hq : p2 (32 - n).toNat = q at *
        have htm : a.tmod q = a % q := Int.tmod_eq_emod_of_nonneg hr.1
        have hwr : IntKind.i64.wrap (32 - n) = 32 - n := IntWalk.i64_in _ (by omega)
        have hq0 : (q == 0) = false := beq_eq_false_iff_ne.2 (by omega)
        obtain ⟨hr1, hr2⟩ := hr
        clear hq
        cases hb : (a % q != 0) with
        | true =>
          rw [hb] at hf
          have Hf := Lib.hid hf
          clear hf
          go_enter Tryz.func12, Tryz.ntmps12
          go_wp2_with (go_at_call 18; refine (hA _).mono ?_; rintro e w' ⟨rfl, rfl⟩)
          go_quiet ((go_at_call 26; exact Calls.quiet_of_same ((hP _).mono (fun _ _ h => ⟨h.1, h.2.symm⟩))))
          go_wp2
          go_ret
          exact ⟨by rw [Hf.out]; rfl, below_drewN ((Below.refl _ _).alloc (Nat.le_refl _) _) _⟩
        | false =>
          rw [hb] at hf
          have Hf := Lib.hid hf
          clear hf
          go_enter Tryz.func12, Tryz.ntmps12
          go_wp2_with (go_at_call 18; refine (hA _).mono ?_; rintro e w' ⟨rfl, rfl⟩)
          go_quiet ((go_at_call 26; exact Calls.quiet_of_same ((hP _).mono (fun _ _ h => ⟨h.1, h.2.symm⟩))))
          go_wp2
          go_ret
          exact ⟨by rw [Hf.out]; rfl, below_drewN ((Below.refl _ _).alloc (Nat.le_refl _) _) _⟩

end Go.Proofs.YtjefehphfaamcaaGreatDoor
