/- portref1.pow, Digits, Whole, Addr and addr.Ok, size: what these compute. -/
import Derived.Test.YtjefehphfaamcaaGreatDoorBase
namespace Go.Proofs.YtjefehphfaamcaaGreatDoor
open Go.RowKit

/-! ### Addr, Ok -/
def addrB (a : Int) : Bool := decide (0 ≤ a ∧ a ≤ 4294967295)
theorem addrB_t {a : Int} (h : 0 ≤ a) (h' : a ≤ 4294967295) : addrB a = true := decide_eq_true ⟨h, h'⟩
theorem addrB_iff {a : Int} : addrB a = true ↔ 0 ≤ a ∧ a ≤ 4294967295 := by simp [addrB]

theorem addr_any (a : Int) (w : World) : Calls Tryz.prog 4 #[.int .i64 a] w fun e w' => e = .returned (.bool (addrB a)) ∧ w = w' := by
  by_cases h0 : 0 ≤ a <;> by_cases h1 : a ≤ 4294967295
  all_goals
    have hb : addrB a = decide (0 ≤ a ∧ a ≤ 4294967295) := rfl
    have Hb := Lib.hid hb
    clear hb
    go_enter Tryz.func4, Tryz.ntmps4
    go_wp2
    go_ret
    exact ⟨by rw [Hb.out]; simp [h0, h1], rfl⟩
theorem ok_any (a : Int) (w : World) : Calls Tryz.prog 18 #[.int .i64 a] w fun e w' => e = .returned (.bool (addrB a)) ∧ w = w' := by
  by_cases h0 : 0 ≤ a <;> by_cases h1 : a ≤ 4294967295
  all_goals
    have hb : addrB a = decide (0 ≤ a ∧ a ≤ 4294967295) := rfl
    have Hb := Lib.hid hb
    clear hb
    go_enter Tryz.func18, Tryz.ntmps18
    go_wp2
    go_ret
    exact ⟨by rw [Hb.out]; simp [h0, h1], rfl⟩

/-! ### pow, size -/
def p2 (n : Nat) : Int := ((2 ^ n : Nat) : Int)
theorem p2_succ (n : Nat) : p2 (n + 1) = p2 n * 2 := by unfold p2; rw [Nat.pow_succ]; omega
theorem p2_pos (n : Nat) : 1 ≤ p2 n := by unfold p2; have := Nat.pow_pos (a := 2) (n := n) (by omega); omega
theorem p2_le {n m : Nat} (h : n ≤ m) : p2 n ≤ p2 m := by unfold p2; have := Nat.pow_le_pow_right (n := 2) (by omega) h; omega
theorem p2_62 {n : Nat} (h : n ≤ 61) : p2 n * 2 ≤ 4611686018427387904 := by
  have := p2_le (n := n) (m := 61) h
  have e : p2 61 = 2305843009213693952 := by decide
  omega

set_option maxHeartbeats 400000 in
theorem pow_any (n : Int) (h0 : 0 ≤ n) (h1 : n ≤ 61) (w : World) : Calls Tryz.prog 17 #[.int .i64 n] w fun e w' => e = .returned (.int .i64 (p2 n.toNat)) ∧ w = w' := by
  obtain ⟨m, rfl⟩ := Int.eq_ofNat_of_zero_le h0
  go_enter Tryz.func17, Tryz.ntmps17
  go_wp2
  go_loop [3, 4] (fun x i => ∃ k : Nat, k ≤ m ∧ i = .int .i64 k ∧ x = .int .i64 (p2 k)) (fun _ i => m - (intOf i).toNat)
  case atStart => exact ⟨0, Nat.zero_le _, rfl, rfl⟩
  case round =>
    obtain ⟨k, hk, rfl, rfl⟩ := hrel
    by_cases hlt : k < m
    · have hp := p2_62 (n := k) (by omega)
      have hq := p2_pos k
      have H := Lib.hid (p2_succ k)
      go_wp2
      go_round
      case rel => exact ⟨k + 1, by omega, by go_num, by rw [H.out]⟩
      case measure => simp [intOf]; omega
    · go_wp2
      go_ret
      obtain rfl : k = m := by omega
      exact ⟨rfl, rfl⟩

/-! ### Digits -/
theorem slTen0 : ∀ (m : Nat) (_ : m < 10) (w : World), (Instr.sliceAt 9 (.string ⟨#[48, 49, 50, 51, 52, 53, 54, 55, 56, 57]⟩) (some (.int .i64 m)) (some (.int .i64 (m + 1))) none).run Tryz.prog w = .ok (strV [UInt8.ofNat (48 + m)]) w
  | 0, _, w => by kernel_rfl
  | 1, _, w => by kernel_rfl
  | 2, _, w => by kernel_rfl
  | 3, _, w => by kernel_rfl
  | 4, _, w => by kernel_rfl
  | 5, _, w => by kernel_rfl
  | 6, _, w => by kernel_rfl
  | 7, _, w => by kernel_rfl
  | 8, _, w => by kernel_rfl
  | 9, _, w => by kernel_rfl
  | n + 10, h, _ => absurd h (by omega)

theorem slTen (m : Nat) (h : m < 10) (w : World) : (Instr.sliceAt 9 (.string ⟨#[48, 49, 50, 51, 52, 53, 54, 55, 56, 57]⟩) (some (.int .i64 m)) (some (.int .i64 (m + 1))) none).run Tryz.prog w = .ok (strV (Lib.decDigits m)) w := by
  rw [Lib.decDigits_one h]; exact slTen0 m h w
theorem dec_len (n : Nat) (h : n ≤ 9223372036854775807) : (Lib.decDigits n).length ≤ 20 := by
  rw [Lib.decDigits_length]; exact Lib.nDigits_le20 n (by omega)

set_option maxHeartbeats 400000 in
set_option maxRecDepth 100000 in
theorem digits_any : ∀ (f : Nat) (n : Int) (_ : n.toNat ≤ f) (_ : 0 ≤ n) (_ : n ≤ 9223372036854775807) (w : World),
    Calls Tryz.prog 16 #[.int .i64 n] w fun e w' => e = .returned (strV (Lib.decDigits n.toNat)) ∧ w = w' := by
  intro f
  induction f with
  | zero =>
    intro n hf h0 h1 w
    obtain rfl : n = 0 := by omega
    go_enter Tryz.func16, Tryz.ntmps16
    go_wp2
    go_ret
    exact ⟨by rw [Lib.decDigits_one (by decide)]; rfl, rfl⟩
  | succ f ih =>
    intro n hf h0 h1 w
    have IH := Lib.hid ih
    clear ih
    by_cases h10 : n < 10
    · obtain ⟨m, rfl⟩ := Int.eq_ofNat_of_zero_le h0
      have hsl := slTen m (by omega)
      go_enter Tryz.func16, Tryz.ntmps16
      go_wp2
      go_ret
      exact ⟨rfl, rfl⟩
    · obtain ⟨k, hk⟩ : ∃ k : Nat, n % 10 = k := ⟨(n % 10).toNat, by omega⟩
      have hsl := slTen k (by omega)
      have hl := dec_len (n / 10).toNat (by omega)
      have hadd := fun w => strAdd (P := Tryz.prog) 9 (Lib.decDigits (n / 10).toNat) (Lib.decDigits k) (by have := dec_len k (by omega); omega) w
      have hd : Lib.decDigits n.toNat = Lib.decDigits (n / 10).toNat ++ Lib.decDigits k := by
        rw [tx.decDigits_rec n.toNat (by omega), show n.toNat / 10 = (n / 10).toNat by omega, Lib.decDigits_one (i := k) (by omega), show n.toNat % 10 = k by omega]
      have Hd := Lib.hid hd
      clear hd
      go_enter Tryz.func16, Tryz.ntmps16
      go_wp2_with (go_at_call 16; refine (IH.out (n / 10) (by omega) (by omega) (by omega) _).mono ?_; rintro e w' ⟨rfl, rfl⟩)
      go_ret
      exact ⟨by rw [Hd.out]; rfl, rfl⟩

end Go.Proofs.YtjefehphfaamcaaGreatDoor
