/- portref1.Digits: a number's digits. -/
import Derived.Test.YtdjpkkppcdmdnaaGreatDoorBase
namespace Go.Proofs.YtdjpkkppcdmdnaaGreatDoor
open Go.RowKit

/-! ### Digits -/
theorem slTen0 : ∀ (m : Nat) (_ : m < 10) (w : World), (Instr.sliceAt 9 (.string ⟨#[48, 49, 50, 51, 52, 53, 54, 55, 56, 57]⟩) (some (.int .i64 m)) (some (.int .i64 (m + 1))) none).run Tryz.prog w = .ok (strV [UInt8.ofNat (48 + m)]) w
  | 0, _, w => by kernel_rfl
  | 1, _, w => by kernel_rfl
  | 2, _, w => by kernel_rfl
  | 3, _, w => by kernel_rfl
  | 4, _, w => by kernel_rfl
  | 5, _, w => by kernel_rfl
  | 6, _, w => by kernel_rfl
  | 7, _, w => by kernel_rfl
  | 8, _, w => by kernel_rfl
  | 9, _, w => by kernel_rfl
  | n + 10, h, _ => absurd h (by omega)

theorem slTen (m : Nat) (h : m < 10) (w : World) : (Instr.sliceAt 9 (.string ⟨#[48, 49, 50, 51, 52, 53, 54, 55, 56, 57]⟩) (some (.int .i64 m)) (some (.int .i64 (m + 1))) none).run Tryz.prog w = .ok (strV (Lib.decDigits m)) w := by
  rw [Lib.decDigits_one h]; exact slTen0 m h w
theorem dec_len (n : Nat) (h : n ≤ 9223372036854775807) : (Lib.decDigits n).length ≤ 20 := by
  rw [Lib.decDigits_length]; exact Lib.nDigits_le20 n (by omega)

set_option maxHeartbeats 400000 in
set_option maxRecDepth 100000 in
theorem digits_any : ∀ (f : Nat) (n : Int) (_ : n.toNat ≤ f) (_ : 0 ≤ n) (_ : n ≤ 9223372036854775807) (w : World),
    Calls Tryz.prog 37 #[.int .i64 n] w fun e w' => e = .returned (strV (Lib.decDigits n.toNat)) ∧ w = w' := by
  intro f
  induction f with
  | zero =>
    intro n hf h0 h1 w
    obtain rfl : n = 0 := by omega
    go_enter Tryz.func37, Tryz.ntmps37
    go_wp2
    go_ret
    exact ⟨by rw [Lib.decDigits_one (by decide)]; rfl, rfl⟩
  | succ f ih =>
    intro n hf h0 h1 w
    have IH := Lib.hid ih
    clear ih
    by_cases h10 : n < 10
    · obtain ⟨m, rfl⟩ := Int.eq_ofNat_of_zero_le h0
      have hsl := slTen m (by omega)
      go_enter Tryz.func37, Tryz.ntmps37
      go_wp2
      go_ret
      exact ⟨rfl, rfl⟩
    · obtain ⟨k, hk⟩ : ∃ k : Nat, n % 10 = k := ⟨(n % 10).toNat, by omega⟩
      have hsl := slTen k (by omega)
      have hl := dec_len (n / 10).toNat (by omega)
      have hadd := fun w => strAdd (P := Tryz.prog) 9 (Lib.decDigits (n / 10).toNat) (Lib.decDigits k) (by have := dec_len k (by omega); omega) w
      have hd : Lib.decDigits n.toNat = Lib.decDigits (n / 10).toNat ++ Lib.decDigits k := by
        rw [tx.decDigits_rec n.toNat (by omega), show n.toNat / 10 = (n / 10).toNat by omega, Lib.decDigits_one (i := k) (by omega), show n.toNat % 10 = k by omega]
      have Hd := Lib.hid hd
      clear hd
      go_enter Tryz.func37, Tryz.ntmps37
      go_wp2_with (go_at_call 37; refine (IH.out (n / 10) (by omega) (by omega) (by omega) _).mono ?_; rintro e w' ⟨rfl, rfl⟩)
      go_ret
      exact ⟨by rw [Hd.out]; rfl, rfl⟩

end Go.Proofs.YtdjpkkppcdmdnaaGreatDoor
