/- int's '&' with 255 and '|' with what lies below. -/
import Derived.Test.YtjefehphfaamcaaGreatDoorBase
namespace Go.Proofs.YtjefehphfaamcaaGreatDoor
open Go.RowKit

theorem ofInt64 (a : Nat) (ha : a < 18446744073709551616) : (BitVec.ofInt 64 (a : Int)).toNat = a := by
  rw [BitVec.toNat_ofInt]
  have e : ((2 ^ 64 : Nat) : Int) = 18446744073709551616 := by decide
  rw [e]
  omega

theorem and255 (x : Int) (h0 : 0 ≤ x) (h1 : x ≤ 4611686018427387904) : bits .and .i64 x 255 = x % 256 := by
  obtain ⟨n, rfl⟩ := Int.eq_ofNat_of_zero_le h0
  show IntKind.i64.wrap ((BitVec.ofInt 64 (n : Int) &&& BitVec.ofInt 64 255).toNat : Int) = _
  have e : (BitVec.ofInt 64 255).toNat = 255 := by decide
  rw [BitVec.toNat_and, ofInt64 n (by omega), e]
  have h : n &&& 255 = n % 256 := Nat.and_two_pow_sub_one_eq_mod n 8
  rw [h, IntWalk.i64_in _ (by omega)]
  omega

theorem or256 (a n : Int) (h0 : 0 ≤ a) (h1 : a ≤ 4503599627370496) (h2 : 0 ≤ n) (h3 : n ≤ 255) : bits .or .i64 (a * 256) n = a * 256 + n := by
  obtain ⟨a, rfl⟩ := Int.eq_ofNat_of_zero_le h0
  obtain ⟨n, rfl⟩ := Int.eq_ofNat_of_zero_le h2
  show IntKind.i64.wrap ((BitVec.ofInt 64 ((a : Int) * 256) ||| BitVec.ofInt 64 (n : Int)).toNat : Int) = _
  have e : ((a : Int) * 256) = ((a * 256 : Nat) : Int) := by omega
  rw [e, BitVec.toNat_or, ofInt64 (a * 256) (by omega), ofInt64 n (by omega)]
  have h : a * 256 ||| n = a * 256 + n := by
    have := Nat.shiftLeft_add_eq_or_of_lt (i := 8) (b := n) (by omega) a
    rw [Nat.shiftLeft_eq] at this
    exact this.symm
  rw [h, IntWalk.i64_in _ (by omega)]
  omega

end Go.Proofs.YtjefehphfaamcaaGreatDoor
