/- portref1.Show, ReadAddr: an address as text, and back. -/
import Derived.Test.YtjefehphfaamcaaGreatDoorWhole
import Derived.Test.YtjefehphfaamcaaGreatDoorCut
namespace Go.Proofs.YtjefehphfaamcaaGreatDoor
open Go.RowKit

theorem p24 : p2 (Int.toNat 24) = 16777216 := by decide
theorem p16 : p2 (Int.toNat 16) = 65536 := by decide
theorem p8 : p2 (Int.toNat 8) = 256 := by decide
theorem p0 : p2 (Int.toNat 0) = 1 := by decide

theorem oct_len (n : Int) (h0 : 0 ≤ n) (h : n ≤ 255) : (Lib.decDigits n.toNat).length ≤ 20 := dec_len _ (by omega)

/-- an address as text, so many parts of it -/
def show1 (a : Int) : List UInt8 := Lib.decDigits (a / 16777216 % 256).toNat ++ [46]
def show2 (a : Int) : List UInt8 := show1 a ++ Lib.decDigits (a / 65536 % 256).toNat ++ [46]
def show3 (a : Int) : List UInt8 := show2 a ++ Lib.decDigits (a / 256 % 256).toNat ++ [46]
def show4 (a : Int) : List UInt8 := show3 a ++ Lib.decDigits (a % 256).toNat
theorem showK_len (a : Int) : (show1 a).length ≤ 100 ∧ (show2 a).length ≤ 100 ∧ (show3 a).length ≤ 100 := by
  have h1 := oct_len (a / 16777216 % 256) (by omega) (by omega)
  have h2 := oct_len (a / 65536 % 256) (by omega) (by omega)
  have h3 := oct_len (a / 256 % 256) (by omega) (by omega)
  simp only [show1, show2, show3, List.length_append, List.length_cons, List.length_nil]
  omega
theorem showK_all (a : Int) (h : 0 ≤ a) : show4 a = tx.showAddr a.toNat := by
  have e1 : (a / 16777216 % 256).toNat = a.toNat / 16777216 % 256 := by omega
  have e2 : (a / 65536 % 256).toNat = a.toNat / 65536 % 256 := by omega
  have e3 : (a / 256 % 256).toNat = a.toNat / 256 % 256 := by omega
  have e4 : (a % 256).toNat = a.toNat % 256 := by omega
  simp only [show1, show2, show3, show4, tx.showAddr, e1, e2, e3, e4]
  simp

set_option maxHeartbeats 1000000 in
theorem show_any (a : Int) (h0 : 0 ≤ a) (h1 : a ≤ 4294967295) (w : World) :
    Calls Tryz.prog 5 #[.int .i64 a] w fun e w' => e = .returned (strV (tx.showAddr a.toNat)) ∧ w = w' := by
  have Hall := Lib.hid (showK_all a h0)
  obtain ⟨l1, l2, l3⟩ := showK_len a
  have o1 := oct_len (a / 16777216 % 256) (by omega) (by omega)
  have o2 := oct_len (a / 65536 % 256) (by omega) (by omega)
  have o3 := oct_len (a / 256 % 256) (by omega) (by omega)
  have o4 := oct_len (a % 256) (by omega) (by omega)
  have a1 : ∀ w, (binOp .add 9 (strV []) (strV (Lib.decDigits (a / 16777216 % 256).toNat))).run Tryz.prog w = .ok (strV (Lib.decDigits (a / 16777216 % 256).toNat)) w := fun w => strAdd 9 [] (Lib.decDigits (a / 16777216 % 256).toNat) (by simp only [List.length_nil]; omega) w
  have c1 : ∀ w, (binOp .add 9 (strV (Lib.decDigits (a / 16777216 % 256).toNat)) (.string ⟨#[46]⟩)).run Tryz.prog w = .ok (strV (show1 a)) w := fun w => strAddC 9 (Lib.decDigits (a / 16777216 % 256).toNat) [46] (by simp only [List.length_cons, List.length_nil]; omega) w
  have a2 : ∀ w, (binOp .add 9 (strV (show1 a)) (strV (Lib.decDigits (a / 65536 % 256).toNat))).run Tryz.prog w = .ok (strV (show1 a ++ Lib.decDigits (a / 65536 % 256).toNat)) w := fun w => strAdd 9 (show1 a) (Lib.decDigits (a / 65536 % 256).toNat) (by omega) w
  have c2 : ∀ w, (binOp .add 9 (strV (show1 a ++ Lib.decDigits (a / 65536 % 256).toNat)) (.string ⟨#[46]⟩)).run Tryz.prog w = .ok (strV (show2 a)) w := fun w => strAddC 9 (show1 a ++ Lib.decDigits (a / 65536 % 256).toNat) [46] (by simp only [List.length_append, List.length_cons, List.length_nil]; omega) w
  have a3 : ∀ w, (binOp .add 9 (strV (show2 a)) (strV (Lib.decDigits (a / 256 % 256).toNat))).run Tryz.prog w = .ok (strV (show2 a ++ Lib.decDigits (a / 256 % 256).toNat)) w := fun w => strAdd 9 (show2 a) (Lib.decDigits (a / 256 % 256).toNat) (by omega) w
  have c3 : ∀ w, (binOp .add 9 (strV (show2 a ++ Lib.decDigits (a / 256 % 256).toNat)) (.string ⟨#[46]⟩)).run Tryz.prog w = .ok (strV (show3 a)) w := fun w => strAddC 9 (show2 a ++ Lib.decDigits (a / 256 % 256).toNat) [46] (by simp only [List.length_append, List.length_cons, List.length_nil]; omega) w
  have a4 : ∀ w, (binOp .add 9 (strV (show3 a)) (strV (Lib.decDigits (a % 256).toNat))).run Tryz.prog w = .ok (strV (show4 a)) w := fun w => strAdd 9 (show3 a) (Lib.decDigits (a % 256).toNat) (by omega) w
  go_enter Tryz.func5, Tryz.ntmps5
  go_wp2
  go_loop [3, 4] (fun s i => (i = .int .i64 3 ∧ s = strV []) ∨ (i = .int .i64 2 ∧ s = strV (show1 a)) ∨ (i = .int .i64 1 ∧ s = strV (show2 a)) ∨ (i = .int .i64 0 ∧ s = strV (show3 a)) ∨ (i = .int .i64 (-1) ∧ s = strV (show4 a))) (fun _ i => (intOf i + 1).toNat)
  case atStart => exact Or.inl ⟨rfl, rfl⟩
  case round =>
    rcases hrel with ⟨rfl, rfl⟩ | ⟨rfl, rfl⟩ | ⟨rfl, rfl⟩ | ⟨rfl, rfl⟩ | ⟨rfl, rfl⟩
    · go_wp2_with (first
        | (go_at_call 17; refine (pow_any _ (by decide) (by decide) _).mono ?_; rintro e w' ⟨rfl, rfl⟩; rw [p24])
        | (go_at_call 16; refine (digits_any _ _ (Nat.le_refl _) (by omega) (by omega) _).mono ?_; rintro e w' ⟨rfl, rfl⟩))
      go_round
      case rel => exact Or.inr (Or.inl ⟨rfl, rfl⟩)
      case measure => simp [intOf]
    · go_wp2_with (first
        | (go_at_call 17; refine (pow_any _ (by decide) (by decide) _).mono ?_; rintro e w' ⟨rfl, rfl⟩; rw [p16])
        | (go_at_call 16; refine (digits_any _ _ (Nat.le_refl _) (by omega) (by omega) _).mono ?_; rintro e w' ⟨rfl, rfl⟩))
      go_round
      case rel => exact Or.inr (Or.inr (Or.inl ⟨rfl, rfl⟩))
      case measure => simp [intOf]
    · go_wp2_with (first
        | (go_at_call 17; refine (pow_any _ (by decide) (by decide) _).mono ?_; rintro e w' ⟨rfl, rfl⟩; rw [p8])
        | (go_at_call 16; refine (digits_any _ _ (Nat.le_refl _) (by omega) (by omega) _).mono ?_; rintro e w' ⟨rfl, rfl⟩))
      go_round
      case rel => exact Or.inr (Or.inr (Or.inr (Or.inl ⟨rfl, rfl⟩)))
      case measure => simp [intOf]
    · go_wp2_with (first
        | (go_at_call 17; refine (pow_any _ (by decide) (by decide) _).mono ?_; rintro e w' ⟨rfl, rfl⟩; rw [p0])
        | (go_at_call 16; refine (digits_any _ _ (Nat.le_refl _) (by omega) (by omega) _).mono ?_; rintro e w' ⟨rfl, rfl⟩))
      go_round
      case rel => exact Or.inr (Or.inr (Or.inr (Or.inr ⟨rfl, rfl⟩)))
      case measure => simp [intOf]
    · go_wp2
      go_ret
      exact ⟨by rw [← Hall.out]; rfl, rfl⟩

end Go.Proofs.YtjefehphfaamcaaGreatDoor
