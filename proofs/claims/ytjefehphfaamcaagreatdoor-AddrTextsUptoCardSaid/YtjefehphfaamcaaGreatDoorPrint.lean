/- addr.Print, PrintPrefix: an address and a prefix as text. -/
import Derived.Test.YtjefehphfaamcaaGreatDoorLib
import Derived.Test.YtjefehphfaamcaaGreatDoorShow
import Derived.Test.YtjefehphfaamcaaGreatDoorPreT
import Derived.Test.YtjefehphfaamcaaGreatDoorCut
import Derived.Test.YtjefehphfaamcaaGreatDoorBits
namespace Go.Proofs.YtjefehphfaamcaaGreatDoor
open Go.RowKit

theorem itoa_nn (n : Int) (h : 0 ≤ n) : Lib.itoa n = Lib.decDigits n.toNat := by
  unfold Lib.itoa; rw [if_neg (by omega)]

/-- the four parts of an address -/
def parts4 (a : Int) : List (List UInt8) := [Lib.decDigits (a / 16777216 % 256).toNat, Lib.decDigits (a / 65536 % 256).toNat, Lib.decDigits (a / 256 % 256).toNat, Lib.decDigits (a % 256).toNat]
theorem join4 (a : Int) (h : 0 ≤ a) : Lib.join (parts4 a) [46] = tx.showAddr a.toNat := by
  rw [← showK_all a h]
  simp [parts4, Lib.join, List.intercalate, show4, show3, show2, show1]

set_option maxHeartbeats 4000000 in
set_option maxRecDepth 1000000 in
theorem print_ok (a : Int) (h0 : 0 ≤ a) (h1 : a ≤ 4294967295) (w : World) (G : Glob w) :
    Calls Tryz.prog 6 #[.int .i64 a] w fun e w' => e = .returned (.tuple #[strV (tx.showAddr a.toNat), .nilIface]) ∧ Below w.heap.size w w' := by
  obtain ⟨i0, hi, hz0, hz1, hz2⟩ := info_parts infoStr
  have hO := fun w => ok_any a w
  rw [addrB_t h0 h1] at hO
  have HG := Lib.hid G
  clear G
  go_enter Tryz.func6, Tryz.ntmps6
  go_wp2_with (go_at_call 18; refine (hO _).mono ?_; rintro e w' ⟨rfl, rfl⟩)
  have n1 := and255 (a / 16777216) (by omega) (by omega)
  have n2 := and255 (a / 65536) (by omega) (by omega)
  have n3 := and255 (a / 256) (by omega) (by omega)
  have n4 := and255 a h0 (by omega)
  go_loopw [4, 5] (fun v i wr => ∃ k : Nat, k ≤ 4 ∧ i = .int .i64 (24 - 8 * (k : Int)) ∧ wr.ownsRow w.heap.size 9 1 v k (((parts4 a).take k).map strV) ∧ Below w.heap.size w wr)
    (fun _ i _ => (intOf i + 8).toNat)
  case atStart => exact ⟨0, by omega, rfl, World.ownsRow_nil _ _ _ _, Below.refl _ _⟩
  case round =>
    obtain ⟨k, hk, rfl, hown, hb⟩ := hrel
    have hc : k = 0 ∨ k = 1 ∨ k = 2 ∨ k = 3 ∨ k = 4 := by omega
    have HB := Lib.hid hb
    have HGr := Lib.hid (HG.out.below (hb.mono (Nat.le_refl _)))
    have hsz := hb.size
    clear hb
    rcases hc with rfl | rfl | rfl | rfl | rfl
    · go_wp2_with (first
        | (go_at_call 19; refine (itoa_any _ (by omega) (by omega) _ HGr.out).mono ?_; rintro e w2 ⟨rfl, hb2⟩; rw [itoa_nn _ (by omega), strV_def]; have hown2 := ownsRow_below hown hb2; have HB2 := Lib.hid (HB.out.trans (hb2.mono hsz)); have hsz2 := hb2.size; clear hb2)
        | (at_builtin; refine wpList_append_own _ rfl (.tmp 14) (.tmp 20) 45 rfl w.heap.size 9 i0 (.string ⟨#[]⟩) 1 16 Tryz.underlying45 hi hz0 hz1 hz2 rfl (by decide) _ _ _ rfl (hown2.alloc _) ⟨_, 0, none⟩ 1 1 [.string ⟨(Lib.decDigits (a / 16777216 % 256).toNat).toArray⟩] rfl rfl ?c01 ?c02 ?c03 ?c04 ?c05 ?_))
      case c01 => intro j u hj; match j, hj with | 0, hj => simp at hj; subst hj; simp [Addr.add]
      case c02 => intro u hu; simp at hu; subst hu; rfl
      case c03 => unfold maxLen; omega
      case c04 => omega
      case c05 => simp; omega
      intro v' w3 hown' hgrow _
      have hb' : Below w.heap.size w w3 := (HB2.out.alloc (by omega) _).grown hgrow (by simp; omega) (fun j hj => (hown2.lt j hj).1)
      clear hgrow
      go_wp2
      go_roundw
      case rel => exact ⟨1, by omega, by rfl, hown', hb'⟩
      case measure => simp [intOf]
    · go_wp2_with (first
        | (go_at_call 19; refine (itoa_any _ (by omega) (by omega) _ HGr.out).mono ?_; rintro e w2 ⟨rfl, hb2⟩; rw [itoa_nn _ (by omega), strV_def]; have hown2 := ownsRow_below hown hb2; have HB2 := Lib.hid (HB.out.trans (hb2.mono hsz)); have hsz2 := hb2.size; clear hb2)
        | (at_builtin; refine wpList_append_own _ rfl (.tmp 14) (.tmp 20) 45 rfl w.heap.size 9 i0 (.string ⟨#[]⟩) 1 16 Tryz.underlying45 hi hz0 hz1 hz2 rfl (by decide) _ _ _ rfl (hown2.alloc _) ⟨_, 0, none⟩ 1 1 [.string ⟨(Lib.decDigits (a / 65536 % 256).toNat).toArray⟩] rfl rfl ?c11 ?c12 ?c13 ?c14 ?c15 ?_))
      case c11 => intro j u hj; match j, hj with | 0, hj => simp at hj; subst hj; simp [Addr.add]
      case c12 => intro u hu; simp at hu; subst hu; rfl
      case c13 => unfold maxLen; omega
      case c14 => omega
      case c15 => simp; omega
      intro v' w3 hown' hgrow _
      have hb' : Below w.heap.size w w3 := (HB2.out.alloc (by omega) _).grown hgrow (by simp; omega) (fun j hj => (hown2.lt j hj).1)
      clear hgrow
      go_wp2
      go_roundw
      case rel => exact ⟨2, by omega, by rfl, hown', hb'⟩
      case measure => simp [intOf]
    · go_wp2_with (first
        | (go_at_call 19; refine (itoa_any _ (by omega) (by omega) _ HGr.out).mono ?_; rintro e w2 ⟨rfl, hb2⟩; rw [itoa_nn _ (by omega), strV_def]; have hown2 := ownsRow_below hown hb2; have HB2 := Lib.hid (HB.out.trans (hb2.mono hsz)); have hsz2 := hb2.size; clear hb2)
        | (at_builtin; refine wpList_append_own _ rfl (.tmp 14) (.tmp 20) 45 rfl w.heap.size 9 i0 (.string ⟨#[]⟩) 1 16 Tryz.underlying45 hi hz0 hz1 hz2 rfl (by decide) _ _ _ rfl (hown2.alloc _) ⟨_, 0, none⟩ 1 1 [.string ⟨(Lib.decDigits (a / 256 % 256).toNat).toArray⟩] rfl rfl ?c21 ?c22 ?c23 ?c24 ?c25 ?_))
      case c21 => intro j u hj; match j, hj with | 0, hj => simp at hj; subst hj; simp [Addr.add]
      case c22 => intro u hu; simp at hu; subst hu; rfl
      case c23 => unfold maxLen; omega
      case c24 => omega
      case c25 => simp; omega
      intro v' w3 hown' hgrow _
      have hb' : Below w.heap.size w w3 := (HB2.out.alloc (by omega) _).grown hgrow (by simp; omega) (fun j hj => (hown2.lt j hj).1)
      clear hgrow
      go_wp2
      go_roundw
      case rel => exact ⟨3, by omega, by rfl, hown', hb'⟩
      case measure => simp [intOf]
    · go_wp2_with (first
        | (go_at_call 19; refine (itoa_any _ (by omega) (by omega) _ HGr.out).mono ?_; rintro e w2 ⟨rfl, hb2⟩; rw [itoa_nn _ (by omega), strV_def]; have hown2 := ownsRow_below hown hb2; have HB2 := Lib.hid (HB.out.trans (hb2.mono hsz)); have hsz2 := hb2.size; clear hb2)
        | (at_builtin; refine wpList_append_own _ rfl (.tmp 14) (.tmp 20) 45 rfl w.heap.size 9 i0 (.string ⟨#[]⟩) 1 16 Tryz.underlying45 hi hz0 hz1 hz2 rfl (by decide) _ _ _ rfl (hown2.alloc _) ⟨_, 0, none⟩ 1 1 [.string ⟨(Lib.decDigits (a % 256).toNat).toArray⟩] rfl rfl ?c31 ?c32 ?c33 ?c34 ?c35 ?_))
      case c31 => intro j u hj; match j, hj with | 0, hj => simp at hj; subst hj; simp [Addr.add]
      case c32 => intro u hu; simp at hu; subst hu; rfl
      case c33 => unfold maxLen; omega
      case c34 => omega
      case c35 => simp; omega
      intro v' w3 hown' hgrow _
      have hb' : Below w.heap.size w w3 := (HB2.out.alloc (by omega) _).grown hgrow (by simp; omega) (fun j hj => (hown2.lt j hj).1)
      clear hgrow
      go_wp2
      go_roundw
      case rel => exact ⟨4, by omega, by rfl, hown', hb'⟩
      case measure => simp [intOf]
    · have hr : RowOf wr w.heap.size u4 (parts4 a) := rowOf_owns hown (by simp [parts4])
      have hj := fun w' (h : RowOf w' w.heap.size u4 (parts4 a)) => join_any (parts4 a) 46 w' w.heap.size u4 h (by simp [parts4]) (by rw [join4 a h0]; have := showAddr_len a.toNat; omega)
      rw [join4 a h0] at hj
      have HJ := Lib.hid (hj wr hr)
      clear hr hj hown
      go_wp2_with (go_at_call 20; refine HJ.out.mono ?_; rintro e w2 ⟨rfl, hb2⟩; have HB2 := Lib.hid (HB.out.trans (hb2.mono hsz)); clear hb2)
      go_ret2
      exact ⟨rfl, HB2.out⟩

theorem printPrefix_bad (a n : Int) (h : tx.pfault a n ≠ 0) (w : World) :
    Calls Tryz.prog 13 #[.agg #[.int .i64 a, .int .i64 n]] w fun e w' => e = .returned (.tuple #[strV [], errV (tx.pfault a n)]) ∧ Below w.heap.size w w' := by
  have hC := fun w => check_any a n w
  have he : errV (tx.pfault a n) = .iface 44 (.int .i64 (tx.pfault a n)) := by unfold errV; rw [if_neg h]
  rw [he] at hC ⊢
  clear he
  go_enter Tryz.func13, Tryz.ntmps13
  go_wp2_with (go_at_call 12; refine (hC _).mono ?_; rintro e w1 ⟨rfl, hb⟩; have B1 := Lib.hid (((Below.refl w.heap.size w).alloc (Nat.le_refl _) (.cells #[.int .i64 a, .int .i64 n] 23)).trans (hb.mono (by simp))); clear hb)
  go_ret2
  exact ⟨rfl, B1.out⟩

set_option maxHeartbeats 1000000 in
theorem printPrefix_ok (a n : Int) (h : tx.pfault a n = 0) (w : World) (G : Glob w) :
    Calls Tryz.prog 13 #[.agg #[.int .i64 a, .int .i64 n]] w fun e w' => e = .returned (.tuple #[strV (tx.showPrefix a.toNat n.toNat), .nilIface]) ∧ Below w.heap.size w w' := by
  obtain ⟨h1, h2, h3, h4⟩ := pfault_zero h
  have hC := fun w => check_any a n w
  rw [h, errV0] at hC
  clear h
  have HG := Lib.hid G
  clear G
  by_cases h0 : n = 0
  · subst h0
    go_enter Tryz.func13, Tryz.ntmps13
    go_wp2_with fail
    refine (hC _).mono ?_
    rintro e w1 ⟨rfl, hb⟩
    have k1 := kept hb (a := ⟨w.heap.size, 1, none⟩) (v := .int .i64 0) (by simp)
    have B1 := Lib.hid (((Below.refl w.heap.size w).alloc (Nat.le_refl _) (.cells #[.int .i64 a, .int .i64 0] 23)).trans (hb.mono (by simp)))
    clear hb
    go_wp2
    go_ret2
    exact ⟨rfl, B1.out⟩
  · have hf : tx.showPrefix a.toNat n.toNat = tx.showAddr a.toNat ++ [47] ++ Lib.decDigits n.toNat := by
      unfold tx.showPrefix; rw [if_neg (by omega)]; simp
    have Hf := Lib.hid hf
    have hn0 : (n == 0) = false := beq_eq_false_iff_ne.2 h0
    have l1 := showAddr_len a.toNat
    have l2 := dec_len n.toNat (by omega)
    have a1 : ∀ w, (binOp .add 9 (strV (tx.showAddr a.toNat)) (.string ⟨#[47]⟩)).run Tryz.prog w = .ok (strV (tx.showAddr a.toNat ++ [47])) w := fun w => strAddC 9 _ [47] (by simp only [List.length_cons, List.length_nil]; omega) w
    have a2 : ∀ w, (binOp .add 9 (strV (tx.showAddr a.toNat ++ [47])) (strV (Lib.decDigits n.toNat))).run Tryz.prog w = .ok (strV (tx.showPrefix a.toNat n.toNat)) w := fun w => by
      rw [Hf.out]; exact strAdd 9 _ _ (by simp only [List.length_append, List.length_cons, List.length_nil]; omega) w
    clear hf h0
    go_enter Tryz.func13, Tryz.ntmps13
    go_wp2_with fail
    refine (hC _).mono ?_
    rintro e w1 ⟨rfl, hb⟩
    have k0 := kept hb (a := ⟨w.heap.size, 0, none⟩) (v := .int .i64 a) (by simp)
    have k1 := kept hb (a := ⟨w.heap.size, 1, none⟩) (v := .int .i64 n) (by simp)
    have B1 := Lib.hid (((Below.refl w.heap.size w).alloc (Nat.le_refl _) (.cells #[.int .i64 a, .int .i64 n] 23)).trans (hb.mono (by simp)))
    clear hb
    go_wp2_with fail
    refine (print_ok a h1 h2 _ (HG.out.below B1.out)).mono ?_
    rintro e w2 ⟨rfl, hb⟩
    have k2 := kept hb k1
    have B2 := Lib.hid (B1.out.trans (hb.mono B1.out.size))
    clear hb k0 k1
    go_wp2_with fail
    refine (itoa_any n (by omega) (by omega) _ (HG.out.below B2.out)).mono ?_
    rintro e w3 ⟨rfl, hb⟩
    rw [itoa_nn n h3]
    have B3 := Lib.hid (B2.out.trans (hb.mono B2.out.size))
    clear hb k2
    go_wp2
    go_ret2
    exact ⟨rfl, B3.out⟩

theorem print_bad (a : Int) (h : addrB a = false) (w : World) :
    Calls Tryz.prog 6 #[.int .i64 a] w fun e w' => e = .returned (.tuple #[strV [], errV 1]) ∧ w = w' := by
  have hO := fun w => ok_any a w
  rw [h] at hO
  clear h
  go_enter Tryz.func6, Tryz.ntmps6
  go_wp2_with (go_at_call 18; refine (hO _).mono ?_; rintro e w' ⟨rfl, rfl⟩)
  go_ret2
  exact ⟨rfl, rfl⟩

end Go.Proofs.YtjefehphfaamcaaGreatDoor
