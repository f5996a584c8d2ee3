/- portref1.ShowPrefix, ReadPrefix: a prefix as text, and back. -/
import Derived.Test.YtjefehphfaamcaaGreatDoorPre
namespace Go.Proofs.YtjefehphfaamcaaGreatDoor
open Go.RowKit

theorem showAddr_len (a : Nat) : (tx.showAddr a).length ≤ 100 := by
  have h1 := dec_len (a / 16777216 % 256) (by omega)
  have h2 := dec_len (a / 65536 % 256) (by omega)
  have h3 := dec_len (a / 256 % 256) (by omega)
  have h4 := dec_len (a % 256) (by omega)
  simp only [tx.showAddr, List.length_append, List.length_cons]
  omega

theorem pfault_zero {a n : Int} (h : tx.pfault a n = 0) : 0 ≤ a ∧ a ≤ 4294967295 ∧ 0 ≤ n ∧ n ≤ 32 := by
  unfold tx.pfault at h
  split at h
  · cases h
  · omega

theorem showPrefix_any (a n : Int) (h : tx.pfault a n = 0) (w : World) :
    Calls Tryz.prog 11 #[.agg #[.int .i64 a, .int .i64 n]] w fun e w' => e = .returned (strV (tx.showPrefix a.toNat n.toNat)) ∧ Below w.heap.size w w' := by
  obtain ⟨h1, h2, h3, h4⟩ := pfault_zero h
  clear h
  by_cases h0 : n = 0
  · subst h0
    go_enter Tryz.func11, Tryz.ntmps11
    go_wp2
    go_ret
    exact ⟨rfl, (Below.refl _ _).alloc (Nat.le_refl _) _⟩
  · have hf : tx.showPrefix a.toNat n.toNat = tx.showAddr a.toNat ++ [47] ++ Lib.decDigits n.toNat := by
      unfold tx.showPrefix; rw [if_neg (by omega)]; simp
    have Hf := Lib.hid hf
    have hn0 : (n == 0) = false := beq_eq_false_iff_ne.2 h0
    have l1 := showAddr_len a.toNat
    have l2 := dec_len n.toNat (by omega)
    have a1 : ∀ w, (binOp .add 9 (strV (tx.showAddr a.toNat)) (.string ⟨#[47]⟩)).run Tryz.prog w = .ok (strV (tx.showAddr a.toNat ++ [47])) w := fun w => strAddC 9 _ [47] (by simp only [List.length_cons, List.length_nil]; omega) w
    have a2 : ∀ w, (binOp .add 9 (strV (tx.showAddr a.toNat ++ [47])) (strV (Lib.decDigits n.toNat))).run Tryz.prog w = .ok (strV (tx.showPrefix a.toNat n.toNat)) w := fun w => by
      rw [Hf.out]; exact strAdd 9 _ _ (by simp only [List.length_append, List.length_cons, List.length_nil]; omega) w
    clear hf h0
    go_enter Tryz.func11, Tryz.ntmps11
    go_wp2_with (first
      | (go_at_call 5; refine (show_any a h1 h2 _).mono ?_; rintro e w' ⟨rfl, rfl⟩)
      | (go_at_call 16; refine (digits_any _ _ (Nat.le_refl _) h3 (by omega) _).mono ?_; rintro e w' ⟨rfl, rfl⟩))
    go_ret
    exact ⟨rfl, (Below.refl _ _).alloc (Nat.le_refl _) _⟩

/-- a prefix, and whether there is one -/
def pxV : Option (Nat × Nat) → Value
  | some (a, n) => .tuple #[.agg #[.int .i64 a, .int .i64 n], .bool true]
  | none => .tuple #[.agg #[.int .i64 0, .int .i64 0], .bool false]

theorem mk_yes {ra wn : Option Nat} (h1 : 1 ≤ optI wn) (h0 : tx.pfault (optI ra) (optI wn) = 0) : tx.mkPrefix ra wn = some ((optI ra).toNat, (optI wn).toNat) := by
  obtain ⟨p1, p2, p3, p4⟩ := pfault_zero h0
  cases ra with
  | none => simp [optI] at p1
  | some a =>
    cases wn with
    | none => simp [optI] at h1
    | some n =>
      simp only [optI] at h0 h1
      show (if 1 ≤ n ∧ tx.pfault a n = 0 then some (a, n) else none) = _
      rw [if_pos ⟨by omega, h0⟩]; rfl
theorem mk_no {ra wn : Option Nat} (h : optI wn < 1 ∨ tx.pfault (optI ra) (optI wn) ≠ 0) : tx.mkPrefix ra wn = none := by
  unfold tx.mkPrefix
  split
  · rename_i a n
    simp only [optI] at h
    rw [if_neg]
    rintro ⟨h1, h2⟩
    rcases h with h | h
    · omega
    · exact h h2
  · rfl
theorem wholeI_opt (l : List UInt8) (m : Nat) : wholeI l m = optI (tx.whole l m) := by
  unfold wholeI optI; rfl

set_option maxHeartbeats 1000000 in
theorem readPrefix_no (l : List UInt8) (w : World) (he : l = tx.anyT) :
    Calls Tryz.prog 14 #[strV l] w fun e w' => e = .returned (pxV (tx.readPrefix l)) ∧ Below w.heap.size w w' := by
  subst he
  go_enter Tryz.func14, Tryz.ntmps14
  have hx : strV tx.anyT = .string ⟨#[97, 110, 121]⟩ := rfl
  rw [hx]
  go_wp2
  exact bodyPost_ret (v := .tuple #[.agg #[.int .i64 0, .int .i64 0], .bool true]) (by simp [results, Tryz.results14, go_sem]) rfl ⟨rfl, (Below.refl _ _).alloc (Nat.le_refl _) _⟩

set_option maxHeartbeats 1000000 in
theorem readPrefix_yes (l : List UInt8) (w : World) (he : l ≠ tx.anyT) (hs : l.length < 4294967281) :
    Calls Tryz.prog 14 #[strV l] w fun e w' => e = .returned (pxV (tx.readPrefix l)) ∧ Below w.heap.size w w' := by
  have heq : (l == [97, 110, 121]) = false := beq_eq_false_iff_ne.2 he
  have hres : tx.readPrefix l = match tx.cutF 47 l with
    | [x] => tx.mkPrefix (tx.readAddr x) (some 32)
    | [x, y] => tx.mkPrefix (tx.readAddr x) (tx.whole y 2)
    | _ => none := by unfold tx.readPrefix; rw [if_neg he]; rfl
  have Hres := Lib.hid hres
  have Hs := Lib.hid hs
  have hmem := fun x (hx : x ∈ tx.cutF 47 l) => tx.cutF_mem_len 47 l x hx
  have hne := tx.cutF_ne 47 l
  clear hres hs he
  go_enter Tryz.func14, Tryz.ntmps14
  have hx : strV l = .string ⟨l.toArray⟩ := rfl
  rw [hx]
  clear hx
  go_wp2_with fail
  refine (cut_any ⟨l.toArray⟩ 47 _ (by rw [strV_size]; exact Hs.out)).mono ?_
  rintro e w1 ⟨v, rfl, hrow, hb⟩
  have hcut2 : tx.cutF 47 (⟨l.toArray⟩ : ByteArray).data.toList = tx.cutF 47 l := rfl
  rw [hcut2] at hrow
  clear hcut2
  obtain ⟨g, cap, rfl, hB, hg, hn, hc, hcell⟩ := hrow
  have R0 := Lib.hid (kept hb (a := ⟨w.heap.size, 0, none⟩) (v := .int .i64 0) (by simp))
  have R1 := Lib.hid (kept hb (a := ⟨w.heap.size, 1, none⟩) (v := .int .i64 0) (by simp))
  have F0 := Lib.hid (keptF hb (a := ⟨w.heap.size, 0, none⟩) (v := .int .i64 0) (b := false) (by simp) (by simp))
  have F1 := Lib.hid (keptF hb (a := ⟨w.heap.size, 1, none⟩) (v := .int .i64 0) (b := false) (by simp) (by simp))
  have hz : w.heap.size < w1.heap.size := by have := hb.size; simp at this; omega
  have B1 := Lib.hid (((Below.refl w.heap.size w).alloc (Nat.le_refl _) (.cells #[.int .i64 0, .int .i64 0] 23)).trans (hb.mono (by simp)))
  clear hb
  cases hW : tx.cutF 47 l with
  | nil => exact absurd hW hne
  | cons x r =>
    rw [hW] at hcell hn hmem
    have hx1 := hcell 0 x rfl
    have hx2 : x.length < 4294967281 := Nat.lt_of_le_of_lt (hmem x (by simp)) Hs.out
    have hres := Hres.out
    rw [hW] at hres
    cases r with
    | nil =>
      have Hres := Lib.hid hres
      clear hres hW hmem hne hcell
      have hP := fun w => prefix_any (optI (tx.readAddr x)) 32 w
      have HP := Lib.hid hP
      clear hP
      go_wp2_with fail
      refine (readAddr_any x _ hx2).mono ?_
      rintro e w2 ⟨rfl, hb2⟩
      have p0 := kept hb2 (a := ⟨w1.heap.size, 0, none⟩) (v := .int .i64 0) (by simp)
      have p1 := kept hb2 (a := ⟨w1.heap.size, 1, none⟩) (v := .int .i64 32) (by simp)
      have f0 := keptF hb2 (a := ⟨w1.heap.size, 0, none⟩) (v := .int .i64 0) (b := false) (by simp) (by simp)
      have f1 := keptF hb2 (a := ⟨w1.heap.size, 1, none⟩) (v := .int .i64 32) (b := false) (by simp) (by simp)
      have r0 := Lib.hid (kept hb2 (keptA _ R0.out))
      have r1 := Lib.hid (kept hb2 (keptA _ R1.out))
      have g0 := Lib.hid (keptF hb2 (keptA _ R0.out) (keptAF _ R0.out F0.out))
      have g1 := Lib.hid (keptF hb2 (keptA _ R1.out) (keptAF _ R1.out F1.out))
      have B2 := Lib.hid ((B1.out.alloc (Nat.le_of_lt hz) (.cells #[.int .i64 0, .int .i64 32] 23)).trans (hb2.mono (by simp; omega)))
      clear hb2
      by_cases hF : tx.pfault (optI (tx.readAddr x)) 32 = 0
      · have hfin := Lib.hid (Hres.out.trans (mk_yes (wn := some 32) (by decide) hF))
        have hP := HP.out
        rw [hF] at hP
        have hA := (pfault_zero hF).1
        have hL : (0 : Int) ≤ 32 := by decide
        generalize hgA : optI (tx.readAddr x) = A at *
        have HgA := Lib.hid hgA
        clear hgA hF
        go_wp2_with fail
        refine (hP _).mono ?_
        rintro e w3 ⟨rfl, hb3⟩
        have q0 := kept hb3 (World.cell?_setCell_same _ _ _ p0)
        have q1 := kept hb3 ((World.cell?_setCell_other _ _ _ _ (by simp)).trans p1)
        have s0 := kept hb3 ((World.cell?_setCell_other _ ⟨w1.heap.size, 0, none⟩ ⟨w.heap.size, 0, none⟩ (.int .i64 A) (by simp)).trans r0.out)
        have s1 := kept hb3 ((World.cell?_setCell_other _ ⟨w1.heap.size, 0, none⟩ ⟨w.heap.size, 1, none⟩ (.int .i64 A) (by simp)).trans r1.out)
        have t0 := keptF hb3 ((World.cell?_setCell_other _ ⟨w1.heap.size, 0, none⟩ ⟨w.heap.size, 0, none⟩ (.int .i64 A) (by simp)).trans r0.out) ((World.frozen?_setCell _ _ _ _).trans g0.out)
        have t1 := keptF hb3 ((World.cell?_setCell_other _ ⟨w1.heap.size, 0, none⟩ ⟨w.heap.size, 1, none⟩ (.int .i64 A) (by simp)).trans r1.out) ((World.frozen?_setCell _ _ _ _).trans g1.out)
        have B3 := Lib.hid ((B2.out.setCell (p := ⟨w1.heap.size, 0, none⟩) (Nat.le_of_lt hz) (.int .i64 A)).trans (hb3.mono (by have := B2.out.size; simpa using this)))
        clear hb3 p0 p1 f0 f1
        go_wp2
        refine bodyPost_ret (v := .tuple #[.agg #[.int .i64 A, .int .i64 32], .bool true]) ?_ rfl ?_
        · have m1 : ((w3.setCell ⟨w.heap.size, 0, none⟩ (.int .i64 A)).setCell ⟨w.heap.size, 1, none⟩ (.int .i64 32)).cell? ⟨w.heap.size, 1, none⟩ = some (.int .i64 32) := World.cell?_setCell_same _ _ _ ((World.cell?_setCell_other _ _ _ _ (by simp)).trans s1)
          have m0 : ((w3.setCell ⟨w.heap.size, 0, none⟩ (.int .i64 A)).setCell ⟨w.heap.size, 1, none⟩ (.int .i64 32)).cell? ⟨w.heap.size, 0, none⟩ = some (.int .i64 A) := (World.cell?_setCell_other _ _ _ _ (by simp)).trans (World.cell?_setCell_same _ _ _ s0)
          simp [results, Tryz.results14, go_sem, m0, m1]
        · refine ⟨?_, (B3.out.setCell (Nat.le_refl _) _).setCell (Nat.le_refl _) _⟩
          rw [hfin.out]
          show _ = Ending.returned (.tuple #[.agg #[.int .i64 (A.toNat : Int), .int .i64 ((32 : Int).toNat : Int)], .bool true])
          rw [Int.toNat_of_nonneg hA, Int.toNat_of_nonneg hL]
      · have hfin := Lib.hid (Hres.out.trans (mk_no (wn := some 32) (Or.inr hF)))
        have hP := HP.out
        generalize hgA : optI (tx.readAddr x) = A at *
        have HgA := Lib.hid hgA
        generalize tx.pfault A 32 = F at hP hF
        have hF1 : (F == 0) = false := beq_eq_false_iff_ne.2 hF
        have hF2 : (F != 0) = true := bne_iff_ne.2 hF
        clear hgA hF
        go_wp2_with fail
        refine (hP _).mono ?_
        rintro e w3 ⟨rfl, hb3⟩
        have q0 := kept hb3 (World.cell?_setCell_same _ _ _ p0)
        have q1 := kept hb3 ((World.cell?_setCell_other _ _ _ _ (by simp)).trans p1)
        have s0 := kept hb3 ((World.cell?_setCell_other _ ⟨w1.heap.size, 0, none⟩ ⟨w.heap.size, 0, none⟩ (.int .i64 A) (by simp)).trans r0.out)
        have s1 := kept hb3 ((World.cell?_setCell_other _ ⟨w1.heap.size, 0, none⟩ ⟨w.heap.size, 1, none⟩ (.int .i64 A) (by simp)).trans r1.out)
        have t0 := keptF hb3 ((World.cell?_setCell_other _ ⟨w1.heap.size, 0, none⟩ ⟨w.heap.size, 0, none⟩ (.int .i64 A) (by simp)).trans r0.out) ((World.frozen?_setCell _ _ _ _).trans g0.out)
        have t1 := keptF hb3 ((World.cell?_setCell_other _ ⟨w1.heap.size, 0, none⟩ ⟨w.heap.size, 1, none⟩ (.int .i64 A) (by simp)).trans r1.out) ((World.frozen?_setCell _ _ _ _).trans g1.out)
        have B3 := Lib.hid ((B2.out.setCell (p := ⟨w1.heap.size, 0, none⟩) (Nat.le_of_lt hz) (.int .i64 A)).trans (hb3.mono (by have := B2.out.size; simpa using this)))
        clear hb3 p0 p1 f0 f1
        go_wp2
        refine bodyPost_ret (v := .tuple #[.agg #[.int .i64 0, .int .i64 0], .bool false]) ?_ rfl ?_
        · have m1 : ((w3.setCell ⟨w.heap.size, 0, none⟩ (.int .i64 0)).setCell ⟨w.heap.size, 1, none⟩ (.int .i64 0)).cell? ⟨w.heap.size, 1, none⟩ = some (.int .i64 0) := World.cell?_setCell_same _ _ _ ((World.cell?_setCell_other _ _ _ _ (by simp)).trans s1)
          have m0 : ((w3.setCell ⟨w.heap.size, 0, none⟩ (.int .i64 0)).setCell ⟨w.heap.size, 1, none⟩ (.int .i64 0)).cell? ⟨w.heap.size, 0, none⟩ = some (.int .i64 0) := (World.cell?_setCell_other _ _ _ _ (by simp)).trans (World.cell?_setCell_same _ _ _ s0)
          simp [results, Tryz.results14, go_sem, m0, m1]
        · refine ⟨?_, (B3.out.setCell (Nat.le_refl _) _).setCell (Nat.le_refl _) _⟩
          rw [hfin.out]; rfl
    | cons y r =>
      have hy1 := hcell 1 y rfl
      have hy2 : y.length < 4294967281 := Nat.lt_of_le_of_lt (hmem y (by simp)) Hs.out
      cases r with
      | nil =>
        have Hres := Lib.hid hres
        clear hres hW hmem hne hcell
        have hWh := fun w => whole2 y w hy2
        rw [wholeI_opt] at hWh
        have hP := fun w => prefix_any (optI (tx.readAddr x)) (optI (tx.whole y 2)) w
        have HP := Lib.hid hP
        clear hP
        go_wp2_with fail
        refine (readAddr_any x _ hx2).mono ?_
        rintro e w2 ⟨rfl, hb2⟩
        have p0 := kept hb2 (a := ⟨w1.heap.size, 0, none⟩) (v := .int .i64 0) (by simp)
        have p1 := kept hb2 (a := ⟨w1.heap.size, 1, none⟩) (v := .int .i64 32) (by simp)
        have f0 := keptF hb2 (a := ⟨w1.heap.size, 0, none⟩) (v := .int .i64 0) (b := false) (by simp) (by simp)
        have f1 := keptF hb2 (a := ⟨w1.heap.size, 1, none⟩) (v := .int .i64 32) (b := false) (by simp) (by simp)
        have r0 := Lib.hid (kept hb2 (keptA _ R0.out))
        have r1 := Lib.hid (kept hb2 (keptA _ R1.out))
        have g0 := Lib.hid (keptF hb2 (keptA _ R0.out) (keptAF _ R0.out F0.out))
        have g1 := Lib.hid (keptF hb2 (keptA _ R1.out) (keptAF _ R1.out F1.out))
        have B2 := Lib.hid ((B1.out.alloc (Nat.le_of_lt hz) (.cells #[.int .i64 0, .int .i64 32] 23)).trans (hb2.mono (by simp; omega)))
        have y1 := kept hb2 (keptA (.cells #[.int .i64 0, .int .i64 32] 23) hy1)
        clear hb2
        by_cases hF : tx.pfault (optI (tx.readAddr x)) (optI (tx.whole y 2)) = 0
        · by_cases hL1 : optI (tx.whole y 2) < 1
          · have hfin := Lib.hid (Hres.out.trans (mk_no (Or.inl hL1)))
            have hP := HP.out
            rw [hF] at hP
            generalize hgA : optI (tx.readAddr x) = A at *
            have HgA := Lib.hid hgA
            generalize hgL : optI (tx.whole y 2) = L at *
            have HgL := Lib.hid hgL
            clear hgA hgL hF
            go_wp2_with (go_at_call 23; refine (hWh _).mono ?_; rintro e w' ⟨rfl, rfl⟩)
            refine (hP _).mono ?_
            rintro e w3 ⟨rfl, hb3⟩
            have q0 := kept hb3 ((World.cell?_setCell_other _ _ _ _ (by simp)).trans (World.cell?_setCell_same _ _ _ p0))
            have q1 := kept hb3 (World.cell?_setCell_same _ _ _ ((World.cell?_setCell_other _ _ _ _ (by simp)).trans p1))
            have s0 := kept hb3 ((World.cell?_setCell_other _ ⟨w1.heap.size, 1, none⟩ ⟨w.heap.size, 0, none⟩ (.int .i64 L) (by simp)).trans ((World.cell?_setCell_other _ ⟨w1.heap.size, 0, none⟩ ⟨w.heap.size, 0, none⟩ (.int .i64 A) (by simp)).trans r0.out))
            have s1 := kept hb3 ((World.cell?_setCell_other _ ⟨w1.heap.size, 1, none⟩ ⟨w.heap.size, 1, none⟩ (.int .i64 L) (by simp)).trans ((World.cell?_setCell_other _ ⟨w1.heap.size, 0, none⟩ ⟨w.heap.size, 1, none⟩ (.int .i64 A) (by simp)).trans r1.out))
            have t0 := keptF hb3 ((World.cell?_setCell_other _ ⟨w1.heap.size, 1, none⟩ ⟨w.heap.size, 0, none⟩ (.int .i64 L) (by simp)).trans ((World.cell?_setCell_other _ ⟨w1.heap.size, 0, none⟩ ⟨w.heap.size, 0, none⟩ (.int .i64 A) (by simp)).trans r0.out)) ((World.frozen?_setCell _ _ _ _).trans ((World.frozen?_setCell _ _ _ _).trans g0.out))
            have t1 := keptF hb3 ((World.cell?_setCell_other _ ⟨w1.heap.size, 1, none⟩ ⟨w.heap.size, 1, none⟩ (.int .i64 L) (by simp)).trans ((World.cell?_setCell_other _ ⟨w1.heap.size, 0, none⟩ ⟨w.heap.size, 1, none⟩ (.int .i64 A) (by simp)).trans r1.out)) ((World.frozen?_setCell _ _ _ _).trans ((World.frozen?_setCell _ _ _ _).trans g1.out))
            have B3 := Lib.hid (((B2.out.setCell (p := ⟨w1.heap.size, 0, none⟩) (Nat.le_of_lt hz) (.int .i64 A)).setCell (p := ⟨w1.heap.size, 1, none⟩) (Nat.le_of_lt hz) (.int .i64 L)).trans (hb3.mono (by have := B2.out.size; simpa using this)))
            clear hb3 p0 p1 f0 f1
            go_wp2
            refine bodyPost_ret (v := .tuple #[.agg #[.int .i64 0, .int .i64 0], .bool false]) ?_ rfl ?_
            · have m1 : ((w3.setCell ⟨w.heap.size, 0, none⟩ (.int .i64 0)).setCell ⟨w.heap.size, 1, none⟩ (.int .i64 0)).cell? ⟨w.heap.size, 1, none⟩ = some (.int .i64 0) := World.cell?_setCell_same _ _ _ ((World.cell?_setCell_other _ _ _ _ (by simp)).trans s1)
              have m0 : ((w3.setCell ⟨w.heap.size, 0, none⟩ (.int .i64 0)).setCell ⟨w.heap.size, 1, none⟩ (.int .i64 0)).cell? ⟨w.heap.size, 0, none⟩ = some (.int .i64 0) := (World.cell?_setCell_other _ _ _ _ (by simp)).trans (World.cell?_setCell_same _ _ _ s0)
              simp [results, Tryz.results14, go_sem, m0, m1]
            · refine ⟨?_, (B3.out.setCell (Nat.le_refl _) _).setCell (Nat.le_refl _) _⟩
              rw [hfin.out]; rfl
          · have hfin := Lib.hid (Hres.out.trans (mk_yes (by omega) hF))
            have hP := HP.out
            rw [hF] at hP
            have hA := (pfault_zero hF).1
            have hL : 0 ≤ optI (tx.whole y 2) := by omega
            generalize hgA : optI (tx.readAddr x) = A at *
            have HgA := Lib.hid hgA
            generalize hgL : optI (tx.whole y 2) = L at *
            have HgL := Lib.hid hgL
            clear hgA hgL hF
            go_wp2_with (go_at_call 23; refine (hWh _).mono ?_; rintro e w' ⟨rfl, rfl⟩)
            refine (hP _).mono ?_
            rintro e w3 ⟨rfl, hb3⟩
            have q0 := kept hb3 ((World.cell?_setCell_other _ _ _ _ (by simp)).trans (World.cell?_setCell_same _ _ _ p0))
            have q1 := kept hb3 (World.cell?_setCell_same _ _ _ ((World.cell?_setCell_other _ _ _ _ (by simp)).trans p1))
            have s0 := kept hb3 ((World.cell?_setCell_other _ ⟨w1.heap.size, 1, none⟩ ⟨w.heap.size, 0, none⟩ (.int .i64 L) (by simp)).trans ((World.cell?_setCell_other _ ⟨w1.heap.size, 0, none⟩ ⟨w.heap.size, 0, none⟩ (.int .i64 A) (by simp)).trans r0.out))
            have s1 := kept hb3 ((World.cell?_setCell_other _ ⟨w1.heap.size, 1, none⟩ ⟨w.heap.size, 1, none⟩ (.int .i64 L) (by simp)).trans ((World.cell?_setCell_other _ ⟨w1.heap.size, 0, none⟩ ⟨w.heap.size, 1, none⟩ (.int .i64 A) (by simp)).trans r1.out))
            have t0 := keptF hb3 ((World.cell?_setCell_other _ ⟨w1.heap.size, 1, none⟩ ⟨w.heap.size, 0, none⟩ (.int .i64 L) (by simp)).trans ((World.cell?_setCell_other _ ⟨w1.heap.size, 0, none⟩ ⟨w.heap.size, 0, none⟩ (.int .i64 A) (by simp)).trans r0.out)) ((World.frozen?_setCell _ _ _ _).trans ((World.frozen?_setCell _ _ _ _).trans g0.out))
            have t1 := keptF hb3 ((World.cell?_setCell_other _ ⟨w1.heap.size, 1, none⟩ ⟨w.heap.size, 1, none⟩ (.int .i64 L) (by simp)).trans ((World.cell?_setCell_other _ ⟨w1.heap.size, 0, none⟩ ⟨w.heap.size, 1, none⟩ (.int .i64 A) (by simp)).trans r1.out)) ((World.frozen?_setCell _ _ _ _).trans ((World.frozen?_setCell _ _ _ _).trans g1.out))
            have B3 := Lib.hid (((B2.out.setCell (p := ⟨w1.heap.size, 0, none⟩) (Nat.le_of_lt hz) (.int .i64 A)).setCell (p := ⟨w1.heap.size, 1, none⟩) (Nat.le_of_lt hz) (.int .i64 L)).trans (hb3.mono (by have := B2.out.size; simpa using this)))
            clear hb3 p0 p1 f0 f1
            go_wp2
            refine bodyPost_ret (v := .tuple #[.agg #[.int .i64 A, .int .i64 L], .bool true]) ?_ rfl ?_
            · have m1 : ((w3.setCell ⟨w.heap.size, 0, none⟩ (.int .i64 A)).setCell ⟨w.heap.size, 1, none⟩ (.int .i64 L)).cell? ⟨w.heap.size, 1, none⟩ = some (.int .i64 L) := World.cell?_setCell_same _ _ _ ((World.cell?_setCell_other _ _ _ _ (by simp)).trans s1)
              have m0 : ((w3.setCell ⟨w.heap.size, 0, none⟩ (.int .i64 A)).setCell ⟨w.heap.size, 1, none⟩ (.int .i64 L)).cell? ⟨w.heap.size, 0, none⟩ = some (.int .i64 A) := (World.cell?_setCell_other _ _ _ _ (by simp)).trans (World.cell?_setCell_same _ _ _ s0)
              simp [results, Tryz.results14, go_sem, m0, m1]
            · refine ⟨?_, (B3.out.setCell (Nat.le_refl _) _).setCell (Nat.le_refl _) _⟩
              rw [hfin.out]
              show _ = Ending.returned (.tuple #[.agg #[.int .i64 (A.toNat : Int), .int .i64 ((L : Int).toNat : Int)], .bool true])
              rw [Int.toNat_of_nonneg hA, Int.toNat_of_nonneg hL]
        · have hfin := Lib.hid (Hres.out.trans (mk_no (Or.inr hF)))
          have hP := HP.out
          generalize hgA : optI (tx.readAddr x) = A at *
          have HgA := Lib.hid hgA
          generalize hgL : optI (tx.whole y 2) = L at *
          have HgL := Lib.hid hgL
          generalize tx.pfault A L = F at hP hF
          have hF1 : (F == 0) = false := beq_eq_false_iff_ne.2 hF
          have hF2 : (F != 0) = true := bne_iff_ne.2 hF
          clear hgA hgL hF
          by_cases hL1 : L < 1
          all_goals
            go_wp2_with (go_at_call 23; refine (hWh _).mono ?_; rintro e w' ⟨rfl, rfl⟩)
            refine (hP _).mono ?_
            rintro e w3 ⟨rfl, hb3⟩
            have q0 := kept hb3 ((World.cell?_setCell_other _ _ _ _ (by simp)).trans (World.cell?_setCell_same _ _ _ p0))
            have q1 := kept hb3 (World.cell?_setCell_same _ _ _ ((World.cell?_setCell_other _ _ _ _ (by simp)).trans p1))
            have s0 := kept hb3 ((World.cell?_setCell_other _ ⟨w1.heap.size, 1, none⟩ ⟨w.heap.size, 0, none⟩ (.int .i64 L) (by simp)).trans ((World.cell?_setCell_other _ ⟨w1.heap.size, 0, none⟩ ⟨w.heap.size, 0, none⟩ (.int .i64 A) (by simp)).trans r0.out))
            have s1 := kept hb3 ((World.cell?_setCell_other _ ⟨w1.heap.size, 1, none⟩ ⟨w.heap.size, 1, none⟩ (.int .i64 L) (by simp)).trans ((World.cell?_setCell_other _ ⟨w1.heap.size, 0, none⟩ ⟨w.heap.size, 1, none⟩ (.int .i64 A) (by simp)).trans r1.out))
            have t0 := keptF hb3 ((World.cell?_setCell_other _ ⟨w1.heap.size, 1, none⟩ ⟨w.heap.size, 0, none⟩ (.int .i64 L) (by simp)).trans ((World.cell?_setCell_other _ ⟨w1.heap.size, 0, none⟩ ⟨w.heap.size, 0, none⟩ (.int .i64 A) (by simp)).trans r0.out)) ((World.frozen?_setCell _ _ _ _).trans ((World.frozen?_setCell _ _ _ _).trans g0.out))
            have t1 := keptF hb3 ((World.cell?_setCell_other _ ⟨w1.heap.size, 1, none⟩ ⟨w.heap.size, 1, none⟩ (.int .i64 L) (by simp)).trans ((World.cell?_setCell_other _ ⟨w1.heap.size, 0, none⟩ ⟨w.heap.size, 1, none⟩ (.int .i64 A) (by simp)).trans r1.out)) ((World.frozen?_setCell _ _ _ _).trans ((World.frozen?_setCell _ _ _ _).trans g1.out))
            have B3 := Lib.hid (((B2.out.setCell (p := ⟨w1.heap.size, 0, none⟩) (Nat.le_of_lt hz) (.int .i64 A)).setCell (p := ⟨w1.heap.size, 1, none⟩) (Nat.le_of_lt hz) (.int .i64 L)).trans (hb3.mono (by have := B2.out.size; simpa using this)))
            clear hb3 p0 p1 f0 f1
            go_wp2
            refine bodyPost_ret (v := .tuple #[.agg #[.int .i64 0, .int .i64 0], .bool false]) ?_ rfl ?_
            · have m1 : ((w3.setCell ⟨w.heap.size, 0, none⟩ (.int .i64 0)).setCell ⟨w.heap.size, 1, none⟩ (.int .i64 0)).cell? ⟨w.heap.size, 1, none⟩ = some (.int .i64 0) := World.cell?_setCell_same _ _ _ ((World.cell?_setCell_other _ _ _ _ (by simp)).trans s1)
              have m0 : ((w3.setCell ⟨w.heap.size, 0, none⟩ (.int .i64 0)).setCell ⟨w.heap.size, 1, none⟩ (.int .i64 0)).cell? ⟨w.heap.size, 0, none⟩ = some (.int .i64 0) := (World.cell?_setCell_other _ _ _ _ (by simp)).trans (World.cell?_setCell_same _ _ _ s0)
              simp [results, Tryz.results14, go_sem, m0, m1]
            · refine ⟨?_, (B3.out.setCell (Nat.le_refl _) _).setCell (Nat.le_refl _) _⟩
              rw [hfin.out]; rfl
      | cons z r =>
        have hres0 : tx.readPrefix l = none := hres
        have Hres := Lib.hid hres0
        have hlen : (x :: y :: z :: r).length = r.length + 3 := by simp
        rw [hlen] at hn ⊢
        have hm3 : 0 < r.length + 3 := by omega
        have hl2 : (((r.length + 3 : Nat) : Int) == 2) = false := beq_eq_false_iff_ne.2 (by omega)
        have hl3 : decide ((2 : Int) < ((r.length + 3 : Nat) : Int)) = true := by simp; omega
        have hfin := Hres
        generalize r.length + 3 = m at *
        clear hres hres0 hW hmem hne hcell hlen
        have hP := fun w => prefix_any (optI (tx.readAddr x)) 32 w
        have HP := Lib.hid hP
        clear hP
        go_wp2_with fail
        refine (readAddr_any x _ hx2).mono ?_
        rintro e w2 ⟨rfl, hb2⟩
        have p0 := kept hb2 (a := ⟨w1.heap.size, 0, none⟩) (v := .int .i64 0) (by simp)
        have p1 := kept hb2 (a := ⟨w1.heap.size, 1, none⟩) (v := .int .i64 32) (by simp)
        have f0 := keptF hb2 (a := ⟨w1.heap.size, 0, none⟩) (v := .int .i64 0) (b := false) (by simp) (by simp)
        have f1 := keptF hb2 (a := ⟨w1.heap.size, 1, none⟩) (v := .int .i64 32) (b := false) (by simp) (by simp)
        have r0 := Lib.hid (kept hb2 (keptA _ R0.out))
        have r1 := Lib.hid (kept hb2 (keptA _ R1.out))
        have g0 := Lib.hid (keptF hb2 (keptA _ R0.out) (keptAF _ R0.out F0.out))
        have g1 := Lib.hid (keptF hb2 (keptA _ R1.out) (keptAF _ R1.out F1.out))
        have B2 := Lib.hid ((B1.out.alloc (Nat.le_of_lt hz) (.cells #[.int .i64 0, .int .i64 32] 23)).trans (hb2.mono (by simp; omega)))
        clear hb2
        have hP := HP.out
        generalize hgA : optI (tx.readAddr x) = A at *
        have HgA := Lib.hid hgA
        generalize tx.pfault A 32 = F at hP
        clear hgA
        go_wp2_with fail
        refine (hP _).mono ?_
        rintro e w3 ⟨rfl, hb3⟩
        have q0 := kept hb3 (World.cell?_setCell_same _ _ _ p0)
        have q1 := kept hb3 ((World.cell?_setCell_other _ _ _ _ (by simp)).trans p1)
        have s0 := kept hb3 ((World.cell?_setCell_other _ ⟨w1.heap.size, 0, none⟩ ⟨w.heap.size, 0, none⟩ (.int .i64 A) (by simp)).trans r0.out)
        have s1 := kept hb3 ((World.cell?_setCell_other _ ⟨w1.heap.size, 0, none⟩ ⟨w.heap.size, 1, none⟩ (.int .i64 A) (by simp)).trans r1.out)
        have t0 := keptF hb3 ((World.cell?_setCell_other _ ⟨w1.heap.size, 0, none⟩ ⟨w.heap.size, 0, none⟩ (.int .i64 A) (by simp)).trans r0.out) ((World.frozen?_setCell _ _ _ _).trans g0.out)
        have t1 := keptF hb3 ((World.cell?_setCell_other _ ⟨w1.heap.size, 0, none⟩ ⟨w.heap.size, 1, none⟩ (.int .i64 A) (by simp)).trans r1.out) ((World.frozen?_setCell _ _ _ _).trans g1.out)
        have B3 := Lib.hid ((B2.out.setCell (p := ⟨w1.heap.size, 0, none⟩) (Nat.le_of_lt hz) (.int .i64 A)).trans (hb3.mono (by have := B2.out.size; simpa using this)))
        clear hb3 p0 p1 f0 f1
        go_wp2
        refine bodyPost_ret (v := .tuple #[.agg #[.int .i64 0, .int .i64 0], .bool false]) ?_ rfl ?_
        · have m1 : ((w3.setCell ⟨w.heap.size, 0, none⟩ (.int .i64 0)).setCell ⟨w.heap.size, 1, none⟩ (.int .i64 0)).cell? ⟨w.heap.size, 1, none⟩ = some (.int .i64 0) := World.cell?_setCell_same _ _ _ ((World.cell?_setCell_other _ _ _ _ (by simp)).trans s1)
          have m0 : ((w3.setCell ⟨w.heap.size, 0, none⟩ (.int .i64 0)).setCell ⟨w.heap.size, 1, none⟩ (.int .i64 0)).cell? ⟨w.heap.size, 0, none⟩ = some (.int .i64 0) := (World.cell?_setCell_other _ _ _ _ (by simp)).trans (World.cell?_setCell_same _ _ _ s0)
          simp [results, Tryz.results14, go_sem, m0, m1]
        · refine ⟨?_, (B3.out.setCell (Nat.le_refl _) _).setCell (Nat.le_refl _) _⟩
          rw [hfin.out]; rfl

end Go.Proofs.YtjefehphfaamcaaGreatDoor
