/- What ParsePrefix finds is what ReadPrefix finds: the plain law; and two structs in memory. -/
import Derived.Test.YtjefehphfaamcaaGreatDoorParse
namespace Go.Proofs.YtjefehphfaamcaaGreatDoor
open Go.RowKit

/-- what ParsePrefix makes of an address and a number -/
def goRes (ra : Option Nat) (gv : Option Int) : Option (Nat × Nat) := match ra, gv with
  | some a, some v => if v ≠ 0 ∧ tx.pfault a v = 0 then some (a, v.toNat) else none
  | _, _ => none

theorem dec_no_slash (n : Nat) : (47 : UInt8) ∉ Lib.decDigits n := by
  intro h
  have := (tx.decDigits_good n).1
  rw [List.all_eq_true] at this
  have := this 47 h
  revert this
  decide
theorem itoa_no_slash (v : Int) : (47 : UInt8) ∉ Lib.itoa v := by
  unfold Lib.itoa
  split
  · intro h
    rcases List.mem_cons.1 h with h | h
    · revert h; decide
    · exact dec_no_slash _ h
  · exact dec_no_slash _
theorem goNum_slash {r : List UInt8} (h : (47 : UInt8) ∈ r) : tx.goNum r = none := by
  cases hg : tx.goNum r with
  | none => rfl
  | some v =>
    unfold tx.goNum at hg
    split at hg
    · rename_i u hu
      split at hg
      · rename_i e; rw [← e] at h; exact absurd h (itoa_no_slash u)
      · cases hg
    · cases hg

theorem readP_plain {s : List UInt8} (h : (47 : UInt8) ∉ s) (he : s ≠ tx.anyT) : tx.readPrefix s = goRes (tx.readAddr s) (some 32) := by
  unfold tx.readPrefix
  rw [if_neg he, tx.cutF_free 47 s h]
  show tx.mkPrefix (tx.readAddr s) (some 32) = _
  cases tx.readAddr s with
  | none => rfl
  | some a =>
    show (if 1 ≤ 32 ∧ tx.pfault (a : Int) ((32 : Nat) : Int) = 0 then some (a, 32) else none) = if (32 : Int) ≠ 0 ∧ tx.pfault a 32 = 0 then some (a, (32 : Int).toNat) else none
    have : ((32 : Nat) : Int) = 32 := rfl
    rw [this]
    by_cases hp : tx.pfault (a : Int) 32 = 0
    · rw [if_pos ⟨by decide, hp⟩, if_pos ⟨by decide, hp⟩]; rfl
    · rw [if_neg fun x => hp x.2, if_neg fun x => hp x.2]

theorem readP_cut {p r : List UInt8} (hp : (47 : UInt8) ∉ p) (he : p ++ 47 :: r ≠ tx.anyT) : tx.readPrefix (p ++ 47 :: r) = goRes (tx.readAddr p) (tx.goNum r) := by
  unfold tx.readPrefix
  rw [if_neg he, tx.cutF_app 47 r p hp]
  by_cases hr : (47 : UInt8) ∈ r
  · obtain ⟨q, t, e, hq⟩ : ∃ q t, r = q ++ 47 :: t ∧ (47 : UInt8) ∉ q := by
      rcases tx.index_one 47 r with ⟨_, h⟩ | ⟨q, t, h1, h2, _⟩
      · exact absurd hr h
      · exact ⟨q, t, h1, h2⟩
    rw [goNum_slash hr]
    have e2 : tx.cutF 47 r = q :: tx.cutF 47 t := by rw [e, tx.cutF_app 47 t q hq]
    rw [e2]
    have hn : goRes (tx.readAddr p) none = none := by unfold goRes; split <;> simp_all
    rw [hn]
    cases ht : tx.cutF 47 t with
    | nil => exact absurd ht (tx.cutF_ne 47 t)
    | cons x y => rfl
  · rw [tx.cutF_free 47 r hr]
    show tx.mkPrefix (tx.readAddr p) (tx.whole r 2) = _
    cases tx.readAddr p with
    | none => unfold tx.mkPrefix goRes; split <;> simp_all
    | some a =>
      cases hg : tx.goNum r with
      | none =>
        cases hw : tx.whole r 2 with
        | none => rfl
        | some n =>
          show (if 1 ≤ n ∧ tx.pfault (a : Int) (n : Int) = 0 then some (a, n) else none) = none
          rw [if_neg]
          rintro ⟨h1, h2⟩
          have := pfault_zero h2
          have := (tx.goNum_small (l := r) (n := n) (by omega)).2 (tx.whole_some.1 hw).1
          rw [hg] at this; cases this
      | some v =>
        show _ = if v ≠ 0 ∧ tx.pfault (a : Int) v = 0 then some (a, v.toNat) else none
        by_cases hv : v ≠ 0 ∧ tx.pfault (a : Int) v = 0
        · rw [if_pos hv]
          obtain ⟨h1, h2, h3, h4⟩ := pfault_zero hv.2
          obtain ⟨n, rfl⟩ := Int.eq_ofNat_of_zero_le h3
          have hd := (tx.goNum_small (l := r) (n := n) (by omega)).1 hg
          have hw : tx.whole r 2 = some n := tx.whole_some.2 ⟨hd, by rw [hd]; exact tx.len_small2 ⟨n, by omega⟩⟩
          rw [hw]
          show (if 1 ≤ n ∧ tx.pfault (a : Int) (n : Int) = 0 then some (a, n) else none) = _
          rw [if_pos ⟨by have := hv.1; omega, hv.2⟩]; rfl
        · rw [if_neg hv]
          cases hw : tx.whole r 2 with
          | none => rfl
          | some n =>
            show (if 1 ≤ n ∧ tx.pfault (a : Int) (n : Int) = 0 then some (a, n) else none) = none
            rw [if_neg]
            rintro ⟨h1, h2⟩
            have hx := pfault_zero h2
            have := (tx.goNum_small (l := r) (n := n) (by omega)).2 (tx.whole_some.1 hw).1
            rw [hg] at this
            injection this with this
            subst this
            exact hv ⟨by omega, h2⟩

/-- two structs of two ints in memory: R is all 0; P holds A and L -/
structure PR (w : World) (R P : Nat) (A L : Int) : Prop where
  r0 : w.cell? ⟨R, 0, none⟩ = some (.int .i64 0)
  r1 : w.cell? ⟨R, 1, none⟩ = some (.int .i64 0)
  p0 : w.cell? ⟨P, 0, none⟩ = some (.int .i64 A)
  p1 : w.cell? ⟨P, 1, none⟩ = some (.int .i64 L)
  f0 : w.frozen? ⟨R, 0, none⟩ = false
  f1 : w.frozen? ⟨R, 1, none⟩ = false
  g0 : w.frozen? ⟨P, 0, none⟩ = false
  g1 : w.frozen? ⟨P, 1, none⟩ = false
theorem PR.below {w w' : World} {R P : Nat} {A L : Int} (h : PR w R P A L) (hb : Below w.heap.size w w') : PR w' R P A L :=
  ⟨kept hb h.r0, kept hb h.r1, kept hb h.p0, kept hb h.p1, keptF hb h.r0 h.f0, keptF hb h.r1 h.f1, keptF hb h.p0 h.g0, keptF hb h.p1 h.g1⟩
theorem PR.set0 {w : World} {R P : Nat} {A L : Int} (h : PR w R P A L) (hne : P ≠ R) (x : Int) : PR (w.setCell ⟨P, 0, none⟩ (.int .i64 x)) R P x L :=
  ⟨(World.cell?_setCell_other _ _ _ _ (fun e => hne (congrArg Addr.block e))).trans h.r0, (World.cell?_setCell_other _ _ _ _ (by simp)).trans h.r1, World.cell?_setCell_same _ _ _ h.p0, (World.cell?_setCell_other _ _ _ _ (by simp)).trans h.p1,
    (World.frozen?_setCell _ _ _ _).trans h.f0, (World.frozen?_setCell _ _ _ _).trans h.f1, (World.frozen?_setCell _ _ _ _).trans h.g0, (World.frozen?_setCell _ _ _ _).trans h.g1⟩
theorem PR.set1 {w : World} {R P : Nat} {A L : Int} (h : PR w R P A L) (hne : P ≠ R) (x : Int) : PR (w.setCell ⟨P, 1, none⟩ (.int .i64 x)) R P A x :=
  ⟨(World.cell?_setCell_other _ _ _ _ (by simp)).trans h.r0, (World.cell?_setCell_other _ _ _ _ (fun e => hne (congrArg Addr.block e))).trans h.r1, (World.cell?_setCell_other _ _ _ _ (by simp)).trans h.p0, World.cell?_setCell_same _ _ _ h.p1,
    (World.frozen?_setCell _ _ _ _).trans h.f0, (World.frozen?_setCell _ _ _ _).trans h.f1, (World.frozen?_setCell _ _ _ _).trans h.g0, (World.frozen?_setCell _ _ _ _).trans h.g1⟩

/-- what ParsePrefix hands back -/
def parsePV : Option (Nat × Nat) → Value
  | some (a, n) => .tuple #[.agg #[.int .i64 a, .int .i64 n], .nilIface]
  | none => .tuple #[.agg #[.int .i64 0, .int .i64 0], .iface 44 (.int .i64 2)]

end Go.Proofs.YtjefehphfaamcaaGreatDoor
