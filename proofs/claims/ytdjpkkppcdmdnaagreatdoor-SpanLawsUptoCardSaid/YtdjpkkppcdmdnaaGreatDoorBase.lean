/- Words that the walks share: rows of strings in memory, what a world that only grew keeps. -/
import Derived.Test.YtdjpkkppcdmdnaaGreatDoorRows
import Derived.Test.YtdjpkkppcdmdnaaGreatDoorTx
import Derived.WalkKit
import Derived.ProofKit
import Derived.OpenShut
import Derived.Below
import Derived.IntWalk
import Derived.Lib.ItoaLen
import Derived.Lib.Hide
import Derived.Outline
import Derived.Laws.AppendOwn
namespace Go.Proofs.YtdjpkkppcdmdnaaGreatDoor
open Go.RowKit

/-- a list of bytes as a string value -/
def strV (l : List UInt8) : Value := .string ⟨l.toArray⟩
theorem strV_def (l : List UInt8) : strV l = .string ⟨l.toArray⟩ := rfl
theorem strV_of (s : ByteArray) : Value.string s = strV s.data.toList := rfl

theorem mono {P : Program} {f : FuncId} {args : Array Value} {w : World} {Q R : Ending → World → Prop} (h : Calls P f args w Q) (k : ∀ e w', Q e w' → R e w') : Calls P f args w R := h.mono k

theorem bcell {W w1 : World} (hb : Below W.heap.size W w1) : (∀ b o, b < W.heap.size → w1.cell? ⟨b, o, none⟩ = W.cell? ⟨b, o, none⟩) ∧ (∀ b o, b < W.heap.size → w1.frozen? ⟨b, o, none⟩ = W.frozen? ⟨b, o, none⟩) :=
  ⟨fun b o h => hb.cell (p := ⟨b, o, none⟩) h, fun b o h => hb.frozen (p := ⟨b, o, none⟩) h⟩

theorem strV_size (l : List UInt8) : (⟨l.toArray⟩ : ByteArray).size = l.length := by simp [ByteArray.size]
theorem strAdd {P : Program} (t : TypeId) (a b : List UInt8) (h : a.length + b.length ≤ 9223372036854775807) (w : World) : (binOp .add t (strV a) (strV b)).run P w = .ok (strV (a ++ b)) w := by
  unfold strV
  rw [binOp_string_add, run_string_add_sum w _ _ (by rw [strV_size, strV_size]; exact h), ByteArray.mk_append_mk]

theorem strAddC {P : Program} (t : TypeId) (a c : List UInt8) (h : a.length + c.length ≤ 9223372036854775807) (w : World) : (binOp .add t (strV a) (.string ⟨c.toArray⟩)).run P w = .ok (strV (a ++ c)) w := strAdd t a c h w

theorem cell_lt {W : World} {a : Addr} {v : Value} (h : W.cell? a = some v) : a.block < W.heap.size := by
  rcases Nat.lt_or_ge a.block W.heap.size with h' | h'
  · exact h'
  · simp [World.cell?, Array.getElem?_eq_none h'] at h
/-- what a cell held it holds, in a world that only grew; and it is as frozen as it was -/
theorem kept {W w' : World} (hb : Below W.heap.size W w') {a : Addr} {v : Value} (h : W.cell? a = some v) : w'.cell? a = some v := (hb.cell (cell_lt h)).trans h
theorem keptF {W w' : World} (hb : Below W.heap.size W w') {a : Addr} {v : Value} (h : W.cell? a = some v) {b : Bool} (hf : W.frozen? a = b) : w'.frozen? a = b := (hb.frozen (cell_lt h)).trans hf
theorem keptA {W : World} (o : Obj) {a : Addr} {v : Value} (h : W.cell? a = some v) : (W.alloc o).cell? a = some v := kept ((Below.refl _ _).alloc (Nat.le_refl _) o) h
theorem keptAF {W : World} (o : Obj) {a : Addr} {v : Value} (h : W.cell? a = some v) {b : Bool} (hf : W.frozen? a = b) : (W.alloc o).frozen? a = b := keptF ((Below.refl _ _).alloc (Nat.le_refl _) o) h hf

theorem below_drewN {B : Nat} {a w : World} (h : Below B a w) (n : Nat) : Below B a (w.drewN n) := ⟨h.os, h.tape, h.output, h.size, h.block⟩

/-- v is a slice of these strings, in a block from B on -/
def RowOf (w : World) (B : Nat) (v : Value) (l : List (List UInt8)) : Prop :=
  ∃ g cap, v = .slice (some ⟨g, 0, none⟩) l.length cap ∧ B ≤ g ∧ g < w.heap.size ∧ l.length ≤ cap ∧ cap ≤ maxLen ∧ ∀ (j : Nat) x, l[j]? = some x → w.cell? ⟨g, j, none⟩ = some (strV x)

theorem rowOf_owns {w : World} {B t : Nat} {v : Value} {l : List (List UInt8)} (h : w.ownsRow B t 1 v l.length (l.map strV)) (hne : l ≠ []) : RowOf w B v l := by
  obtain ⟨_, h⟩ := h
  rcases h with ⟨_, h0⟩ | ⟨g, cap, cur, hv, hB, hg, hn, hc, hs, ht⟩
  · exact absurd (List.length_eq_zero_iff.1 h0) hne
  · refine ⟨g, cap, hv, hB, ?_, hn, hc, fun j x hj => ?_⟩
    · rcases Nat.lt_or_ge g w.heap.size with h | h
      · exact h
      · rw [Array.getElem?_eq_none h] at hg; cases hg
    · have hjl : j < l.length := (List.getElem?_eq_some_iff.1 hj).1
      have e : cur.toList[j]? = some (strV x) := by
        have : (cur.toList.take (l.length * 1))[j]? = some (strV x) := by rw [ht, List.getElem?_map, hj]; rfl
        rw [List.getElem?_take_of_lt (by omega)] at this
        exact this
      have hcell : w.cell? ⟨g, j, none⟩ = cur[j]? := by simp [World.cell?, hg]
      rw [hcell]
      simpa using e

theorem ownsRow_below {w w' : World} {base : Nat} {e : TypeId} {size : Nat} {v : Value} {n : Nat} {xs : List Value} (h : w.ownsRow base e size v n xs) (hb : Below w.heap.size w w') : w'.ownsRow base e size v n xs := by
  obtain ⟨h0, h⟩ := h
  refine ⟨h0, h.imp id fun ⟨g, cap, cur, hv, hB, hg, hr⟩ => ⟨g, cap, cur, hv, hB, ?_, hr⟩⟩
  rw [hb.block g ?_]
  · exact hg
  · rcases Nat.lt_or_ge g w.heap.size with h' | h'
    · exact h'
    · rw [Array.getElem?_eq_none h'] at hg; cases hg

theorem RowOf.below {w w' : World} {B : Nat} {v : Value} {l : List (List UInt8)} (h : RowOf w B v l) (hb : Below w.heap.size w w') : RowOf w' B v l := by
  obtain ⟨g, cap, hv, hB, hg, hn, hc, ht⟩ := h
  exact ⟨g, cap, hv, hB, Nat.lt_of_lt_of_le hg hb.size, hn, hc, fun j x hj => (hb.cell (p := ⟨g, j, none⟩) hg).trans (ht j x hj)⟩

/-- the error of a number -/
def errV (e : Int) : Value := if e = 0 then .nilIface else .iface 51 (.int .i64 e)
theorem errV0 : errV 0 = .nilIface := rfl

theorem errV1 : errV 1 = .iface 51 (.int .i64 1) := rfl
theorem errV3 : errV 3 = .iface 51 (.int .i64 3) := rfl

end Go.Proofs.YtdjpkkppcdmdnaaGreatDoor
