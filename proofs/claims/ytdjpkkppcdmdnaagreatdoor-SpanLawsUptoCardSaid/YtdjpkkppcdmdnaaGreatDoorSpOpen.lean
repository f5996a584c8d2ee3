/- A slice of pairs, as the row reads it: spans. -/
import Derived.Test.YtdjpkkppcdmdnaaGreatDoorSpSort
import Derived.Deep.Slices
import Derived.OpenShut
import Derived.ChangeShapes
import Derived.Deep.DeepHandedRow
namespace Go.Proofs.YtdjpkkppcdmdnaaGreatDoor
open Go.RowKit Go.ChangeShapes Go.WideShapes

theorem trod_array2 {H : Type} {enc : TypeId × Value → H} {P : Program} {w : World} {base : Nat} {spare : Nat → Bool} {held : Bool} {t e : TypeId} {fuel : Nat} {c0 c1 : Value} {x : DataW H × List MemPlace} (ht : P.underlying t = some (.array 2 e)) (hce : P.cellsOf e = 1)
    (h : DataW.trod enc P w base spare held fuel t [c0, c1] = some x) :
    ∃ y0 y1 n, x = (.agg [y0.1, y1.1], y0.2 ++ y1.2) ∧ DataW.trod enc P w base spare held n e [c0] = some y0 ∧ DataW.trod enc P w base spare held n e [c1] = some y1 := by
  cases fuel with
  | zero => simp [DataW.trod] at h
  | succ n =>
    unfold DataW.trod at h
    rw [ht] at h
    have r2 : List.range 2 = [0, 1] := rfl
    simp [r2, hce] at h
    obtain ⟨_, h⟩ := h
    cases h0 : DataW.trod enc P w base spare held n e [c0] with
    | none => simp [h0] at h
    | some y0 =>
      cases h1 : DataW.trod enc P w base spare held n e [c1] with
      | none => simp [h0, h1] at h
      | some y1 =>
        simp [h0, h1] at h
        exact ⟨y0, y1, n, h.symm, h0, h1⟩

theorem cells_two {w : World} {base : Nat} {a : Addr} {cs : List Value} (h : w.cells? base a 2 = some cs) : ∃ c0 c1, cs = [c0, c1] ∧ w.cell? a = some c0 ∧ w.cell? (a.add 1) = some c1 := by
  unfold World.cells? at h
  split at h
  · have r2 : List.range 2 = [0, 1] := rfl
    rw [r2] at h
    cases h0 : w.cell? (a.add 0) with
    | none => simp [h0] at h
    | some c0 =>
      cases h1 : w.cell? (a.add 1) with
      | none => simp [h0, h1] at h
      | some c1 =>
        simp [h0, h1] at h
        exact ⟨c0, c1, h.symm, h0, rfl⟩
  · cases h

/-- an element: two numbers -/
theorem pair_open {H : Type} {enc : TypeId × Value → H} {w : World} {base fuel : Nat} {a : Addr} {spare : Nat → Bool} {held : Bool} {cs : List Value} {D : DataW H} {pl : List MemPlace} (hc : w.cells? base a 2 = some cs)
    (h : DataW.trod enc Tryz.prog w base spare held fuel 27 cs = some (D, pl)) :
    ∃ x y : Int, w.cell? a = some (.int .i64 x) ∧ w.cell? (a.add 1) = some (.int .i64 y) ∧ D = .agg [.lit (.int .i64 x), .lit (.int .i64 y)] := by
  obtain ⟨c0, c1, rfl, k0, k1⟩ := cells_two hc
  obtain ⟨y0, y1, n, e, h0, h1⟩ := trod_array2 Tryz.underlying27 (by kernel_rfl) h
  obtain ⟨x, e0, rfl, _⟩ := DataW.trod_int Tryz.underlying3 h0
  obtain ⟨y, e1, rfl, _⟩ := DataW.trod_int Tryz.underlying3 h1
  simp at e0 e1
  subst e0 e1
  injection e with e _
  exact ⟨x, y, k0, k1, e⟩

def intAt (w : World) (a : Addr) : Int := match w.cell? a with
  | some (.int _ z) => z
  | _ => 0
def pairData {H : Type} (s : sp.Span) : DataW H := .agg [.lit (.int .i64 s.1), .lit (.int .i64 s.2)]

/-- A SLICE OF PAIRS, OPENED -/
theorem spans_open {H : Type} {enc : TypeId × Value → H} {w : World} {base fuel : Nat} {spare : Nat → Bool} {held : Bool} {v : Value} {x : DataW H × List MemPlace} (hpl : Plain v)
    (h : DataW.trod enc Tryz.prog w base spare held fuel 22 [v] = some x) (hsz : ∀ es r, x.1 = .slice es r → es.length ≤ 1048576) :
    ∃ l, RdS w v l ∧ (x.1 = .nil ∧ l = [] ∨ ∃ r, x.1 = .slice (l.map pairData) r) := by
  have hc2 : Tryz.prog.cellsOf 27 = 2 := by kernel_rfl
  rcases Go.Deep.open_slice Tryz.underlying22 h with ⟨e, rfl⟩ | ⟨a, len, cap, m, n, D, Pl, e, hb, hl, hm, hmm, rfl, hx⟩
  · injection e with e
    exact ⟨[], ⟨none, 0, e, Nat.zero_le _, fun h => absurd rfl h⟩, .inl ⟨rfl, rfl⟩⟩
  · injection e with e
    obtain ⟨g, off, rfl⟩ := hpl.at_ _ _ _ e
    have hml : len ≤ m := by rw [hmm]; split <;> omega
    rw [hc2] at hx
    have hz := hsz _ _ rfl
    simp at hz
    have hp : ∀ i, i < len → w.cell? ⟨g, off + i * 2, none⟩ = some (.int .i64 (intAt w ⟨g, off + i * 2, none⟩)) ∧ w.cell? ⟨g, off + i * 2 + 1, none⟩ = some (.int .i64 (intAt w ⟨g, off + i * 2 + 1, none⟩)) ∧ D i = pairData (intAt w ⟨g, off + i * 2, none⟩, intAt w ⟨g, off + i * 2 + 1, none⟩) := by
      intro i hi
      obtain ⟨cs, h1, h2⟩ := hx i (by omega)
      obtain ⟨p, q, k0, k1, e1⟩ := pair_open h1 h2
      have a0 : (⟨g, off, none⟩ : Addr).add (i * 2) = ⟨g, off + i * 2, none⟩ := by unfold Addr.add; split <;> simp_all
      rw [a0] at k0 k1
      have a1 : (⟨g, off + i * 2, none⟩ : Addr).add 1 = ⟨g, off + i * 2 + 1, none⟩ := rfl
      rw [a1] at k1
      have q0 : intAt w ⟨g, off + i * 2, none⟩ = p := by unfold intAt; rw [k0]
      have q1 : intAt w ⟨g, off + i * 2 + 1, none⟩ = q := by unfold intAt; rw [k1]
      rw [q0, q1]
      exact ⟨k0, k1, e1⟩
    refine ⟨(List.range len).map fun i => (intAt w ⟨g, off + i * 2, none⟩, intAt w ⟨g, off + i * 2 + 1, none⟩), ⟨some ⟨g, off, none⟩, cap, by simpa using e, by simp; omega, fun _ => ⟨g, off, rfl, fun j hj => ?_⟩⟩, .inr ⟨(List.range (m - len)).map fun j => D (len + j), ?_⟩⟩
    · simp at hj
      have := hp j hj
      simpa using ⟨this.1, this.2.1⟩
    · have hl2 : (List.range len).map D = ((List.range len).map fun i => (intAt w ⟨g, off + i * 2, none⟩, intAt w ⟨g, off + i * 2 + 1, none⟩)).map pairData := by
        rw [List.map_map]
        exact List.map_congr_left fun i hi => (hp i (List.mem_range.1 hi)).2.2
      rw [← hl2]

end Go.Proofs.YtdjpkkppcdmdnaaGreatDoor
