/- append on a slice of the call's own: the new slice's block is the old one's, or a new one. -/
import Derived.WalkKit
import Derived.OwnWalk
import Derived.ArgAppend
import Derived.Laws.AppendOwn
namespace Go.Proofs.YtdjpkkppcdmdnaaGreatDoor
open Go.RowKit

theorem ownsRow_base {w : World} {B B' : Nat} {e : TypeId} {size n : Nat} {v : Value} {xs : List Value} (h : w.ownsRow B e size v n xs) (hb : B' ≤ B) : w.ownsRow B' e size v n xs :=
  ⟨h.1, h.2.imp id fun ⟨g, cap, cur, hv, hB, r⟩ => ⟨g, cap, cur, hv, Nat.le_trans hb hB, r⟩⟩
theorem grownBy_any {w w' : World} (h : w.grownBy w' none) (row : Option Nat) : w.grownBy w' row := ⟨h.os, h.tape, h.output, h.size, fun i hi _ => h.block i hi (fun e => by cases e)⟩

theorem wpList_append_own2 {P : Program} {w : World} {ops : Array Oper} {rest : List Oper} {o : Oper} {a : Act} {Q : Exit → Act → World → Prop} (hgd : o.guard = none) (s x : Operand) (t : TypeId)
    (ho : o.op = .call { callee := .builtin .append, args := #[s, x], argTypes := #[t, t] })
    (base : Nat) (e : TypeId) (i : TypeInfo) (z : Value) (size bytes : Nat) (ht : P.underlying t = some (.slice e)) (hi : P.info? e = some i) (hz : i.zero = some z)
    (hsize : i.size = size) (hby : i.bytes = bytes) (hzs : z.cells.size = size) (hsz : 0 < size)
    (v : Value) (n : Nat) (xs : List Value) (hs : a.eval s = v) (hown : w.ownsRow base e size v n xs)
    (ad : Addr) (m c : Nat) (news : List Value) (hx : a.eval x = .slice (some ad) m c) (hl : news.length = m * size) (hnews : ∀ j u, news[j]? = some u → w.cell? (ad.add j) = some u) (h1 : ∀ u ∈ news, u.oneCell' = true)
    (h63 : n + m ≤ maxLen) (hbytes : (n + m) * bytes ≤ 140737488355328) (hbase : base ≤ w.heap.size) (hm : 0 < m)
    (h : ∀ v' w', w'.ownsRow base e size v' (n + m) (xs ++ news) → w.grownBy w' v.ownBlock → (v'.ownBlock = v.ownBlock ∨ ∀ j, v'.ownBlock = some j → w.heap.size ≤ j) → wpList P ops Q rest (a.put o.dst v') w') : wpList P ops Q (o :: rest) a w := by
  have hown0 := hown
  obtain ⟨hxl, hown⟩ := hown
  rcases hown with ⟨hv, h0⟩ | ⟨g, cap, cur, hv, hB, hg, hn, hc, hcs, htk⟩
  · subst h0
    have hx0 : xs = [] := List.length_eq_zero_iff.1 (by simpa using hxl)
    subst hx0
    refine wpList_append_grows w hgd s x t ho e i z size bytes ht hi hz hsize hby hzs hsz none 0 0 [] (hs.trans hv) (fun _ => ⟨rfl, rfl⟩) (by simp) (fun b hb => by cases hb) ad m c news hx hl hnews h1 (by omega) h63 hbytes ?_
    intro v' w' ho' hg'
    exact h v' w' (ownsRow_base ho' hbase) (grownBy_any hg' _) (.inr fun j hj => (ho'.lt j hj).1)
  · by_cases hf : n + m ≤ cap
    · have hown' : w.ownsRow base e size (.slice (some ⟨g, 0, none⟩) n cap) n xs := hv ▸ hown0
      refine wpList_append_fits w hgd s x t ho base e i size ht hi hsize g n cap xs (hs.trans hv) hown' ad m c news hx hl hnews h1 hf ?_
      intro w' ho' hg'
      have hvo : v.ownBlock = some g := by rw [hv]; rfl
      exact h _ w' ho' (by rw [hvo]; exact hg') (.inl (by rw [hvo]; rfl))
    · have hown' : w.ownsRow base e size (.slice (some ⟨g, 0, none⟩) n cap) n xs := hv ▸ hown0
      refine wpList_append_grows w hgd s x t ho e i z size bytes ht hi hz hsize hby hzs hsz (some ⟨g, 0, none⟩) n cap xs (hs.trans hv) (fun hb => by cases hb) hxl (fun b hb j u hj => ?_) ad m c news hx hl hnews h1 (by omega) h63 hbytes ?_
      · injection hb with hb
        subst hb
        have hjl : j < n * size := by rw [← hxl]; exact (List.getElem?_eq_some_iff.1 hj).1
        have := hown'.cellAt j hjl
        rw [hj] at this
        have a0 : (⟨g, 0, none⟩ : Addr).add j = ⟨g, j, none⟩ := by unfold Addr.add; split <;> simp_all
        rw [a0]; exact this
      · intro v' w' ho' hg'
        exact h v' w' (ownsRow_base ho' hbase) (grownBy_any hg' _) (.inr fun j hj => (ho'.lt j hj).1)

end Go.Proofs.YtdjpkkppcdmdnaaGreatDoor
