/- slices.Clone, slices.SortFunc at [][2]int, as span.Tidy calls them. -/
import Derived.Test.YtdjpkkppcdmdnaaGreatDoorSpMem
import Derived.Test.YtdjpkkppcdmdnaaGreatDoorShelf
import Derived.Shelf.SlSortCmp.NoneTotal
namespace Go.Proofs.YtdjpkkppcdmdnaaGreatDoor
open Go.RowKit Go.Lib Go.Sort

theorem infoPair2 : (Tryz.prog.info? 27).map (fun i => (i.zero, i.size, i.bytes)) = some (some (.agg #[.int .i64 0, .int .i64 0]), 2, 16) := by kernel_rfl
theorem sizePair : ∀ w, (Go.sizeOf 27).run Tryz.prog w = .ok 2 w := fun w => by
  simp [Go.sizeOf, go_sem]
  rfl
theorem aggPair : ∀ w, (isAgg 27).run Tryz.prog w = .ok true w := fun w => by
  simp [isAgg, underlying, Tryz.underlying27, go_sem]

def encS (s : sp.Span) : List Value := [.int .i64 s.1, .int .i64 s.2]
theorem encS_len (s : sp.Span) : (encS s).length = 2 := rfl
theorem encS_one (s : sp.Span) : ∀ v ∈ encS s, v.oneCell' = true := fun v hv => by
  simp [encS] at hv; rcases hv with rfl | rfl <;> rfl
def cfS (x y : sp.Span) : Int := Lib.compareInt x.1 y.1
theorem ltS (x y : sp.Span) : ltOf cfS x y = decide (x.1 < y.1) := by
  unfold ltOf cfS Lib.compareInt
  by_cases h1 : x.1 < y.1
  · simp [h1]
  · by_cases h2 : y.1 < x.1 <;> simp [h1, h2]
theorem swoS : SWO (ltOf cfS) where
  irrefl x := by rw [ltS]; simp
  trans x y z h1 h2 := by rw [ltS] at *; simp at *; omega
  ntrans x y z h1 h2 := by rw [ltS] at *; simp at *; omega

set_option maxHeartbeats 1000000 in
theorem tidyLess_any (x y : sp.Span) (W : World) : Calls Tryz.prog 43 #[.agg #[.int .i64 x.1, .int .i64 x.2], .agg #[.int .i64 y.1, .int .i64 y.2]] W fun e w' => e = .returned (.int .i64 (cfS x y)) ∧ ∃ q os', w' = grow (W.drewN q) os' := by
  have hcon := fun W' => Any.cmp_Compare_int Tryz.lays122 x.1 y.1 W'
  change ∀ W', Calls Tryz.prog 44 _ _ _ at hcon
  have hc : Lib.compareInt x.1 y.1 = cfS x y := rfl
  rw [hc] at hcon
  clear hc
  generalize cfS x y = r at hcon ⊢
  go_enter Tryz.func43, Tryz.ntmps43
  go_wp2_with (go_at_call 44; refine (hcon _).mono ?_; rintro e w' ⟨rfl, rfl⟩)
  go_ret
  exact ⟨rfl, 0, _, by rw [alloc_eq_grow, alloc_eq_grow, grow_grow]; rfl⟩
theorem cmpLaysS (blk off size : Nat) (w : World) : CmpLays Tryz.prog 43 #[] encS 2 cfS blk off size w :=
  fun _ _ _ _ x y => tidyLess_any x y _

theorem flatS_one (l : List sp.Span) : ∀ u ∈ flatS l, u.oneCell' = true := fun u hu => by
  simp only [flatS, List.mem_flatMap] at hu
  obtain ⟨s, _, hs⟩ := hu
  exact encS_one s u hs
theorem flatS_get (l : List sp.Span) (j : Nat) (u : Value) (h : (flatS l)[j]? = some u) : ∃ (h' : j / 2 < l.length), u = if j % 2 = 0 then .int .i64 l[j / 2].1 else .int .i64 l[j / 2].2 := by
  have hj : j < l.length * 2 := by rw [← flatS_len]; exact (List.getElem?_eq_some_iff.1 h).1
  have h' : j / 2 < l.length := by omega
  refine ⟨h', ?_⟩
  obtain ⟨a, b⟩ := flatS_at l (j / 2) h'
  rcases Nat.mod_two_eq_zero_or_one j with e | e
  · rw [if_pos e, ← Option.some.injEq, ← h, ← a, show j / 2 * 2 = j by omega]
  · rw [if_neg (by omega), ← Option.some.injEq, ← h, ← b, show j / 2 * 2 + 1 = j by omega]

/-- a slice's address is one of a block's cells -/
structure Plain (v : Value) : Prop where
  at_ : ∀ p n c, v = .slice (some p) n c → ∃ g off, p = ⟨g, off, none⟩
  nil : ∀ n c, v = .slice none n c → c = 0
theorem plain_nil : Plain (.slice none 0 0) := ⟨fun _ _ _ e => (by cases e), fun _ _ e => (by injection e with _ _ e; exact e.symm)⟩
theorem plain_owns {w : World} {B t k n : Nat} {v : Value} {xs : List Value} (h : w.ownsRow B t k v n xs) : Plain v := by
  rcases h.2 with ⟨hv, _⟩ | ⟨g, cap, cur, hv, _⟩
  · rw [hv]; exact plain_nil
  · rw [hv]
    exact ⟨fun p m c e => (by injection e with e; injection e with e; exact ⟨g, 0, e.symm⟩), fun m c e => (by injection e with e; cases e)⟩

set_option maxHeartbeats 1000000 in
theorem cloneSp_any (v : Value) (l : List sp.Span) (w : World) (hr : RdS w v l) (hpl : Plain v) (hn : l.length ≤ 1000000) :
    Calls Tryz.prog 41 #[v] w fun e w' => ∃ v', e = .returned v' ∧ w'.ownsRow w.heap.size 27 2 v' l.length (flatS l) ∧ Below w.heap.size w w' := by
  obtain ⟨i0, hi, hz0, hz1, hz2⟩ := info_parts infoPair2
  obtain ⟨a, cap, rfl, hl, hc⟩ := hr
  cases a with
  | none =>
    have hnil : l = [] := by
      by_cases h : l = []
      · exact h
      · obtain ⟨g, off, h1, _⟩ := hc h; cases h1
    subst hnil
    exact (AnyE.slices_Clone_nil Tryz.laysSlE041_f41 0 cap w).mono fun e w' ⟨h1, h2⟩ => ⟨_, h1, by subst h2; exact World.ownsRow_nil _ _ _ _, by subst h2; exact Below.refl _ _⟩
  | some p =>
    obtain ⟨b, off, r⟩ := p
    by_cases hne : l = []
    · subst hne
      obtain ⟨g, o, h1⟩ := hpl.at_ _ _ _ rfl
      injection h1 with h1 h2 h3
      subst h1 h2 h3
      exact (AnyE.slices_Clone Tryz.laysSlE041_f41 i0 (.agg #[.int .i64 0, .int .i64 0]) 2 16 hi hz0 hz1 hz2 rfl (by decide) sizePair b off 0 cap [] w rfl (by decide) (by decide) (fun j u hj => by cases hj) (fun u hu => by cases hu)).mono fun e w' ⟨v', h1, h2, _, h3⟩ => ⟨v', h1, h2, h3⟩
    · obtain ⟨g, o, h1, h2⟩ := hc hne
      injection h1 with h1
      obtain ⟨rfl, rfl, rfl⟩ : b = g ∧ off = o ∧ r = none := by injection h1 with a b c; exact ⟨a, b, c⟩
      refine (AnyE.slices_Clone Tryz.laysSlE041_f41 i0 (.agg #[.int .i64 0, .int .i64 0]) 2 16 hi hz0 hz1 hz2 rfl (by decide) sizePair b off l.length cap (flatS l) w (flatS_len l) (by unfold maxLen; omega) (by omega) (fun j u hj => ?_) (flatS_one l)).mono fun e w' ⟨v', h1, h2, _, h3⟩ => ⟨v', h1, h2, h3⟩
      obtain ⟨h', rfl⟩ := flatS_get l j u hj
      obtain ⟨c0, c1⟩ := h2 (j / 2) h'
      split
      · have e : off + j = off + j / 2 * 2 := by omega
        rw [e]; exact c0
      · have e : off + j = off + j / 2 * 2 + 1 := by omega
        rw [e]; exact c1

/-! ### the sort -/
theorem sorted_of_idx : ∀ (l : List sp.Span), (∀ (i j : Nat) (hi : i < j) (hj : j < l.length), (l[i]'(by omega)).1 ≤ l[j].1) → sp.sorted l = true
  | [], _ => rfl
  | s :: l, h => by
    unfold sp.sorted
    rw [Bool.and_eq_true]
    refine ⟨List.all_eq_true.2 fun t ht => ?_, sorted_of_idx l fun i j hi hj => ?_⟩
    · obtain ⟨j, hj, rfl⟩ := List.mem_iff_getElem.1 ht
      have := h 0 (j + 1) (by omega) (by simpa using hj)
      simpa using this
    · have := h (i + 1) (j + 1) (by omega) (by simpa using hj)
      simpa using this

theorem grownBy_sortK {w : World} {g off n : Nat} {os : Array Obj} (d : Array Value) : w.grownBy (grow (putRow id (Sort.ahead w n) g off d) os) (some g) := by
  refine ⟨rfl, rfl, rfl, by simp, fun k hk hne => ?_⟩
  rw [heap_grow_old _ _ (by simpa using hk)]
  have : g ≠ k := fun e => hne (by rw [e])
  simp [putRow, mapBlock, Sort.ahead, Array.getElem?_modify, this]

set_option maxHeartbeats 1000000 in
theorem sortSp_any (v : Value) (l : List sp.Span) (B : Nat) (w0 w : World) (hown : w.ownsRow B 27 2 v l.length (flatS l)) (hn : l.length ≤ 1000000) (hB : B ≤ w.heap.size) (hb : Below B w0 w) :
    Calls Tryz.prog 42 #[v, .func (.func 43) #[] #[]] w fun e w' => e = .returned (.tuple #[]) ∧ ∃ m, m.Perm l ∧ sp.sorted m = true ∧ RdS w' v m ∧ Below B w0 w' := by
  obtain ⟨hxl, h⟩ := hown
  rcases h with ⟨rfl, h0⟩ | ⟨g, cap, cur, rfl, hBg, hg, hnc, hcm, hcs, ht⟩
  · have : l = [] := List.length_eq_zero_iff.1 h0
    subst this
    exact (AnyF.slices_SortFunc_none Tryz.laysSlF06_f42 none 0 (.func (.func 43) #[] #[]) w).mono fun e w' ⟨h1, h2⟩ => by
      subst h2
      exact ⟨h1, [], .nil, rfl, ⟨none, 0, rfl, Nat.zero_le _, fun h => absurd rfl h⟩, hb⟩
  · have hglt : g < w.heap.size := (Array.getElem?_eq_some_iff.1 hg).1
    have hH : HoldsK encS 2 w g 0 l.toArray := by
      intro j hj
      have hj2 : j < l.length * 2 := by simpa using hj
      refine ⟨?_, by simp [World.frozen?, hg]⟩
      have h1 : cur.toList[j]? = (flatS l)[j]? := by rw [← ht, List.getElem?_take_of_lt hj2]
      have hfl := flatS_len l
      have h2 := flatS_get l j _ (List.getElem?_eq_getElem (show j < (flatS l).length by omega))
      obtain ⟨h', h3⟩ := h2
      have h4 : w.cell? ⟨g, 0 + j, none⟩ = cur[j]? := by simp [World.cell?, hg]
      rw [h4, ← Array.getElem?_toList, h1, List.getElem?_eq_getElem (show j < (flatS l).length by omega), h3]
      show some _ = some (flatK encS 2 l.toArray)[j]!
      rw [get_flatK _ _ _ _ (by simpa using hj2)]
      have e1 : l.toArray[j / 2]! = l[j / 2] := by simp [h']
      rw [e1]
      rcases Nat.mod_two_eq_zero_or_one j with e | e
      · rw [if_pos e, e]; rfl
      · rw [if_neg (by omega), e]; rfl
    have eg : ∀ args w, (callFunc 43 args).run Tryz.prog w = .ok (.enter 43 args) w := enters_of Tryz.func43 (by kernel_rfl) rfl
    have hcon := AnyQ.slices_SortFunc Tryz.laysSlF06_f42 2 aggPair sizePair encS encS_len encS_one cfS swoS 43 #[] g 0 cap l.toArray w eg (cmpLaysS g 0 l.toArray.size w) hH hglt (by simp; omega)
    refine hcon.mono ?_
    rintro e w' ⟨rfl, d', n, os, hp, hs, rfl⟩
    have hsz : d'.size = l.length := by simpa using hp.1
    refine ⟨rfl, d'.toList, ?_, sorted_of_idx _ fun i j hi hj => ?_, ⟨some ⟨g, 0, none⟩, cap, by simp [hsz], by simp; omega, fun _ => ⟨g, 0, rfl, fun j hj => ?_⟩⟩, hb.grown (grownBy_sortK _) hB (fun k hk => by injection hk with hk; omega)⟩
    · have := hp.2.2
      have e : List.take d'.size l = l := List.take_of_length_le (by omega)
      have h2 : d'.toList.Perm (List.take d'.size l) := by simpa [← hsz] using this
      rwa [e] at h2
    · have h1 := hs i j (Nat.zero_le _) hi (by simp at hj; simpa [hsz] using hj)
      rw [ltS, decide_eq_false_iff_not] at h1
      simp at hj
      have hi' : i < d'.size := by omega
      rw [getElem!_pos d' i hi', getElem!_pos d' j hj] at h1
      simp
      omega
    · have hH2 := holdsK_sortWorldK_c encS 2 w g 0 l.toArray d' n os hH hglt (by simpa using hsz)
      simp at hj
      have ha := (hH2 (j * 2) (by simp; omega)).1
      have hb2 := (hH2 (j * 2 + 1) (by simp; omega)).1
      rw [get_flatK _ _ _ _ (by omega)] at ha hb2
      rw [show j * 2 / 2 = j by omega, show j * 2 % 2 = 0 by omega, getElem!_pos d' j hj] at ha
      rw [show (j * 2 + 1) / 2 = j by omega, show (j * 2 + 1) % 2 = 1 by omega, getElem!_pos d' j hj] at hb2
      exact ⟨by simpa [encS] using ha, by simpa [Nat.add_assoc, encS] using hb2⟩

end Go.Proofs.YtdjpkkppcdmdnaaGreatDoor
