/- The library's functions by their contracts: strconv.Itoa, Atoi, strings.Split, Cut, Join; what the package-level variables hold. -/
import Derived.Test.YtdjpkkppcdmdnaaGreatDoorShelf
import Derived.Test.YtdjpkkppcdmdnaaGreatDoorBase
namespace Go.Proofs.YtdjpkkppcdmdnaaGreatDoor
open Go.RowKit Go.Sort

/-- the variables that the walks read; all lie below gTop -/
def gList : List Nat := [1, 4, 2, 3]
def gTop : Nat := gList.foldr Nat.max 0 + 1
theorem foldr_lt {n : Nat} (h0 : 0 < n) : ∀ (l : List Nat), (∀ k ∈ l, k < n) → l.foldr Nat.max 0 < n
  | [], _ => h0
  | k :: l, h => Nat.max_lt.2 ⟨h k (by simp), foldr_lt h0 l fun j hj => h j (by simp [hj])⟩
/-- what the listed package-level variables hold, as the walks want it -/
structure Glob (w : World) : Prop where
  max : ∃ m : Int, w.cell? ⟨1, 0, none⟩ = some (.int .i64 m)
  tab : Lib.TabIs Tryz.prog w "internal/strconv.uint64pow10" .u64 Lib.pow10Tab
  syn : ∃ t p, w.cell? ⟨2, 0, none⟩ = some (.iface t p)
  rng : ∃ t p, w.cell? ⟨3, 0, none⟩ = some (.iface t p)

theorem var_lt {w : World} {n : String} {g : Nat} {x : Array Value} (hg : Tryz.prog.globalNamed n = some g) (h : w.var? Tryz.prog n = some x) : g < w.heap.size := by
  unfold World.var? at h
  rw [hg] at h
  simp only [Option.bind_some] at h
  rcases Nat.lt_or_ge g w.heap.size with h' | h'
  · exact h'
  · rw [Array.getElem?_eq_none h'] at h; cases h
theorem Glob.top {w : World} (G : Glob w) : gTop ≤ w.heap.size := by
  have ht : 4 < w.heap.size := var_lt (by kernel_rfl) G.tab
  obtain ⟨_, hm⟩ := G.max
  obtain ⟨_, _, h1⟩ := G.syn
  obtain ⟨_, _, h2⟩ := G.rng
  have := foldr_lt (n := w.heap.size) (by omega) gList (fun k hk => by
    simp only [gList, List.mem_cons, List.not_mem_nil, or_false] at hk
    rcases hk with rfl | rfl | rfl | rfl
    · exact cell_lt hm
    · exact ht
    · exact cell_lt h1
    · exact cell_lt h2)
  unfold gTop
  omega

theorem tab_below {w w' : World} (h : Lib.TabIs Tryz.prog w "internal/strconv.uint64pow10" .u64 Lib.pow10Tab) (hb : Below w.heap.size w w') : Lib.TabIs Tryz.prog w' "internal/strconv.uint64pow10" .u64 Lib.pow10Tab := by
  have hg : Tryz.prog.globalNamed "internal/strconv.uint64pow10" = some 4 := by kernel_rfl
  unfold Lib.TabIs World.var? at h ⊢
  rw [hg] at h ⊢
  simp only [Option.bind_some] at h ⊢
  have hlt : 4 < w.heap.size := by
    rcases Nat.lt_or_ge 4 w.heap.size with h' | h'
    · exact h'
    · rw [Array.getElem?_eq_none h'] at h; cases h
  rw [hb.block 4 hlt]
  exact h

theorem Glob.below {w w' : World} (h : Glob w) (hb : Below w.heap.size w w') : Glob w' :=
  ⟨h.max.imp fun _ k => kept hb k, tab_below h.tab hb, h.syn.imp fun _ k => k.imp fun _ k => kept hb k, h.rng.imp fun _ k => k.imp fun _ k => kept hb k⟩

/-- .. and the handle of the type error, where the law asks for it -/
structure GlobE (w : World) : Prop where
  g : Glob w
  err : w.cell? ⟨0, 0, none⟩ = some (.iface 134 (.agg #[.pointer (some ⟨9, 24, none⟩)]))
theorem GlobE.below {w w' : World} (h : GlobE w) (hb : Below w.heap.size w w') : GlobE w' := ⟨h.g.below hb, kept hb h.err⟩

theorem below_grow (w : World) (k : Nat) (os : Array Obj) : Below w.heap.size w (grow (w.drewN k) os) :=
  ⟨rfl, rfl, rfl, by show w.heap.size ≤ (w.heap ++ os).size; rw [Array.size_append]; omega, fun j hj => by
    show (w.heap ++ os)[j]? = _
    rw [Array.getElem?_append_left hj]⟩

theorem itoa_any (n : Int) (h0 : -9223372036854775808 ≤ n) (h1 : n ≤ 9223372036854775807) (w : World) (G : Glob w) :
    Calls Tryz.prog 28 #[.int .i64 n] w fun e w' => e = .returned (strV (Lib.itoa n)) ∧ Below w.heap.size w w' :=
  (Any.strconv_Itoa Tryz.laysM171 n h0 h1 w G.tab).mono fun e w' ⟨he, k, os, hw⟩ => ⟨he, by rw [hw]; exact below_grow w k os⟩

theorem bytes_below (w : World) (e : TypeId) (s : ByteArray) : Below w.heap.size w (Lib.bytesWorld w e s) :=
  ⟨rfl, rfl, rfl, by rw [Lib.bytesWorld_size]; omega, fun i hi => Lib.bytesWorld_at_old w e s i hi⟩

theorem atoi_ok (l : List UInt8) (hs : l.length < 4294967281) (v : Int) (h : Lib.atoiAll l = .ok v) (w : World) :
    Calls Tryz.prog 26 #[strV l] w fun e w' => e = .returned (.tuple #[.int .i64 v, .nilIface]) ∧ Below w.heap.size w w' :=
  (Any.strconv_Atoi_ok Tryz.laysC172 ⟨l.toArray⟩ (by rw [strV_size]; omega) v h w).mono fun e w' ⟨he, hw⟩ => ⟨he, by
    rcases hw with rfl | ⟨t, rfl⟩
    · exact Below.refl _ _
    · exact bytes_below _ _ _⟩

/-- an error that is not nil -/
def BadEnd (e : Ending) : Prop := ∃ (v : Int) (t : TypeId) (p : Addr), e = .returned (.tuple #[.int .i64 v, .iface t (.pointer (some p))])

theorem atoi_bad (l : List UInt8) (hs : l.length < 4294967281) (h : ∀ v, Lib.atoiAll l ≠ .ok v) (w : World) (G : Glob w) :
    Calls Tryz.prog 26 #[strV l] w fun e w' => BadEnd e ∧ Below w.heap.size w w' := by
  obtain ⟨t1, p1, k1⟩ := G.syn
  obtain ⟨t2, p2, k2⟩ := G.rng
  cases hc : Lib.atoiAll l with
  | ok v => exact absurd hc (h v)
  | _ =>
    first
      | exact (Any.strconv_Atoi_range Tryz.laysC172 ⟨l.toArray⟩ (by rw [strV_size]; omega) hc _ w k2 (Or.inr ⟨_, _, rfl⟩)).mono fun e w' ⟨N, he, _, _, hb⟩ => ⟨⟨_, _, _, he⟩, hb⟩
      | exact (Any.strconv_Atoi_syntax Tryz.laysC172 ⟨l.toArray⟩ (by rw [strV_size]; omega) hc _ w k1 (Or.inr ⟨_, _, rfl⟩)).mono fun e w' ⟨N, he, _, _, hb⟩ => ⟨⟨_, _, _, he⟩, hb⟩

theorem split_any (l : List UInt8) (c : UInt8) (hs : l.length < 4294967281) (w : World) (G : Glob w) :
    Calls Tryz.prog 24 #[strV l, .string ⟨#[c]⟩] w fun e w' => ∃ v, e = .returned v ∧ RowOf w' w.heap.size v (tx.cutF c l) ∧ Below w.heap.size w w' := by
  obtain ⟨m, hm⟩ := G.max
  have h1 : 1 ≤ (⟨#[c]⟩ : ByteArray).size := Nat.le_refl 1
  have hd := tx.splitB_cutF c ⟨l.toArray⟩
  have hl := Lib.splitB_all ⟨#[c]⟩ h1 0 _ ⟨l.toArray⟩ rfl
  refine (Any.strings_Split Tryz.lays146 (by kernel_rfl) ⟨l.toArray⟩ ⟨#[c]⟩ m w (by rw [strV_size]; exact hs) hm h1).mono fun e w' ⟨he, hw⟩ => ⟨_, he, ?_, ?_⟩
  · generalize Lib.splitB ⟨#[c]⟩ 0 (Lib.countB ⟨l.toArray⟩ ⟨#[c]⟩) ⟨l.toArray⟩ = P at hd hl hw
    have hcl : (tx.cutF c l).length = Lib.countB ⟨l.toArray⟩ ⟨#[c]⟩ + 1 := by
      have : tx.cutF c l = P.map fun x => x.data.toList := hd.symm
      rw [this, List.length_map, hl]
    rw [← hcl] at hl ⊢
    have hlen := tx.cutF_len c l
    refine ⟨w.heap.size, _, rfl, Nat.le_refl _, by rw [hw]; simp, Nat.le_refl _, by unfold maxLen; omega, fun j x hj => ?_⟩
    have hx : (P.map fun x => x.data.toList)[j]? = some x := by rw [hd]; exact hj
    rw [List.getElem?_map] at hx
    rw [hw]
    cases hp : P[j]? with
    | none => rw [hp] at hx; cases hx
    | some y =>
      rw [hp] at hx
      injection hx with hx
      subst hx
      rw [World.cell?_alloc_at _ _ _ _ rfl]
      simp [hp, strV]
  · rw [hw]; exact (Below.refl _ _).alloc (Nat.le_refl _) _

theorem cutLib_any (l : List UInt8) (c : UInt8) (hs : l.length < 4294967281) (w : World) (G : Glob w) :
    Calls Tryz.prog 25 #[strV l, .string ⟨#[c]⟩] w fun e w' => e = .returned (.tuple #[strV (Lib.cut l [c]).1, strV (Lib.cut l [c]).2.1, .bool (Lib.cut l [c]).2.2]) ∧ Below w.heap.size w w' := by
  obtain ⟨m, hm⟩ := G.max
  exact (Any.strings_Cut Tryz.lays145 ⟨l.toArray⟩ ⟨#[c]⟩ m w (by rw [strV_size]; exact hs) hm).mono fun e w' ⟨he, n, hw⟩ => ⟨he, by rw [hw]; exact below_drewN (Below.refl _ _) n⟩

theorem join_any (ls : List (List UInt8)) (sep : UInt8) (w : World) (B : Nat) (v : Value) (hr : RowOf w B v ls) (hN : ls.length ≤ 1000) (hlen : (Lib.join ls [sep]).length ≤ 1000000) :
    Calls Tryz.prog 29 #[v, .string ⟨#[sep]⟩] w fun e w' => e = .returned (strV (Lib.join ls [sep])) ∧ Below w.heap.size w w' := by
  obtain ⟨g, cap, rfl, hB, hg, hn, hc, ht⟩ := hr
  have hm : (ls.map fun x => (⟨x.toArray⟩ : ByteArray)).map (fun s => s.data.toList) = ls := by
    rw [List.map_map]; conv => rhs; rw [← List.map_id ls]
    apply List.map_congr_left; intro x _; rfl
  have := Any.strings_Join Tryz.lays156 Tryz.Builder_Extra_156 g 0 cap (ls.map fun x => ⟨x.toArray⟩) ⟨#[sep]⟩ w (fun j x hj => by
      rw [List.getElem?_map] at hj
      cases hl : ls[j]? with
      | none => rw [hl] at hj; cases hj
      | some y => rw [hl] at hj; injection hj with hj; subst hj; simpa [strV] using ht j y hl) hg (by rw [List.length_map]; omega) (by rw [List.length_map]; exact hn) (by rw [hm]; exact Nat.le_trans hlen (by decide))
  rw [hm, List.length_map] at this
  exact this

end Go.Proofs.YtdjpkkppcdmdnaaGreatDoor
