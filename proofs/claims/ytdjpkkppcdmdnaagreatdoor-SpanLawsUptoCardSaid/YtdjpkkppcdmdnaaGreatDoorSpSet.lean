/- Plain laws on spans as sets: what two have in common, what is left, how many numbers. No program in this text. -/
import Derived.Test.YtdjpkkppcdmdnaaGreatDoorSpT
namespace Go.Proofs.YtdjpkkppcdmdnaaGreatDoor.sp
open Go.Lib

/-- what two spans have in common -/
def meet2 (s t : Span) : Option Span := if max s.1 t.1 ≤ min s.2 t.2 then some (max s.1 t.1, min s.2 t.2) else none
def pairs1 (s : Span) (b : List Span) : List Span := b.filterMap (meet2 s)
def pairs (a b : List Span) : List Span := a.flatMap fun s => pairs1 s b
def cross (a b : List Span) : List Span := norm (pairs a b)
def rest (high : Int) : Int → List Span → List Span
  | low, [] => if low ≤ high then [(low, high)] else []
  | low, s :: l => if low < s.1 then (low, s.1 - 1) :: rest high (s.2 + 1) l else rest high (s.2 + 1) l

theorem meet2_some {s t u : Span} : meet2 s t = some u ↔ max s.1 t.1 ≤ min s.2 t.2 ∧ u = (max s.1 t.1, min s.2 t.2) := by
  unfold meet2
  split
  · rename_i h
    constructor
    · intro e; injection e with e; exact ⟨h, e.symm⟩
    · rintro ⟨_, rfl⟩; rfl
  · rename_i h
    constructor
    · intro e; cases e
    · rintro ⟨h', _⟩; exact absurd h' h
theorem mem_pairs {a b : List Span} {u : Span} : u ∈ pairs a b ↔ ∃ s ∈ a, ∃ t ∈ b, max s.1 t.1 ≤ min s.2 t.2 ∧ u = (max s.1 t.1, min s.2 t.2) := by
  simp only [pairs, pairs1, List.mem_flatMap, List.mem_filterMap, meet2_some]
theorem pairs_rises (a b : List Span) : rises (pairs a b) := fun u hu => by
  obtain ⟨s, _, t, _, h, rfl⟩ := mem_pairs.1 hu
  exact h
theorem inS_pairs (a b : List Span) (n : Int) : inS (pairs a b) n = true ↔ inS a n = true ∧ inS b n = true := by
  rw [inS_iff, inS_iff, inS_iff]
  constructor
  · rintro ⟨u, hu, h1, h2⟩
    obtain ⟨s, hs, t, ht, h, rfl⟩ := mem_pairs.1 hu
    dsimp only at h1 h2
    exact ⟨⟨s, hs, by omega, by omega⟩, ⟨t, ht, by omega, by omega⟩⟩
  · rintro ⟨⟨s, hs, h1, h2⟩, ⟨t, ht, h3, h4⟩⟩
    exact ⟨_, mem_pairs.2 ⟨s, hs, t, ht, by omega, rfl⟩, by show max s.1 t.1 ≤ n; omega, by show n ≤ min s.2 t.2; omega⟩
theorem inS_cross (a b : List Span) (n : Int) : inS (cross a b) n = true ↔ inS a n = true ∧ inS b n = true := by
  rw [← inS_pairs]; exact (norm_spec _ (pairs_rises a b)).2.2 n
theorem cross_gapped (a b : List Span) : gapped (cross a b) = true ∧ rises (cross a b) := ⟨(norm_spec _ (pairs_rises a b)).1, (norm_spec _ (pairs_rises a b)).2.1⟩
theorem pairs1_len (s : Span) (b : List Span) : (pairs1 s b).length ≤ b.length := List.length_filterMap_le _ _
theorem pairs_len (a b : List Span) : (pairs a b).length ≤ a.length * b.length := by
  induction a with
  | nil => simp [pairs]
  | cons s a ih =>
    have h1 := pairs1_len s b
    have e : pairs (s :: a) b = pairs1 s b ++ pairs a b := by simp [pairs]
    rw [e, List.length_append, List.length_cons, Nat.add_mul]
    omega
theorem inS_append (a b : List Span) (n : Int) : inS (a ++ b) n = true ↔ inS a n = true ∨ inS b n = true := by simp [inS]

/-- what is left: begins behind low - 1, is gapped where what was taken is, and has just what the other one has not -/
theorem rest_spec (high : Int) : ∀ (l : List Span) (low : Int), gapped l = true → rises l → (∀ s ∈ l, low ≤ s.1 ∧ s.2 ≤ high) →
    gapped (rest high low l) = true ∧ rises (rest high low l) ∧ above (low - 1) (rest high low l) ∧ (∀ s ∈ rest high low l, s.2 ≤ high) ∧ ∀ n, inS (rest high low l) n = true ↔ low ≤ n ∧ n ≤ high ∧ inS l n = false
  | [], low, _, _, _ => by
    unfold rest
    split
    · rename_i h
      refine ⟨rfl, fun s hs => ?_, fun s hs => ?_, fun s hs => ?_, fun n => ?_⟩
      · simp at hs; subst hs; exact h
      · simp at hs; subst hs; show low - 1 < low; omega
      · simp at hs; subst hs; exact Int.le_refl _
      · simp [inS]
    · rename_i h
      refine ⟨rfl, fun s hs => (by cases hs), fun s hs => (by cases hs), fun s hs => (by cases hs), fun n => ?_⟩
      simp [inS]; omega
  | s :: l, low, hg, hr, hb => by
    have hs := hr s (by simp)
    have hab := gapped_above hg hr
    have hbs := hb s (by simp)
    obtain ⟨i1, i2, i3, i4, i5⟩ := rest_spec high l (s.2 + 1) (gapped_cons.1 hg).2 (fun t ht => hr t (by simp [ht])) (fun t ht => ⟨by have := hab t ht; omega, (hb t (by simp [ht])).2⟩)
    have key : ∀ n, inS (rest high (s.2 + 1) l) n = true ↔ s.2 + 1 ≤ n ∧ n ≤ high ∧ inS (s :: l) n = false := fun n => by
      rw [i5 n]
      simp only [inS, List.any_cons, Bool.or_eq_false_iff, decide_eq_false_iff_not]
      constructor
      · rintro ⟨h1, h2, h3⟩; exact ⟨h1, h2, by omega, h3⟩
      · rintro ⟨h1, h2, _, h3⟩; exact ⟨h1, h2, h3⟩
    have hlow : ∀ n, n < s.1 → inS (s :: l) n = false := fun n hn => by
      rw [Bool.eq_false_iff]; intro hc
      obtain ⟨u, hu, h1, _⟩ := inS_iff.1 hc
      rcases List.mem_cons.1 hu with e | e
      · subst e; omega
      · have := hab u e; omega
    have hin : ∀ n, s.1 ≤ n → n ≤ s.2 → inS (s :: l) n = true := fun n h1 h2 => inS_iff.2 ⟨s, by simp, h1, h2⟩
    unfold rest
    split
    · rename_i h
      refine ⟨gapped_of_above (fun t ht => ?_) i1, fun t ht => ?_, fun t ht => ?_, fun t ht => ?_, fun n => ?_⟩
      · have := i3 t ht; show s.1 - 1 + 1 < t.1; omega
      · rcases List.mem_cons.1 ht with e | e
        · subst e; show low ≤ s.1 - 1; omega
        · exact i2 t e
      · rcases List.mem_cons.1 ht with e | e
        · subst e; show low - 1 < low; omega
        · have := i3 t e; omega
      · rcases List.mem_cons.1 ht with e | e
        · subst e; show s.1 - 1 ≤ high; omega
        · exact i4 t e
      · have e : inS ((low, s.1 - 1) :: rest high (s.2 + 1) l) n = true ↔ (low ≤ n ∧ n ≤ s.1 - 1) ∨ inS (rest high (s.2 + 1) l) n = true := by simp [inS]
        rw [e, key n]
        constructor
        · rintro (h1 | h1)
          · exact ⟨h1.1, by omega, hlow n (by omega)⟩
          · exact ⟨by omega, h1.2.1, h1.2.2⟩
        · rintro ⟨h1, h2, h3⟩
          by_cases h4 : n < s.1
          · exact Or.inl ⟨h1, by omega⟩
          · refine Or.inr ⟨?_, h2, h3⟩
            rcases Int.lt_or_le s.2 n with h5 | h5
            · omega
            · rw [hin n (by omega) h5] at h3; cases h3
    · rename_i h
      refine ⟨i1, i2, fun t ht => by have := i3 t ht; omega, i4, fun n => ?_⟩
      rw [key n]
      constructor
      · rintro ⟨h1, h2, h3⟩; exact ⟨by omega, h2, h3⟩
      · rintro ⟨h1, h2, h3⟩
        refine ⟨?_, h2, h3⟩
        rcases Int.lt_or_le s.2 n with h5 | h5
        · omega
        · rw [hin n (by omega) h5] at h3; cases h3
theorem rest_len (high : Int) : ∀ (l : List Span) (low : Int), (rest high low l).length ≤ l.length + 1
  | [], low => by unfold rest; split <;> simp
  | s :: l, low => by
    have := rest_len high l (s.2 + 1)
    unfold rest
    split <;> simp <;> omega

/-! ### how many numbers -/
def many1 (l : List Span) : Int := l.foldl (fun n s => n + (s.2 - s.1 + 1)) 0
def many (l : List Span) : Int := if fault l = 0 then many1 (norm l) else 0
def cnt (p : Int → Bool) (n : Nat) : Nat := (List.range n).countP fun k : Nat => p (k : Int)
/-- how many ports there are -/
def full : Nat := 65536
theorem cnt_succ (p : Int → Bool) (n : Nat) : cnt p (n + 1) = cnt p n + if p n then 1 else 0 := by
  unfold cnt
  rw [List.range_succ, List.countP_append, List.countP_singleton]
theorem cnt_or (p q : Int → Bool) (h : ∀ n, p n = true → q n = false) (n : Nat) : cnt (fun k => p k || q k) n = cnt p n + cnt q n := by
  induction n with
  | zero => rfl
  | succ n ih =>
    rw [cnt_succ, cnt_succ, cnt_succ, ih]
    cases hp : p n
    · cases hq : q n <;> simp <;> omega
    · rw [h n hp]; simp; omega
theorem cnt_span (a b : Int) (h0 : 0 ≤ a) (n : Nat) : (cnt (fun k => decide (a ≤ k ∧ k ≤ b)) n : Int) = max 0 (min (b + 1) n - a) := by
  induction n with
  | zero => simp [cnt]; omega
  | succ n ih =>
    rw [cnt_succ, Int.natCast_add, ih]
    split
    · rename_i h
      rw [decide_eq_true_eq] at h
      push_cast; omega
    · rename_i h
      rw [decide_eq_true_eq] at h
      push_cast; omega
theorem many1_acc (l : List Span) (x : Int) : l.foldl (fun n s => n + (s.2 - s.1 + 1)) x = x + many1 l := by
  unfold many1
  induction l generalizing x with
  | nil => simp
  | cons s l ih => rw [List.foldl_cons, List.foldl_cons, ih, ih (0 + _)]; omega
theorem many1_cnt (l : List Span) (hg : gapped l = true) (hv : valid l = true) : many1 l = cnt (inS l) full := by
  induction l with
  | nil =>
    have : inS [] = fun _ => false := rfl
    rw [this]
    simp [many1, cnt]
  | cons s l ih =>
    have hr := valid_rises hv
    have hab := gapped_above hg hr
    have hv' : okS s = true ∧ valid l = true := by unfold valid at hv ⊢; rwa [List.all_cons, Bool.and_eq_true] at hv
    obtain ⟨o0, o1, o2⟩ := okS_iff'.1 hv'.1
    have e : inS (s :: l) = fun k => decide (s.1 ≤ k ∧ k ≤ s.2) || inS l k := by funext k; rfl
    have hd : ∀ n : Int, decide (s.1 ≤ n ∧ n ≤ s.2) = true → inS l n = false := fun n hn => by
      rw [Bool.eq_false_iff]; intro hc
      obtain ⟨u, hu, h1, _⟩ := inS_iff.1 hc
      have := hab u hu
      simp at hn; omega
    rw [e, cnt_or _ _ hd]
    have h1 := cnt_span s.1 s.2 o0 full
    have h2 := ih (gapped_cons.1 hg).2 hv'.2
    have h3 : many1 (s :: l) = (s.2 - s.1 + 1) + many1 l := by unfold many1; rw [List.foldl_cons, many1_acc]; unfold many1; omega
    rw [h3, h2]
    push_cast
    rw [h1]
    have hf : (full : Int) = 65536 := rfl
    omega
theorem cnt_congr {p q : Int → Bool} (n : Nat) (h : ∀ k : Nat, k < n → p k = q k) : cnt p n = cnt q n := by
  unfold cnt
  refine List.countP_congr fun k hk => ?_
  rw [h k (List.mem_range.1 hk)]

/-! ### join, meet, less, not; has -/
def join (a b : List Span) : List Span := norm (norm a ++ norm b)
def meet (a b : List Span) : List Span := cross (norm a) (norm b)
def less (a b : List Span) : List Span := cross (norm a) (rest 65535 0 (norm b))
def nots (a : List Span) : List Span := rest 65535 0 (norm a)
def has (l : List Span) (n : Int) : Bool := decide (fault l = 0) && inS l n

/-- gapped, and of ports -/
structure Good (l : List Span) : Prop where
  g : gapped l = true
  v : valid l = true
theorem good_norm {l : List Span} (h : valid l = true) : Good (norm l) := ⟨(norm_spec l (valid_rises h)).1, norm_valid h⟩
theorem inS_norm {l : List Span} (h : valid l = true) (n : Int) : inS (norm l) n = true ↔ inS l n = true := (norm_spec l (valid_rises h)).2.2 n
theorem valid_of {l : List Span} (hr : rises l) (h : ∀ n, inS l n = true → 0 ≤ n ∧ n ≤ 65535) : valid l = true := List.all_eq_true.2 fun s hs => by
  have h0 := hr s hs
  have h1 := h s.1 (inS_iff.2 ⟨s, hs, Int.le_refl _, h0⟩)
  have h2 := h s.2 (inS_iff.2 ⟨s, hs, h0, Int.le_refl _⟩)
  exact okS_iff'.2 ⟨h1.1, h0, h2.2⟩
theorem good_cross {a b : List Span} (ha : valid a = true) : Good (cross a b) := ⟨(cross_gapped a b).1, valid_of (cross_gapped a b).2 fun n hn => okS_of_in ha n ((inS_cross a b n).1 hn).1⟩
theorem rest_of {l : List Span} (h : Good l) : Good (rest 65535 0 l) ∧ ∀ n, inS (rest 65535 0 l) n = true ↔ 0 ≤ n ∧ n ≤ 65535 ∧ inS l n = false := by
  obtain ⟨a, b, _, _, e⟩ := rest_spec 65535 l 0 h.g (valid_rises h.v) (fun s hs => by
    obtain ⟨h0, _, h2⟩ := okS_iff'.1 (List.all_eq_true.1 h.v s hs)
    exact ⟨h0, h2⟩)
  exact ⟨⟨a, valid_of b fun n hn => ⟨((e n).1 hn).1, ((e n).1 hn).2.1⟩⟩, e⟩
theorem valid_append {a b : List Span} (ha : valid a = true) (hb : valid b = true) : valid (a ++ b) = true := by unfold valid at *; rw [List.all_append, ha, hb]; rfl
theorem join_of {a b : List Span} (ha : valid a = true) (hb : valid b = true) : Good (join a b) ∧ ∀ n, inS (join a b) n = true ↔ inS a n = true ∨ inS b n = true := by
  have hv := valid_append (norm_valid ha) (norm_valid hb)
  exact ⟨good_norm hv, fun n => by unfold join; rw [inS_norm hv, inS_append, inS_norm ha, inS_norm hb]⟩
theorem meet_of {a b : List Span} (ha : valid a = true) (hb : valid b = true) : Good (meet a b) ∧ ∀ n, inS (meet a b) n = true ↔ inS a n = true ∧ inS b n = true :=
  ⟨good_cross (norm_valid ha), fun n => by unfold meet; rw [inS_cross, inS_norm ha, inS_norm hb]⟩
theorem less_of {a b : List Span} (ha : valid a = true) (hb : valid b = true) : Good (less a b) ∧ ∀ n, inS (less a b) n = true ↔ inS a n = true ∧ inS b n = false := by
  refine ⟨good_cross (norm_valid ha), fun n => ?_⟩
  have hf : inS (norm b) n = false ↔ inS b n = false := by rw [← Bool.not_eq_true, ← Bool.not_eq_true, inS_norm hb]
  unfold less
  rw [inS_cross, inS_norm ha, (rest_of (good_norm hb)).2 n, hf]
  constructor
  · rintro ⟨h1, _, _, h2⟩; exact ⟨h1, h2⟩
  · rintro ⟨h1, h2⟩; have := okS_of_in ha n h1; exact ⟨h1, this.1, this.2, h2⟩
theorem nots_of {a : List Span} (ha : valid a = true) : Good (nots a) ∧ ∀ n, inS (nots a) n = true ↔ 0 ≤ n ∧ n ≤ 65535 ∧ inS a n = false := by
  obtain ⟨h1, h2⟩ := rest_of (good_norm ha)
  refine ⟨h1, fun n => ?_⟩
  have hf : inS (norm a) n = false ↔ inS a n = false := by rw [← Bool.not_eq_true, ← Bool.not_eq_true, inS_norm ha]
  unfold nots
  rw [h2 n, hf]

theorem good_fault {l : List Span} (h : Good l) (hl : l.length ≤ 200) : fault l = 0 := fault_zero.2 ⟨hl, h.v⟩
theorem good_norm_self {l : List Span} (h : Good l) : norm l = l := norm_gapped (valid_rises h.v) h.g
theorem many_good {l : List Span} (h : Good l) (hl : l.length ≤ 200) : many l = cnt (inS l) full := by
  unfold many
  rw [if_pos (good_fault h hl), good_norm_self h, many1_cnt l h.g h.v]
theorem many_ok {l : List Span} (h : fault l = 0) : many l = cnt (inS l) full := by
  have hv := (fault_zero.1 h).2
  have hg := good_norm hv
  unfold many
  rw [if_pos h, many1_cnt _ hg.g hg.v]
  exact congrArg (fun x : Nat => (x : Int)) (cnt_congr _ fun k _ => by rw [Bool.eq_iff_iff]; exact inS_norm hv k)

theorem has_good {l : List Span} (h : Good l) (hl : l.length ≤ 200) (n : Int) : has l n = inS l n := by unfold has; rw [good_fault h hl]; simp
theorem has_ok {l : List Span} (h : fault l = 0) (n : Int) : has l n = inS l n := by unfold has; rw [h]; simp

/-- THE LAW -/
theorem law1 {a b : List Span} (ha : fault a = 0) (hb : fault b = 0) (n : Int) (hj : (join a b).length ≤ 200) (hm : (meet a b).length ≤ 200) (hd : (less a b).length ≤ 200) :
    has (join a b) n = (has a n || has b n) ∧ has (meet a b) n = (has a n && has b n) ∧ has (less a b) n = (has a n && !has b n) ∧ many (join a b) = many (less a b) + many b ∧ many a = many (less a b) + many (meet a b) := by
  have va := (fault_zero.1 ha).2
  have vb := (fault_zero.1 hb).2
  obtain ⟨gj, ij⟩ := join_of va vb
  obtain ⟨gm, im⟩ := meet_of va vb
  obtain ⟨gd, id⟩ := less_of va vb
  have ej : ∀ k, inS (join a b) k = (inS a k || inS b k) := fun k => by rw [Bool.eq_iff_iff, ij k, Bool.or_eq_true]
  have em : ∀ k, inS (meet a b) k = (inS a k && inS b k) := fun k => by rw [Bool.eq_iff_iff, im k, Bool.and_eq_true]
  have ed : ∀ k, inS (less a b) k = (inS a k && !inS b k) := fun k => by rw [Bool.eq_iff_iff, id k, Bool.and_eq_true, Bool.not_eq_true']
  rw [has_good gj hj, has_good gm hm, has_good gd hd, has_ok ha, has_ok hb, many_good gj hj, many_good gm hm, many_good gd hd, many_ok ha, many_ok hb]
  refine ⟨ej n, em n, ed n, ?_, ?_⟩
  · have h := cnt_or (inS (less a b)) (inS b) (fun k hk => ((id k).1 hk).2) full
    rw [← Int.natCast_add, ← h]
    exact congrArg (fun x : Nat => (x : Int)) (cnt_congr _ fun k _ => by rw [ej, ed]; cases inS a k <;> cases inS b k <;> rfl)
  · have h := cnt_or (inS (less a b)) (inS (meet a b)) (fun k hk => by rw [em]; rw [((id k).1 hk).2]; simp) full
    rw [← Int.natCast_add, ← h]
    exact congrArg (fun x : Nat => (x : Int)) (cnt_congr _ fun k _ => by rw [em, ed]; cases inS a k <;> cases inS b k <;> rfl)
theorem law2 {a : List Span} (ha : fault a = 0) (hc : (nots a).length ≤ 200) : fault (nots a) = 0 ∧ nots (nots a) = norm a ∧ many (nots a) + many a = 65536 := by
  have va := (fault_zero.1 ha).2
  obtain ⟨gc, ic⟩ := nots_of va
  obtain ⟨gf, jf⟩ := nots_of gc.v
  have gn := good_norm va
  refine ⟨good_fault gc hc, gapped_one _ _ gf.g (valid_rises gf.v) gn.g (valid_rises gn.v) fun n => ?_, ?_⟩
  · rw [jf n, inS_norm va]
    have := ic n
    constructor
    · rintro ⟨h0, h1, h2⟩
      cases h : inS a n
      · rw [this.2 ⟨h0, h1, h⟩] at h2; cases h2
      · rfl
    · intro h
      obtain ⟨h0, h1⟩ := okS_of_in va n h
      refine ⟨h0, h1, ?_⟩
      rw [Bool.eq_false_iff]
      intro h2
      rw [(this.1 h2).2.2] at h; cases h
  · rw [many_good gc hc, many_ok ha, ← Int.natCast_add, ← cnt_or _ _ (fun k hk => ((ic k).1 hk).2.2)]
    have : ∀ k : Nat, k < full → (inS (nots a) (k : Int) || inS a (k : Int)) = decide ((0 : Int) ≤ (k : Int) ∧ (k : Int) ≤ 65535) := fun k hk => by
      have hf : full = 65536 := rfl
      have e : decide ((0 : Int) ≤ (k : Int) ∧ (k : Int) ≤ 65535) = true := by simp; omega
      rw [e]
      cases h : inS a (k : Int)
      · rw [(ic k).2 ⟨by omega, by omega, h⟩]; rfl
      · simp
    rw [cnt_congr (p := fun k => inS (nots a) k || inS a k) (q := fun k => decide ((0 : Int) ≤ k ∧ k ≤ 65535)) full this, cnt_span 0 65535 (by omega)]
    have hf : (full : Int) = 65536 := rfl
    omega

end Go.Proofs.YtdjpkkppcdmdnaaGreatDoor.sp
