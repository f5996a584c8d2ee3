/- Plain laws on spans: the fewest spans of some, their text, and the spans of a text. No program in this text. -/
import Derived.Test.YtdjpkkppcdmdnaaGreatDoorTx
namespace Go.Proofs.YtdjpkkppcdmdnaaGreatDoor.sp
open Go.Lib

abbrev Span := Int × Int

def inS (l : List Span) (n : Int) : Bool := l.any fun s => decide (s.1 ≤ n ∧ n ≤ s.2)
def okS (s : Span) : Bool := decide (0 ≤ s.1 ∧ s.1 ≤ s.2 ∧ s.2 ≤ 65535)
def valid (l : List Span) : Bool := l.all okS
/-- one after the other, with room between -/
def gapped : List Span → Bool
  | [] => true
  | s :: l => (match l with | [] => true | t :: _ => decide (s.2 + 1 < t.1)) && gapped l
def fault (l : List Span) : Int := if 200 < l.length then 4 else if valid l then 0 else 1

/-- a span put into spans that are gapped -/
def insS (a b : Int) : List Span → List Span
  | [] => [(a, b)]
  | s :: l => if s.2 + 1 < a then s :: insS a b l else if b + 1 < s.1 then (a, b) :: s :: l else insS (min s.1 a) (max s.2 b) l
def norm (l : List Span) : List Span := l.foldl (fun out s => insS s.1 s.2 out) []

theorem okS_iff' {s : Span} : okS s = true ↔ 0 ≤ s.1 ∧ s.1 ≤ s.2 ∧ s.2 ≤ 65535 := by simp [okS]
theorem inS_iff {l : List Span} {n : Int} : inS l n = true ↔ ∃ s ∈ l, s.1 ≤ n ∧ n ≤ s.2 := by simp [inS]

/-- all begin behind a number -/
def above (x : Int) (l : List Span) : Prop := ∀ s ∈ l, x < s.1
/-- each is a span -/
def rises (l : List Span) : Prop := ∀ s ∈ l, s.1 ≤ s.2
theorem gapped_cons {s : Span} {l : List Span} : gapped (s :: l) = true ↔ (∀ t ∈ l.head?, s.2 + 1 < t.1) ∧ gapped l = true := by
  cases l with
  | nil => simp [gapped]
  | cons t l => simp [gapped]
theorem gapped_above {s : Span} {l : List Span} (h : gapped (s :: l) = true) (hr : rises (s :: l)) : above (s.2 + 1) l := by
  induction l generalizing s with
  | nil => intro t ht; cases ht
  | cons t l ih =>
    obtain ⟨h1, h2⟩ := gapped_cons.1 h
    have h3 := h1 t rfl
    have ht := hr t (by simp)
    intro u hu
    rcases List.mem_cons.1 hu with e | e
    · subst e; exact h3
    · have := ih h2 (fun x hx => hr x (by simp at hx ⊢; exact Or.inr hx)) u e
      omega

theorem gapped_of_above {s : Span} {l : List Span} (h : above (s.2 + 1) l) (hg : gapped l = true) : gapped (s :: l) = true := by
  rw [gapped_cons]
  refine ⟨fun t ht => ?_, hg⟩
  cases l with
  | nil => simp at ht
  | cons u l => simp at ht; subst ht; exact h u (by simp)

/-- what a span put in has: the numbers of both; and it is gapped -/
theorem insS_spec (l : List Span) : ∀ (a b : Int), a ≤ b → gapped l = true → rises l →
    gapped (insS a b l) = true ∧ rises (insS a b l) ∧ (∀ n, inS (insS a b l) n = true ↔ (a ≤ n ∧ n ≤ b) ∨ inS l n = true) ∧ (∀ x, x < a → above x l → above x (insS a b l)) := by
  induction l with
  | nil =>
    intro a b hab _ _
    refine ⟨rfl, fun s hs => ?_, fun n => ?_, fun x hx _ s hs => ?_⟩
    · simp [insS] at hs; subst hs; exact hab
    · simp [insS, inS]
    · simp [insS] at hs; subst hs; exact hx
  | cons s l ih =>
    intro a b hab hg hr
    have hr' : rises l := fun t ht => hr t (by simp [ht])
    have hg' := (gapped_cons.1 hg).2
    have hs := hr s (by simp)
    have hab' := gapped_above hg hr
    unfold insS
    split
    · rename_i h1
      obtain ⟨i1, i2, i3, i4⟩ := ih a b hab hg' hr'
      refine ⟨gapped_of_above (i4 _ h1 hab') i1, fun t ht => ?_, fun n => ?_, fun x hx ha t ht => ?_⟩
      · rcases List.mem_cons.1 ht with e | e
        · subst e; exact hs
        · exact i2 t e
      · have := i3 n
        simp only [inS, List.any_cons, Bool.or_eq_true, decide_eq_true_eq] at this ⊢
        rw [this]; constructor
        · rintro (h | h | h)
          · exact Or.inr (Or.inl h)
          · exact Or.inl h
          · exact Or.inr (Or.inr h)
        · rintro (h | h | h)
          · exact Or.inr (Or.inl h)
          · exact Or.inl h
          · exact Or.inr (Or.inr h)
      · rcases List.mem_cons.1 ht with e | e
        · subst e; exact ha t (by simp)
        · exact i4 x hx (fun u hu => ha u (by simp [hu])) t e
    · split
      · rename_i h1 h2
        refine ⟨gapped_of_above (fun t ht => ?_) hg, fun t ht => ?_, fun n => ?_, fun x hx ha t ht => ?_⟩
        · rcases List.mem_cons.1 ht with e | e
          · subst e; exact h2
          · have := hab' t e; show b + 1 < t.1; omega
        · rcases List.mem_cons.1 ht with e | e
          · subst e; exact hab
          · exact hr t e
        · simp [inS]
        · rcases List.mem_cons.1 ht with e | e
          · subst e; exact hx
          · exact ha t e
      · rename_i h1 h2
        obtain ⟨i1, i2, i3, i4⟩ := ih (min s.1 a) (max s.2 b) (by omega) hg' hr'
        refine ⟨i1, i2, fun n => ?_, fun x hx ha => i4 x ?_ (fun u hu => ha u (by simp [hu]))⟩
        · rw [i3 n]
          simp only [inS, List.any_cons, Bool.or_eq_true, decide_eq_true_eq]
          constructor
          · rintro (h | h)
            · by_cases h3 : a ≤ n ∧ n ≤ b
              · exact Or.inl h3
              · exact Or.inr (Or.inl (by omega))
            · exact Or.inr (Or.inr h)
          · rintro (h | h | h)
            · exact Or.inl (by omega)
            · exact Or.inl (by omega)
            · exact Or.inr h
        · have := ha s (by simp); omega

theorem norm_step (l : List Span) (out : List Span) (hr : rises l) (hg : gapped out = true) (ho : rises out) :
    gapped (l.foldl (fun out s => insS s.1 s.2 out) out) = true ∧ rises (l.foldl (fun out s => insS s.1 s.2 out) out) ∧ ∀ n, inS (l.foldl (fun out s => insS s.1 s.2 out) out) n = true ↔ inS l n = true ∨ inS out n = true := by
  induction l generalizing out with
  | nil => exact ⟨hg, ho, fun n => by simp [inS]⟩
  | cons s l ih =>
    obtain ⟨i1, i2, i3, _⟩ := insS_spec out s.1 s.2 (hr s (by simp)) hg ho
    obtain ⟨j1, j2, j3⟩ := ih (insS s.1 s.2 out) (fun t ht => hr t (by simp [ht])) i1 i2
    refine ⟨j1, j2, fun n => ?_⟩
    rw [List.foldl_cons, j3 n, i3 n]
    simp only [inS, List.any_cons, Bool.or_eq_true, decide_eq_true_eq]
    constructor
    · rintro (h | h | h)
      · exact Or.inl (Or.inr h)
      · exact Or.inl (Or.inl h)
      · exact Or.inr h
    · rintro ((h | h) | h)
      · exact Or.inr (Or.inl h)
      · exact Or.inl h
      · exact Or.inr (Or.inr h)
theorem norm_spec (l : List Span) (hr : rises l) : gapped (norm l) = true ∧ rises (norm l) ∧ ∀ n, inS (norm l) n = true ↔ inS l n = true := by
  obtain ⟨a, b, c⟩ := norm_step l [] hr rfl (fun s hs => by cases hs)
  exact ⟨a, b, fun n => by rw [norm, c n]; simp [inS]⟩

/-- WHAT IS GAPPED IS ONE: two lists that are gapped, and have the same numbers, are the same. -/
theorem gapped_one : ∀ (l m : List Span), gapped l = true → rises l → gapped m = true → rises m → (∀ n, inS l n = true ↔ inS m n = true) → l = m
  | [], [], _, _, _, _, _ => rfl
  | [], t :: m, _, _, _, hr, h => by
    have := (h t.1).2 (inS_iff.2 ⟨t, by simp, Int.le_refl _, hr t (by simp)⟩)
    simp [inS] at this
  | s :: l, [], _, hr, _, _, h => by
    have := (h s.1).1 (inS_iff.2 ⟨s, by simp, Int.le_refl _, hr s (by simp)⟩)
    simp [inS] at this
  | s :: l, t :: m, hg, hr, hg', hr', h => by
    have hs := hr s (by simp)
    have ht := hr' t (by simp)
    have hl := gapped_above hg hr
    have hm := gapped_above hg' hr'
    have low : ∀ (u : Span) (k : List Span), above (u.2 + 1) k → u.1 ≤ u.2 → ∀ n, inS (u :: k) n = true → u.1 ≤ n := fun u k hk hu n hn => by
      obtain ⟨v, hv, h1, h2⟩ := inS_iff.1 hn
      rcases List.mem_cons.1 hv with e | e
      · subst e; exact h1
      · have := hk v e; omega
    have gap : ∀ (u : Span) (k : List Span), above (u.2 + 1) k → inS (u :: k) (u.2 + 1) = false := fun u k hk => by
      rw [Bool.eq_false_iff]
      intro hn
      obtain ⟨v, hv, h1, h2⟩ := inS_iff.1 hn
      rcases List.mem_cons.1 hv with e | e
      · subst e; omega
      · have := hk v e; omega
    have inn : ∀ (u : Span) (k : List Span) n, u.1 ≤ n → n ≤ u.2 → inS (u :: k) n = true := fun u k n h1 h2 => inS_iff.2 ⟨u, by simp, h1, h2⟩
    have e1 : s.1 = t.1 := by
      have a := low t m hm ht s.1 ((h s.1).1 (inn s l s.1 (Int.le_refl _) hs))
      have b := low s l hl hs t.1 ((h t.1).2 (inn t m t.1 (Int.le_refl _) ht))
      omega
    have e2 : s.2 = t.2 := by
      rcases Int.lt_trichotomy s.2 t.2 with c | c | c
      · have := (h (s.2 + 1)).2 (inn t m (s.2 + 1) (by omega) (by omega))
        rw [gap s l hl] at this; cases this
      · exact c
      · have := (h (t.2 + 1)).1 (inn s l (t.2 + 1) (by omega) (by omega))
        rw [gap t m hm] at this; cases this
    have e : s = t := Prod.ext e1 e2
    subst e
    have rest : ∀ n, inS l n = true ↔ inS m n = true := fun n => by
      constructor
      · intro hn
        obtain ⟨v, hv, h1, h2⟩ := inS_iff.1 hn
        have hv1 := hl v hv
        have := (h n).1 (inS_iff.2 ⟨v, by simp [hv], h1, h2⟩)
        obtain ⟨u, hu, g1, g2⟩ := inS_iff.1 this
        rcases List.mem_cons.1 hu with e | e
        · subst e; omega
        · exact inS_iff.2 ⟨u, e, g1, g2⟩
      · intro hn
        obtain ⟨v, hv, h1, h2⟩ := inS_iff.1 hn
        have hv1 := hm v hv
        have := (h n).2 (inS_iff.2 ⟨v, by simp [hv], h1, h2⟩)
        obtain ⟨u, hu, g1, g2⟩ := inS_iff.1 this
        rcases List.mem_cons.1 hu with e | e
        · subst e; omega
        · exact inS_iff.2 ⟨u, e, g1, g2⟩
    rw [gapped_one l m (gapped_cons.1 hg).2 (fun x hx => hr x (by simp [hx])) (gapped_cons.1 hg').2 (fun x hx => hr' x (by simp [hx])) rest]

/-! ### Tidy: sorted by the begin, then merged -/
def sorted : List Span → Bool
  | [] => true
  | s :: l => l.all (fun t => decide (s.1 ≤ t.1)) && sorted l
/-- one more behind spans that are gapped (the last one first) -/
def mrg (out : List Span) (s : Span) : List Span := match out with
  | [] => [s]
  | t :: r => if s.1 ≤ t.2 + 1 then (t.1, max t.2 s.2) :: r else s :: t :: r
/-- the merged ones, the last one first -/
def mrgs (l : List Span) : List Span := l.foldl mrg []

/-- gapped, the last one first -/
def rgapped (out : List Span) : Prop := gapped out.reverse = true
theorem gapped_snoc {l : List Span} {s : Span} (hg : gapped l = true) (h : ∀ t ∈ l.getLast?, t.2 + 1 < s.1) : gapped (l ++ [s]) = true := by
  induction l with
  | nil => rfl
  | cons t l ih =>
    obtain ⟨h1, h2⟩ := gapped_cons.1 hg
    cases l with
    | nil =>
      have := h t rfl
      simp [gapped, this]
    | cons u l =>
      have := ih h2 (fun x hx => h x (by simpa using hx))
      rw [List.cons_append, gapped_cons]
      exact ⟨fun x hx => h1 x (by simpa using hx), this⟩
theorem gapped_init {l : List Span} {s : Span} (hg : gapped (l ++ [s]) = true) : gapped l = true ∧ ∀ t ∈ l.getLast?, t.2 + 1 < s.1 := by
  induction l with
  | nil => exact ⟨rfl, fun t ht => by cases ht⟩
  | cons t l ih =>
    rw [List.cons_append, gapped_cons] at hg
    obtain ⟨h1, h2⟩ := hg
    obtain ⟨i1, i2⟩ := ih h2
    cases l with
    | nil =>
      refine ⟨rfl, fun x hx => ?_⟩
      simp at hx; subst hx
      exact h1 s rfl
    | cons u l =>
      refine ⟨gapped_cons.2 ⟨fun x hx => h1 x (by simpa using hx), i1⟩, fun x hx => i2 x (by simpa using hx)⟩

theorem mrg_spec {out : List Span} {s : Span} (hg : rgapped out) (hr : rises out) (hs : s.1 ≤ s.2) (hb : ∀ t ∈ out, t.1 ≤ s.1) :
    rgapped (mrg out s) ∧ rises (mrg out s) ∧ (∀ n, inS (mrg out s) n = true ↔ inS out n = true ∨ (s.1 ≤ n ∧ n ≤ s.2)) ∧ (∀ t ∈ mrg out s, t.1 ≤ s.1) := by
  cases out with
  | nil =>
    refine ⟨rfl, fun t ht => ?_, fun n => by simp [mrg, inS], fun t ht => ?_⟩
    · simp [mrg] at ht; subst ht; exact hs
    · simp [mrg] at ht; subst ht; exact Int.le_refl _
  | cons t r =>
    have ht := hr t (by simp)
    have hts := hb t (by simp)
    unfold mrg
    simp only
    have hg' : gapped (r.reverse ++ [t]) = true := by have := hg; unfold rgapped at this; rwa [List.reverse_cons] at this
    obtain ⟨g1, g2⟩ := gapped_init hg'
    split
    · rename_i h
      refine ⟨?_, fun u hu => ?_, fun n => ?_, fun u hu => ?_⟩
      · unfold rgapped
        rw [List.reverse_cons]
        exact gapped_snoc g1 g2
      · rcases List.mem_cons.1 hu with e | e
        · subst e; show t.1 ≤ max t.2 s.2; omega
        · exact hr u (by simp [e])
      · simp only [inS, List.any_cons, Bool.or_eq_true, decide_eq_true_eq]
        constructor
        · rintro (h1 | h1)
          · by_cases h2 : n ≤ t.2
            · exact Or.inl (Or.inl ⟨h1.1, h2⟩)
            · exact Or.inr (by omega)
          · exact Or.inl (Or.inr h1)
        · rintro ((h1 | h1) | h1)
          · exact Or.inl (by omega)
          · exact Or.inr h1
          · exact Or.inl (by omega)
      · rcases List.mem_cons.1 hu with e | e
        · subst e; exact hts
        · exact hb u (by simp [e])
    · rename_i h
      refine ⟨?_, fun u hu => ?_, fun n => ?_, fun u hu => ?_⟩
      · unfold rgapped
        rw [List.reverse_cons, List.reverse_cons]
        refine gapped_snoc hg' (fun u hu => ?_)
        simp at hu; subst hu; omega
      · rcases List.mem_cons.1 hu with e | e
        · subst e; exact hs
        · exact hr u e
      · simp only [inS, List.any_cons, Bool.or_eq_true, decide_eq_true_eq]
        constructor
        · rintro (h1 | h1)
          · exact Or.inr h1
          · exact Or.inl h1
        · rintro (h1 | h1)
          · exact Or.inr h1
          · exact Or.inl h1
      · rcases List.mem_cons.1 hu with e | e
        · subst e; exact Int.le_refl _
        · exact hb u e

theorem mrgs_step (l : List Span) : ∀ (out : List Span), rgapped out → rises out → rises l → sorted l = true → (∀ s ∈ l, ∀ t ∈ out, t.1 ≤ s.1) →
    rgapped (l.foldl mrg out) ∧ rises (l.foldl mrg out) ∧ ∀ n, inS (l.foldl mrg out) n = true ↔ inS out n = true ∨ inS l n = true := by
  induction l with
  | nil => intro out hg hr _ _ _; exact ⟨hg, hr, fun n => by simp [inS]⟩
  | cons s l ih =>
    intro out hg hr hl hs hb
    simp only [sorted, Bool.and_eq_true, List.all_eq_true, decide_eq_true_eq] at hs
    obtain ⟨a, b, c, d⟩ := mrg_spec hg hr (hl s (by simp)) (hb s (by simp))
    obtain ⟨i1, i2, i3⟩ := ih (mrg out s) a b (fun t ht => hl t (by simp [ht])) hs.2 (fun t ht u hu => Int.le_trans (d u hu) (hs.1 t ht))
    refine ⟨i1, i2, fun n => ?_⟩
    rw [List.foldl_cons, i3 n, c n]
    simp only [inS, List.any_cons, Bool.or_eq_true, decide_eq_true_eq]
    constructor
    · rintro ((h | h) | h)
      · exact Or.inl h
      · exact Or.inr (Or.inl h)
      · exact Or.inr (Or.inr h)
    · rintro (h | h | h)
      · exact Or.inl (Or.inl h)
      · exact Or.inl (Or.inr h)
      · exact Or.inr h

theorem inS_reverse (l : List Span) (n : Int) : inS l.reverse n = inS l n := by simp [inS]
theorem inS_perm {l m : List Span} (h : l.Perm m) (n : Int) : inS l n = true ↔ inS m n = true := by
  rw [inS_iff, inS_iff]
  exact ⟨fun ⟨s, hs, x⟩ => ⟨s, h.mem_iff.1 hs, x⟩, fun ⟨s, hs, x⟩ => ⟨s, h.mem_iff.2 hs, x⟩⟩

/-- TIDY IS NORM: spans sorted in whatever way, merged, are the fewest spans. -/
theorem tidy_norm {l m : List Span} (hp : m.Perm l) (hs : sorted m = true) (hr : rises l) : (mrgs m).reverse = norm l := by
  have hrm : rises m := fun s h => hr s (hp.mem_iff.1 h)
  obtain ⟨a, b, c⟩ := mrgs_step m [] rfl (fun s h => by cases h) hrm hs (fun s _ t ht => by cases ht)
  obtain ⟨x, y, z⟩ := norm_spec l hr
  refine gapped_one _ _ a (fun s h => b s (List.mem_reverse.1 h)) x y (fun n => ?_)
  rw [inS_reverse]
  show inS (m.foldl mrg []) n = true ↔ _
  rw [c n, z n, ← inS_perm hp n]
  simp [inS]

theorem norm_gapped {l : List Span} (hr : rises l) (hg : gapped l = true) : norm l = l := by
  obtain ⟨x, y, z⟩ := norm_spec l hr
  exact gapped_one _ _ x y hg hr z

theorem valid_rises {l : List Span} (h : valid l = true) : rises l := fun s hs => by
  have := List.all_eq_true.1 h s hs
  simp [okS] at this; omega

/-- .. of numbers up to 2^32 -/
def okW (s : Span) : Bool := decide (0 ≤ s.1 ∧ s.1 ≤ s.2 ∧ s.2 ≤ 4294967296)
def wide (l : List Span) : Bool := l.all okW
theorem okW_iff {s : Span} : okW s = true ↔ 0 ≤ s.1 ∧ s.1 ≤ s.2 ∧ s.2 ≤ 4294967296 := by simp [okW]
theorem wide_rises {l : List Span} (h : wide l = true) : rises l := fun s hs => (okW_iff.1 (List.all_eq_true.1 h s hs)).2.1
theorem wide_valid {l : List Span} (h : valid l = true) : wide l = true := List.all_eq_true.2 fun s hs => by
  have := okS_iff'.1 (List.all_eq_true.1 h s hs)
  exact okW_iff.2 ⟨this.1, this.2.1, by omega⟩

end Go.Proofs.YtdjpkkppcdmdnaaGreatDoor.sp
