/- Plain laws on spans as text: what is read back is what was shown. No program in this text. -/
import Derived.Test.YtdjpkkppcdmdnaaGreatDoorSp
namespace Go.Proofs.YtdjpkkppcdmdnaaGreatDoor.sp
open Go.Lib
open Go.Proofs.YtdjpkkppcdmdnaaGreatDoor.tx (cutF decDigits_good decDigits_rec canon_dec whole whole_some whole_some dec_inj goNum goNum_small cutF_free cutF_app cutF_ne cutF_mem atoi_small itoa_nat isDig)

theorem snocInd {α : Type} {P : List α → Prop} (h0 : P []) (h1 : ∀ l b, P l → P (l ++ [b])) (l : List α) : P l := by
  have : ∀ m : List α, P m.reverse := by
    intro m
    induction m with
    | nil => exact h0
    | cons b m ih => rw [List.reverse_cons]; exact h1 _ _ ih
  have := this l.reverse
  rwa [List.reverse_reverse] at this

/-- a span as text -/
def showSpan (s : Span) : List UInt8 := decDigits s.1.toNat ++ (if s.1 < s.2 then 45 :: decDigits s.2.toNat else [])
def joinC : List (List UInt8) → List UInt8
  | [] => []
  | [x] => x
  | x :: r => x ++ 44 :: joinC r
def noneT : List UInt8 := [45]
def showSpans (l : List Span) : List UInt8 := if l = [] then noneT else joinC (l.map showSpan)

theorem dec_no (c : UInt8) (hc : isDig c = false) (n : Nat) : c ∉ decDigits n := by
  intro h
  have := (decDigits_good n).1
  rw [List.all_eq_true] at this
  rw [this c h] at hc; cases hc

theorem showSpan_no (s : Span) : (44 : UInt8) ∉ showSpan s := by
  unfold showSpan
  intro h
  rcases List.mem_append.1 h with h | h
  · exact dec_no 44 (by decide) _ h
  · split at h
    · rcases List.mem_cons.1 h with h | h
      · revert h; decide
      · exact dec_no 44 (by decide) _ h
    · cases h

theorem cutF_join : ∀ (ps : List (List UInt8)), ps ≠ [] → (∀ p ∈ ps, (44 : UInt8) ∉ p) → cutF 44 (joinC ps) = ps
  | [], h, _ => absurd rfl h
  | [x], _, hp => by rw [joinC, cutF_free 44 x (hp x (by simp))]
  | x :: y :: r, _, hp => by
    rw [joinC, cutF_app 44 _ x (hp x (by simp)), cutF_join (y :: r) (by simp) (fun p h => hp p (by simp [h]))]
    simp
theorem join_cutF : ∀ (s : List UInt8), joinC (cutF 44 s) = s
  | [] => rfl
  | x :: r => by
    have ih := join_cutF r
    unfold cutF
    split
    · rename_i h; subst h
      cases hc : cutF 44 r with
      | nil => exact absurd hc (cutF_ne 44 r)
      | cons y t => rw [hc] at ih; rw [joinC]; · rw [ih]; rfl
                    · simp
    · cases hc : cutF 44 r with
      | nil => exact absurd hc (cutF_ne 44 r)
      | cons y t =>
        rw [hc] at ih
        simp only
        cases t with
        | nil => simp only [joinC] at ih ⊢; rw [ih]
        | cons z t => simp only [joinC] at ih ⊢; rw [List.cons_append, ih]

theorem cut_showSpan (s : Span) : cutF 45 (showSpan s) = if s.1 < s.2 then [decDigits s.1.toNat, decDigits s.2.toNat] else [decDigits s.1.toNat] := by
  unfold showSpan
  split
  · rw [cutF_app 45 _ _ (dec_no 45 (by decide) _), cutF_free 45 _ (dec_no 45 (by decide) _)]
  · rw [List.append_nil, cutF_free 45 _ (dec_no 45 (by decide) _)]

/-- a piece, as ReadSpans reads it: a number and another one, or none -/
def pieceR (x : List UInt8) : Option Span := match cutF 45 x with
  | [p] => match whole p 5 with
    | some a => if a ≤ 65535 then some ((a : Int), (a : Int)) else none
    | none => none
  | [p, q] => match whole p 5, whole q 5 with
    | some a, some b => if a < b ∧ b ≤ 65535 then some ((a : Int), (b : Int)) else none
    | _, _ => none
  | _ => none

theorem len5 (n : Nat) (h : n ≤ 65535) : (decDigits n).length ≤ 5 := by
  rw [decDigits_length]
  have := nDigits_unique
  rcases Nat.lt_or_ge n 10 with c | c
  · rw [nDigits_small c]; omega
  · rcases Nat.lt_or_ge n 100 with d | d
    · rw [nDigits_unique 1 n (by omega) (by omega)]; omega
    · rcases Nat.lt_or_ge n 1000 with e | e
      · rw [nDigits_unique 2 n (by omega) (by omega)]; omega
      · rcases Nat.lt_or_ge n 10000 with f | f
        · rw [nDigits_unique 3 n (by omega) (by omega)]; omega
        · rw [nDigits_unique 4 n (by omega) (by omega)]; omega

theorem okS_iff {s : Span} : okS s = true ↔ 0 ≤ s.1 ∧ s.1 ≤ s.2 ∧ s.2 ≤ 65535 := by simp [okS]

/-- the piece of a text without a '-' in it -/
theorem cut45_one {x p : List UInt8} (h : cutF 45 x = [p]) : x = p ∧ (45 : UInt8) ∉ p := by
  have hm : (45 : UInt8) ∉ p := cutF_mem 45 x p (by rw [h]; simp)
  rcases tx.index_one 45 x with ⟨_, hx⟩ | ⟨a, b, e, ha, _⟩
  · rw [cutF_free 45 x hx] at h
    injection h with h _
    exact ⟨h, hm⟩
  · rw [e, cutF_app 45 b a ha] at h
    injection h with _ h
    exact absurd h (cutF_ne 45 b)
theorem cut45_two {x p q : List UInt8} (h : cutF 45 x = [p, q]) : x = p ++ 45 :: q := by
  rcases tx.index_one 45 x with ⟨_, hx⟩ | ⟨a, b, e, ha, _⟩
  · rw [cutF_free 45 x hx] at h
    injection h with _ h; cases h
  · rw [e, cutF_app 45 b a ha] at h
    injection h with h1 h2
    obtain ⟨e2, _⟩ := cut45_one h2
    rw [e, h1, e2]

theorem pieceR_iff {x : List UInt8} {s : Span} : pieceR x = some s ↔ okS s = true ∧ x = showSpan s := by
  constructor
  · intro h
    unfold pieceR at h
    split at h
    · rename_i p hc
      obtain ⟨rfl, _⟩ := cut45_one hc
      split at h
      · rename_i a ha
        split at h
        · rename_i h65
          injection h with h; subst h
          refine ⟨okS_iff.2 ⟨by simp, by simp, by simp; omega⟩, ?_⟩
          unfold showSpan
          simp [(whole_some.1 ha).1.symm]
        · cases h
      · cases h
    · rename_i p q hc
      have e := cut45_two hc
      split at h
      · rename_i a b ha hb
        split at h
        · rename_i hab
          injection h with h; subst h
          refine ⟨okS_iff.2 ⟨by simp, by simp; omega, by simp; omega⟩, ?_⟩
          unfold showSpan
          rw [if_pos (by simp; omega), e]
          simp [(whole_some.1 ha).1.symm, (whole_some.1 hb).1.symm]
        · cases h
      · cases h
    · cases h
  · rintro ⟨ho, rfl⟩
    obtain ⟨h0, h1, h2⟩ := okS_iff.1 ho
    unfold pieceR
    rw [cut_showSpan]
    obtain ⟨a, ha⟩ := Int.eq_ofNat_of_zero_le h0
    obtain ⟨b, hb⟩ := Int.eq_ofNat_of_zero_le (Int.le_trans h0 h1)
    obtain ⟨s1, s2⟩ := s
    simp only at ha hb h0 h1 h2
    subst ha hb
    by_cases hlt : a < b
    · rw [if_pos (by simp; exact hlt)]
      simp only [Int.toNat_natCast]
      rw [whole_some.2 ⟨rfl, len5 a (by omega)⟩, whole_some.2 ⟨rfl, len5 b (by omega)⟩]
      simp only
      rw [if_pos ⟨hlt, by omega⟩]
    · rw [if_neg (by simp; omega)]
      simp only [Int.toNat_natCast]
      rw [whole_some.2 ⟨rfl, len5 a (by omega)⟩]
      simp only
      rw [if_pos (by omega)]
      have : a = b := by omega
      rw [this]

/-- the pieces, one behind the other: each is one, begins behind the one before with room between -/
def chain : List Span → List (List UInt8) → Option (List Span)
  | acc, [] => some acc
  | acc, x :: r => if 200 ≤ acc.length then none else match pieceR x with
    | none => none
    | some s => match acc.getLast? with
      | some t => if t.2 + 1 < s.1 then chain (acc ++ [s]) r else none
      | none => chain (acc ++ [s]) r
def readSpans (s : List UInt8) : Option (List Span) := if s = noneT then some [] else chain [] (cutF 44 s)

theorem chain_some : ∀ (r : List (List UInt8)) (acc l : List Span), gapped acc = true → valid acc = true → acc.length ≤ 200 → chain acc r = some l →
    gapped l = true ∧ valid l = true ∧ l.length ≤ 200 ∧ ∃ m, l = acc ++ m ∧ r = m.map showSpan
  | [], acc, l, hg, hv, hn, h => by
    simp only [chain] at h
    injection h with h; subst h
    exact ⟨hg, hv, hn, [], by simp, rfl⟩
  | x :: r, acc, l, hg, hv, hn, h => by
    unfold chain at h
    split at h
    · cases h
    · rename_i h200
      split at h
      · cases h
      · rename_i s hs
        obtain ⟨ho, rfl⟩ := pieceR_iff.1 hs
        have fin : ∀ (_ : ∀ t ∈ acc.getLast?, t.2 + 1 < s.1), chain (acc ++ [s]) r = some l → gapped l = true ∧ valid l = true ∧ l.length ≤ 200 ∧ ∃ m, l = acc ++ m ∧ showSpan s :: r = m.map showSpan := fun hlast hc => by
          obtain ⟨a, b, c, m, e1, e2⟩ := chain_some r (acc ++ [s]) l (gapped_snoc hg hlast) (by unfold valid at hv ⊢; rw [List.all_append, hv]; simp [ho]) (by simp; omega) hc
          exact ⟨a, b, c, s :: m, by rw [e1]; simp, by rw [e2]; rfl⟩
        split at h
        · rename_i t ht
          split at h
          · rename_i hlt
            exact fin (fun u hu => by rw [ht] at hu; injection hu with hu; subst hu; exact hlt) h
          · cases h
        · rename_i ht
          exact fin (fun u hu => by rw [ht] at hu; cases hu) h

theorem chain_of : ∀ (m acc : List Span), gapped (acc ++ m) = true → valid m = true → (acc ++ m).length ≤ 200 → chain acc (m.map showSpan) = some (acc ++ m)
  | [], acc, _, _, _ => by simp [chain]
  | s :: m, acc, hg, hv, hn => by
    have hs : okS s = true := List.all_eq_true.1 hv s (by simp)
    have hv' : valid m = true := by unfold valid at hv ⊢; simp at hv ⊢; exact hv.2
    have hg' : gapped ((acc ++ [s]) ++ m) = true := by simpa using hg
    have hpre : gapped (acc ++ [s]) = true := by
      clear hn hv hv' hg
      have : ∀ (m acc : List Span), gapped (acc ++ m) = true → gapped acc = true := by
        refine snocInd (fun acc h => by simpa using h) (fun m t ih acc h => ?_)
        rw [← List.append_assoc] at h; exact ih acc (gapped_init h).1
      exact this m _ hg'
    have hl := (gapped_init hpre).2
    have ih := chain_of m (acc ++ [s]) hg' hv' (by simpa using hn)
    rw [List.map_cons, chain, if_neg (by simp at hn; omega), pieceR_iff.2 ⟨hs, rfl⟩]
    simp only
    rw [List.append_assoc] at ih
    split
    · rename_i t ht
      rw [if_pos (hl t (by rw [ht]; simp))]
      exact ih
    · exact ih

theorem noneT_ne (l : List Span) (h : l ≠ []) (hv : valid l = true) : joinC (l.map showSpan) ≠ noneT := by
  intro e
  have hc := cutF_join (l.map showSpan) (by simp [h]) (fun p hp => by obtain ⟨s, _, rfl⟩ := List.mem_map.1 hp; exact showSpan_no s)
  rw [e] at hc
  have e2 : cutF 44 noneT = [noneT] := by decide
  rw [e2] at hc
  cases l with
  | nil => exact h rfl
  | cons s r =>
    simp only [List.map_cons] at hc
    injection hc with hc _
    have := congrArg (cutF 45) hc
    rw [cut_showSpan] at this
    have e3 : cutF 45 noneT = [[], []] := by decide
    rw [e3] at this
    split at this
    · injection this with h1 _
      exact (decDigits_good s.1.toNat).2.2.1 h1.symm
    · injection this with h1 _
      exact (decDigits_good s.1.toNat).2.2.1 h1.symm

/-- WHAT IS READ IS WHAT WAS SHOWN -/
theorem readSpans_iff {s : List UInt8} {l : List Span} : readSpans s = some l ↔ gapped l = true ∧ valid l = true ∧ l.length ≤ 200 ∧ s = showSpans l := by
  constructor
  · intro h
    unfold readSpans at h
    split at h
    · rename_i hs
      injection h with h; subst h
      exact ⟨rfl, rfl, by simp, by rw [hs]; rfl⟩
    · rename_i hs
      obtain ⟨a, b, c, m, e1, e2⟩ := chain_some _ [] l rfl rfl (by simp) h
      simp only [List.nil_append] at e1; subst e1
      refine ⟨a, b, c, ?_⟩
      unfold showSpans
      have hne : l ≠ [] := by
        intro e; subst e
        exact cutF_ne 44 s e2
      rw [if_neg hne, ← e2, join_cutF]
  · rintro ⟨hg, hv, hn, rfl⟩
    unfold readSpans showSpans
    by_cases h : l = []
    · subst h; rfl
    · rw [if_neg h, if_neg (noneT_ne l h hv), cutF_join _ (by simp [h]) (fun p hp => by obtain ⟨s, _, rfl⟩ := List.mem_map.1 hp; exact showSpan_no s)]
      have := chain_of l [] (by simpa using hg) hv (by simpa using hn)
      simpa using this

/-! ### Parse: two numbers a piece, as strconv reads them; then the text of what was read is the text -/
def goPiece (x : List UInt8) : Option Span := match cut x [45] with
  | (a, b, two) => match atoiAll a with
    | .ok m => if two then (match atoiAll b with | .ok n => some (m, n) | _ => none) else some (m, m)
    | _ => none
def goPieces : List (List UInt8) → Option (List Span)
  | [] => some []
  | x :: r => match goPiece x with
    | none => none
    | some s => (goPieces r).map (s :: ·)
def goParse (s : List UInt8) : Option (List Span) := if s = noneT then some [] else match goPieces (cutF 44 s) with
  | none => none
  | some l => if fault l = 0 ∧ showSpans (norm l) = s then some l else none

def dstep (n : Nat) (b : UInt8) : Nat := n * 10 + (b.toNat - 48)
theorem dfold_ge : ∀ (l : List UInt8) (acc : Nat), acc ≤ l.foldl dstep acc
  | [], _ => Nat.le_refl _
  | c :: r, acc => Nat.le_trans (by unfold dstep; omega) (dfold_ge r (dstep acc c))
theorem parse_fold : ∀ (l : List UInt8) (acc : Nat), l.all isDig = true → l.foldl dstep acc < 1844674407370955161 → parseUint10 acc l = .ok (l.foldl dstep acc)
  | [], _, _, _ => rfl
  | c :: r, acc, hd, h => by
    simp only [List.all_cons, Bool.and_eq_true] at hd
    have hc : 48 ≤ c.toNat ∧ c.toNat ≤ 57 := by simpa [isDig] using hd.1
    have hge := dfold_ge r (dstep acc c)
    have h' : r.foldl dstep (dstep acc c) < 1844674407370955161 := h
    have e : dstep acc c = acc * 10 + (c.toNat - 48) := rfl
    unfold parseUint10
    rw [if_pos hc, if_neg (by omega), if_neg (by omega), ← e]
    exact parse_fold r (dstep acc c) hd.2 h'
theorem atoi_dec (n : Nat) (h : n ≤ 1000000000000000000) : atoiAll (decDigits n) = .ok (n : Int) := by
  obtain ⟨h1, h2, h3, _⟩ := decDigits_good n
  have hv : (decDigits n).foldl dstep 0 = n := h2
  have hp := parse_fold (decDigits n) 0 h1 (by rw [hv]; omega)
  rw [hv] at hp
  cases hd : decDigits n with
  | nil => exact absurd hd h3
  | cons c r =>
    rw [hd] at h1 hp
    simp only [List.all_cons, Bool.and_eq_true] at h1
    have hc : 48 ≤ c.toNat ∧ c.toNat ≤ 57 := by simpa [isDig] using h1.1
    rw [atoiAll_plain c r (by omega) (by omega)]
    unfold parseMag
    rw [if_neg (by simp), hp]
    unfold signless
    simp
    omega

theorem goPiece_show (s : Span) (h : okS s = true) : goPiece (showSpan s) = some s := by
  obtain ⟨h0, h1, h2⟩ := okS_iff.1 h
  obtain ⟨s1, s2⟩ := s
  simp only at h0 h1 h2
  obtain ⟨a, rfl⟩ := Int.eq_ofNat_of_zero_le h0
  obtain ⟨b, rfl⟩ := Int.eq_ofNat_of_zero_le (Int.le_trans h0 h1)
  unfold goPiece showSpan
  simp only [Int.toNat_natCast]
  by_cases hlt : a < b
  · rw [if_pos (by omega)]
    obtain ⟨p, r, e1, e2, e3⟩ := tx.cut_hit 45 (decDigits a ++ 45 :: decDigits b) (by simp)
    have e : p = decDigits a ∧ r = decDigits b := by
      have g1 := cutF_app 45 r p e2
      have g2 := cutF_app 45 (decDigits b) (decDigits a) (dec_no 45 (by decide) _)
      rw [← e1, g2] at g1
      injection g1 with g3 g4
      subst g3
      have := List.append_cancel_left e1
      injection this with _ g5
      exact ⟨rfl, g5.symm⟩
    rw [e3, e.1, e.2]
    simp only
    rw [atoi_dec a (by omega), atoi_dec b (by omega)]
    simp
  · rw [if_neg (by omega), List.append_nil, tx.cut_free 45 _ (dec_no 45 (by decide) _)]
    simp only
    rw [atoi_dec a (by omega)]
    have : a = b := by omega
    simp [this]

theorem goPieces_show : ∀ (l : List Span), valid l = true → goPieces (l.map showSpan) = some l
  | [], _ => rfl
  | s :: l, h => by
    unfold valid at h
    simp only [List.all_cons, Bool.and_eq_true] at h
    rw [List.map_cons, goPieces, goPiece_show s h.1]
    simp only
    rw [goPieces_show l h.2]; rfl

theorem goPieces_len : ∀ (r : List (List UInt8)) (l : List Span), goPieces r = some l → l.length = r.length
  | [], l, h => by simp [goPieces] at h; subst h; rfl
  | x :: r, l, h => by
    unfold goPieces at h
    split at h
    · cases h
    · rename_i s hs
      cases hr : goPieces r with
      | none => rw [hr] at h; cases h
      | some m =>
        rw [hr] at h
        simp only [Option.map_some] at h
        injection h with h; subst h
        simp [goPieces_len r m hr]

theorem fault_zero {l : List Span} : fault l = 0 ↔ l.length ≤ 200 ∧ valid l = true := by
  unfold fault
  split
  · constructor
    · intro h; cases h
    · intro h; omega
  · split
    · rename_i h1 h2; exact ⟨fun _ => ⟨by omega, h2⟩, fun _ => rfl⟩
    · rename_i h1 h2; exact ⟨fun h => (by cases h), fun h => absurd h.2 h2⟩

theorem okS_of_in {l : List Span} (hv : valid l = true) : ∀ n, inS l n = true → 0 ≤ n ∧ n ≤ 65535 := fun n h => by
  obtain ⟨s, hs, h1, h2⟩ := inS_iff.1 h
  have := okS_iff.1 (List.all_eq_true.1 hv s hs)
  omega
theorem norm_valid {l : List Span} (hv : valid l = true) : valid (norm l) = true := by
  obtain ⟨_, hr, hin⟩ := norm_spec l (valid_rises hv)
  unfold valid
  rw [List.all_eq_true]
  intro s hs
  have h1 := okS_of_in hv s.1 ((hin s.1).1 (inS_iff.2 ⟨s, hs, Int.le_refl _, hr s hs⟩))
  have h2 := okS_of_in hv s.2 ((hin s.2).1 (inS_iff.2 ⟨s, hs, hr s hs, Int.le_refl _⟩))
  exact okS_iff.2 ⟨h1.1, hr s hs, h2.2⟩
theorem norm_ne {l : List Span} (hv : valid l = true) (h : l ≠ []) : norm l ≠ [] := by
  intro e
  obtain ⟨_, _, hin⟩ := norm_spec l (valid_rises hv)
  cases l with
  | nil => exact h rfl
  | cons s r =>
    have hs := okS_iff.1 (List.all_eq_true.1 hv s (by simp))
    have := (hin s.1).2 (inS_iff.2 ⟨s, by simp, Int.le_refl _, hs.2.1⟩)
    rw [e] at this; simp [inS] at this

/-- PARSE READS WHAT ReadSpans READS -/
theorem goParse_eq (s : List UInt8) : goParse s = readSpans s := by
  have key : ∀ l, goParse s = some l ↔ readSpans s = some l := by
    intro l
    rw [readSpans_iff]
    constructor
    · intro h
      unfold goParse at h
      split at h
      · rename_i hs
        injection h with h; subst h
        exact ⟨rfl, rfl, by simp, by rw [hs]; rfl⟩
      · rename_i hs
        split at h
        · cases h
        · rename_i m hm
          split at h
          · rename_i hf
            injection h with h; subst h
            obtain ⟨hn, hv⟩ := fault_zero.1 hf.1
            have hlen := goPieces_len _ _ hm
            have hne : m ≠ [] := by
              intro e; rw [e] at hlen
              exact cutF_ne 44 s (List.length_eq_zero_iff.1 hlen.symm)
            have hnn := norm_ne hv hne
            have e := hf.2
            unfold showSpans at e
            rw [if_neg hnn] at e
            have hc := cutF_join ((norm m).map showSpan) (by simp [hnn]) (fun p hp => by obtain ⟨t, _, rfl⟩ := List.mem_map.1 hp; exact showSpan_no t)
            rw [e] at hc
            rw [hc, goPieces_show _ (norm_valid hv)] at hm
            injection hm with hm
            obtain ⟨g1, _, _⟩ := norm_spec m (valid_rises hv)
            rw [hm] at g1
            refine ⟨g1, hv, hn, ?_⟩
            unfold showSpans
            rw [if_neg hne]
            rw [hm] at e
            exact e.symm
          · cases h
    · rintro ⟨hg, hv, hn, rfl⟩
      unfold goParse
      by_cases h : l = []
      · subst h; rfl
      · have e : showSpans l = joinC (l.map showSpan) := by unfold showSpans; rw [if_neg h]
        rw [e, if_neg (noneT_ne l h hv), cutF_join _ (by simp [h]) (fun p hp => by obtain ⟨t, _, rfl⟩ := List.mem_map.1 hp; exact showSpan_no t), goPieces_show l hv]
        simp only
        rw [if_pos ⟨fault_zero.2 ⟨hn, hv⟩, by rw [norm_gapped (valid_rises hv) hg, e]⟩]
  cases hg : goParse s with
  | none =>
    cases hr : readSpans s with
    | none => rfl
    | some l => have := (key l).2 hr; rw [hg] at this; cases this
  | some l => exact ((key l).1 hg).symm

end Go.Proofs.YtdjpkkppcdmdnaaGreatDoor.sp
