/- Plain laws on texts: a text cut at a byte, decimal numerals, addresses and prefixes as text. No program in this text. -/
import Derived.Lib.AtoiAllCases
import Derived.Lib.SplitLaws
import Derived.Lib.ItoaNum
import Derived.Lib.Join
namespace Go.Proofs.YtdjpkkppcdmdnaaGreatDoor.tx
open Go.Lib

/-- s cut at each byte c -/
def cutF (c : UInt8) : List UInt8 → List (List UInt8)
  | [] => [[]]
  | x :: r => if x = c then [] :: cutF c r else match cutF c r with
    | [] => [[x]]
    | h :: t => (x :: h) :: t

theorem cutF_ne (c : UInt8) (l : List UInt8) : cutF c l ≠ [] := by
  cases l with
  | nil => simp [cutF]
  | cons x r => unfold cutF; split
                · simp
                · split <;> simp

theorem cutF_free (c : UInt8) : ∀ (p : List UInt8), c ∉ p → cutF c p = [p]
  | [], _ => rfl
  | x :: r, h => by
    have hx : x ≠ c := fun e => h (by simp [e])
    have hr : c ∉ r := fun e => h (by simp [e])
    rw [cutF, if_neg hx, cutF_free c r hr]

theorem cutF_app (c : UInt8) (r : List UInt8) : ∀ (p : List UInt8), c ∉ p → cutF c (p ++ c :: r) = p :: cutF c r
  | [], _ => by simp [cutF]
  | x :: p, h => by
    have hx : x ≠ c := fun e => h (by simp [e])
    have hp : c ∉ p := fun e => h (by simp [e])
    rw [List.cons_append, cutF, if_neg hx, cutF_app c r p hp]

theorem cutF_mem (c : UInt8) : ∀ (l : List UInt8) (x : List UInt8), x ∈ cutF c l → c ∉ x
  | [], x, h => by simp [cutF] at h; simp [h]
  | y :: l, x, h => by
    have ih := cutF_mem c l
    unfold cutF at h
    split at h
    · rcases List.mem_cons.1 h with e | e
      · simp [e]
      · exact ih x e
    · rename_i hy
      split at h
      · simp only [List.mem_singleton] at h; subst h; simpa using fun e => hy e.symm
      · rename_i p t e
        rcases List.mem_cons.1 h with e' | e'
        · subst e'
          have := ih p (by rw [e]; simp)
          simp only [List.mem_cons, not_or]
          exact ⟨fun e => hy e.symm, this⟩
        · exact ih x (by rw [e]; simp [e'])

theorem cutF_len (c : UInt8) : ∀ (l : List UInt8), (cutF c l).length ≤ l.length + 1
  | [] => by simp [cutF]
  | y :: l => by
    have ih := cutF_len c l
    unfold cutF
    split
    · simp; omega
    · split
      · simp
      · rename_i p t e; rw [e] at ih; simp at ih ⊢; omega

theorem cutF_mem_len (c : UInt8) : ∀ (l : List UInt8) (x : List UInt8), x ∈ cutF c l → x.length ≤ l.length
  | [], x, h => by simp [cutF] at h; simp [h]
  | y :: l, x, h => by
    have ih := cutF_mem_len c l
    unfold cutF at h
    split at h
    · rcases List.mem_cons.1 h with e | e
      · simp [e]
      · have := ih x e; simp; omega
    · split at h
      · simp only [List.mem_singleton] at h; subst h; simp
      · rename_i p t e
        rcases List.mem_cons.1 h with e' | e'
        · subst e'
          have := ih p (by rw [e]; simp)
          simp; omega
        · have := ih x (by rw [e]; simp [e']); simp; omega

theorem index_one (c : UInt8) : ∀ (s : List UInt8), (index s [c] = -1 ∧ c ∉ s) ∨ ∃ p r, s = p ++ c :: r ∧ c ∉ p ∧ index s [c] = (p.length : Int)
  | [] => Or.inl ⟨rfl, by simp⟩
  | x :: l => by
    by_cases hx : x = c
    · subst hx; exact Or.inr ⟨[], l, rfl, by simp, by simp [index, List.isPrefixOf]⟩
    · have hp : ([c] : List UInt8).isPrefixOf (x :: l) = false := by simp [List.isPrefixOf, Ne.symm hx]
      rcases index_one c l with ⟨h1, h2⟩ | ⟨p, r, h1, h2, h3⟩
      · refine Or.inl ⟨by rw [index, hp, h1]; rfl, ?_⟩
        simp only [List.mem_cons, not_or]; exact ⟨fun e => hx e.symm, h2⟩
      · refine Or.inr ⟨x :: p, r, by rw [h1]; rfl, ?_, ?_⟩
        · simp only [List.mem_cons, not_or]; exact ⟨fun e => hx e.symm, h2⟩
        · rw [index, hp, h3]
          have : (((p.length : Int)) == -1) = false := by rw [beq_eq_false_iff_ne]; omega
          simp [this]

theorem splitK_cutF (c : UInt8) : ∀ (k : Nat) (s : List UInt8), count s [c] = k → splitK [c] 0 k s = cutF c s
  | 0, s, hk => by
    rcases index_one c s with ⟨h1, h2⟩ | ⟨p, r, h1, h2, h3⟩
    · rw [cutF_free c s h2]; rfl
    · rw [count_hit (by simp) h3] at hk; omega
  | k + 1, s, hk => by
    rcases index_one c s with ⟨h1, h2⟩ | ⟨p, r, h1, h2, h3⟩
    · rw [count_miss h1] at hk; omega
    · have hk2 := count_hit (by simp) h3
      have hd : s.drop (p.length + ([c] : List UInt8).length) = r := by subst h1; simp
      have ht : s.take p.length = p := by subst h1; simp
      rw [hd] at hk2
      have ih := splitK_cutF c k r (by omega)
      have hne : ¬ ((index s [c] == -1) = true) := fun e => by have := beq_iff_eq.1 e; omega
      rw [splitK, if_neg hne, h3]
      show s.take (p.length + 0) :: splitK [c] 0 k (s.drop (p.length + ([c] : List UInt8).length)) = _
      rw [hd, ih, Nat.add_zero, ht]
      conv => rhs; rw [h1]
      rw [cutF_app c r p h2]

theorem split_cutF (c : UInt8) (s : List UInt8) : split s [c] = cutF c s := splitK_cutF c _ s rfl

theorem splitB_cutF (c : UInt8) (s : ByteArray) : (splitB ⟨#[c]⟩ 0 (countB s ⟨#[c]⟩) s).map (·.data.toList) = cutF c s.data.toList := by
  rw [splitB_data]; exact split_cutF c s.data.toList

theorem cut_free (c : UInt8) (s : List UInt8) (h : c ∉ s) : cut s [c] = (s, [], false) := by
  rcases index_one c s with ⟨h1, _⟩ | ⟨p, r, h1, _, _⟩
  · unfold cut; rw [h1]; simp
  · exact absurd (by rw [h1]; simp) h

theorem cut_hit (c : UInt8) (s : List UInt8) (h : c ∈ s) : ∃ p r, s = p ++ c :: r ∧ c ∉ p ∧ cut s [c] = (p, r, true) := by
  rcases index_one c s with ⟨_, h2⟩ | ⟨p, r, h1, h2, h3⟩
  · exact absurd h h2
  · refine ⟨p, r, h1, h2, ?_⟩
    unfold cut; rw [h3, if_pos (by omega)]
    subst h1; simp

/-! ### numbers -/
def isDig (b : UInt8) : Bool := decide (48 ≤ b.toNat ∧ b.toNat ≤ 57)
def val (l : List UInt8) : Nat := l.foldl (fun n b => n * 10 + (b.toNat - 48)) 0
def canon (l : List UInt8) : Bool := l != [] && l.all isDig && !(l.head? == some 48 && decide (1 < l.length))
def whole (l : List UInt8) (most : Nat) : Option Nat := if decide (l.length ≤ most) && canon l then some (val l) else none

theorem val_snoc (l : List UInt8) (b : UInt8) : val (l ++ [b]) = val l * 10 + (b.toNat - 48) := by simp [val]

theorem decDigits_rec (n : Nat) (h : ¬ n < 10) : decDigits n = decDigits (n / 10) ++ [UInt8.ofNat (48 + n % 10)] := by
  conv => lhs; rw [decDigits]
  rw [dif_neg h]

theorem dig_ofNat (d : Nat) (h : d < 10) : isDig (UInt8.ofNat (48 + d)) = true ∧ (UInt8.ofNat (48 + d)).toNat - 48 = d := by
  have e : (UInt8.ofNat (48 + d)).toNat = 48 + d := by rw [UInt8.toNat_ofNat']; omega
  unfold isDig; rw [e]
  exact ⟨by simp; omega, by omega⟩

theorem decDigits_good (n : Nat) : (decDigits n).all isDig = true ∧ val (decDigits n) = n ∧ decDigits n ≠ [] ∧ (1 ≤ n → (decDigits n).head? ≠ some 48) := by
  induction n using Nat.strongRecOn with
  | _ n ih =>
    by_cases h : n < 10
    · rw [decDigits_one h]
      have := dig_ofNat n h
      refine ⟨by rw [List.all_cons, this.1]; rfl, by show 0 * 10 + _ = n; rw [this.2]; omega, by simp, fun h1 => ?_⟩
      simp only [List.head?_cons, ne_eq, Option.some.injEq]
      intro e
      have := congrArg UInt8.toNat e
      rw [UInt8.toNat_ofNat'] at this
      simp at this
      omega
    · obtain ⟨a, b, c, d⟩ := ih (n / 10) (by omega)
      have hd := dig_ofNat (n % 10) (by omega)
      rw [decDigits_rec n h]
      refine ⟨by rw [List.all_append, a, List.all_cons, hd.1]; rfl, by rw [val_snoc, b, hd.2]; omega, by simp, fun _ => ?_⟩
      rw [List.head?_append]
      cases hh : (decDigits (n / 10)).head? with
      | none => exact absurd (List.head?_eq_none_iff.1 hh) c
      | some x => have := d (by omega); rw [hh] at this; simpa using this

theorem canon_dec (n : Nat) : canon (decDigits n) = true := by
  obtain ⟨a, b, c, d⟩ := decDigits_good n
  unfold canon
  simp only [Bool.and_eq_true, bne_iff_ne, ne_eq, Bool.not_eq_true']
  refine ⟨⟨c, a⟩, ?_⟩
  by_cases h : n < 10
  · rw [decDigits_one h]; simp
  · have := d (by omega)
    simp [this]

theorem uint8_ext {a b : UInt8} (h : a.toNat = b.toNat) : a = b := UInt8.toNat_inj.1 h

theorem canon_val : ∀ (k : Nat) (l : List UInt8), l.length = k → canon l = true → l = decDigits (val l) ∧ (l.head? ≠ some 48 → 1 ≤ val l) := by
  intro k
  induction k with
  | zero => intro l hl h; obtain rfl := List.length_eq_zero_iff.1 hl; simp [canon] at h
  | succ k ih =>
    intro l hl h
    obtain ⟨l', b, rfl⟩ : ∃ l' b, l = l' ++ [b] := ⟨l.dropLast, l.getLast (by intro e; simp [e] at hl), (List.dropLast_concat_getLast _).symm⟩
    have hlen : l'.length = k := by simpa using hl
    have h' := h
    unfold canon at h'
    simp only [Bool.and_eq_true, bne_iff_ne, ne_eq, Bool.not_eq_true', List.all_append, List.all_cons, List.all_nil, Bool.and_true] at h'
    obtain ⟨⟨_, hall, hb⟩, hz⟩ := h'
    have hb' : 48 ≤ b.toNat ∧ b.toNat ≤ 57 := by simpa [isDig] using hb
    have hbe : UInt8.ofNat (48 + (b.toNat - 48)) = b := uint8_ext (by rw [UInt8.toNat_ofNat']; omega)
    by_cases hn : l' = []
    · subst hn
      have e : val ([] ++ [b]) = b.toNat - 48 := by simp [val]
      rw [e, decDigits_one (by omega), hbe]
      refine ⟨rfl, fun hh => ?_⟩
      simp only [List.nil_append, List.head?_cons, ne_eq, Option.some.injEq] at hh
      have : b.toNat ≠ 48 := fun e => hh (uint8_ext (by rw [e]; rfl))
      omega
    · have hhead : (l' ++ [b]).head? = l'.head? := by
        cases l' with
        | nil => exact absurd rfl hn
        | cons x t => rfl
      have hne48 : l'.head? ≠ some 48 := by
        intro e
        rw [hhead, e] at hz
        have : 1 < (l' ++ [b]).length := by have := List.length_pos_iff.2 hn; simp; omega
        simp only [BEq.rfl, Bool.true_and, decide_eq_false_iff_not] at hz
        exact hz this
      have hc' : canon l' = true := by
        unfold canon
        simp [hn, hall, hne48]
      obtain ⟨e1, e2⟩ := ih l' hlen hc'
      have hv := e2 hne48
      rw [val_snoc]
      refine ⟨?_, fun _ => by omega⟩
      rw [decDigits_rec _ (by omega)]
      have q1 : (val l' * 10 + (b.toNat - 48)) / 10 = val l' := by omega
      have q2 : (val l' * 10 + (b.toNat - 48)) % 10 = b.toNat - 48 := by omega
      rw [q1, q2, hbe, ← e1]

theorem whole_some {l : List UInt8} {most n : Nat} : whole l most = some n ↔ l = decDigits n ∧ l.length ≤ most := by
  unfold whole
  constructor
  · intro h
    split at h
    · rename_i hc
      simp only [Bool.and_eq_true, decide_eq_true_eq] at hc
      have := (canon_val _ l rfl hc.2).1
      injection h with h
      rw [← h]
      exact ⟨this, hc.1⟩
    · cases h
  · rintro ⟨rfl, h⟩
    rw [if_pos (by simp [h, canon_dec]), (decDigits_good n).2.1]

theorem dec_inj {n m : Nat} (h : decDigits n = decDigits m) : n = m := by
  rw [← (decDigits_good n).2.1, h, (decDigits_good m).2.1]

theorem atoi_small : ∀ n : Fin 256, atoiAll (decDigits n.val) = .ok (n.val : Int) := by decide +kernel
theorem len_small : ∀ n : Fin 256, (decDigits n.val).length ≤ 3 := by decide +kernel
theorem len_small2 : ∀ n : Fin 33, (decDigits n.val).length ≤ 2 := by decide +kernel
theorem itoa_nat (n : Nat) : itoa (n : Int) = decDigits n := by unfold itoa; rw [if_neg (by omega)]; simp

/-- a number from 0 to most, as strconv reads and prints it -/
def goNum (l : List UInt8) : Option Int := match atoiAll l with
  | .ok v => if itoa v = l then some v else none
  | _ => none

theorem goNum_small {l : List UInt8} {n : Nat} (h : n < 256) : goNum l = some (n : Int) ↔ l = decDigits n := by
  unfold goNum
  constructor
  · intro hh
    split at hh
    · rename_i v hv
      split at hh
      · rename_i e; injection hh with hh; subst hh; rw [← e, itoa_nat]
      · cases hh
    · cases hh
  · rintro rfl
    rw [atoi_small ⟨n, h⟩]; simp [itoa_nat]

/-- a part of an address -/
def octet (l : List UInt8) : Option Nat := (whole l 3).bind fun n => if n ≤ 255 then some n else none

theorem octet_iff {l : List UInt8} {n : Nat} : octet l = some n ↔ n ≤ 255 ∧ l = decDigits n := by
  unfold octet
  constructor
  · intro h
    cases hw : whole l 3 with
    | none => rw [hw] at h; cases h
    | some m =>
      rw [hw] at h
      simp only [Option.bind_some] at h
      split at h
      · injection h with h; subst h; exact ⟨by assumption, (whole_some.1 hw).1⟩
      · cases h
  · rintro ⟨h, rfl⟩
    rw [whole_some.2 ⟨rfl, len_small ⟨n, by omega⟩⟩]; simp [h]

theorem octet_go {l : List UInt8} {v : Int} (h : goNum l = some v) (h0 : 0 ≤ v) (h1 : v ≤ 255) : octet l = some v.toNat := by
  obtain ⟨n, rfl⟩ := Int.eq_ofNat_of_zero_le h0
  exact octet_iff.2 ⟨by omega, (goNum_small (by omega)).1 h⟩
theorem octet_go_none {l : List UInt8} (h : ∀ v, goNum l = some v → v < 0 ∨ 255 < v) : octet l = none := by
  cases ho : octet l with
  | none => rfl
  | some n =>
    obtain ⟨h1, h2⟩ := octet_iff.1 ho
    have := h n ((goNum_small (by omega)).2 h2)
    omega

/-- parts, one behind the other -/
def parts : List (List UInt8) → Nat → Option Nat
  | [], a => some a
  | x :: r, a => match octet x with
    | none => none
    | some n => parts r (a * 256 + n)
def readAddr (s : List UInt8) : Option Nat := if (cutF 46 s).length = 4 then parts (cutF 46 s) 0 else none

def showAddr (a : Nat) : List UInt8 := decDigits (a / 16777216 % 256) ++ 46 :: (decDigits (a / 65536 % 256) ++ 46 :: (decDigits (a / 256 % 256) ++ 46 :: decDigits (a % 256)))

def pfault (a len : Int) : Int := if a < 0 ∨ 4294967295 < a ∨ len < 0 ∨ 32 < len then 1 else if a % 2 ^ (32 - len).toNat ≠ 0 then 3 else 0
def anyT : List UInt8 := [97, 110, 121]
def showPrefix (a len : Nat) : List UInt8 := if len = 0 then anyT else showAddr a ++ 47 :: decDigits len

/-- a prefix out of an address and a length -/
def mkPrefix (a : Option Nat) (n : Option Nat) : Option (Nat × Nat) := match a, n with
  | some a, some n => if 1 ≤ n ∧ pfault a n = 0 then some (a, n) else none
  | _, _ => none
def readPrefix (s : List UInt8) : Option (Nat × Nat) := if s = anyT then some (0, 0) else match cutF 47 s with
  | [x] => mkPrefix (readAddr x) (some 32)
  | [x, y] => mkPrefix (readAddr x) (whole y 2)
  | _ => none

end Go.Proofs.YtdjpkkppcdmdnaaGreatDoor.tx
