/- portref1.Whole: what it computes. -/
import Derived.Test.YtdjpkkppcdmdnaaGreatDoorDig
import Derived.Laws.Strings
namespace Go.Proofs.YtdjpkkppcdmdnaaGreatDoor
open Go.RowKit

/-- what Whole gives -/
def wholeI (l : List UInt8) (most : Nat) : Int := match tx.whole l most with
  | some n => n
  | none => -1
theorem wholeI_none {l : List UInt8} {most : Nat} (h : tx.whole l most = none) : wholeI l most = -1 := by unfold wholeI; rw [h]
theorem wholeI_some {l : List UInt8} {most n : Nat} (h : tx.whole l most = some n) : wholeI l most = n := by unfold wholeI; rw [h]

/-- digits so far -/
def Digs (l : List UInt8) (k : Nat) (x : Int) : Prop := (l.take k).all tx.isDig = true ∧ x = (tx.val (l.take k) : Int) ∧ tx.val (l.take k) < 10 ^ k

theorem digs_next {l : List UInt8} {k : Nat} {x : Int} (h : Digs l k x) (hk : k < l.length) (h0 : 48 ≤ l[k].toNat) (h1 : l[k].toNat ≤ 57) : Digs l (k + 1) (x * 10 + (l[k].toNat : Int) - 48) := by
  obtain ⟨a, b, c⟩ := h
  rw [Digs, List.take_succ_eq_append_getElem hk]
  have e : tx.val (l.take k ++ [l[k]]) = tx.val (l.take k) * 10 + (l[k].toNat - 48) := tx.val_snoc _ _
  refine ⟨by rw [List.all_append, a]; simp [tx.isDig, h0, h1], by rw [e]; omega, by rw [e, Nat.pow_succ]; omega⟩

theorem whole_bad {l : List UInt8} {most k : Nat} (hk : k < l.length) (h : l[k].toNat < 48 ∨ 57 < l[k].toNat) : tx.whole l most = none := by
  unfold tx.whole
  rw [if_neg]
  intro hc
  simp only [Bool.and_eq_true] at hc
  have := hc.2
  unfold tx.canon at this
  simp only [Bool.and_eq_true, List.all_eq_true] at this
  have hd := this.1.2 l[k] (List.getElem_mem hk)
  unfold tx.isDig at hd
  simp only [decide_eq_true_eq] at hd
  omega
theorem whole_done {l : List UInt8} {most : Nat} {x : Int} (hd : Digs l l.length x) (hl : l.length ≤ most) (hne : l ≠ []) (hz : ¬ (l.head? = some 48 ∧ 1 < l.length)) : wholeI l most = x := by
  obtain ⟨a, b, _⟩ := hd
  rw [List.take_length] at a b
  have : tx.whole l most = some (tx.val l) := by
    unfold tx.whole
    rw [if_pos]
    unfold tx.canon
    simp only [Bool.and_eq_true, decide_eq_true_eq, bne_iff_ne, ne_eq, Bool.not_eq_true', a, hne, not_false_eq_true, and_self, true_and]
    refine ⟨hl, ?_⟩
    rw [Bool.eq_false_iff]
    intro hc
    simp only [Bool.and_eq_true, beq_iff_eq, decide_eq_true_eq] at hc
    exact hz hc
  rw [wholeI_some this, b]
theorem whole_long {l : List UInt8} {most : Nat} (h : most < l.length) : tx.whole l most = none := by
  unfold tx.whole
  rw [if_neg]
  simp only [Bool.and_eq_true, decide_eq_true_eq]
  omega
theorem whole_nil {most : Nat} : tx.whole [] most = none := by
  unfold tx.whole
  rw [if_neg]
  simp [tx.canon]
theorem whole_zero {l : List UInt8} {most : Nat} (h : l.head? = some 48) (h1 : 1 < l.length) : tx.whole l most = none := by
  unfold tx.whole
  rw [if_neg]
  simp [tx.canon, h, h1]

theorem digs_bound {l : List UInt8} {k : Nat} {x : Int} (h : Digs l k x) (hk : k ≤ 9) : 0 ≤ x ∧ x < 1000000000 := by
  obtain ⟨a, b, c⟩ := h
  have : 10 ^ k ≤ 10 ^ 9 := Nat.pow_le_pow_right (by omega) hk
  have e : (10 : Nat) ^ 9 = 1000000000 := by decide
  omega
theorem u8_eq' {a b : UInt8} (h : a.toNat = b.toNat) : a = b := UInt8.toNat_inj.1 h

set_option maxHeartbeats 1000000 in
theorem whole_any (l : List UInt8) (most : Nat) (hm : most ≤ 9) (w : World) (hs : l.length < 4294967281) :
    Calls Tryz.prog 40 #[strV l, .int .i64 most] w fun e w' => e = .returned (.int .i64 (wholeI l most)) ∧ w = w' := by
  obtain ⟨s, rfl⟩ : ∃ s : ByteArray, l = s.data.toList := ⟨⟨l.toArray⟩, by simp⟩
  show Calls Tryz.prog 40 #[.string s, .int .i64 most] w _
  have hsz : s.data.toList.length = s.size := by rw [Array.length_toList]; rfl
  have Hsz := Lib.hid hsz
  rw [hsz] at hs
  clear hsz
  by_cases h0 : s.size = 0
  · have hfin : wholeI s.data.toList most = -1 := by
      have : s.data.toList = [] := List.length_eq_zero_iff.1 (by rw [Hsz.out]; exact h0)
      rw [this]; exact wholeI_none whole_nil
    have Hf := Lib.hid hfin
    clear hfin
    have hn1 : s.toList = [] := by rw [ByteArray.toList_eq]; exact List.length_eq_zero_iff.1 (by rw [Hsz.out]; exact h0)
    have hn2 : s.toList.isEmpty = true := by rw [hn1]; rfl
    go_enter Tryz.func40, Tryz.ntmps40
    go_wp2
    go_ret
    exact ⟨by rw [Hf.out]; rfl, rfl⟩
  · have hne : s.data.toList ≠ [] := fun e => by have := Hsz.out; rw [e] at this; exact h0 this.symm
    have hn1 : ¬ s.toList = [] := by rw [ByteArray.toList_eq]; exact hne
    have hn2 : s.toList.isEmpty = false := by rw [List.isEmpty_eq_false_iff]; exact hn1
    have Hne := Lib.hid hne
    clear hne
    have hpos : 0 < s.size := by omega
    by_cases hlong : most < s.size
    · have hfin := Lib.hid (wholeI_none (whole_long (l := s.data.toList) (most := most) (by rw [Hsz.out]; exact hlong)))
      go_enter Tryz.func40, Tryz.ntmps40
      go_wp2
      go_ret
      exact ⟨by rw [hfin.out]; rfl, rfl⟩
    · have hhead : s.data.toList.head? = some s[0] := by
        rw [List.head?_eq_getElem?, List.getElem?_eq_getElem (by rw [Hsz.out]; exact hpos)]; rfl
      have Hh := Lib.hid hhead
      clear hhead
      by_cases hz : s[0].toNat = 48 ∧ 1 < s.size
      · obtain ⟨hz1, hz2⟩ := hz
        have hfin := Lib.hid (wholeI_none (whole_zero (l := s.data.toList) (most := most) (by rw [Hh.out]; exact congrArg some (u8_eq' hz1)) (by rw [Hsz.out]; exact hz2)))
        have hz3 : ((s[0].toNat : Int) == 48) = true := beq_iff_eq.2 (by omega)
        have Hz1 := Lib.hid hz1
        clear hz1
        go_enter Tryz.func40, Tryz.ntmps40
        go_wp2
        go_ret
        exact ⟨by rw [hfin.out]; rfl, rfl⟩
      · have hfin : ∀ x, Digs s.data.toList s.size x → wholeI s.data.toList most = x := fun x hx => whole_done (by rw [Hsz.out]; exact hx) (by rw [Hsz.out]; omega) Hne.out (by
          rw [Hh.out, Hsz.out]; rintro ⟨e, e2⟩; injection e with e; exact hz ⟨by rw [e]; rfl, e2⟩)
        have hbad : ∀ k (hk : k < s.size), s[k].toNat < 48 ∨ 57 < s[k].toNat → wholeI s.data.toList most = -1 := fun k hk h => wholeI_none (whole_bad (k := k) (by rw [Hsz.out]; exact hk) h)
        have hnext : ∀ k x (hk : k < s.size), Digs s.data.toList k x → 48 ≤ s[k].toNat → s[k].toNat ≤ 57 → Digs s.data.toList (k + 1) (x * 10 + (s[k].toNat : Int) - 48) := fun k x hk hd a b => digs_next hd (by rw [Hsz.out]; exact hk) a b
        have Hfin := Lib.hid hfin
        have Hbad := Lib.hid hbad
        have Hnext := Lib.hid hnext
        clear hfin hbad hnext
        have hc : (s[0].toNat ≠ 48) ∨ (s[0].toNat = 48 ∧ s.size = 1) := by omega
        clear hz
        rcases hc with hc | ⟨hc1, hc2⟩
        · have hz3 : ((s[0].toNat : Int) == 48) = false := beq_eq_false_iff_ne.2 (by omega)
          have Hc := Lib.hid hc
          clear hc
          go_enter Tryz.func40, Tryz.ntmps40
          go_wp2
          go_loop [5, 6] (fun x i => ∃ (k : Nat) (y : Int), k ≤ s.size ∧ i = .int .i64 k ∧ x = .int .i64 y ∧ Digs s.data.toList k y) (fun _ i => s.size - (intOf i).toNat)
          case atStart => exact ⟨0, 0, Nat.zero_le _, rfl, rfl, by simp [Digs, tx.val]⟩
          case round =>
            obtain ⟨k, y, hk, rfl, rfl, hd⟩ := hrel
            obtain ⟨hy0, hy1⟩ := digs_bound hd (show k ≤ 9 by omega)
            have Hd := Lib.hid hd
            clear hd
            by_cases hlt : k < s.size
            · by_cases hb : s[k].toNat < 48 ∨ 57 < s[k].toNat
              · have hfin := Lib.hid (Hbad.out k hlt hb)
                rcases hb with hb | hb
                · go_wp2
                  go_ret
                  exact ⟨by rw [hfin.out]; rfl, rfl⟩
                · have hb2 : ¬ s[k].toNat < 48 := by omega
                  go_wp2
                  go_ret
                  exact ⟨by rw [hfin.out]; rfl, rfl⟩
              · have hb1 : ¬ s[k].toNat < 48 := by omega
                have hb2 : ¬ 57 < s[k].toNat := by omega
                have hb3 : s[k].toNat < 256 := s[k].toNat_lt
                have hnx := Lib.hid (Hnext.out k y hlt Hd.out (by omega) (by omega))
                clear hb
                go_wp2
                go_round
                case rel => exact ⟨k + 1, y * 10 + (s[k].toNat : Int) - 48, by omega, by go_num, rfl, hnx.out⟩
                case measure => simp [intOf]; omega
            · have hks : k = s.size := by omega
              have hfin := Lib.hid (Hfin.out y (by rw [← hks]; exact Hd.out))
              clear hks
              go_wp2
              go_ret
              exact ⟨by rw [hfin.out]; rfl, rfl⟩
        · have hz3 : ((s[0].toNat : Int) == 48) = true := beq_iff_eq.2 (by omega)
          have hz4 : ¬ (1 < s.size) := by omega
          have Hc1 := Lib.hid hc1
          have Hc2 := Lib.hid hc2
          clear hc1 hc2
          go_enter Tryz.func40, Tryz.ntmps40
          go_wp2
          go_loop [5, 6] (fun x i => ∃ (k : Nat) (y : Int), k ≤ s.size ∧ i = .int .i64 k ∧ x = .int .i64 y ∧ Digs s.data.toList k y) (fun _ i => s.size - (intOf i).toNat)
          case atStart => exact ⟨0, 0, Nat.zero_le _, rfl, rfl, by simp [Digs, tx.val]⟩
          case round =>
            obtain ⟨k, y, hk, rfl, rfl, hd⟩ := hrel
            obtain ⟨hy0, hy1⟩ := digs_bound hd (show k ≤ 9 by omega)
            have Hd := Lib.hid hd
            clear hd
            by_cases hlt : k < s.size
            · by_cases hb : s[k].toNat < 48 ∨ 57 < s[k].toNat
              · have hfin := Lib.hid (Hbad.out k hlt hb)
                rcases hb with hb | hb
                · go_wp2
                  go_ret
                  exact ⟨by rw [hfin.out]; rfl, rfl⟩
                · have hb2 : ¬ s[k].toNat < 48 := by omega
                  go_wp2
                  go_ret
                  exact ⟨by rw [hfin.out]; rfl, rfl⟩
              · have hb1 : ¬ s[k].toNat < 48 := by omega
                have hb2 : ¬ 57 < s[k].toNat := by omega
                have hb3 : s[k].toNat < 256 := s[k].toNat_lt
                have hnx := Lib.hid (Hnext.out k y hlt Hd.out (by omega) (by omega))
                clear hb
                go_wp2
                go_round
                case rel => exact ⟨k + 1, y * 10 + (s[k].toNat : Int) - 48, by omega, by go_num, rfl, hnx.out⟩
                case measure => simp [intOf]; omega
            · have hks : k = s.size := by omega
              have hfin := Lib.hid (Hfin.out y (by rw [← hks]; exact Hd.out))
              clear hks
              go_wp2
              go_ret
              exact ⟨by rw [hfin.out]; rfl, rfl⟩

end Go.Proofs.YtdjpkkppcdmdnaaGreatDoor
