/- portref1.ReadAddr: the address of a text. -/
import Derived.Test.YtjefehphfaamcaaGreatDoorShow
namespace Go.Proofs.YtjefehphfaamcaaGreatDoor
open Go.RowKit

def optI : Option Nat → Int
  | some n => n
  | none => -1

theorem wholeI_oct {l : List UInt8} {n : Nat} (h : tx.octet l = some n) : wholeI l 3 = n ∧ n ≤ 255 := by
  obtain ⟨h1, h2⟩ := tx.octet_iff.1 h
  refine ⟨wholeI_some (tx.whole_some.2 ⟨h2, ?_⟩), h1⟩
  rw [h2]; exact tx.len_small ⟨n, by omega⟩
theorem wholeI_oct_none {l : List UInt8} (h : tx.octet l = none) : wholeI l 3 < 0 ∨ 255 < wholeI l 3 := by
  cases hw : tx.whole l 3 with
  | none => rw [wholeI_none hw]; omega
  | some n =>
    rw [wholeI_some hw]
    unfold tx.octet at h
    rw [hw] at h
    simp only [Option.bind_some] at h
    split at h
    · cases h
    · omega

theorem whole3 (y : List UInt8) (w : World) (hs : y.length < 4294967281) : Calls Tryz.prog 23 #[strV y, .int .i64 3] w fun e w' => e = .returned (.int .i64 (wholeI y 3)) ∧ w = w' := whole_any y 3 (by decide) w hs
theorem whole2 (y : List UInt8) (w : World) (hs : y.length < 4294967281) : Calls Tryz.prog 23 #[strV y, .int .i64 2] w fun e w' => e = .returned (.int .i64 (wholeI y 2)) ∧ w = w' := whole_any y 2 (by decide) w hs

theorem drop_at (l : List (List UInt8)) (k : Nat) (h : k < l.length) : l.drop k = l[k] :: l.drop (k + 1) := List.drop_eq_getElem_cons h

theorem p256 (k : Nat) (h : k ≤ 3) : 256 ^ k ≤ 16777216 := by
  have : 256 ^ k ≤ 256 ^ 3 := Nat.pow_le_pow_right (by omega) h
  have e : (256 : Nat) ^ 3 = 16777216 := by decide
  omega

set_option maxHeartbeats 1000000 in
theorem readAddr_any (l : List UInt8) (w : World) (hs : l.length < 4294967281) :
    Calls Tryz.prog 8 #[strV l] w fun e w' => e = .returned (.int .i64 (optI (tx.readAddr l))) ∧ Below w.heap.size w w' := by
  have hmem := fun x (hx : x ∈ tx.cutF 46 l) => tx.cutF_mem_len 46 l x hx
  by_cases h4 : (tx.cutF 46 l).length = 4
  · have hres : tx.readAddr l = tx.parts (tx.cutF 46 l) 0 := by unfold tx.readAddr; rw [if_pos h4]
    have Hres := Lib.hid hres
    clear hres
    have H4 := Lib.hid h4
    clear h4
    generalize hcut : tx.cutF 46 l = W at *
    have Hcut := Lib.hid hcut
    clear hcut
    go_enter Tryz.func8, Tryz.ntmps8
    go_wp2_with fail
    refine (cut_any ⟨l.toArray⟩ 46 _ (by rw [strV_size]; exact hs)).mono ?_
    rintro e w1 ⟨v, rfl, hrow, hb⟩
    have hcut2 : tx.cutF 46 (⟨l.toArray⟩ : ByteArray).data.toList = W := Hcut.out
    rw [hcut2] at hrow
    obtain ⟨g, cap, rfl, hB, hg, hn, hc, hcell⟩ := hrow
    rw [H4.out] at hn ⊢
    clear hcut2
    have hcl : ∀ (k : Nat) (hk : k < 4), w1.cell? ⟨g, k, none⟩ = some (strV (W[k]'(by rw [H4.out]; exact hk))) := fun k hk => hcell k _ (List.getElem?_eq_getElem (by rw [H4.out]; exact hk))
    have Hcl := Lib.hid hcl
    have Hb := Lib.hid hb
    clear hcell hcl hb
    go_wp2
    go_loop [4, 5] (fun a i => ∃ (k : Nat) (x : Nat), k ≤ 4 ∧ i = .int .i64 k ∧ a = .int .i64 x ∧ x < 256 ^ k ∧ tx.parts (W.drop k) x = tx.parts W 0) (fun _ i => 4 - (intOf i).toNat)
    case atStart => exact ⟨0, 0, by omega, rfl, rfl, by omega, rfl⟩
    case round =>
      obtain ⟨k, x, hk, rfl, rfl, hx, hp⟩ := hrel
      by_cases hlt : k < 4
      · have hx2 : x < 16777216 := by have := p256 k (by omega); omega
        have hkW : k < W.length := by rw [H4.out]; exact hlt
        have hcx := Hcl.out k hlt
        have hlen : (W[k]).length < 4294967281 := Nat.lt_of_le_of_lt (hmem _ (List.getElem_mem hkW)) hs
        rw [drop_at W k hkW] at hp
        generalize hwk : W[k] = y at *
        have Hwk := Lib.hid hwk
        clear hwk
        have Hx := Lib.hid hx
        have Hlen := Lib.hid hlen
        clear hx hlen
        cases ho : tx.octet y with
        | none =>
          have hfin : optI (tx.readAddr l) = -1 := by rw [Hres.out, ← hp]; unfold tx.parts; rw [ho]; rfl
          have Hfin := Lib.hid hfin
          have hbad := wholeI_oct_none ho
          clear hfin hp
          have h3 := whole3 y w1 Hlen.out
          generalize wholeI y 3 = z at h3 hbad
          rcases hbad with hbad | hbad
          all_goals
            go_wp2_with (go_at_call 23; refine h3.mono ?_; rintro e w' ⟨rfl, rfl⟩)
            go_ret
            exact ⟨by rw [Hfin.out]; rfl, Hb.out⟩
        | some n =>
          obtain ⟨e3, hn255⟩ := wholeI_oct ho
          have h3 := whole3 y w1 Hlen.out
          rw [e3] at h3
          have hp2 : tx.parts (W.drop (k + 1)) (x * 256 + n) = tx.parts W 0 := by
            rw [← hp]; conv => rhs; unfold tx.parts
            rw [ho]
          have hx3 : x * 256 + n < 256 ^ (k + 1) := by have := Hx.out; rw [Nat.pow_succ]; omega
          have Hp2 := Lib.hid hp2
          have Hx3 := Lib.hid hx3
          clear e3 hp hp2 hx3
          go_wp2_with (go_at_call 23; refine h3.mono ?_; rintro e w' ⟨rfl, rfl⟩)
          go_round
          case rel => exact ⟨k + 1, x * 256 + n, by omega, by go_num, by go_num, Hx3.out, Hp2.out⟩
          case measure => simp [intOf]; omega
      · obtain rfl : k = 4 := by omega
        have hd : W.drop 4 = [] := List.drop_eq_nil_of_le (by rw [H4.out]; omega)
        rw [hd] at hp
        have hfin : optI (tx.readAddr l) = x := by rw [Hres.out, ← hp]; rfl
        have Hfin := Lib.hid hfin
        clear hfin hp hd
        go_wp2
        go_ret
        exact ⟨by rw [Hfin.out]; rfl, Hb.out⟩
  · have hres : optI (tx.readAddr l) = -1 := by unfold tx.readAddr; rw [if_neg h4]; rfl
    have Hres := Lib.hid hres
    have hn4 : (((tx.cutF 46 l).length : Int) == 4) = false := beq_eq_false_iff_ne.2 (by omega)
    have hn5 : (((tx.cutF 46 l).length : Int) != 4) = true := bne_iff_ne.2 (by omega)
    clear hres h4
    go_enter Tryz.func8, Tryz.ntmps8
    go_wp2_with fail
    refine (cut_any ⟨l.toArray⟩ 46 _ (by rw [strV_size]; exact hs)).mono ?_
    rintro e w1 ⟨v, rfl, hrow, hb⟩
    have hcut2 : tx.cutF 46 (⟨l.toArray⟩ : ByteArray).data.toList = tx.cutF 46 l := rfl
    rw [hcut2] at hrow
    obtain ⟨g, cap, rfl, hB, hg, hn, hc, hcell⟩ := hrow
    have Hb := Lib.hid hb
    clear hcut2 hb hcell
    go_wp2
    go_ret
    exact ⟨by rw [Hres.out]; rfl, Hb.out⟩

end Go.Proofs.YtjefehphfaamcaaGreatDoor
