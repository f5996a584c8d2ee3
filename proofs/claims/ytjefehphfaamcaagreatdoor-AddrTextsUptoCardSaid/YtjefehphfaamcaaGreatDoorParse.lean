/- addr.Parse: the address of a text. -/
import Derived.Test.YtjefehphfaamcaaGreatDoorPrint
namespace Go.Proofs.YtjefehphfaamcaaGreatDoor
open Go.RowKit

/-- what Parse hands back -/
def parseV : Option Nat → Value
  | some n => .tuple #[.int .i64 n, .nilIface]
  | none => .tuple #[.int .i64 0, errV 2]

theorem goNum_ok {y : List UInt8} {v : Int} (h : Lib.atoiAll y = .ok v) (hi : Lib.itoa v = y) : tx.goNum y = some v := by unfold tx.goNum; rw [h]; simp [hi]
theorem goNum_ne {y : List UInt8} {v : Int} (h : Lib.atoiAll y = .ok v) (hi : Lib.itoa v ≠ y) : tx.goNum y = none := by unfold tx.goNum; rw [h]; simp [hi]
theorem goNum_bad {y : List UInt8} (h : ∀ v, Lib.atoiAll y ≠ .ok v) : tx.goNum y = none := by
  unfold tx.goNum
  split
  · rename_i v hv; exact absurd hv (h v)
  · rfl
theorem oct_none {y : List UInt8} (h : tx.goNum y = none) : tx.octet y = none := tx.octet_go_none fun v hv => by rw [h] at hv; cases hv
theorem oct_out {y : List UInt8} {v : Int} (h : Lib.atoiAll y = .ok v) (hv : v < 0 ∨ 255 < v) : tx.octet y = none := by
  apply tx.octet_go_none
  intro u hu
  unfold tx.goNum at hu
  rw [h] at hu
  simp only at hu
  split at hu
  · injection hu with hu; omega
  · cases hu

set_option maxHeartbeats 4000000 in
set_option maxRecDepth 1000000 in
theorem parse_any (l : List UInt8) (w : World) (hs : l.length < 4294967281) (G : Glob w) :
    Calls Tryz.prog 9 #[strV l] w fun e w' => e = .returned (parseV (tx.readAddr l)) ∧ Below w.heap.size w w' := by
  have hmem := fun x (hx : x ∈ tx.cutF 46 l) => tx.cutF_mem_len 46 l x hx
  have hne := tx.cutF_ne 46 l
  have HG := Lib.hid G
  clear G
  have hS := fun w G => split_any l 46 hs w G
  have hres : tx.readAddr l = if (tx.cutF 46 l).length = 4 then tx.parts (tx.cutF 46 l) 0 else none := rfl
  generalize tx.readAddr l = R at *
  generalize tx.cutF 46 l = W at *
  go_enter Tryz.func9, Tryz.ntmps9
  go_wp2_with fail
  refine (hS _ HG.out).mono ?_
  rintro e w1 ⟨v, rfl, hrow, hb⟩
  obtain ⟨g, cap, rfl, hB, hg, hn, hc, hcell⟩ := hrow
  have HG1 := Lib.hid (HG.out.below hb)
  have B1 := Lib.hid hb
  have hz1 := hb.size
  clear hb hS HG
  by_cases h4 : W.length = 4
  · rw [if_pos h4] at hres
    have Hres := Lib.hid hres
    have H4 := Lib.hid h4
    rw [h4] at hn ⊢
    have hcl : ∀ (k : Nat) (hk : k < 4), w1.cell? ⟨g, k, none⟩ = some (strV (W[k]'(by rw [H4.out]; exact hk))) := fun k hk => hcell k _ (List.getElem?_eq_getElem (by rw [H4.out]; exact hk))
    have Hcl := Lib.hid hcl
    clear hres h4 hcell hcl hne
    go_wp2
    go_loopw [5, 14] (fun a i wr => ∃ (k : Nat) (x : Nat), k ≤ 4 ∧ i = .int .i64 k ∧ a = .int .i64 x ∧ x < 256 ^ k ∧ tx.parts (W.drop k) x = tx.parts W 0 ∧ Below w1.heap.size w1 wr) (fun _ i _ => 4 - (intOf i).toNat)
    case atStart => exact ⟨0, 0, by omega, rfl, rfl, by omega, rfl, Below.refl _ _⟩
    case round =>
      obtain ⟨k, x, hk, rfl, rfl, hx, hp, hb⟩ := hrel
      have HGr := Lib.hid (HG1.out.below hb)
      have HB := Lib.hid (B1.out.trans (hb.mono hz1))
      have hzr := hb.size
      by_cases hlt : k < 4
      · have hx2 : x < 16777216 := by have := p256 k (by omega); omega
        have hkW : k < W.length := by rw [H4.out]; exact hlt
        have hcx := kept hb (Hcl.out k hlt)
        have hlen : (W[k]).length < 4294967281 := Nat.lt_of_le_of_lt (hmem _ (List.getElem_mem hkW)) hs
        rw [drop_at W k hkW] at hp
        generalize hwk : W[k] = y at *
        have Hb := Lib.hid hb
        have Hwk := Lib.hid hwk
        have Hx := Lib.hid hx
        have Hlen := Lib.hid hlen
        have Hp := Lib.hid hp
        rw [strV_def] at hcx
        clear hwk hx hlen hp hb
        have hstep : ∀ n, tx.octet y = some n → tx.parts (W.drop (k + 1)) (x * 256 + n) = tx.parts W 0 := fun n ho => by
          rw [← Hp.out]; conv => rhs; unfold tx.parts
          rw [ho]
        have hend : tx.octet y = none → parseV R = .tuple #[.int .i64 0, .iface 44 (.int .i64 2)] := fun ho => by
          rw [Hres.out, ← Hp.out]; unfold tx.parts; rw [ho]; rfl
        have Hstep := Lib.hid hstep
        have Hend := Lib.hid hend
        clear hstep hend
        by_cases hok : ∃ v, Lib.atoiAll y = .ok v
        · obtain ⟨v, hv⟩ := hok
          have hA := fun w => atoi_ok y Hlen.out v hv w
          have hbd := Lib.atoiAll_bounds hv
          have Hv := Lib.hid hv
          clear hv
          by_cases hv0 : v < 0
          · have hfin := Lib.hid (Hend.out (oct_out Hv.out (Or.inl hv0)))
            go_wp2_with (go_at_call 25; refine (hA _).mono ?_; rintro e w2 ⟨rfl, hb2⟩; have HB2 := Lib.hid (HB.out.trans (hb2.mono (Nat.le_trans hz1 hzr))); have HG2 := Lib.hid (HGr.out.below hb2); have hz2 := hb2.size; clear hb2)
            go_ret2
            exact ⟨by rw [hfin.out]; rfl, HB2.out⟩
          · by_cases hv1 : 255 < v
            · have hfin := Lib.hid (Hend.out (oct_out Hv.out (Or.inr hv1)))
              go_wp2_with (go_at_call 25; refine (hA _).mono ?_; rintro e w2 ⟨rfl, hb2⟩; have HB2 := Lib.hid (HB.out.trans (hb2.mono (Nat.le_trans hz1 hzr))); have HG2 := Lib.hid (HGr.out.below hb2); have hz2 := hb2.size; clear hb2)
              go_ret2
              exact ⟨by rw [hfin.out]; rfl, HB2.out⟩
            · by_cases hi : Lib.itoa v = y
              · have ho := tx.octet_go (goNum_ok Hv.out hi) (by omega) (by omega)
                have hst := Lib.hid (Hstep.out _ ho)
                have hx3 : x * 256 + v.toNat < 256 ^ (k + 1) := by have := Hx.out; rw [Nat.pow_succ]; omega
                have Hx3 := Lib.hid hx3
                have hor := or256 (x : Int) v (by omega) (by omega) (by omega) (by omega)
                have hne1 : (Lib.itoa v != y) = false := by rw [hi]; simp
                have hne2 : (Lib.itoa v == y) = true := by rw [hi]; simp
                clear hi ho hx3
                go_wp2_with (first
                  | (go_at_call 25; refine (hA _).mono ?_; rintro e w2 ⟨rfl, hb2⟩; have HC2 := Lib.hid (Hb.out.trans (hb2.mono hzr)); have HG2 := Lib.hid (HGr.out.below hb2); have hz2 := hb2.size; clear hb2)
                  | (go_at_call 19; refine (itoa_any v (by omega) (by omega) _ HG2.out).mono ?_; rintro e w3 ⟨rfl, hb3⟩; rw [strV_def]; have HC3 := Lib.hid (HC2.out.trans (hb3.mono (Nat.le_trans hzr hz2))); clear hb3))
                go_roundw
                case rel => exact ⟨k + 1, x * 256 + v.toNat, by omega, by go_num, by rw [show ((x * 256 + v.toNat : Nat) : Int) = (x : Int) * 256 + v by omega], Hx3.out, hst.out, HC3.out⟩
                case measure => simp [intOf]; omega
              · have hfin := Lib.hid (Hend.out (oct_none (goNum_ne Hv.out hi)))
                have hne1 : (Lib.itoa v != y) = true := bne_iff_ne.2 hi
                have hne2 : (Lib.itoa v == y) = false := beq_eq_false_iff_ne.2 hi
                clear hi
                go_wp2_with (first | (go_at_call 25; refine (hA _).mono ?_; rintro e w2 ⟨rfl, hb2⟩; have HB2 := Lib.hid (HB.out.trans (hb2.mono (Nat.le_trans hz1 hzr))); have HG2 := Lib.hid (HGr.out.below hb2); have hz2 := hb2.size; clear hb2) | (go_at_call 19; refine (itoa_any v (by omega) (by omega) _ HG2.out).mono ?_; rintro e w3 ⟨rfl, hb3⟩; rw [strV_def]; have HB3 := Lib.hid (HB2.out.trans (hb3.mono (Nat.le_trans (Nat.le_trans hz1 hzr) hz2))); clear hb3))
                go_ret2
                exact ⟨by rw [hfin.out]; rfl, HB3.out⟩
        · have hA := fun w G => atoi_bad y Hlen.out (fun v hv => hok ⟨v, hv⟩) w G
          have hfin := Lib.hid (Hend.out (oct_none (goNum_bad fun v hv => hok ⟨v, hv⟩)))
          clear hok
          go_wp2_with (go_at_call 25; refine (hA _ HGr.out).mono ?_; rintro e w2 ⟨⟨v, t, p, rfl⟩, hb2⟩; have HB2 := Lib.hid (HB.out.trans (hb2.mono (Nat.le_trans hz1 hzr))); clear hb2)
          go_ret2
          exact ⟨by rw [hfin.out]; rfl, HB2.out⟩
      · obtain rfl : k = 4 := by omega
        have hd : W.drop 4 = [] := List.drop_eq_nil_of_le (by rw [H4.out]; omega)
        rw [hd] at hp
        have hfin : parseV R = .tuple #[.int .i64 x, .nilIface] := by rw [Hres.out, ← hp]; rfl
        have Hfin := Lib.hid hfin
        clear hfin hp hd hb
        go_wp2
        go_ret2
        exact ⟨by rw [Hfin.out]; rfl, HB.out⟩
  · rw [if_neg h4] at hres
    have hfin : parseV R = .tuple #[.int .i64 0, .iface 44 (.int .i64 2)] := by rw [hres]; rfl
    have hfin := Lib.hid hfin
    cases W with
    | nil => exact absurd rfl hne
    | cons y r =>
      have hx1 := hcell 0 y rfl
      have hy : y.length < 4294967281 := Nat.lt_of_le_of_lt (hmem y (by simp)) hs
      have hl4 : ((((y :: r).length : Nat) : Int) != 4) = true := bne_iff_ne.2 (by omega)
      have hl5 : ((((y :: r).length : Nat) : Int) == 4) = false := beq_eq_false_iff_ne.2 (by omega)
      have hlp : 0 < (y :: r).length := by simp
      rw [strV_def] at hx1
      generalize (y :: r).length = m at *
      clear hres h4 hcell hmem hne
      by_cases hok : ∃ v, Lib.atoiAll y = .ok v
      · obtain ⟨v, hv⟩ := hok
        have hA := fun w => atoi_ok y hy v hv w
        have hbd := Lib.atoiAll_bounds hv
        clear hv
        go_wp2
        refine wp_loop_rounds 1 ?_
        rw [rounds_succ]
        by_cases hv0 : v < 0
        · skip
          go_wp2_with (go_at_call 25; refine (hA _).mono ?_; rintro e w2 ⟨rfl, hb2⟩; have HB2 := Lib.hid (B1.out.trans (hb2.mono (hz1))); have HG2 := Lib.hid (HG1.out.below hb2); have hz2 := hb2.size; clear hb2)
          go_ret2
          exact ⟨by rw [hfin.out]; rfl, HB2.out⟩
        · by_cases hv1 : 255 < v
          · skip
            go_wp2_with (go_at_call 25; refine (hA _).mono ?_; rintro e w2 ⟨rfl, hb2⟩; have HB2 := Lib.hid (B1.out.trans (hb2.mono (hz1))); have HG2 := Lib.hid (HG1.out.below hb2); have hz2 := hb2.size; clear hb2)
            go_ret2
            exact ⟨by rw [hfin.out]; rfl, HB2.out⟩
          · by_cases hi : Lib.itoa v = y
            · have hne1 : (Lib.itoa v != y) = false := by rw [hi]; simp
              have hne2 : (Lib.itoa v == y) = true := by rw [hi]; simp
              clear hi
              go_wp2_with (first | (go_at_call 25; refine (hA _).mono ?_; rintro e w2 ⟨rfl, hb2⟩; have HB2 := Lib.hid (B1.out.trans (hb2.mono (hz1))); have HG2 := Lib.hid (HG1.out.below hb2); have hz2 := hb2.size; clear hb2) | (go_at_call 19; refine (itoa_any v (by omega) (by omega) _ HG2.out).mono ?_; rintro e w3 ⟨rfl, hb3⟩; rw [strV_def]; have HB3 := Lib.hid (HB2.out.trans (hb3.mono (Nat.le_trans (hz1) hz2))); clear hb3))
              go_ret2
              exact ⟨by rw [hfin.out]; rfl, HB3.out⟩
            · skip
              have hne1 : (Lib.itoa v != y) = true := bne_iff_ne.2 hi
              have hne2 : (Lib.itoa v == y) = false := beq_eq_false_iff_ne.2 hi
              clear hi
              go_wp2_with (first | (go_at_call 25; refine (hA _).mono ?_; rintro e w2 ⟨rfl, hb2⟩; have HB2 := Lib.hid (B1.out.trans (hb2.mono (hz1))); have HG2 := Lib.hid (HG1.out.below hb2); have hz2 := hb2.size; clear hb2) | (go_at_call 19; refine (itoa_any v (by omega) (by omega) _ HG2.out).mono ?_; rintro e w3 ⟨rfl, hb3⟩; rw [strV_def]; have HB3 := Lib.hid (HB2.out.trans (hb3.mono (Nat.le_trans (hz1) hz2))); clear hb3))
              go_ret2
              exact ⟨by rw [hfin.out]; rfl, HB3.out⟩
      · have hA := fun w G => atoi_bad y hy (fun v hv => hok ⟨v, hv⟩) w G
        clear hok
        go_wp2
        refine wp_loop_rounds 1 ?_
        rw [rounds_succ]
        go_wp2_with (go_at_call 25; refine (hA _ HG1.out).mono ?_; rintro e w2 ⟨⟨v, t, p, rfl⟩, hb2⟩; have HB2 := Lib.hid (B1.out.trans (hb2.mono hz1)); clear hb2)
        go_ret2
        exact ⟨by rw [hfin.out]; rfl, HB2.out⟩

end Go.Proofs.YtjefehphfaamcaaGreatDoor
