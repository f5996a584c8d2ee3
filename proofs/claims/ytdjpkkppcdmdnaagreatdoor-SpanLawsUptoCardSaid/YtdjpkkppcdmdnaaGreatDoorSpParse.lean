/- span.Parse: the spans of a text. -/
import Derived.Test.YtdjpkkppcdmdnaaGreatDoorSpPrint
namespace Go.Proofs.YtdjpkkppcdmdnaaGreatDoor
open Go.RowKit

theorem errV2 : errV 2 = .iface 51 (.int .i64 2) := rfl
/-- what Parse ends with -/
def ParseRes (w' : World) (e : Ending) : Option (List sp.Span) → Prop
  | none => e = .returned (.tuple #[.slice none 0 0, errV 2])
  | some l => ∃ v, e = .returned (.tuple #[v, errV 0]) ∧ RdS w' v l ∧ Plain v

theorem goPiece_def (x : List UInt8) {a b : List UInt8} {two : Bool} (h : Lib.cut x [45] = (a, b, two)) : sp.goPiece x = match Lib.atoiAll a with
    | .ok m => if two then (match Lib.atoiAll b with | .ok n => some (m, n) | _ => none) else some (m, m)
    | _ => none := by
  unfold sp.goPiece; rw [h]; rfl
theorem goPiece_bad {x a b : List UInt8} {two : Bool} (h : Lib.cut x [45] = (a, b, two)) (ha : ∀ v, Lib.atoiAll a ≠ .ok v) : sp.goPiece x = none := by
  rw [goPiece_def x h]
  cases hc : Lib.atoiAll a with
  | ok v => exact absurd hc (ha v)
  | _ => rfl
theorem goPiece_bad2 {x a b : List UInt8} (h : Lib.cut x [45] = (a, b, true)) (hb : ∀ v, Lib.atoiAll b ≠ .ok v) : sp.goPiece x = none := by
  rw [goPiece_def x h]
  cases hc : Lib.atoiAll a with
  | ok v =>
    cases hd : Lib.atoiAll b with
    | ok u => exact absurd hd (hb u)
    | _ => simp
  | _ => rfl
theorem goPiece_one {x a b : List UInt8} {m : Int} (h : Lib.cut x [45] = (a, b, false)) (ha : Lib.atoiAll a = .ok m) : sp.goPiece x = some (m, m) := by
  rw [goPiece_def x h, ha]; rfl
theorem goPiece_two {x a b : List UInt8} {m n : Int} (h : Lib.cut x [45] = (a, b, true)) (ha : Lib.atoiAll a = .ok m) (hb : Lib.atoiAll b = .ok n) : sp.goPiece x = some (m, n) := by
  rw [goPiece_def x h, ha, hb]; rfl
theorem goPieces_cons (x : List UInt8) (r : List (List UInt8)) : sp.goPieces (x :: r) = match sp.goPiece x with
    | none => none
    | some s => (sp.goPieces r).map (s :: ·) := rfl
theorem pieces_on {W : List (List UInt8)} {x : List UInt8} {r : List (List UInt8)} {acc : List sp.Span} {s : sp.Span} (hp : sp.goPiece x = some s) (h : sp.goPieces W = (sp.goPieces (x :: r)).map (acc ++ ·)) :
    sp.goPieces W = (sp.goPieces r).map ((acc ++ [s]) ++ ·) := by
  rw [h, goPieces_cons, hp]
  simp only [Option.map_map]
  congr 1
  funext t
  simp
theorem pieces_none {W : List (List UInt8)} {x : List UInt8} {r : List (List UInt8)} {acc : List sp.Span} (hp : sp.goPiece x = none) (h : sp.goPieces W = (sp.goPieces (x :: r)).map (acc ++ ·)) : sp.goPieces W = none := by
  rw [h, goPieces_cons, hp]; rfl
theorem cut_len (x : List UInt8) : (Lib.cut x [45]).1.length ≤ x.length ∧ (Lib.cut x [45]).2.1.length ≤ x.length := by
  by_cases h : (45 : UInt8) ∈ x
  · obtain ⟨p, r, h1, _, h2⟩ := tx.cut_hit 45 x h
    rw [h2, h1, List.length_append, List.length_cons]
    show p.length ≤ _ ∧ r.length ≤ _
    omega
  · rw [tx.cut_free 45 x h]
    exact ⟨Nat.le_refl _, Nat.zero_le _⟩

set_option maxHeartbeats 4000000 in
set_option maxRecDepth 1000000 in
theorem spParse_any (l : List UInt8) (w : World) (hs : l.length < 4294967281) (G : Glob w) :
    Calls Tryz.prog 6 #[strV l] w fun e w' => ParseRes w' e (sp.goParse l) ∧ Below w.heap.size w w' := by
  by_cases h0 : l = sp.noneT
  · have hr : sp.goParse l = some [] := by unfold sp.goParse; rw [if_pos h0]
    rw [hr, h0, show strV sp.noneT = .string ⟨#[45]⟩ from rfl]
    clear h0 hr G
    go_enter Tryz.func6, Tryz.ntmps6
    go_wp2
    go_ret2
    exact ⟨⟨_, rfl, ⟨none, 0, rfl, Nat.zero_le _, fun h => absurd rfl h⟩, plain_nil⟩, Below.refl _ _⟩
  · have hr : sp.goParse l = match sp.goPieces (tx.cutF 44 l) with
        | none => none
        | some m => if sp.fault m = 0 ∧ sp.showSpans (sp.norm m) = l then some m else none := by unfold sp.goParse; rw [if_neg h0]; rfl
    have hne : (l == [45]) = false := beq_eq_false_iff_ne.2 h0
    have Hr := Lib.hid hr
    have hmem := fun x (hx : x ∈ tx.cutF 44 l) => tx.cutF_mem_len 44 l x hx
    have hwl := tx.cutF_len 44 l
    have hsp := split_any l 44 hs w G
    clear hr h0
    generalize hcut : tx.cutF 44 l = W at *
    clear hcut
    have HG := Lib.hid G
    clear G
    rw [strV_def]
    go_enter Tryz.func6, Tryz.ntmps6
    go_wp2_with fail
    rw [← strV_def]
    refine hsp.mono ?_
    rintro e w1 ⟨v, rfl, hrow, hb⟩
    obtain ⟨g, cap, rfl, hB, hg, hn, hc, hcell⟩ := hrow
    have hcl : ∀ (k : Nat) (hk : k < W.length), w1.cell? ⟨g, k, none⟩ = some (strV W[k]) := fun k hk => hcell k _ (List.getElem?_eq_getElem hk)
    have Hcl := Lib.hid hcl
    have Hmem := Lib.hid hmem
    have HB1 := Lib.hid hb
    have HG1 := Lib.hid (HG.out.below hb)
    clear hcell hcl hb hmem hsp
    obtain ⟨i0, hi, hz0, hz1, hz2⟩ := info_parts infoPair
    go_wp2
    go_loopw [4, 21] (fun u i wr => ∃ (k : Nat) (acc : List sp.Span), k ≤ W.length ∧ i = .int .i64 k ∧ acc.length = k ∧ wr.ownsRow w1.heap.size 27 2 u acc.length (flatS acc) ∧ Below w1.heap.size w1 wr ∧ sp.goPieces W = (sp.goPieces (W.drop k)).map (acc ++ ·))
      (fun _ i _ => W.length - (intOf i).toNat)
    case atStart => exact ⟨0, [], by omega, rfl, rfl, World.ownsRow_nil _ _ _ _, Below.refl _ _, by simp⟩
    case round =>
      obtain ⟨k, acc, hk, rfl, hacc, hown, hbo, hch⟩ := hrel
      by_cases hlt : k < W.length
      · have cx := kept hbo (Hcl.out k hlt)
        have hlen : (W[k]).length < 4294967281 := Nat.lt_of_le_of_lt (Hmem.out _ (List.getElem_mem hlt)) hs
        rw [List.drop_eq_getElem_cons hlt] at hch
        generalize W[k] = x at *
        have hcu := fun w G => cutLib_any x 45 hlen w G
        obtain ⟨hla, hlb⟩ := cut_len x
        have hpb := fun a b two h1 h2 => @goPiece_bad x a b two h1 h2
        have hpb2 := fun a b h1 h2 => @goPiece_bad2 x a b h1 h2
        have hp1 := fun a b m h1 h2 => @goPiece_one x a b m h1 h2
        have hp2 := fun a b m n h1 h2 h3 => @goPiece_two x a b m n h1 h2 h3
        generalize Lib.cut x [45] = C at *
        obtain ⟨a, b, two⟩ := C
        dsimp only at hla hlb hcu
        have Hch := Lib.hid hch
        have Hacc := Lib.hid hacc
        have HO := Lib.hid hbo
        have HGr := Lib.hid (HG1.out.below hbo)
        rw [hacc] at hown
        have Hown := Lib.hid hown
        have Hpb := Lib.hid hpb
        have Hpb2 := Lib.hid hpb2
        have Hp1 := Lib.hid hp1
        have Hp2 := Lib.hid hp2
        have hla2 : a.length < 4294967281 := by omega
        have hlb2 : b.length < 4294967281 := by omega
        clear hch hacc hbo hown hpb hpb2 hp1 hp2
        go_wp2_with fail
        refine (hcu _ HGr.out).mono ?_
        rintro e w2 ⟨rfl, hb2⟩
        have HB2 := Lib.hid (HO.out.trans (hb2.mono HO.out.size))
        have HG2 := Lib.hid (HGr.out.below hb2)
        have hown2 := ownsRow_below Hown.out hb2
        have Hown2 := Lib.hid hown2
        clear hb2 hown2 hcu
        by_cases ha : ∃ m, Lib.atoiAll a = .ok m
        · obtain ⟨m, ha⟩ := ha
          have Ha := Lib.hid ha
          have hA := fun w => atoi_ok a hla2 m ha w
          clear ha
          cases two
          · have Hst := Lib.hid (pieces_on (Hp1.out _ _ _ rfl Ha.out) Hch.out)
            go_wp2_with fail
            refine (hA _).mono ?_
            rintro e w3 ⟨rfl, hb3⟩
            have HB3 := Lib.hid (HB2.out.trans (hb3.mono HB2.out.size))
            have hown3 := ownsRow_below Hown2.out hb3
            clear hb3 hA
            go_wp2_with (at_builtin; refine wpList_append_own _ rfl (.tmp 49) (.tmp 53) 22 rfl w1.heap.size 27 i0 (.agg #[.int .i64 0, .int .i64 0]) 2 16 Tryz.underlying22 hi hz0 hz1 hz2 rfl (by decide) _ _ _ rfl (hown3.alloc _) ⟨_, 0, none⟩ 1 1 [.int .i64 m, .int .i64 m] rfl rfl (newsPair _ _ (by first | rfl | simp) _ _) (onePair _ _) (by unfold maxLen; omega) (by omega) (by have := HB3.out.size; simp; omega) ?_)
            intro v' w5 hown5 hgrow5 _
            have hb5 : Below w1.heap.size w1 w5 := (HB3.out.alloc HB3.out.size _).grown hgrow5 (by have := HB3.out.size; simp; omega) (fun j hj => (hown3.lt j hj).1)
            have HB5 := Lib.hid hb5
            have Hown5 := Lib.hid hown5
            clear hgrow5 hown5 hb5 hown3
            go_wp2
            go_roundw
            case rel => exact ⟨k + 1, acc ++ [(m, m)], by omega, by go_num, by rw [List.length_append, Hacc.out]; rfl, by rw [flatS_snoc, List.length_append, Hacc.out]; exact Hown5.out, HB5.out, Hst.out⟩
            case measure => simp [intOf]; omega
          · by_cases hb : ∃ n, Lib.atoiAll b = .ok n
            · obtain ⟨n, hb⟩ := hb
              have Hst := Lib.hid (pieces_on (Hp2.out _ _ _ _ rfl Ha.out hb) Hch.out)
              have hA2 := fun w => atoi_ok b hlb2 n hb w
              clear hb
              go_wp2_with fail
              refine (hA _).mono ?_
              rintro e w4 ⟨rfl, hb4⟩
              have HB4 := Lib.hid (HB2.out.trans (hb4.mono HB2.out.size))
              have hown4 := ownsRow_below Hown2.out hb4
              clear hb4 hA
              go_wp2_with fail
              refine (hA2 _).mono ?_
              rintro e w3 ⟨rfl, hb3⟩
              have HB3 := Lib.hid (HB4.out.trans (hb3.mono HB4.out.size))
              have hown3 := ownsRow_below hown4 hb3
              clear hb3 hA2 hown4
              go_wp2_with (at_builtin; refine wpList_append_own _ rfl (.tmp 49) (.tmp 53) 22 rfl w1.heap.size 27 i0 (.agg #[.int .i64 0, .int .i64 0]) 2 16 Tryz.underlying22 hi hz0 hz1 hz2 rfl (by decide) _ _ _ rfl (hown3.alloc _) ⟨_, 0, none⟩ 1 1 [.int .i64 m, .int .i64 n] rfl rfl (newsPair _ _ (by first | rfl | simp) _ _) (onePair _ _) (by unfold maxLen; omega) (by omega) (by have := HB3.out.size; simp; omega) ?_)
              intro v' w5 hown5 hgrow5 _
              have hb5 : Below w1.heap.size w1 w5 := (HB3.out.alloc HB3.out.size _).grown hgrow5 (by have := HB3.out.size; simp; omega) (fun j hj => (hown3.lt j hj).1)
              have HB5 := Lib.hid hb5
              have Hown5 := Lib.hid hown5
              clear hgrow5 hown5 hb5 hown3
              go_wp2
              go_roundw
              case rel => exact ⟨k + 1, acc ++ [(m, n)], by omega, by go_num, by rw [List.length_append, Hacc.out]; rfl, by rw [flatS_snoc, List.length_append, Hacc.out]; exact Hown5.out, HB5.out, Hst.out⟩
              case measure => simp [intOf]; omega
            · have hbb : ∀ v, Lib.atoiAll b ≠ .ok v := fun v e => hb ⟨v, e⟩
              have Hfin := Lib.hid (show sp.goParse l = none by rw [Hr.out, pieces_none (Hpb2.out _ _ rfl hbb) Hch.out])
              have hA2 := fun w G => atoi_bad b hlb2 hbb w G
              clear hb hbb
              go_wp2_with fail
              refine (hA _).mono ?_
              rintro e w4 ⟨rfl, hb4⟩
              have HB4 := Lib.hid (HB2.out.trans (hb4.mono HB2.out.size))
              have HG4 := Lib.hid (HG2.out.below hb4)
              clear hb4 hA
              go_wp2_with fail
              refine (hA2 _ HG4.out).mono ?_
              rintro e w3 ⟨⟨z, tz, pz, rfl⟩, hb3⟩
              have HB3 := Lib.hid (HB1.out.trans ((HB4.out.trans (hb3.mono HB4.out.size)).mono HB1.out.size))
              clear hb3 hA2
              go_wp2
              go_ret2
              exact ⟨by rw [Hfin.out]; rfl, HB3.out⟩
        · have haa : ∀ v, Lib.atoiAll a ≠ .ok v := fun v e => ha ⟨v, e⟩
          have Hfin := Lib.hid (show sp.goParse l = none by rw [Hr.out, pieces_none (Hpb.out _ _ _ rfl haa) Hch.out])
          have hA := fun w G => atoi_bad a hla2 haa w G
          clear ha haa
          cases two
          · go_wp2_with fail
            refine (hA _ HG2.out).mono ?_
            rintro e w3 ⟨⟨z, tz, pz, rfl⟩, hb3⟩
            have HB3 := Lib.hid (HB1.out.trans ((HB2.out.trans (hb3.mono HB2.out.size)).mono HB1.out.size))
            clear hb3 hA
            go_wp2
            go_ret2
            exact ⟨by rw [Hfin.out]; rfl, HB3.out⟩
          · by_cases hb : ∃ n, Lib.atoiAll b = .ok n
            · obtain ⟨n, hb⟩ := hb
              have hA2 := fun w => atoi_ok b hlb2 n hb w
              clear hb
              go_wp2_with fail
              refine (hA _ HG2.out).mono ?_
              rintro e w4 ⟨⟨z, tz, pz, rfl⟩, hb4⟩
              have HB4 := Lib.hid (HB2.out.trans (hb4.mono HB2.out.size))
              clear hb4 hA
              go_wp2_with fail
              refine (hA2 _).mono ?_
              rintro e w3 ⟨rfl, hb3⟩
              have HB3 := Lib.hid (HB1.out.trans ((HB4.out.trans (hb3.mono HB4.out.size)).mono HB1.out.size))
              clear hb3 hA2
              go_wp2
              go_ret2
              exact ⟨by rw [Hfin.out]; rfl, HB3.out⟩
            · have hbb : ∀ v, Lib.atoiAll b ≠ .ok v := fun v e => hb ⟨v, e⟩
              have hA2 := fun w G => atoi_bad b hlb2 hbb w G
              clear hb hbb
              go_wp2_with fail
              refine (hA _ HG2.out).mono ?_
              rintro e w4 ⟨⟨z, tz, pz, rfl⟩, hb4⟩
              have HB4 := Lib.hid (HB2.out.trans (hb4.mono HB2.out.size))
              have HG4 := Lib.hid (HG2.out.below hb4)
              clear hb4 hA
              go_wp2_with fail
              refine (hA2 _ HG4.out).mono ?_
              rintro e w3 ⟨⟨z2, tz2, pz2, rfl⟩, hb3⟩
              have HB3 := Lib.hid (HB1.out.trans ((HB4.out.trans (hb3.mono HB4.out.size)).mono HB1.out.size))
              clear hb3 hA2
              go_wp2
              go_ret2
              exact ⟨by rw [Hfin.out]; rfl, HB3.out⟩
      · obtain rfl : k = W.length := by omega
        rw [List.drop_length] at hch
        have hres : sp.goParse l = if sp.fault acc = 0 ∧ sp.showSpans (sp.norm acc) = l then some acc else none := by
          rw [Hr.out, hch]; simp [sp.goPieces]
        have Hres := Lib.hid hres
        have hrd := rdS_owns hown (by omega)
        have hpr := spPrint_any u4 acc wr hrd (plain_owns hown) (HG1.out.below hbo)
        have HRd := Lib.hid hrd
        have HPl := Lib.hid (plain_owns hown)
        have HW := Lib.hid (HB1.out.trans (hbo.mono HB1.out.size))
        clear hch hbo hown hres hrd
        have hfc : sp.fault acc = 0 ∨ sp.fault acc = 1 ∨ sp.fault acc = 4 := by unfold sp.fault; split <;> (try split) <;> simp
        rcases hfc with hf | hf | hf
        · have hps : printS acc = sp.showSpans (sp.norm acc) := if_pos hf
          rw [hf, hps, errV0] at hpr
          have Hf := Lib.hid hf
          generalize sp.showSpans (sp.norm acc) = P at *
          clear hps hf
          by_cases he : P = l
          · have Hfin := Lib.hid (show sp.goParse l = some acc by rw [Hres.out, if_pos ⟨Hf.out, he⟩])
            have q1 : (P == l) = true := beq_iff_eq.2 he
            have q2 : (P != l) = false := by rw [he]; exact bne_self_eq_false _
            clear he
            go_wp2_with fail
            refine hpr.mono ?_
            rintro e w2 ⟨rfl, hb2⟩
            simp only [strV_def]
            have HB2 := Lib.hid (HW.out.trans (hb2.mono HW.out.size))
            have HRd2 := Lib.hid (HRd.out.below hb2)
            clear hb2 hpr
            go_wp2
            go_ret2
            exact ⟨by rw [Hfin.out]; exact ⟨_, rfl, HRd2.out, HPl.out⟩, HB2.out⟩
          · have Hfin := Lib.hid (show sp.goParse l = none by rw [Hres.out, if_neg (fun h => he h.2)])
            have q1 : (P == l) = false := beq_eq_false_iff_ne.2 he
            have q2 : (P != l) = true := bne_iff_ne.2 he
            clear he
            go_wp2_with fail
            refine hpr.mono ?_
            rintro e w2 ⟨rfl, hb2⟩
            simp only [strV_def]
            have HB2 := Lib.hid (HW.out.trans (hb2.mono HW.out.size))
            clear hb2 hpr
            go_wp2
            go_ret2
            exact ⟨by rw [Hfin.out]; rfl, HB2.out⟩
        all_goals
          have Hfin := Lib.hid (show sp.goParse l = none by rw [Hres.out, if_neg (fun h => by rw [hf] at h; exact absurd h.1 (by decide))])
          rw [hf] at hpr
          try rw [errV1] at hpr
          try rw [errV4] at hpr
          generalize printS acc = P at *
          clear hf
          go_wp2_with fail
          refine hpr.mono ?_
          rintro e w2 ⟨rfl, hb2⟩
          have HB2 := Lib.hid (HW.out.trans (hb2.mono HW.out.size))
          clear hb2 hpr
          go_wp2
          go_ret2
          exact ⟨by rw [Hfin.out]; rfl, HB2.out⟩

end Go.Proofs.YtdjpkkppcdmdnaaGreatDoor
