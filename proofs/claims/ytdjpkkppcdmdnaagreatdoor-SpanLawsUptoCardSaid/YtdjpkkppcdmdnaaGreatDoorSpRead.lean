/- portref1.ReadSpans: the spans of a text. -/
import Derived.Test.YtdjpkkppcdmdnaaGreatDoorSpShow
import Derived.Test.YtdjpkkppcdmdnaaGreatDoorCut
namespace Go.Proofs.YtdjpkkppcdmdnaaGreatDoor
open Go.RowKit

theorem infoPair : (Tryz.prog.info? 27).map (fun i => (i.zero, i.size, i.bytes)) = some (some (.agg #[.int .i64 0, .int .i64 0]), 2, 16) := by kernel_rfl

/-- what ReadSpans ends with -/
def ReadRes (w' : World) (e : Ending) : Option (List sp.Span) → Prop
  | none => e = .returned (.tuple #[.slice none 0 0, .bool false])
  | some l => ∃ v, e = .returned (.tuple #[v, .bool true]) ∧ RdS w' v l

theorem piece_one {x p : List UInt8} (h : tx.cutF 45 x = [p]) : sp.pieceR x = if 0 ≤ wholeI p 5 ∧ wholeI p 5 ≤ 65535 then some (wholeI p 5, wholeI p 5) else none := by
  unfold sp.pieceR
  rw [h]
  cases hp : tx.whole p 5 with
  | none => rw [wholeI_none hp]; simp [hp]
  | some n =>
    rw [wholeI_some hp]
    by_cases hn : n ≤ 65535
    · rw [if_pos (by omega)]; simp [hn, hp]
    · rw [if_neg (by omega)]; simp [hn, hp]
theorem piece_two {x p q : List UInt8} (h : tx.cutF 45 x = [p, q]) : sp.pieceR x = if 0 ≤ wholeI p 5 ∧ wholeI q 5 ≤ 65535 ∧ wholeI p 5 < wholeI q 5 then some (wholeI p 5, wholeI q 5) else none := by
  unfold sp.pieceR
  rw [h]
  cases hp : tx.whole p 5 with
  | none => rw [wholeI_none hp]; simp [hp]
  | some n =>
    rw [wholeI_some hp]
    cases hq : tx.whole q 5 with
    | none => rw [wholeI_none hq, if_neg (by omega)]; simp [hp, hq]
    | some m =>
      rw [wholeI_some hq]
      by_cases hn : n < m ∧ m ≤ 65535
      · rw [if_pos (by omega)]; simp [hp, hq, hn]
      · rw [if_neg (by omega)]; simp only [hp, hq, if_neg hn]
theorem piece_more {x p q r : List UInt8} {t : List (List UInt8)} (h : tx.cutF 45 x = p :: q :: r :: t) : sp.pieceR x = none := by
  unfold sp.pieceR; rw [h]

/-- the fate of one piece -/
theorem chain_none {acc : List sp.Span} {x : List UInt8} {r : List (List UInt8)} (h : 200 ≤ acc.length ∨ sp.pieceR x = none) : sp.chain acc (x :: r) = none := by
  unfold sp.chain
  by_cases h1 : 200 ≤ acc.length
  · rw [if_pos h1]
  · rw [if_neg h1, h.resolve_left h1]
theorem chain_close {acc : List sp.Span} {x : List UInt8} {r : List (List UInt8)} {s t : sp.Span} (hp : sp.pieceR x = some s) (ht : acc.getLast? = some t) (h : s.1 ≤ t.2 + 1) : sp.chain acc (x :: r) = none := by
  unfold sp.chain
  by_cases h1 : 200 ≤ acc.length
  · rw [if_pos h1]
  · rw [if_neg h1, hp]
    simp only [ht]
    rw [if_neg (by omega)]
theorem chain_on {acc : List sp.Span} {x : List UInt8} {r : List (List UInt8)} {s : sp.Span} (h1 : acc.length < 200) (hp : sp.pieceR x = some s) (h : ∀ t, acc.getLast? = some t → t.2 + 1 < s.1) : sp.chain acc (x :: r) = sp.chain (acc ++ [s]) r := by
  conv => lhs; unfold sp.chain
  rw [if_neg (by omega), hp]
  cases ht : acc.getLast? with
  | none => rfl
  | some t => simp only; rw [if_pos (h t ht)]
theorem last_at {acc : List sp.Span} {k : Nat} (h : acc.length = k) (hk : 0 < k) : acc.getLast? = some (acc[k - 1]'(by omega)) := by
  subst h
  rw [List.getLast?_eq_getElem?, List.getElem?_eq_getElem (by omega)]

set_option maxHeartbeats 4000000 in
set_option maxRecDepth 1000000 in
theorem readSpans_any (l : List UInt8) (w : World) (hs : l.length < 4294967281) :
    Calls Tryz.prog 19 #[strV l] w fun e w' => ReadRes w' e (sp.readSpans l) ∧ Below w.heap.size w w' := by
  by_cases h0 : l = sp.noneT
  · have hr : sp.readSpans l = some [] := by unfold sp.readSpans; rw [if_pos h0]
    rw [hr]
    have Hr := Lib.hid hr
    clear hr
    rw [h0, show strV sp.noneT = .string ⟨#[45]⟩ from rfl]
    clear h0 Hr
    go_enter Tryz.func19, Tryz.ntmps19
    go_wp2
    go_ret2
    exact ⟨⟨_, rfl, none, 0, rfl, Nat.zero_le _, fun h => absurd rfl h⟩, Below.refl _ _⟩
  · have hr : sp.readSpans l = sp.chain [] (tx.cutF 44 l) := by unfold sp.readSpans; rw [if_neg h0]
    rw [strV_def]
    have hne : (l == [45]) = false := beq_eq_false_iff_ne.2 h0
    have Hr := Lib.hid hr
    have hmem := fun x (hx : x ∈ tx.cutF 44 l) => tx.cutF_mem_len 44 l x hx
    clear hr h0
    generalize hcut : tx.cutF 44 l = W at *
    have Hcut := Lib.hid hcut
    clear hcut
    go_enter Tryz.func19, Tryz.ntmps19
    go_wp2_with fail
    refine (cut_any ⟨l.toArray⟩ 44 _ (by rw [strV_size]; exact hs)).mono ?_
    rintro e w1 ⟨v, rfl, hrow, hb⟩
    have hcut2 : tx.cutF 44 (⟨l.toArray⟩ : ByteArray).data.toList = W := Hcut.out
    rw [hcut2] at hrow
    obtain ⟨g, cap, rfl, hB, hg, hn, hc, hcell⟩ := hrow
    clear hcut2
    have hcl : ∀ (k : Nat) (hk : k < W.length), w1.cell? ⟨g, k, none⟩ = some (strV W[k]) := fun k hk => hcell k _ (List.getElem?_eq_getElem hk)
    have Hcl := Lib.hid hcl
    have Hmem := Lib.hid hmem
    have HB1 := Lib.hid hb
    clear hcell hcl hb hmem
    obtain ⟨i0, hi, hz0, hz1, hz2⟩ := info_parts infoPair
    go_wp2
    go_loopw [4, 6] (fun u i wr => ∃ (k : Nat) (acc : List sp.Span), k ≤ W.length ∧ i = .int .i64 k ∧ acc.length = k ∧ wr.ownsRow w1.heap.size 27 2 u acc.length (flatS acc) ∧ Below w1.heap.size w1 wr ∧ sp.chain acc (W.drop k) = sp.chain [] W ∧ acc.length ≤ 200 ∧ ∀ t ∈ acc, 0 ≤ t.2 ∧ t.2 ≤ 65535)
      (fun _ i _ => W.length - (intOf i).toNat)
    case atStart => exact ⟨0, [], by omega, rfl, rfl, World.ownsRow_nil _ _ _ _, Below.refl _ _, rfl, by simp, by simp⟩
    case round =>
      obtain ⟨k, acc, hk, rfl, hacc, hown, hbo, hch, h200, hval⟩ := hrel
      by_cases hlt : k < W.length
      · have cx := kept hbo (Hcl.out k hlt)
        have hlen : (W[k]).length < 4294967281 := Nat.lt_of_le_of_lt (Hmem.out _ (List.getElem_mem hlt)) hs
        rw [List.drop_eq_getElem_cons hlt] at hch
        generalize W[k] = x at *
        have hmx := fun p (hp : p ∈ tx.cutF 45 x) => Nat.lt_of_le_of_lt (tx.cutF_mem_len 45 x p hp) hlen
        have hP1 := @piece_one x
        have hP2 := @piece_two x
        have hP3 := @piece_more x
        generalize hcx : tx.cutF 45 x = P at *
        have hcu := fun w => cut_any ⟨x.toArray⟩ 45 w (by rw [strV_size]; exact hlen)
        have e45 : tx.cutF 45 (⟨x.toArray⟩ : ByteArray).data.toList = P := hcx
        rw [e45] at hcu
        have HP := Lib.hid (show P ≠ [] from hcx ▸ tx.cutF_ne 45 x)
        clear e45 hcx
        have Hch := Lib.hid hch
        have HO := Lib.hid hbo
        have Hacc := Lib.hid hacc
        have Hval := Lib.hid hval
        obtain ⟨a0, cp0, rfl, hl0, hc0⟩ := rdS_owns hown (by omega)
        -- BEGIN printed
        rcases k with _ | m
        · have Hlast := Lib.hid (show acc.getLast? = none by rw [List.length_eq_zero_iff.1 hacc]; rfl)
          rw [hacc] at hown hl0 ⊢
          have Hown := Lib.hid hown
          clear hacc hval hch hbo hown hc0
          match P, HP with
          | [], HP => exact absurd rfl HP.out
          | [p], _ =>
            have hp := hP1 rfl
            have hw0 := fun w => whole_any p 5 (by decide) w (hmx p (by simp))
            generalize wholeI p 5 = a at *
            clear hP1 hP2 hP3 hmx
            by_cases hc5 : a < 0
            · have Hfin := Lib.hid (show sp.readSpans l = none by rw [Hr.out, ← Hch.out]; exact chain_none (.inr (by rw [hp, if_neg (by omega)])))
              clear hp
              go_wp2_with fail
              refine (hcu _).mono ?_
              rintro e w2 ⟨v2, rfl, hrow2, hb2⟩
              obtain ⟨g2, cap2, rfl, hB2, hg2, hn2, hc2, hcell2⟩ := hrow2
              have d0 : w2.cell? ⟨g2, 0, none⟩ = some (strV p) := hcell2 0 p rfl
              have hB := HO.out.trans (hb2.mono HO.out.size)
              have HB2 := Lib.hid (HB1.out.trans (hB.mono HB1.out.size))
              have hown2 := ownsRow_below Hown.out hb2
              clear hcell2 hb2
              have el : ([p] : List (List UInt8)).length = 1 := rfl
              rw [el] at hn2 ⊢
              clear el
              go_wp2_with fail
              refine (hw0 _).mono ?_
              rintro e w' ⟨rfl, rfl⟩
              go_wp2
              go_ret2
              exact ⟨by rw [Hfin.out]; rfl, HB2.out⟩
            · skip
              by_cases hc11 : 65535 < a
              · have Hfin := Lib.hid (show sp.readSpans l = none by rw [Hr.out, ← Hch.out]; exact chain_none (.inr (by rw [hp, if_neg (by omega)])))
                clear hp
                go_wp2_with fail
                refine (hcu _).mono ?_
                rintro e w2 ⟨v2, rfl, hrow2, hb2⟩
                obtain ⟨g2, cap2, rfl, hB2, hg2, hn2, hc2, hcell2⟩ := hrow2
                have d0 : w2.cell? ⟨g2, 0, none⟩ = some (strV p) := hcell2 0 p rfl
                have hB := HO.out.trans (hb2.mono HO.out.size)
                have HB2 := Lib.hid (HB1.out.trans (hB.mono HB1.out.size))
                have hown2 := ownsRow_below Hown.out hb2
                clear hcell2 hb2
                have el : ([p] : List (List UInt8)).length = 1 := rfl
                rw [el] at hn2 ⊢
                clear el
                go_wp2_with fail
                refine (hw0 _).mono ?_
                rintro e w' ⟨rfl, rfl⟩
                go_wp2
                go_ret2
                exact ⟨by rw [Hfin.out]; rfl, HB2.out⟩
              · skip
                have hp : sp.pieceR x = some (a, a) := by rw [hp, if_pos (by omega)]
                have Hp := Lib.hid hp
                clear hp
                have Hst := Lib.hid ((chain_on (r := W.drop (0 + 1)) (by rw [Hacc.out]; omega) Hp.out (fun t ht => by rw [Hlast.out] at ht; cases ht)).symm.trans Hch.out)
                have Hvn := Lib.hid (show ∀ t ∈ acc ++ [((a, a) : sp.Span)], 0 ≤ t.2 ∧ t.2 ≤ 65535 from fun t ht => by rcases List.mem_append.1 ht with h | h; exact Hval.out t h; rw [List.mem_singleton.1 h]; constructor <;> (show _ ≤ _; omega))
                go_wp2_with fail
                refine (hcu _).mono ?_
                rintro e w2 ⟨v2, rfl, hrow2, hb2⟩
                obtain ⟨g2, cap2, rfl, hB2, hg2, hn2, hc2, hcell2⟩ := hrow2
                have d0 : w2.cell? ⟨g2, 0, none⟩ = some (strV p) := hcell2 0 p rfl
                have hB := HO.out.trans (hb2.mono HO.out.size)
                have HB2 := Lib.hid (HB1.out.trans (hB.mono HB1.out.size))
                have hown2 := ownsRow_below Hown.out hb2
                clear hcell2 hb2
                have el : ([p] : List (List UInt8)).length = 1 := rfl
                rw [el] at hn2 ⊢
                clear el
                go_wp2_with fail
                refine (hw0 _).mono ?_
                rintro e w' ⟨rfl, rfl⟩
                go_wp2_with (at_builtin; refine wpList_append_own _ rfl (.tmp 76) (.tmp 80) 22 rfl w1.heap.size 27 i0 (.agg #[.int .i64 0, .int .i64 0]) 2 16 Tryz.underlying22 hi hz0 hz1 hz2 rfl (by decide) _ _ _ rfl (hown2.alloc _) ⟨_, 0, none⟩ 1 1 [.int .i64 a, .int .i64 a] rfl rfl ?c1 ?c2 ?c3 ?c4 ?c5 ?_)
                case c1 => intro j u hj; match j, hj with | 0, hj => (simp at hj; subst hj; simp [Addr.add]) | 1, hj => (simp at hj; subst hj; simp [Addr.add])
                case c2 => intro u hu; simp at hu; rcases hu with rfl | rfl <;> rfl
                case c3 => unfold maxLen; omega
                case c4 => omega
                case c5 => have := hB.size; simp; omega
                intro v' w3 hown' hgrow _
                have hb' : Below w1.heap.size w1 w3 := (hB.alloc hB.size _).grown hgrow (by have := hB.size; simp; omega) (fun j hj => (hown2.lt j hj).1)
                have HB3 := Lib.hid hb'
                have Hown3 := Lib.hid hown'
                clear hgrow hown' hb' hown2 hB
                go_wp2
                go_roundw
                case rel => exact ⟨0 + 1, acc ++ [(a, a)], by omega, by go_num, by rw [List.length_append, Hacc.out]; rfl, by rw [flatS_snoc, List.length_append, Hacc.out]; exact Hown3.out, HB3.out, Hst.out, by rw [List.length_append, Hacc.out]; show 0 + 1 ≤ 200; omega, Hvn.out⟩
                case measure => simp [intOf]; omega
          | [p, q], _ =>
            have hp := hP2 rfl
            have hw0 := fun w => whole_any p 5 (by decide) w (hmx p (by simp))
            have hw1 := fun w => whole_any q 5 (by decide) w (hmx q (by simp))
            generalize wholeI p 5 = a at *
            generalize wholeI q 5 = b at *
            clear hP1 hP2 hP3 hmx
            by_cases hc5 : a < 0
            · have Hfin := Lib.hid (show sp.readSpans l = none by rw [Hr.out, ← Hch.out]; exact chain_none (.inr (by rw [hp, if_neg (by omega)])))
              clear hp
              go_wp2_with fail
              refine (hcu _).mono ?_
              rintro e w2 ⟨v2, rfl, hrow2, hb2⟩
              obtain ⟨g2, cap2, rfl, hB2, hg2, hn2, hc2, hcell2⟩ := hrow2
              have d0 : w2.cell? ⟨g2, 0, none⟩ = some (strV p) := hcell2 0 p rfl
              have d1 : w2.cell? ⟨g2, 1, none⟩ = some (strV q) := hcell2 1 q rfl
              have hB := HO.out.trans (hb2.mono HO.out.size)
              have HB2 := Lib.hid (HB1.out.trans (hB.mono HB1.out.size))
              have hown2 := ownsRow_below Hown.out hb2
              clear hcell2 hb2
              have el : ([p, q] : List (List UInt8)).length = 2 := rfl
              rw [el] at hn2 ⊢
              clear el
              go_wp2_with fail
              refine (hw0 _).mono ?_
              rintro e w' ⟨rfl, rfl⟩
              go_wp2_with fail
              refine (hw1 _).mono ?_
              rintro e w' ⟨rfl, rfl⟩
              go_wp2
              go_ret2
              exact ⟨by rw [Hfin.out]; rfl, HB2.out⟩
            · skip
              by_cases hc11 : 65535 < b
              · have Hfin := Lib.hid (show sp.readSpans l = none by rw [Hr.out, ← Hch.out]; exact chain_none (.inr (by rw [hp, if_neg (by omega)])))
                clear hp
                go_wp2_with fail
                refine (hcu _).mono ?_
                rintro e w2 ⟨v2, rfl, hrow2, hb2⟩
                obtain ⟨g2, cap2, rfl, hB2, hg2, hn2, hc2, hcell2⟩ := hrow2
                have d0 : w2.cell? ⟨g2, 0, none⟩ = some (strV p) := hcell2 0 p rfl
                have d1 : w2.cell? ⟨g2, 1, none⟩ = some (strV q) := hcell2 1 q rfl
                have hB := HO.out.trans (hb2.mono HO.out.size)
                have HB2 := Lib.hid (HB1.out.trans (hB.mono HB1.out.size))
                have hown2 := ownsRow_below Hown.out hb2
                clear hcell2 hb2
                have el : ([p, q] : List (List UInt8)).length = 2 := rfl
                rw [el] at hn2 ⊢
                clear el
                go_wp2_with fail
                refine (hw0 _).mono ?_
                rintro e w' ⟨rfl, rfl⟩
                go_wp2_with fail
                refine (hw1 _).mono ?_
                rintro e w' ⟨rfl, rfl⟩
                go_wp2
                go_ret2
                exact ⟨by rw [Hfin.out]; rfl, HB2.out⟩
              · skip
                by_cases hc9 : b ≤ a
                · have Hfin := Lib.hid (show sp.readSpans l = none by rw [Hr.out, ← Hch.out]; exact chain_none (.inr (by rw [hp, if_neg (by omega)])))
                  clear hp
                  go_wp2_with fail
                  refine (hcu _).mono ?_
                  rintro e w2 ⟨v2, rfl, hrow2, hb2⟩
                  obtain ⟨g2, cap2, rfl, hB2, hg2, hn2, hc2, hcell2⟩ := hrow2
                  have d0 : w2.cell? ⟨g2, 0, none⟩ = some (strV p) := hcell2 0 p rfl
                  have d1 : w2.cell? ⟨g2, 1, none⟩ = some (strV q) := hcell2 1 q rfl
                  have hB := HO.out.trans (hb2.mono HO.out.size)
                  have HB2 := Lib.hid (HB1.out.trans (hB.mono HB1.out.size))
                  have hown2 := ownsRow_below Hown.out hb2
                  clear hcell2 hb2
                  have el : ([p, q] : List (List UInt8)).length = 2 := rfl
                  rw [el] at hn2 ⊢
                  clear el
                  go_wp2_with fail
                  refine (hw0 _).mono ?_
                  rintro e w' ⟨rfl, rfl⟩
                  go_wp2_with fail
                  refine (hw1 _).mono ?_
                  rintro e w' ⟨rfl, rfl⟩
                  go_wp2
                  go_ret2
                  exact ⟨by rw [Hfin.out]; rfl, HB2.out⟩
                · skip
                  have hp : sp.pieceR x = some (a, b) := by rw [hp, if_pos (by omega)]
                  have Hp := Lib.hid hp
                  clear hp
                  have Hst := Lib.hid ((chain_on (r := W.drop (0 + 1)) (by rw [Hacc.out]; omega) Hp.out (fun t ht => by rw [Hlast.out] at ht; cases ht)).symm.trans Hch.out)
                  have Hvn := Lib.hid (show ∀ t ∈ acc ++ [((a, b) : sp.Span)], 0 ≤ t.2 ∧ t.2 ≤ 65535 from fun t ht => by rcases List.mem_append.1 ht with h | h; exact Hval.out t h; rw [List.mem_singleton.1 h]; constructor <;> (show _ ≤ _; omega))
                  go_wp2_with fail
                  refine (hcu _).mono ?_
                  rintro e w2 ⟨v2, rfl, hrow2, hb2⟩
                  obtain ⟨g2, cap2, rfl, hB2, hg2, hn2, hc2, hcell2⟩ := hrow2
                  have d0 : w2.cell? ⟨g2, 0, none⟩ = some (strV p) := hcell2 0 p rfl
                  have d1 : w2.cell? ⟨g2, 1, none⟩ = some (strV q) := hcell2 1 q rfl
                  have hB := HO.out.trans (hb2.mono HO.out.size)
                  have HB2 := Lib.hid (HB1.out.trans (hB.mono HB1.out.size))
                  have hown2 := ownsRow_below Hown.out hb2
                  clear hcell2 hb2
                  have el : ([p, q] : List (List UInt8)).length = 2 := rfl
                  rw [el] at hn2 ⊢
                  clear el
                  go_wp2_with fail
                  refine (hw0 _).mono ?_
                  rintro e w' ⟨rfl, rfl⟩
                  go_wp2_with fail
                  refine (hw1 _).mono ?_
                  rintro e w' ⟨rfl, rfl⟩
                  go_wp2_with (at_builtin; refine wpList_append_own _ rfl (.tmp 76) (.tmp 80) 22 rfl w1.heap.size 27 i0 (.agg #[.int .i64 0, .int .i64 0]) 2 16 Tryz.underlying22 hi hz0 hz1 hz2 rfl (by decide) _ _ _ rfl (hown2.alloc _) ⟨_, 0, none⟩ 1 1 [.int .i64 a, .int .i64 b] rfl rfl ?c1 ?c2 ?c3 ?c4 ?c5 ?_)
                  case c1 => intro j u hj; match j, hj with | 0, hj => (simp at hj; subst hj; simp [Addr.add]) | 1, hj => (simp at hj; subst hj; simp [Addr.add])
                  case c2 => intro u hu; simp at hu; rcases hu with rfl | rfl <;> rfl
                  case c3 => unfold maxLen; omega
                  case c4 => omega
                  case c5 => have := hB.size; simp; omega
                  intro v' w3 hown' hgrow _
                  have hb' : Below w1.heap.size w1 w3 := (hB.alloc hB.size _).grown hgrow (by have := hB.size; simp; omega) (fun j hj => (hown2.lt j hj).1)
                  have HB3 := Lib.hid hb'
                  have Hown3 := Lib.hid hown'
                  clear hgrow hown' hb' hown2 hB
                  go_wp2
                  go_roundw
                  case rel => exact ⟨0 + 1, acc ++ [(a, b)], by omega, by go_num, by rw [List.length_append, Hacc.out]; rfl, by rw [flatS_snoc, List.length_append, Hacc.out]; exact Hown3.out, HB3.out, Hst.out, by rw [List.length_append, Hacc.out]; show 0 + 1 ≤ 200; omega, Hvn.out⟩
                  case measure => simp [intOf]; omega
          | p :: q :: r :: t, _ =>
            have hp := hP3 rfl
            have hw0 := fun w => whole_any p 5 (by decide) w (hmx p (by simp))
            generalize wholeI p 5 = a at *
            have hlong : 2 < (p :: q :: r :: t).length := by simp
            clear hP1 hP2 hP3 hmx
            have Hfin := Lib.hid (show sp.readSpans l = none by rw [Hr.out, ← Hch.out]; exact chain_none (.inr hp))
            clear hp
            go_wp2_with fail
            refine (hcu _).mono ?_
            rintro e w2 ⟨v2, rfl, hrow2, hb2⟩
            obtain ⟨g2, cap2, rfl, hB2, hg2, hn2, hc2, hcell2⟩ := hrow2
            have d0 : w2.cell? ⟨g2, 0, none⟩ = some (strV p) := hcell2 0 p rfl
            have d1 : w2.cell? ⟨g2, 1, none⟩ = some (strV q) := hcell2 1 q rfl
            have hB := HO.out.trans (hb2.mono HO.out.size)
            have HB2 := Lib.hid (HB1.out.trans (hB.mono HB1.out.size))
            have hown2 := ownsRow_below Hown.out hb2
            clear hcell2 hb2
            go_wp2_with fail
            refine (hw0 _).mono ?_
            rintro e w' ⟨rfl, rfl⟩
            go_wp2
            go_ret2
            exact ⟨by rw [Hfin.out]; rfl, HB2.out⟩
        · obtain ⟨g0, off0, rfl, hcc⟩ := hc0 (fun e => by rw [e] at hacc; cases hacc)
          obtain ⟨c0, c1⟩ := hcc m (by omega)
          have hm : m < acc.length := by omega
          have Hlast : RowKit.Hid (acc.getLast? = some acc[m]) := Lib.hid (last_at hacc (by omega))
          have Hty0 := Lib.hid (Hval.out acc[m] (List.getElem_mem hm))
          generalize hty : acc[m].2 = ty at *
          generalize acc[m].1 = tx0 at *
          have Hty := Lib.hid hty
          have hty0 : 0 ≤ ty ∧ ty ≤ 65535 := Hty0.out
          clear hty hcc Hty0
          rw [hacc] at hown hl0 ⊢
          have Hown := Lib.hid hown
          clear hacc hval hch hbo hown hc0
          match P, HP with
          | [], HP => exact absurd rfl HP.out
          | [p], _ =>
            have hp := hP1 rfl
            have hw0 := fun w => whole_any p 5 (by decide) w (hmx p (by simp))
            generalize wholeI p 5 = a at *
            clear hP1 hP2 hP3 hmx
            by_cases hc5 : a < 0
            · have Hfin := Lib.hid (show sp.readSpans l = none by rw [Hr.out, ← Hch.out]; exact chain_none (.inr (by rw [hp, if_neg (by omega)])))
              clear hp
              go_wp2_with fail
              refine (hcu _).mono ?_
              rintro e w2 ⟨v2, rfl, hrow2, hb2⟩
              obtain ⟨g2, cap2, rfl, hB2, hg2, hn2, hc2, hcell2⟩ := hrow2
              have d0 : w2.cell? ⟨g2, 0, none⟩ = some (strV p) := hcell2 0 p rfl
              have hB := HO.out.trans (hb2.mono HO.out.size)
              have HB2 := Lib.hid (HB1.out.trans (hB.mono HB1.out.size))
              have hown2 := ownsRow_below Hown.out hb2
              have c0 := kept hb2 c0
              have c1 := kept hb2 c1
              clear hcell2 hb2
              have el : ([p] : List (List UInt8)).length = 1 := rfl
              rw [el] at hn2 ⊢
              clear el
              go_wp2_with fail
              refine (hw0 _).mono ?_
              rintro e w' ⟨rfl, rfl⟩
              go_wp2
              go_ret2
              exact ⟨by rw [Hfin.out]; rfl, HB2.out⟩
            · skip
              by_cases hc11 : 65535 < a
              · have Hfin := Lib.hid (show sp.readSpans l = none by rw [Hr.out, ← Hch.out]; exact chain_none (.inr (by rw [hp, if_neg (by omega)])))
                clear hp
                go_wp2_with fail
                refine (hcu _).mono ?_
                rintro e w2 ⟨v2, rfl, hrow2, hb2⟩
                obtain ⟨g2, cap2, rfl, hB2, hg2, hn2, hc2, hcell2⟩ := hrow2
                have d0 : w2.cell? ⟨g2, 0, none⟩ = some (strV p) := hcell2 0 p rfl
                have hB := HO.out.trans (hb2.mono HO.out.size)
                have HB2 := Lib.hid (HB1.out.trans (hB.mono HB1.out.size))
                have hown2 := ownsRow_below Hown.out hb2
                have c0 := kept hb2 c0
                have c1 := kept hb2 c1
                clear hcell2 hb2
                have el : ([p] : List (List UInt8)).length = 1 := rfl
                rw [el] at hn2 ⊢
                clear el
                go_wp2_with fail
                refine (hw0 _).mono ?_
                rintro e w' ⟨rfl, rfl⟩
                go_wp2
                go_ret2
                exact ⟨by rw [Hfin.out]; rfl, HB2.out⟩
              · skip
                have hp : sp.pieceR x = some (a, a) := by rw [hp, if_pos (by omega)]
                have Hp := Lib.hid hp
                clear hp
                by_cases h2 : 200 ≤ (m + 1)
                · have Hfin := Lib.hid (show sp.readSpans l = none by rw [Hr.out, ← Hch.out]; exact chain_none (.inl (by rw [Hacc.out]; exact h2)))
                  go_wp2_with fail
                  refine (hcu _).mono ?_
                  rintro e w2 ⟨v2, rfl, hrow2, hb2⟩
                  obtain ⟨g2, cap2, rfl, hB2, hg2, hn2, hc2, hcell2⟩ := hrow2
                  have d0 : w2.cell? ⟨g2, 0, none⟩ = some (strV p) := hcell2 0 p rfl
                  have hB := HO.out.trans (hb2.mono HO.out.size)
                  have HB2 := Lib.hid (HB1.out.trans (hB.mono HB1.out.size))
                  have hown2 := ownsRow_below Hown.out hb2
                  have c0 := kept hb2 c0
                  have c1 := kept hb2 c1
                  clear hcell2 hb2
                  have el : ([p] : List (List UInt8)).length = 1 := rfl
                  rw [el] at hn2 ⊢
                  clear el
                  go_wp2_with fail
                  refine (hw0 _).mono ?_
                  rintro e w' ⟨rfl, rfl⟩
                  go_wp2
                  go_ret2
                  exact ⟨by rw [Hfin.out]; rfl, HB2.out⟩
                · skip
                  by_cases h3 : a ≤ ty + 1
                  · have Hfin := Lib.hid (show sp.readSpans l = none by rw [Hr.out, ← Hch.out]; exact chain_close Hp.out Hlast.out (by rw [Hty.out]; exact h3))
                    go_wp2_with fail
                    refine (hcu _).mono ?_
                    rintro e w2 ⟨v2, rfl, hrow2, hb2⟩
                    obtain ⟨g2, cap2, rfl, hB2, hg2, hn2, hc2, hcell2⟩ := hrow2
                    have d0 : w2.cell? ⟨g2, 0, none⟩ = some (strV p) := hcell2 0 p rfl
                    have hB := HO.out.trans (hb2.mono HO.out.size)
                    have HB2 := Lib.hid (HB1.out.trans (hB.mono HB1.out.size))
                    have hown2 := ownsRow_below Hown.out hb2
                    have c0 := kept hb2 c0
                    have c1 := kept hb2 c1
                    clear hcell2 hb2
                    have el : ([p] : List (List UInt8)).length = 1 := rfl
                    rw [el] at hn2 ⊢
                    clear el
                    go_wp2_with fail
                    refine (hw0 _).mono ?_
                    rintro e w' ⟨rfl, rfl⟩
                    go_wp2
                    go_ret2
                    exact ⟨by rw [Hfin.out]; rfl, HB2.out⟩
                  · skip
                    have Hst := Lib.hid ((chain_on (r := W.drop ((m + 1) + 1)) (by rw [Hacc.out]; omega) Hp.out (fun t ht => by rw [Hlast.out] at ht; injection ht with ht; subst ht; rw [Hty.out]; show ty + 1 < a; omega)).symm.trans Hch.out)
                    have Hvn := Lib.hid (show ∀ t ∈ acc ++ [((a, a) : sp.Span)], 0 ≤ t.2 ∧ t.2 ≤ 65535 from fun t ht => by rcases List.mem_append.1 ht with h | h; exact Hval.out t h; rw [List.mem_singleton.1 h]; constructor <;> (show _ ≤ _; omega))
                    go_wp2_with fail
                    refine (hcu _).mono ?_
                    rintro e w2 ⟨v2, rfl, hrow2, hb2⟩
                    obtain ⟨g2, cap2, rfl, hB2, hg2, hn2, hc2, hcell2⟩ := hrow2
                    have d0 : w2.cell? ⟨g2, 0, none⟩ = some (strV p) := hcell2 0 p rfl
                    have hB := HO.out.trans (hb2.mono HO.out.size)
                    have HB2 := Lib.hid (HB1.out.trans (hB.mono HB1.out.size))
                    have hown2 := ownsRow_below Hown.out hb2
                    have c0 := kept hb2 c0
                    have c1 := kept hb2 c1
                    clear hcell2 hb2
                    have el : ([p] : List (List UInt8)).length = 1 := rfl
                    rw [el] at hn2 ⊢
                    clear el
                    go_wp2_with fail
                    refine (hw0 _).mono ?_
                    rintro e w' ⟨rfl, rfl⟩
                    go_wp2_with (at_builtin; refine wpList_append_own _ rfl (.tmp 76) (.tmp 80) 22 rfl w1.heap.size 27 i0 (.agg #[.int .i64 0, .int .i64 0]) 2 16 Tryz.underlying22 hi hz0 hz1 hz2 rfl (by decide) _ _ _ rfl (hown2.alloc _) ⟨_, 0, none⟩ 1 1 [.int .i64 a, .int .i64 a] rfl rfl ?c1 ?c2 ?c3 ?c4 ?c5 ?_)
                    case c1 => intro j u hj; match j, hj with | 0, hj => (simp at hj; subst hj; simp [Addr.add]) | 1, hj => (simp at hj; subst hj; simp [Addr.add])
                    case c2 => intro u hu; simp at hu; rcases hu with rfl | rfl <;> rfl
                    case c3 => unfold maxLen; omega
                    case c4 => omega
                    case c5 => have := hB.size; simp; omega
                    intro v' w3 hown' hgrow _
                    have hb' : Below w1.heap.size w1 w3 := (hB.alloc hB.size _).grown hgrow (by have := hB.size; simp; omega) (fun j hj => (hown2.lt j hj).1)
                    have HB3 := Lib.hid hb'
                    have Hown3 := Lib.hid hown'
                    clear hgrow hown' hb' hown2 hB
                    go_wp2
                    go_roundw
                    case rel => exact ⟨(m + 1) + 1, acc ++ [(a, a)], by omega, by go_num, by rw [List.length_append, Hacc.out]; rfl, by rw [flatS_snoc, List.length_append, Hacc.out]; exact Hown3.out, HB3.out, Hst.out, by rw [List.length_append, Hacc.out]; show (m + 1) + 1 ≤ 200; omega, Hvn.out⟩
                    case measure => simp [intOf]; omega
          | [p, q], _ =>
            have hp := hP2 rfl
            have hw0 := fun w => whole_any p 5 (by decide) w (hmx p (by simp))
            have hw1 := fun w => whole_any q 5 (by decide) w (hmx q (by simp))
            generalize wholeI p 5 = a at *
            generalize wholeI q 5 = b at *
            clear hP1 hP2 hP3 hmx
            by_cases hc5 : a < 0
            · have Hfin := Lib.hid (show sp.readSpans l = none by rw [Hr.out, ← Hch.out]; exact chain_none (.inr (by rw [hp, if_neg (by omega)])))
              clear hp
              go_wp2_with fail
              refine (hcu _).mono ?_
              rintro e w2 ⟨v2, rfl, hrow2, hb2⟩
              obtain ⟨g2, cap2, rfl, hB2, hg2, hn2, hc2, hcell2⟩ := hrow2
              have d0 : w2.cell? ⟨g2, 0, none⟩ = some (strV p) := hcell2 0 p rfl
              have d1 : w2.cell? ⟨g2, 1, none⟩ = some (strV q) := hcell2 1 q rfl
              have hB := HO.out.trans (hb2.mono HO.out.size)
              have HB2 := Lib.hid (HB1.out.trans (hB.mono HB1.out.size))
              have hown2 := ownsRow_below Hown.out hb2
              have c0 := kept hb2 c0
              have c1 := kept hb2 c1
              clear hcell2 hb2
              have el : ([p, q] : List (List UInt8)).length = 2 := rfl
              rw [el] at hn2 ⊢
              clear el
              go_wp2_with fail
              refine (hw0 _).mono ?_
              rintro e w' ⟨rfl, rfl⟩
              go_wp2_with fail
              refine (hw1 _).mono ?_
              rintro e w' ⟨rfl, rfl⟩
              go_wp2
              go_ret2
              exact ⟨by rw [Hfin.out]; rfl, HB2.out⟩
            · skip
              by_cases hc11 : 65535 < b
              · have Hfin := Lib.hid (show sp.readSpans l = none by rw [Hr.out, ← Hch.out]; exact chain_none (.inr (by rw [hp, if_neg (by omega)])))
                clear hp
                go_wp2_with fail
                refine (hcu _).mono ?_
                rintro e w2 ⟨v2, rfl, hrow2, hb2⟩
                obtain ⟨g2, cap2, rfl, hB2, hg2, hn2, hc2, hcell2⟩ := hrow2
                have d0 : w2.cell? ⟨g2, 0, none⟩ = some (strV p) := hcell2 0 p rfl
                have d1 : w2.cell? ⟨g2, 1, none⟩ = some (strV q) := hcell2 1 q rfl
                have hB := HO.out.trans (hb2.mono HO.out.size)
                have HB2 := Lib.hid (HB1.out.trans (hB.mono HB1.out.size))
                have hown2 := ownsRow_below Hown.out hb2
                have c0 := kept hb2 c0
                have c1 := kept hb2 c1
                clear hcell2 hb2
                have el : ([p, q] : List (List UInt8)).length = 2 := rfl
                rw [el] at hn2 ⊢
                clear el
                go_wp2_with fail
                refine (hw0 _).mono ?_
                rintro e w' ⟨rfl, rfl⟩
                go_wp2_with fail
                refine (hw1 _).mono ?_
                rintro e w' ⟨rfl, rfl⟩
                go_wp2
                go_ret2
                exact ⟨by rw [Hfin.out]; rfl, HB2.out⟩
              · skip
                by_cases hc9 : b ≤ a
                · have Hfin := Lib.hid (show sp.readSpans l = none by rw [Hr.out, ← Hch.out]; exact chain_none (.inr (by rw [hp, if_neg (by omega)])))
                  clear hp
                  go_wp2_with fail
                  refine (hcu _).mono ?_
                  rintro e w2 ⟨v2, rfl, hrow2, hb2⟩
                  obtain ⟨g2, cap2, rfl, hB2, hg2, hn2, hc2, hcell2⟩ := hrow2
                  have d0 : w2.cell? ⟨g2, 0, none⟩ = some (strV p) := hcell2 0 p rfl
                  have d1 : w2.cell? ⟨g2, 1, none⟩ = some (strV q) := hcell2 1 q rfl
                  have hB := HO.out.trans (hb2.mono HO.out.size)
                  have HB2 := Lib.hid (HB1.out.trans (hB.mono HB1.out.size))
                  have hown2 := ownsRow_below Hown.out hb2
                  have c0 := kept hb2 c0
                  have c1 := kept hb2 c1
                  clear hcell2 hb2
                  have el : ([p, q] : List (List UInt8)).length = 2 := rfl
                  rw [el] at hn2 ⊢
                  clear el
                  go_wp2_with fail
                  refine (hw0 _).mono ?_
                  rintro e w' ⟨rfl, rfl⟩
                  go_wp2_with fail
                  refine (hw1 _).mono ?_
                  rintro e w' ⟨rfl, rfl⟩
                  go_wp2
                  go_ret2
                  exact ⟨by rw [Hfin.out]; rfl, HB2.out⟩
                · skip
                  have hp : sp.pieceR x = some (a, b) := by rw [hp, if_pos (by omega)]
                  have Hp := Lib.hid hp
                  clear hp
                  by_cases h2 : 200 ≤ (m + 1)
                  · have Hfin := Lib.hid (show sp.readSpans l = none by rw [Hr.out, ← Hch.out]; exact chain_none (.inl (by rw [Hacc.out]; exact h2)))
                    go_wp2_with fail
                    refine (hcu _).mono ?_
                    rintro e w2 ⟨v2, rfl, hrow2, hb2⟩
                    obtain ⟨g2, cap2, rfl, hB2, hg2, hn2, hc2, hcell2⟩ := hrow2
                    have d0 : w2.cell? ⟨g2, 0, none⟩ = some (strV p) := hcell2 0 p rfl
                    have d1 : w2.cell? ⟨g2, 1, none⟩ = some (strV q) := hcell2 1 q rfl
                    have hB := HO.out.trans (hb2.mono HO.out.size)
                    have HB2 := Lib.hid (HB1.out.trans (hB.mono HB1.out.size))
                    have hown2 := ownsRow_below Hown.out hb2
                    have c0 := kept hb2 c0
                    have c1 := kept hb2 c1
                    clear hcell2 hb2
                    have el : ([p, q] : List (List UInt8)).length = 2 := rfl
                    rw [el] at hn2 ⊢
                    clear el
                    go_wp2_with fail
                    refine (hw0 _).mono ?_
                    rintro e w' ⟨rfl, rfl⟩
                    go_wp2_with fail
                    refine (hw1 _).mono ?_
                    rintro e w' ⟨rfl, rfl⟩
                    go_wp2
                    go_ret2
                    exact ⟨by rw [Hfin.out]; rfl, HB2.out⟩
                  · skip
                    by_cases h3 : a ≤ ty + 1
                    · have Hfin := Lib.hid (show sp.readSpans l = none by rw [Hr.out, ← Hch.out]; exact chain_close Hp.out Hlast.out (by rw [Hty.out]; exact h3))
                      go_wp2_with fail
                      refine (hcu _).mono ?_
                      rintro e w2 ⟨v2, rfl, hrow2, hb2⟩
                      obtain ⟨g2, cap2, rfl, hB2, hg2, hn2, hc2, hcell2⟩ := hrow2
                      have d0 : w2.cell? ⟨g2, 0, none⟩ = some (strV p) := hcell2 0 p rfl
                      have d1 : w2.cell? ⟨g2, 1, none⟩ = some (strV q) := hcell2 1 q rfl
                      have hB := HO.out.trans (hb2.mono HO.out.size)
                      have HB2 := Lib.hid (HB1.out.trans (hB.mono HB1.out.size))
                      have hown2 := ownsRow_below Hown.out hb2
                      have c0 := kept hb2 c0
                      have c1 := kept hb2 c1
                      clear hcell2 hb2
                      have el : ([p, q] : List (List UInt8)).length = 2 := rfl
                      rw [el] at hn2 ⊢
                      clear el
                      go_wp2_with fail
                      refine (hw0 _).mono ?_
                      rintro e w' ⟨rfl, rfl⟩
                      go_wp2_with fail
                      refine (hw1 _).mono ?_
                      rintro e w' ⟨rfl, rfl⟩
                      go_wp2
                      go_ret2
                      exact ⟨by rw [Hfin.out]; rfl, HB2.out⟩
                    · skip
                      have Hst := Lib.hid ((chain_on (r := W.drop ((m + 1) + 1)) (by rw [Hacc.out]; omega) Hp.out (fun t ht => by rw [Hlast.out] at ht; injection ht with ht; subst ht; rw [Hty.out]; show ty + 1 < a; omega)).symm.trans Hch.out)
                      have Hvn := Lib.hid (show ∀ t ∈ acc ++ [((a, b) : sp.Span)], 0 ≤ t.2 ∧ t.2 ≤ 65535 from fun t ht => by rcases List.mem_append.1 ht with h | h; exact Hval.out t h; rw [List.mem_singleton.1 h]; constructor <;> (show _ ≤ _; omega))
                      go_wp2_with fail
                      refine (hcu _).mono ?_
                      rintro e w2 ⟨v2, rfl, hrow2, hb2⟩
                      obtain ⟨g2, cap2, rfl, hB2, hg2, hn2, hc2, hcell2⟩ := hrow2
                      have d0 : w2.cell? ⟨g2, 0, none⟩ = some (strV p) := hcell2 0 p rfl
                      have d1 : w2.cell? ⟨g2, 1, none⟩ = some (strV q) := hcell2 1 q rfl
                      have hB := HO.out.trans (hb2.mono HO.out.size)
                      have HB2 := Lib.hid (HB1.out.trans (hB.mono HB1.out.size))
                      have hown2 := ownsRow_below Hown.out hb2
                      have c0 := kept hb2 c0
                      have c1 := kept hb2 c1
                      clear hcell2 hb2
                      have el : ([p, q] : List (List UInt8)).length = 2 := rfl
                      rw [el] at hn2 ⊢
                      clear el
                      go_wp2_with fail
                      refine (hw0 _).mono ?_
                      rintro e w' ⟨rfl, rfl⟩
                      go_wp2_with fail
                      refine (hw1 _).mono ?_
                      rintro e w' ⟨rfl, rfl⟩
                      go_wp2_with (at_builtin; refine wpList_append_own _ rfl (.tmp 76) (.tmp 80) 22 rfl w1.heap.size 27 i0 (.agg #[.int .i64 0, .int .i64 0]) 2 16 Tryz.underlying22 hi hz0 hz1 hz2 rfl (by decide) _ _ _ rfl (hown2.alloc _) ⟨_, 0, none⟩ 1 1 [.int .i64 a, .int .i64 b] rfl rfl ?c1 ?c2 ?c3 ?c4 ?c5 ?_)
                      case c1 => intro j u hj; match j, hj with | 0, hj => (simp at hj; subst hj; simp [Addr.add]) | 1, hj => (simp at hj; subst hj; simp [Addr.add])
                      case c2 => intro u hu; simp at hu; rcases hu with rfl | rfl <;> rfl
                      case c3 => unfold maxLen; omega
                      case c4 => omega
                      case c5 => have := hB.size; simp; omega
                      intro v' w3 hown' hgrow _
                      have hb' : Below w1.heap.size w1 w3 := (hB.alloc hB.size _).grown hgrow (by have := hB.size; simp; omega) (fun j hj => (hown2.lt j hj).1)
                      have HB3 := Lib.hid hb'
                      have Hown3 := Lib.hid hown'
                      clear hgrow hown' hb' hown2 hB
                      go_wp2
                      go_roundw
                      case rel => exact ⟨(m + 1) + 1, acc ++ [(a, b)], by omega, by go_num, by rw [List.length_append, Hacc.out]; rfl, by rw [flatS_snoc, List.length_append, Hacc.out]; exact Hown3.out, HB3.out, Hst.out, by rw [List.length_append, Hacc.out]; show (m + 1) + 1 ≤ 200; omega, Hvn.out⟩
                      case measure => simp [intOf]; omega
          | p :: q :: r :: t, _ =>
            have hp := hP3 rfl
            have hw0 := fun w => whole_any p 5 (by decide) w (hmx p (by simp))
            generalize wholeI p 5 = a at *
            have hlong : 2 < (p :: q :: r :: t).length := by simp
            clear hP1 hP2 hP3 hmx
            have Hfin := Lib.hid (show sp.readSpans l = none by rw [Hr.out, ← Hch.out]; exact chain_none (.inr hp))
            clear hp
            go_wp2_with fail
            refine (hcu _).mono ?_
            rintro e w2 ⟨v2, rfl, hrow2, hb2⟩
            obtain ⟨g2, cap2, rfl, hB2, hg2, hn2, hc2, hcell2⟩ := hrow2
            have d0 : w2.cell? ⟨g2, 0, none⟩ = some (strV p) := hcell2 0 p rfl
            have d1 : w2.cell? ⟨g2, 1, none⟩ = some (strV q) := hcell2 1 q rfl
            have hB := HO.out.trans (hb2.mono HO.out.size)
            have HB2 := Lib.hid (HB1.out.trans (hB.mono HB1.out.size))
            have hown2 := ownsRow_below Hown.out hb2
            have c0 := kept hb2 c0
            have c1 := kept hb2 c1
            clear hcell2 hb2
            go_wp2_with fail
            refine (hw0 _).mono ?_
            rintro e w' ⟨rfl, rfl⟩
            go_wp2
            go_ret2
            exact ⟨by rw [Hfin.out]; rfl, HB2.out⟩
        -- END printed
      · obtain rfl : k = W.length := by omega
        rw [List.drop_length] at hch
        have Hfin := Lib.hid (show sp.readSpans l = some acc by rw [Hr.out, ← hch]; rfl)
        have HRd := Lib.hid (rdS_owns hown (by omega))
        have HW := Lib.hid (HB1.out.trans (hbo.mono HB1.out.size))
        clear hch hbo hown hval
        go_wp2
        go_ret2
        exact ⟨by rw [Hfin.out]; exact ⟨_, rfl, HRd.out⟩, HW.out⟩

end Go.Proofs.YtdjpkkppcdmdnaaGreatDoor
