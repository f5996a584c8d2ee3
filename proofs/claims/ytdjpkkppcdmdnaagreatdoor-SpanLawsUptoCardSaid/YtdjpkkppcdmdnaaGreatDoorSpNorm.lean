/- portref1.Norm: the fewest spans of some. -/
import Derived.Test.YtdjpkkppcdmdnaaGreatDoorSpRead
namespace Go.Proofs.YtdjpkkppcdmdnaaGreatDoor
open Go.RowKit

theorem gapped_drop : ∀ (k : Nat) (l : List sp.Span), sp.gapped l = true → sp.gapped (l.drop k) = true
  | 0, l, h => h
  | _ + 1, [], _ => rfl
  | k + 1, s :: l, h => by
    show sp.gapped (l.drop k) = true
    exact gapped_drop k l (sp.gapped_cons.1 h).2
theorem rises_drop {l : List sp.Span} (h : sp.rises l) (k : Nat) : sp.rises (l.drop k) := fun s hs => h s (List.mem_of_mem_drop hs)

/-- what holds of the span that is put in, and of the row that is made, while the old row is looked through -/
def NR (out R nx : List sp.Span) (a b : Int) (d : Bool) (k : Nat) : Prop :=
  k ≤ out.length ∧ 0 ≤ a ∧ a ≤ b ∧ b ≤ 65535 ∧ nx.length ≤ k + (if d then 1 else 0) ∧
    (d = false → nx ++ sp.insS a b (out.drop k) = R) ∧ (d = true → nx ++ out.drop k = R ∧ sp.above (b + 1) (out.drop k))
theorem NR.start (out : List sp.Span) (a b : Int) (h0 : 0 ≤ a) (h1 : a ≤ b) (h2 : b ≤ 65535) : NR out (sp.insS a b out) [] a b false 0 :=
  ⟨Nat.zero_le _, h0, h1, h2, by simp, fun _ => rfl, fun h => by cases h⟩
theorem NR.before {out R nx : List sp.Span} {a b : Int} {d : Bool} {k : Nat} (h : NR out R nx a b d k) (hk : k < out.length) (hs : out[k].2 + 1 < a) :
    NR out R (nx ++ [out[k]]) a b d (k + 1) := by
  obtain ⟨_, h0, h1, h2, h3, h4, h5⟩ := h
  refine ⟨hk, h0, h1, h2, by rw [List.length_append, List.length_singleton]; omega, fun hd => ?_, fun hd => ?_⟩
  · have := h4 hd
    rw [List.drop_eq_getElem_cons hk] at this
    unfold sp.insS at this
    rw [if_pos hs] at this
    simpa using this
  · obtain ⟨h6, h7⟩ := h5 hd
    rw [List.drop_eq_getElem_cons hk] at h6 h7
    exact ⟨by simpa using h6, fun t ht => h7 t (List.mem_cons_of_mem _ ht)⟩
theorem NR.put {out R nx : List sp.Span} {a b : Int} {k : Nat} (h : NR out R nx a b false k) (hg : sp.gapped out = true) (hr : sp.rises out) (hk : k < out.length) (hs : ¬ out[k].2 + 1 < a) (hs2 : b + 1 < out[k].1) :
    NR out R (nx ++ [(a, b)] ++ [out[k]]) a b true (k + 1) := by
  obtain ⟨_, h0, h1, h2, h3, h4, h5⟩ := h
  have hgd := gapped_drop k out hg
  have hrd := rises_drop hr k
  refine ⟨hk, h0, h1, h2, by simp only [List.length_append, List.length_singleton, if_true] at h3 ⊢; simp at h3; omega, fun hd => (by cases hd), fun _ => ?_⟩
  have := h4 rfl
  rw [List.drop_eq_getElem_cons hk] at this hgd hrd
  unfold sp.insS at this
  rw [if_neg hs, if_pos hs2] at this
  have ha := sp.gapped_above hgd hrd
  have hx := hr out[k] (List.getElem_mem hk)
  exact ⟨by simpa using this, fun t ht => by have := ha t ht; omega⟩
theorem NR.behind {out R nx : List sp.Span} {a b : Int} {k : Nat} (h : NR out R nx a b true k) (hk : k < out.length) :
    NR out R (nx ++ [out[k]]) a b true (k + 1) := by
  obtain ⟨_, h0, h1, h2, h3, h4, h5⟩ := h
  refine ⟨hk, h0, h1, h2, by rw [List.length_append, List.length_singleton]; omega, fun hd => (by cases hd), fun hd => ?_⟩
  obtain ⟨h6, h7⟩ := h5 hd
  rw [List.drop_eq_getElem_cons hk] at h6 h7
  exact ⟨by simpa using h6, fun t ht => h7 t (List.mem_cons_of_mem _ ht)⟩
theorem NR.wide {out R nx : List sp.Span} {a b : Int} {d : Bool} {k : Nat} (h : NR out R nx a b d k) (hv : sp.valid out = true) (hk : k < out.length) (hs : ¬ out[k].2 + 1 < a) (hs2 : ¬ b + 1 < out[k].1) :
    NR out R nx (min out[k].1 a) (max out[k].2 b) d (k + 1) := by
  obtain ⟨_, h0, h1, h2, h3, h4, h5⟩ := h
  obtain ⟨o0, o1, o2⟩ := sp.okS_iff'.1 (List.all_eq_true.1 hv _ (List.getElem_mem hk))
  refine ⟨hk, by omega, by omega, by omega, by omega, fun hd => ?_, fun hd => ?_⟩
  · have := h4 hd
    rw [List.drop_eq_getElem_cons hk] at this
    unfold sp.insS at this
    rw [if_neg hs, if_neg hs2] at this
    exact this
  · obtain ⟨_, h7⟩ := h5 hd
    rw [List.drop_eq_getElem_cons hk] at h7
    exact absurd (h7 out[k] List.mem_cons_self) hs2
theorem NR.done {out R nx : List sp.Span} {a b : Int} (h : NR out R nx a b true out.length) : nx = R ∧ nx.length ≤ out.length + 1 := by
  obtain ⟨_, h0, h1, h2, h3, h4, h5⟩ := h
  have := (h5 rfl).1
  rw [List.drop_length, List.append_nil] at this
  exact ⟨this, by simpa using h3⟩
theorem NR.last {out R nx : List sp.Span} {a b : Int} (h : NR out R nx a b false out.length) : nx ++ [(a, b)] = R ∧ nx.length ≤ out.length := by
  obtain ⟨_, h0, h1, h2, h3, h4, h5⟩ := h
  have := h4 rfl
  rw [List.drop_length] at this
  exact ⟨this, by simpa using h3⟩
theorem norm_take {l : List sp.Span} {k : Nat} (hk : k < l.length) : sp.norm (l.take (k + 1)) = sp.insS l[k].1 l[k].2 (sp.norm (l.take k)) := by
  unfold sp.norm
  rw [List.take_succ_eq_append_getElem hk, List.foldl_append]; rfl
theorem valid_takeN {l : List sp.Span} (h : sp.valid l = true) (k : Nat) : sp.valid (l.take k) = true := List.all_eq_true.2 fun s hs => List.all_eq_true.1 h s (List.mem_of_mem_take hs)

theorem allocSz (w : World) (o : Obj) : w.heap.size ≤ (w.alloc o).heap.size := (belowA w o).size
theorem newCell (w : World) (c : Array Value) (t : TypeId) (j : Nat) (v : Value) (h : c[j]? = some v) : (w.alloc (.cells c t)).cell? ⟨w.heap.size, j, none⟩ = some v := by
  unfold World.cell?
  simp only [heap_alloc_new, h]
  rfl
theorem newsPair (w : World) (g : Nat) (hg : g = w.heap.size) (A B : Int) : ∀ (j : Nat) u, ([.int .i64 A, .int .i64 B] : List Value)[j]? = some u → (w.alloc (.cells #[.int .i64 A, .int .i64 B] 27)).cell? ((⟨g, 0, none⟩ : Addr).add j) = some u := by
  intro j u hj
  subst hg
  match j, hj with
  | 0, hj => simp at hj; subst hj; exact newCell w _ 27 0 _ rfl
  | 1, hj => simp at hj; subst hj; exact newCell w _ 27 1 _ rfl
theorem onePair (A B : Int) : ∀ u ∈ ([.int .i64 A, .int .i64 B] : List Value), u.oneCell' = true := by
  intro u hu; simp at hu; rcases hu with rfl | rfl <;> rfl

set_option maxHeartbeats 4000000 in
set_option maxRecDepth 1000000 in
theorem normR_any (v : Value) (l : List sp.Span) (w : World) (hr : RdS w v l) (hv : sp.valid l = true) (hn : l.length ≤ 1000) :
    Calls Tryz.prog 17 #[v] w fun e w' => ∃ u, e = .returned u ∧ RdS w' u (sp.norm l) ∧ (sp.norm l).length ≤ l.length ∧ Below w.heap.size w w' := by
  obtain ⟨a, cap, rfl, hl, hc⟩ := hr
  have Hc := Lib.hid hc
  have Hv := Lib.hid hv
  clear hc hv
  obtain ⟨i0, hi, hz0, hz1, hz2⟩ := info_parts infoPair
  go_enter Tryz.func17, Tryz.ntmps17
  go_wp2
  go_loopw [3, 4] (fun o i wr => ∃ k : Nat, k ≤ l.length ∧ i = .int .i64 k ∧ RdS wr o (sp.norm (l.take k)) ∧ (sp.norm (l.take k)).length ≤ k ∧ Below w.heap.size w wr) (fun _ i _ => l.length - (intOf i).toNat)
  case atStart => exact ⟨0, Nat.zero_le _, rfl, ⟨none, 0, rfl, Nat.zero_le _, fun h => absurd rfl h⟩, Nat.le_refl _, Below.refl _ _⟩
  case round =>
    obtain ⟨k, hk, rfl, ho, hol, hb⟩ := hrel
    by_cases hlt : k < l.length
    · obtain ⟨wo, hwo⟩ : ∃ x, x = wr := ⟨wr, rfl⟩
      subst hwo
      obtain ⟨g, off, rfl, hcell⟩ := Hc.out (fun e => by rw [e] at hlt; simp at hlt)
      obtain ⟨c0, c1⟩ := hcell k hlt
      have c0 := kept hb c0
      have c1 := kept hb c1
      have hok : sp.okS l[k] = true := List.all_eq_true.1 Hv.out _ (List.getElem_mem hlt)
      obtain ⟨o0, o1, o2⟩ := sp.okS_iff'.1 hok
      have hnt := norm_take hlt
      have hvo := sp.norm_valid (valid_takeN Hv.out k)
      obtain ⟨hgo, hro, _⟩ := sp.norm_spec (l.take k) (sp.valid_rises (valid_takeN Hv.out k))
      generalize sp.norm (l.take k) = out at *
      generalize hR : sp.norm (l.take (k + 1)) = R at *
      have HR0 := Lib.hid hR
      generalize l[k].1 = x0 at *
      generalize l[k].2 = y0 at *
      have Hst := Lib.hid (hnt ▸ NR.start out x0 y0 o0 o1 o2)
      have Hvo := Lib.hid hvo
      have Hgo := Lib.hid hgo
      have Hro := Lib.hid hro
      have HB := Lib.hid hb
      obtain ⟨oa, ocap, rfl, hol2, hoc⟩ := ho
      have Hoc := Lib.hid hoc
      clear hR hnt hvo hgo hro hb hcell hoc hok o0 o1 o2
      go_wp2
      go_loopw [5, 6, 7, 8, 9] (fun a b u d j wi => ∃ (x y : Int) (nx : List sp.Span) (dn : Bool) (m : Nat), a = .int .i64 x ∧ b = .int .i64 y ∧ d = .bool dn ∧ j = .int .i64 m ∧ wi.ownsRow wo.heap.size 27 2 u nx.length (flatS nx) ∧ Below wo.heap.size wo wi ∧ NR out R nx x y dn m)
        (fun _ _ _ _ j _ => out.length - (intOf j).toNat)
      case atStart => exact ⟨x0, y0, [], false, 0, rfl, rfl, rfl, rfl, World.ownsRow_nil _ _ _ _, Below.refl _ _, Hst.out⟩
      case round =>
        obtain ⟨x, y, nx, dn, m, rfl, rfl, rfl, rfl, hown, hbi, hN⟩ := hrel
        obtain ⟨hm, x0', xy', y1', hnl, _, _⟩ := id hN
        have HN := Lib.hid hN
        clear hN
        have hnl2 : nx.length ≤ m + 1 := Nat.le_trans hnl (by split <;> omega)
        clear hnl
        by_cases hmt : m < out.length
        · obtain ⟨g2, off2, rfl, hcell2⟩ := Hoc.out (fun e => by rw [e] at hmt; simp at hmt)
          obtain ⟨d0, d1⟩ := hcell2 m hmt
          have d0 := kept hbi d0
          have d1 := kept hbi d1
          obtain ⟨o0, o1, o2⟩ := sp.okS_iff'.1 (List.all_eq_true.1 Hvo.out _ (List.getElem_mem hmt))
          have S1 := HN.out.before hmt
          have S2 : dn = true → NR out R (nx ++ [out[m]]) x y true (m + 1) := fun e => by subst e; exact HN.out.behind hmt
          have S4 : dn = false → ¬ out[m].2 + 1 < x → y + 1 < out[m].1 → NR out R (nx ++ [(x, y)] ++ [out[m]]) x y true (m + 1) := fun e h1 h2 => by subst e; exact HN.out.put Hgo.out Hro.out hmt h1 h2
          have S3 := HN.out.wide Hvo.out hmt
          generalize out[m] = s at *
          obtain ⟨p, q⟩ := s
          dsimp only at d0 d1 o0 o1 o2 S1 S2 S3 S4
          clear hcell2
          by_cases h1 : q + 1 < x
          · have HS := Lib.hid (S1 h1)
            clear S1 S2 S3 S4
            go_wp2_with (at_builtin; refine wpList_append_own _ rfl (.tmp 42) (.tmp 44) 22 rfl wo.heap.size 27 i0 (.agg #[.int .i64 0, .int .i64 0]) 2 16 Tryz.underlying22 hi hz0 hz1 hz2 rfl (by decide) _ _ _ rfl (((hown.alloc _).alloc _)) ⟨_, 0, none⟩ 1 1 [.int .i64 p, .int .i64 q] rfl rfl (newsPair _ _ (by first | rfl | simp) _ _) (onePair _ _) (by unfold maxLen; omega) (by omega) ((Nat.le_trans (Nat.le_trans hbi.size (allocSz _ _)) (allocSz _ _))) ?_)
            intro v' w3 hown3 hgrow3 _
            have hb3 : Below wo.heap.size wo w3 := ((hbi.alloc (hbi.size) _).alloc ((Nat.le_trans hbi.size (allocSz _ _))) _).grown hgrow3 ((Nat.le_trans (Nat.le_trans hbi.size (allocSz _ _)) (allocSz _ _))) (fun j hj => (hown.lt j hj).1)
            have HB3 := Lib.hid hb3
            have Hown3 := Lib.hid hown3
            clear hgrow3 hown3 hb3 hown
            go_wp2
            go_roundw
            case rel => exact ⟨x, y, nx ++ [(p, q)], dn, m + 1, rfl, rfl, rfl, by go_num, by rw [flatS_snoc, List.length_append]; exact Hown3.out, HB3.out, HS.out⟩
            case measure => simp [intOf]; omega
          · by_cases h2 : y + 1 < p
            · cases dn
              · have HS := Lib.hid (S4 rfl h1 h2)
                clear S1 S2 S3 S4
                go_wp2_with (at_builtin; refine wpList_append_own _ rfl (.tmp 53) (.tmp 57) 22 rfl wo.heap.size 27 i0 (.agg #[.int .i64 0, .int .i64 0]) 2 16 Tryz.underlying22 hi hz0 hz1 hz2 rfl (by decide) _ _ _ rfl (((hown.alloc _).alloc _)) ⟨_, 0, none⟩ 1 1 [.int .i64 x, .int .i64 y] rfl rfl (newsPair _ _ (by first | rfl | simp) _ _) (onePair _ _) (by unfold maxLen; omega) (by omega) ((Nat.le_trans (Nat.le_trans hbi.size (allocSz _ _)) (allocSz _ _))) ?_)
                intro v' w3 hown3 hgrow3 _
                have hb3 : Below wo.heap.size wo w3 := ((hbi.alloc (hbi.size) _).alloc ((Nat.le_trans hbi.size (allocSz _ _))) _).grown hgrow3 ((Nat.le_trans (Nat.le_trans hbi.size (allocSz _ _)) (allocSz _ _))) (fun j hj => (hown.lt j hj).1)
                have hne : some wr.heap.size ≠ u7.ownBlock := fun e => by have := (hown.lt _ e.symm).2; omega
                have b0 : w3.cell? ⟨wr.heap.size, 0, none⟩ = some (.int .i64 p) := hgrow3.cell (keptA _ (newCell _ _ _ 0 _ rfl)) hne
                have b1 : w3.cell? ⟨wr.heap.size, 1, none⟩ = some (.int .i64 q) := hgrow3.cell (keptA _ (newCell _ _ _ 1 _ rfl)) hne
                clear hgrow3 hown
                go_wp2_with (at_builtin; refine wpList_append_own _ rfl (.tmp 59) (.tmp 61) 22 rfl wo.heap.size 27 i0 (.agg #[.int .i64 0, .int .i64 0]) 2 16 Tryz.underlying22 hi hz0 hz1 hz2 rfl (by decide) _ _ _ rfl ((hown3.alloc _)) ⟨_, 0, none⟩ 1 1 [.int .i64 p, .int .i64 q] rfl rfl (newsPair _ _ (by first | rfl | simp) _ _) (onePair _ _) (by unfold maxLen; omega) (by omega) ((Nat.le_trans hb3.size (allocSz _ _))) ?_)
                intro v4 w4 hown4 hgrow4 _
                have hb4 : Below wo.heap.size wo w4 := (hb3.alloc (hb3.size) _).grown hgrow4 ((Nat.le_trans hb3.size (allocSz _ _))) (fun j hj => (hown3.lt j hj).1)
                have HB3 := Lib.hid hb4
                have Hown3 := Lib.hid hown4
                clear hgrow4 hown4 hb4 hown3 hb3 b0 b1
                go_wp2
                go_roundw
                case rel => exact ⟨x, y, nx ++ [(x, y)] ++ [(p, q)], true, m + 1, rfl, rfl, rfl, by go_num, by rw [flatS_snoc, flatS_snoc, List.length_append, List.length_append, List.append_assoc]; exact Hown3.out, HB3.out, HS.out⟩
                case measure => simp [intOf]; omega
              · have HS := Lib.hid (S2 rfl)
                clear S1 S2 S3 S4
                go_wp2_with (at_builtin; refine wpList_append_own _ rfl (.tmp 59) (.tmp 61) 22 rfl wo.heap.size 27 i0 (.agg #[.int .i64 0, .int .i64 0]) 2 16 Tryz.underlying22 hi hz0 hz1 hz2 rfl (by decide) _ _ _ rfl (((hown.alloc _).alloc _)) ⟨_, 0, none⟩ 1 1 [.int .i64 p, .int .i64 q] rfl rfl (newsPair _ _ (by first | rfl | simp) _ _) (onePair _ _) (by unfold maxLen; omega) (by omega) ((Nat.le_trans (Nat.le_trans hbi.size (allocSz _ _)) (allocSz _ _))) ?_)
                intro v' w3 hown3 hgrow3 _
                have hb3 : Below wo.heap.size wo w3 := ((hbi.alloc (hbi.size) _).alloc ((Nat.le_trans hbi.size (allocSz _ _))) _).grown hgrow3 ((Nat.le_trans (Nat.le_trans hbi.size (allocSz _ _)) (allocSz _ _))) (fun j hj => (hown.lt j hj).1)
                have HB3 := Lib.hid hb3
                have Hown3 := Lib.hid hown3
                clear hgrow3 hown3 hb3 hown
                go_wp2
                go_roundw
                case rel => exact ⟨x, y, nx ++ [(p, q)], true, m + 1, rfl, rfl, rfl, by go_num, by rw [flatS_snoc, List.length_append]; exact Hown3.out, HB3.out, HS.out⟩
                case measure => simp [intOf]; omega
            · by_cases h3 : p < x
              · by_cases h4 : y < q
                · have HS := Lib.hid (show NR out R nx p q dn (m + 1) by have := S3 h1 h2; rw [show min p x = p by omega, show max q y = q by omega] at this; exact this)
                  have HBB := Lib.hid (hbi.alloc hbi.size (.cells #[.int .i64 p, .int .i64 q] 27))
                  have Hown := Lib.hid (hown.alloc (.cells #[.int .i64 p, .int .i64 q] 27))
                  clear S1 S2 S3 S4 hown hbi
                  go_wp2
                  go_roundw
                  case rel => exact ⟨p, q, nx, dn, m + 1, rfl, rfl, rfl, by go_num, Hown.out, HBB.out, HS.out⟩
                  case measure => simp [intOf]; omega
                · have HS := Lib.hid (show NR out R nx p y dn (m + 1) by have := S3 h1 h2; rw [show min p x = p by omega, show max q y = y by omega] at this; exact this)
                  have HBB := Lib.hid (hbi.alloc hbi.size (.cells #[.int .i64 p, .int .i64 q] 27))
                  have Hown := Lib.hid (hown.alloc (.cells #[.int .i64 p, .int .i64 q] 27))
                  clear S1 S2 S3 S4 hown hbi
                  go_wp2
                  go_roundw
                  case rel => exact ⟨p, y, nx, dn, m + 1, rfl, rfl, rfl, by go_num, Hown.out, HBB.out, HS.out⟩
                  case measure => simp [intOf]; omega
              · by_cases h4 : y < q
                · have HS := Lib.hid (show NR out R nx x q dn (m + 1) by have := S3 h1 h2; rw [show min p x = x by omega, show max q y = q by omega] at this; exact this)
                  have HBB := Lib.hid (hbi.alloc hbi.size (.cells #[.int .i64 p, .int .i64 q] 27))
                  have Hown := Lib.hid (hown.alloc (.cells #[.int .i64 p, .int .i64 q] 27))
                  clear S1 S2 S3 S4 hown hbi
                  go_wp2
                  go_roundw
                  case rel => exact ⟨x, q, nx, dn, m + 1, rfl, rfl, rfl, by go_num, Hown.out, HBB.out, HS.out⟩
                  case measure => simp [intOf]; omega
                · have HS := Lib.hid (show NR out R nx x y dn (m + 1) by have := S3 h1 h2; rw [show min p x = x by omega, show max q y = y by omega] at this; exact this)
                  have HBB := Lib.hid (hbi.alloc hbi.size (.cells #[.int .i64 p, .int .i64 q] 27))
                  have Hown := Lib.hid (hown.alloc (.cells #[.int .i64 p, .int .i64 q] 27))
                  clear S1 S2 S3 S4 hown hbi
                  go_wp2
                  go_roundw
                  case rel => exact ⟨x, y, nx, dn, m + 1, rfl, rfl, rfl, by go_num, Hown.out, HBB.out, HS.out⟩
                  case measure => simp [intOf]; omega
        · obtain rfl : m = out.length := by omega
          cases dn
          · obtain ⟨hfin, hlen⟩ := HN.out.last
            have HF := Lib.hid hfin
            have HLn := Lib.hid (show R.length ≤ k + 1 by rw [← hfin, List.length_append, List.length_singleton]; omega)
            clear hfin
            go_wp2_with (at_builtin; refine wpList_append_own _ rfl (.tmp 77) (.tmp 81) 22 rfl wo.heap.size 27 i0 (.agg #[.int .i64 0, .int .i64 0]) 2 16 Tryz.underlying22 hi hz0 hz1 hz2 rfl (by decide) _ _ _ rfl ((hown.alloc _)) ⟨_, 0, none⟩ 1 1 [.int .i64 x, .int .i64 y] rfl rfl (newsPair _ _ (by first | rfl | simp) _ _) (onePair _ _) (by unfold maxLen; omega) (by omega) ((Nat.le_trans hbi.size (allocSz _ _))) ?_)
            intro v' w3 hown3 hgrow3 _
            have hb3 : Below wo.heap.size wo w3 := (hbi.alloc (hbi.size) _).grown hgrow3 ((Nat.le_trans hbi.size (allocSz _ _))) (fun j hj => (hown.lt j hj).1)
            have HB3 := Lib.hid (HB.out.trans (hb3.mono HB.out.size))
            have hrd : RdS w3 v' R := by
              rw [← HF.out]
              exact rdS_owns (B := wo.heap.size) (t := 27) (by rw [flatS_snoc, List.length_append]; exact hown3) (by rw [List.length_append, List.length_singleton]; omega)
            have HRd := Lib.hid hrd
            clear hgrow3 hown3 hb3 hown hrd
            go_wp2
            go_roundw
            case rel => exact ⟨k + 1, by omega, by go_num, HR0.out ▸ HRd.out, HR0.out ▸ HLn.out, HB3.out⟩
            case measure => simp [intOf]; omega
          · obtain ⟨hfin, hlen⟩ := HN.out.done
            have HF := Lib.hid hfin
            have HLn := Lib.hid (show R.length ≤ k + 1 by rw [← hfin]; omega)
            have HB3 := Lib.hid (HB.out.trans (hbi.mono HB.out.size))
            have hrd : RdS wr u7 R := by
              rw [← hfin]
              exact rdS_owns (B := wo.heap.size) (t := 27) hown (by omega)
            have HRd := Lib.hid hrd
            clear hfin hown hrd hbi
            go_wp2
            go_roundw
            case rel => exact ⟨k + 1, by omega, by go_num, HR0.out ▸ HRd.out, HR0.out ▸ HLn.out, HB3.out⟩
            case measure => simp [intOf]; omega
    · obtain rfl : k = l.length := by omega
      rw [List.take_length] at ho hol
      have HO := Lib.hid ho
      have HL := Lib.hid hol
      have HB := Lib.hid hb
      clear ho hol hb
      go_wp2
      go_ret
      exact ⟨_, rfl, HO.out, HL.out, HB.out⟩

end Go.Proofs.YtdjpkkppcdmdnaaGreatDoor
