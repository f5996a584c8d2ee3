/- portlaw1.SpanLaws returns true for any two lists of spans, any number and any text, where what it reads is together of bulk at most 1048576. Conditions: the listed package-level variables hold what the program's text lays (the card ties them); bulk at most 1048576. -/
import Derived.Test.YtdjpkkppcdmdnaaGreatDoorCards
import Derived.Test.YtdjpkkppcdmdnaaGreatDoorTie
import Derived.Test.YtdjpkkppcdmdnaaGreatDoorSlLaw
import Derived.Test.YtdjpkkppcdmdnaaGreatDoorSpOpen
import Derived.Test.YtdjpkkppcdmdnaaGreatDoorGlobL
import Derived.Carry
import Derived.Lay
import Derived.SevenTiedAt
import Derived.Deep.DeepHandedRow
import Derived.Lib.SmallJoins
import Derived.ChangeMaps5
import Derived.RowKitTokens
namespace Go.Proofs.YtdjpkkppcdmdnaaGreatDoor.spanLaws
open Go.ChangeShapes Go.WideShapes Go.ChangeAt Go.RowKit Go.Joins
open Go.ChangeMaps (open_string shut_string)

theorem own : ownKnob Tryz.prog.godebug = none := by kernel_rfl

theorem plain_okP {P : Program} {W : World} {r : Reach} {base : Nat} {t e : TypeId} (ht : P.underlying t = some (.slice e)) {v : Value} (h : Value.okWide P W r base t v) : Plain v := by
  obtain ⟨a, n, c, rfl⟩ := okWide_slice ht h
  simp only [Value.okWide, ht, Cell.okWide] at h
  unfold Cell.ok at h
  rw [ht] at h
  refine ⟨fun p n' c' e => ?_, fun n' c' e => ?_⟩
  · injection e with e1 e2 e3
    subst e1
    obtain ⟨g, o, k⟩ := p
    dsimp only at h
    obtain ⟨_, _, hh⟩ := h
    obtain ⟨_, hs, _⟩ := hh
    dsimp only at hs
    subst hs
    exact ⟨g, o, rfl⟩
  · injection e with e1 e2 e3
    subst e1 e3
    match n, c, h with
    | 0, 0, _ => rfl
/-- what is read is small: the slices and the text are -/
theorem bulk_len {H : Type} : ∀ (es : List (DataW H)), es.length ≤ Rows.uptoBulkAll es
  | [] => Nat.zero_le _
  | e :: es => by
    have := bulk_len es
    have h1 : 1 ≤ Rows.uptoBulk e := by
      unfold Rows.uptoBulk
      split <;> omega
    rw [List.length_cons, Rows.uptoBulkAll]
    omega
theorem small {H : Type} {x y z : DataW H} {bytes : List UInt8} (h : Rows.uptoSmall H ([x, y, z, .lit (.string bytes)] ++ []) = true) : bytes.length < 4294967281 := by
  have h' := of_decide_eq_true h
  simp only [List.append_nil, Rows.uptoBulkAll, Rows.uptoBulk] at h'
  omega
theorem small0 {H : Type} {x y z t : DataW H} (h : Rows.uptoSmall H ([x, y, z, t] ++ []) = true) : ∀ es r, x = .slice es r → es.length ≤ 1048576 := by
  intro es r e
  subst e
  have h' := of_decide_eq_true h
  simp only [List.append_nil, Rows.uptoBulkAll, Rows.uptoBulk] at h'
  have := bulk_len es
  omega
theorem small1 {H : Type} {x y z t : DataW H} (h : Rows.uptoSmall H ([x, y, z, t] ++ []) = true) : ∀ es r, y = .slice es r → es.length ≤ 1048576 := by
  intro es r e
  subst e
  have h' := of_decide_eq_true h
  simp only [List.append_nil, Rows.uptoBulkAll, Rows.uptoBulk] at h'
  have := bulk_len es
  omega

set_option maxRecDepth 100000 in
theorem contract (H : Type) (enc : TypeId × Value → H) (W : World) (base : Nat) (args : Array Value) (ds gs : List (DataW H)) (before : List MemPlace)
    (hval : ∀ (j : Nat) t v, Tryz.f3.params[j]? = some t → args[j]? = some v → Value.okWide Tryz.prog W .any base t v)
    (hW : DataW.Whole enc Tryz.prog Tryz.f3.params.toList Rows.spanLawsSpec.vars false W args.toList ds gs before) (hL : laidMetH Tryz.prog listed W) (hS : W.ShapedOpen Tryz.prog)
    (hsm : Rows.uptoSmall H (ds ++ gs) = true) :
    Calls Tryz.prog 3 args W fun e W' => ∃ v, e = .returned v ∧ Rows.spanLawsSpec.post enc Tryz.prog Tryz.f3 false true false false W args v W' := by
  have hW' := hW
  obtain ⟨p, q, hA0, hV, rfl, hfz, hnd⟩ := hW
  have hA : DataW.TrodAll enc Tryz.prog W 0 (fun _ => true) true Tryz.f3.params.toList args.toList ds p := hA0
  rw [Tryz.params3] at hA hval
  obtain ⟨v0, v1, v2, v3, d0, d1, d2, d3, p0, p1, p2, p3, rfl, rfl, rfl, h0, h1, h2, h3⟩ := trodAll_four hA
  obtain ⟨rfl, rfl⟩ := trodVars_none hV
  obtain ⟨n, rfl, rfl, rfl, hn⟩ := open_int Tryz.underlying3 (hval 2 3 v2 rfl rfl) h2
  obtain ⟨s, rfl, rfl, rfl, hs⟩ := open_string Tryz.underlying9 (hval 3 9 v3 rfl rfl) h3
  have hok0 := hval 0 22 v0 rfl rfl
  have hok1 := hval 1 22 v1 rfl rfl
  have hpl0 : Plain v0 := plain_okP Tryz.underlying22 hok0
  have hpl1 : Plain v1 := plain_okP Tryz.underlying22 hok1
  obtain ⟨sa, sl, sc, rfl⟩ := okWide_slice Tryz.underlying22 hok0
  obtain ⟨ta, tl, tc, rfl⟩ := okWide_slice Tryz.underlying22 hok1
  have hlen := small hsm
  have hlen0 := small0 hsm
  have hlen1 := small1 hsm
  have hlt0 := h0
  have hlt1 := h1
  obtain ⟨fuel, h00⟩ := h0
  obtain ⟨fuel1, h11⟩ := h1
  obtain ⟨l, hrd, _⟩ := spans_open (x := (d0, p0)) hpl0 h00 hlen0
  obtain ⟨m, hrd1, _⟩ := spans_open (x := (d1, p1)) hpl1 h11 hlen1
  refine (spanLaws_any _ _ l m n s.data.toList W hrd hrd1 hpl0 hpl1 hlen (glob_of hL hS)).mono fun e W' ⟨he, hb⟩ => ?_
  subst he
  refine ⟨_, rfl, _, _, _, [], p0 ++ (p1 ++ ([] ++ [])), [], hW', ?_, ?_, ?_, hb.frame _, fun h => by cases h⟩
  · exact trodAll_mk1 (shut_bool Tryz.underlying4 true)
  · exact trodAll_mk4 (Below.trod (by kernel_rfl) (by kernel_rfl) (by decide) hlt0 hb (fun x hx => hW'.lt x (by simp [hx]))) (Below.trod (by kernel_rfl) (by kernel_rfl) (by decide) hlt1 hb (fun x hx => hW'.lt x (by simp [hx]))) (shut_int Tryz.underlying3 hn) (shut_string Tryz.underlying9 hs)
  · rfl

/-! ### a world that meets the row -/
def dataList : List (String × DataW Unit) := listed.filter fun x => x.2.handleName?.isNone
noncomputable def laidWorld (os : Os) : World := (World.holding Tryz.prog os ⟨#[], #[], []⟩).layVars Tryz.prog dataList

theorem laidMet_lay {P : Program} {w0 : World} {laid : List (String × DataW Unit)} (args : Array Value) (hf : w0.layFits P laid [] = true) (hi : w0.layIfaces P laid (w0.layVars P laid) = true) :
    laidMet P laid ((w0.layVars P laid).forCall (fun _ _ => 0) ⟨#[], args, []⟩).memory := by
  have e1 : (laid.filter fun x => (laid.map (·.1)).contains x.1) = laid := List.filter_eq_self.2 fun x hx => List.contains_iff_mem.2 (List.mem_map.2 ⟨x, hx, rfl⟩)
  have e2 : (laid.filter fun x => !(laid.map (·.1)).contains x.1) = [] := List.filter_eq_nil_iff.2 fun x hx => by rw [List.contains_iff_mem.2 (List.mem_map.2 ⟨x, hx, rfl⟩)]; simp
  have h : laidMet P laid (w0.layVars P laid) := laidMet_layVars (w0 := w0) (laid.map (·.1)) [] (by rw [e1]) (by rw [e1]; exact hf) (by rw [e1]; exact hi) (by rw [e2]; exact LaidIn.none)
  exact h.of_heap (by simp [World.memory, World.forCall, Input.heap])

abbrev wargs : Array Value := #[.slice none 0 0, .slice none 0 0, .int .i64 0, .string ⟨#[]⟩]

theorem laid_met (os : Os) : laidMetH Tryz.prog listed ((laidWorld os).forCall (fun _ _ => 0) ⟨#[], wargs, []⟩).memory :=
  laidMetH_of_parts (laidMet_lay wargs (by kernel_rfl) (by kernel_rfl)) (by kernel_rfl)

theorem shaped (os : Os) : ((laidWorld os).forCall (fun _ _ => 0) ⟨#[], wargs, []⟩).Shaped Tryz.prog :=
  World.shaped_of_ZipB (by kernel_rfl) (by kernel_rfl)

theorem reads (os : Os) {H : Type} (enc : TypeId × Value → H) : ∃ places, DataW.whole enc Tryz.prog ((laidWorld os).forCall (fun _ _ => 0) ⟨#[], wargs, []⟩).memory Tryz.f3.params.toList Rows.spanLawsSpec.vars false wargs.toList 8 = some ([.nil, .nil, .lit (.int .i64 0), .lit (.string [])], [], places) :=
  ⟨[], by kernel_rfl⟩

theorem laidWorld_os (os : Os) : (laidWorld os).os = os := by
  unfold laidWorld
  rw [World.layVars_os]
  rfl

set_option maxRecDepth 100000 in
theorem liftedUpto (os : Os) (started : os.Started) (H : Type) (enc : TypeId × Value → H) (F : Stop.Interp) :
    ReturnsInHanded {} Tryz.checked os 3 .any ((Rows.OpenSpec.upto Rows.spanLawsSpec).preRow enc Tryz.prog Tryz.f3 Rows.spanLawsUptoRow.domain false Rows.spanLawsUptoRow.laid) (((Rows.OpenSpec.upto Rows.spanLawsSpec).at F).post enc Tryz.prog Tryz.f3 false true false false) := by
  obtain ⟨places, hx⟩ := reads os enc
  have hok : Input.okWideB Tryz.prog ((laidWorld os).forCall (fun _ _ => 0) ⟨#[], wargs, []⟩) 3 ⟨#[], wargs, []⟩ = true := by kernel_rfl
  refine returnsInHanded_of_row (C := Tryz.checked) (s := Rows.OpenSpec.upto Rows.spanLawsSpec) own started (by kernel_rfl) Tryz.func3
    ⟨laidWorld os, fun _ _ => 0, ⟨#[], wargs, []⟩, laidWorld_os os, shaped os, (Input.okWide_of_okWideB (base := 0) hok).1, (Input.okWide_of_okWideB hok).2,
      OpenSpec.preRow_of_cond 8 hx (by kernel_rfl) (fun k hk => by cases hk; kernel_rfl) (by kernel_rfl) (laid_met os), by
        simp only [Assume.holds]
        exact ⟨by simp, by simp, fun _ => Modest.zero, by simp, by simp⟩⟩ ?_
  intro W base args ds gs before hval hW _ hcond _ hL hS _
  exact contract H enc W base args ds gs before hval hW hL hS (hcond _ rfl)

theorem saidUpto : Rows.SpanLawsUptoSaid :=
  OpenClaim.holds_of_cond 3 Tryz.f3 rfl rfl rfl rfl rfl rfl rfl ⟨rfl, rfl, rfl, rfl, rfl⟩ rfl rfl rfl rfl rfl (by kernel_rfl) Tryz.func3 (by kernel_rfl)
    (of_decide_eq_true (by kernel_rfl)) (by unfold Func.isWrapper; first | (rw [if_pos (by decide +kernel)]; kernel_rfl) | (rw [if_neg (by decide +kernel)]; exact ⟨rfl, rfl⟩))
    (fun os started H enc _ F => by rw [OpenClaim.pre_eq_preRow]; exact liftedUpto os started H enc F)

theorem plain (f : FuncId) (fn : Func) (hf : Tryz.pinned.checked.prog.funcNamed "portcullis/portlaw1.SpanLaws" = some f) (hfn : Tryz.pinned.checked.prog.funcs[f]? = some fn) :
    true = Tryz.pinned.checked.prog.looks [] ∧ ∀ (j : Nat) t, fn.params[j]? = some t → Tryz.pinned.checked.prog.wantsStandIn t = false := by
  obtain rfl : f = 3 := Option.some.inj ((show Tryz.prog.funcNamed "portcullis/portlaw1.SpanLaws" = some 3 by kernel_rfl).symm.trans hf) |>.symm
  obtain rfl : fn = Tryz.f3 := (Option.some.inj (Tryz.func3.symm.trans hfn)).symm
  refine ⟨by kernel_rfl, fun j t ht => ?_⟩
  rw [Tryz.params3] at ht
  have hm : t ∈ [22, 22, 3, 9] := by simpa using Array.mem_of_getElem? ht
  have hall : ([22, 22, 3, 9].all fun u => !Tryz.prog.wantsStandIn u) = true := by kernel_rfl
  exact (show Tryz.prog.wantsStandIn t = false by simpa using List.all_eq_true.1 hall t hm)

/-- THE CARD -/
theorem cardUpto : Rows.SpanLawsUptoCardSaid :=
  Claim7.holds_tied_plain_at .later [] _ _ _ _ saidUpto (fun _ h => by cases h) (by kernel_rfl) (fun _ h => by cases h) spanLawsUpto_row_tie rfl ⟨rfl, rfl⟩ (by kernel_rfl) rfl plain (by kernel_rfl)
#print axioms cardUpto
end Go.Proofs.YtdjpkkppcdmdnaaGreatDoor.spanLaws
