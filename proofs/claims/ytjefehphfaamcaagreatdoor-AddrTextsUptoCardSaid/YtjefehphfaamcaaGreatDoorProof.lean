/- portlaw1.AddrTexts returns true for every address, every prefix and every text, where what it reads is together of bulk at most 1048576. Conditions: the listed package-level variables hold what the program's text lays (the card ties them); bulk at most 1048576. -/
import Derived.Test.YtjefehphfaamcaaGreatDoorCards
import Derived.Test.YtjefehphfaamcaaGreatDoorTie
import Derived.Test.YtjefehphfaamcaaGreatDoorLaw
import Derived.Test.YtjefehphfaamcaaGreatDoorGlob
import Derived.Lay
import Derived.SevenTiedAt
import Derived.Deep.DeepHandedRow
import Derived.Lib.SmallJoins
import Derived.ChangeMaps5
import Derived.RowKitTokens
namespace Go.Proofs.YtjefehphfaamcaaGreatDoor.addrTexts
open Go.ChangeShapes Go.WideShapes Go.ChangeAt Go.RowKit Go.Joins
open Go.ChangeMaps (open_string shut_string)

theorem own : ownKnob Tryz.prog.godebug = none := by kernel_rfl
theorem cellsP : Tryz.prog.cellsOf 23 = 2 := by kernel_rfl

theorem law_any (a pa pn : Int) (l : List UInt8) (w : World) (G : Glob w) (hs : l.length < 4294967281) :
    Calls Tryz.prog 3 #[.int .i64 a, .agg #[.int .i64 pa, .int .i64 pn], strV l] w fun e w' => e = .returned (.bool true) ∧ Below w.heap.size w w' := by
  cases hA : addrB a <;> cases hS : tx.readAddr l <;> by_cases hP : tx.pfault pa pn = 0 <;> cases hQ : tx.readPrefix l
  · exact law_0010 a pa pn l w G hs hA hS hP hQ
  · rename_i q; exact law_0011 a pa pn l w G hs hA hS hP q.1 q.2 hQ
  · exact law_0000 a pa pn l w G hs hA hS hP hQ
  · rename_i q; exact law_0001 a pa pn l w G hs hA hS hP q.1 q.2 hQ
  · rename_i n; exact law_0110 a pa pn l w G hs hA n hS hP hQ
  · rename_i n q; exact law_0111 a pa pn l w G hs hA n hS hP q.1 q.2 hQ
  · rename_i n; exact law_0100 a pa pn l w G hs hA n hS hP hQ
  · rename_i n q; exact law_0101 a pa pn l w G hs hA n hS hP q.1 q.2 hQ
  · exact law_1010 a pa pn l w G hs hA hS hP hQ
  · rename_i q; exact law_1011 a pa pn l w G hs hA hS hP q.1 q.2 hQ
  · exact law_1000 a pa pn l w G hs hA hS hP hQ
  · rename_i q; exact law_1001 a pa pn l w G hs hA hS hP q.1 q.2 hQ
  · rename_i n; exact law_1110 a pa pn l w G hs hA n hS hP hQ
  · rename_i n q; exact law_1111 a pa pn l w G hs hA n hS hP q.1 q.2 hQ
  · rename_i n; exact law_1100 a pa pn l w G hs hA n hS hP hQ
  · rename_i n q; exact law_1101 a pa pn l w G hs hA n hS hP q.1 q.2 hQ

/-- what is read is small: the text is -/
theorem small {H : Type} {x y z : DataW H} {bytes : List UInt8} (h : Rows.uptoSmall H ([x, .agg [y, z], .lit (.string bytes)] ++ []) = true) : bytes.length < 4294967281 := by
  have h' := of_decide_eq_true h
  simp only [List.append_nil, Rows.uptoBulkAll, Rows.uptoBulk] at h'
  omega

set_option maxRecDepth 100000 in
theorem contract (H : Type) (enc : TypeId × Value → H) (W : World) (base : Nat) (args : Array Value) (ds gs : List (DataW H)) (before : List MemPlace)
    (hval : ∀ (j : Nat) t v, Tryz.f3.params[j]? = some t → args[j]? = some v → Value.okWide Tryz.prog W .any base t v)
    (hW : DataW.Whole enc Tryz.prog Tryz.f3.params.toList Rows.addrTextsSpec.vars false W args.toList ds gs before) (hL : laidMetH Tryz.prog listed W) (hS : W.ShapedOpen Tryz.prog)
    (hsm : Rows.uptoSmall H (ds ++ gs) = true) :
    Calls Tryz.prog 3 args W fun e W' => ∃ v, e = .returned v ∧ Rows.addrTextsSpec.post enc Tryz.prog Tryz.f3 false true false false W args v W' := by
  have hW' := hW
  obtain ⟨p, q, hA0, hV, rfl, hfz, hnd⟩ := hW
  have hA : DataW.TrodAll enc Tryz.prog W 0 (fun _ => true) true Tryz.f3.params.toList args.toList ds p := hA0
  rw [Tryz.params3] at hA hval
  obtain ⟨v0, v1, v2, d0, d1, d2, p0, p1, p2, rfl, rfl, rfl, h0, h1, h2⟩ := trodAll_three hA
  obtain ⟨rfl, rfl⟩ := trodVars_none hV
  obtain ⟨a, rfl, rfl, rfl, wa⟩ := open_int Tryz.underlying3 (hval 0 3 v0 rfl rfl) h0
  obtain ⟨c0, c1, y0, y1, m, rfl, rfl, rfl, hy0, hy1⟩ := open_agg2 Tryz.underlying23 (by kernel_rfl) cellsP (hval 1 23 v1 rfl rfl) h1
  obtain ⟨pa, e0, rfl, wpa⟩ := DataW.trod_int Tryz.underlying3 hy0
  obtain ⟨pn, e1, rfl, wpn⟩ := DataW.trod_int Tryz.underlying3 hy1
  simp at e0 e1
  subst e0 e1
  obtain ⟨s, rfl, rfl, rfl, hs⟩ := open_string Tryz.underlying9 (hval 2 9 v2 rfl rfl) h2
  have hlen := small hsm
  clear hA0 hsm
  simp only [List.append_nil] at hW'
  have structReads : ∀ (W' : World) (sp : Nat → Bool), DataW.Trod enc Tryz.prog W' 0 sp true 23 (.agg #[.int .i64 pa, .int .i64 pn]) (.agg [.lit (.int .i64 pa), .lit (.int .i64 pn)]) [] := fun W' sp =>
    shut_agg2 (y0 := (.lit (.int .i64 pa), [])) (y1 := (.lit (.int .i64 pn), [])) Tryz.underlying23 (by kernel_rfl) cellsP ⟨1, by simp [DataW.trod, Tryz.underlying3, wpa]⟩ ⟨1, by simp [DataW.trod, Tryz.underlying3, wpn]⟩
  refine (law_any a pa pn s.data.toList W (glob_of hL hS) hlen).mono fun e W' ⟨he, hb⟩ => ?_
  subst he
  refine ⟨_, rfl, _, _, _, [], [], [], hW', ?_, ?_, rfl, hb.frame _, fun h => by cases h⟩
  · exact trodAll_mk1 (shut_bool Tryz.underlying4 true)
  · exact trodAll_mk3 (shut_int Tryz.underlying3 wa) (structReads _ _) (shut_string Tryz.underlying9 hs)

/-! ### a world that meets the row -/
noncomputable def handleWorld (os : Os) : World :=
  { World.holding Tryz.prog os ⟨#[], #[], []⟩ with heap := (World.holding Tryz.prog os ⟨#[], #[], []⟩).heap.modify 0 fun
      | .cells _ t frozen => .cells #[.iface 96 (.agg #[.pointer (some ⟨9, 27, none⟩)])] t frozen
      | o => o }
def dataList : List (String × DataW Unit) := listed.filter fun x => x.2.handleName?.isNone
noncomputable def laidWorld (os : Os) : World := (handleWorld os).layVars Tryz.prog dataList

theorem laidMet_lay {P : Program} {w0 : World} {laid : List (String × DataW Unit)} (args : Array Value) (hf : w0.layFits P laid [] = true) (hi : w0.layIfaces P laid (w0.layVars P laid) = true) :
    laidMet P laid ((w0.layVars P laid).forCall (fun _ _ => 0) ⟨#[], args, []⟩).memory := by
  have e1 : (laid.filter fun x => (laid.map (·.1)).contains x.1) = laid := List.filter_eq_self.2 fun x hx => List.contains_iff_mem.2 (List.mem_map.2 ⟨x, hx, rfl⟩)
  have e2 : (laid.filter fun x => !(laid.map (·.1)).contains x.1) = [] := List.filter_eq_nil_iff.2 fun x hx => by rw [List.contains_iff_mem.2 (List.mem_map.2 ⟨x, hx, rfl⟩)]; simp
  have h : laidMet P laid (w0.layVars P laid) := laidMet_layVars (w0 := w0) (laid.map (·.1)) [] (by rw [e1]) (by rw [e1]; exact hf) (by rw [e1]; exact hi) (by rw [e2]; exact LaidIn.none)
  exact h.of_heap (by simp [World.memory, World.forCall, Input.heap])

abbrev wargs : Array Value := #[.int .i64 0, .agg #[.int .i64 0, .int .i64 0], .string ⟨#[]⟩]

theorem laid_met (os : Os) : laidMetH Tryz.prog listed ((laidWorld os).forCall (fun _ _ => 0) ⟨#[], wargs, []⟩).memory :=
  laidMetH_of_parts (laidMet_lay wargs (by kernel_rfl) (by kernel_rfl)) (by kernel_rfl)

theorem shaped (os : Os) : ((laidWorld os).forCall (fun _ _ => 0) ⟨#[], wargs, []⟩).Shaped Tryz.prog :=
  World.shaped_of_ZipB (by kernel_rfl) (by kernel_rfl)

theorem reads (os : Os) {H : Type} (enc : TypeId × Value → H) : ∃ places, DataW.whole enc Tryz.prog ((laidWorld os).forCall (fun _ _ => 0) ⟨#[], wargs, []⟩).memory Tryz.f3.params.toList Rows.addrTextsSpec.vars false wargs.toList 8 = some ([.lit (.int .i64 0), .agg [.lit (.int .i64 0), .lit (.int .i64 0)], .lit (.string [])], [], places) :=
  ⟨[], by kernel_rfl⟩

theorem laidWorld_os (os : Os) : (laidWorld os).os = os := by
  unfold laidWorld
  rw [World.layVars_os]
  rfl

set_option maxRecDepth 100000 in
theorem liftedUpto (os : Os) (started : os.Started) (H : Type) (enc : TypeId × Value → H) (F : Stop.Interp) :
    ReturnsInHanded {} Tryz.checked os 3 .any ((Rows.OpenSpec.upto Rows.addrTextsSpec).preRow enc Tryz.prog Tryz.f3 Rows.addrTextsUptoRow.domain false Rows.addrTextsUptoRow.laid) (((Rows.OpenSpec.upto Rows.addrTextsSpec).at F).post enc Tryz.prog Tryz.f3 false true false false) := by
  obtain ⟨places, hx⟩ := reads os enc
  have hok : Input.okWideB Tryz.prog ((laidWorld os).forCall (fun _ _ => 0) ⟨#[], wargs, []⟩) 3 ⟨#[], wargs, []⟩ = true := by kernel_rfl
  refine returnsInHanded_of_row (C := Tryz.checked) (s := Rows.OpenSpec.upto Rows.addrTextsSpec) own started (by kernel_rfl) Tryz.func3
    ⟨laidWorld os, fun _ _ => 0, ⟨#[], wargs, []⟩, laidWorld_os os, shaped os, (Input.okWide_of_okWideB (base := 0) hok).1, (Input.okWide_of_okWideB hok).2,
      OpenSpec.preRow_of_cond 8 hx (by kernel_rfl) (fun k hk => by cases hk; kernel_rfl) (by kernel_rfl) (laid_met os), by
        simp only [Assume.holds]
        exact ⟨by simp, by simp, fun _ => Modest.zero, by simp, by simp⟩⟩ ?_
  intro W base args ds gs before hval hW _ hcond _ hL hS _
  exact contract H enc W base args ds gs before hval hW hL hS (hcond _ rfl)

theorem saidUpto : Rows.AddrTextsUptoSaid :=
  OpenClaim.holds_of_cond 3 Tryz.f3 rfl rfl rfl rfl rfl rfl rfl ⟨rfl, rfl, rfl, rfl, rfl⟩ rfl rfl rfl rfl rfl (by kernel_rfl) Tryz.func3 (by kernel_rfl)
    (of_decide_eq_true (by kernel_rfl)) (by unfold Func.isWrapper; first | (rw [if_pos (by decide +kernel)]; kernel_rfl) | (rw [if_neg (by decide +kernel)]; exact ⟨rfl, rfl⟩))
    (fun os started H enc _ F => by rw [OpenClaim.pre_eq_preRow]; exact liftedUpto os started H enc F)

theorem plain (f : FuncId) (fn : Func) (hf : Tryz.pinned.checked.prog.funcNamed "portcullis/portlaw1.AddrTexts" = some f) (hfn : Tryz.pinned.checked.prog.funcs[f]? = some fn) :
    true = Tryz.pinned.checked.prog.looks [] ∧ ∀ (j : Nat) t, fn.params[j]? = some t → Tryz.pinned.checked.prog.wantsStandIn t = false := by
  obtain rfl : f = 3 := Option.some.inj ((show Tryz.prog.funcNamed "portcullis/portlaw1.AddrTexts" = some 3 by kernel_rfl).symm.trans hf) |>.symm
  obtain rfl : fn = Tryz.f3 := (Option.some.inj (Tryz.func3.symm.trans hfn)).symm
  refine ⟨by kernel_rfl, fun j t ht => ?_⟩
  rw [Tryz.params3] at ht
  have hm : t ∈ [3, 23, 9] := by simpa using Array.mem_of_getElem? ht
  have hall : ([3, 23, 9].all fun u => !Tryz.prog.wantsStandIn u) = true := by kernel_rfl
  exact (show Tryz.prog.wantsStandIn t = false by simpa using List.all_eq_true.1 hall t hm)

/-- THE CARD -/
theorem cardUpto : Rows.AddrTextsUptoCardSaid :=
  Claim7.holds_tied_plain_at .later [] _ _ _ _ saidUpto (fun _ h => by cases h) (by kernel_rfl) (fun _ h => by cases h) addrTextsUpto_row_tie rfl ⟨rfl, rfl⟩ (by kernel_rfl) rfl plain (by kernel_rfl)
#print axioms cardUpto
end Go.Proofs.YtjefehphfaamcaaGreatDoor.addrTexts
