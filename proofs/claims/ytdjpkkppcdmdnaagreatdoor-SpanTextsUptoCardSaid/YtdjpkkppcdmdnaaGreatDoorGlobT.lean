/- From the row's list of variables to what the walks want of them. -/
import Derived.Test.YtdjpkkppcdmdnaaGreatDoorLib
import Derived.LaidLaws
import Derived.LaidHandle
import Derived.LaidSub
import Derived.Lib.LaidTab
import Derived.Shelf.Vars
import Derived.Stop.Joined
import Derived.MakeChecks
namespace Go.Proofs.YtdjpkkppcdmdnaaGreatDoor
open Go.RowKit

theorem iface_cell {P : Program} {n nm : String} {d : DataW Unit} {g : Nat} {ti : TypeId} {ms : Array (String × TypeId)} {W : World} (h : laidMet P [(n, .iface nm d)] W)
    (hg : P.globalNamed n = some g) (ht : (P.globals[g]?).map (·.type) = some ti) (hi : P.underlying ti = some (.interface ms)) : ∃ u v, W.cell? ⟨g, 0, none⟩ = some (.iface u v) := by
  obtain ⟨ps, ⟨g0, t0, cs0, f0, p0, q0, hg0, ht0, hv0, hd0, _⟩, _⟩ := h
  obtain rfl := Option.some.inj (hg.symm.trans hg0)
  obtain rfl := Option.some.inj (ht.symm.trans ht0)
  obtain ⟨fuel', u, v, e, _, _⟩ := iface_of_trod hi hd0
  refine ⟨u, v, ?_⟩
  rw [World.var?_cell hg hv0 0]
  have : cs0.toList[0]? = some (.iface u v) := by rw [e]; rfl
  simpa using this

abbrev listed : List (String × DataW Unit) := Rows.spanTextsUptoRow.laid

theorem rt : (Tryz.prog.cutTypes.find? (·.1 == "internal/reflectlite.rtype")).map (·.2) = some 134 := by kernel_rfl
theorem oneRow : ((List.range 199).filter fun t => Tryz.prog.rowNamed t [101, 114, 114, 111, 114]) = [24] := by kernel_rfl
theorem typesSize : Tryz.prog.types.size = 199 := by kernel_rfl

theorem only (n : String) (d : DataW Unit) {W : World} (hL : laidMetH Tryz.prog listed W) (e : (listed.filter fun x => x.1 == n) = [(n, d)]) : laidMetH Tryz.prog [(n, d)] W := by
  rw [← e]; exact hL.filter _

theorem glob_of {W : World} (hL : laidMetH Tryz.prog listed W) (hS : W.ShapedOpen Tryz.prog) : Glob W := by
  refine ⟨?_, ?_, ?_, ?_⟩
  · exact cell_of_shapedOpen_int (t := 3) (zero := #[.int .i64 0]) hS (of_decide_eq_true (by kernel_rfl)) (by kernel_rfl) rfl (by kernel_rfl) (by kernel_rfl) Tryz.underlying3
  · have h := only "internal/strconv.uint64pow10" Rows.laid_internal_strconv_uint64pow10 hL (by kernel_rfl)
    rw [MakeChecks.laidMetH_plain _ _ _ (by kernel_rfl)] at h
    have e : (Rows.laid_internal_strconv_uint64pow10 : DataW Unit) = Lib.tabData .u64 Lib.pow10Tab := by kernel_rfl
    rw [e] at h
    exact Lib.tabIs_of_head (g := 4) (t := 161) (e := 115) (n := 20) (by kernel_rfl) (by kernel_rfl) Tryz.underlying161 Tryz.underlying115 (by kernel_rfl) (by kernel_rfl) h
  · have h := only "strconv.ErrSyntax" Rows.laid_strconv_ErrSyntax hL (by kernel_rfl)
    rw [MakeChecks.laidMetH_plain _ _ _ (by kernel_rfl)] at h
    exact iface_cell h (by kernel_rfl) (by kernel_rfl) Tryz.underlying24
  · have h := only "strconv.ErrRange" Rows.laid_strconv_ErrRange hL (by kernel_rfl)
    rw [MakeChecks.laidMetH_plain _ _ _ (by kernel_rfl)] at h
    exact iface_cell h (by kernel_rfl) (by kernel_rfl) Tryz.underlying24

theorem globE_of {W : World} (hL : laidMetH Tryz.prog listed W) (hS : W.ShapedOpen Tryz.prog) : GlobE W := by
  refine ⟨glob_of hL hS, ?_⟩
  · have h := only "errors.errorType" Rows.laid_errors_errorType hL (by kernel_rfl)
    have h' : laidMet Tryz.prog [] W ∧ handlesMet Tryz.prog [("errors.errorType", Rows.laid_errors_errorType)] W := h
    obtain ⟨name, u, ty, e1, e2, e3, e4, e5⟩ := h'.2 _ (List.mem_singleton.2 rfl)
    have en : name = [101, 114, 114, 111, 114] := (Option.some.inj e1).symm
    subst en
    obtain rfl := Option.some.inj (rt.symm.trans e2)
    have hm : ty ∈ (List.range 199).filter fun t => Tryz.prog.rowNamed t [101, 114, 114, 111, 114] := List.mem_filter.2 ⟨List.mem_range.2 (by rw [← typesSize]; exact e3), e4⟩
    rw [oneRow] at hm
    obtain rfl := List.mem_singleton.1 hm
    have hh : typeHandle Tryz.prog 24 = .pointer (some ⟨9, 24, none⟩) := by kernel_rfl
    rw [hh] at e5
    have he : Tryz.prog.globalNamed "errors.errorType" = some 0 := by kernel_rfl
    simpa using World.var?_cell he e5 0

end Go.Proofs.YtdjpkkppcdmdnaaGreatDoor
