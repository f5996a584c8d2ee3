/- From the row's list of variables to what the walks want of them. -/
import Derived.Test.YtdjpkkppcdmdnaaGreatDoorLib
import Derived.LaidLaws
import Derived.LaidHandle
import Derived.LaidSub
import Derived.Lib.LaidTab
import Derived.Shelf.Vars
import Derived.Stop.Joined
import Derived.MakeChecks
namespace Go.Proofs.YtdjpkkppcdmdnaaGreatDoor
open Go.RowKit

theorem iface_cell {P : Program} {n nm : String} {d : DataW Unit} {g : Nat} {ti : TypeId} {ms : Array (String × TypeId)} {W : World} (h : laidMet P [(n, .iface nm d)] W)
    (hg : P.globalNamed n = some g) (ht : (P.globals[g]?).map (·.type) = some ti) (hi : P.underlying ti = some (.interface ms)) : ∃ u v, W.cell? ⟨g, 0, none⟩ = some (.iface u v) := by
  obtain ⟨ps, ⟨g0, t0, cs0, f0, p0, q0, hg0, ht0, hv0, hd0, _⟩, _⟩ := h
  obtain rfl := Option.some.inj (hg.symm.trans hg0)
  obtain rfl := Option.some.inj (ht.symm.trans ht0)
  obtain ⟨fuel', u, v, e, _, _⟩ := iface_of_trod hi hd0
  refine ⟨u, v, ?_⟩
  rw [World.var?_cell hg hv0 0]
  have : cs0.toList[0]? = some (.iface u v) := by rw [e]; rfl
  simpa using this

abbrev listed : List (String × DataW Unit) := Rows.spanLawsUptoRow.laid

theorem only (n : String) (d : DataW Unit) {W : World} (hL : laidMetH Tryz.prog listed W) (e : (listed.filter fun x => x.1 == n) = [(n, d)]) : laidMetH Tryz.prog [(n, d)] W := by
  rw [← e]; exact hL.filter _

theorem glob_of {W : World} (hL : laidMetH Tryz.prog listed W) (hS : W.ShapedOpen Tryz.prog) : Glob W := by
  refine ⟨?_, ?_, ?_, ?_⟩
  · exact cell_of_shapedOpen_int (t := 3) (zero := #[.int .i64 0]) hS (of_decide_eq_true (by kernel_rfl)) (by kernel_rfl) rfl (by kernel_rfl) (by kernel_rfl) Tryz.underlying3
  · have h := only "internal/strconv.uint64pow10" Rows.laid_internal_strconv_uint64pow10 hL (by kernel_rfl)
    rw [MakeChecks.laidMetH_plain _ _ _ (by kernel_rfl)] at h
    have e : (Rows.laid_internal_strconv_uint64pow10 : DataW Unit) = Lib.tabData .u64 Lib.pow10Tab := by kernel_rfl
    rw [e] at h
    exact Lib.tabIs_of_head (g := 4) (t := 161) (e := 115) (n := 20) (by kernel_rfl) (by kernel_rfl) Tryz.underlying161 Tryz.underlying115 (by kernel_rfl) (by kernel_rfl) h
  · have h := only "strconv.ErrSyntax" Rows.laid_strconv_ErrSyntax hL (by kernel_rfl)
    rw [MakeChecks.laidMetH_plain _ _ _ (by kernel_rfl)] at h
    exact iface_cell h (by kernel_rfl) (by kernel_rfl) Tryz.underlying24
  · have h := only "strconv.ErrRange" Rows.laid_strconv_ErrRange hL (by kernel_rfl)
    rw [MakeChecks.laidMetH_plain _ _ _ (by kernel_rfl)] at h
    exact iface_cell h (by kernel_rfl) (by kernel_rfl) Tryz.underlying24

end Go.Proofs.YtdjpkkppcdmdnaaGreatDoor
