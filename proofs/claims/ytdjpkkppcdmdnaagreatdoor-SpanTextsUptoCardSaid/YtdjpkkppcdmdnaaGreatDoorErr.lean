/- plain.Told, portsame.Error: an error against its number. -/
import Derived.Test.YtdjpkkppcdmdnaaGreatDoorAs
namespace Go.Proofs.YtdjpkkppcdmdnaaGreatDoor
open Go.RowKit

theorem told_nil (w : World) : Calls Tryz.prog 38 #[.nilIface] w fun e w' => e = .returned (.int .i64 0) ∧ Below w.heap.size w w' := by
  go_enter Tryz.func38, Tryz.ntmps38
  go_wp2
  go_ret
  exact ⟨rfl, Below.refl _ _⟩

set_option maxHeartbeats 1000000 in
theorem told_err (k : Int) (w : World) (G : GlobE w) : Calls Tryz.prog 38 #[.iface 51 (.int .i64 k)] w fun e w' => e = .returned (.int .i64 k) ∧ Below w.heap.size w w' := by
  have hA := as_hit k ⟨w.heap.size, 0, none⟩ (.int .i64 0) (w.alloc (.cells #[.int .i64 0] 51)) (keptA _ G.err) (by simp) (by simp)
  have hz : w.heap.size < (w.alloc (.cells #[.int .i64 0] 51)).heap.size := by simp
  go_enter Tryz.func38, Tryz.ntmps38
  go_wp2_with fail
  refine hA.mono ?_
  rintro e w' ⟨rfl, hw⟩
  have hc : w'.cell? ⟨w.heap.size, 0, none⟩ = some (.int .i64 k) := by
    rw [hw]; exact World.cell?_setCell_same _ _ _ (keptA _ (keptA _ (keptA _ (keptA _ (show (w.alloc (.cells #[.int .i64 0] 51)).cell? ⟨w.heap.size, 0, none⟩ = some (.int .i64 0) by simp)))))
  have B := Lib.hid (show Below w.heap.size w w' by
    rw [hw]
    exact ((((((Below.refl w.heap.size w).alloc (Nat.le_refl _) _).alloc (by simp) _).alloc (by simp; omega) _).alloc (by simp; omega) _).alloc (by simp; omega) _).setCell (Nat.le_refl _) _)
  clear hw hA hz
  go_wp2
  go_ret
  exact ⟨rfl, B.out⟩

theorem told_any (k : Int) (w : World) (G : GlobE w) : Calls Tryz.prog 38 #[errV k] w fun e w' => e = .returned (.int .i64 k) ∧ Below w.heap.size w w' := by
  unfold errV
  split
  · rename_i h; subst h; exact told_nil w
  · exact told_err k w G

theorem error_any (k e0 : Int) (w : World) (G : GlobE w) : Calls Tryz.prog 18 #[errV k, .int .i64 e0] w fun e w' => e = .returned (.bool (k == e0)) ∧ Below w.heap.size w w' := by
  have hT := fun w G => told_any k w G
  generalize errV k = v at *
  have HG := Lib.hid G
  clear G
  go_enter Tryz.func18, Tryz.ntmps18
  go_wp2_with (go_at_call 38; refine (hT _ HG.out).mono ?_; rintro e w' ⟨rfl, hb⟩; have B := Lib.hid hb; clear hb)
  go_ret
  exact ⟨rfl, B.out⟩
theorem error_same (k : Int) (w : World) (G : GlobE w) : Calls Tryz.prog 18 #[errV k, .int .i64 k] w fun e w' => e = .returned (.bool true) ∧ Below w.heap.size w w' :=
  (error_any k k w G).mono fun e w' ⟨he, hb⟩ => ⟨by rw [he]; simp, hb⟩

end Go.Proofs.YtdjpkkppcdmdnaaGreatDoor
