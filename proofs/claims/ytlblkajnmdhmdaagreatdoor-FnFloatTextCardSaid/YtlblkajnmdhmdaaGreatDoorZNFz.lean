/-
  Walk: the library's ftoa64 at 0, and FormatFloat at the format 'e'.
-/
import Derived.Test.YtlblkajnmdhmdaaGreatDoorZNFt
namespace Go.Proofs.YtlblkajnmdhmdaaGreatDoor
set_option linter.unusedVariables false
open Go.RowKit Lib
set_option maxRecDepth 100000 in
set_option maxHeartbeats 4000000 in
theorem ftoa_zero (B g : Nat) (w : World) (hst : St w w B g []) :
    Calls Tryz.prog 133 #[.slice (some ⟨g, 0, none⟩) 0 24, .float .f64 0, .int .u8 101, .int .i64 0] w (EfPost w B g [48, 101, 43, 48, 48]) := by
  have HEXP := hid (exp_at (u := 0) (by decide))
  have HMAN := hid (man_at (u := 0) (by decide))
  have HST := hid hst
  clear hst
  go_enter Tryz.func133, Tryz.ntmps133
  go_wp2_with fail
  rw [bits_run]
  go_simp
  go_wp2_with fail
  go_quiet (fail)
  go_upto_region 16 with fail
  go_wp2_with fail
  have hbd : Below w.heap.size w (w.drewN nq) := below_drewN (Below.refl _ _) _
  refine (efg_zero B g _ (st_moved HST.out hbd)).mono ?_
  intro r w' hp
  have hp2 := post_moved hbd hp
  obtain ⟨rfl, hp3⟩ := hp2
  have HP := hid hp3
  clear hp hp3 hbd
  go_wp2_with fail
  go_ret
  exact ⟨rfl, HP.out⟩
end Go.Proofs.YtlblkajnmdhmdaaGreatDoor
