/-
  Walk: the library's prescale: the constants of a scaling are read out of the table.
-/
import Derived.Test.YtlblkajnmdhmdaaGreatDoorZNPk
import Derived.Test.YtlblkajnmdhmdaaGreatDoorZNTab
import Derived.Below
namespace Go.Proofs.YtlblkajnmdhmdaaGreatDoor
set_option linter.unusedVariables false
open Go.RowKit Lib
/-- The table of powers of ten lies in its block. -/
def P10 (w : World) : Prop := ∀ i : Nat, i < 696 → w.cell? ⟨15, i * 2, none⟩ = some (.int .u64 (NU.hiI i : Nat)) ∧ w.cell? ⟨15, i * 2 + 1, none⟩ = some (.int .u64 (NU.loI i : Nat))
set_option maxRecDepth 100000 in
theorem prescale_walk (b i : Nat) (e p lp s : Int) (w : World) (hT : P10 w) (hb : b ≠ 15) (hp : p + 348 = i) (hi : i < 696) (hs : -(e + lp + 3) = s) (he : -1000000 ≤ e ∧ e ≤ 1000000) (hlp : -1000000 ≤ lp ∧ lp ≤ 1000000)
    (x0 x1 : Int) (x2 : Int) (c0 : w.cell? ⟨b, 0, none⟩ = some (.int .u64 x0)) (c1 : w.cell? ⟨b, 1, none⟩ = some (.int .u64 x1)) (c2 : w.cell? ⟨b, 2, none⟩ = some (.int .i64 x2))
    (f0 : w.frozen? ⟨b, 0, none⟩ = false) (f1 : w.frozen? ⟨b, 1, none⟩ = false) (f2 : w.frozen? ⟨b, 2, none⟩ = false) :
    Calls Tryz.prog 202 #[.pointer (some ⟨b, 0, none⟩), .int .i64 e, .int .i64 p, .int .i64 lp] w fun r w' => r = .returned (.tuple #[]) ∧
      w' = ((w.setCell ⟨b, 0, none⟩ (.int .u64 (NU.hiI i : Nat))).setCell ⟨b, 1, none⟩ (.int .u64 (NU.loI i : Nat))).setCell ⟨b, 2, none⟩ (.int .i64 s) := by
  obtain ⟨t0, t1⟩ := hT i hi
  obtain rfl : p = (i : Int) - 348 := by omega
  have hx : IntKind.i64.wrap ((i : Int) - 348 - -348) = i := by rw [IntKind.wrap_i64]; omega
  clear hp
  go_enter Tryz.func202, Tryz.ntmps202
  go_wp2
  go_end0
  exact ⟨rfl, rfl⟩
end Go.Proofs.YtlblkajnmdhmdaaGreatDoor
