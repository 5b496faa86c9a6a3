/-
  Walk: strconv.ParseFloat(s, 64) at a decimal numeral of 19 digits at most: the nearest float.
-/
import Derived.Test.YtlblkajnmdhmdaaGreatDoorZNAt
import Derived.Test.YtlblkajnmdhmdaaGreatDoorZShelf
namespace Go.Proofs.YtlblkajnmdhmdaaGreatDoor
set_option linter.unusedVariables false
open Go.RowKit Lib NR
/-- The tables and variables that reading wants. -/
structure RdTabs (w : World) : Prop where
 p10 : P10 w
 i7 : I7 w
 f10 : F10 w
 size : 16 < w.heap.size
 opt : w.cell? ⟨4, 0, none⟩ = some (.bool true)
 rng : ∃ ev, w.cell? ⟨2, 0, none⟩ = some ev ∧ (ev = .nilIface ∨ ∃ te pe, ev = .iface te pe)
theorem RdTabs.below {w w' : World} (h : RdTabs w) (hb : Below w.heap.size w w') : RdTabs w' := by
 have hs := h.size;refine ⟨h.p10.below hs hb, h.i7.below hs hb, h.f10.below hs hb, Nat.lt_of_lt_of_le hs hb.size, (hb.cell (p := ⟨4, 0, none⟩) (by show 4 < _; omega)).trans h.opt, ?_⟩;obtain ⟨ev, h1, h2⟩ := h.rng;exact ⟨ev, (hb.cell (p := ⟨2, 0, none⟩) (by show 2 < _; omega)).trans h1, h2⟩
/-- A decimal numeral with its value m * 10^X. -/
structure Num (s : ByteArray) (m : Nat) (X : Int) : Prop where
 ex : ∃ (P : Nat) (E : Int), s.size ≤ 1000 ∧ Digs s P ∧ ((P = s.size ∧ E = 0) ∨ ∃ q neg, HasExp s P q neg ∧ E = expI s q neg) ∧ (scan s P).tr = false ∧ (scan s P).m = m ∧ expOf (scan s P) E = X
def PrPost (W : Nat) (w : World) (r : Ending) (w' : World) : Prop := (∃ er, r = .returned (.tuple #[.float .f64 W, er]) ∧ (W < 2047 * 2 ^ 52 → er = .nilIface) ∧ (¬ W < 2047 * 2 ^ 52 → ∃ t v, er = .iface t v)) ∧ Below w.heap.size w w'
set_option maxRecDepth 100000 in
set_option maxHeartbeats 1000000 in
theorem prefix_walk (s : ByteArray) (W : Nat) (er : Value) (w : World) (HAT : Hid (Calls Tryz.prog 148 #[.string s] w fun r w' => r = .returned (.tuple #[.float .f64 W, .int .i64 s.size, er]) ∧ Below w.heap.size w w')) :
  Calls Tryz.prog 108 #[.string s, .int .i64 64] w fun r w' => r = .returned (.tuple #[.float .f64 W, .int .i64 s.size, er]) ∧ Below w.heap.size w w' := by
 go_enter Tryz.func108, Tryz.ntmps108
 go_wp2_with (go_at_call 148; refine HAT.out.mono ?_; rintro r w1 ⟨rfl, hb⟩)
 have HB := hid hb;clear hb
 go_wp2_with fail
 go_ret3
 exact ⟨rfl, HB.out⟩
end Go.Proofs.YtlblkajnmdhmdaaGreatDoor
