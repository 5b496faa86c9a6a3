/-
  Walk: strconv.ParseFloat(s, 64) at a decimal numeral of 19 digits at most: the nearest float.
-/
import Derived.Test.YtlblkajnmdhmdaaGreatDoorZNAt
import Derived.Test.YtlblkajnmdhmdaaGreatDoorZShelf
namespace Go.Proofs.YtlblkajnmdhmdaaGreatDoor
set_option linter.unusedVariables false
open Go.RowKit Lib NR
/-- The tables and variables that reading wants. -/
structure RdTabs (w : World) : Prop where
  p10 : P10 w
  i7 : I7 w
  f10 : F10 w
  size : 16 < w.heap.size
  opt : w.cell? ⟨4, 0, none⟩ = some (.bool true)
  rng : ∃ ev, w.cell? ⟨2, 0, none⟩ = some ev ∧ (ev = .nilIface ∨ ∃ te pe, ev = .iface te pe)
theorem RdTabs.below {w w' : World} (h : RdTabs w) (hb : Below w.heap.size w w') : RdTabs w' := by
  have hs := h.size
  refine ⟨h.p10.below hs hb, h.i7.below hs hb, h.f10.below hs hb, Nat.lt_of_lt_of_le hs hb.size, (hb.cell (p := ⟨4, 0, none⟩) (by show 4 < _; omega)).trans h.opt, ?_⟩
  obtain ⟨ev, h1, h2⟩ := h.rng
  exact ⟨ev, (hb.cell (p := ⟨2, 0, none⟩) (by show 2 < _; omega)).trans h1, h2⟩
/-- A decimal numeral with its value m * 10^X. -/
structure Num (s : ByteArray) (m : Nat) (X : Int) : Prop where
  ex : ∃ (P : Nat) (E : Int), s.size ≤ 1000 ∧ Digs s P ∧ ((P = s.size ∧ E = 0) ∨ ∃ q neg, HasExp s P q neg ∧ E = expI s q neg) ∧ (scan s P).tr = false ∧ (scan s P).m = m ∧ expOf (scan s P) E = X
def PrPost (W : Nat) (w : World) (r : Ending) (w' : World) : Prop := (∃ er, r = .returned (.tuple #[.float .f64 W, er]) ∧ (W < 2047 * 2 ^ 52 → er = .nilIface) ∧ (¬ W < 2047 * 2 ^ 52 → ∃ t v, er = .iface t v)) ∧ Below w.heap.size w w'
set_option maxRecDepth 100000 in
set_option maxHeartbeats 1000000 in
theorem prefix_walk (s : ByteArray) (W : Nat) (er : Value) (w : World) (HAT : Hid (Calls Tryz.prog 148 #[.string s] w fun r w' => r = .returned (.tuple #[.float .f64 W, .int .i64 s.size, er]) ∧ Below w.heap.size w w')) :
    Calls Tryz.prog 108 #[.string s, .int .i64 64] w fun r w' => r = .returned (.tuple #[.float .f64 W, .int .i64 s.size, er]) ∧ Below w.heap.size w w' := by
  go_enter Tryz.func108, Tryz.ntmps108
  go_wp2_with (go_at_call 148; refine HAT.out.mono ?_; rintro r w1 ⟨rfl, hb⟩)
  have HB := hid hb
  clear hb
  go_wp2_with fail
  go_ret3
  exact ⟨rfl, HB.out⟩
set_option maxRecDepth 100000 in
set_option maxHeartbeats 1000000 in
theorem iparse_walk (s : ByteArray) (m : Nat) (X : Int) (w : World) (hN : Num s m X) (hR : RdTabs w) :
    Calls Tryz.prog 77 #[.string s, .int .i64 64] w fun r w' => r = numEnd (NU.wordE m X) ∧ Below w.heap.size w w' := by
  obtain ⟨P, E, hs, hD, hE, htr, hm, hX⟩ := hN.ex
  have hat := atof64_walk s P E w hs hD hE htr hR.p10 hR.i7 hR.f10 hR.size hR.opt
  rw [hm, hX] at hat
  obtain ⟨er, he1, he2⟩ : ∃ er, numEnd (NU.wordE m X) = .returned (.tuple #[.float .f64 (NU.wordE m X), er]) ∧ atofEnd (NU.wordE m X) s.size = .returned (.tuple #[.float .f64 (NU.wordE m X), .int .i64 s.size, er]) := ⟨_, rfl, rfl⟩
  rw [he2] at hat
  rw [he1]
  generalize NU.wordE m X = W at hat ⊢
  have HAT := hid (prefix_walk s W er w (hid hat))
  clear hat he1 he2 hD hE hN hR
  go_enter Tryz.func77, Tryz.ntmps77
  go_wp2_with (go_at_call 108; refine HAT.out.mono ?_; rintro r w1 ⟨rfl, hb⟩)
  have HB := hid hb
  clear hb
  go_wp2_with fail
  go_ret2
  exact ⟨rfl, HB.out⟩
set_option maxRecDepth 100000 in
set_option maxHeartbeats 1000000 in
theorem parse_walk (s : ByteArray) (m : Nat) (X : Int) (w : World) (hN : Num s m X) (hR : RdTabs w) :
    Calls Tryz.prog 49 #[.string s, .int .i64 64] w (PrPost (NU.wordE m X) w) := by
  have hip := iparse_walk s m X w hN hR
  have hsz : s.size ≤ 1000 := by obtain ⟨P, E, hs, _⟩ := hN.ex; exact hs
  obtain ⟨Wd, hWd⟩ : ∃ Wd, NU.wordE m X = Wd := ⟨_, rfl⟩
  rw [hWd] at hip ⊢
  clear hWd hN
  have HR := hid hR
  clear hR
  by_cases hf : Wd < 2047 * 2 ^ 52
  · have he : numEnd Wd = .returned (.tuple #[.float .f64 Wd, .nilIface]) := by unfold numEnd; rw [if_pos hf]
    rw [he] at hip
    have HIP := hid hip
    have HF := hid hf
    clear hip he hf
    go_enter Tryz.func49, Tryz.ntmps49
    go_wp2_with (go_at_call 77; refine HIP.out.mono ?_; rintro r w1 ⟨rfl, hb⟩)
    have HB := hid hb
    clear hb
    go_wp2_with fail
    go_ret2
    exact ⟨⟨_, rfl, fun _ => rfl, fun h => absurd HF.out h⟩, HB.out⟩
  · have he : numEnd Wd = .returned (.tuple #[.float .f64 Wd, .iface 124 (.int .i64 1)]) := by unfold numEnd; rw [if_neg hf]
    rw [he] at hip
    have HIP := hid hip
    have HF := hid hf
    clear hip he hf
    go_enter Tryz.func49, Tryz.ntmps49
    go_wp2_with (go_at_call 77; refine HIP.out.mono ?_; rintro r w1 ⟨rfl, hb⟩)
    have HB := hid hb
    clear hb
    have hrng := (HR.out.below HB.out).rng
    obtain ⟨ev, hv, hev⟩ := hrng
    have hte := fun fn => Tryz.strconv_toError_range fn s 0 64 ev w1 (by omega) hv hev
    go_wp2_with (go_at_call 76; refine (hte _).mono ?_; rintro r w2 ⟨N, rfl, hN1, hN2, hb2⟩)
    go_ret2
    exact ⟨⟨_, rfl, fun h => absurd h HF.out, fun _ => ⟨_, _, rfl⟩⟩, HB.out.trans (hb2.mono HB.out.size)⟩
end Go.Proofs.YtlblkajnmdhmdaaGreatDoor
