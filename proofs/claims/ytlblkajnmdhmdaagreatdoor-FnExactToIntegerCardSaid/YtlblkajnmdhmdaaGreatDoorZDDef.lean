/-
  Walk (printed by the kit's print for this claim; the functions that the print of FormatNumber has already are left out): ParseNumber of the reference.
-/
import Derived.Test.YtlblkajnmdhmdaaGreatDoorZPFormatNumberx5
namespace Go.Proofs.YtlblkajnmdhmdaaGreatDoor.PFormatNumber
open Go.RowKit Go.Proofs.YtlblkajnmdhmdaaGreatDoorW.PrintWords Go.Proofs.YtlblkajnmdhmdaaGreatDoorW.PrintLast Go.Proofs.YtlblkajnmdhmdaaGreatDoorW.PrintMore
attribute [local go_sem] max2_int min2_int max_two min_two max_three min_three max_four min_four
set_option linter.unusedVariables false
set_option linter.unusedSimpArgs false
def spec_l01Int.f (a0 : Int) : Option (Bool × Int × Int) := some (false, a0, 0)
def spec_l01Digit.f (a0 : Int) : Option (Bool) := if a0 ≥ 48 then (some (decide (a0 ≤ 57))) else (some false)
def spec_l01HexDigit.j0 : Nat → Int → Bool → Option (Int)
 | 0, _, _ => none
 | k + 1, x0, x9 => if x9 = true then (some (wrap64 ((wrap64 ((wrap64 (x0)) - 97)) + 10))) else (if x0 ≥ 65 then (if x0 ≤ 70 then (some (wrap64 ((wrap64 ((wrap64 (x0)) - 65)) + 10))) else (some (-1))) else (some (-1)))
def spec_l01HexDigit.f (k : Nat) (a0 : Int) : Option (Int) := (spec_l01Digit.f a0).bind fun t102 => (if t102 = true then (some (wrap64 ((wrap64 (a0)) - 48))) else (if a0 ≥ 97 then (spec_l01HexDigit.j0 k a0 (decide (a0 ≤ 102))) else (spec_l01HexDigit.j0 k a0 false)))
theorem spec_l01HexDigit.mono_l : ∀ k, (∀ y0 y1, LeO (spec_l01HexDigit.j0 k y0 y1) (spec_l01HexDigit.j0 (k + 1) y0 y1))
 | 0 => fun _ _ r h => by simp [spec_l01HexDigit.j0] at h
 | k + 1 => by
  have ih0 := spec_l01HexDigit.mono_l k
  ·intro y0 y1;unfold spec_l01HexDigit.j0
   repeat' first
   | (with_reducible exact ih0 _ _)
   | (with_reducible exact LeO.refl _)
   | (with_reducible exact LeO.none _)
   | (with_reducible refine LeO.ite ?_ ?_)
   | (with_reducible refine LeO.bind ?_ (fun _ => ?_))
   | exact ih0 _ _
   | exact LeO.none _
   | refine LeO.ite ?_ ?_
   | refine LeO.bind ?_ (fun _ => ?_)
theorem spec_l01HexDigit.mono : ∀ a0 k, LeO (spec_l01HexDigit.f k a0) (spec_l01HexDigit.f (k + 1) a0) := by
 intro a0 k;have ih0 := spec_l01HexDigit.mono_l k;unfold spec_l01HexDigit.f
 repeat' first
   | (with_reducible exact ih0 _ _)
   | (with_reducible exact LeO.refl _)
   | (with_reducible exact LeO.none _)
   | (with_reducible refine LeO.ite ?_ ?_)
   | (with_reducible refine LeO.bind ?_ (fun _ => ?_))
   | exact ih0 _ _
   | exact LeO.none _
   | refine LeO.ite ?_ ?_
   | refine LeO.bind ?_ (fun _ => ?_)
def spec_l01Hex.l0 : Nat → ByteArray → Int → Int → Option (Bool × Int × Int × Bool)
 | 0, _, _, _ => none
 | k + 1, x0, x4, x5 => if x5 < (x0.size : Int) then (if 0 ≤ x5 then ((spec_l01HexDigit.f k (bt x0 x5)).bind fun t104 => (if t104 < 0 then (some (false, 0, 0, false)) else (spec_l01Hex.l0 k x0 (wrap64 ((wrap64 (x4 * 16)) + t104)) (wrap64 (x5 + 1))))) else (none)) else ((spec_l01Int.f x4).bind fun bt105 => (some (bt105.1, bt105.2.1, bt105.2.2, decide ((x0.size : Int) > 0))))
def spec_l01Hex.f (k : Nat) (a0 : ByteArray) : Option (Bool × Int × Int × Bool) := spec_l01Hex.l0 k a0 0 0
theorem spec_l01Hex.mono_l : ∀ k, (∀ y0 y1 y2, LeO (spec_l01Hex.l0 k y0 y1 y2) (spec_l01Hex.l0 (k + 1) y0 y1 y2))
 | 0 => fun _ _ _ r h => by simp [spec_l01Hex.l0] at h
 | k + 1 => by
  have ih0 := spec_l01Hex.mono_l k
  ·intro y0 y1 y2;unfold spec_l01Hex.l0
   repeat' first
   | (with_reducible exact ih0 _ _ _)
   | (with_reducible exact spec_l01HexDigit.mono _ _)
   | (with_reducible exact LeO.refl _)
   | (with_reducible exact LeO.none _)
   | (with_reducible refine LeO.ite ?_ ?_)
   | (with_reducible refine LeO.bind ?_ (fun _ => ?_))
   | exact ih0 _ _ _
   | exact spec_l01HexDigit.mono _ _
   | exact LeO.none _
   | refine LeO.ite ?_ ?_
   | refine LeO.bind ?_ (fun _ => ?_)
theorem spec_l01Hex.mono : ∀ a0 k, LeO (spec_l01Hex.f k a0) (spec_l01Hex.f (k + 1) a0) := by
 intro a0 k;have ih0 := spec_l01Hex.mono_l k;unfold spec_l01Hex.f
 repeat' first
   | (with_reducible exact ih0 _ _ _)
   | (with_reducible exact spec_l01HexDigit.mono _ _)
   | (with_reducible exact LeO.refl _)
   | (with_reducible exact LeO.none _)
   | (with_reducible refine LeO.ite ?_ ?_)
   | (with_reducible refine LeO.bind ?_ (fun _ => ?_))
   | exact ih0 _ _ _
   | exact spec_l01HexDigit.mono _ _
   | exact LeO.none _
   | refine LeO.ite ?_ ?_
   | refine LeO.bind ?_ (fun _ => ?_)
def spec_l01Whole.l0 : Nat → Int → List Int → Int → Int → Option (Int × Bool)
 | 0, _, _, _, _ => none
 | k + 1, x4, x8, x9, x10 => if x10 < x9 then (if 0 ≤ x10 then (if x10 < (x8.length : Int) then (if x4 > (wrap64 (Int.tdiv (wrap64 (9223372036854775807 - (wrap64 ((wrap64 (rd x8 x10)) - 48)))) 10)) then (some (0, false)) else (spec_l01Whole.l0 k (wrap64 ((wrap64 (x4 * 10)) + (wrap64 ((wrap64 (rd x8 x10)) - 48)))) x8 x9 (wrap64 (x10 + 1)))) else (none)) else (none)) else (some (x4, true))
def spec_l01Whole.f (k : Nat) (l0 : List Int) : Option (Int × Bool) := spec_l01Whole.l0 k 0 l0 (l0.length : Int) 0
theorem spec_l01Whole.mono_l : ∀ k, (∀ y0 y1 y2 y3, LeO (spec_l01Whole.l0 k y0 y1 y2 y3) (spec_l01Whole.l0 (k + 1) y0 y1 y2 y3))
 | 0 => fun _ _ _ _ r h => by simp [spec_l01Whole.l0] at h
 | k + 1 => by
  have ih0 := spec_l01Whole.mono_l k
  ·intro y0 y1 y2 y3;unfold spec_l01Whole.l0
   repeat' first
   | (with_reducible exact ih0 _ _ _ _)
   | (with_reducible exact LeO.refl _)
   | (with_reducible exact LeO.none _)
   | (with_reducible refine LeO.ite ?_ ?_)
   | (with_reducible refine LeO.bind ?_ (fun _ => ?_))
   | exact ih0 _ _ _ _
   | exact LeO.none _
   | refine LeO.ite ?_ ?_
   | refine LeO.bind ?_ (fun _ => ?_)
theorem spec_l01Whole.mono : ∀ a0 k, LeO (spec_l01Whole.f k a0) (spec_l01Whole.f (k + 1) a0) := by
 intro a0 k;have ih0 := spec_l01Whole.mono_l k;unfold spec_l01Whole.f
 repeat' first
   | (with_reducible exact ih0 _ _ _ _)
   | (with_reducible exact LeO.refl _)
   | (with_reducible exact LeO.none _)
   | (with_reducible refine LeO.ite ?_ ?_)
   | (with_reducible refine LeO.bind ?_ (fun _ => ?_))
   | exact ih0 _ _ _ _
   | exact LeO.none _
   | refine LeO.ite ?_ ?_
   | refine LeO.bind ?_ (fun _ => ?_)
end Go.Proofs.YtlblkajnmdhmdaaGreatDoor.PFormatNumber
namespace Go.Proofs.YtlblkajnmdhmdaaGreatDoor.PFormatNumber
open Go.RowKit Go.Proofs.YtlblkajnmdhmdaaGreatDoorW.PrintWords Go.Proofs.YtlblkajnmdhmdaaGreatDoorW.PrintLast Go.Proofs.YtlblkajnmdhmdaaGreatDoorW.PrintMore
attribute [local go_sem] max2_int min2_int max_two min_two max_three min_three max_four min_four
set_option linter.unusedVariables false
set_option linter.unusedSimpArgs false
mutual
def spec_l01Exponent.j0 : Nat → ByteArray → Bool → Option (Int × Bool)
 | 0, _, _ => none
 | k + 1, x0, x15 => if x15 = true then (some (0, false)) else (if 1 ≤ (x0.size : Int) then (if ((x0.extract 1 x0.size).size : Int) > 0 then (if 0 < ((x0.extract 1 x0.size).size : Int) then (spec_l01Exponent.j1 k (x0.extract 1 x0.size) ((bt (x0.extract 1 x0.size) 0) == 45)) else (none)) else (spec_l01Exponent.j1 k (x0.extract 1 x0.size) false)) else (none))
def spec_l01Exponent.j1 : Nat → ByteArray → Bool → Option (Int × Bool)
 | 0, _, _ => none
 | k + 1, x4, x5 => if x5 = true then (spec_l01Exponent.j2 k x4 x5 true) else (if (x4.size : Int) > 0 then (if 0 < (x4.size : Int) then (spec_l01Exponent.j2 k x4 x5 ((bt x4 0) == 43)) else (none)) else (spec_l01Exponent.j2 k x4 x5 false))
def spec_l01Exponent.j2 : Nat → ByteArray → Bool → Bool → Option (Int × Bool)
 | 0, _, _, _ => none
 | k + 1, x4, x5, x36 => if x36 = true then (if 1 ≤ (x4.size : Int) then (spec_l01Exponent.j3 k (x4.extract 1 x4.size) x5) else (none)) else (spec_l01Exponent.j3 k x4 x5)
def spec_l01Exponent.j3 : Nat → ByteArray → Bool → Option (Int × Bool)
 | 0, _, _ => none
 | k + 1, x4, x5 => if (x4.size : Int) < 1 then (spec_l01Exponent.j4 k x4 x5 true) else (spec_l01Exponent.j4 k x4 x5 (decide ((x4.size : Int) > 3)))
def spec_l01Exponent.j4 : Nat → ByteArray → Bool → Bool → Option (Int × Bool)
 | 0, _, _, _ => none
 | k + 1, x4, x5, x46 => if x46 = true then (some (0, false)) else (spec_l01Exponent.l0 k x4 x5 0 0)
def spec_l01Exponent.l0 : Nat → ByteArray → Bool → Int → Int → Option (Int × Bool)
 | 0, _, _, _, _ => none
 | k + 1, x4, x5, x6, x7 => if x7 < (x4.size : Int) then (if 0 ≤ x7 then ((spec_l01Digit.f (bt x4 x7)).bind fun t109 => (if t109 = true then (spec_l01Exponent.l0 k x4 x5 (wrap64 ((wrap64 ((wrap64 (x6 * 10)) + (wrap64 (bt x4 x7)))) - 48)) (wrap64 (x7 + 1))) else (some (0, false)))) else (none)) else (if x5 = true then (some (wrap64 (-x6), true)) else (some (x6, true)))
end
def spec_l01Exponent.f (k : Nat) (a0 : ByteArray) : Option (Int × Bool) := if 0 < (a0.size : Int) then (if (bt a0 0) = 101 then (spec_l01Exponent.j0 k a0 false) else (spec_l01Exponent.j0 k a0 ((bt a0 0) != 69))) else (none)
theorem spec_l01Exponent.mono_l : ∀ k, (∀ y0 y1, LeO (spec_l01Exponent.j0 k y0 y1) (spec_l01Exponent.j0 (k + 1) y0 y1)) ∧ (∀ y0 y1, LeO (spec_l01Exponent.j1 k y0 y1) (spec_l01Exponent.j1 (k + 1) y0 y1)) ∧ (∀ y0 y1 y2, LeO (spec_l01Exponent.j2 k y0 y1 y2) (spec_l01Exponent.j2 (k + 1) y0 y1 y2)) ∧ (∀ y0 y1, LeO (spec_l01Exponent.j3 k y0 y1) (spec_l01Exponent.j3 (k + 1) y0 y1)) ∧ (∀ y0 y1 y2, LeO (spec_l01Exponent.j4 k y0 y1 y2) (spec_l01Exponent.j4 (k + 1) y0 y1 y2)) ∧ (∀ y0 y1 y2 y3, LeO (spec_l01Exponent.l0 k y0 y1 y2 y3) (spec_l01Exponent.l0 (k + 1) y0 y1 y2 y3))
 | 0 => ⟨fun _ _ r h => by simp [spec_l01Exponent.j0] at h, fun _ _ r h => by simp [spec_l01Exponent.j1] at h, fun _ _ _ r h => by simp [spec_l01Exponent.j2] at h, fun _ _ r h => by simp [spec_l01Exponent.j3] at h, fun _ _ _ r h => by simp [spec_l01Exponent.j4] at h, fun _ _ _ _ r h => by simp [spec_l01Exponent.l0] at h⟩
 | k + 1 => by
  obtain ⟨ih0, ih1, ih2, ih3, ih4, ih5⟩ := spec_l01Exponent.mono_l k;refine ⟨?_, ?_, ?_, ?_, ?_, ?_⟩
  ·intro y0 y1;unfold spec_l01Exponent.j0
   repeat' first
   | (with_reducible exact ih0 _ _)
   | (with_reducible exact ih1 _ _)
   | (with_reducible exact ih2 _ _ _)
   | (with_reducible exact ih3 _ _)
   | (with_reducible exact ih4 _ _ _)
   | (with_reducible exact ih5 _ _ _ _)
   | (with_reducible exact LeO.refl _)
   | (with_reducible exact LeO.none _)
   | (with_reducible refine LeO.ite ?_ ?_)
   | (with_reducible refine LeO.bind ?_ (fun _ => ?_))
   | exact ih0 _ _
   | exact ih1 _ _
   | exact ih2 _ _ _
   | exact ih3 _ _
   | exact ih4 _ _ _
   | exact ih5 _ _ _ _
   | exact LeO.none _
   | refine LeO.ite ?_ ?_
   | refine LeO.bind ?_ (fun _ => ?_)
  ·intro y0 y1;unfold spec_l01Exponent.j1
   repeat' first
   | (with_reducible exact ih0 _ _)
   | (with_reducible exact ih1 _ _)
   | (with_reducible exact ih2 _ _ _)
   | (with_reducible exact ih3 _ _)
   | (with_reducible exact ih4 _ _ _)
   | (with_reducible exact ih5 _ _ _ _)
   | (with_reducible exact LeO.refl _)
   | (with_reducible exact LeO.none _)
   | (with_reducible refine LeO.ite ?_ ?_)
   | (with_reducible refine LeO.bind ?_ (fun _ => ?_))
   | exact ih0 _ _
   | exact ih1 _ _
   | exact ih2 _ _ _
   | exact ih3 _ _
   | exact ih4 _ _ _
   | exact ih5 _ _ _ _
   | exact LeO.none _
   | refine LeO.ite ?_ ?_
   | refine LeO.bind ?_ (fun _ => ?_)
  ·intro y0 y1 y2;unfold spec_l01Exponent.j2
   repeat' first
   | (with_reducible exact ih0 _ _)
   | (with_reducible exact ih1 _ _)
   | (with_reducible exact ih2 _ _ _)
   | (with_reducible exact ih3 _ _)
   | (with_reducible exact ih4 _ _ _)
   | (with_reducible exact ih5 _ _ _ _)
   | (with_reducible exact LeO.refl _)
   | (with_reducible exact LeO.none _)
   | (with_reducible refine LeO.ite ?_ ?_)
   | (with_reducible refine LeO.bind ?_ (fun _ => ?_))
   | exact ih0 _ _
   | exact ih1 _ _
   | exact ih2 _ _ _
   | exact ih3 _ _
   | exact ih4 _ _ _
   | exact ih5 _ _ _ _
   | exact LeO.none _
   | refine LeO.ite ?_ ?_
   | refine LeO.bind ?_ (fun _ => ?_)
  ·intro y0 y1;unfold spec_l01Exponent.j3
   repeat' first
   | (with_reducible exact ih0 _ _)
   | (with_reducible exact ih1 _ _)
   | (with_reducible exact ih2 _ _ _)
   | (with_reducible exact ih3 _ _)
   | (with_reducible exact ih4 _ _ _)
   | (with_reducible exact ih5 _ _ _ _)
   | (with_reducible exact LeO.refl _)
   | (with_reducible exact LeO.none _)
   | (with_reducible refine LeO.ite ?_ ?_)
   | (with_reducible refine LeO.bind ?_ (fun _ => ?_))
   | exact ih0 _ _
   | exact ih1 _ _
   | exact ih2 _ _ _
   | exact ih3 _ _
   | exact ih4 _ _ _
   | exact ih5 _ _ _ _
   | exact LeO.none _
   | refine LeO.ite ?_ ?_
   | refine LeO.bind ?_ (fun _ => ?_)
  ·intro y0 y1 y2;unfold spec_l01Exponent.j4
   repeat' first
   | (with_reducible exact ih0 _ _)
   | (with_reducible exact ih1 _ _)
   | (with_reducible exact ih2 _ _ _)
   | (with_reducible exact ih3 _ _)
   | (with_reducible exact ih4 _ _ _)
   | (with_reducible exact ih5 _ _ _ _)
   | (with_reducible exact LeO.refl _)
   | (with_reducible exact LeO.none _)
   | (with_reducible refine LeO.ite ?_ ?_)
   | (with_reducible refine LeO.bind ?_ (fun _ => ?_))
   | exact ih0 _ _
   | exact ih1 _ _
   | exact ih2 _ _ _
   | exact ih3 _ _
   | exact ih4 _ _ _
   | exact ih5 _ _ _ _
   | exact LeO.none _
   | refine LeO.ite ?_ ?_
   | refine LeO.bind ?_ (fun _ => ?_)
  ·intro y0 y1 y2 y3;unfold spec_l01Exponent.l0
   repeat' first
   | (with_reducible exact ih0 _ _)
   | (with_reducible exact ih1 _ _)
   | (with_reducible exact ih2 _ _ _)
   | (with_reducible exact ih3 _ _)
   | (with_reducible exact ih4 _ _ _)
   | (with_reducible exact ih5 _ _ _ _)
   | (with_reducible exact LeO.refl _)
   | (with_reducible exact LeO.none _)
   | (with_reducible refine LeO.ite ?_ ?_)
   | (with_reducible refine LeO.bind ?_ (fun _ => ?_))
   | exact ih0 _ _
   | exact ih1 _ _
   | exact ih2 _ _ _
   | exact ih3 _ _
   | exact ih4 _ _ _
   | exact ih5 _ _ _ _
   | exact LeO.none _
   | refine LeO.ite ?_ ?_
   | refine LeO.bind ?_ (fun _ => ?_)
theorem spec_l01Exponent.mono : ∀ a0 k, LeO (spec_l01Exponent.f k a0) (spec_l01Exponent.f (k + 1) a0) := by
 intro a0 k;obtain ⟨ih0, ih1, ih2, ih3, ih4, ih5⟩ := spec_l01Exponent.mono_l k;unfold spec_l01Exponent.f
 repeat' first
   | (with_reducible exact ih0 _ _)
   | (with_reducible exact ih1 _ _)
   | (with_reducible exact ih2 _ _ _)
   | (with_reducible exact ih3 _ _)
   | (with_reducible exact ih4 _ _ _)
   | (with_reducible exact ih5 _ _ _ _)
   | (with_reducible exact LeO.refl _)
   | (with_reducible exact LeO.none _)
   | (with_reducible refine LeO.ite ?_ ?_)
   | (with_reducible refine LeO.bind ?_ (fun _ => ?_))
   | exact ih0 _ _
   | exact ih1 _ _
   | exact ih2 _ _ _
   | exact ih3 _ _
   | exact ih4 _ _ _
   | exact ih5 _ _ _ _
   | exact LeO.none _
   | refine LeO.ite ?_ ?_
   | refine LeO.bind ?_ (fun _ => ?_)
end Go.Proofs.YtlblkajnmdhmdaaGreatDoor.PFormatNumber
namespace Go.Proofs.YtlblkajnmdhmdaaGreatDoor.PFormatNumber
open Go.RowKit Go.Proofs.YtlblkajnmdhmdaaGreatDoorW.PrintWords Go.Proofs.YtlblkajnmdhmdaaGreatDoorW.PrintLast Go.Proofs.YtlblkajnmdhmdaaGreatDoorW.PrintMore
attribute [local go_sem] max2_int min2_int max_two min_two max_three min_three max_four min_four
set_option linter.unusedVariables false
set_option linter.unusedSimpArgs false
def spec_l01Float.f (a0 : Int) : Option (Bool × Int × Int) := (spec_l01IsNan.f a0).bind fun t232 => (if t232 = true then (some (true, 0, 9221120237041090560)) else (some (true, 0, a0)))
end Go.Proofs.YtlblkajnmdhmdaaGreatDoor.PFormatNumber
namespace Go.Proofs.YtlblkajnmdhmdaaGreatDoor.PFormatNumber
open Go.RowKit Go.Proofs.YtlblkajnmdhmdaaGreatDoorW.PrintWords Go.Proofs.YtlblkajnmdhmdaaGreatDoorW.PrintLast Go.Proofs.YtlblkajnmdhmdaaGreatDoorW.PrintMore
attribute [local go_sem] max2_int min2_int max_two min_two max_three min_three max_four min_four
set_option linter.unusedVariables false
set_option linter.unusedSimpArgs false
mutual
def spec_ParseNumber.j0 : Nat → ByteArray → Bool → Option (Bool × Int × Int × Bool)
 | 0, _, _ => none
 | k + 1, x0, x35 => if x35 = true then (if 2 ≤ (x0.size : Int) then ((spec_l01Hex.f k (x0.extract 2 x0.size)).bind fun bt234 => (some (bt234.1, bt234.2.1, bt234.2.2.1, bt234.2.2.2))) else (none)) else (spec_ParseNumber.l0 k x0 (([] : List Int)) 0 0 0)
def spec_ParseNumber.l0 : Nat → ByteArray → List Int → Int → Int → Int → Option (Bool × Int × Int × Bool)
 | 0, _, _, _, _, _ => none
 | k + 1, x0, x4, x5, x6, x7 => if x7 < (x0.size : Int) then (if 0 ≤ x7 then ((spec_l01Digit.f (bt x0 x7)).bind fun t241 => (if t241 = true then (spec_ParseNumber.j2 k x0 x4 x5 x6 x7 true) else (spec_ParseNumber.j2 k x0 x4 x5 x6 x7 ((bt x0 x7) == 46)))) else (none)) else (spec_ParseNumber.j2 k x0 x4 x5 x6 x7 false)
def spec_ParseNumber.j2 : Nat → ByteArray → List Int → Int → Int → Int → Bool → Option (Bool × Int × Int × Bool)
 | 0, _, _, _, _, _, _ => none
 | k + 1, x0, x4, x5, x6, x7, x57 => if x57 = true then (if 0 ≤ x7 then (if x7 < (x0.size : Int) then (if (bt x0 x7) = 46 then (spec_ParseNumber.l0 k x0 x4 x5 (wrap64 (x6 + 1)) (wrap64 (x7 + 1))) else (if x4.length < 140737488355328 then (spec_ParseNumber.l0 k x0 (x4 ++ [bt x0 x7]) (wrap64 (x5 + x6)) x6 (wrap64 (x7 + 1))) else (none))) else (none)) else (none)) else (if (x4.length : Int) = 0 then (spec_ParseNumber.j3 k x0 x4 x5 x6 x7 true) else (spec_ParseNumber.j3 k x0 x4 x5 x6 x7 (decide (x6 > 1))))
def spec_ParseNumber.j3 : Nat → ByteArray → List Int → Int → Int → Int → Bool → Option (Bool × Int × Int × Bool)
 | 0, _, _, _, _, _, _ => none
 | k + 1, x0, x4, x5, x6, x7, x81 => if x81 = true then (some (false, 0, 0, false)) else (if x7 = (x0.size : Int) then (spec_ParseNumber.j4 k x0 x4 x5 x7 (x6 == 0)) else (spec_ParseNumber.j4 k x0 x4 x5 x7 false))
def spec_ParseNumber.j4 : Nat → ByteArray → List Int → Int → Int → Bool → Option (Bool × Int × Int × Bool)
 | 0, _, _, _, _, _ => none
 | k + 1, x0, x4, x5, x7, x90 => if x90 = true then ((spec_l01Whole.f k x4).bind fun bt245 => (if bt245.2 = true then ((spec_l01Int.f bt245.1).bind fun bt247 => (some (bt247.1, bt247.2.1, bt247.2.2, true))) else (spec_ParseNumber.j5 k x0 x4 x5 x7))) else (spec_ParseNumber.j5 k x0 x4 x5 x7)
def spec_ParseNumber.j5 : Nat → ByteArray → List Int → Int → Int → Option (Bool × Int × Int × Bool)
 | 0, _, _, _, _ => none
 | k + 1, x0, x4, x5, x7 => if x7 < (x0.size : Int) then (if 0 ≤ x7 then (if x7 ≤ (x0.size : Int) then ((spec_l01Exponent.f k (x0.extract (x7 : Int).toNat x0.size)).bind fun bt250 => (if bt250.2 = true then (spec_ParseNumber.j6 k x4 x5 bt250.1) else (some (false, 0, 0, false)))) else (none)) else (none)) else (spec_ParseNumber.j6 k x4 x5 0)
def spec_ParseNumber.j6 : Nat → List Int → Int → Int → Option (Bool × Int × Int × Bool)
 | 0, _, _, _ => none
 | k + 1, x4, x5, x10 => (spec_l01Nearest.f k x4 (wrap64 (x10 - x5))).bind fun bt252 => (if bt252.2 = true then ((spec_l01Float.f bt252.1).bind fun bt254 => (some (bt254.1, bt254.2.1, bt254.2.2, true))) else (some (false, 0, 0, false)))
end
def spec_ParseNumber.f (k : Nat) (a0 : ByteArray) : Option (Bool × Int × Int × Bool) := if (a0.size : Int) > 100 then (some (false, 0, 0, false)) else (if (a0.size : Int) > 1 then (if 0 < (a0.size : Int) then (if (bt a0 0) = 48 then (if 1 < (a0.size : Int) then (if (bt a0 1) = 120 then (spec_ParseNumber.j0 k a0 true) else (spec_ParseNumber.j0 k a0 ((bt a0 1) == 88))) else (none)) else (spec_ParseNumber.j0 k a0 false)) else (none)) else (spec_ParseNumber.j0 k a0 false))
theorem spec_ParseNumber.mono_l : ∀ k, (∀ y0 y1, LeO (spec_ParseNumber.j0 k y0 y1) (spec_ParseNumber.j0 (k + 1) y0 y1)) ∧ (∀ y0 y1 y2 y3 y4, LeO (spec_ParseNumber.l0 k y0 y1 y2 y3 y4) (spec_ParseNumber.l0 (k + 1) y0 y1 y2 y3 y4)) ∧ (∀ y0 y1 y2 y3 y4 y5, LeO (spec_ParseNumber.j2 k y0 y1 y2 y3 y4 y5) (spec_ParseNumber.j2 (k + 1) y0 y1 y2 y3 y4 y5)) ∧ (∀ y0 y1 y2 y3 y4 y5, LeO (spec_ParseNumber.j3 k y0 y1 y2 y3 y4 y5) (spec_ParseNumber.j3 (k + 1) y0 y1 y2 y3 y4 y5)) ∧ (∀ y0 y1 y2 y3 y4, LeO (spec_ParseNumber.j4 k y0 y1 y2 y3 y4) (spec_ParseNumber.j4 (k + 1) y0 y1 y2 y3 y4)) ∧ (∀ y0 y1 y2 y3, LeO (spec_ParseNumber.j5 k y0 y1 y2 y3) (spec_ParseNumber.j5 (k + 1) y0 y1 y2 y3)) ∧ (∀ y0 y1 y2, LeO (spec_ParseNumber.j6 k y0 y1 y2) (spec_ParseNumber.j6 (k + 1) y0 y1 y2))
 | 0 => ⟨fun _ _ r h => by simp [spec_ParseNumber.j0] at h, fun _ _ _ _ _ r h => by simp [spec_ParseNumber.l0] at h, fun _ _ _ _ _ _ r h => by simp [spec_ParseNumber.j2] at h, fun _ _ _ _ _ _ r h => by simp [spec_ParseNumber.j3] at h, fun _ _ _ _ _ r h => by simp [spec_ParseNumber.j4] at h, fun _ _ _ _ r h => by simp [spec_ParseNumber.j5] at h, fun _ _ _ r h => by simp [spec_ParseNumber.j6] at h⟩
 | k + 1 => by
  obtain ⟨ih0, ih1, ih2, ih3, ih4, ih5, ih6⟩ := spec_ParseNumber.mono_l k;refine ⟨?_, ?_, ?_, ?_, ?_, ?_, ?_⟩
  ·intro y0 y1;unfold spec_ParseNumber.j0
   repeat' first
   | (with_reducible exact ih0 _ _)
   | (with_reducible exact ih1 _ _ _ _ _)
   | (with_reducible exact ih2 _ _ _ _ _ _)
   | (with_reducible exact ih3 _ _ _ _ _ _)
   | (with_reducible exact ih4 _ _ _ _ _)
   | (with_reducible exact ih5 _ _ _ _)
   | (with_reducible exact ih6 _ _ _)
   | (with_reducible exact spec_l01Exponent.mono _ _)
   | (with_reducible exact spec_l01Hex.mono _ _)
   | (with_reducible exact spec_l01Nearest.mono _ _ _)
   | (with_reducible exact spec_l01Whole.mono _ _)
   | (with_reducible exact LeO.refl _)
   | (with_reducible exact LeO.none _)
   | (with_reducible refine LeO.ite ?_ ?_)
   | (with_reducible refine LeO.bind ?_ (fun _ => ?_))
   | exact ih0 _ _
   | exact ih1 _ _ _ _ _
   | exact ih2 _ _ _ _ _ _
   | exact ih3 _ _ _ _ _ _
   | exact ih4 _ _ _ _ _
   | exact ih5 _ _ _ _
   | exact ih6 _ _ _
   | exact spec_l01Exponent.mono _ _
   | exact spec_l01Hex.mono _ _
   | exact spec_l01Nearest.mono _ _ _
   | exact spec_l01Whole.mono _ _
   | exact LeO.none _
   | refine LeO.ite ?_ ?_
   | refine LeO.bind ?_ (fun _ => ?_)
  ·intro y0 y1 y2 y3 y4;unfold spec_ParseNumber.l0
   repeat' first
   | (with_reducible exact ih0 _ _)
   | (with_reducible exact ih1 _ _ _ _ _)
   | (with_reducible exact ih2 _ _ _ _ _ _)
   | (with_reducible exact ih3 _ _ _ _ _ _)
   | (with_reducible exact ih4 _ _ _ _ _)
   | (with_reducible exact ih5 _ _ _ _)
   | (with_reducible exact ih6 _ _ _)
   | (with_reducible exact spec_l01Exponent.mono _ _)
   | (with_reducible exact spec_l01Hex.mono _ _)
   | (with_reducible exact spec_l01Nearest.mono _ _ _)
   | (with_reducible exact spec_l01Whole.mono _ _)
   | (with_reducible exact LeO.refl _)
   | (with_reducible exact LeO.none _)
   | (with_reducible refine LeO.ite ?_ ?_)
   | (with_reducible refine LeO.bind ?_ (fun _ => ?_))
   | exact ih0 _ _
   | exact ih1 _ _ _ _ _
   | exact ih2 _ _ _ _ _ _
   | exact ih3 _ _ _ _ _ _
   | exact ih4 _ _ _ _ _
   | exact ih5 _ _ _ _
   | exact ih6 _ _ _
   | exact spec_l01Exponent.mono _ _
   | exact spec_l01Hex.mono _ _
   | exact spec_l01Nearest.mono _ _ _
   | exact spec_l01Whole.mono _ _
   | exact LeO.none _
   | refine LeO.ite ?_ ?_
   | refine LeO.bind ?_ (fun _ => ?_)
  ·intro y0 y1 y2 y3 y4 y5;unfold spec_ParseNumber.j2
   repeat' first
   | (with_reducible exact ih0 _ _)
   | (with_reducible exact ih1 _ _ _ _ _)
   | (with_reducible exact ih2 _ _ _ _ _ _)
   | (with_reducible exact ih3 _ _ _ _ _ _)
   | (with_reducible exact ih4 _ _ _ _ _)
   | (with_reducible exact ih5 _ _ _ _)
   | (with_reducible exact ih6 _ _ _)
   | (with_reducible exact spec_l01Exponent.mono _ _)
   | (with_reducible exact spec_l01Hex.mono _ _)
   | (with_reducible exact spec_l01Nearest.mono _ _ _)
   | (with_reducible exact spec_l01Whole.mono _ _)
   | (with_reducible exact LeO.refl _)
   | (with_reducible exact LeO.none _)
   | (with_reducible refine LeO.ite ?_ ?_)
   | (with_reducible refine LeO.bind ?_ (fun _ => ?_))
   | exact ih0 _ _
   | exact ih1 _ _ _ _ _
   | exact ih2 _ _ _ _ _ _
   | exact ih3 _ _ _ _ _ _
   | exact ih4 _ _ _ _ _
   | exact ih5 _ _ _ _
   | exact ih6 _ _ _
   | exact spec_l01Exponent.mono _ _
   | exact spec_l01Hex.mono _ _
   | exact spec_l01Nearest.mono _ _ _
   | exact spec_l01Whole.mono _ _
   | exact LeO.none _
   | refine LeO.ite ?_ ?_
   | refine LeO.bind ?_ (fun _ => ?_)
  ·intro y0 y1 y2 y3 y4 y5;unfold spec_ParseNumber.j3
   repeat' first
   | (with_reducible exact ih0 _ _)
   | (with_reducible exact ih1 _ _ _ _ _)
   | (with_reducible exact ih2 _ _ _ _ _ _)
   | (with_reducible exact ih3 _ _ _ _ _ _)
   | (with_reducible exact ih4 _ _ _ _ _)
   | (with_reducible exact ih5 _ _ _ _)
   | (with_reducible exact ih6 _ _ _)
   | (with_reducible exact spec_l01Exponent.mono _ _)
   | (with_reducible exact spec_l01Hex.mono _ _)
   | (with_reducible exact spec_l01Nearest.mono _ _ _)
   | (with_reducible exact spec_l01Whole.mono _ _)
   | (with_reducible exact LeO.refl _)
   | (with_reducible exact LeO.none _)
   | (with_reducible refine LeO.ite ?_ ?_)
   | (with_reducible refine LeO.bind ?_ (fun _ => ?_))
   | exact ih0 _ _
   | exact ih1 _ _ _ _ _
   | exact ih2 _ _ _ _ _ _
   | exact ih3 _ _ _ _ _ _
   | exact ih4 _ _ _ _ _
   | exact ih5 _ _ _ _
   | exact ih6 _ _ _
   | exact spec_l01Exponent.mono _ _
   | exact spec_l01Hex.mono _ _
   | exact spec_l01Nearest.mono _ _ _
   | exact spec_l01Whole.mono _ _
   | exact LeO.none _
   | refine LeO.ite ?_ ?_
   | refine LeO.bind ?_ (fun _ => ?_)
  ·intro y0 y1 y2 y3 y4;unfold spec_ParseNumber.j4
   repeat' first
   | (with_reducible exact ih0 _ _)
   | (with_reducible exact ih1 _ _ _ _ _)
   | (with_reducible exact ih2 _ _ _ _ _ _)
   | (with_reducible exact ih3 _ _ _ _ _ _)
   | (with_reducible exact ih4 _ _ _ _ _)
   | (with_reducible exact ih5 _ _ _ _)
   | (with_reducible exact ih6 _ _ _)
   | (with_reducible exact spec_l01Exponent.mono _ _)
   | (with_reducible exact spec_l01Hex.mono _ _)
   | (with_reducible exact spec_l01Nearest.mono _ _ _)
   | (with_reducible exact spec_l01Whole.mono _ _)
   | (with_reducible exact LeO.refl _)
   | (with_reducible exact LeO.none _)
   | (with_reducible refine LeO.ite ?_ ?_)
   | (with_reducible refine LeO.bind ?_ (fun _ => ?_))
   | exact ih0 _ _
   | exact ih1 _ _ _ _ _
   | exact ih2 _ _ _ _ _ _
   | exact ih3 _ _ _ _ _ _
   | exact ih4 _ _ _ _ _
   | exact ih5 _ _ _ _
   | exact ih6 _ _ _
   | exact spec_l01Exponent.mono _ _
   | exact spec_l01Hex.mono _ _
   | exact spec_l01Nearest.mono _ _ _
   | exact spec_l01Whole.mono _ _
   | exact LeO.none _
   | refine LeO.ite ?_ ?_
   | refine LeO.bind ?_ (fun _ => ?_)
  ·intro y0 y1 y2 y3;unfold spec_ParseNumber.j5
   repeat' first
   | (with_reducible exact ih0 _ _)
   | (with_reducible exact ih1 _ _ _ _ _)
   | (with_reducible exact ih2 _ _ _ _ _ _)
   | (with_reducible exact ih3 _ _ _ _ _ _)
   | (with_reducible exact ih4 _ _ _ _ _)
   | (with_reducible exact ih5 _ _ _ _)
   | (with_reducible exact ih6 _ _ _)
   | (with_reducible exact spec_l01Exponent.mono _ _)
   | (with_reducible exact spec_l01Hex.mono _ _)
   | (with_reducible exact spec_l01Nearest.mono _ _ _)
   | (with_reducible exact spec_l01Whole.mono _ _)
   | (with_reducible exact LeO.refl _)
   | (with_reducible exact LeO.none _)
   | (with_reducible refine LeO.ite ?_ ?_)
   | (with_reducible refine LeO.bind ?_ (fun _ => ?_))
   | exact ih0 _ _
   | exact ih1 _ _ _ _ _
   | exact ih2 _ _ _ _ _ _
   | exact ih3 _ _ _ _ _ _
   | exact ih4 _ _ _ _ _
   | exact ih5 _ _ _ _
   | exact ih6 _ _ _
   | exact spec_l01Exponent.mono _ _
   | exact spec_l01Hex.mono _ _
   | exact spec_l01Nearest.mono _ _ _
   | exact spec_l01Whole.mono _ _
   | exact LeO.none _
   | refine LeO.ite ?_ ?_
   | refine LeO.bind ?_ (fun _ => ?_)
  ·intro y0 y1 y2;unfold spec_ParseNumber.j6
   repeat' first
   | (with_reducible exact ih0 _ _)
   | (with_reducible exact ih1 _ _ _ _ _)
   | (with_reducible exact ih2 _ _ _ _ _ _)
   | (with_reducible exact ih3 _ _ _ _ _ _)
   | (with_reducible exact ih4 _ _ _ _ _)
   | (with_reducible exact ih5 _ _ _ _)
   | (with_reducible exact ih6 _ _ _)
   | (with_reducible exact spec_l01Exponent.mono _ _)
   | (with_reducible exact spec_l01Hex.mono _ _)
   | (with_reducible exact spec_l01Nearest.mono _ _ _)
   | (with_reducible exact spec_l01Whole.mono _ _)
   | (with_reducible exact LeO.refl _)
   | (with_reducible exact LeO.none _)
   | (with_reducible refine LeO.ite ?_ ?_)
   | (with_reducible refine LeO.bind ?_ (fun _ => ?_))
   | exact ih0 _ _
   | exact ih1 _ _ _ _ _
   | exact ih2 _ _ _ _ _ _
   | exact ih3 _ _ _ _ _ _
   | exact ih4 _ _ _ _ _
   | exact ih5 _ _ _ _
   | exact ih6 _ _ _
   | exact spec_l01Exponent.mono _ _
   | exact spec_l01Hex.mono _ _
   | exact spec_l01Nearest.mono _ _ _
   | exact spec_l01Whole.mono _ _
   | exact LeO.none _
   | refine LeO.ite ?_ ?_
   | refine LeO.bind ?_ (fun _ => ?_)
theorem spec_ParseNumber.mono : ∀ a0 k, LeO (spec_ParseNumber.f k a0) (spec_ParseNumber.f (k + 1) a0) := by
 intro a0 k;obtain ⟨ih0, ih1, ih2, ih3, ih4, ih5, ih6⟩ := spec_ParseNumber.mono_l k;unfold spec_ParseNumber.f
 repeat' first
   | (with_reducible exact ih0 _ _)
   | (with_reducible exact ih1 _ _ _ _ _)
   | (with_reducible exact ih2 _ _ _ _ _ _)
   | (with_reducible exact ih3 _ _ _ _ _ _)
   | (with_reducible exact ih4 _ _ _ _ _)
   | (with_reducible exact ih5 _ _ _ _)
   | (with_reducible exact ih6 _ _ _)
   | (with_reducible exact spec_l01Exponent.mono _ _)
   | (with_reducible exact spec_l01Hex.mono _ _)
   | (with_reducible exact spec_l01Nearest.mono _ _ _)
   | (with_reducible exact spec_l01Whole.mono _ _)
   | (with_reducible exact LeO.refl _)
   | (with_reducible exact LeO.none _)
   | (with_reducible refine LeO.ite ?_ ?_)
   | (with_reducible refine LeO.bind ?_ (fun _ => ?_))
   | exact ih0 _ _
   | exact ih1 _ _ _ _ _
   | exact ih2 _ _ _ _ _ _
   | exact ih3 _ _ _ _ _ _
   | exact ih4 _ _ _ _ _
   | exact ih5 _ _ _ _
   | exact ih6 _ _ _
   | exact spec_l01Exponent.mono _ _
   | exact spec_l01Hex.mono _ _
   | exact spec_l01Nearest.mono _ _ _
   | exact spec_l01Whole.mono _ _
   | exact LeO.none _
   | refine LeO.ite ?_ ?_
   | refine LeO.bind ?_ (fun _ => ?_)
end Go.Proofs.YtlblkajnmdhmdaaGreatDoor.PFormatNumber
