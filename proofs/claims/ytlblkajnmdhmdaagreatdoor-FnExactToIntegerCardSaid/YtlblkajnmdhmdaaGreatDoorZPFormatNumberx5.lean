/-
  
-/
import Derived.Test.YtlblkajnmdhmdaaGreatDoorZPFormatNumberx2
namespace Go.Proofs.YtlblkajnmdhmdaaGreatDoor.PFormatNumber
open Go.RowKit Go.Proofs.YtlblkajnmdhmdaaGreatDoorW.PrintWords Go.Proofs.YtlblkajnmdhmdaaGreatDoorW.PrintLast Go.Proofs.YtlblkajnmdhmdaaGreatDoorW.PrintMore
attribute [local go_sem] max2_int min2_int max_two min_two max_three min_three max_four min_four
set_option linter.unusedVariables false
set_option linter.unusedSimpArgs false
mutual
def spec_l01Word.l0 : Nat → List Int → List Int → Int → List Int → Option (Int)
 | 0, _, _, _, _ => none
 | k + 1, x0, x1, x2, x8 => (spec_l01Cmp.f k x0 x8).bind fun t191 => (if t191 ≥ 0 then (spec_l01Word.j1 k x0 x1 x2 x8 true) else (spec_l01Word.j1 k x0 x1 x2 x8 (decide (x2 < (-1074)))))
def spec_l01Word.j1 : Nat → List Int → List Int → Int → List Int → Bool → Option (Int)
 | 0, _, _, _, _, _ => none
 | k + 1, x0, x1, x2, x8, x27 => if x27 = true then ((spec_l01Times.f k x8 2 0).bind fun t192 => ((spec_l01Times.f k x1 2 0).bind fun t195 => (spec_l01Word.l0 k x0 t195 (wrap64 (x2 + 1)) t192))) else ((spec_l01Half.f k x8).bind fun t198 => (spec_l01Word.l1 k x0 x1 x2 t198))
def spec_l01Word.j3 : Nat → List Int → List Int → Int → List Int → Option (Int)
 | 0, _, _, _, _ => none
 | k + 1, x0, x1, x2, x7 => spec_l01Word.l2 k x0 x1 x2 0 x7 52
def spec_l01Word.l2 : Nat → List Int → List Int → Int → Int → List Int → Int → Option (Int)
 | 0, _, _, _, _, _, _ => none
 | k + 1, x0, x1, x2, x9, x10, x11 => if x11 ≥ 0 then ((spec_l01Cmp.f k x0 x10).bind fun t205 => (if t205 ≥ 0 then ((spec_l01Minus.f k x0 x10).bind fun t206 => (if 0 ≤ x11 then ((spec_l01Half.f k x10).bind fun t209 => (spec_l01Word.l2 k t206 x1 x2 (IntKind.u64.wrap (x9 + (shl .u64 1 x11))) t209 (wrap64 (x11 - 1)))) else (none))) else ((spec_l01Half.f k x10).bind fun t212 => (spec_l01Word.l2 k x0 x1 x2 x9 t212 (wrap64 (x11 - 1)))))) else ((spec_l01Times.f k x0 2 0).bind fun t215 => ((spec_l01Cmp.f k t215 x1).bind fun t218 => (if t218 > 0 then (spec_l01Word.j5 k x2 x9 true) else (if t218 = 0 then (spec_l01Word.j5 k x2 x9 ((Int.tmod x9 2) == 1)) else (spec_l01Word.j5 k x2 x9 false)))))
def spec_l01Word.j5 : Nat → Int → Int → Bool → Option (Int)
 | 0, _, _, _ => none
 | k + 1, x2, x9, x80 => if x80 = true then (spec_l01Word.j6 k x2 (IntKind.u64.wrap (x9 + 1))) else (spec_l01Word.j6 k x2 x9)
def spec_l01Word.j6 : Nat → Int → Int → Option (Int)
 | 0, _, _ => none
 | k + 1, x2, x9 => if x9 = 9007199254740992 then (spec_l01Word.j7 k (wrap64 (x2 + 1)) 4503599627370496) else (spec_l01Word.j7 k x2 x9)
def spec_l01Word.j7 : Nat → Int → Int → Option (Int)
 | 0, _, _ => none
 | k + 1, x2, x9 => if x2 > 971 then (some 9218868437227405312) else (if x9 < 4503599627370496 then (some x9) else (some (IntKind.u64.wrap ((IntKind.u64.wrap ((IntKind.u64.wrap ((IntKind.u64.wrap (wrap64 (x2 + 1075))) * 4503599627370496)) + x9)) - 4503599627370496))))
def spec_l01Word.l1 : Nat → List Int → List Int → Int → List Int → Option (Int)
 | 0, _, _, _, _ => none
 | k + 1, x0, x1, x2, x7 => if x2 > (-1074) then ((spec_l01Cmp.f k x0 x7).bind fun t201 => (if t201 < 0 then ((spec_l01Times.f k x0 2 0).bind fun t202 => (spec_l01Word.l1 k t202 x1 (wrap64 (x2 - 1)) x7)) else (spec_l01Word.j3 k x0 x1 x2 x7))) else (spec_l01Word.j3 k x0 x1 x2 x7)
end
def spec_l01Word.f (k : Nat) (l0 : List Int) (l1 : List Int) (a2 : Int) : Option (Int) := if (l0.length : Int) = 0 then (some 0) else ((spec_l01Two.f k l1 52).bind fun t185 => ((spec_l01Times.f k t185 2 0).bind fun t188 => (spec_l01Word.l0 k l0 l1 a2 t188)))
theorem spec_l01Word.mono_l : ∀ k, (∀ y0 y1 y2 y3, LeO (spec_l01Word.l0 k y0 y1 y2 y3) (spec_l01Word.l0 (k + 1) y0 y1 y2 y3)) ∧ (∀ y0 y1 y2 y3 y4, LeO (spec_l01Word.j1 k y0 y1 y2 y3 y4) (spec_l01Word.j1 (k + 1) y0 y1 y2 y3 y4)) ∧ (∀ y0 y1 y2 y3, LeO (spec_l01Word.j3 k y0 y1 y2 y3) (spec_l01Word.j3 (k + 1) y0 y1 y2 y3)) ∧ (∀ y0 y1 y2 y3 y4 y5, LeO (spec_l01Word.l2 k y0 y1 y2 y3 y4 y5) (spec_l01Word.l2 (k + 1) y0 y1 y2 y3 y4 y5)) ∧ (∀ y0 y1 y2, LeO (spec_l01Word.j5 k y0 y1 y2) (spec_l01Word.j5 (k + 1) y0 y1 y2)) ∧ (∀ y0 y1, LeO (spec_l01Word.j6 k y0 y1) (spec_l01Word.j6 (k + 1) y0 y1)) ∧ (∀ y0 y1, LeO (spec_l01Word.j7 k y0 y1) (spec_l01Word.j7 (k + 1) y0 y1)) ∧ (∀ y0 y1 y2 y3, LeO (spec_l01Word.l1 k y0 y1 y2 y3) (spec_l01Word.l1 (k + 1) y0 y1 y2 y3))
 | 0 => ⟨fun _ _ _ _ r h => by simp [spec_l01Word.l0] at h, fun _ _ _ _ _ r h => by simp [spec_l01Word.j1] at h, fun _ _ _ _ r h => by simp [spec_l01Word.j3] at h, fun _ _ _ _ _ _ r h => by simp [spec_l01Word.l2] at h, fun _ _ _ r h => by simp [spec_l01Word.j5] at h, fun _ _ r h => by simp [spec_l01Word.j6] at h, fun _ _ r h => by simp [spec_l01Word.j7] at h, fun _ _ _ _ r h => by simp [spec_l01Word.l1] at h⟩
 | k + 1 => by
  obtain ⟨ih0, ih1, ih2, ih3, ih4, ih5, ih6, ih7⟩ := spec_l01Word.mono_l k;refine ⟨?_, ?_, ?_, ?_, ?_, ?_, ?_, ?_⟩
  ·intro y0 y1 y2 y3;unfold spec_l01Word.l0
   repeat' first
   | (with_reducible exact ih0 _ _ _ _)
   | (with_reducible exact ih1 _ _ _ _ _)
   | (with_reducible exact ih2 _ _ _ _)
   | (with_reducible exact ih3 _ _ _ _ _ _)
   | (with_reducible exact ih4 _ _ _)
   | (with_reducible exact ih5 _ _)
   | (with_reducible exact ih6 _ _)
   | (with_reducible exact ih7 _ _ _ _)
   | (with_reducible exact spec_l01Cmp.mono _ _ _)
   | (with_reducible exact spec_l01Half.mono _ _)
   | (with_reducible exact spec_l01Minus.mono _ _ _)
   | (with_reducible exact spec_l01Times.mono _ _ _ _)
   | (with_reducible exact spec_l01Two.mono _ _ _)
   | (with_reducible exact LeO.refl _)
   | (with_reducible exact LeO.none _)
   | (with_reducible refine LeO.ite ?_ ?_)
   | (with_reducible refine LeO.bind ?_ (fun _ => ?_))
   | exact ih0 _ _ _ _
   | exact ih1 _ _ _ _ _
   | exact ih2 _ _ _ _
   | exact ih3 _ _ _ _ _ _
   | exact ih4 _ _ _
   | exact ih5 _ _
   | exact ih6 _ _
   | exact ih7 _ _ _ _
   | exact spec_l01Cmp.mono _ _ _
   | exact spec_l01Half.mono _ _
   | exact spec_l01Minus.mono _ _ _
   | exact spec_l01Times.mono _ _ _ _
   | exact spec_l01Two.mono _ _ _
   | exact LeO.none _
   | refine LeO.ite ?_ ?_
   | refine LeO.bind ?_ (fun _ => ?_)
  ·intro y0 y1 y2 y3 y4;unfold spec_l01Word.j1
   repeat' first
   | (with_reducible exact ih0 _ _ _ _)
   | (with_reducible exact ih1 _ _ _ _ _)
   | (with_reducible exact ih2 _ _ _ _)
   | (with_reducible exact ih3 _ _ _ _ _ _)
   | (with_reducible exact ih4 _ _ _)
   | (with_reducible exact ih5 _ _)
   | (with_reducible exact ih6 _ _)
   | (with_reducible exact ih7 _ _ _ _)
   | (with_reducible exact spec_l01Cmp.mono _ _ _)
   | (with_reducible exact spec_l01Half.mono _ _)
   | (with_reducible exact spec_l01Minus.mono _ _ _)
   | (with_reducible exact spec_l01Times.mono _ _ _ _)
   | (with_reducible exact spec_l01Two.mono _ _ _)
   | (with_reducible exact LeO.refl _)
   | (with_reducible exact LeO.none _)
   | (with_reducible refine LeO.ite ?_ ?_)
   | (with_reducible refine LeO.bind ?_ (fun _ => ?_))
   | exact ih0 _ _ _ _
   | exact ih1 _ _ _ _ _
   | exact ih2 _ _ _ _
   | exact ih3 _ _ _ _ _ _
   | exact ih4 _ _ _
   | exact ih5 _ _
   | exact ih6 _ _
   | exact ih7 _ _ _ _
   | exact spec_l01Cmp.mono _ _ _
   | exact spec_l01Half.mono _ _
   | exact spec_l01Minus.mono _ _ _
   | exact spec_l01Times.mono _ _ _ _
   | exact spec_l01Two.mono _ _ _
   | exact LeO.none _
   | refine LeO.ite ?_ ?_
   | refine LeO.bind ?_ (fun _ => ?_)
  ·intro y0 y1 y2 y3;unfold spec_l01Word.j3
   repeat' first
   | (with_reducible exact ih0 _ _ _ _)
   | (with_reducible exact ih1 _ _ _ _ _)
   | (with_reducible exact ih2 _ _ _ _)
   | (with_reducible exact ih3 _ _ _ _ _ _)
   | (with_reducible exact ih4 _ _ _)
   | (with_reducible exact ih5 _ _)
   | (with_reducible exact ih6 _ _)
   | (with_reducible exact ih7 _ _ _ _)
   | (with_reducible exact spec_l01Cmp.mono _ _ _)
   | (with_reducible exact spec_l01Half.mono _ _)
   | (with_reducible exact spec_l01Minus.mono _ _ _)
   | (with_reducible exact spec_l01Times.mono _ _ _ _)
   | (with_reducible exact spec_l01Two.mono _ _ _)
   | (with_reducible exact LeO.refl _)
   | (with_reducible exact LeO.none _)
   | (with_reducible refine LeO.ite ?_ ?_)
   | (with_reducible refine LeO.bind ?_ (fun _ => ?_))
   | exact ih0 _ _ _ _
   | exact ih1 _ _ _ _ _
   | exact ih2 _ _ _ _
   | exact ih3 _ _ _ _ _ _
   | exact ih4 _ _ _
   | exact ih5 _ _
   | exact ih6 _ _
   | exact ih7 _ _ _ _
   | exact spec_l01Cmp.mono _ _ _
   | exact spec_l01Half.mono _ _
   | exact spec_l01Minus.mono _ _ _
   | exact spec_l01Times.mono _ _ _ _
   | exact spec_l01Two.mono _ _ _
   | exact LeO.none _
   | refine LeO.ite ?_ ?_
   | refine LeO.bind ?_ (fun _ => ?_)
  ·intro y0 y1 y2 y3 y4 y5;unfold spec_l01Word.l2
   repeat' first
   | (with_reducible exact ih0 _ _ _ _)
   | (with_reducible exact ih1 _ _ _ _ _)
   | (with_reducible exact ih2 _ _ _ _)
   | (with_reducible exact ih3 _ _ _ _ _ _)
   | (with_reducible exact ih4 _ _ _)
   | (with_reducible exact ih5 _ _)
   | (with_reducible exact ih6 _ _)
   | (with_reducible exact ih7 _ _ _ _)
   | (with_reducible exact spec_l01Cmp.mono _ _ _)
   | (with_reducible exact spec_l01Half.mono _ _)
   | (with_reducible exact spec_l01Minus.mono _ _ _)
   | (with_reducible exact spec_l01Times.mono _ _ _ _)
   | (with_reducible exact spec_l01Two.mono _ _ _)
   | (with_reducible exact LeO.refl _)
   | (with_reducible exact LeO.none _)
   | (with_reducible refine LeO.ite ?_ ?_)
   | (with_reducible refine LeO.bind ?_ (fun _ => ?_))
   | exact ih0 _ _ _ _
   | exact ih1 _ _ _ _ _
   | exact ih2 _ _ _ _
   | exact ih3 _ _ _ _ _ _
   | exact ih4 _ _ _
   | exact ih5 _ _
   | exact ih6 _ _
   | exact ih7 _ _ _ _
   | exact spec_l01Cmp.mono _ _ _
   | exact spec_l01Half.mono _ _
   | exact spec_l01Minus.mono _ _ _
   | exact spec_l01Times.mono _ _ _ _
   | exact spec_l01Two.mono _ _ _
   | exact LeO.none _
   | refine LeO.ite ?_ ?_
   | refine LeO.bind ?_ (fun _ => ?_)
  ·intro y0 y1 y2;unfold spec_l01Word.j5
   repeat' first
   | (with_reducible exact ih0 _ _ _ _)
   | (with_reducible exact ih1 _ _ _ _ _)
   | (with_reducible exact ih2 _ _ _ _)
   | (with_reducible exact ih3 _ _ _ _ _ _)
   | (with_reducible exact ih4 _ _ _)
   | (with_reducible exact ih5 _ _)
   | (with_reducible exact ih6 _ _)
   | (with_reducible exact ih7 _ _ _ _)
   | (with_reducible exact spec_l01Cmp.mono _ _ _)
   | (with_reducible exact spec_l01Half.mono _ _)
   | (with_reducible exact spec_l01Minus.mono _ _ _)
   | (with_reducible exact spec_l01Times.mono _ _ _ _)
   | (with_reducible exact spec_l01Two.mono _ _ _)
   | (with_reducible exact LeO.refl _)
   | (with_reducible exact LeO.none _)
   | (with_reducible refine LeO.ite ?_ ?_)
   | (with_reducible refine LeO.bind ?_ (fun _ => ?_))
   | exact ih0 _ _ _ _
   | exact ih1 _ _ _ _ _
   | exact ih2 _ _ _ _
   | exact ih3 _ _ _ _ _ _
   | exact ih4 _ _ _
   | exact ih5 _ _
   | exact ih6 _ _
   | exact ih7 _ _ _ _
   | exact spec_l01Cmp.mono _ _ _
   | exact spec_l01Half.mono _ _
   | exact spec_l01Minus.mono _ _ _
   | exact spec_l01Times.mono _ _ _ _
   | exact spec_l01Two.mono _ _ _
   | exact LeO.none _
   | refine LeO.ite ?_ ?_
   | refine LeO.bind ?_ (fun _ => ?_)
  ·intro y0 y1;unfold spec_l01Word.j6
   repeat' first
   | (with_reducible exact ih0 _ _ _ _)
   | (with_reducible exact ih1 _ _ _ _ _)
   | (with_reducible exact ih2 _ _ _ _)
   | (with_reducible exact ih3 _ _ _ _ _ _)
   | (with_reducible exact ih4 _ _ _)
   | (with_reducible exact ih5 _ _)
   | (with_reducible exact ih6 _ _)
   | (with_reducible exact ih7 _ _ _ _)
   | (with_reducible exact spec_l01Cmp.mono _ _ _)
   | (with_reducible exact spec_l01Half.mono _ _)
   | (with_reducible exact spec_l01Minus.mono _ _ _)
   | (with_reducible exact spec_l01Times.mono _ _ _ _)
   | (with_reducible exact spec_l01Two.mono _ _ _)
   | (with_reducible exact LeO.refl _)
   | (with_reducible exact LeO.none _)
   | (with_reducible refine LeO.ite ?_ ?_)
   | (with_reducible refine LeO.bind ?_ (fun _ => ?_))
   | exact ih0 _ _ _ _
   | exact ih1 _ _ _ _ _
   | exact ih2 _ _ _ _
   | exact ih3 _ _ _ _ _ _
   | exact ih4 _ _ _
   | exact ih5 _ _
   | exact ih6 _ _
   | exact ih7 _ _ _ _
   | exact spec_l01Cmp.mono _ _ _
   | exact spec_l01Half.mono _ _
   | exact spec_l01Minus.mono _ _ _
   | exact spec_l01Times.mono _ _ _ _
   | exact spec_l01Two.mono _ _ _
   | exact LeO.none _
   | refine LeO.ite ?_ ?_
   | refine LeO.bind ?_ (fun _ => ?_)
  ·intro y0 y1;unfold spec_l01Word.j7
   repeat' first
   | (with_reducible exact ih0 _ _ _ _)
   | (with_reducible exact ih1 _ _ _ _ _)
   | (with_reducible exact ih2 _ _ _ _)
   | (with_reducible exact ih3 _ _ _ _ _ _)
   | (with_reducible exact ih4 _ _ _)
   | (with_reducible exact ih5 _ _)
   | (with_reducible exact ih6 _ _)
   | (with_reducible exact ih7 _ _ _ _)
   | (with_reducible exact spec_l01Cmp.mono _ _ _)
   | (with_reducible exact spec_l01Half.mono _ _)
   | (with_reducible exact spec_l01Minus.mono _ _ _)
   | (with_reducible exact spec_l01Times.mono _ _ _ _)
   | (with_reducible exact spec_l01Two.mono _ _ _)
   | (with_reducible exact LeO.refl _)
   | (with_reducible exact LeO.none _)
   | (with_reducible refine LeO.ite ?_ ?_)
   | (with_reducible refine LeO.bind ?_ (fun _ => ?_))
   | exact ih0 _ _ _ _
   | exact ih1 _ _ _ _ _
   | exact ih2 _ _ _ _
   | exact ih3 _ _ _ _ _ _
   | exact ih4 _ _ _
   | exact ih5 _ _
   | exact ih6 _ _
   | exact ih7 _ _ _ _
   | exact spec_l01Cmp.mono _ _ _
   | exact spec_l01Half.mono _ _
   | exact spec_l01Minus.mono _ _ _
   | exact spec_l01Times.mono _ _ _ _
   | exact spec_l01Two.mono _ _ _
   | exact LeO.none _
   | refine LeO.ite ?_ ?_
   | refine LeO.bind ?_ (fun _ => ?_)
  ·intro y0 y1 y2 y3;unfold spec_l01Word.l1
   repeat' first
   | (with_reducible exact ih0 _ _ _ _)
   | (with_reducible exact ih1 _ _ _ _ _)
   | (with_reducible exact ih2 _ _ _ _)
   | (with_reducible exact ih3 _ _ _ _ _ _)
   | (with_reducible exact ih4 _ _ _)
   | (with_reducible exact ih5 _ _)
   | (with_reducible exact ih6 _ _)
   | (with_reducible exact ih7 _ _ _ _)
   | (with_reducible exact spec_l01Cmp.mono _ _ _)
   | (with_reducible exact spec_l01Half.mono _ _)
   | (with_reducible exact spec_l01Minus.mono _ _ _)
   | (with_reducible exact spec_l01Times.mono _ _ _ _)
   | (with_reducible exact spec_l01Two.mono _ _ _)
   | (with_reducible exact LeO.refl _)
   | (with_reducible exact LeO.none _)
   | (with_reducible refine LeO.ite ?_ ?_)
   | (with_reducible refine LeO.bind ?_ (fun _ => ?_))
   | exact ih0 _ _ _ _
   | exact ih1 _ _ _ _ _
   | exact ih2 _ _ _ _
   | exact ih3 _ _ _ _ _ _
   | exact ih4 _ _ _
   | exact ih5 _ _
   | exact ih6 _ _
   | exact ih7 _ _ _ _
   | exact spec_l01Cmp.mono _ _ _
   | exact spec_l01Half.mono _ _
   | exact spec_l01Minus.mono _ _ _
   | exact spec_l01Times.mono _ _ _ _
   | exact spec_l01Two.mono _ _ _
   | exact LeO.none _
   | refine LeO.ite ?_ ?_
   | refine LeO.bind ?_ (fun _ => ?_)
theorem spec_l01Word.mono : ∀ a0 a1 a2 k, LeO (spec_l01Word.f k a0 a1 a2) (spec_l01Word.f (k + 1) a0 a1 a2) := by
 intro a0 a1 a2 k;obtain ⟨ih0, ih1, ih2, ih3, ih4, ih5, ih6, ih7⟩ := spec_l01Word.mono_l k;unfold spec_l01Word.f
 repeat' first
   | (with_reducible exact ih0 _ _ _ _)
   | (with_reducible exact ih1 _ _ _ _ _)
   | (with_reducible exact ih2 _ _ _ _)
   | (with_reducible exact ih3 _ _ _ _ _ _)
   | (with_reducible exact ih4 _ _ _)
   | (with_reducible exact ih5 _ _)
   | (with_reducible exact ih6 _ _)
   | (with_reducible exact ih7 _ _ _ _)
   | (with_reducible exact spec_l01Cmp.mono _ _ _)
   | (with_reducible exact spec_l01Half.mono _ _)
   | (with_reducible exact spec_l01Minus.mono _ _ _)
   | (with_reducible exact spec_l01Times.mono _ _ _ _)
   | (with_reducible exact spec_l01Two.mono _ _ _)
   | (with_reducible exact LeO.refl _)
   | (with_reducible exact LeO.none _)
   | (with_reducible refine LeO.ite ?_ ?_)
   | (with_reducible refine LeO.bind ?_ (fun _ => ?_))
   | exact ih0 _ _ _ _
   | exact ih1 _ _ _ _ _
   | exact ih2 _ _ _ _
   | exact ih3 _ _ _ _ _ _
   | exact ih4 _ _ _
   | exact ih5 _ _
   | exact ih6 _ _
   | exact ih7 _ _ _ _
   | exact spec_l01Cmp.mono _ _ _
   | exact spec_l01Half.mono _ _
   | exact spec_l01Minus.mono _ _ _
   | exact spec_l01Times.mono _ _ _ _
   | exact spec_l01Two.mono _ _ _
   | exact LeO.none _
   | refine LeO.ite ?_ ?_
   | refine LeO.bind ?_ (fun _ => ?_)
set_option maxHeartbeats 8000000 in
set_option maxRecDepth 100000 in
theorem spec_l01Word.calls (k : Nat) (P0_ : Nat → Prop) (A0 : Option Addr) (c0 : Nat) (l0 : List Int) (P1_ : Nat → Prop) (A1 : Option Addr) (c1 : Nat) (l1 : List Int) (a2 : Int) (r : Int) (w : World) (hs0 : Kd.V (Kd.int .i64) 3 w w.heap.size (fun k_ => P0_ k_) (.slice A0 l0.length c0) l0) (hs1 : Kd.V (Kd.int .i64) 3 w w.heap.size (fun k_ => P1_ k_) (.slice A1 l1.length c1) l1) (h : spec_l01Word.f k l0 l1 a2 = some r) :
  Calls Tryz.prog 43 #[.slice A0 l0.length c0, .slice A1 l1.length c1, .int .i64 a2] w fun e w' => e = .returned (.int .u64 r) ∧ Below w.heap.size w w' := by
 have HO0 := Aside0.mk (show Kd.V (Kd.int .i64) 3 w w.heap.size (fun k_ => ((P0_ k_ ∨ P1_ k_) ∨ w.heap.size ≤ k_)) (.slice A0 l0.length c0) l0 from Kd.V_mono hs0 (fun k_ hk => .inl (.inl hk)));have HO1 := Aside0.mk (show Kd.V (Kd.int .i64) 3 w w.heap.size (fun k_ => ((P0_ k_ ∨ P1_ k_) ∨ w.heap.size ≤ k_)) (.slice A1 l1.length c1) l1 from Kd.V_mono hs1 (fun k_ hk => .inl (.inr hk)));have HB := Aside0.mk (Below.refl w.heap.size w);have H : (if (l0.length : Int) = 0 then (some 0) else ((spec_l01Two.f k l1 52).bind fun t185 => ((spec_l01Times.f k t185 2 0).bind fun t188 => (spec_l01Word.l0 k l0 l1 a2 t188)))) = some r := h;clear h;by_cases c4 : (l0.length : Int) = 0
 ·rw [if_pos c4] at H;have c4b0 : ((l0.length : Int) == 0) = true := beq_iff_eq.mpr c4;have c4b1 : ((l0.length : Int) != 0) = false := bne_eq_false_iff_eq.mpr c4;clear c4;obtain rfl := Option.some.inj H;go_enter Tryz.func43, Tryz.ntmps43;go_wp2;go_ret;exact ⟨by first | rfl | (simp [errW_none, errW_some] <;> rfl) | (simp [*, errW_none, errW_some] <;> rfl), by repeat (first | (with_reducible first | exact HB.out | apply below_alloc | apply pw_below_drewN | apply below_drew1) | exact HB.out)⟩
 ·rw [if_neg c4] at H;have c4b0 : ((l0.length : Int) == 0) = false := beq_eq_false_iff_ne.mpr c4;have c4b1 : ((l0.length : Int) != 0) = true := bne_iff_ne.mpr c4;have c4b2 : ¬ (l0 = []) := fun h_ => c4 (by rw [h_]; rfl);replace H := Option.bind_eq_some_iff.mp H;obtain ⟨t185, A50, H⟩ := H;replace H : ((spec_l01Times.f k t185 2 0).bind fun t188 => (spec_l01Word.l0 k l0 l1 a2 t188)) = some r := H;have A5 := Aside0.mk A50;clear A50;replace H := Option.bind_eq_some_iff.mp H;obtain ⟨t188, A60, H⟩ := H;replace H : (spec_l01Word.l0 k l0 l1 a2 t188) = some r := H;have A6 := Aside0.mk A60;clear A60;have H' := Aside0.mk H;clear H;go_enter Tryz.func43, Tryz.ntmps43
  go_wp2_with (first | ((with_reducible refine gate_callee (f := 71) rfl ?_); refine goesL_ (some 17) rfl rfl Tryz.func71 (by kernel_rfl) rfl #[.slice A1 l1.length c1, .int .i64 52] rfl (by (try simp only [List.map_toArray, List.map_cons, List.map_nil]); first | done | rfl | (simp only [List.length_drop, List.length_take]; rfl)) ?_; (with_reducible refine (spec_l01Two.calls k (fun k_ => ((P0_ k_ ∨ P1_ k_) ∨ w.heap.size ≤ k_)) _ _ l1 52 t185 _ ?side1 A5.out).mono ?_); (case side1 => exact HO1.out); rintro e w7 ⟨v186, rfl, ho0, hb⟩; refine ⟨_, rfl, ?_⟩; have n0_ := Aside0.mk (Kd.V_below (by (with_reducible repeat (first | apply Kd.V_alloc | apply Kd.V_drewN | apply Kd.V_drew)); exact HO0.out) hb); have n1_ := Aside0.mk (Kd.V_below (by (with_reducible repeat (first | apply Kd.V_alloc | apply Kd.V_drewN | apply Kd.V_drew)); exact HO1.out) hb); have n2_ := Aside0.mk (Kd.V_lower (Kd.V_mono (ok' := fun k_ => ((P0_ k_ ∨ P1_ k_) ∨ w.heap.size ≤ k_)) ho0 (fun k_ hk_ => Or.elim hk_ (fun hs_ => hs_) (fun hn_ => (.inr (Nat.le_trans (below_size (by repeat (first | (with_reducible first | exact HB.out | apply below_alloc | apply pw_below_drewN | apply below_drew1) | exact HB.out))) hn_))))) (below_size (by repeat (first | (with_reducible first | exact HB.out | apply below_alloc | apply pw_below_drewN | apply below_drew1) | exact HB.out)))); have n3_ := Aside0.mk (below_step (by repeat (first | (with_reducible first | exact HB.out | apply below_alloc | apply pw_below_drewN | apply below_drew1) | exact HB.out)) hb); clear HO0; clear HO1; clear HB; have HO0 := n0_; have HO1 := n1_; have HO187 := n2_; have HB := n3_; clear n0_ n1_ n2_ n3_; (try clear hb); (try clear hb2); (try clear hk); (try clear hi); (try clear ho0); obtain ⟨Ao8, co8, eo8⟩ := Kd.V_slice HO187.out; subst eo8) | ((with_reducible refine gate_callee (f := 41) rfl ?_); refine goesL_ (some 19) rfl rfl Tryz.func41 (by kernel_rfl) rfl #[.slice Ao8 t185.length co8, .int .i64 2, .int .i64 0] rfl (by (try simp only [List.map_toArray, List.map_cons, List.map_nil]); first | done | rfl | (simp only [List.length_drop, List.length_take]; rfl)) ?_; (with_reducible refine (spec_l01Times.calls k _ _ t185 2 0 t188 _ ?side1 ?side2 A6.out).mono ?_); (case side1 => repeat (first | exact (Kd.V_reads' HO187.out).2.2 | (with_reducible refine Kd.C_alloc ?_ _) | (with_reducible refine Kd.C_drewN ?_ _) | (with_reducible refine Kd.C_drew ?_))); (case side2 => exact (Kd.V_reads' HO187.out).2.1); rintro e w9 ⟨v189, rfl, ho0, hb⟩; refine ⟨_, rfl, ?_⟩; have n0_ := Aside0.mk (Kd.V_below (by (with_reducible repeat (first | apply Kd.V_alloc | apply Kd.V_drewN | apply Kd.V_drew)); exact HO0.out) hb); have n1_ := Aside0.mk (Kd.V_below (by (with_reducible repeat (first | apply Kd.V_alloc | apply Kd.V_drewN | apply Kd.V_drew)); exact HO1.out) hb); have n2_ := Aside0.mk (Kd.V_below (by (with_reducible repeat (first | apply Kd.V_alloc | apply Kd.V_drewN | apply Kd.V_drew)); exact HO187.out) hb); have n3_ := Aside0.mk (Kd.V_lower (Kd.V_mono (ok' := fun k_ => ((P0_ k_ ∨ P1_ k_) ∨ w.heap.size ≤ k_)) ho0 (fun k_ hk_ => (.inr (Nat.le_trans (below_size (by repeat (first | (with_reducible first | exact HB.out | apply below_alloc | apply pw_below_drewN | apply below_drew1) | exact HB.out))) hk_)))) (below_size (by repeat (first | (with_reducible first | exact HB.out | apply below_alloc | apply pw_below_drewN | apply below_drew1) | exact HB.out)))); have n4_ := Aside0.mk (below_step (by repeat (first | (with_reducible first | exact HB.out | apply below_alloc | apply pw_below_drewN | apply below_drew1) | exact HB.out)) hb); clear HO0; clear HO1; clear HO187; clear HB; have HO0 := n0_; have HO1 := n1_; have HO187 := n2_; have HO190 := n3_; have HB := n4_; clear n0_ n1_ n2_ n3_ n4_; (try clear hb); (try clear hb2); (try clear hk); (try clear hi); (try clear ho0)))
  go_loopg [1, 2, 8] k (fun kq v1 v2 v8 w' => ∃ (x1_1 : List Int) (x2_1 : Int) (x8_1 : List Int), v2 = .int .i64 x2_1 ∧ Aside0 (spec_l01Word.l0 kq l0 x1_1 x2_1 x8_1 = some r) ∧ Aside0 (kq ≤ k) ∧ Aside0 (Kd.V (Kd.int .i64) 3 w' w.heap.size (fun k_ => ((P0_ k_ ∨ P1_ k_) ∨ w.heap.size ≤ k_)) (.slice A0 l0.length c0) l0) ∧ Aside0 (Kd.V (Kd.int .i64) 3 w' w.heap.size (fun k_ => ((P0_ k_ ∨ P1_ k_) ∨ w.heap.size ≤ k_)) v1 x1_1) ∧ Aside0 (Kd.V (Kd.int .i64) 3 w' w.heap.size (fun k_ => ((P0_ k_ ∨ P1_ k_) ∨ w.heap.size ≤ k_)) v8 x8_1) ∧ Aside0 (Below w.heap.size w w'))
  case atStart => exact ⟨(l1), (a2), (t188), (by first | rfl | (simp; done) | (simp [*]; done)), H', ⟨Nat.le_refl _⟩, ⟨by (with_reducible repeat (first | apply Kd.V_alloc | apply Kd.V_drewN | apply Kd.V_drew)); exact HO0.out⟩, ⟨by (with_reducible repeat (first | apply Kd.V_alloc | apply Kd.V_drewN | apply Kd.V_drew)); exact HO1.out⟩, ⟨by (with_reducible repeat (first | apply Kd.V_alloc | apply Kd.V_drewN | apply Kd.V_drew)); exact HO190.out⟩, ⟨by repeat (first | (with_reducible first | exact HB.out | apply below_alloc | apply pw_below_drewN | apply below_drew1) | exact HB.out)⟩⟩
  case round =>
   clear H';(try clear c1);(try clear p2);(try clear c4);(try clear c4b0);(try clear c4b1);(try clear c4b2);(try clear c7);obtain ⟨x1_1, x2_1, x8_1, rfl, HA, HK1, HO_0, HO_1, HO_8, HB⟩ := hrel
   cases gk with
   | zero => exact absurd HA.out (by simp [spec_l01Word.l0])
   | succ k1 =>
    have H := HA.out;clear HA;simp only [spec_l01Word.l0] at H;have HC10 := Aside0.mk H;clear H
    go_upto_region 5 with (fail)
    go_cut [27] (fun v27 wc => ∃ (kq : Nat) (x27_9 : Bool), v27 = .bool x27_9 ∧ Aside0 (spec_l01Word.j1 kq l0 x1_1 x2_1 x8_1 x27_9 = some r) ∧ Aside0 (kq ≤ k1) ∧ Aside0 (Kd.V (Kd.int .i64) 3 wc w.heap.size (fun k_ => ((P0_ k_ ∨ P1_ k_) ∨ w.heap.size ≤ k_)) (.slice A0 l0.length c0) l0) ∧ Aside0 (Kd.V (Kd.int .i64) 3 wc w.heap.size (fun k_ => ((P0_ k_ ∨ P1_ k_) ∨ w.heap.size ≤ k_)) u1 x1_1) ∧ Aside0 (Kd.V (Kd.int .i64) 3 wc w.heap.size (fun k_ => ((P0_ k_ ∨ P1_ k_) ∨ w.heap.size ≤ k_)) u8 x8_1) ∧ Aside0 (Below w.heap.size w wc))
    case first =>
     have H := HC10.out;clear HC10;replace H := Option.bind_eq_some_iff.mp H;obtain ⟨t191, A110, H⟩ := H;replace H : (if t191 ≥ 0 then (spec_l01Word.j1 k1 l0 x1_1 x2_1 x8_1 true) else (spec_l01Word.j1 k1 l0 x1_1 x2_1 x8_1 (decide (x2_1 < (-1074))))) = some r := H;have A11 := Aside0.mk A110;clear A110;by_cases c12 : t191 ≥ 0
     ·rw [if_pos c12] at H;have c12b0 : decide (0 ≤ t191) = true := decide_eq_true c12;clear c12;(first | rw [c12b0] | (simp only [i64_w, i32_w]; rw [c12b0]) | skip);have H' := Aside0.mk H;clear H;obtain ⟨Ao13, co13, eo13⟩ := Kd.V_slice HO_8.out;subst eo13
      go_wp2_with (first | ((with_reducible refine gate_callee (f := 72) rfl ?_); refine goesL_ (some 22) rfl rfl Tryz.func72 (by kernel_rfl) rfl #[.slice A0 l0.length c0, .slice Ao13 x8_1.length co13] rfl (by (try simp only [List.map_toArray, List.map_cons, List.map_nil]); first | done | rfl | (simp only [List.length_drop, List.length_take]; rfl)) ?_; (with_reducible refine (spec_l01Cmp.calls k1 _ _ l0 _ _ x8_1 t191 _ ?side1 ?side2 ?side3 ?side4 A11.out).mono ?_); (case side1 => repeat (first | exact (Kd.V_reads' HO_0.out).2.2 | (with_reducible refine Kd.C_alloc ?_ _) | (with_reducible refine Kd.C_drewN ?_ _) | (with_reducible refine Kd.C_drew ?_))); (case side2 => exact (Kd.V_reads' HO_0.out).2.1); (case side3 => repeat (first | exact (Kd.V_reads' HO_8.out).2.2 | (with_reducible refine Kd.C_alloc ?_ _) | (with_reducible refine Kd.C_drewN ?_ _) | (with_reducible refine Kd.C_drew ?_))); (case side4 => exact (Kd.V_reads' HO_8.out).2.1); rintro e w' ⟨rfl, ⟨nd, rfl⟩⟩; refine ⟨_, rfl, ?_⟩))
      go_meet;case rel => exact ⟨_, (true), (by first | rfl | (simp; done) | (simp [*]; done)), H', ⟨by have := HK1.out; first | omega | exact Nat.le_refl _⟩, ⟨by (with_reducible repeat (first | apply Kd.V_alloc | apply Kd.V_drewN | apply Kd.V_drew)); exact HO_0.out⟩, ⟨by (with_reducible repeat (first | apply Kd.V_alloc | apply Kd.V_drewN | apply Kd.V_drew)); exact HO_1.out⟩, ⟨by (with_reducible repeat (first | apply Kd.V_alloc | apply Kd.V_drewN | apply Kd.V_drew)); exact HO_8.out⟩, ⟨by repeat (first | (with_reducible first | exact HB.out | apply below_alloc | apply pw_below_drewN | apply below_drew1) | exact HB.out)⟩⟩
     ·rw [if_neg c12] at H;have c12b0 : decide (0 ≤ t191) = false := decide_eq_false c12;clear c12;(first | rw [c12b0] | (simp only [i64_w, i32_w]; rw [c12b0]) | skip);have H' := Aside0.mk H;clear H;obtain ⟨Ao14, co14, eo14⟩ := Kd.V_slice HO_8.out;subst eo14
      go_wp2_with (first | ((with_reducible refine gate_callee (f := 72) rfl ?_); refine goesL_ (some 22) rfl rfl Tryz.func72 (by kernel_rfl) rfl #[.slice A0 l0.length c0, .slice Ao14 x8_1.length co14] rfl (by (try simp only [List.map_toArray, List.map_cons, List.map_nil]); first | done | rfl | (simp only [List.length_drop, List.length_take]; rfl)) ?_; (with_reducible refine (spec_l01Cmp.calls k1 _ _ l0 _ _ x8_1 t191 _ ?side1 ?side2 ?side3 ?side4 A11.out).mono ?_); (case side1 => repeat (first | exact (Kd.V_reads' HO_0.out).2.2 | (with_reducible refine Kd.C_alloc ?_ _) | (with_reducible refine Kd.C_drewN ?_ _) | (with_reducible refine Kd.C_drew ?_))); (case side2 => exact (Kd.V_reads' HO_0.out).2.1); (case side3 => repeat (first | exact (Kd.V_reads' HO_8.out).2.2 | (with_reducible refine Kd.C_alloc ?_ _) | (with_reducible refine Kd.C_drewN ?_ _) | (with_reducible refine Kd.C_drew ?_))); (case side4 => exact (Kd.V_reads' HO_8.out).2.1); rintro e w' ⟨rfl, ⟨nd, rfl⟩⟩; refine ⟨_, rfl, ?_⟩))
      go_meet;case rel => exact ⟨_, (decide (x2_1 < (-1074))), (by first | rfl | (simp; done) | (simp [*]; done)), H', ⟨by have := HK1.out; first | omega | exact Nat.le_refl _⟩, ⟨by (with_reducible repeat (first | apply Kd.V_alloc | apply Kd.V_drewN | apply Kd.V_drew)); exact HO_0.out⟩, ⟨by (with_reducible repeat (first | apply Kd.V_alloc | apply Kd.V_drewN | apply Kd.V_drew)); exact HO_1.out⟩, ⟨by (with_reducible repeat (first | apply Kd.V_alloc | apply Kd.V_drewN | apply Kd.V_drew)); exact HO_8.out⟩, ⟨by repeat (first | (with_reducible first | exact HB.out | apply below_alloc | apply pw_below_drewN | apply below_drew1) | exact HB.out)⟩⟩
    case rest =>
     clear HC10;(try clear c1);(try clear p2);(try clear c4);(try clear c4b0);(try clear c4b1);(try clear c4b2);(try clear c7);(try clear c12);(try clear c12b0);(try clear p2);obtain ⟨kq, x27_9, rfl, HA, HJ9, HO_0, HO_1, HO_8, HB⟩ := hcut
     cases kq with
     | zero => exact absurd HA.out (by simp [spec_l01Word.j1])
     | succ kj9 =>
      have H := HA.out;clear HA;simp only [spec_l01Word.j1] at H;by_cases c15 : x27_9 = true
      ·subst c15;have H1 : ((spec_l01Times.f kj9 x8_1 2 0).bind fun t192 => ((spec_l01Times.f kj9 x1_1 2 0).bind fun t195 => (spec_l01Word.l0 kj9 l0 t195 (wrap64 (x2_1 + 1)) t192))) = some r := (by rw [if_pos rfl] at H; exact H);clear H;have H := H1;clear H1;replace H := Option.bind_eq_some_iff.mp H;obtain ⟨t192, A160, H⟩ := H;replace H : ((spec_l01Times.f kj9 x1_1 2 0).bind fun t195 => (spec_l01Word.l0 kj9 l0 t195 (wrap64 (x2_1 + 1)) t192)) = some r := H;have A16 := Aside0.mk A160;clear A160;replace H := Option.bind_eq_some_iff.mp H;obtain ⟨t195, A170, H⟩ := H;replace H : (spec_l01Word.l0 kj9 l0 t195 (wrap64 (x2_1 + 1)) t192) = some r := H;have A17 := Aside0.mk A170;clear A170;have H' := Aside0.mk H;clear H;obtain ⟨Ao18, co18, eo18⟩ := Kd.V_slice HO_8.out;subst eo18
       go_wp2_with (first | ((with_reducible refine gate_callee (f := 41) rfl ?_); refine goesL_ (some 29) rfl rfl Tryz.func41 (by kernel_rfl) rfl #[.slice Ao18 x8_1.length co18, .int .i64 2, .int .i64 0] rfl (by (try simp only [List.map_toArray, List.map_cons, List.map_nil]); first | done | rfl | (simp only [List.length_drop, List.length_take]; rfl)) ?_; (with_reducible refine (spec_l01Times.calls kj9 _ _ x8_1 2 0 t192 _ ?side1 ?side2 A16.out).mono ?_); (case side1 => repeat (first | exact (Kd.V_reads' HO_8.out).2.2 | (with_reducible refine Kd.C_alloc ?_ _) | (with_reducible refine Kd.C_drewN ?_ _) | (with_reducible refine Kd.C_drew ?_))); (case side2 => exact (Kd.V_reads' HO_8.out).2.1); rintro e w19 ⟨v193, rfl, ho0, hb⟩; refine ⟨_, rfl, ?_⟩; have n0_ := Aside0.mk (Kd.V_below (by (with_reducible repeat (first | apply Kd.V_alloc | apply Kd.V_drewN | apply Kd.V_drew)); exact HO_0.out) hb); have n1_ := Aside0.mk (Kd.V_below (by (with_reducible repeat (first | apply Kd.V_alloc | apply Kd.V_drewN | apply Kd.V_drew)); exact HO_1.out) hb); have n2_ := Aside0.mk (Kd.V_below (by (with_reducible repeat (first | apply Kd.V_alloc | apply Kd.V_drewN | apply Kd.V_drew)); exact HO_8.out) hb); have n3_ := Aside0.mk (Kd.V_lower (Kd.V_mono (ok' := fun k_ => ((P0_ k_ ∨ P1_ k_) ∨ w.heap.size ≤ k_)) ho0 (fun k_ hk_ => (.inr (Nat.le_trans (below_size (by repeat (first | (with_reducible first | exact HB.out | apply below_alloc | apply pw_below_drewN | apply below_drew1) | exact HB.out))) hk_)))) (below_size (by repeat (first | (with_reducible first | exact HB.out | apply below_alloc | apply pw_below_drewN | apply below_drew1) | exact HB.out)))); have n4_ := Aside0.mk (below_step (by repeat (first | (with_reducible first | exact HB.out | apply below_alloc | apply pw_below_drewN | apply below_drew1) | exact HB.out)) hb); clear HO_0; clear HO_1; clear HO_8; clear HB; have HO_0 := n0_; have HO_1 := n1_; have HO_8 := n2_; have HO194 := n3_; have HB := n4_; clear n0_ n1_ n2_ n3_ n4_; (try clear hb); (try clear hb2); (try clear hk); (try clear hi); (try clear ho0); obtain ⟨Ao20, co20, eo20⟩ := Kd.V_slice HO_1.out; subst eo20) | ((with_reducible refine gate_callee (f := 41) rfl ?_); refine goesL_ (some 31) rfl rfl Tryz.func41 (by kernel_rfl) rfl #[.slice Ao20 x1_1.length co20, .int .i64 2, .int .i64 0] rfl (by (try simp only [List.map_toArray, List.map_cons, List.map_nil]); first | done | rfl | (simp only [List.length_drop, List.length_take]; rfl)) ?_; (with_reducible refine (spec_l01Times.calls kj9 _ _ x1_1 2 0 t195 _ ?side1 ?side2 A17.out).mono ?_); (case side1 => repeat (first | exact (Kd.V_reads' HO_1.out).2.2 | (with_reducible refine Kd.C_alloc ?_ _) | (with_reducible refine Kd.C_drewN ?_ _) | (with_reducible refine Kd.C_drew ?_))); (case side2 => exact (Kd.V_reads' HO_1.out).2.1); rintro e w21 ⟨v196, rfl, ho0, hb⟩; refine ⟨_, rfl, ?_⟩; have n0_ := Aside0.mk (Kd.V_below (by (with_reducible repeat (first | apply Kd.V_alloc | apply Kd.V_drewN | apply Kd.V_drew)); exact HO_0.out) hb); have n1_ := Aside0.mk (Kd.V_below (by (with_reducible repeat (first | apply Kd.V_alloc | apply Kd.V_drewN | apply Kd.V_drew)); exact HO_1.out) hb); have n2_ := Aside0.mk (Kd.V_below (by (with_reducible repeat (first | apply Kd.V_alloc | apply Kd.V_drewN | apply Kd.V_drew)); exact HO_8.out) hb); have n3_ := Aside0.mk (Kd.V_below (by (with_reducible repeat (first | apply Kd.V_alloc | apply Kd.V_drewN | apply Kd.V_drew)); exact HO194.out) hb); have n4_ := Aside0.mk (Kd.V_lower (Kd.V_mono (ok' := fun k_ => ((P0_ k_ ∨ P1_ k_) ∨ w.heap.size ≤ k_)) ho0 (fun k_ hk_ => (.inr (Nat.le_trans (below_size (by repeat (first | (with_reducible first | exact HB.out | apply below_alloc | apply pw_below_drewN | apply below_drew1) | exact HB.out))) hk_)))) (below_size (by repeat (first | (with_reducible first | exact HB.out | apply below_alloc | apply pw_below_drewN | apply below_drew1) | exact HB.out)))); have n5_ := Aside0.mk (below_step (by repeat (first | (with_reducible first | exact HB.out | apply below_alloc | apply pw_below_drewN | apply below_drew1) | exact HB.out)) hb); clear HO_0; clear HO_1; clear HO_8; clear HO194; clear HB; have HO_0 := n0_; have HO_1 := n1_; have HO_8 := n2_; have HO194 := n3_; have HO197 := n4_; have HB := n5_; clear n0_ n1_ n2_ n3_ n4_ n5_; (try clear hb); (try clear hb2); (try clear hk); (try clear hi); (try clear ho0)))
       go_roundg kj9
       case measure => have := HK1.out; have := HJ9.out; omega
       case rel => exact ⟨(t195), (wrap64 (x2_1 + 1)), (t192), (by first | rfl | (simp; done) | (simp [*]; done)), H', ⟨by have := HK1.out; have := HJ9.out; omega⟩, ⟨by (with_reducible repeat (first | apply Kd.V_alloc | apply Kd.V_drewN | apply Kd.V_drew)); exact HO_0.out⟩, ⟨by (with_reducible repeat (first | apply Kd.V_alloc | apply Kd.V_drewN | apply Kd.V_drew)); exact HO197.out⟩, ⟨by (with_reducible repeat (first | apply Kd.V_alloc | apply Kd.V_drewN | apply Kd.V_drew)); exact HO194.out⟩, ⟨by repeat (first | (with_reducible first | exact HB.out | apply below_alloc | apply pw_below_drewN | apply below_drew1) | exact HB.out)⟩⟩
      ·replace c15 := Bool.eq_false_iff.mpr c15;subst c15;have H1 : ((spec_l01Half.f kj9 x8_1).bind fun t198 => (spec_l01Word.l1 kj9 l0 x1_1 x2_1 t198)) = some r := (by rw [if_neg (show ¬ (false = true) by decide)] at H; exact H);clear H;have H := H1;clear H1;replace H := Option.bind_eq_some_iff.mp H;obtain ⟨t198, A220, H⟩ := H;replace H : (spec_l01Word.l1 kj9 l0 x1_1 x2_1 t198) = some r := H;have A22 := Aside0.mk A220;clear A220;have HC23 := Aside0.mk H;clear H;obtain ⟨Ao24, co24, eo24⟩ := Kd.V_slice HO_8.out;subst eo24
       go_upto_block 2 with (first | ((with_reducible refine gate_callee (f := 73) rfl ?_); refine goesL_ (some 35) rfl rfl Tryz.func73 (by kernel_rfl) rfl #[.slice Ao24 x8_1.length co24] rfl (by (try simp only [List.map_toArray, List.map_cons, List.map_nil]); first | done | rfl | (simp only [List.length_drop, List.length_take]; rfl)) ?_; (with_reducible refine (spec_l01Half.calls kj9 _ _ x8_1 t198 _ ?side1 ?side2 A22.out).mono ?_); (case side1 => repeat (first | exact (Kd.V_reads' HO_8.out).2.2 | (with_reducible refine Kd.C_alloc ?_ _) | (with_reducible refine Kd.C_drewN ?_ _) | (with_reducible refine Kd.C_drew ?_))); (case side2 => exact (Kd.V_reads' HO_8.out).2.1); rintro e w25 ⟨v199, rfl, ho0, hb⟩; refine ⟨_, rfl, ?_⟩; have n0_ := Aside0.mk (Kd.V_below (by (with_reducible repeat (first | apply Kd.V_alloc | apply Kd.V_drewN | apply Kd.V_drew)); exact HO_0.out) hb); have n1_ := Aside0.mk (Kd.V_below (by (with_reducible repeat (first | apply Kd.V_alloc | apply Kd.V_drewN | apply Kd.V_drew)); exact HO_1.out) hb); have n2_ := Aside0.mk (Kd.V_below (by (with_reducible repeat (first | apply Kd.V_alloc | apply Kd.V_drewN | apply Kd.V_drew)); exact HO_8.out) hb); have n3_ := Aside0.mk (Kd.V_lower (Kd.V_mono (ok' := fun k_ => ((P0_ k_ ∨ P1_ k_) ∨ w.heap.size ≤ k_)) ho0 (fun k_ hk_ => (.inr (Nat.le_trans (below_size (by repeat (first | (with_reducible first | exact HB.out | apply below_alloc | apply pw_below_drewN | apply below_drew1) | exact HB.out))) hk_)))) (below_size (by repeat (first | (with_reducible first | exact HB.out | apply below_alloc | apply pw_below_drewN | apply below_drew1) | exact HB.out)))); have n4_ := Aside0.mk (below_step (by repeat (first | (with_reducible first | exact HB.out | apply below_alloc | apply pw_below_drewN | apply below_drew1) | exact HB.out)) hb); clear HO_0; clear HO_1; clear HO_8; clear HB; have HO_0 := n0_; have HO_1 := n1_; have HO_8 := n2_; have HO200 := n3_; have HB := n4_; clear n0_ n1_ n2_ n3_ n4_; (try clear hb); (try clear hb2); (try clear hk); (try clear hi); (try clear ho0)))
       (try simp only [Act.put, List.setIfInBounds_toArray, List.set_cons_zero, List.set_cons_succ])
       go_cut [0, 2] (fun v0 v2 wc => ∃ (kq : Nat) (x0_22 : List Int) (x2_22 : Int), v2 = .int .i64 x2_22 ∧ Aside0 (spec_l01Word.j3 kq x0_22 x1_1 x2_22 t198 = some r) ∧ Aside0 (kq ≤ kj9) ∧ Aside0 (Kd.V (Kd.int .i64) 3 wc w.heap.size (fun k_ => ((P0_ k_ ∨ P1_ k_) ∨ w.heap.size ≤ k_)) v0 x0_22) ∧ Aside0 (Kd.V (Kd.int .i64) 3 wc w.heap.size (fun k_ => ((P0_ k_ ∨ P1_ k_) ∨ w.heap.size ≤ k_)) u1 x1_1) ∧ Aside0 (Kd.V (Kd.int .i64) 3 wc w.heap.size (fun k_ => ((P0_ k_ ∨ P1_ k_) ∨ w.heap.size ≤ k_)) v199 t198) ∧ Aside0 (Below w.heap.size w wc))
       case first =>
        have H := HC23.out;clear HC23;have H' := Aside0.mk H;clear H;go_wp2
        go_loopg [0, 2] kj9 (fun kq v0 v2 w' => ∃ (x0_3 : List Int) (x2_3 : Int), v2 = .int .i64 x2_3 ∧ Aside0 (spec_l01Word.l1 kq x0_3 x1_1 x2_3 t198 = some r) ∧ Aside0 (kq ≤ kj9) ∧ Aside0 (Kd.V (Kd.int .i64) 3 w' w.heap.size (fun k_ => ((P0_ k_ ∨ P1_ k_) ∨ w.heap.size ≤ k_)) v0 x0_3) ∧ Aside0 (Kd.V (Kd.int .i64) 3 w' w.heap.size (fun k_ => ((P0_ k_ ∨ P1_ k_) ∨ w.heap.size ≤ k_)) u1 x1_1) ∧ Aside0 (Kd.V (Kd.int .i64) 3 w' w.heap.size (fun k_ => ((P0_ k_ ∨ P1_ k_) ∨ w.heap.size ≤ k_)) v199 t198) ∧ Aside0 (Below w.heap.size w w'))
        case atStart => exact ⟨(l0), (x2_1), (by first | rfl | (simp; done) | (simp [*]; done)), H', ⟨Nat.le_refl _⟩, ⟨by (with_reducible repeat (first | apply Kd.V_alloc | apply Kd.V_drewN | apply Kd.V_drew)); exact HO_0.out⟩, ⟨by (with_reducible repeat (first | apply Kd.V_alloc | apply Kd.V_drewN | apply Kd.V_drew)); exact HO_1.out⟩, ⟨by (with_reducible repeat (first | apply Kd.V_alloc | apply Kd.V_drewN | apply Kd.V_drew)); exact HO200.out⟩, ⟨by repeat (first | (with_reducible first | exact HB.out | apply below_alloc | apply pw_below_drewN | apply below_drew1) | exact HB.out)⟩⟩
        case round =>
         clear H';(try clear c1);(try clear p2);(try clear c4);(try clear c4b0);(try clear c4b1);(try clear c4b2);(try clear p6);(try clear c7);(try clear c12);(try clear c12b0);(try clear c15);(try clear p2);obtain ⟨x0_3, x2_3, rfl, HA, HK3, HO_0, HO_1, HO_7, HB⟩ := hrel
         cases gk with
         | zero => exact absurd HA.out (by simp [spec_l01Word.l1])
         | succ k3 =>
          have H := HA.out;clear HA;simp only [spec_l01Word.l1] at H;by_cases c26 : x2_3 > (-1074)
          ·rw [if_pos c26] at H;have c26b0 : decide ((-1074) < x2_3) = true := decide_eq_true c26;clear c26;(first | rw [c26b0] | (simp only [i64_w, i32_w]; rw [c26b0]) | skip);replace H := Option.bind_eq_some_iff.mp H;obtain ⟨t201, A270, H⟩ := H;replace H : (if t201 < 0 then ((spec_l01Times.f k3 x0_3 2 0).bind fun t202 => (spec_l01Word.l1 k3 t202 x1_1 (wrap64 (x2_3 - 1)) t198)) else (spec_l01Word.j3 k3 x0_3 x1_1 x2_3 t198)) = some r := H;have A27 := Aside0.mk A270;clear A270;by_cases c28 : t201 < 0
           ·rw [if_pos c28] at H;have c28b0 : decide (t201 < 0) = true := decide_eq_true c28;clear c28;replace H := Option.bind_eq_some_iff.mp H;obtain ⟨t202, A290, H⟩ := H;replace H : (spec_l01Word.l1 k3 t202 x1_1 (wrap64 (x2_3 - 1)) t198) = some r := H;have A29 := Aside0.mk A290;clear A290;have H' := Aside0.mk H;clear H;obtain ⟨Ao30, co30, eo30⟩ := Kd.V_slice HO_0.out;subst eo30;obtain ⟨Ao31, co31, eo31⟩ := Kd.V_slice HO_7.out;subst eo31
            go_wp2_with (first | (go_at_call 72; (with_reducible refine (spec_l01Cmp.calls k3 _ _ x0_3 _ _ t198 t201 _ ?side1 ?side2 ?side3 ?side4 A27.out).mono ?_); (case side1 => repeat (first | exact (Kd.V_reads' HO_0.out).2.2 | (with_reducible refine Kd.C_alloc ?_ _) | (with_reducible refine Kd.C_drewN ?_ _) | (with_reducible refine Kd.C_drew ?_))); (case side2 => exact (Kd.V_reads' HO_0.out).2.1); (case side3 => repeat (first | exact (Kd.V_reads' HO_7.out).2.2 | (with_reducible refine Kd.C_alloc ?_ _) | (with_reducible refine Kd.C_drewN ?_ _) | (with_reducible refine Kd.C_drew ?_))); (case side4 => exact (Kd.V_reads' HO_7.out).2.1); rintro e w' ⟨rfl, ⟨nd, rfl⟩⟩) | ((with_reducible refine gate_callee (f := 41) rfl ?_); refine goesL_ (some 45) rfl rfl Tryz.func41 (by kernel_rfl) rfl #[.slice Ao30 x0_3.length co30, .int .i64 2, .int .i64 0] rfl (by (try simp only [List.map_toArray, List.map_cons, List.map_nil]); first | done | rfl | (simp only [List.length_drop, List.length_take]; rfl)) ?_; (with_reducible refine (spec_l01Times.calls k3 _ _ x0_3 2 0 t202 _ ?side1 ?side2 A29.out).mono ?_); (case side1 => repeat (first | exact (Kd.V_reads' HO_0.out).2.2 | (with_reducible refine Kd.C_alloc ?_ _) | (with_reducible refine Kd.C_drewN ?_ _) | (with_reducible refine Kd.C_drew ?_))); (case side2 => exact (Kd.V_reads' HO_0.out).2.1); rintro e w32 ⟨v203, rfl, ho0, hb⟩; refine ⟨_, rfl, ?_⟩; have n0_ := Aside0.mk (Kd.V_below (by (with_reducible repeat (first | apply Kd.V_alloc | apply Kd.V_drewN | apply Kd.V_drew)); exact HO_0.out) hb); have n1_ := Aside0.mk (Kd.V_below (by (with_reducible repeat (first | apply Kd.V_alloc | apply Kd.V_drewN | apply Kd.V_drew)); exact HO_1.out) hb); have n2_ := Aside0.mk (Kd.V_below (by (with_reducible repeat (first | apply Kd.V_alloc | apply Kd.V_drewN | apply Kd.V_drew)); exact HO_7.out) hb); have n3_ := Aside0.mk (Kd.V_lower (Kd.V_mono (ok' := fun k_ => ((P0_ k_ ∨ P1_ k_) ∨ w.heap.size ≤ k_)) ho0 (fun k_ hk_ => (.inr (Nat.le_trans (below_size (by repeat (first | (with_reducible first | exact HB.out | apply below_alloc | apply pw_below_drewN | apply below_drew1) | exact HB.out))) hk_)))) (below_size (by repeat (first | (with_reducible first | exact HB.out | apply below_alloc | apply pw_below_drewN | apply below_drew1) | exact HB.out)))); have n4_ := Aside0.mk (below_step (by repeat (first | (with_reducible first | exact HB.out | apply below_alloc | apply pw_below_drewN | apply below_drew1) | exact HB.out)) hb); clear HO_0; clear HO_1; clear HO_7; clear HB; have HO_0 := n0_; have HO_1 := n1_; have HO_7 := n2_; have HO204 := n3_; have HB := n4_; clear n0_ n1_ n2_ n3_ n4_; (try clear hb); (try clear hb2); (try clear hk); (try clear hi); (try clear ho0)))
            go_roundg k3
            case measure => have := HK1.out; have := HJ9.out; have := HK3.out; omega
            case rel => exact ⟨(t202), (wrap64 (x2_3 - 1)), (by first | rfl | (simp; done) | (simp [*]; done)), H', ⟨by have := HK1.out; have := HJ9.out; have := HK3.out; omega⟩, ⟨by (with_reducible repeat (first | apply Kd.V_alloc | apply Kd.V_drewN | apply Kd.V_drew)); exact HO204.out⟩, ⟨by (with_reducible repeat (first | apply Kd.V_alloc | apply Kd.V_drewN | apply Kd.V_drew)); exact HO_1.out⟩, ⟨by (with_reducible repeat (first | apply Kd.V_alloc | apply Kd.V_drewN | apply Kd.V_drew)); exact HO_7.out⟩, ⟨by repeat (first | (with_reducible first | exact HB.out | apply below_alloc | apply pw_below_drewN | apply below_drew1) | exact HB.out)⟩⟩
           ·rw [if_neg c28] at H;have c28b0 : decide (t201 < 0) = false := decide_eq_false c28;clear c28;have H' := Aside0.mk H;clear H;obtain ⟨Ao33, co33, eo33⟩ := Kd.V_slice HO_0.out;subst eo33;obtain ⟨Ao34, co34, eo34⟩ := Kd.V_slice HO_7.out;subst eo34
            go_wp2_with (first | (go_at_call 72; (with_reducible refine (spec_l01Cmp.calls k3 _ _ x0_3 _ _ t198 t201 _ ?side1 ?side2 ?side3 ?side4 A27.out).mono ?_); (case side1 => repeat (first | exact (Kd.V_reads' HO_0.out).2.2 | (with_reducible refine Kd.C_alloc ?_ _) | (with_reducible refine Kd.C_drewN ?_ _) | (with_reducible refine Kd.C_drew ?_))); (case side2 => exact (Kd.V_reads' HO_0.out).2.1); (case side3 => repeat (first | exact (Kd.V_reads' HO_7.out).2.2 | (with_reducible refine Kd.C_alloc ?_ _) | (with_reducible refine Kd.C_drewN ?_ _) | (with_reducible refine Kd.C_drew ?_))); (case side4 => exact (Kd.V_reads' HO_7.out).2.1); rintro e w' ⟨rfl, ⟨nd, rfl⟩⟩))
            go_meet;case rel => exact ⟨_, (x0_3), (x2_3), (by first | rfl | (simp; done) | (simp [*]; done)), H', ⟨by have := HK1.out; have := HJ9.out; have := HK3.out; first | omega | exact Nat.le_refl _⟩, ⟨by (with_reducible repeat (first | apply Kd.V_alloc | apply Kd.V_drewN | apply Kd.V_drew)); exact HO_0.out⟩, ⟨by (with_reducible repeat (first | apply Kd.V_alloc | apply Kd.V_drewN | apply Kd.V_drew)); exact HO_1.out⟩, ⟨by (with_reducible repeat (first | apply Kd.V_alloc | apply Kd.V_drewN | apply Kd.V_drew)); exact HO_7.out⟩, ⟨by repeat (first | (with_reducible first | exact HB.out | apply below_alloc | apply pw_below_drewN | apply below_drew1) | exact HB.out)⟩⟩
          ·rw [if_neg c26] at H;have c26b0 : decide ((-1074) < x2_3) = false := decide_eq_false c26;clear c26;(first | rw [c26b0] | (simp only [i64_w, i32_w]; rw [c26b0]) | skip);have H' := Aside0.mk H;clear H;go_wp2;go_meet;case rel => exact ⟨_, (x0_3), (x2_3), (by first | rfl | (simp; done) | (simp [*]; done)), H', ⟨by have := HK1.out; have := HJ9.out; have := HK3.out; first | omega | exact Nat.le_refl _⟩, ⟨by (with_reducible repeat (first | apply Kd.V_alloc | apply Kd.V_drewN | apply Kd.V_drew)); exact HO_0.out⟩, ⟨by (with_reducible repeat (first | apply Kd.V_alloc | apply Kd.V_drewN | apply Kd.V_drew)); exact HO_1.out⟩, ⟨by (with_reducible repeat (first | apply Kd.V_alloc | apply Kd.V_drewN | apply Kd.V_drew)); exact HO_7.out⟩, ⟨by repeat (first | (with_reducible first | exact HB.out | apply below_alloc | apply pw_below_drewN | apply below_drew1) | exact HB.out)⟩⟩
       case rest =>
        clear HC23;(try clear c1);(try clear c2);(try clear p2);(try clear c4);(try clear c4b0);(try clear c4b1);(try clear c4b2);(try clear p6);(try clear c7);(try clear c12);(try clear c12b0);(try clear c15);(try clear c26);(try clear c26b0);(try clear c28);(try clear c28b0);(try clear p2);(try clear p6);obtain ⟨kq, x0_22, x2_22, rfl, HA, HJ22, HO_0, HO_1, HO_7, HB⟩ := hcut
        cases kq with
        | zero => exact absurd HA.out (by simp [spec_l01Word.j3])
        | succ kj22 =>
         have H := HA.out;clear HA;simp only [spec_l01Word.j3] at H;have H' := Aside0.mk H;clear H;go_wp2
         go_loopg [0, 9, 10, 11] kj22 (fun kq v0 v9 v10 v11 w' => ∃ (x0_4 : List Int) (x9_4 : Int) (x10_4 : List Int) (x11_4 : Int), v9 = .int .u64 x9_4 ∧ v11 = .int .i64 x11_4 ∧ Aside0 (spec_l01Word.l2 kq x0_4 x1_1 x2_22 x9_4 x10_4 x11_4 = some r) ∧ Aside0 (kq ≤ kj22) ∧ Aside0 (Kd.V (Kd.int .i64) 3 w' w.heap.size (fun k_ => ((P0_ k_ ∨ P1_ k_) ∨ w.heap.size ≤ k_)) v0 x0_4) ∧ Aside0 (Kd.V (Kd.int .i64) 3 w' w.heap.size (fun k_ => ((P0_ k_ ∨ P1_ k_) ∨ w.heap.size ≤ k_)) u1 x1_1) ∧ Aside0 (Kd.V (Kd.int .i64) 3 w' w.heap.size (fun k_ => ((P0_ k_ ∨ P1_ k_) ∨ w.heap.size ≤ k_)) v10 x10_4) ∧ Aside0 (Below w.heap.size w w'))
         case atStart => exact ⟨(x0_22), (0), (t198), (52), (by first | rfl | (simp; done) | (simp [*]; done)), (by first | rfl | (simp; done) | (simp [*]; done)), H', ⟨Nat.le_refl _⟩, ⟨by (with_reducible repeat (first | apply Kd.V_alloc | apply Kd.V_drewN | apply Kd.V_drew)); exact HO_0.out⟩, ⟨by (with_reducible repeat (first | apply Kd.V_alloc | apply Kd.V_drewN | apply Kd.V_drew)); exact HO_1.out⟩, ⟨by (with_reducible repeat (first | apply Kd.V_alloc | apply Kd.V_drewN | apply Kd.V_drew)); exact HO_7.out⟩, ⟨by repeat (first | (with_reducible first | exact HB.out | apply below_alloc | apply pw_below_drewN | apply below_drew1) | exact HB.out)⟩⟩
         case round =>
          clear H';(try clear c1);(try clear c2);(try clear p2);(try clear c4);(try clear c4b0);(try clear c4b1);(try clear c4b2);(try clear p6);(try clear c7);(try clear c12);(try clear c12b0);(try clear c15);(try clear c26);(try clear c26b0);(try clear c28);(try clear c28b0);(try clear p2);(try clear p6);obtain ⟨x0_4, x9_4, x10_4, x11_4, rfl, rfl, HA, HK4, HO_0, HO_1, HO_10, HB⟩ := hrel
          cases gk with
          | zero => exact absurd HA.out (by simp [spec_l01Word.l2])
          | succ k4 =>
           have H := HA.out;clear HA;simp only [spec_l01Word.l2] at H;by_cases c35 : x11_4 ≥ 0
           ·rw [if_pos c35] at H;have c35b0 : decide (0 ≤ x11_4) = true := decide_eq_true c35;clear c35;replace H := Option.bind_eq_some_iff.mp H;obtain ⟨t205, A360, H⟩ := H;replace H : (if t205 ≥ 0 then ((spec_l01Minus.f k4 x0_4 x10_4).bind fun t206 => (if 0 ≤ x11_4 then ((spec_l01Half.f k4 x10_4).bind fun t209 => (spec_l01Word.l2 k4 t206 x1_1 x2_22 (IntKind.u64.wrap (x9_4 + (shl .u64 1 x11_4))) t209 (wrap64 (x11_4 - 1)))) else (none))) else ((spec_l01Half.f k4 x10_4).bind fun t212 => (spec_l01Word.l2 k4 x0_4 x1_1 x2_22 x9_4 t212 (wrap64 (x11_4 - 1))))) = some r := H;have A36 := Aside0.mk A360;clear A360;by_cases c37 : t205 ≥ 0
            ·rw [if_pos c37] at H;have c37b0 : decide (0 ≤ t205) = true := decide_eq_true c37;clear c37;replace H := Option.bind_eq_some_iff.mp H;obtain ⟨t206, A380, H⟩ := H;replace H : (if 0 ≤ x11_4 then ((spec_l01Half.f k4 x10_4).bind fun t209 => (spec_l01Word.l2 k4 t206 x1_1 x2_22 (IntKind.u64.wrap (x9_4 + (shl .u64 1 x11_4))) t209 (wrap64 (x11_4 - 1)))) else (none)) = some r := H;have A38 := Aside0.mk A380;clear A380;by_cases c39 : 0 ≤ x11_4
             ·rw [if_pos c39] at H;have c39b0 := eq_true c39;have c39b1 : decide (0 ≤ x11_4) = true := decide_eq_true c39;clear c39;obtain ⟨ji40, hji40⟩ : ∃ j_ : Int, (shl .u64 1 x11_4) = j_ := ⟨_, rfl⟩;replace H : ((spec_l01Half.f k4 x10_4).bind fun t209 => (spec_l01Word.l2 k4 t206 x1_1 x2_22 (IntKind.u64.wrap (x9_4 + (ji40))) t209 (wrap64 (x11_4 - 1)))) = some r := (by first | (rw [hji40] at H; exact H) | (simp only [hji40] at H ⊢; exact H));(try rw [hji40] at A36);(try rw [hji40] at A38);have hji40_ : (IntKind.u64.wrap (1 * 2 ^ min x11_4.toNat 64)) = ji40 := hji40;have hji40z : x11_4 ≤ 64 → (IntKind.u64.wrap (1 * 2 ^ x11_4.toNat)) = ji40 := shl_small hji40;have hji40u : (IntKind.u64.wrap (2 ^ min x11_4.toNat 64)) = ji40 := (by have h_ := hji40_; rw [Int.one_mul] at h_; exact h_);have hji40v : x11_4 ≤ 64 → (IntKind.u64.wrap (2 ^ x11_4.toNat)) = ji40 := fun hle_ => by have h_ := hji40z hle_; rw [Int.one_mul] at h_; exact h_
              replace H := Option.bind_eq_some_iff.mp H;obtain ⟨t209, A410, H⟩ := H;replace H : (spec_l01Word.l2 k4 t206 x1_1 x2_22 (IntKind.u64.wrap (x9_4 + (ji40))) t209 (wrap64 (x11_4 - 1))) = some r := H;have A41 := Aside0.mk A410;clear A410;have H' := Aside0.mk H;clear H;obtain ⟨Ao42, co42, eo42⟩ := Kd.V_slice HO_0.out;subst eo42;obtain ⟨Ao43, co43, eo43⟩ := Kd.V_slice HO_10.out;subst eo43
              go_wp2_with (first | ((with_reducible refine gate_callee (f := 72) rfl ?_); refine goesL_ (some 55) rfl rfl Tryz.func72 (by kernel_rfl) rfl #[.slice Ao42 x0_4.length co42, .slice Ao43 x10_4.length co43] rfl (by (try simp only [List.map_toArray, List.map_cons, List.map_nil]); first | done | rfl | (simp only [List.length_drop, List.length_take]; rfl)) ?_; (with_reducible refine (spec_l01Cmp.calls k4 _ _ x0_4 _ _ x10_4 t205 _ ?side1 ?side2 ?side3 ?side4 A36.out).mono ?_); (case side1 => repeat (first | exact (Kd.V_reads' HO_0.out).2.2 | (with_reducible refine Kd.C_alloc ?_ _) | (with_reducible refine Kd.C_drewN ?_ _) | (with_reducible refine Kd.C_drew ?_))); (case side2 => exact (Kd.V_reads' HO_0.out).2.1); (case side3 => repeat (first | exact (Kd.V_reads' HO_10.out).2.2 | (with_reducible refine Kd.C_alloc ?_ _) | (with_reducible refine Kd.C_drewN ?_ _) | (with_reducible refine Kd.C_drew ?_))); (case side4 => exact (Kd.V_reads' HO_10.out).2.1); rintro e w' ⟨rfl, ⟨nd, rfl⟩⟩; refine ⟨_, rfl, ?_⟩) | ((with_reducible refine gate_callee (f := 74) rfl ?_); refine goesL_ (some 59) rfl rfl Tryz.func74 (by kernel_rfl) rfl #[.slice Ao42 x0_4.length co42, .slice Ao43 x10_4.length co43] rfl (by (try simp only [List.map_toArray, List.map_cons, List.map_nil]); first | done | rfl | (simp only [List.length_drop, List.length_take]; rfl)) ?_; (with_reducible refine (spec_l01Minus.calls k4 _ _ x0_4 _ _ x10_4 t206 _ ?side1 ?side2 ?side3 ?side4 A38.out).mono ?_); (case side1 => repeat (first | exact (Kd.V_reads' HO_0.out).2.2 | (with_reducible refine Kd.C_alloc ?_ _) | (with_reducible refine Kd.C_drewN ?_ _) | (with_reducible refine Kd.C_drew ?_))); (case side2 => exact (Kd.V_reads' HO_0.out).2.1); (case side3 => repeat (first | exact (Kd.V_reads' HO_10.out).2.2 | (with_reducible refine Kd.C_alloc ?_ _) | (with_reducible refine Kd.C_drewN ?_ _) | (with_reducible refine Kd.C_drew ?_))); (case side4 => exact (Kd.V_reads' HO_10.out).2.1); rintro e w44 ⟨v207, rfl, ho0, hb⟩; refine ⟨_, rfl, ?_⟩; have n0_ := Aside0.mk (Kd.V_below (by (with_reducible repeat (first | apply Kd.V_alloc | apply Kd.V_drewN | apply Kd.V_drew)); exact HO_0.out) hb); have n1_ := Aside0.mk (Kd.V_below (by (with_reducible repeat (first | apply Kd.V_alloc | apply Kd.V_drewN | apply Kd.V_drew)); exact HO_1.out) hb); have n2_ := Aside0.mk (Kd.V_below (by (with_reducible repeat (first | apply Kd.V_alloc | apply Kd.V_drewN | apply Kd.V_drew)); exact HO_10.out) hb); have n3_ := Aside0.mk (Kd.V_lower (Kd.V_mono (ok' := fun k_ => ((P0_ k_ ∨ P1_ k_) ∨ w.heap.size ≤ k_)) ho0 (fun k_ hk_ => (.inr (Nat.le_trans (below_size (by repeat (first | (with_reducible first | exact HB.out | apply below_alloc | apply pw_below_drewN | apply below_drew1) | exact HB.out))) hk_)))) (below_size (by repeat (first | (with_reducible first | exact HB.out | apply below_alloc | apply pw_below_drewN | apply below_drew1) | exact HB.out)))); have n4_ := Aside0.mk (below_step (by repeat (first | (with_reducible first | exact HB.out | apply below_alloc | apply pw_below_drewN | apply below_drew1) | exact HB.out)) hb); clear HO_0; clear HO_1; clear HO_10; clear HB; have HO_0 := n0_; have HO_1 := n1_; have HO_10 := n2_; have HO208 := n3_; have HB := n4_; clear n0_ n1_ n2_ n3_ n4_; (try clear hb); (try clear hb2); (try clear hk); (try clear hi); (try clear ho0)) | ((with_reducible refine gate_callee (f := 73) rfl ?_); refine goesL_ (some 65) rfl rfl Tryz.func73 (by kernel_rfl) rfl #[.slice Ao43 x10_4.length co43] rfl (by (try simp only [List.map_toArray, List.map_cons, List.map_nil]); first | done | rfl | (simp only [List.length_drop, List.length_take]; rfl)) ?_; (with_reducible refine (spec_l01Half.calls k4 _ _ x10_4 t209 _ ?side1 ?side2 A41.out).mono ?_); (case side1 => repeat (first | exact (Kd.V_reads' HO_10.out).2.2 | (with_reducible refine Kd.C_alloc ?_ _) | (with_reducible refine Kd.C_drewN ?_ _) | (with_reducible refine Kd.C_drew ?_))); (case side2 => exact (Kd.V_reads' HO_10.out).2.1); rintro e w45 ⟨v210, rfl, ho0, hb⟩; refine ⟨_, rfl, ?_⟩; have n0_ := Aside0.mk (Kd.V_below (by (with_reducible repeat (first | apply Kd.V_alloc | apply Kd.V_drewN | apply Kd.V_drew)); exact HO_0.out) hb); have n1_ := Aside0.mk (Kd.V_below (by (with_reducible repeat (first | apply Kd.V_alloc | apply Kd.V_drewN | apply Kd.V_drew)); exact HO_1.out) hb); have n2_ := Aside0.mk (Kd.V_below (by (with_reducible repeat (first | apply Kd.V_alloc | apply Kd.V_drewN | apply Kd.V_drew)); exact HO_10.out) hb); have n3_ := Aside0.mk (Kd.V_below (by (with_reducible repeat (first | apply Kd.V_alloc | apply Kd.V_drewN | apply Kd.V_drew)); exact HO208.out) hb); have n4_ := Aside0.mk (Kd.V_lower (Kd.V_mono (ok' := fun k_ => ((P0_ k_ ∨ P1_ k_) ∨ w.heap.size ≤ k_)) ho0 (fun k_ hk_ => (.inr (Nat.le_trans (below_size (by repeat (first | (with_reducible first | exact HB.out | apply below_alloc | apply pw_below_drewN | apply below_drew1) | exact HB.out))) hk_)))) (below_size (by repeat (first | (with_reducible first | exact HB.out | apply below_alloc | apply pw_below_drewN | apply below_drew1) | exact HB.out)))); have n5_ := Aside0.mk (below_step (by repeat (first | (with_reducible first | exact HB.out | apply below_alloc | apply pw_below_drewN | apply below_drew1) | exact HB.out)) hb); clear HO_0; clear HO_1; clear HO_10; clear HO208; clear HB; have HO_0 := n0_; have HO_1 := n1_; have HO_10 := n2_; have HO208 := n3_; have HO211 := n4_; have HB := n5_; clear n0_ n1_ n2_ n3_ n4_ n5_; (try clear hb); (try clear hb2); (try clear hk); (try clear hi); (try clear ho0)))
              go_roundg k4
              case measure => have := HK1.out; have := HJ9.out; have := HJ22.out; have := HK4.out; omega
              case rel => exact ⟨(t206), (IntKind.u64.wrap (x9_4 + (ji40))), (t209), (wrap64 (x11_4 - 1)), (by first | rfl | (simp; done) | (simp only [← hji40] <;> (first | rfl | simp)) | (simp [*]; done)), (by first | rfl | (simp; done) | (simp [*]; done)), H', ⟨by have := HK1.out; have := HJ9.out; have := HJ22.out; have := HK4.out; omega⟩, ⟨by (with_reducible repeat (first | apply Kd.V_alloc | apply Kd.V_drewN | apply Kd.V_drew)); exact HO208.out⟩, ⟨by (with_reducible repeat (first | apply Kd.V_alloc | apply Kd.V_drewN | apply Kd.V_drew)); exact HO_1.out⟩, ⟨by (with_reducible repeat (first | apply Kd.V_alloc | apply Kd.V_drewN | apply Kd.V_drew)); exact HO211.out⟩, ⟨by repeat (first | (with_reducible first | exact HB.out | apply below_alloc | apply pw_below_drewN | apply below_drew1) | exact HB.out)⟩⟩
             ·rw [if_neg c39] at H;exact absurd H (by simp)
            ·rw [if_neg c37] at H;have c37b0 : decide (0 ≤ t205) = false := decide_eq_false c37;clear c37;replace H := Option.bind_eq_some_iff.mp H;obtain ⟨t212, A460, H⟩ := H;replace H : (spec_l01Word.l2 k4 x0_4 x1_1 x2_22 x9_4 t212 (wrap64 (x11_4 - 1))) = some r := H;have A46 := Aside0.mk A460;clear A460;have H' := Aside0.mk H;clear H;obtain ⟨Ao47, co47, eo47⟩ := Kd.V_slice HO_0.out;subst eo47;obtain ⟨Ao48, co48, eo48⟩ := Kd.V_slice HO_10.out;subst eo48
             go_wp2_with (first | ((with_reducible refine gate_callee (f := 72) rfl ?_); refine goesL_ (some 55) rfl rfl Tryz.func72 (by kernel_rfl) rfl #[.slice Ao47 x0_4.length co47, .slice Ao48 x10_4.length co48] rfl (by (try simp only [List.map_toArray, List.map_cons, List.map_nil]); first | done | rfl | (simp only [List.length_drop, List.length_take]; rfl)) ?_; (with_reducible refine (spec_l01Cmp.calls k4 _ _ x0_4 _ _ x10_4 t205 _ ?side1 ?side2 ?side3 ?side4 A36.out).mono ?_); (case side1 => repeat (first | exact (Kd.V_reads' HO_0.out).2.2 | (with_reducible refine Kd.C_alloc ?_ _) | (with_reducible refine Kd.C_drewN ?_ _) | (with_reducible refine Kd.C_drew ?_))); (case side2 => exact (Kd.V_reads' HO_0.out).2.1); (case side3 => repeat (first | exact (Kd.V_reads' HO_10.out).2.2 | (with_reducible refine Kd.C_alloc ?_ _) | (with_reducible refine Kd.C_drewN ?_ _) | (with_reducible refine Kd.C_drew ?_))); (case side4 => exact (Kd.V_reads' HO_10.out).2.1); rintro e w' ⟨rfl, ⟨nd, rfl⟩⟩; refine ⟨_, rfl, ?_⟩) | ((with_reducible refine gate_callee (f := 73) rfl ?_); refine goesL_ (some 65) rfl rfl Tryz.func73 (by kernel_rfl) rfl #[.slice Ao48 x10_4.length co48] rfl (by (try simp only [List.map_toArray, List.map_cons, List.map_nil]); first | done | rfl | (simp only [List.length_drop, List.length_take]; rfl)) ?_; (with_reducible refine (spec_l01Half.calls k4 _ _ x10_4 t212 _ ?side1 ?side2 A46.out).mono ?_); (case side1 => repeat (first | exact (Kd.V_reads' HO_10.out).2.2 | (with_reducible refine Kd.C_alloc ?_ _) | (with_reducible refine Kd.C_drewN ?_ _) | (with_reducible refine Kd.C_drew ?_))); (case side2 => exact (Kd.V_reads' HO_10.out).2.1); rintro e w49 ⟨v213, rfl, ho0, hb⟩; refine ⟨_, rfl, ?_⟩; have n0_ := Aside0.mk (Kd.V_below (by (with_reducible repeat (first | apply Kd.V_alloc | apply Kd.V_drewN | apply Kd.V_drew)); exact HO_0.out) hb); have n1_ := Aside0.mk (Kd.V_below (by (with_reducible repeat (first | apply Kd.V_alloc | apply Kd.V_drewN | apply Kd.V_drew)); exact HO_1.out) hb); have n2_ := Aside0.mk (Kd.V_below (by (with_reducible repeat (first | apply Kd.V_alloc | apply Kd.V_drewN | apply Kd.V_drew)); exact HO_10.out) hb); have n3_ := Aside0.mk (Kd.V_lower (Kd.V_mono (ok' := fun k_ => ((P0_ k_ ∨ P1_ k_) ∨ w.heap.size ≤ k_)) ho0 (fun k_ hk_ => (.inr (Nat.le_trans (below_size (by repeat (first | (with_reducible first | exact HB.out | apply below_alloc | apply pw_below_drewN | apply below_drew1) | exact HB.out))) hk_)))) (below_size (by repeat (first | (with_reducible first | exact HB.out | apply below_alloc | apply pw_below_drewN | apply below_drew1) | exact HB.out)))); have n4_ := Aside0.mk (below_step (by repeat (first | (with_reducible first | exact HB.out | apply below_alloc | apply pw_below_drewN | apply below_drew1) | exact HB.out)) hb); clear HO_0; clear HO_1; clear HO_10; clear HB; have HO_0 := n0_; have HO_1 := n1_; have HO_10 := n2_; have HO214 := n3_; have HB := n4_; clear n0_ n1_ n2_ n3_ n4_; (try clear hb); (try clear hb2); (try clear hk); (try clear hi); (try clear ho0)))
             go_roundg k4
             case measure => have := HK1.out; have := HJ9.out; have := HJ22.out; have := HK4.out; omega
             case rel => exact ⟨(x0_4), (x9_4), (t212), (wrap64 (x11_4 - 1)), (by first | rfl | (simp; done) | (simp [*]; done)), (by first | rfl | (simp; done) | (simp [*]; done)), H', ⟨by have := HK1.out; have := HJ9.out; have := HJ22.out; have := HK4.out; omega⟩, ⟨by (with_reducible repeat (first | apply Kd.V_alloc | apply Kd.V_drewN | apply Kd.V_drew)); exact HO_0.out⟩, ⟨by (with_reducible repeat (first | apply Kd.V_alloc | apply Kd.V_drewN | apply Kd.V_drew)); exact HO_1.out⟩, ⟨by (with_reducible repeat (first | apply Kd.V_alloc | apply Kd.V_drewN | apply Kd.V_drew)); exact HO214.out⟩, ⟨by repeat (first | (with_reducible first | exact HB.out | apply below_alloc | apply pw_below_drewN | apply below_drew1) | exact HB.out)⟩⟩
           ·rw [if_neg c35] at H;have c35b0 : decide (0 ≤ x11_4) = false := decide_eq_false c35;clear c35;replace H := Option.bind_eq_some_iff.mp H;obtain ⟨t215, A500, H⟩ := H;replace H : ((spec_l01Cmp.f k4 t215 x1_1).bind fun t218 => (if t218 > 0 then (spec_l01Word.j5 k4 x2_22 x9_4 true) else (if t218 = 0 then (spec_l01Word.j5 k4 x2_22 x9_4 ((Int.tmod x9_4 2) == 1)) else (spec_l01Word.j5 k4 x2_22 x9_4 false)))) = some r := H;have A50 := Aside0.mk A500;clear A500;replace H := Option.bind_eq_some_iff.mp H;obtain ⟨t218, A510, H⟩ := H;replace H : (if t218 > 0 then (spec_l01Word.j5 k4 x2_22 x9_4 true) else (if t218 = 0 then (spec_l01Word.j5 k4 x2_22 x9_4 ((Int.tmod x9_4 2) == 1)) else (spec_l01Word.j5 k4 x2_22 x9_4 false))) = some r := H;have A51 := Aside0.mk A510;clear A510;have HC52 := Aside0.mk H;clear H;obtain ⟨Ao53, co53, eo53⟩ := Kd.V_slice HO_0.out;subst eo53
            go_upto_region 23 with (first | ((with_reducible refine gate_callee (f := 41) rfl ?_); refine goesL_ (some 67) rfl rfl Tryz.func41 (by kernel_rfl) rfl #[.slice Ao53 x0_4.length co53, .int .i64 2, .int .i64 0] rfl (by (try simp only [List.map_toArray, List.map_cons, List.map_nil]); first | done | rfl | (simp only [List.length_drop, List.length_take]; rfl)) ?_; (with_reducible refine (spec_l01Times.calls k4 _ _ x0_4 2 0 t215 _ ?side1 ?side2 A50.out).mono ?_); (case side1 => repeat (first | exact (Kd.V_reads' HO_0.out).2.2 | (with_reducible refine Kd.C_alloc ?_ _) | (with_reducible refine Kd.C_drewN ?_ _) | (with_reducible refine Kd.C_drew ?_))); (case side2 => exact (Kd.V_reads' HO_0.out).2.1); rintro e w54 ⟨v216, rfl, ho0, hb⟩; refine ⟨_, rfl, ?_⟩; have n0_ := Aside0.mk (Kd.V_below (by (with_reducible repeat (first | apply Kd.V_alloc | apply Kd.V_drewN | apply Kd.V_drew)); exact HO_0.out) hb); have n1_ := Aside0.mk (Kd.V_below (by (with_reducible repeat (first | apply Kd.V_alloc | apply Kd.V_drewN | apply Kd.V_drew)); exact HO_1.out) hb); have n2_ := Aside0.mk (Kd.V_below (by (with_reducible repeat (first | apply Kd.V_alloc | apply Kd.V_drewN | apply Kd.V_drew)); exact HO_10.out) hb); have n3_ := Aside0.mk (Kd.V_lower (Kd.V_mono (ok' := fun k_ => ((P0_ k_ ∨ P1_ k_) ∨ w.heap.size ≤ k_)) ho0 (fun k_ hk_ => (.inr (Nat.le_trans (below_size (by repeat (first | (with_reducible first | exact HB.out | apply below_alloc | apply pw_below_drewN | apply below_drew1) | exact HB.out))) hk_)))) (below_size (by repeat (first | (with_reducible first | exact HB.out | apply below_alloc | apply pw_below_drewN | apply below_drew1) | exact HB.out)))); have n4_ := Aside0.mk (below_step (by repeat (first | (with_reducible first | exact HB.out | apply below_alloc | apply pw_below_drewN | apply below_drew1) | exact HB.out)) hb); clear HO_0; clear HO_1; clear HO_10; clear HB; have HO_0 := n0_; have HO_1 := n1_; have HO_10 := n2_; have HO217 := n3_; have HB := n4_; clear n0_ n1_ n2_ n3_ n4_; (try clear hb); (try clear hb2); (try clear hk); (try clear hi); (try clear ho0); obtain ⟨Ao55, co55, eo55⟩ := Kd.V_slice HO217.out; subst eo55; obtain ⟨Ao56, co56, eo56⟩ := Kd.V_slice HO_1.out; subst eo56) | ((with_reducible refine gate_callee (f := 72) rfl ?_); refine goesL_ (some 69) rfl rfl Tryz.func72 (by kernel_rfl) rfl #[.slice Ao55 t215.length co55, .slice Ao56 x1_1.length co56] rfl (by (try simp only [List.map_toArray, List.map_cons, List.map_nil]); first | done | rfl | (simp only [List.length_drop, List.length_take]; rfl)) ?_; (with_reducible refine (spec_l01Cmp.calls k4 _ _ t215 _ _ x1_1 t218 _ ?side1 ?side2 ?side3 ?side4 A51.out).mono ?_); (case side1 => repeat (first | exact (Kd.V_reads' HO217.out).2.2 | (with_reducible refine Kd.C_alloc ?_ _) | (with_reducible refine Kd.C_drewN ?_ _) | (with_reducible refine Kd.C_drew ?_))); (case side2 => exact (Kd.V_reads' HO217.out).2.1); (case side3 => repeat (first | exact (Kd.V_reads' HO_1.out).2.2 | (with_reducible refine Kd.C_alloc ?_ _) | (with_reducible refine Kd.C_drewN ?_ _) | (with_reducible refine Kd.C_drew ?_))); (case side4 => exact (Kd.V_reads' HO_1.out).2.1); rintro e w' ⟨rfl, ⟨nd, rfl⟩⟩; refine ⟨_, rfl, ?_⟩))
            (try simp only [Act.put, List.setIfInBounds_toArray, List.set_cons_zero, List.set_cons_succ])
            go_cut [80] (fun v80 wc => ∃ (kq : Nat) (x80_51 : Bool), v80 = .bool x80_51 ∧ Aside0 (spec_l01Word.j5 kq x2_22 x9_4 x80_51 = some r) ∧ Aside0 (kq ≤ k4) ∧ Aside0 (Below w.heap.size w wc))
            case first =>
             have H := HC52.out;clear HC52;by_cases c57 : t218 > 0
             ·rw [if_pos c57] at H;have c57b0 : decide (0 < t218) = true := decide_eq_true c57;clear c57;(first | rw [c57b0] | (simp only [i64_w, i32_w]; rw [c57b0]) | skip);have H' := Aside0.mk H;clear H;go_wp2;go_meet;case rel => exact ⟨_, (true), (by first | rfl | (simp; done) | (simp [*]; done)), H', ⟨by have := HK1.out; have := HJ9.out; have := HJ22.out; have := HK4.out; first | omega | exact Nat.le_refl _⟩, ⟨by repeat (first | (with_reducible first | exact HB.out | apply below_alloc | apply pw_below_drewN | apply below_drew1) | exact HB.out)⟩⟩
             ·rw [if_neg c57] at H;have c57b0 : decide (0 < t218) = false := decide_eq_false c57;clear c57;(first | rw [c57b0] | (simp only [i64_w, i32_w]; rw [c57b0]) | skip);by_cases c58 : t218 = 0
              ·rw [if_pos c58] at H;have c58b0 : (t218 == 0) = true := beq_iff_eq.mpr c58;have c58b1 : (t218 != 0) = false := bne_eq_false_iff_eq.mpr c58;clear c58;have H' := Aside0.mk H;clear H;go_wp2;go_meet;case rel => exact ⟨_, (((Int.tmod x9_4 2) == 1)), (by first | rfl | (simp; done) | (simp [*]; done)), H', ⟨by have := HK1.out; have := HJ9.out; have := HJ22.out; have := HK4.out; first | omega | exact Nat.le_refl _⟩, ⟨by repeat (first | (with_reducible first | exact HB.out | apply below_alloc | apply pw_below_drewN | apply below_drew1) | exact HB.out)⟩⟩
              ·rw [if_neg c58] at H;have c58b0 : (t218 == 0) = false := beq_eq_false_iff_ne.mpr c58;have c58b1 : (t218 != 0) = true := bne_iff_ne.mpr c58;have H' := Aside0.mk H;clear H;go_wp2;go_meet;case rel => exact ⟨_, (false), (by first | rfl | (simp; done) | (simp [*]; done)), H', ⟨by have := HK1.out; have := HJ9.out; have := HJ22.out; have := HK4.out; first | omega | exact Nat.le_refl _⟩, ⟨by repeat (first | (with_reducible first | exact HB.out | apply below_alloc | apply pw_below_drewN | apply below_drew1) | exact HB.out)⟩⟩
            case rest =>
             clear HC52;(try clear c1);(try clear c2);(try clear p2);(try clear c3);(try clear c4);(try clear c4b0);(try clear c4b1);(try clear c4b2);(try clear c5);(try clear p6);(try clear c7);(try clear c12);(try clear c12b0);(try clear c15);(try clear c26);(try clear c26b0);(try clear c28);(try clear c28b0);(try clear c35);(try clear c35b0);(try clear c37);(try clear c37b0);(try clear c39);(try clear c39b0);(try clear c39b1);(try clear c41);(try clear c43);(try clear c57);(try clear c57b0);(try clear c58);(try clear c58b0);(try clear c58b1);(try clear p2);(try clear p6);obtain ⟨kq, x80_51, rfl, HA, HJ51, HB⟩ := hcut
             cases kq with
             | zero => exact absurd HA.out (by simp [spec_l01Word.j5])
             | succ kj51 =>
              have H := HA.out;clear HA;simp only [spec_l01Word.j5] at H;have HC59 := Aside0.mk H;clear H
              go_upto_if 80 with (fail)
              go_cut [9] (fun v9 wc => ∃ (kq : Nat) (x9_58 : Int), v9 = .int .u64 x9_58 ∧ Aside0 (spec_l01Word.j6 kq x2_22 x9_58 = some r) ∧ Aside0 (kq ≤ kj51) ∧ Aside0 (Below w.heap.size w wc))
              case first =>
               have H := HC59.out;clear HC59;by_cases c60 : x80_51 = true
               ·subst c60;have H1 : (spec_l01Word.j6 kj51 x2_22 (IntKind.u64.wrap (x9_4 + 1))) = some r := (by rw [if_pos rfl] at H; exact H);clear H;have H := H1;clear H1;have H' := Aside0.mk H;clear H;go_wp2;go_meet;case rel => exact ⟨_, (IntKind.u64.wrap (x9_4 + 1)), (by first | rfl | (simp; done) | (simp [*]; done)), H', ⟨by have := HK1.out; have := HJ9.out; have := HJ22.out; have := HK4.out; have := HJ51.out; first | omega | exact Nat.le_refl _⟩, ⟨by repeat (first | (with_reducible first | exact HB.out | apply below_alloc | apply pw_below_drewN | apply below_drew1) | exact HB.out)⟩⟩
               ·replace c60 := Bool.eq_false_iff.mpr c60;subst c60;have H1 : (spec_l01Word.j6 kj51 x2_22 x9_4) = some r := (by rw [if_neg (show ¬ (false = true) by decide)] at H; exact H);clear H;have H := H1;clear H1;have H' := Aside0.mk H;clear H;go_wp2;go_meet;case rel => exact ⟨_, (x9_4), (by first | rfl | (simp; done) | (simp [*]; done)), H', ⟨by have := HK1.out; have := HJ9.out; have := HJ22.out; have := HK4.out; have := HJ51.out; first | omega | exact Nat.le_refl _⟩, ⟨by repeat (first | (with_reducible first | exact HB.out | apply below_alloc | apply pw_below_drewN | apply below_drew1) | exact HB.out)⟩⟩
              case rest =>
               clear HC59;(try clear c1);(try clear c2);(try clear p2);(try clear c3);(try clear c4);(try clear c4b0);(try clear c4b1);(try clear c4b2);(try clear c5);(try clear c6);(try clear p6);(try clear c7);(try clear c12);(try clear c12b0);(try clear c15);(try clear c26);(try clear c26b0);(try clear c28);(try clear c28b0);(try clear c35);(try clear c35b0);(try clear c37);(try clear c37b0);(try clear c39);(try clear c39b0);(try clear c39b1);(try clear c41);(try clear c43);(try clear c57);(try clear c57b0);(try clear c58);(try clear c58b0);(try clear c58b1);(try clear c60);(try clear p2);(try clear p6);obtain ⟨kq, x9_58, rfl, HA, HJ58, HB⟩ := hcut
               cases kq with
               | zero => exact absurd HA.out (by simp [spec_l01Word.j6])
               | succ kj58 =>
                have H := HA.out;clear HA;simp only [spec_l01Word.j6] at H;have HC61 := Aside0.mk H;clear H
                go_upto_if 84 with (fail)
                go_cut [2, 9] (fun v2 v9 wc => ∃ (kq : Nat) (x2_60 : Int) (x9_60 : Int), v2 = .int .i64 x2_60 ∧ v9 = .int .u64 x9_60 ∧ Aside0 (spec_l01Word.j7 kq x2_60 x9_60 = some r) ∧ Aside0 (kq ≤ kj58) ∧ Aside0 (Below w.heap.size w wc))
                case first =>
                 have H := HC61.out;clear HC61;by_cases c62 : x9_58 = 9007199254740992
                 ·rw [if_pos c62] at H;have c62b0 : (x9_58 == 9007199254740992) = true := beq_iff_eq.mpr c62;have c62b1 : (x9_58 != 9007199254740992) = false := bne_eq_false_iff_eq.mpr c62;clear c62;(first | rw [c62b0] | (simp only [i64_w, i32_w]; rw [c62b0]) | skip);have H' := Aside0.mk H;clear H;go_wp2;go_meet;case rel => exact ⟨_, (wrap64 (x2_22 + 1)), (4503599627370496), (by first | rfl | (simp; done) | (simp [*]; done)), (by first | rfl | (simp; done) | (simp [*]; done)), H', ⟨by have := HK1.out; have := HJ9.out; have := HJ22.out; have := HK4.out; have := HJ51.out; have := HJ58.out; first | omega | exact Nat.le_refl _⟩, ⟨by repeat (first | (with_reducible first | exact HB.out | apply below_alloc | apply pw_below_drewN | apply below_drew1) | exact HB.out)⟩⟩
                 ·rw [if_neg c62] at H;have c62b0 : (x9_58 == 9007199254740992) = false := beq_eq_false_iff_ne.mpr c62;have c62b1 : (x9_58 != 9007199254740992) = true := bne_iff_ne.mpr c62;(first | rw [c62b0] | (simp only [i64_w, i32_w]; rw [c62b0]) | skip);have H' := Aside0.mk H;clear H;go_wp2;go_meet;case rel => exact ⟨_, (x2_22), (x9_58), (by first | rfl | (simp; done) | (simp [*]; done)), (by first | rfl | (simp; done) | (simp [*]; done)), H', ⟨by have := HK1.out; have := HJ9.out; have := HJ22.out; have := HK4.out; have := HJ51.out; have := HJ58.out; first | omega | exact Nat.le_refl _⟩, ⟨by repeat (first | (with_reducible first | exact HB.out | apply below_alloc | apply pw_below_drewN | apply below_drew1) | exact HB.out)⟩⟩
                case rest =>
                 clear HC61;(try clear c1);(try clear c2);(try clear p2);(try clear c3);(try clear c4);(try clear c4b0);(try clear c4b1);(try clear c4b2);(try clear c5);(try clear c6);(try clear p6);(try clear c7);(try clear c12);(try clear c12b0);(try clear c15);(try clear c26);(try clear c26b0);(try clear c28);(try clear c28b0);(try clear c35);(try clear c35b0);(try clear c37);(try clear c37b0);(try clear c39);(try clear c39b0);(try clear c39b1);(try clear c41);(try clear c43);(try clear c57);(try clear c57b0);(try clear c58);(try clear c58b0);(try clear c58b1);(try clear c60);(try clear c62);(try clear c62b0);(try clear c62b1);(try clear p2);(try clear p6);obtain ⟨kq, x2_60, x9_60, rfl, rfl, HA, HJ60, HB⟩ := hcut
                 cases kq with
                 | zero => exact absurd HA.out (by simp [spec_l01Word.j7])
                 | succ kj60 =>
                  have H := HA.out;clear HA;simp only [spec_l01Word.j7] at H;by_cases c63 : x2_60 > 971
                  ·rw [if_pos c63] at H;have c63b0 : decide (971 < x2_60) = true := decide_eq_true c63;clear c63;obtain rfl := Option.some.inj H;go_wp2;go_ret;exact ⟨by first | rfl | (simp [errW_none, errW_some] <;> rfl) | (simp [*, errW_none, errW_some] <;> rfl), by repeat (first | (with_reducible first | exact HB.out | apply below_alloc | apply pw_below_drewN | apply below_drew1) | exact HB.out)⟩
                  ·rw [if_neg c63] at H;have c63b0 : decide (971 < x2_60) = false := decide_eq_false c63;clear c63;by_cases c64 : x9_60 < 4503599627370496
                   ·rw [if_pos c64] at H;have c64b0 : decide (x9_60 < 4503599627370496) = true := decide_eq_true c64;clear c64;obtain rfl := Option.some.inj H;go_wp2;go_ret;exact ⟨by first | rfl | (simp [errW_none, errW_some] <;> rfl) | (simp [*, errW_none, errW_some] <;> rfl), by repeat (first | (with_reducible first | exact HB.out | apply below_alloc | apply pw_below_drewN | apply below_drew1) | exact HB.out)⟩
                   ·rw [if_neg c64] at H;have c64b0 : decide (x9_60 < 4503599627370496) = false := decide_eq_false c64;clear c64;obtain rfl := Option.some.inj H;go_wp2;go_ret;exact ⟨by first | rfl | (simp [errW_none, errW_some] <;> rfl) | (simp [*, errW_none, errW_some] <;> rfl), by repeat (first | (with_reducible first | exact HB.out | apply below_alloc | apply pw_below_drewN | apply below_drew1) | exact HB.out)⟩
end Go.Proofs.YtlblkajnmdhmdaaGreatDoor.PFormatNumber
namespace Go.Proofs.YtlblkajnmdhmdaaGreatDoor.PFormatNumber
open Go.RowKit Go.Proofs.YtlblkajnmdhmdaaGreatDoorW.PrintWords Go.Proofs.YtlblkajnmdhmdaaGreatDoorW.PrintLast Go.Proofs.YtlblkajnmdhmdaaGreatDoorW.PrintMore
attribute [local go_sem] max2_int min2_int max_two min_two max_three min_three max_four min_four
set_option linter.unusedVariables false
set_option linter.unusedSimpArgs false
mutual
def spec_l01Nearest.l0 : Nat → Int → List Int → Int → List Int → Int → Int → Option (Int × Bool)
 | 0, _, _, _, _, _, _ => none
 | k + 1, x1, x6, x7, x13, x14, x15 => if x15 < x14 then (if 0 ≤ x15 then (if x15 < (x13.length : Int) then ((spec_l01Times.f k x6 10 (wrap64 ((wrap64 (rd x13 x15)) - 48))).bind fun t223 => (if (t223.length : Int) > 0 then (spec_l01Nearest.l0 k x1 t223 (wrap64 (x7 + 1)) x13 x14 (wrap64 (x15 + 1))) else (spec_l01Nearest.l0 k x1 t223 x7 x13 x14 (wrap64 (x15 + 1))))) else (none)) else (none)) else (if (x6.length : Int) = 0 then (spec_l01Nearest.j1 k x1 x6 x7 true) else (spec_l01Nearest.j1 k x1 x6 x7 (decide ((wrap64 (x7 + x1)) < (-330)))))
def spec_l01Nearest.j1 : Nat → Int → List Int → Int → Bool → Option (Int × Bool)
 | 0, _, _, _, _ => none
 | k + 1, x1, x6, x7, x38 => if x38 = true then (some (0, true)) else (if (wrap64 (x7 + x1)) > 310 then (some (0, false)) else ((some (([1] : List Int) : List Int)).bind fun y226 => (if x1 ≥ 0 then ((spec_l01Pow10.f k x6 x1).bind fun t229 => ((spec_l01Word.f k t229 y226 0).bind fun t232 => (some (t232, (t232 != 9218868437227405312))))) else ((spec_l01Pow10.f k y226 (wrap64 (-x1))).bind fun t233 => ((spec_l01Word.f k x6 t233 0).bind fun t236 => (some (t236, (t236 != 9218868437227405312))))))))
end
def spec_l01Nearest.f (k : Nat) (l0 : List Int) (a1 : Int) : Option (Int × Bool) := spec_l01Nearest.l0 k a1 (([] : List Int)) 0 l0 (l0.length : Int) 0
theorem spec_l01Nearest.mono_l : ∀ k, (∀ y0 y1 y2 y3 y4 y5, LeO (spec_l01Nearest.l0 k y0 y1 y2 y3 y4 y5) (spec_l01Nearest.l0 (k + 1) y0 y1 y2 y3 y4 y5)) ∧ (∀ y0 y1 y2 y3, LeO (spec_l01Nearest.j1 k y0 y1 y2 y3) (spec_l01Nearest.j1 (k + 1) y0 y1 y2 y3))
 | 0 => ⟨fun _ _ _ _ _ _ r h => by simp [spec_l01Nearest.l0] at h, fun _ _ _ _ r h => by simp [spec_l01Nearest.j1] at h⟩
 | k + 1 => by
  obtain ⟨ih0, ih1⟩ := spec_l01Nearest.mono_l k;refine ⟨?_, ?_⟩
  ·intro y0 y1 y2 y3 y4 y5;unfold spec_l01Nearest.l0
   repeat' first
   | (with_reducible exact ih0 _ _ _ _ _ _)
   | (with_reducible exact ih1 _ _ _ _)
   | (with_reducible exact spec_l01Pow10.mono _ _ _)
   | (with_reducible exact spec_l01Times.mono _ _ _ _)
   | (with_reducible exact spec_l01Word.mono _ _ _ _)
   | (with_reducible exact LeO.refl _)
   | (with_reducible exact LeO.none _)
   | (with_reducible refine LeO.ite ?_ ?_)
   | (with_reducible refine LeO.bind ?_ (fun _ => ?_))
   | exact ih0 _ _ _ _ _ _
   | exact ih1 _ _ _ _
   | exact spec_l01Pow10.mono _ _ _
   | exact spec_l01Times.mono _ _ _ _
   | exact spec_l01Word.mono _ _ _ _
   | exact LeO.none _
   | refine LeO.ite ?_ ?_
   | refine LeO.bind ?_ (fun _ => ?_)
  ·intro y0 y1 y2 y3;unfold spec_l01Nearest.j1
   repeat' first
   | (with_reducible exact ih0 _ _ _ _ _ _)
   | (with_reducible exact ih1 _ _ _ _)
   | (with_reducible exact spec_l01Pow10.mono _ _ _)
   | (with_reducible exact spec_l01Times.mono _ _ _ _)
   | (with_reducible exact spec_l01Word.mono _ _ _ _)
   | (with_reducible exact LeO.refl _)
   | (with_reducible exact LeO.none _)
   | (with_reducible refine LeO.ite ?_ ?_)
   | (with_reducible refine LeO.bind ?_ (fun _ => ?_))
   | exact ih0 _ _ _ _ _ _
   | exact ih1 _ _ _ _
   | exact spec_l01Pow10.mono _ _ _
   | exact spec_l01Times.mono _ _ _ _
   | exact spec_l01Word.mono _ _ _ _
   | exact LeO.none _
   | refine LeO.ite ?_ ?_
   | refine LeO.bind ?_ (fun _ => ?_)
theorem spec_l01Nearest.mono : ∀ a0 a1 k, LeO (spec_l01Nearest.f k a0 a1) (spec_l01Nearest.f (k + 1) a0 a1) := by
 intro a0 a1 k;obtain ⟨ih0, ih1⟩ := spec_l01Nearest.mono_l k;unfold spec_l01Nearest.f
 repeat' first
   | (with_reducible exact ih0 _ _ _ _ _ _)
   | (with_reducible exact ih1 _ _ _ _)
   | (with_reducible exact spec_l01Pow10.mono _ _ _)
   | (with_reducible exact spec_l01Times.mono _ _ _ _)
   | (with_reducible exact spec_l01Word.mono _ _ _ _)
   | (with_reducible exact LeO.refl _)
   | (with_reducible exact LeO.none _)
   | (with_reducible refine LeO.ite ?_ ?_)
   | (with_reducible refine LeO.bind ?_ (fun _ => ?_))
   | exact ih0 _ _ _ _ _ _
   | exact ih1 _ _ _ _
   | exact spec_l01Pow10.mono _ _ _
   | exact spec_l01Times.mono _ _ _ _
   | exact spec_l01Word.mono _ _ _ _
   | exact LeO.none _
   | refine LeO.ite ?_ ?_
   | refine LeO.bind ?_ (fun _ => ?_)
set_option maxHeartbeats 8000000 in
set_option maxRecDepth 100000 in
theorem spec_l01Nearest.calls (k : Nat) (A0 : Option Addr) (c0 : Nat) (l0 : List Int) (a1 : Int) (r1 : Int) (r2 : Bool) (w : World) (hr0 : Kd.C (Kd.int .u8) w A0 l0.length l0) (hc0 : l0.length ≤ c0) (h : spec_l01Nearest.f k l0 a1 = some (r1, r2)) :
  Calls Tryz.prog 22 #[.slice A0 l0.length c0, .int .i64 a1] w fun e w' => e = .returned (.tuple #[.int .u64 r1, .bool r2]) ∧ Below w.heap.size w w' := by
 have HR0 := Aside0.mk hr0;have HC0 := Aside0.mk hc0;clear hr0 hc0;have HB := Aside0.mk (Below.refl w.heap.size w);have H : (spec_l01Nearest.l0 k a1 (([] : List Int)) 0 l0 (l0.length : Int) 0) = some (r1, r2) := h;clear h;obtain ⟨y219, hy219⟩ : ∃ y_ : List Int, y_ = (([] : List Int)) := ⟨_, rfl⟩;replace H : (spec_l01Nearest.l0 k a1 y219 0 l0 (l0.length : Int) 0) = some (r1, r2) := (by first | (rw [hy219]; with_reducible exact H) | (have H2_ := (Option.bind_some _ _).symm.trans H; rw [hy219]; with_reducible exact H2_) | (have H2_ := (Option.bind_some _ _).symm.trans H; with_reducible exact H2_) | with_reducible exact H | (rw [hy219]; exact H) | exact H);have Ny219 := Aside0.mk hy219;clear hy219;have H' := Aside0.mk H;clear H;go_enter Tryz.func22, Tryz.ntmps22
 go_wp2_with (first | ((with_reducible refine gate_dst (N := 12) rfl ?_); refine Kd.R_lit (Kd.int .i64) _ 3 ?hg (N := 12) ?hd (xs := ([] : List Int)) (inner := []) (ok := fun _ => True) (okp := fun _ => True) ?hr ?hp (fun _ hk => hk) trivial (Below.refl _ _) (Nat.le_refl _) (by simp) ?_; (case hd => rfl); (case hg => rfl); (case hr => first | (go_simp; done) | (go_simp; rfl)); (case hp => exact (Reps.none _ _)); intro v220 w3 ho4 hb hg_ hnew_; clear hg_ hnew_; (first | rw [← Ny219.out] at ho4 | (simp only [Int.reduceToNat] at ho4; rw [← Ny219.out] at ho4)); have n0_ := Aside0.mk (Kd.R_lower ho4 (below_size (by repeat (first | (with_reducible first | exact HB.out | apply below_alloc | apply pw_below_drewN | apply below_drew1) | exact HB.out)))); have n1_ := Aside0.mk (below_step (by repeat (first | (with_reducible first | exact HB.out | apply below_alloc | apply pw_below_drewN | apply below_drew1) | exact HB.out)) hb); clear HB; have HO221 := n0_; have HB := n1_; clear n0_ n1_; clear hb ho4))
 go_loopg [6, 7, 15] k (fun kq v6 v7 v15 w' => ∃ (x6_1 : List Int) (x7_1 : Int) (x15_1 : Int), v7 = .int .i64 x7_1 ∧ v15 = .int .i64 x15_1 ∧ Aside0 (spec_l01Nearest.l0 kq a1 x6_1 x7_1 l0 (l0.length : Int) x15_1 = some (r1, r2)) ∧ Aside0 (kq ≤ k) ∧ Aside0 (Kd.V (Kd.int .i64) 3 w' w.heap.size (fun _ => True) v6 x6_1) ∧ Aside0 (Below w.heap.size w w'))
 case atStart => exact ⟨(y219), (0), (0), (by first | rfl | (simp; done) | (simp [*]; done)), (by first | rfl | (simp; done) | (simp [*]; done)), H', ⟨Nat.le_refl _⟩, ⟨Kd.R_V (by (with_reducible repeat (first | apply Kd.R_alloc | apply Kd.R_drewN | apply Kd.R_drew)); exact HO221.out)⟩, ⟨by repeat (first | (with_reducible first | exact HB.out | apply below_alloc | apply pw_below_drewN | apply below_drew1) | exact HB.out)⟩⟩
 case round =>
  clear H';(try clear c2);(try clear p2);obtain ⟨x6_1, x7_1, x15_1, rfl, rfl, HA, HK1, HO_6, HB⟩ := hrel
  cases gk with
  | zero => exact absurd HA.out (by simp [spec_l01Nearest.l0])
  | succ k1 =>
   have H := HA.out;clear HA;simp only [spec_l01Nearest.l0] at H;by_cases c5 : x15_1 < (l0.length : Int)
   ·rw [if_pos c5] at H;have c5b0 : decide (x15_1 < (l0.length : Int)) = true := decide_eq_true c5;clear c5;by_cases c6 : 0 ≤ x15_1
    ·rw [if_pos c6] at H;have c6b0 : decide (0 ≤ x15_1) = true := decide_eq_true c6;clear c6;by_cases c7 : x15_1 < (l0.length : Int)
     ·rw [if_pos c7] at H;have c7b0 : decide (x15_1 < (l0.length : Int)) = true := decide_eq_true c7;clear c7;replace H := Option.bind_eq_some_iff.mp H;obtain ⟨t223, A80, H⟩ := H;replace H : (if (t223.length : Int) > 0 then (spec_l01Nearest.l0 k1 a1 t223 (wrap64 (x7_1 + 1)) l0 (l0.length : Int) (wrap64 (x15_1 + 1))) else (spec_l01Nearest.l0 k1 a1 t223 x7_1 l0 (l0.length : Int) (wrap64 (x15_1 + 1)))) = some (r1, r2) := H;have A8 := Aside0.mk A80;clear A80;by_cases c9 : (t223.length : Int) > 0
      ·rw [if_pos c9] at H;have c9b0 : decide (0 < (t223.length : Int)) = true := decide_eq_true c9;have c9b1 : decide (0 < t223.length) = true := decide_eq_true (by omega);clear c9;have H' := Aside0.mk H;clear H;have p222 : 0 ≤ (x15_1 : Int) := of_decide_eq_true (by first | (with_reducible assumption) | assumption);have q222 : x15_1 < (l0.length : Int) := of_decide_eq_true (by first | (with_reducible assumption) | assumption);obtain ⟨ad222, e222, hx222_0⟩ := Kd.at_int HR0.out x15_1 p222 q222;cases e222;replace hx222_0 := (HB.out.cell (World.block_lt_of_cell? w _ hx222_0)).trans hx222_0;replace p222 := eq_true p222;replace q222 := eq_true q222;obtain ⟨Ao10, co10, eo10⟩ := Kd.V_slice HO_6.out;subst eo10
       go_wp2_with (first | ((with_reducible refine gate_callee (f := 41) rfl ?_); refine goesL_ (some 23) rfl rfl Tryz.func41 (by kernel_rfl) rfl #[.slice Ao10 x6_1.length co10, .int .i64 10, .int .i64 (wrap64 ((wrap64 (rd l0 x15_1)) - 48))] rfl (by (try simp only [List.map_toArray, List.map_cons, List.map_nil]); first | done | rfl | (simp only [List.length_drop, List.length_take]; rfl)) ?_; (with_reducible refine (spec_l01Times.calls k1 _ _ x6_1 10 (wrap64 ((wrap64 (rd l0 x15_1)) - 48)) t223 _ ?side1 ?side2 A8.out).mono ?_); (case side1 => repeat (first | exact (Kd.V_reads' HO_6.out).2.2 | (with_reducible refine Kd.C_alloc ?_ _) | (with_reducible refine Kd.C_drewN ?_ _) | (with_reducible refine Kd.C_drew ?_))); (case side2 => exact (Kd.V_reads' HO_6.out).2.1); rintro e w11 ⟨v224, rfl, ho0, hb⟩; refine ⟨_, rfl, ?_⟩; have n0_ := Aside0.mk (Kd.V_below (by (with_reducible repeat (first | apply Kd.V_alloc | apply Kd.V_drewN | apply Kd.V_drew)); exact HO_6.out) hb); have n1_ := Aside0.mk (Kd.V_lower (Kd.V_mono (ok' := fun k_ => True) ho0 (fun k_ hk_ => trivial)) (below_size (by repeat (first | (with_reducible first | exact HB.out | apply below_alloc | apply pw_below_drewN | apply below_drew1) | exact HB.out)))); have n2_ := Aside0.mk (below_step (by repeat (first | (with_reducible first | exact HB.out | apply below_alloc | apply pw_below_drewN | apply below_drew1) | exact HB.out)) hb); clear HO_6; clear HB; have HO_6 := n0_; have HO225 := n1_; have HB := n2_; clear n0_ n1_ n2_; (try clear hb); (try clear hb2); (try clear hk); (try clear hi); (try clear ho0); obtain ⟨Ao12, co12, eo12⟩ := Kd.V_slice HO225.out; subst eo12))
       go_roundg k1
       case measure => have := HK1.out; omega
       case rel => exact ⟨(t223), (wrap64 (x7_1 + 1)), (wrap64 (x15_1 + 1)), (by first | rfl | (simp; done) | (simp [*]; done)), (by first | rfl | (simp; done) | (simp [*]; done)), H', ⟨by have := HK1.out; omega⟩, ⟨by (with_reducible repeat (first | apply Kd.V_alloc | apply Kd.V_drewN | apply Kd.V_drew)); exact HO225.out⟩, ⟨by repeat (first | (with_reducible first | exact HB.out | apply below_alloc | apply pw_below_drewN | apply below_drew1) | exact HB.out)⟩⟩
      ·rw [if_neg c9] at H;have c9b0 : decide (0 < (t223.length : Int)) = false := decide_eq_false c9;have c9b1 : decide (0 < t223.length) = false := decide_eq_false (by omega);clear c9;have H' := Aside0.mk H;clear H;have p222 : 0 ≤ (x15_1 : Int) := of_decide_eq_true (by first | (with_reducible assumption) | assumption);have q222 : x15_1 < (l0.length : Int) := of_decide_eq_true (by first | (with_reducible assumption) | assumption);obtain ⟨ad222, e222, hx222_0⟩ := Kd.at_int HR0.out x15_1 p222 q222;cases e222;replace hx222_0 := (HB.out.cell (World.block_lt_of_cell? w _ hx222_0)).trans hx222_0;replace p222 := eq_true p222;replace q222 := eq_true q222;obtain ⟨Ao13, co13, eo13⟩ := Kd.V_slice HO_6.out;subst eo13
       go_wp2_with (first | ((with_reducible refine gate_callee (f := 41) rfl ?_); refine goesL_ (some 23) rfl rfl Tryz.func41 (by kernel_rfl) rfl #[.slice Ao13 x6_1.length co13, .int .i64 10, .int .i64 (wrap64 ((wrap64 (rd l0 x15_1)) - 48))] rfl (by (try simp only [List.map_toArray, List.map_cons, List.map_nil]); first | done | rfl | (simp only [List.length_drop, List.length_take]; rfl)) ?_; (with_reducible refine (spec_l01Times.calls k1 _ _ x6_1 10 (wrap64 ((wrap64 (rd l0 x15_1)) - 48)) t223 _ ?side1 ?side2 A8.out).mono ?_); (case side1 => repeat (first | exact (Kd.V_reads' HO_6.out).2.2 | (with_reducible refine Kd.C_alloc ?_ _) | (with_reducible refine Kd.C_drewN ?_ _) | (with_reducible refine Kd.C_drew ?_))); (case side2 => exact (Kd.V_reads' HO_6.out).2.1); rintro e w14 ⟨v224, rfl, ho0, hb⟩; refine ⟨_, rfl, ?_⟩; have n0_ := Aside0.mk (Kd.V_below (by (with_reducible repeat (first | apply Kd.V_alloc | apply Kd.V_drewN | apply Kd.V_drew)); exact HO_6.out) hb); have n1_ := Aside0.mk (Kd.V_lower (Kd.V_mono (ok' := fun k_ => True) ho0 (fun k_ hk_ => trivial)) (below_size (by repeat (first | (with_reducible first | exact HB.out | apply below_alloc | apply pw_below_drewN | apply below_drew1) | exact HB.out)))); have n2_ := Aside0.mk (below_step (by repeat (first | (with_reducible first | exact HB.out | apply below_alloc | apply pw_below_drewN | apply below_drew1) | exact HB.out)) hb); clear HO_6; clear HB; have HO_6 := n0_; have HO225 := n1_; have HB := n2_; clear n0_ n1_ n2_; (try clear hb); (try clear hb2); (try clear hk); (try clear hi); (try clear ho0); obtain ⟨Ao15, co15, eo15⟩ := Kd.V_slice HO225.out; subst eo15))
       go_roundg k1
       case measure => have := HK1.out; omega
       case rel => exact ⟨(t223), (x7_1), (wrap64 (x15_1 + 1)), (by first | rfl | (simp; done) | (simp [*]; done)), (by first | rfl | (simp; done) | (simp [*]; done)), H', ⟨by have := HK1.out; omega⟩, ⟨by (with_reducible repeat (first | apply Kd.V_alloc | apply Kd.V_drewN | apply Kd.V_drew)); exact HO225.out⟩, ⟨by repeat (first | (with_reducible first | exact HB.out | apply below_alloc | apply pw_below_drewN | apply below_drew1) | exact HB.out)⟩⟩
     ·rw [if_neg c7] at H;exact absurd H (by simp)
    ·rw [if_neg c6] at H;exact absurd H (by simp)
   ·rw [if_neg c5] at H;have c5b0 : decide (x15_1 < (l0.length : Int)) = false := decide_eq_false c5;clear c5;have HC16 := Aside0.mk H;clear H
    go_upto_region 10 with (fail)
    go_cut [38] (fun v38 wc => ∃ (kq : Nat) (x38_15 : Bool), v38 = .bool x38_15 ∧ Aside0 (spec_l01Nearest.j1 kq a1 x6_1 x7_1 x38_15 = some (r1, r2)) ∧ Aside0 (kq ≤ k1) ∧ Aside0 (Kd.V (Kd.int .i64) 3 wc w.heap.size (fun _ => True) u6 x6_1) ∧ Aside0 (Below w.heap.size w wc))
    case first =>
     have H := HC16.out;clear HC16;by_cases c17 : (x6_1.length : Int) = 0
     ·rw [if_pos c17] at H;have c17b0 : ((x6_1.length : Int) == 0) = true := beq_iff_eq.mpr c17;have c17b1 : ((x6_1.length : Int) != 0) = false := bne_eq_false_iff_eq.mpr c17;clear c17;(first | rw [c17b0] | (simp only [i64_w, i32_w]; rw [c17b0]) | skip);have H' := Aside0.mk H;clear H;obtain ⟨Ao18, co18, eo18⟩ := Kd.V_slice HO_6.out;subst eo18;go_wp2;go_meet;case rel => exact ⟨_, (true), (by first | rfl | (simp; done) | (simp [*]; done)), H', ⟨by have := HK1.out; first | omega | exact Nat.le_refl _⟩, ⟨by (with_reducible repeat (first | apply Kd.V_alloc | apply Kd.V_drewN | apply Kd.V_drew)); exact HO_6.out⟩, ⟨by repeat (first | (with_reducible first | exact HB.out | apply below_alloc | apply pw_below_drewN | apply below_drew1) | exact HB.out)⟩⟩
     ·rw [if_neg c17] at H;have c17b0 : ((x6_1.length : Int) == 0) = false := beq_eq_false_iff_ne.mpr c17;have c17b1 : ((x6_1.length : Int) != 0) = true := bne_iff_ne.mpr c17;have c17b2 : ¬ (x6_1 = []) := fun h_ => c17 (by rw [h_]; rfl);(first | rw [c17b0] | (simp only [i64_w, i32_w]; rw [c17b0]) | skip);have H' := Aside0.mk H;clear H;obtain ⟨Ao19, co19, eo19⟩ := Kd.V_slice HO_6.out;subst eo19;go_wp2;go_meet;case rel => exact ⟨_, (decide ((wrap64 (x7_1 + a1)) < (-330))), (by first | rfl | (simp; done) | (simp [*]; done)), H', ⟨by have := HK1.out; first | omega | exact Nat.le_refl _⟩, ⟨by (with_reducible repeat (first | apply Kd.V_alloc | apply Kd.V_drewN | apply Kd.V_drew)); exact HO_6.out⟩, ⟨by repeat (first | (with_reducible first | exact HB.out | apply below_alloc | apply pw_below_drewN | apply below_drew1) | exact HB.out)⟩⟩
    case rest =>
     clear HC16;(try clear c1);(try clear c2);(try clear p2);(try clear q2);(try clear hx2);(try clear c4);(try clear c5);(try clear c5b0);(try clear c6);(try clear c6b0);(try clear p6);(try clear c7);(try clear c7b0);(try clear c9);(try clear c9b0);(try clear c9b1);(try clear c17);(try clear c17b0);(try clear c17b1);(try clear c17b2);(try clear hx222_0);(try clear p2);(try clear p222);(try clear q222);obtain ⟨kq, x38_15, rfl, HA, HJ15, HO_6, HB⟩ := hcut
     cases kq with
     | zero => exact absurd HA.out (by simp [spec_l01Nearest.j1])
     | succ kj15 =>
      have H := HA.out;clear HA;simp only [spec_l01Nearest.j1] at H;by_cases c20 : x38_15 = true
      ·subst c20;have H1 : (some (0, true)) = some (r1, r2) := (by rw [if_pos rfl] at H; exact H);clear H;have H := H1;clear H1;simp only [Option.some.injEq, Prod.mk.injEq] at H;obtain ⟨rfl, rfl⟩ := H;go_wp2;go_ret2;exact ⟨by first | rfl | (simp [errW_none, errW_some] <;> rfl) | (simp [*, errW_none, errW_some] <;> rfl), by repeat (first | (with_reducible first | exact HB.out | apply below_alloc | apply pw_below_drewN | apply below_drew1) | exact HB.out)⟩
      ·replace c20 := Bool.eq_false_iff.mpr c20;subst c20;have H1 : (if (wrap64 (x7_1 + a1)) > 310 then (some (0, false)) else ((some (([1] : List Int) : List Int)).bind fun y226 => (if a1 ≥ 0 then ((spec_l01Pow10.f kj15 x6_1 a1).bind fun t229 => ((spec_l01Word.f kj15 t229 y226 0).bind fun t232 => (some (t232, (t232 != 9218868437227405312))))) else ((spec_l01Pow10.f kj15 y226 (wrap64 (-a1))).bind fun t233 => ((spec_l01Word.f kj15 x6_1 t233 0).bind fun t236 => (some (t236, (t236 != 9218868437227405312)))))))) = some (r1, r2) := (by rw [if_neg (show ¬ (false = true) by decide)] at H; exact H);clear H;have H := H1;clear H1;by_cases c21 : (wrap64 (x7_1 + a1)) > 310
       ·rw [if_pos c21] at H;have c21b0 : decide (310 < (wrap64 (x7_1 + a1))) = true := decide_eq_true c21;clear c21;simp only [Option.some.injEq, Prod.mk.injEq] at H;obtain ⟨rfl, rfl⟩ := H;go_wp2;go_ret2;exact ⟨by first | rfl | (simp [errW_none, errW_some] <;> rfl) | (simp [*, errW_none, errW_some] <;> rfl), by repeat (first | (with_reducible first | exact HB.out | apply below_alloc | apply pw_below_drewN | apply below_drew1) | exact HB.out)⟩
       ·rw [if_neg c21] at H;have c21b0 : decide (310 < (wrap64 (x7_1 + a1))) = false := decide_eq_false c21;clear c21;obtain ⟨y226, hy226⟩ : ∃ y_ : List Int, y_ = (([1] : List Int)) := ⟨_, rfl⟩;replace H : (if a1 ≥ 0 then ((spec_l01Pow10.f kj15 x6_1 a1).bind fun t229 => ((spec_l01Word.f kj15 t229 y226 0).bind fun t232 => (some (t232, (t232 != 9218868437227405312))))) else ((spec_l01Pow10.f kj15 y226 (wrap64 (-a1))).bind fun t233 => ((spec_l01Word.f kj15 x6_1 t233 0).bind fun t236 => (some (t236, (t236 != 9218868437227405312)))))) = some (r1, r2) := (by first | (rw [hy226]; with_reducible exact H) | (have H2_ := (Option.bind_some _ _).symm.trans H; rw [hy226]; with_reducible exact H2_) | (have H2_ := (Option.bind_some _ _).symm.trans H; with_reducible exact H2_) | with_reducible exact H | (rw [hy226]; exact H) | exact H);have Ny226 := Aside0.mk hy226;clear hy226;by_cases c22 : a1 ≥ 0
        ·rw [if_pos c22] at H;have c22b0 : decide (0 ≤ a1) = true := decide_eq_true c22;clear c22;replace H := Option.bind_eq_some_iff.mp H;obtain ⟨t229, A230, H⟩ := H;replace H : ((spec_l01Word.f kj15 t229 y226 0).bind fun t232 => (some (t232, (t232 != 9218868437227405312)))) = some (r1, r2) := H;have A23 := Aside0.mk A230;clear A230;replace H := Option.bind_eq_some_iff.mp H;obtain ⟨t232, A240, H⟩ := H;replace H : (some (t232, (t232 != 9218868437227405312))) = some (r1, r2) := H;have A24 := Aside0.mk A240;clear A240;simp only [Option.some.injEq, Prod.mk.injEq] at H;obtain ⟨rfl, rfl⟩ := H
         go_wp2_with (first | ((with_reducible refine gate_dst (N := 43) rfl ?_); refine Kd.R_lit (Kd.int .i64) _ 3 ?hg (N := 43) ?hd (xs := ([1] : List Int)) (inner := [.int .i64 1]) (ok := fun _ => True) (okp := fun _ => True) ?hr ?hp (fun _ hk => hk) trivial (Below.refl _ _) (Nat.le_refl _) (by simp) ?_; (case hd => rfl); (case hg => rfl); (case hr => first | (go_simp; done) | (go_simp; rfl)); (case hp => exact (Reps.one (show Kd.M (Kd.int .i64) _ _ _ 1 [.int .i64 1] from rfl) (Reps.none _ _))); intro v227 w25 ho26 hb hg_ hnew_; clear hg_ hnew_; (first | rw [← Ny226.out] at ho26 | (simp only [Int.reduceToNat] at ho26; rw [← Ny226.out] at ho26)); have n0_ := Aside0.mk (Kd.V_elder' (by (with_reducible repeat (first | apply Kd.V_alloc | apply Kd.V_drewN | apply Kd.V_drew)); exact HO_6.out) (Kd.R_base ho26) hb); have n1_ := Aside0.mk (Kd.R_lower ho26 (below_size (by repeat (first | (with_reducible first | exact HB.out | apply below_alloc | apply pw_below_drewN | apply below_drew1) | exact HB.out)))); have n2_ := Aside0.mk (below_step (by repeat (first | (with_reducible first | exact HB.out | apply below_alloc | apply pw_below_drewN | apply below_drew1) | exact HB.out)) hb); clear HO_6; clear HB; have HO_6 := n0_; have HO228 := n1_; have HB := n2_; clear n0_ n1_ n2_; clear hb ho26; obtain ⟨Ao27, co27, eo27⟩ := Kd.V_slice HO_6.out; subst eo27) | ((with_reducible refine gate_callee (f := 42) rfl ?_); refine goesL_ (some 48) rfl rfl Tryz.func42 (by kernel_rfl) rfl #[.slice Ao27 x6_1.length co27, .int .i64 a1] rfl (by (try simp only [List.map_toArray, List.map_cons, List.map_nil]); first | done | rfl | (simp only [List.length_drop, List.length_take]; rfl)) ?_; (with_reducible refine (spec_l01Pow10.calls kj15 (fun k_ => (True ∧ some k_ ≠ (v227 : Value).ownBlock)) _ _ x6_1 a1 t229 _ ?side1 A23.out).mono ?_); (case side1 => exact HO_6.out); rintro e w28 ⟨v230, rfl, ho0, hb⟩; refine ⟨_, rfl, ?_⟩; have n0_ := Aside0.mk (Kd.V_below (by (with_reducible repeat (first | apply Kd.V_alloc | apply Kd.V_drewN | apply Kd.V_drew)); exact HO_6.out) hb); have n1_ := Aside0.mk (Kd.R_below (by (with_reducible repeat (first | apply Kd.R_alloc | apply Kd.R_drewN | apply Kd.R_drew)); exact HO228.out) hb); have n2_ := Aside0.mk (Kd.V_lower (Kd.V_mono (ok' := fun k_ => some k_ ≠ (v227 : Value).ownBlock) ho0 (fun k_ hk_ => Or.elim hk_ (fun hs_ => hs_.2) (fun hn_ => (Kd.fresh' (Kd.R_lt (by (with_reducible repeat (first | apply Kd.R_alloc | apply Kd.R_drewN | apply Kd.R_drew)); exact HO228.out)) k_ hn_)))) (below_size (by repeat (first | (with_reducible first | exact HB.out | apply below_alloc | apply pw_below_drewN | apply below_drew1) | exact HB.out)))); have n3_ := Aside0.mk (below_step (by repeat (first | (with_reducible first | exact HB.out | apply below_alloc | apply pw_below_drewN | apply below_drew1) | exact HB.out)) hb); clear HO_6; clear HO228; clear HB; have HO_6 := n0_; have HO228 := n1_; have HO231 := n2_; have HB := n3_; clear n0_ n1_ n2_ n3_; (try clear hb); (try clear hb2); (try clear hk); (try clear hi); (try clear ho0); obtain ⟨Ao29, co29, eo29⟩ := Kd.V_slice HO231.out; subst eo29; obtain ⟨Ao30, co30, eo30⟩ := Kd.R_slice HO228.out; subst eo30) | ((with_reducible refine gate_callee (f := 43) rfl ?_); refine goesL_ (some 55) rfl rfl Tryz.func43 (by kernel_rfl) rfl #[.slice Ao29 t229.length co29, .slice Ao30 y226.length co30, .int .i64 0] rfl (by (try simp only [List.map_toArray, List.map_cons, List.map_nil]); first | done | rfl | (simp only [List.length_drop, List.length_take]; rfl)) ?_; (with_reducible refine (spec_l01Word.calls kj15 (fun k_ => some k_ ≠ (.slice Ao30 y226.length co30 : Value).ownBlock) _ _ t229 (fun k_ => some k_ = (.slice Ao30 y226.length co30 : Value).ownBlock) _ _ y226 0 t232 _ ?side1 ?side2 A24.out).mono ?_); (case side1 => exact HO231.out); (case side2 => exact Kd.R_V (Kd.R_tight rfl (HO228.out))); rintro e w31 ⟨rfl, hb⟩; refine ⟨_, rfl, ?_⟩; have n0_ := Aside0.mk (Kd.V_below (by (with_reducible repeat (first | apply Kd.V_alloc | apply Kd.V_drewN | apply Kd.V_drew)); exact HO_6.out) hb); have n1_ := Aside0.mk (Kd.R_below (by (with_reducible repeat (first | apply Kd.R_alloc | apply Kd.R_drewN | apply Kd.R_drew)); exact HO228.out) hb); have n2_ := Aside0.mk (Kd.V_below (by (with_reducible repeat (first | apply Kd.V_alloc | apply Kd.V_drewN | apply Kd.V_drew)); exact HO231.out) hb); have n3_ := Aside0.mk (below_step (by repeat (first | (with_reducible first | exact HB.out | apply below_alloc | apply pw_below_drewN | apply below_drew1) | exact HB.out)) hb); clear HO_6; clear HO228; clear HO231; clear HB; have HO_6 := n0_; have HO228 := n1_; have HO231 := n2_; have HB := n3_; clear n0_ n1_ n2_ n3_; (try clear hb); (try clear hb2); (try clear hk); (try clear hi)))
         go_ret2;exact ⟨by first | rfl | (simp [errW_none, errW_some] <;> rfl) | (simp [*, errW_none, errW_some] <;> rfl), by repeat (first | (with_reducible first | exact HB.out | apply below_alloc | apply pw_below_drewN | apply below_drew1) | exact HB.out)⟩
        ·rw [if_neg c22] at H;have c22b0 : decide (0 ≤ a1) = false := decide_eq_false c22;clear c22;replace H := Option.bind_eq_some_iff.mp H;obtain ⟨t233, A320, H⟩ := H;replace H : ((spec_l01Word.f kj15 x6_1 t233 0).bind fun t236 => (some (t236, (t236 != 9218868437227405312)))) = some (r1, r2) := H;have A32 := Aside0.mk A320;clear A320;replace H := Option.bind_eq_some_iff.mp H;obtain ⟨t236, A330, H⟩ := H;replace H : (some (t236, (t236 != 9218868437227405312))) = some (r1, r2) := H;have A33 := Aside0.mk A330;clear A330;simp only [Option.some.injEq, Prod.mk.injEq] at H;obtain ⟨rfl, rfl⟩ := H
         go_wp2_with (first | ((with_reducible refine gate_dst (N := 43) rfl ?_); refine Kd.R_lit (Kd.int .i64) _ 3 ?hg (N := 43) ?hd (xs := ([1] : List Int)) (inner := [.int .i64 1]) (ok := fun _ => True) (okp := fun _ => True) ?hr ?hp (fun _ hk => hk) trivial (Below.refl _ _) (Nat.le_refl _) (by simp) ?_; (case hd => rfl); (case hg => rfl); (case hr => first | (go_simp; done) | (go_simp; rfl)); (case hp => exact (Reps.one (show Kd.M (Kd.int .i64) _ _ _ 1 [.int .i64 1] from rfl) (Reps.none _ _))); intro v227 w34 ho35 hb hg_ hnew_; clear hg_ hnew_; (first | rw [← Ny226.out] at ho35 | (simp only [Int.reduceToNat] at ho35; rw [← Ny226.out] at ho35)); have n0_ := Aside0.mk (Kd.V_elder' (by (with_reducible repeat (first | apply Kd.V_alloc | apply Kd.V_drewN | apply Kd.V_drew)); exact HO_6.out) (Kd.R_base ho35) hb); have n1_ := Aside0.mk (Kd.R_lower ho35 (below_size (by repeat (first | (with_reducible first | exact HB.out | apply below_alloc | apply pw_below_drewN | apply below_drew1) | exact HB.out)))); have n2_ := Aside0.mk (below_step (by repeat (first | (with_reducible first | exact HB.out | apply below_alloc | apply pw_below_drewN | apply below_drew1) | exact HB.out)) hb); clear HO_6; clear HB; have HO_6 := n0_; have HO228 := n1_; have HB := n2_; clear n0_ n1_ n2_; clear hb ho35; obtain ⟨Ao36, co36, eo36⟩ := Kd.R_slice HO228.out; subst eo36) | ((with_reducible refine gate_callee (f := 42) rfl ?_); refine goesL_ (some 52) rfl rfl Tryz.func42 (by kernel_rfl) rfl #[.slice Ao36 y226.length co36, .int .i64 (wrap64 (-a1))] rfl (by (try simp only [List.map_toArray, List.map_cons, List.map_nil]); first | done | rfl | (simp only [List.length_drop, List.length_take]; rfl)) ?_; (with_reducible refine (spec_l01Pow10.calls kj15 (fun k_ => some k_ = (.slice Ao36 y226.length co36 : Value).ownBlock) _ _ y226 (wrap64 (-a1)) t233 _ ?side1 A32.out).mono ?_); (case side1 => exact Kd.R_V (Kd.R_tight rfl (HO228.out))); rintro e w37 ⟨v234, rfl, ho0, hb⟩; refine ⟨_, rfl, ?_⟩; have n0_ := Aside0.mk (Kd.V_below (by (with_reducible repeat (first | apply Kd.V_alloc | apply Kd.V_drewN | apply Kd.V_drew)); exact HO_6.out) hb); have n1_ := Aside0.mk (Kd.R_below (by (with_reducible repeat (first | apply Kd.R_alloc | apply Kd.R_drewN | apply Kd.R_drew)); exact HO228.out) hb); have n2_ := Aside0.mk (Kd.V_lower (Kd.V_mono (ok' := fun k_ => True) ho0 (fun k_ hk_ => trivial)) (below_size (by repeat (first | (with_reducible first | exact HB.out | apply below_alloc | apply pw_below_drewN | apply below_drew1) | exact HB.out)))); have n3_ := Aside0.mk (below_step (by repeat (first | (with_reducible first | exact HB.out | apply below_alloc | apply pw_below_drewN | apply below_drew1) | exact HB.out)) hb); clear HO_6; clear HO228; clear HB; have HO_6 := n0_; have HO228 := n1_; have HO235 := n2_; have HB := n3_; clear n0_ n1_ n2_ n3_; (try clear hb); (try clear hb2); (try clear hk); (try clear hi); (try clear ho0); obtain ⟨Ao38, co38, eo38⟩ := Kd.V_slice HO_6.out; subst eo38; obtain ⟨Ao39, co39, eo39⟩ := Kd.V_slice HO235.out; subst eo39) | ((with_reducible refine gate_callee (f := 43) rfl ?_); refine goesL_ (some 55) rfl rfl Tryz.func43 (by kernel_rfl) rfl #[.slice Ao38 x6_1.length co38, .slice Ao39 t233.length co39, .int .i64 0] rfl (by (try simp only [List.map_toArray, List.map_cons, List.map_nil]); first | done | rfl | (simp only [List.length_drop, List.length_take]; rfl)) ?_; (with_reducible refine (spec_l01Word.calls kj15 (fun k_ => (True ∧ some k_ ≠ (.slice Ao36 y226.length co36 : Value).ownBlock)) _ _ x6_1 (fun k_ => True) _ _ t233 0 t236 _ ?side1 ?side2 A33.out).mono ?_); (case side1 => exact HO_6.out); (case side2 => exact HO235.out); rintro e w40 ⟨rfl, hb⟩; refine ⟨_, rfl, ?_⟩; have n0_ := Aside0.mk (Kd.V_below (by (with_reducible repeat (first | apply Kd.V_alloc | apply Kd.V_drewN | apply Kd.V_drew)); exact HO_6.out) hb); have n1_ := Aside0.mk (Kd.R_below (by (with_reducible repeat (first | apply Kd.R_alloc | apply Kd.R_drewN | apply Kd.R_drew)); exact HO228.out) hb); have n2_ := Aside0.mk (Kd.V_below (by (with_reducible repeat (first | apply Kd.V_alloc | apply Kd.V_drewN | apply Kd.V_drew)); exact HO235.out) hb); have n3_ := Aside0.mk (below_step (by repeat (first | (with_reducible first | exact HB.out | apply below_alloc | apply pw_below_drewN | apply below_drew1) | exact HB.out)) hb); clear HO_6; clear HO228; clear HO235; clear HB; have HO_6 := n0_; have HO228 := n1_; have HO235 := n2_; have HB := n3_; clear n0_ n1_ n2_ n3_; (try clear hb); (try clear hb2); (try clear hk); (try clear hi)))
         go_ret2;exact ⟨by first | rfl | (simp [errW_none, errW_some] <;> rfl) | (simp [*, errW_none, errW_some] <;> rfl), by repeat (first | (with_reducible first | exact HB.out | apply below_alloc | apply pw_below_drewN | apply below_drew1) | exact HB.out)⟩
def spec_l01Parts.f (a0 : Int) : Option (Int × Int) := if (wrap64 (Int.tmod (IntKind.u64.wrap (Int.tdiv a0 4503599627370496)) 2048)) = 0 then (some (wrap64 (Int.tmod a0 4503599627370496), (-1074))) else (some (wrap64 ((wrap64 (Int.tmod a0 4503599627370496)) + 4503599627370496), wrap64 ((wrap64 (Int.tmod (IntKind.u64.wrap (Int.tdiv a0 4503599627370496)) 2048)) - 1075)))
set_option maxHeartbeats 8000000 in
set_option maxRecDepth 100000 in
theorem spec_l01Parts.calls (a0 : Int) (r1 : Int) (r2 : Int) (w : World) (h : spec_l01Parts.f a0 = some (r1, r2)) :
  Calls Tryz.prog 54 #[.int .u64 a0] w fun e w' => e = .returned (.tuple #[.int .i64 r1, .int .i64 r2]) ∧ Drawn0 w w' := by
 have H : (if (wrap64 (Int.tmod (IntKind.u64.wrap (Int.tdiv a0 4503599627370496)) 2048)) = 0 then (some (wrap64 (Int.tmod a0 4503599627370496), (-1074))) else (some (wrap64 ((wrap64 (Int.tmod a0 4503599627370496)) + 4503599627370496), wrap64 ((wrap64 (Int.tmod (IntKind.u64.wrap (Int.tdiv a0 4503599627370496)) 2048)) - 1075)))) = some (r1, r2) := h;clear h;by_cases c2 : (wrap64 (Int.tmod (IntKind.u64.wrap (Int.tdiv a0 4503599627370496)) 2048)) = 0
 ·rw [if_pos c2] at H;have c2b0 : ((wrap64 (Int.tmod (IntKind.u64.wrap (Int.tdiv a0 4503599627370496)) 2048)) == 0) = true := beq_iff_eq.mpr c2;have c2b1 : ((wrap64 (Int.tmod (IntKind.u64.wrap (Int.tdiv a0 4503599627370496)) 2048)) != 0) = false := bne_eq_false_iff_eq.mpr c2;clear c2;simp only [Option.some.injEq, Prod.mk.injEq] at H;obtain ⟨rfl, rfl⟩ := H;go_enter Tryz.func54, Tryz.ntmps54;go_wp2;go_ret2;exact ⟨by first | rfl | (simp; done) | (simp [*]; done), by repeat (first | exact Drawn0.refl _ | apply Drawn0.step)⟩
 ·rw [if_neg c2] at H;have c2b0 : ((wrap64 (Int.tmod (IntKind.u64.wrap (Int.tdiv a0 4503599627370496)) 2048)) == 0) = false := beq_eq_false_iff_ne.mpr c2;have c2b1 : ((wrap64 (Int.tmod (IntKind.u64.wrap (Int.tdiv a0 4503599627370496)) 2048)) != 0) = true := bne_iff_ne.mpr c2;simp only [Option.some.injEq, Prod.mk.injEq] at H;obtain ⟨rfl, rfl⟩ := H;go_enter Tryz.func54, Tryz.ntmps54;go_wp2;go_ret2;exact ⟨by first | rfl | (simp; done) | (simp [*]; done), by repeat (first | exact Drawn0.refl _ | apply Drawn0.step)⟩
def spec_l01Of.l0 : Nat → Int → List Int → Option (List Int)
 | 0, _, _ => none
 | k + 1, x0, x3 => if x0 > 0 then (if x3.length < 17592186044416 then (spec_l01Of.l0 k (wrap64 (Int.tdiv x0 10000)) (x3 ++ [Int.tmod x0 10000])) else (none)) else (some x3)
def spec_l01Of.f (k : Nat) (a0 : Int) : Option (List Int) := spec_l01Of.l0 k a0 (([] : List Int))
theorem spec_l01Of.mono_l : ∀ k, (∀ y0 y1, LeO (spec_l01Of.l0 k y0 y1) (spec_l01Of.l0 (k + 1) y0 y1))
 | 0 => fun _ _ r h => by simp [spec_l01Of.l0] at h
 | k + 1 => by
  have ih0 := spec_l01Of.mono_l k
  ·intro y0 y1;unfold spec_l01Of.l0
   repeat' first
   | (with_reducible exact ih0 _ _)
   | (with_reducible exact LeO.refl _)
   | (with_reducible exact LeO.none _)
   | (with_reducible refine LeO.ite ?_ ?_)
   | (with_reducible refine LeO.bind ?_ (fun _ => ?_))
   | exact ih0 _ _
   | exact LeO.none _
   | refine LeO.ite ?_ ?_
   | refine LeO.bind ?_ (fun _ => ?_)
theorem spec_l01Of.mono : ∀ a0 k, LeO (spec_l01Of.f k a0) (spec_l01Of.f (k + 1) a0) := by
 intro a0 k;have ih0 := spec_l01Of.mono_l k;unfold spec_l01Of.f
 repeat' first
   | (with_reducible exact ih0 _ _)
   | (with_reducible exact LeO.refl _)
   | (with_reducible exact LeO.none _)
   | (with_reducible refine LeO.ite ?_ ?_)
   | (with_reducible refine LeO.bind ?_ (fun _ => ?_))
   | exact ih0 _ _
   | exact LeO.none _
   | refine LeO.ite ?_ ?_
   | refine LeO.bind ?_ (fun _ => ?_)
set_option maxHeartbeats 8000000 in
set_option maxRecDepth 100000 in
theorem spec_l01Of.calls (k : Nat) (a0 : Int) (r : List Int) (w : World) (h : spec_l01Of.f k a0 = some r) :
  Calls Tryz.prog 100 #[.int .i64 a0] w fun e w' => ∃ v0_ : Value, e = .returned (v0_) ∧ Kd.R (Kd.int .i64) 3 w' w.heap.size (fun _ => True) v0_ r ∧ Below w.heap.size w w' := by
 have HB := Aside0.mk (Below.refl w.heap.size w);have H : (spec_l01Of.l0 k a0 (([] : List Int))) = some r := h;clear h;obtain ⟨y237, hy237⟩ : ∃ y_ : List Int, y_ = (([] : List Int)) := ⟨_, rfl⟩;replace H : (spec_l01Of.l0 k a0 y237) = some r := (by first | (rw [hy237]; with_reducible exact H) | (have H2_ := (Option.bind_some _ _).symm.trans H; rw [hy237]; with_reducible exact H2_) | (have H2_ := (Option.bind_some _ _).symm.trans H; with_reducible exact H2_) | with_reducible exact H | (rw [hy237]; exact H) | exact H);have Ny237 := Aside0.mk hy237;clear hy237;have H' := Aside0.mk H;clear H;go_enter Tryz.func100, Tryz.ntmps100
 go_wp2_with (first | ((with_reducible refine gate_dst (N := 4) rfl ?_); refine Kd.R_lit (Kd.int .i64) _ 3 ?hg (N := 4) ?hd (xs := ([] : List Int)) (inner := []) (ok := fun _ => True) (okp := fun _ => True) ?hr ?hp (fun _ hk => hk) trivial (Below.refl _ _) (Nat.le_refl _) (by simp) ?_; (case hd => rfl); (case hg => rfl); (case hr => first | (go_simp; done) | (go_simp; rfl)); (case hp => exact (Reps.none _ _)); intro v238 w2 ho3 hb hg_ hnew_; clear hg_ hnew_; (first | rw [← Ny237.out] at ho3 | (simp only [Int.reduceToNat] at ho3; rw [← Ny237.out] at ho3)); have n0_ := Aside0.mk (Kd.R_lower ho3 (below_size (by repeat (first | (with_reducible first | exact HB.out | apply below_alloc | apply pw_below_drewN | apply below_drew1) | exact HB.out)))); have n1_ := Aside0.mk (below_step (by repeat (first | (with_reducible first | exact HB.out | apply below_alloc | apply pw_below_drewN | apply below_drew1) | exact HB.out)) hb); clear HB; have HO239 := n0_; have HB := n1_; clear n0_ n1_; clear hb ho3))
 go_loopg [0, 3] k (fun kq v0 v3 w' => ∃ (x0_1 : Int) (x3_1 : List Int), v0 = .int .i64 x0_1 ∧ Aside0 (spec_l01Of.l0 kq x0_1 x3_1 = some r) ∧ Aside0 (kq ≤ k) ∧ Aside0 (Kd.R (Kd.int .i64) 3 w' w.heap.size (fun _ => True) v3 x3_1) ∧ Aside0 (Below w.heap.size w w'))
 case atStart => exact ⟨(a0), (y237), (by first | rfl | (simp; done) | (simp [*]; done)), H', ⟨Nat.le_refl _⟩, ⟨by (with_reducible repeat (first | apply Kd.R_alloc | apply Kd.R_drewN | apply Kd.R_drew)); exact HO239.out⟩, ⟨by repeat (first | (with_reducible first | exact HB.out | apply below_alloc | apply pw_below_drewN | apply below_drew1) | exact HB.out)⟩⟩
 case round =>
  clear H';(try clear c1);(try clear p2);obtain ⟨x0_1, x3_1, rfl, HA, HK1, HO_3, HB⟩ := hrel
  cases gk with
  | zero => exact absurd HA.out (by simp [spec_l01Of.l0])
  | succ k1 =>
   have H := HA.out;clear HA;simp only [spec_l01Of.l0] at H;by_cases c4 : x0_1 > 0
   ·rw [if_pos c4] at H;have c4b0 : decide (0 < x0_1) = true := decide_eq_true c4;clear c4;by_cases c5 : x3_1.length < 17592186044416
    ·rw [if_pos c5] at H;have LMc5 := Aside0.mk c5;clear c5;obtain ⟨y240, hy240⟩ : ∃ y_ : List Int, y_ = (x3_1 ++ [Int.tmod x0_1 10000]) := ⟨_, rfl⟩;replace H : (spec_l01Of.l0 k1 (wrap64 (Int.tdiv x0_1 10000)) y240) = some r := (by first | (rw [hy240]; with_reducible exact H) | (have H2_ := (Option.bind_some _ _).symm.trans H; rw [hy240]; with_reducible exact H2_) | (have H2_ := (Option.bind_some _ _).symm.trans H; with_reducible exact H2_) | with_reducible exact H | (rw [hy240]; exact H) | exact H);have Ny240 := Aside0.mk hy240;clear hy240;have H' := Aside0.mk H;clear H
     go_wp2_with (first | ((with_reducible refine gate_builtin (b := .append) (xs := #[.tmp 9, .tmp 12]) rfl ?_); at_builtin; refine Kd.R_append (Kd.int .i64) (w0 := w) w.heap.size rfl (.tmp 9) (.tmp 12) 67 3 (.int .i64 0) 8 rfl Tryz.underlying67 info3 rfl (by decide) (by omega) u3 x3_1 (Int.tmod x0_1 10000) [.int .i64 (Int.tmod x0_1 10000)] (fun _ => True) (fun _ => False) rfl rfl ?aP (fun _ hk => hk.elim) ?aF ?aO ?aB ?aS ?aL ?_; (case aP => exact rfl); (case aB => exact (by repeat (first | (with_reducible first | exact HB.out | apply below_alloc | apply pw_below_drewN | apply below_drew1) | exact HB.out))); (case aF => exact (fun _ _ => trivial)); (case aO => exact (by (with_reducible repeat (first | apply Kd.R_alloc | apply Kd.R_drewN | apply Kd.R_drew)); exact HO_3.out)); (case aS => exact (below_size (by repeat (first | (with_reducible first | exact HB.out | apply below_alloc | apply pw_below_drewN | apply below_drew1) | exact HB.out)))); (case aL => have := LMc5.out; omega); intro v241 w6 ho hb hg hat; rw [← Ny240.out] at ho; have n0_ := Aside0.mk (hb); have n1_ := Aside0.mk (ho); clear HB; clear HO_3; have HB := n0_; have HO242 := n1_; clear n0_ n1_; clear ho hb hg hat))
     go_roundg k1
     case measure => have := HK1.out; omega
     case rel => exact ⟨(wrap64 (Int.tdiv x0_1 10000)), (y240), (by first | rfl | (simp; done) | (simp [*]; done)), H', ⟨by have := HK1.out; omega⟩, ⟨by (with_reducible repeat (first | apply Kd.R_alloc | apply Kd.R_drewN | apply Kd.R_drew)); exact HO242.out⟩, ⟨by repeat (first | (with_reducible first | exact HB.out | apply below_alloc | apply pw_below_drewN | apply below_drew1) | exact HB.out)⟩⟩
    ·rw [if_neg c5] at H;exact absurd H (by simp)
   ·rw [if_neg c4] at H;have c4b0 : decide (0 < x0_1) = false := decide_eq_false c4;clear c4;obtain rfl := Option.some.inj H;go_wp2;go_ret;exact ⟨_, by first | rfl | (simp [errW_none, errW_some] <;> rfl) | (simp [*, errW_none, errW_some] <;> rfl), by (with_reducible repeat (first | apply Kd.R_alloc | apply Kd.R_drewN | apply Kd.R_drew)); exact HO_3.out, by repeat (first | (with_reducible first | exact HB.out | apply below_alloc | apply pw_below_drewN | apply below_drew1) | exact HB.out)⟩
end Go.Proofs.YtlblkajnmdhmdaaGreatDoor.PFormatNumber
namespace Go.Proofs.YtlblkajnmdhmdaaGreatDoor.PFormatNumber
end Go.Proofs.YtlblkajnmdhmdaaGreatDoor.PFormatNumber
