/-
  Walk (printed by the kit's print for this claim, one step mended): l01Zeros and l01FloatText of the reference.
-/
import Derived.Test.YtlblkajnmdhmdaaGreatDoorZPFormatNumberx2
import Derived.Test.YtlblkajnmdhmdaaGreatDoorZSShort
namespace Go.Proofs.YtlblkajnmdhmdaaGreatDoor.PFormatNumber
open Go.RowKit Go.Proofs.YtlblkajnmdhmdaaGreatDoorW.PrintWords Go.Proofs.YtlblkajnmdhmdaaGreatDoorW.PrintLast Go.Proofs.YtlblkajnmdhmdaaGreatDoorW.PrintMore
attribute [local go_sem] max2_int min2_int max_two min_two max_three min_three max_four min_four
set_option linter.unusedVariables false
set_option linter.unusedSimpArgs false

mutual
def spec_l01FloatText.j0 : Nat → ByteArray → Int → Option (ByteArray)
  | 0, _, _ => none
  | k + 1, x3, x4 => spec_l01FloatText.l0 k x3 x4
def spec_l01FloatText.j2 : Nat → ByteArray → Int → Option (ByteArray)
  | 0, _, _ => none
  | k + 1, x3, x4 => if x4 < (-5) then (spec_l01FloatText.j3 k x3 x4 true) else (spec_l01FloatText.j3 k x3 x4 (decide (x4 > 16)))
def spec_l01FloatText.j3 : Nat → ByteArray → Int → Bool → Option (ByteArray)
  | 0, _, _, _ => none
  | k + 1, x3, x4, x41 => if x41 = true then (if 0 ≤ 1 then (if 1 ≤ (x3.size : Int) then (if (x3.size : Int) > 1 then (if 1 + (x3.extract 1 x3.size).size ≤ 9223372036854775807 then (if (x3.extract 0 1).size + ((⟨#[46]⟩ : ByteArray) ++ (x3.extract 1 x3.size)).size ≤ 9223372036854775807 then (spec_l01FloatText.j4 k x4 ((x3.extract 0 1) ++ ((⟨#[46]⟩ : ByteArray) ++ (x3.extract 1 x3.size)))) else (none)) else (none)) else (spec_l01FloatText.j4 k x4 (x3.extract 0 1))) else (none)) else (none)) else (if x4 < 0 then ((spec_l01Zeros.f k (wrap64 ((wrap64 (-x4)) - 1))).bind fun t313 => (if 2 + t313.size ≤ 9223372036854775807 then (if ((⟨#[48, 46]⟩ : ByteArray) ++ t313).size + x3.size ≤ 9223372036854775807 then (some (((⟨#[48, 46]⟩ : ByteArray) ++ t313) ++ x3)) else (none)) else (none))) else (if (x3.size : Int) ≤ (wrap64 (x4 + 1)) then ((spec_l01Zeros.f k (wrap64 ((wrap64 (x4 + 1)) - (x3.size : Int)))).bind fun t314 => (if x3.size + t314.size ≤ 9223372036854775807 then (if (x3 ++ t314).size + 2 ≤ 9223372036854775807 then (some ((x3 ++ t314) ++ (⟨#[46, 48]⟩ : ByteArray))) else (none)) else (none))) else (if 0 ≤ (wrap64 (x4 + 1)) then (if (wrap64 (x4 + 1)) ≤ (x3.size : Int) then (if (x3.extract 0 ((wrap64 (x4 + 1)) : Int).toNat).size + 1 ≤ 9223372036854775807 then (if ((x3.extract 0 ((wrap64 (x4 + 1)) : Int).toNat) ++ (⟨#[46]⟩ : ByteArray)).size + (x3.extract ((wrap64 (x4 + 1)) : Int).toNat x3.size).size ≤ 9223372036854775807 then (some (((x3.extract 0 ((wrap64 (x4 + 1)) : Int).toNat) ++ (⟨#[46]⟩ : ByteArray)) ++ (x3.extract ((wrap64 (x4 + 1)) : Int).toNat x3.size))) else (none)) else (none)) else (none)) else (none))))
def spec_l01FloatText.j4 : Nat → Int → ByteArray → Option (ByteArray)
  | 0, _, _ => none
  | k + 1, x4, x7 => if x4 < 0 then ((spec_l01Dec.f k (wrap64 (-x4))).bind fun t311 => (if (t311.size : Int) < 2 then (if 1 + t311.size ≤ 9223372036854775807 then (if x7.size + 1 ≤ 9223372036854775807 then (if (x7 ++ (⟨#[101]⟩ : ByteArray)).size + 1 ≤ 9223372036854775807 then (if ((x7 ++ (⟨#[101]⟩ : ByteArray)) ++ (⟨#[45]⟩ : ByteArray)).size + ((⟨#[48]⟩ : ByteArray) ++ t311).size ≤ 9223372036854775807 then (some (((x7 ++ (⟨#[101]⟩ : ByteArray)) ++ (⟨#[45]⟩ : ByteArray)) ++ ((⟨#[48]⟩ : ByteArray) ++ t311))) else (none)) else (none)) else (none)) else (none)) else (if x7.size + 1 ≤ 9223372036854775807 then (if (x7 ++ (⟨#[101]⟩ : ByteArray)).size + 1 ≤ 9223372036854775807 then (if ((x7 ++ (⟨#[101]⟩ : ByteArray)) ++ (⟨#[45]⟩ : ByteArray)).size + t311.size ≤ 9223372036854775807 then (some (((x7 ++ (⟨#[101]⟩ : ByteArray)) ++ (⟨#[45]⟩ : ByteArray)) ++ t311)) else (none)) else (none)) else (none)))) else ((spec_l01Dec.f k x4).bind fun t312 => (if (t312.size : Int) < 2 then (if 1 + t312.size ≤ 9223372036854775807 then (if x7.size + 1 ≤ 9223372036854775807 then (if (x7 ++ (⟨#[101]⟩ : ByteArray)).size + 1 ≤ 9223372036854775807 then (if ((x7 ++ (⟨#[101]⟩ : ByteArray)) ++ (⟨#[43]⟩ : ByteArray)).size + ((⟨#[48]⟩ : ByteArray) ++ t312).size ≤ 9223372036854775807 then (some (((x7 ++ (⟨#[101]⟩ : ByteArray)) ++ (⟨#[43]⟩ : ByteArray)) ++ ((⟨#[48]⟩ : ByteArray) ++ t312))) else (none)) else (none)) else (none)) else (none)) else (if x7.size + 1 ≤ 9223372036854775807 then (if (x7 ++ (⟨#[101]⟩ : ByteArray)).size + 1 ≤ 9223372036854775807 then (if ((x7 ++ (⟨#[101]⟩ : ByteArray)) ++ (⟨#[43]⟩ : ByteArray)).size + t312.size ≤ 9223372036854775807 then (some (((x7 ++ (⟨#[101]⟩ : ByteArray)) ++ (⟨#[43]⟩ : ByteArray)) ++ t312)) else (none)) else (none)) else (none))))
def spec_l01FloatText.l0 : Nat → ByteArray → Int → Option (ByteArray)
  | 0, _, _ => none
  | k + 1, x3, x4 => if (x3.size : Int) > 1 then (if 0 ≤ (wrap64 ((x3.size : Int) - 1)) then (if (wrap64 ((x3.size : Int) - 1)) < (x3.size : Int) then (if (bt x3 (wrap64 ((x3.size : Int) - 1))) = 48 then (if (wrap64 ((x3.size : Int) - 1)) ≤ (x3.size : Int) then (spec_l01FloatText.l0 k (x3.extract 0 ((wrap64 ((x3.size : Int) - 1)) : Int).toNat) x4) else (none)) else (spec_l01FloatText.j2 k x3 x4)) else (none)) else (none)) else (spec_l01FloatText.j2 k x3 x4)
end
def spec_l01FloatText.f (k : Nat) (a0 : Int) : Option (ByteArray) := if a0 > 0 then ((spec_l01Short.f k a0).bind fun bt307 => (spec_l01FloatText.j0 k (strOfNums bt307.1) bt307.2)) else (spec_l01FloatText.j0 k (⟨#[48]⟩ : ByteArray) 0)
theorem spec_l01FloatText.mono_l : ∀ k, (∀ y0 y1, LeO (spec_l01FloatText.j0 k y0 y1) (spec_l01FloatText.j0 (k + 1) y0 y1)) ∧ (∀ y0 y1, LeO (spec_l01FloatText.j2 k y0 y1) (spec_l01FloatText.j2 (k + 1) y0 y1)) ∧ (∀ y0 y1 y2, LeO (spec_l01FloatText.j3 k y0 y1 y2) (spec_l01FloatText.j3 (k + 1) y0 y1 y2)) ∧ (∀ y0 y1, LeO (spec_l01FloatText.j4 k y0 y1) (spec_l01FloatText.j4 (k + 1) y0 y1)) ∧ (∀ y0 y1, LeO (spec_l01FloatText.l0 k y0 y1) (spec_l01FloatText.l0 (k + 1) y0 y1))
  | 0 => ⟨fun _ _ r h => by simp [spec_l01FloatText.j0] at h, fun _ _ r h => by simp [spec_l01FloatText.j2] at h, fun _ _ _ r h => by simp [spec_l01FloatText.j3] at h, fun _ _ r h => by simp [spec_l01FloatText.j4] at h, fun _ _ r h => by simp [spec_l01FloatText.l0] at h⟩
  | k + 1 => by
    obtain ⟨ih0, ih1, ih2, ih3, ih4⟩ := spec_l01FloatText.mono_l k
    refine ⟨?_, ?_, ?_, ?_, ?_⟩
    · intro y0 y1
      unfold spec_l01FloatText.j0
      repeat' first
      | (with_reducible exact ih0 _ _)
      | (with_reducible exact ih1 _ _)
      | (with_reducible exact ih2 _ _ _)
      | (with_reducible exact ih3 _ _)
      | (with_reducible exact ih4 _ _)
      | (with_reducible exact spec_l01Dec.mono _ _)
      | (with_reducible exact spec_l01Short.mono _ _)
      | (with_reducible exact spec_l01Zeros.mono _ _)
      | (with_reducible exact LeO.refl _)
      | (with_reducible exact LeO.none _)
      | (with_reducible refine LeO.ite ?_ ?_)
      | (with_reducible refine LeO.bind ?_ (fun _ => ?_))
      | exact ih0 _ _
      | exact ih1 _ _
      | exact ih2 _ _ _
      | exact ih3 _ _
      | exact ih4 _ _
      | exact spec_l01Dec.mono _ _
      | exact spec_l01Short.mono _ _
      | exact spec_l01Zeros.mono _ _
      | exact LeO.none _
      | refine LeO.ite ?_ ?_
      | refine LeO.bind ?_ (fun _ => ?_)
    · intro y0 y1
      unfold spec_l01FloatText.j2
      repeat' first
      | (with_reducible exact ih0 _ _)
      | (with_reducible exact ih1 _ _)
      | (with_reducible exact ih2 _ _ _)
      | (with_reducible exact ih3 _ _)
      | (with_reducible exact ih4 _ _)
      | (with_reducible exact spec_l01Dec.mono _ _)
      | (with_reducible exact spec_l01Short.mono _ _)
      | (with_reducible exact spec_l01Zeros.mono _ _)
      | (with_reducible exact LeO.refl _)
      | (with_reducible exact LeO.none _)
      | (with_reducible refine LeO.ite ?_ ?_)
      | (with_reducible refine LeO.bind ?_ (fun _ => ?_))
      | exact ih0 _ _
      | exact ih1 _ _
      | exact ih2 _ _ _
      | exact ih3 _ _
      | exact ih4 _ _
      | exact spec_l01Dec.mono _ _
      | exact spec_l01Short.mono _ _
      | exact spec_l01Zeros.mono _ _
      | exact LeO.none _
      | refine LeO.ite ?_ ?_
      | refine LeO.bind ?_ (fun _ => ?_)
    · intro y0 y1 y2
      unfold spec_l01FloatText.j3
      repeat' first
      | (with_reducible exact ih0 _ _)
      | (with_reducible exact ih1 _ _)
      | (with_reducible exact ih2 _ _ _)
      | (with_reducible exact ih3 _ _)
      | (with_reducible exact ih4 _ _)
      | (with_reducible exact spec_l01Dec.mono _ _)
      | (with_reducible exact spec_l01Short.mono _ _)
      | (with_reducible exact spec_l01Zeros.mono _ _)
      | (with_reducible exact LeO.refl _)
      | (with_reducible exact LeO.none _)
      | (with_reducible refine LeO.ite ?_ ?_)
      | (with_reducible refine LeO.bind ?_ (fun _ => ?_))
      | exact ih0 _ _
      | exact ih1 _ _
      | exact ih2 _ _ _
      | exact ih3 _ _
      | exact ih4 _ _
      | exact spec_l01Dec.mono _ _
      | exact spec_l01Short.mono _ _
      | exact spec_l01Zeros.mono _ _
      | exact LeO.none _
      | refine LeO.ite ?_ ?_
      | refine LeO.bind ?_ (fun _ => ?_)
    · intro y0 y1
      unfold spec_l01FloatText.j4
      repeat' first
      | (with_reducible exact ih0 _ _)
      | (with_reducible exact ih1 _ _)
      | (with_reducible exact ih2 _ _ _)
      | (with_reducible exact ih3 _ _)
      | (with_reducible exact ih4 _ _)
      | (with_reducible exact spec_l01Dec.mono _ _)
      | (with_reducible exact spec_l01Short.mono _ _)
      | (with_reducible exact spec_l01Zeros.mono _ _)
      | (with_reducible exact LeO.refl _)
      | (with_reducible exact LeO.none _)
      | (with_reducible refine LeO.ite ?_ ?_)
      | (with_reducible refine LeO.bind ?_ (fun _ => ?_))
      | exact ih0 _ _
      | exact ih1 _ _
      | exact ih2 _ _ _
      | exact ih3 _ _
      | exact ih4 _ _
      | exact spec_l01Dec.mono _ _
      | exact spec_l01Short.mono _ _
      | exact spec_l01Zeros.mono _ _
      | exact LeO.none _
      | refine LeO.ite ?_ ?_
      | refine LeO.bind ?_ (fun _ => ?_)
    · intro y0 y1
      unfold spec_l01FloatText.l0
      repeat' first
      | (with_reducible exact ih0 _ _)
      | (with_reducible exact ih1 _ _)
      | (with_reducible exact ih2 _ _ _)
      | (with_reducible exact ih3 _ _)
      | (with_reducible exact ih4 _ _)
      | (with_reducible exact spec_l01Dec.mono _ _)
      | (with_reducible exact spec_l01Short.mono _ _)
      | (with_reducible exact spec_l01Zeros.mono _ _)
      | (with_reducible exact LeO.refl _)
      | (with_reducible exact LeO.none _)
      | (with_reducible refine LeO.ite ?_ ?_)
      | (with_reducible refine LeO.bind ?_ (fun _ => ?_))
      | exact ih0 _ _
      | exact ih1 _ _
      | exact ih2 _ _ _
      | exact ih3 _ _
      | exact ih4 _ _
      | exact spec_l01Dec.mono _ _
      | exact spec_l01Short.mono _ _
      | exact spec_l01Zeros.mono _ _
      | exact LeO.none _
      | refine LeO.ite ?_ ?_
      | refine LeO.bind ?_ (fun _ => ?_)
theorem spec_l01FloatText.mono : ∀ a0 k, LeO (spec_l01FloatText.f k a0) (spec_l01FloatText.f (k + 1) a0) := by
  intro a0 k
  obtain ⟨ih0, ih1, ih2, ih3, ih4⟩ := spec_l01FloatText.mono_l k
  unfold spec_l01FloatText.f
  repeat' first
      | (with_reducible exact ih0 _ _)
      | (with_reducible exact ih1 _ _)
      | (with_reducible exact ih2 _ _ _)
      | (with_reducible exact ih3 _ _)
      | (with_reducible exact ih4 _ _)
      | (with_reducible exact spec_l01Dec.mono _ _)
      | (with_reducible exact spec_l01Short.mono _ _)
      | (with_reducible exact spec_l01Zeros.mono _ _)
      | (with_reducible exact LeO.refl _)
      | (with_reducible exact LeO.none _)
      | (with_reducible refine LeO.ite ?_ ?_)
      | (with_reducible refine LeO.bind ?_ (fun _ => ?_))
      | exact ih0 _ _
      | exact ih1 _ _
      | exact ih2 _ _ _
      | exact ih3 _ _
      | exact ih4 _ _
      | exact spec_l01Dec.mono _ _
      | exact spec_l01Short.mono _ _
      | exact spec_l01Zeros.mono _ _
      | exact LeO.none _
      | refine LeO.ite ?_ ?_
      | refine LeO.bind ?_ (fun _ => ?_)
set_option maxHeartbeats 8000000 in
set_option maxRecDepth 100000 in
theorem spec_l01FloatText.calls (k : Nat) (a0 : Int) (r : ByteArray) (w : World) (h : spec_l01FloatText.f k a0 = some r) :
    Calls Tryz.prog 61 #[.int .u64 a0] w fun e w' => e = .returned (.string r) ∧ Below w.heap.size w w' := by
  have HB := Aside0.mk (Below.refl w.heap.size w)
  have H : (if a0 > 0 then ((spec_l01Short.f k a0).bind fun bt307 => (spec_l01FloatText.j0 k (strOfNums bt307.1) bt307.2)) else (spec_l01FloatText.j0 k (⟨#[48]⟩ : ByteArray) 0)) = some r := h
  clear h
  have HC2 := Aside0.mk H
  clear H
  go_enter Tryz.func61, Tryz.ntmps61
  go_upto_if 11 with (fail)
  repeat (go_quiet (fail); go_upto_if 11 with (fail))
  go_cut [3, 4] (fun v3 v4 wc => ∃ (kq : Nat) (x3_1 : ByteArray) (x4_1 : Int), v3 = .string x3_1 ∧ v4 = .int .i64 x4_1 ∧ Aside0 (spec_l01FloatText.j0 kq x3_1 x4_1 = some r) ∧ Aside0 (kq ≤ k) ∧ Aside0 (Below w.heap.size w wc))
  case first =>
    have H := HC2.out
    clear HC2
    by_cases c3 : a0 > 0
    · rw [if_pos c3] at H
      have c3b0 : decide (0 < a0) = true := decide_eq_true c3
      clear c3
      (first | rw [c3b0] | (simp only [i64_w, i32_w]; rw [c3b0]) | skip)
      replace H := Option.bind_eq_some_iff.mp H
      obtain ⟨⟨t307, t308⟩, A40, H⟩ := H
      replace H : (spec_l01FloatText.j0 k (strOfNums t307) t308) = some r := H
      have A4 := Aside0.mk A40
      clear A40
      have H' := Aside0.mk H
      clear H
      go_wp2_with (first | (go_at_call 88; (with_reducible refine (spec_l01Short.calls k a0 t307 t308 _ A4.out).mono ?_); rintro e w5 ⟨v309, rfl, ho0, hb⟩; have n0_ := Aside0.mk (Kd.R_lower ho0 (below_size (by repeat (first | (with_reducible first | exact HB.out | apply below_alloc | apply pw_below_drewN | apply below_drew1) | exact HB.out)))); have n1_ := Aside0.mk (below_step (by repeat (first | (with_reducible first | exact HB.out | apply below_alloc | apply pw_below_drewN | apply below_drew1) | exact HB.out)) hb); clear HB; have HO310 := n0_; have HB := n1_; clear n0_ n1_; (try clear hb); (try clear hb2); (try clear hk); (try clear hi); (try clear ho0); have hcv6 := own_string (P := Tryz.prog) Tryz.underlying35 Tryz.underlying5 Tryz.underlying9 (Kd.own_of_R HO310.out)))
      repeat (go_quiet (first | (go_at_call 88; (with_reducible refine (spec_l01Short.calls k a0 t307 t308 _ A4.out).mono ?_); rintro e w5 ⟨v309, rfl, ho0, hb⟩; have n0_ := Aside0.mk (Kd.R_lower ho0 (below_size (by repeat (first | (with_reducible first | exact HB.out | apply below_alloc | apply pw_below_drewN | apply below_drew1) | exact HB.out)))); have n1_ := Aside0.mk (below_step (by repeat (first | (with_reducible first | exact HB.out | apply below_alloc | apply pw_below_drewN | apply below_drew1) | exact HB.out)) hb); clear HB; have HO310 := n0_; have HB := n1_; clear n0_ n1_; (try clear hb); (try clear hb2); (try clear hk); (try clear hi); (try clear ho0); have hcv6 := own_string (P := Tryz.prog) Tryz.underlying35 Tryz.underlying5 Tryz.underlying9 (Kd.own_of_R HO310.out))); try go_wp2_with (first | (go_at_call 88; (with_reducible refine (spec_l01Short.calls k a0 t307 t308 _ A4.out).mono ?_); rintro e w5 ⟨v309, rfl, ho0, hb⟩; have n0_ := Aside0.mk (Kd.R_lower ho0 (below_size (by repeat (first | (with_reducible first | exact HB.out | apply below_alloc | apply pw_below_drewN | apply below_drew1) | exact HB.out)))); have n1_ := Aside0.mk (below_step (by repeat (first | (with_reducible first | exact HB.out | apply below_alloc | apply pw_below_drewN | apply below_drew1) | exact HB.out)) hb); clear HB; have HO310 := n0_; have HB := n1_; clear n0_ n1_; (try clear hb); (try clear hb2); (try clear hk); (try clear hi); (try clear ho0); have hcv6 := own_string (P := Tryz.prog) Tryz.underlying35 Tryz.underlying5 Tryz.underlying9 (Kd.own_of_R HO310.out))))
      go_meet
      case rel => exact ⟨_, (strOfNums t307), (t308), (by first | rfl | (simp; done) | (simp [*]; done)), (by first | rfl | (simp; done) | (simp [*]; done)), H', ⟨by first | omega | exact Nat.le_refl _⟩, ⟨by repeat (first | (with_reducible first | exact HB.out | apply below_alloc | apply pw_below_drewN | apply below_drew1) | exact HB.out)⟩⟩
    · rw [if_neg c3] at H
      have c3b0 : decide (0 < a0) = false := decide_eq_false c3
      clear c3
      (first | rw [c3b0] | (simp only [i64_w, i32_w]; rw [c3b0]) | skip)
      have H' := Aside0.mk H
      clear H
      go_wp2
      repeat (go_quiet (fail); try go_wp2)
      go_meet
      case rel => exact ⟨_, ((⟨#[48]⟩ : ByteArray)), (0), (by first | rfl | (simp; done) | (simp [*]; done)), (by first | rfl | (simp; done) | (simp [*]; done)), H', ⟨by first | omega | exact Nat.le_refl _⟩, ⟨by repeat (first | (with_reducible first | exact HB.out | apply below_alloc | apply pw_below_drewN | apply below_drew1) | exact HB.out)⟩⟩
  case rest =>
    clear HC2
    try clear p2
    try clear c3
    try clear c3b0
    try clear c6
    try clear hcv6
    obtain ⟨kq, x3_1, x4_1, rfl, rfl, HA, HJ1, HB⟩ := hcut
    cases kq with
    | zero => exact absurd HA.out (by simp [spec_l01FloatText.j0])
    | succ kj1 =>
      have H := HA.out
      clear HA
      simp only [spec_l01FloatText.j0] at H
      have HC7 := Aside0.mk H
      clear H
      go_upto_block 0 with (fail)
      repeat (go_quiet (fail); go_upto_block 0 with (fail))
      go_cut [3] (fun v3 wc => ∃ (kq : Nat) (x3_6 : ByteArray), v3 = .string x3_6 ∧ Aside0 (spec_l01FloatText.j2 kq x3_6 x4_1 = some r) ∧ Aside0 (kq ≤ kj1) ∧ Aside0 (Below w.heap.size w wc))
      case first =>
        have H := HC7.out
        clear HC7
        have H' := Aside0.mk H
        clear H
        go_wp2
        repeat (go_quiet (fail); try go_wp2)
        go_loopg [3] kj1 (fun kq v3 w' => ∃ (x3_2 : ByteArray), v3 = .string x3_2 ∧ Aside0 (spec_l01FloatText.l0 kq x3_2 x4_1 = some r) ∧ Aside0 (kq ≤ kj1) ∧ Aside0 (Below w.heap.size w w'))
        case atStart => exact ⟨(x3_1), (by first | rfl | (simp; done) | (simp [*]; done)), H', ⟨Nat.le_refl _⟩, ⟨by repeat (first | (with_reducible first | exact HB.out | apply below_alloc | apply pw_below_drewN | apply below_drew1) | exact HB.out)⟩⟩
        case round =>
          clear H'
          try clear p2
          try clear c3
          try clear c3b0
          try clear c6
          try clear hcv6
          try clear p2
          obtain ⟨x3_2, rfl, HA, HK2, HB⟩ := hrel
          cases gk with
          | zero => exact absurd HA.out (by simp [spec_l01FloatText.l0])
          | succ k2 =>
            have H := HA.out
            clear HA
            simp only [spec_l01FloatText.l0] at H
            by_cases c8 : (x3_2.size : Int) > 1
            · rw [if_pos c8] at H
              have c8b0 : decide (1 < (x3_2.size : Int)) = true := decide_eq_true c8
              have c8b1 : decide (1 < x3_2.size) = true := decide_eq_true (by omega)
              clear c8
              (first | rw [c8b0] | (simp only [i64_w, i32_w]; rw [c8b0]) | skip)
              obtain ⟨ji9, hji9⟩ : ∃ j_ : Int, (wrap64 ((x3_2.size : Int) - 1)) = j_ := ⟨_, rfl⟩
              replace H : (if 0 ≤ (ji9) then (if (ji9) < (x3_2.size : Int) then (if (bt x3_2 (ji9)) = 48 then (if (ji9) ≤ (x3_2.size : Int) then (spec_l01FloatText.l0 k2 (x3_2.extract 0 ((ji9) : Int).toNat) x4_1) else (none)) else (spec_l01FloatText.j2 k2 x3_2 x4_1)) else (none)) else (none)) = some r := by first | (rw [hji9] at H; exact H) | (simp only [hji9] at H ⊢; exact H)
              have hji9w : (IntKind.i64.wrap ((x3_2.size : Int) - 1)) = ji9 := (i64_w _).trans hji9
              by_cases c10 : 0 ≤ (ji9)
              · rw [if_pos c10] at H
                have c10b0 : decide (0 ≤ (ji9)) = true := decide_eq_true c10
                clear c10
                by_cases c11 : (ji9) < (x3_2.size : Int)
                · rw [if_pos c11] at H
                  have c11b0 : decide ((ji9) < (x3_2.size : Int)) = true := decide_eq_true c11
                  clear c11
                  by_cases c13 : (bt x3_2 (ji9)) = 48
                  · rw [if_pos c13] at H
                    have c13b0 : ((bt x3_2 (ji9)) == 48) = true := beq_iff_eq.mpr c13
                    have c13b1 : ((bt x3_2 (ji9)) != 48) = false := bne_eq_false_iff_eq.mpr c13
                    clear c13
                    have c14b0 := eq_true (of_decide_eq_true (by first | (with_reducible assumption) | assumption) : 0 ≤ (ji9))
                    by_cases c15 : (ji9) ≤ (x3_2.size : Int)
                    · rw [if_pos c15] at H
                      have c15b0 := eq_true c15
                      have c15b1 : decide ((ji9) ≤ (x3_2.size : Int)) = true := decide_eq_true c15
                      clear c15
                      have H' := Aside0.mk H
                      clear H
                      have p12 : 0 ≤ ((ji9) : Int) := of_decide_eq_true (by first | (with_reducible assumption) | assumption)
                      have q12 : (ji9) < (x3_2.size : Int) := of_decide_eq_true (by first | (with_reducible assumption) | assumption)
                      have hx12 := bt_at x3_2 (ji9)
                      replace p12 := eq_true p12
                      replace q12 := eq_true q12
                      go_wp2
                      repeat (go_quiet (fail); try go_wp2)
                      go_roundg k2
                      case measure => have := HJ1.out; have := HK2.out; omega
                      case rel => exact ⟨(x3_2.extract 0 ((ji9) : Int).toNat), (by first | rfl | (simp; done) | (simp only [← hji9] <;> (first | rfl | simp)) | (simp [*]; done)), H', ⟨by have := HJ1.out; have := HK2.out; omega⟩, ⟨by repeat (first | (with_reducible first | exact HB.out | apply below_alloc | apply pw_below_drewN | apply below_drew1) | exact HB.out)⟩⟩
                    · rw [if_neg c15] at H
                      exact absurd H (by simp)
                  · rw [if_neg c13] at H
                    have c13b0 : ((bt x3_2 (ji9)) == 48) = false := beq_eq_false_iff_ne.mpr c13
                    have c13b1 : ((bt x3_2 (ji9)) != 48) = true := bne_iff_ne.mpr c13
                    have H' := Aside0.mk H
                    clear H
                    have p12 : 0 ≤ ((ji9) : Int) := of_decide_eq_true (by first | (with_reducible assumption) | assumption)
                    have q12 : (ji9) < (x3_2.size : Int) := of_decide_eq_true (by first | (with_reducible assumption) | assumption)
                    have hx12 := bt_at x3_2 (ji9)
                    replace p12 := eq_true p12
                    replace q12 := eq_true q12
                    go_wp2
                    repeat (go_quiet (fail); try go_wp2)
                    go_meet
                    case rel => exact ⟨_, (x3_2), (by first | rfl | (simp; done) | (simp [*]; done)), H', ⟨by have := HJ1.out; have := HK2.out; first | omega | exact Nat.le_refl _⟩, ⟨by repeat (first | (with_reducible first | exact HB.out | apply below_alloc | apply pw_below_drewN | apply below_drew1) | exact HB.out)⟩⟩
                · rw [if_neg c11] at H
                  exact absurd H (by simp)
              · rw [if_neg c10] at H
                exact absurd H (by simp)
            · rw [if_neg c8] at H
              have c8b0 : decide (1 < (x3_2.size : Int)) = false := decide_eq_false c8
              have c8b1 : decide (1 < x3_2.size) = false := decide_eq_false (by omega)
              clear c8
              (first | rw [c8b0] | (simp only [i64_w, i32_w]; rw [c8b0]) | skip)
              have H' := Aside0.mk H
              clear H
              go_wp2
              repeat (go_quiet (fail); try go_wp2)
              go_meet
              case rel => exact ⟨_, (x3_2), (by first | rfl | (simp; done) | (simp [*]; done)), H', ⟨by have := HJ1.out; have := HK2.out; first | omega | exact Nat.le_refl _⟩, ⟨by repeat (first | (with_reducible first | exact HB.out | apply below_alloc | apply pw_below_drewN | apply below_drew1) | exact HB.out)⟩⟩
      case rest =>
        clear HC7
        try clear c1
        try clear p1
        try clear q1
        try clear hx1
        try clear p2
        try clear c3
        try clear c3b0
        try clear c6
        try clear p6
        try clear hcv6
        try clear c8
        try clear c8b0
        try clear c8b1
        try clear c10
        try clear c10b0
        try clear c11
        try clear c11b0
        try clear p12
        try clear q12
        try clear hx12
        try clear c13
        try clear c13b0
        try clear c13b1
        try clear c14
        try clear c14b0
        try clear c15
        try clear c15b0
        try clear c15b1
        try clear p12
        try clear p2
        try clear q12
        obtain ⟨kq, x3_6, rfl, HA, HJ6, HB⟩ := hcut
        cases kq with
        | zero => exact absurd HA.out (by simp [spec_l01FloatText.j2])
        | succ kj6 =>
          have H := HA.out
          clear HA
          simp only [spec_l01FloatText.j2] at H
          have HC16 := Aside0.mk H
          clear H
          go_upto_region 9 with (fail)
          repeat (go_quiet (fail); go_upto_region 9 with (fail))
          go_cut [41] (fun v41 wc => ∃ (kq : Nat) (x41_15 : Bool), v41 = .bool x41_15 ∧ Aside0 (spec_l01FloatText.j3 kq x3_6 x4_1 x41_15 = some r) ∧ Aside0 (kq ≤ kj6) ∧ Aside0 (Below w.heap.size w wc))
          case first =>
            have H := HC16.out
            clear HC16
            by_cases c17 : x4_1 < (-5)
            · rw [if_pos c17] at H
              have c17b0 : decide (x4_1 < (-5)) = true := decide_eq_true c17
              clear c17
              (first | rw [c17b0] | (simp only [i64_w, i32_w]; rw [c17b0]) | skip)
              have H' := Aside0.mk H
              clear H
              go_wp2
              repeat (go_quiet (fail); try go_wp2)
              go_meet
              case rel => exact ⟨_, (true), (by first | rfl | (simp; done) | (simp [*]; done)), H', ⟨by have := HJ1.out; have := HJ6.out; first | omega | exact Nat.le_refl _⟩, ⟨by repeat (first | (with_reducible first | exact HB.out | apply below_alloc | apply pw_below_drewN | apply below_drew1) | exact HB.out)⟩⟩
            · rw [if_neg c17] at H
              have c17b0 : decide (x4_1 < (-5)) = false := decide_eq_false c17
              clear c17
              (first | rw [c17b0] | (simp only [i64_w, i32_w]; rw [c17b0]) | skip)
              have H' := Aside0.mk H
              clear H
              go_wp2
              repeat (go_quiet (fail); try go_wp2)
              go_meet
              case rel => exact ⟨_, (decide (x4_1 > 16)), (by first | rfl | (simp; done) | (simp [*]; done)), H', ⟨by have := HJ1.out; have := HJ6.out; first | omega | exact Nat.le_refl _⟩, ⟨by repeat (first | (with_reducible first | exact HB.out | apply below_alloc | apply pw_below_drewN | apply below_drew1) | exact HB.out)⟩⟩
          case rest =>
            clear HC16
            try clear c1
            try clear p1
            try clear q1
            try clear hx1
            try clear p2
            try clear c3
            try clear c3b0
            try clear c6
            try clear p6
            try clear hcv6
            try clear c8
            try clear c8b0
            try clear c8b1
            try clear c10
            try clear c10b0
            try clear c11
            try clear c11b0
            try clear p12
            try clear q12
            try clear hx12
            try clear c13
            try clear c13b0
            try clear c13b1
            try clear c14
            try clear c14b0
            try clear c15
            try clear c15b0
            try clear c15b1
            try clear c17
            try clear c17b0
            try clear p1
            try clear p12
            try clear p2
            try clear p6
            try clear q1
            try clear q12
            obtain ⟨kq, x41_15, rfl, HA, HJ15, HB⟩ := hcut
            cases kq with
            | zero => exact absurd HA.out (by simp [spec_l01FloatText.j3])
            | succ kj15 =>
              have H := HA.out
              clear HA
              simp only [spec_l01FloatText.j3] at H
              by_cases c18 : x41_15 = true
              · subst c18
                have H1 : (if 0 ≤ 1 then (if 1 ≤ (x3_6.size : Int) then (if (x3_6.size : Int) > 1 then (if 1 + (x3_6.extract 1 x3_6.size).size ≤ 9223372036854775807 then (if (x3_6.extract 0 1).size + ((⟨#[46]⟩ : ByteArray) ++ (x3_6.extract 1 x3_6.size)).size ≤ 9223372036854775807 then (spec_l01FloatText.j4 kj15 x4_1 ((x3_6.extract 0 1) ++ ((⟨#[46]⟩ : ByteArray) ++ (x3_6.extract 1 x3_6.size)))) else (none)) else (none)) else (spec_l01FloatText.j4 kj15 x4_1 (x3_6.extract 0 1))) else (none)) else (none)) = some r := by rw [if_pos rfl] at H; exact H
                clear H
                have H := H1
                clear H1
                by_cases c19 : 0 ≤ 1
                · rw [if_pos c19] at H
                  have c19b0 := eq_true c19
                  have c19b1 : decide (0 ≤ 1) = true := decide_eq_true c19
                  clear c19
                  by_cases c20 : 1 ≤ (x3_6.size : Int)
                  · rw [if_pos c20] at H
                    have c20b0 := eq_true c20
                    have c20b1 : decide (1 ≤ (x3_6.size : Int)) = true := decide_eq_true c20
                    clear c20
                    have HC21 := Aside0.mk H
                    clear H
                    go_upto_if 46 with (fail)
                    repeat (go_quiet (fail); go_upto_if 46 with (fail))
                    go_cut [7] (fun v7 wc => ∃ (kq : Nat) (x7_20 : ByteArray), v7 = .string x7_20 ∧ Aside0 (spec_l01FloatText.j4 kq x4_1 x7_20 = some r) ∧ Aside0 (kq ≤ kj15) ∧ Aside0 (Below w.heap.size w wc))
                    case first =>
                      have H := HC21.out
                      clear HC21
                      by_cases c22 : (x3_6.size : Int) > 1
                      · rw [if_pos c22] at H
                        have c22b0 : decide (1 < (x3_6.size : Int)) = true := decide_eq_true c22
                        have c22b1 : decide (1 < x3_6.size) = true := decide_eq_true (by omega)
                        clear c22
                        (first | rw [c22b0] | (simp only [i64_w, i32_w]; rw [c22b0]) | skip)
                        have c23b0 := eq_true (of_decide_eq_true (by first | (with_reducible assumption) | assumption) : 1 ≤ (x3_6.size : Int))
                        by_cases c24 : 1 + (x3_6.extract 1 x3_6.size).size ≤ 9223372036854775807
                        · rw [if_pos c24] at H
                          have c24b0 := eq_true c24
                          have c24b1 : decide (1 + (x3_6.extract 1 x3_6.size).size ≤ 9223372036854775807) = true := decide_eq_true c24
                          try have c24b2 : (9223372036854775807 < 1 + (x3_6.extract 1 x3_6.size).size) = False := eq_false (Nat.not_lt.2 c24)
                          try (have c24b3 := eq_false (Nat.not_lt.2 c24); simp only [ByteArray.size_append, ByteArray.size_extract, Nat.min_self, Nat.sub_zero, show ∀ a_ : UInt8, (⟨#[a_]⟩ : ByteArray).size = 1 from fun _ => rfl, show ∀ a_ b_ : UInt8, (⟨#[a_, b_]⟩ : ByteArray).size = 2 from fun _ _ => rfl] at c24b3)
                          by_cases c25 : (x3_6.extract 0 1).size + ((⟨#[46]⟩ : ByteArray) ++ (x3_6.extract 1 x3_6.size)).size ≤ 9223372036854775807
                          · rw [if_pos c25] at H
                            have c25b0 := eq_true c25
                            have c25b1 : decide ((x3_6.extract 0 1).size + ((⟨#[46]⟩ : ByteArray) ++ (x3_6.extract 1 x3_6.size)).size ≤ 9223372036854775807) = true := decide_eq_true c25
                            try have c25b2 : (9223372036854775807 < (x3_6.extract 0 1).size + ((⟨#[46]⟩ : ByteArray) ++ (x3_6.extract 1 x3_6.size)).size) = False := eq_false (Nat.not_lt.2 c25)
                            try (have c25b3 := eq_false (Nat.not_lt.2 c25); simp only [ByteArray.size_append, ByteArray.size_extract, Nat.min_self, Nat.sub_zero, show ∀ a_ : UInt8, (⟨#[a_]⟩ : ByteArray).size = 1 from fun _ => rfl, show ∀ a_ b_ : UInt8, (⟨#[a_, b_]⟩ : ByteArray).size = 2 from fun _ _ => rfl] at c25b3)
                            have H' := Aside0.mk H
                            clear H
                            go_wp2
                            repeat (go_quiet (fail); try go_wp2)
                            go_meet
                            case rel => exact ⟨_, ((x3_6.extract 0 1) ++ ((⟨#[46]⟩ : ByteArray) ++ (x3_6.extract 1 x3_6.size))), (by first | rfl | (simp; done) | (simp [*]; done)), H', ⟨by have := HJ1.out; have := HJ6.out; have := HJ15.out; first | omega | exact Nat.le_refl _⟩, ⟨by repeat (first | (with_reducible first | exact HB.out | apply below_alloc | apply pw_below_drewN | apply below_drew1) | exact HB.out)⟩⟩
                          · rw [if_neg c25] at H
                            exact absurd H (by simp)
                        · rw [if_neg c24] at H
                          exact absurd H (by simp)
                      · rw [if_neg c22] at H
                        have c22b0 : decide (1 < (x3_6.size : Int)) = false := decide_eq_false c22
                        have c22b1 : decide (1 < x3_6.size) = false := decide_eq_false (by omega)
                        clear c22
                        (first | rw [c22b0] | (simp only [i64_w, i32_w]; rw [c22b0]) | skip)
                        have H' := Aside0.mk H
                        clear H
                        go_wp2
                        repeat (go_quiet (fail); try go_wp2)
                        go_meet
                        case rel => exact ⟨_, (x3_6.extract 0 1), (by first | rfl | (simp; done) | (simp [*]; done)), H', ⟨by have := HJ1.out; have := HJ6.out; have := HJ15.out; first | omega | exact Nat.le_refl _⟩, ⟨by repeat (first | (with_reducible first | exact HB.out | apply below_alloc | apply pw_below_drewN | apply below_drew1) | exact HB.out)⟩⟩
                    case rest =>
                      clear HC21
                      try clear c1
                      try clear p1
                      try clear q1
                      try clear hx1
                      try clear c2
                      try clear p2
                      try clear c3
                      try clear c3b0
                      try clear c6
                      try clear p6
                      try clear hcv6
                      try clear c8
                      try clear c8b0
                      try clear c8b1
                      try clear c10
                      try clear c10b0
                      try clear c11
                      try clear c11b0
                      try clear p12
                      try clear q12
                      try clear hx12
                      try clear c13
                      try clear c13b0
                      try clear c13b1
                      try clear c14
                      try clear c14b0
                      try clear c15
                      try clear c15b0
                      try clear c15b1
                      try clear c17
                      try clear c17b0
                      try clear c18
                      try clear c19
                      try clear c19b0
                      try clear c19b1
                      try clear c20
                      try clear c20b0
                      try clear c20b1
                      try clear c22
                      try clear c22b0
                      try clear c22b1
                      try clear c23
                      try clear c23b0
                      try clear c24
                      try clear c24b0
                      try clear c24b1
                      try clear c24b2
                      try clear c25
                      try clear c25b0
                      try clear c25b1
                      try clear c25b2
                      try clear p1
                      try clear p12
                      try clear p2
                      try clear p6
                      try clear q1
                      try clear q12
                      obtain ⟨kq, x7_20, rfl, HA, HJ20, HB⟩ := hcut
                      cases kq with
                      | zero => exact absurd HA.out (by simp [spec_l01FloatText.j4])
                      | succ kj20 =>
                        have H := HA.out
                        clear HA
                        simp only [spec_l01FloatText.j4] at H
                        by_cases c26 : x4_1 < 0
                        · rw [if_pos c26] at H
                          have c26b0 : decide (x4_1 < 0) = true := decide_eq_true c26
                          clear c26
                          replace H := Option.bind_eq_some_iff.mp H
                          obtain ⟨t311, A270, H⟩ := H
                          replace H : (if (t311.size : Int) < 2 then (if 1 + t311.size ≤ 9223372036854775807 then (if x7_20.size + 1 ≤ 9223372036854775807 then (if (x7_20 ++ (⟨#[101]⟩ : ByteArray)).size + 1 ≤ 9223372036854775807 then (if ((x7_20 ++ (⟨#[101]⟩ : ByteArray)) ++ (⟨#[45]⟩ : ByteArray)).size + ((⟨#[48]⟩ : ByteArray) ++ t311).size ≤ 9223372036854775807 then (some (((x7_20 ++ (⟨#[101]⟩ : ByteArray)) ++ (⟨#[45]⟩ : ByteArray)) ++ ((⟨#[48]⟩ : ByteArray) ++ t311))) else (none)) else (none)) else (none)) else (none)) else (if x7_20.size + 1 ≤ 9223372036854775807 then (if (x7_20 ++ (⟨#[101]⟩ : ByteArray)).size + 1 ≤ 9223372036854775807 then (if ((x7_20 ++ (⟨#[101]⟩ : ByteArray)) ++ (⟨#[45]⟩ : ByteArray)).size + t311.size ≤ 9223372036854775807 then (some (((x7_20 ++ (⟨#[101]⟩ : ByteArray)) ++ (⟨#[45]⟩ : ByteArray)) ++ t311)) else (none)) else (none)) else (none))) = some r := H
                          have A27 := Aside0.mk A270
                          clear A270
                          by_cases c28 : (t311.size : Int) < 2
                          · rw [if_pos c28] at H
                            have c28b0 : decide ((t311.size : Int) < 2) = true := decide_eq_true c28
                            have c28b1 : decide (t311.size < 2) = true := decide_eq_true (by omega)
                            clear c28
                            by_cases c29 : 1 + t311.size ≤ 9223372036854775807
                            · rw [if_pos c29] at H
                              have c29b0 := eq_true c29
                              have c29b1 : decide (1 + t311.size ≤ 9223372036854775807) = true := decide_eq_true c29
                              try have c29b2 : (9223372036854775807 < 1 + t311.size) = False := eq_false (Nat.not_lt.2 c29)
                              try (have c29b3 := eq_false (Nat.not_lt.2 c29); simp only [ByteArray.size_append, ByteArray.size_extract, Nat.min_self, Nat.sub_zero, show ∀ a_ : UInt8, (⟨#[a_]⟩ : ByteArray).size = 1 from fun _ => rfl, show ∀ a_ b_ : UInt8, (⟨#[a_, b_]⟩ : ByteArray).size = 2 from fun _ _ => rfl] at c29b3)
                              by_cases c30 : x7_20.size + 1 ≤ 9223372036854775807
                              · rw [if_pos c30] at H
                                have c30b0 := eq_true c30
                                have c30b1 : decide (x7_20.size + 1 ≤ 9223372036854775807) = true := decide_eq_true c30
                                try have c30b2 : (9223372036854775807 < x7_20.size + 1) = False := eq_false (Nat.not_lt.2 c30)
                                try (have c30b3 := eq_false (Nat.not_lt.2 c30); simp only [ByteArray.size_append, ByteArray.size_extract, Nat.min_self, Nat.sub_zero, show ∀ a_ : UInt8, (⟨#[a_]⟩ : ByteArray).size = 1 from fun _ => rfl, show ∀ a_ b_ : UInt8, (⟨#[a_, b_]⟩ : ByteArray).size = 2 from fun _ _ => rfl] at c30b3)
                                by_cases c31 : (x7_20 ++ (⟨#[101]⟩ : ByteArray)).size + 1 ≤ 9223372036854775807
                                · rw [if_pos c31] at H
                                  have c31b0 := eq_true c31
                                  have c31b1 : decide ((x7_20 ++ (⟨#[101]⟩ : ByteArray)).size + 1 ≤ 9223372036854775807) = true := decide_eq_true c31
                                  try have c31b2 : (9223372036854775807 < (x7_20 ++ (⟨#[101]⟩ : ByteArray)).size + 1) = False := eq_false (Nat.not_lt.2 c31)
                                  try (have c31b3 := eq_false (Nat.not_lt.2 c31); simp only [ByteArray.size_append, ByteArray.size_extract, Nat.min_self, Nat.sub_zero, show ∀ a_ : UInt8, (⟨#[a_]⟩ : ByteArray).size = 1 from fun _ => rfl, show ∀ a_ b_ : UInt8, (⟨#[a_, b_]⟩ : ByteArray).size = 2 from fun _ _ => rfl] at c31b3)
                                  by_cases c32 : ((x7_20 ++ (⟨#[101]⟩ : ByteArray)) ++ (⟨#[45]⟩ : ByteArray)).size + ((⟨#[48]⟩ : ByteArray) ++ t311).size ≤ 9223372036854775807
                                  · rw [if_pos c32] at H
                                    have c32b0 := eq_true c32
                                    have c32b1 : decide (((x7_20 ++ (⟨#[101]⟩ : ByteArray)) ++ (⟨#[45]⟩ : ByteArray)).size + ((⟨#[48]⟩ : ByteArray) ++ t311).size ≤ 9223372036854775807) = true := decide_eq_true c32
                                    try have c32b2 : (9223372036854775807 < ((x7_20 ++ (⟨#[101]⟩ : ByteArray)) ++ (⟨#[45]⟩ : ByteArray)).size + ((⟨#[48]⟩ : ByteArray) ++ t311).size) = False := eq_false (Nat.not_lt.2 c32)
                                    try (have c32b3 := eq_false (Nat.not_lt.2 c32); simp only [ByteArray.size_append, ByteArray.size_extract, Nat.min_self, Nat.sub_zero, show ∀ a_ : UInt8, (⟨#[a_]⟩ : ByteArray).size = 1 from fun _ => rfl, show ∀ a_ b_ : UInt8, (⟨#[a_, b_]⟩ : ByteArray).size = 2 from fun _ _ => rfl] at c32b3)
                                    obtain rfl := Option.some.inj H
                                    go_wp2_with (first | (go_at_call 28; (with_reducible refine (spec_l01Dec.calls kj20 (wrap64 (-x4_1)) t311 _ A27.out).mono ?_); rintro e w33 ⟨rfl, hb⟩; have n0_ := Aside0.mk (below_step (by repeat (first | (with_reducible first | exact HB.out | apply below_alloc | apply pw_below_drewN | apply below_drew1) | exact HB.out)) hb); clear HB; have HB := n0_; clear n0_; (try clear hb); (try clear hb2); (try clear hk); (try clear hi)))
                                    repeat (go_quiet (first | (go_at_call 28; (with_reducible refine (spec_l01Dec.calls kj20 (wrap64 (-x4_1)) t311 _ A27.out).mono ?_); rintro e w33 ⟨rfl, hb⟩; have n0_ := Aside0.mk (below_step (by repeat (first | (with_reducible first | exact HB.out | apply below_alloc | apply pw_below_drewN | apply below_drew1) | exact HB.out)) hb); clear HB; have HB := n0_; clear n0_; (try clear hb); (try clear hb2); (try clear hk); (try clear hi))); try go_wp2_with (first | (go_at_call 28; (with_reducible refine (spec_l01Dec.calls kj20 (wrap64 (-x4_1)) t311 _ A27.out).mono ?_); rintro e w33 ⟨rfl, hb⟩; have n0_ := Aside0.mk (below_step (by repeat (first | (with_reducible first | exact HB.out | apply below_alloc | apply pw_below_drewN | apply below_drew1) | exact HB.out)) hb); clear HB; have HB := n0_; clear n0_; (try clear hb); (try clear hb2); (try clear hk); (try clear hi))))
                                    go_ret
                                    exact ⟨by first | rfl | (simp [errW_none, errW_some] <;> rfl) | (simp [*, errW_none, errW_some] <;> rfl), by repeat (first | (with_reducible first | exact HB.out | apply below_alloc | apply pw_below_drewN | apply below_drew1) | exact HB.out)⟩
                                  · rw [if_neg c32] at H
                                    exact absurd H (by simp)
                                · rw [if_neg c31] at H
                                  exact absurd H (by simp)
                              · rw [if_neg c30] at H
                                exact absurd H (by simp)
                            · rw [if_neg c29] at H
                              exact absurd H (by simp)
                          · rw [if_neg c28] at H
                            have c28b0 : decide ((t311.size : Int) < 2) = false := decide_eq_false c28
                            have c28b1 : decide (t311.size < 2) = false := decide_eq_false (by omega)
                            clear c28
                            by_cases c34 : x7_20.size + 1 ≤ 9223372036854775807
                            · rw [if_pos c34] at H
                              have c34b0 := eq_true c34
                              have c34b1 : decide (x7_20.size + 1 ≤ 9223372036854775807) = true := decide_eq_true c34
                              try have c34b2 : (9223372036854775807 < x7_20.size + 1) = False := eq_false (Nat.not_lt.2 c34)
                              try (have c34b3 := eq_false (Nat.not_lt.2 c34); simp only [ByteArray.size_append, ByteArray.size_extract, Nat.min_self, Nat.sub_zero, show ∀ a_ : UInt8, (⟨#[a_]⟩ : ByteArray).size = 1 from fun _ => rfl, show ∀ a_ b_ : UInt8, (⟨#[a_, b_]⟩ : ByteArray).size = 2 from fun _ _ => rfl] at c34b3)
                              by_cases c35 : (x7_20 ++ (⟨#[101]⟩ : ByteArray)).size + 1 ≤ 9223372036854775807
                              · rw [if_pos c35] at H
                                have c35b0 := eq_true c35
                                have c35b1 : decide ((x7_20 ++ (⟨#[101]⟩ : ByteArray)).size + 1 ≤ 9223372036854775807) = true := decide_eq_true c35
                                try have c35b2 : (9223372036854775807 < (x7_20 ++ (⟨#[101]⟩ : ByteArray)).size + 1) = False := eq_false (Nat.not_lt.2 c35)
                                try (have c35b3 := eq_false (Nat.not_lt.2 c35); simp only [ByteArray.size_append, ByteArray.size_extract, Nat.min_self, Nat.sub_zero, show ∀ a_ : UInt8, (⟨#[a_]⟩ : ByteArray).size = 1 from fun _ => rfl, show ∀ a_ b_ : UInt8, (⟨#[a_, b_]⟩ : ByteArray).size = 2 from fun _ _ => rfl] at c35b3)
                                by_cases c36 : ((x7_20 ++ (⟨#[101]⟩ : ByteArray)) ++ (⟨#[45]⟩ : ByteArray)).size + t311.size ≤ 9223372036854775807
                                · rw [if_pos c36] at H
                                  have c36b0 := eq_true c36
                                  have c36b1 : decide (((x7_20 ++ (⟨#[101]⟩ : ByteArray)) ++ (⟨#[45]⟩ : ByteArray)).size + t311.size ≤ 9223372036854775807) = true := decide_eq_true c36
                                  try have c36b2 : (9223372036854775807 < ((x7_20 ++ (⟨#[101]⟩ : ByteArray)) ++ (⟨#[45]⟩ : ByteArray)).size + t311.size) = False := eq_false (Nat.not_lt.2 c36)
                                  try (have c36b3 := eq_false (Nat.not_lt.2 c36); simp only [ByteArray.size_append, ByteArray.size_extract, Nat.min_self, Nat.sub_zero, show ∀ a_ : UInt8, (⟨#[a_]⟩ : ByteArray).size = 1 from fun _ => rfl, show ∀ a_ b_ : UInt8, (⟨#[a_, b_]⟩ : ByteArray).size = 2 from fun _ _ => rfl] at c36b3)
                                  obtain rfl := Option.some.inj H
                                  go_wp2_with (first | (go_at_call 28; (with_reducible refine (spec_l01Dec.calls kj20 (wrap64 (-x4_1)) t311 _ A27.out).mono ?_); rintro e w37 ⟨rfl, hb⟩; have n0_ := Aside0.mk (below_step (by repeat (first | (with_reducible first | exact HB.out | apply below_alloc | apply pw_below_drewN | apply below_drew1) | exact HB.out)) hb); clear HB; have HB := n0_; clear n0_; (try clear hb); (try clear hb2); (try clear hk); (try clear hi)))
                                  repeat (go_quiet (first | (go_at_call 28; (with_reducible refine (spec_l01Dec.calls kj20 (wrap64 (-x4_1)) t311 _ A27.out).mono ?_); rintro e w37 ⟨rfl, hb⟩; have n0_ := Aside0.mk (below_step (by repeat (first | (with_reducible first | exact HB.out | apply below_alloc | apply pw_below_drewN | apply below_drew1) | exact HB.out)) hb); clear HB; have HB := n0_; clear n0_; (try clear hb); (try clear hb2); (try clear hk); (try clear hi))); try go_wp2_with (first | (go_at_call 28; (with_reducible refine (spec_l01Dec.calls kj20 (wrap64 (-x4_1)) t311 _ A27.out).mono ?_); rintro e w37 ⟨rfl, hb⟩; have n0_ := Aside0.mk (below_step (by repeat (first | (with_reducible first | exact HB.out | apply below_alloc | apply pw_below_drewN | apply below_drew1) | exact HB.out)) hb); clear HB; have HB := n0_; clear n0_; (try clear hb); (try clear hb2); (try clear hk); (try clear hi))))
                                  go_ret
                                  exact ⟨by first | rfl | (simp [errW_none, errW_some] <;> rfl) | (simp [*, errW_none, errW_some] <;> rfl), by repeat (first | (with_reducible first | exact HB.out | apply below_alloc | apply pw_below_drewN | apply below_drew1) | exact HB.out)⟩
                                · rw [if_neg c36] at H
                                  exact absurd H (by simp)
                              · rw [if_neg c35] at H
                                exact absurd H (by simp)
                            · rw [if_neg c34] at H
                              exact absurd H (by simp)
                        · rw [if_neg c26] at H
                          have c26b0 : decide (x4_1 < 0) = false := decide_eq_false c26
                          clear c26
                          replace H := Option.bind_eq_some_iff.mp H
                          obtain ⟨t312, A380, H⟩ := H
                          replace H : (if (t312.size : Int) < 2 then (if 1 + t312.size ≤ 9223372036854775807 then (if x7_20.size + 1 ≤ 9223372036854775807 then (if (x7_20 ++ (⟨#[101]⟩ : ByteArray)).size + 1 ≤ 9223372036854775807 then (if ((x7_20 ++ (⟨#[101]⟩ : ByteArray)) ++ (⟨#[43]⟩ : ByteArray)).size + ((⟨#[48]⟩ : ByteArray) ++ t312).size ≤ 9223372036854775807 then (some (((x7_20 ++ (⟨#[101]⟩ : ByteArray)) ++ (⟨#[43]⟩ : ByteArray)) ++ ((⟨#[48]⟩ : ByteArray) ++ t312))) else (none)) else (none)) else (none)) else (none)) else (if x7_20.size + 1 ≤ 9223372036854775807 then (if (x7_20 ++ (⟨#[101]⟩ : ByteArray)).size + 1 ≤ 9223372036854775807 then (if ((x7_20 ++ (⟨#[101]⟩ : ByteArray)) ++ (⟨#[43]⟩ : ByteArray)).size + t312.size ≤ 9223372036854775807 then (some (((x7_20 ++ (⟨#[101]⟩ : ByteArray)) ++ (⟨#[43]⟩ : ByteArray)) ++ t312)) else (none)) else (none)) else (none))) = some r := H
                          have A38 := Aside0.mk A380
                          clear A380
                          by_cases c39 : (t312.size : Int) < 2
                          · rw [if_pos c39] at H
                            have c39b0 : decide ((t312.size : Int) < 2) = true := decide_eq_true c39
                            have c39b1 : decide (t312.size < 2) = true := decide_eq_true (by omega)
                            clear c39
                            by_cases c40 : 1 + t312.size ≤ 9223372036854775807
                            · rw [if_pos c40] at H
                              have c40b0 := eq_true c40
                              have c40b1 : decide (1 + t312.size ≤ 9223372036854775807) = true := decide_eq_true c40
                              try have c40b2 : (9223372036854775807 < 1 + t312.size) = False := eq_false (Nat.not_lt.2 c40)
                              try (have c40b3 := eq_false (Nat.not_lt.2 c40); simp only [ByteArray.size_append, ByteArray.size_extract, Nat.min_self, Nat.sub_zero, show ∀ a_ : UInt8, (⟨#[a_]⟩ : ByteArray).size = 1 from fun _ => rfl, show ∀ a_ b_ : UInt8, (⟨#[a_, b_]⟩ : ByteArray).size = 2 from fun _ _ => rfl] at c40b3)
                              by_cases c41 : x7_20.size + 1 ≤ 9223372036854775807
                              · rw [if_pos c41] at H
                                have c41b0 := eq_true c41
                                have c41b1 : decide (x7_20.size + 1 ≤ 9223372036854775807) = true := decide_eq_true c41
                                try have c41b2 : (9223372036854775807 < x7_20.size + 1) = False := eq_false (Nat.not_lt.2 c41)
                                try (have c41b3 := eq_false (Nat.not_lt.2 c41); simp only [ByteArray.size_append, ByteArray.size_extract, Nat.min_self, Nat.sub_zero, show ∀ a_ : UInt8, (⟨#[a_]⟩ : ByteArray).size = 1 from fun _ => rfl, show ∀ a_ b_ : UInt8, (⟨#[a_, b_]⟩ : ByteArray).size = 2 from fun _ _ => rfl] at c41b3)
                                by_cases c42 : (x7_20 ++ (⟨#[101]⟩ : ByteArray)).size + 1 ≤ 9223372036854775807
                                · rw [if_pos c42] at H
                                  have c42b0 := eq_true c42
                                  have c42b1 : decide ((x7_20 ++ (⟨#[101]⟩ : ByteArray)).size + 1 ≤ 9223372036854775807) = true := decide_eq_true c42
                                  try have c42b2 : (9223372036854775807 < (x7_20 ++ (⟨#[101]⟩ : ByteArray)).size + 1) = False := eq_false (Nat.not_lt.2 c42)
                                  try (have c42b3 := eq_false (Nat.not_lt.2 c42); simp only [ByteArray.size_append, ByteArray.size_extract, Nat.min_self, Nat.sub_zero, show ∀ a_ : UInt8, (⟨#[a_]⟩ : ByteArray).size = 1 from fun _ => rfl, show ∀ a_ b_ : UInt8, (⟨#[a_, b_]⟩ : ByteArray).size = 2 from fun _ _ => rfl] at c42b3)
                                  by_cases c43 : ((x7_20 ++ (⟨#[101]⟩ : ByteArray)) ++ (⟨#[43]⟩ : ByteArray)).size + ((⟨#[48]⟩ : ByteArray) ++ t312).size ≤ 9223372036854775807
                                  · rw [if_pos c43] at H
                                    have c43b0 := eq_true c43
                                    have c43b1 : decide (((x7_20 ++ (⟨#[101]⟩ : ByteArray)) ++ (⟨#[43]⟩ : ByteArray)).size + ((⟨#[48]⟩ : ByteArray) ++ t312).size ≤ 9223372036854775807) = true := decide_eq_true c43
                                    try have c43b2 : (9223372036854775807 < ((x7_20 ++ (⟨#[101]⟩ : ByteArray)) ++ (⟨#[43]⟩ : ByteArray)).size + ((⟨#[48]⟩ : ByteArray) ++ t312).size) = False := eq_false (Nat.not_lt.2 c43)
                                    try (have c43b3 := eq_false (Nat.not_lt.2 c43); simp only [ByteArray.size_append, ByteArray.size_extract, Nat.min_self, Nat.sub_zero, show ∀ a_ : UInt8, (⟨#[a_]⟩ : ByteArray).size = 1 from fun _ => rfl, show ∀ a_ b_ : UInt8, (⟨#[a_, b_]⟩ : ByteArray).size = 2 from fun _ _ => rfl] at c43b3)
                                    obtain rfl := Option.some.inj H
                                    go_wp2_with (first | (go_at_call 28; (with_reducible refine (spec_l01Dec.calls kj20 x4_1 t312 _ A38.out).mono ?_); rintro e w44 ⟨rfl, hb⟩; have n0_ := Aside0.mk (below_step (by repeat (first | (with_reducible first | exact HB.out | apply below_alloc | apply pw_below_drewN | apply below_drew1) | exact HB.out)) hb); clear HB; have HB := n0_; clear n0_; (try clear hb); (try clear hb2); (try clear hk); (try clear hi)))
                                    repeat (go_quiet (first | (go_at_call 28; (with_reducible refine (spec_l01Dec.calls kj20 x4_1 t312 _ A38.out).mono ?_); rintro e w44 ⟨rfl, hb⟩; have n0_ := Aside0.mk (below_step (by repeat (first | (with_reducible first | exact HB.out | apply below_alloc | apply pw_below_drewN | apply below_drew1) | exact HB.out)) hb); clear HB; have HB := n0_; clear n0_; (try clear hb); (try clear hb2); (try clear hk); (try clear hi))); try go_wp2_with (first | (go_at_call 28; (with_reducible refine (spec_l01Dec.calls kj20 x4_1 t312 _ A38.out).mono ?_); rintro e w44 ⟨rfl, hb⟩; have n0_ := Aside0.mk (below_step (by repeat (first | (with_reducible first | exact HB.out | apply below_alloc | apply pw_below_drewN | apply below_drew1) | exact HB.out)) hb); clear HB; have HB := n0_; clear n0_; (try clear hb); (try clear hb2); (try clear hk); (try clear hi))))
                                    go_ret
                                    exact ⟨by first | rfl | (simp [errW_none, errW_some] <;> rfl) | (simp [*, errW_none, errW_some] <;> rfl), by repeat (first | (with_reducible first | exact HB.out | apply below_alloc | apply pw_below_drewN | apply below_drew1) | exact HB.out)⟩
                                  · rw [if_neg c43] at H
                                    exact absurd H (by simp)
                                · rw [if_neg c42] at H
                                  exact absurd H (by simp)
                              · rw [if_neg c41] at H
                                exact absurd H (by simp)
                            · rw [if_neg c40] at H
                              exact absurd H (by simp)
                          · rw [if_neg c39] at H
                            have c39b0 : decide ((t312.size : Int) < 2) = false := decide_eq_false c39
                            have c39b1 : decide (t312.size < 2) = false := decide_eq_false (by omega)
                            clear c39
                            by_cases c45 : x7_20.size + 1 ≤ 9223372036854775807
                            · rw [if_pos c45] at H
                              have c45b0 := eq_true c45
                              have c45b1 : decide (x7_20.size + 1 ≤ 9223372036854775807) = true := decide_eq_true c45
                              try have c45b2 : (9223372036854775807 < x7_20.size + 1) = False := eq_false (Nat.not_lt.2 c45)
                              try (have c45b3 := eq_false (Nat.not_lt.2 c45); simp only [ByteArray.size_append, ByteArray.size_extract, Nat.min_self, Nat.sub_zero, show ∀ a_ : UInt8, (⟨#[a_]⟩ : ByteArray).size = 1 from fun _ => rfl, show ∀ a_ b_ : UInt8, (⟨#[a_, b_]⟩ : ByteArray).size = 2 from fun _ _ => rfl] at c45b3)
                              by_cases c46 : (x7_20 ++ (⟨#[101]⟩ : ByteArray)).size + 1 ≤ 9223372036854775807
                              · rw [if_pos c46] at H
                                have c46b0 := eq_true c46
                                have c46b1 : decide ((x7_20 ++ (⟨#[101]⟩ : ByteArray)).size + 1 ≤ 9223372036854775807) = true := decide_eq_true c46
                                try have c46b2 : (9223372036854775807 < (x7_20 ++ (⟨#[101]⟩ : ByteArray)).size + 1) = False := eq_false (Nat.not_lt.2 c46)
                                try (have c46b3 := eq_false (Nat.not_lt.2 c46); simp only [ByteArray.size_append, ByteArray.size_extract, Nat.min_self, Nat.sub_zero, show ∀ a_ : UInt8, (⟨#[a_]⟩ : ByteArray).size = 1 from fun _ => rfl, show ∀ a_ b_ : UInt8, (⟨#[a_, b_]⟩ : ByteArray).size = 2 from fun _ _ => rfl] at c46b3)
                                by_cases c47 : ((x7_20 ++ (⟨#[101]⟩ : ByteArray)) ++ (⟨#[43]⟩ : ByteArray)).size + t312.size ≤ 9223372036854775807
                                · rw [if_pos c47] at H
                                  have c47b0 := eq_true c47
                                  have c47b1 : decide (((x7_20 ++ (⟨#[101]⟩ : ByteArray)) ++ (⟨#[43]⟩ : ByteArray)).size + t312.size ≤ 9223372036854775807) = true := decide_eq_true c47
                                  try have c47b2 : (9223372036854775807 < ((x7_20 ++ (⟨#[101]⟩ : ByteArray)) ++ (⟨#[43]⟩ : ByteArray)).size + t312.size) = False := eq_false (Nat.not_lt.2 c47)
                                  try (have c47b3 := eq_false (Nat.not_lt.2 c47); simp only [ByteArray.size_append, ByteArray.size_extract, Nat.min_self, Nat.sub_zero, show ∀ a_ : UInt8, (⟨#[a_]⟩ : ByteArray).size = 1 from fun _ => rfl, show ∀ a_ b_ : UInt8, (⟨#[a_, b_]⟩ : ByteArray).size = 2 from fun _ _ => rfl] at c47b3)
                                  obtain rfl := Option.some.inj H
                                  go_wp2_with (first | (go_at_call 28; (with_reducible refine (spec_l01Dec.calls kj20 x4_1 t312 _ A38.out).mono ?_); rintro e w48 ⟨rfl, hb⟩; have n0_ := Aside0.mk (below_step (by repeat (first | (with_reducible first | exact HB.out | apply below_alloc | apply pw_below_drewN | apply below_drew1) | exact HB.out)) hb); clear HB; have HB := n0_; clear n0_; (try clear hb); (try clear hb2); (try clear hk); (try clear hi)))
                                  repeat (go_quiet (first | (go_at_call 28; (with_reducible refine (spec_l01Dec.calls kj20 x4_1 t312 _ A38.out).mono ?_); rintro e w48 ⟨rfl, hb⟩; have n0_ := Aside0.mk (below_step (by repeat (first | (with_reducible first | exact HB.out | apply below_alloc | apply pw_below_drewN | apply below_drew1) | exact HB.out)) hb); clear HB; have HB := n0_; clear n0_; (try clear hb); (try clear hb2); (try clear hk); (try clear hi))); try go_wp2_with (first | (go_at_call 28; (with_reducible refine (spec_l01Dec.calls kj20 x4_1 t312 _ A38.out).mono ?_); rintro e w48 ⟨rfl, hb⟩; have n0_ := Aside0.mk (below_step (by repeat (first | (with_reducible first | exact HB.out | apply below_alloc | apply pw_below_drewN | apply below_drew1) | exact HB.out)) hb); clear HB; have HB := n0_; clear n0_; (try clear hb); (try clear hb2); (try clear hk); (try clear hi))))
                                  go_ret
                                  exact ⟨by first | rfl | (simp [errW_none, errW_some] <;> rfl) | (simp [*, errW_none, errW_some] <;> rfl), by repeat (first | (with_reducible first | exact HB.out | apply below_alloc | apply pw_below_drewN | apply below_drew1) | exact HB.out)⟩
                                · rw [if_neg c47] at H
                                  exact absurd H (by simp)
                              · rw [if_neg c46] at H
                                exact absurd H (by simp)
                            · rw [if_neg c45] at H
                              exact absurd H (by simp)
                  · rw [if_neg c20] at H
                    exact absurd H (by simp)
                · rw [if_neg c19] at H
                  exact absurd H (by simp)
              · replace c18 := Bool.eq_false_iff.mpr c18
                subst c18
                have H1 : (if x4_1 < 0 then ((spec_l01Zeros.f kj15 (wrap64 ((wrap64 (-x4_1)) - 1))).bind fun t313 => (if 2 + t313.size ≤ 9223372036854775807 then (if ((⟨#[48, 46]⟩ : ByteArray) ++ t313).size + x3_6.size ≤ 9223372036854775807 then (some (((⟨#[48, 46]⟩ : ByteArray) ++ t313) ++ x3_6)) else (none)) else (none))) else (if (x3_6.size : Int) ≤ (wrap64 (x4_1 + 1)) then ((spec_l01Zeros.f kj15 (wrap64 ((wrap64 (x4_1 + 1)) - (x3_6.size : Int)))).bind fun t314 => (if x3_6.size + t314.size ≤ 9223372036854775807 then (if (x3_6 ++ t314).size + 2 ≤ 9223372036854775807 then (some ((x3_6 ++ t314) ++ (⟨#[46, 48]⟩ : ByteArray))) else (none)) else (none))) else (if 0 ≤ (wrap64 (x4_1 + 1)) then (if (wrap64 (x4_1 + 1)) ≤ (x3_6.size : Int) then (if (x3_6.extract 0 ((wrap64 (x4_1 + 1)) : Int).toNat).size + 1 ≤ 9223372036854775807 then (if ((x3_6.extract 0 ((wrap64 (x4_1 + 1)) : Int).toNat) ++ (⟨#[46]⟩ : ByteArray)).size + (x3_6.extract ((wrap64 (x4_1 + 1)) : Int).toNat x3_6.size).size ≤ 9223372036854775807 then (some (((x3_6.extract 0 ((wrap64 (x4_1 + 1)) : Int).toNat) ++ (⟨#[46]⟩ : ByteArray)) ++ (x3_6.extract ((wrap64 (x4_1 + 1)) : Int).toNat x3_6.size))) else (none)) else (none)) else (none)) else (none)))) = some r := by rw [if_neg (show ¬ (false = true) by decide)] at H; exact H
                clear H
                have H := H1
                clear H1
                by_cases c49 : x4_1 < 0
                · rw [if_pos c49] at H
                  have c49b0 : decide (x4_1 < 0) = true := decide_eq_true c49
                  clear c49
                  replace H := Option.bind_eq_some_iff.mp H
                  obtain ⟨t313, A500, H⟩ := H
                  replace H : (if 2 + t313.size ≤ 9223372036854775807 then (if ((⟨#[48, 46]⟩ : ByteArray) ++ t313).size + x3_6.size ≤ 9223372036854775807 then (some (((⟨#[48, 46]⟩ : ByteArray) ++ t313) ++ x3_6)) else (none)) else (none)) = some r := H
                  have A50 := Aside0.mk A500
                  clear A500
                  by_cases c51 : 2 + t313.size ≤ 9223372036854775807
                  · rw [if_pos c51] at H
                    have c51b0 := eq_true c51
                    have c51b1 : decide (2 + t313.size ≤ 9223372036854775807) = true := decide_eq_true c51
                    try have c51b2 : (9223372036854775807 < 2 + t313.size) = False := eq_false (Nat.not_lt.2 c51)
                    try (have c51b3 := eq_false (Nat.not_lt.2 c51); simp only [ByteArray.size_append, ByteArray.size_extract, Nat.min_self, Nat.sub_zero, show ∀ a_ : UInt8, (⟨#[a_]⟩ : ByteArray).size = 1 from fun _ => rfl, show ∀ a_ b_ : UInt8, (⟨#[a_, b_]⟩ : ByteArray).size = 2 from fun _ _ => rfl] at c51b3)
                    by_cases c52 : ((⟨#[48, 46]⟩ : ByteArray) ++ t313).size + x3_6.size ≤ 9223372036854775807
                    · rw [if_pos c52] at H
                      have c52b0 := eq_true c52
                      have c52b1 : decide (((⟨#[48, 46]⟩ : ByteArray) ++ t313).size + x3_6.size ≤ 9223372036854775807) = true := decide_eq_true c52
                      try have c52b2 : (9223372036854775807 < ((⟨#[48, 46]⟩ : ByteArray) ++ t313).size + x3_6.size) = False := eq_false (Nat.not_lt.2 c52)
                      try (have c52b3 := eq_false (Nat.not_lt.2 c52); simp only [ByteArray.size_append, ByteArray.size_extract, Nat.min_self, Nat.sub_zero, show ∀ a_ : UInt8, (⟨#[a_]⟩ : ByteArray).size = 1 from fun _ => rfl, show ∀ a_ b_ : UInt8, (⟨#[a_, b_]⟩ : ByteArray).size = 2 from fun _ _ => rfl] at c52b3)
                      obtain rfl := Option.some.inj H
                      go_wp2_with (first | (go_at_call 89; (with_reducible refine (spec_l01Zeros.calls kj15 (wrap64 ((wrap64 (-x4_1)) - 1)) t313 _ A50.out).mono ?_); rintro e w' ⟨rfl, ⟨nd, rfl⟩⟩; (try first | exact ⟨rfl, _, World.drewN_drewN _ _ _⟩ | exact ⟨rfl, _, Eq.trans (World.drewN_drewN _ _ _) (congrArg (World.drewN _) (Nat.add_assoc _ _ _))⟩)))
                      repeat (go_quiet (first | (go_at_call 89; (with_reducible refine (spec_l01Zeros.calls kj15 (wrap64 ((wrap64 (-x4_1)) - 1)) t313 _ A50.out).mono ?_); rintro e w' ⟨rfl, ⟨nd, rfl⟩⟩; (try first | exact ⟨rfl, _, World.drewN_drewN _ _ _⟩ | exact ⟨rfl, _, Eq.trans (World.drewN_drewN _ _ _) (congrArg (World.drewN _) (Nat.add_assoc _ _ _))⟩))); try go_wp2_with (first | (go_at_call 89; (with_reducible refine (spec_l01Zeros.calls kj15 (wrap64 ((wrap64 (-x4_1)) - 1)) t313 _ A50.out).mono ?_); rintro e w' ⟨rfl, ⟨nd, rfl⟩⟩; (try first | exact ⟨rfl, _, World.drewN_drewN _ _ _⟩ | exact ⟨rfl, _, Eq.trans (World.drewN_drewN _ _ _) (congrArg (World.drewN _) (Nat.add_assoc _ _ _))⟩))))
                      go_ret
                      exact ⟨by first | rfl | (simp [errW_none, errW_some] <;> rfl) | (simp [*, errW_none, errW_some] <;> rfl), by repeat (first | (with_reducible first | exact HB.out | apply below_alloc | apply pw_below_drewN | apply below_drew1) | exact HB.out)⟩
                    · rw [if_neg c52] at H
                      exact absurd H (by simp)
                  · rw [if_neg c51] at H
                    exact absurd H (by simp)
                · rw [if_neg c49] at H
                  have c49b0 : decide (x4_1 < 0) = false := decide_eq_false c49
                  clear c49
                  by_cases c53 : (x3_6.size : Int) ≤ (wrap64 (x4_1 + 1))
                  · rw [if_pos c53] at H
                    have c53b0 : decide ((x3_6.size : Int) ≤ (wrap64 (x4_1 + 1))) = true := decide_eq_true c53
                    clear c53
                    replace H := Option.bind_eq_some_iff.mp H
                    obtain ⟨t314, A540, H⟩ := H
                    replace H : (if x3_6.size + t314.size ≤ 9223372036854775807 then (if (x3_6 ++ t314).size + 2 ≤ 9223372036854775807 then (some ((x3_6 ++ t314) ++ (⟨#[46, 48]⟩ : ByteArray))) else (none)) else (none)) = some r := H
                    have A54 := Aside0.mk A540
                    clear A540
                    by_cases c55 : x3_6.size + t314.size ≤ 9223372036854775807
                    · rw [if_pos c55] at H
                      have c55b0 := eq_true c55
                      have c55b1 : decide (x3_6.size + t314.size ≤ 9223372036854775807) = true := decide_eq_true c55
                      try have c55b2 : (9223372036854775807 < x3_6.size + t314.size) = False := eq_false (Nat.not_lt.2 c55)
                      try (have c55b3 := eq_false (Nat.not_lt.2 c55); simp only [ByteArray.size_append, ByteArray.size_extract, Nat.min_self, Nat.sub_zero, show ∀ a_ : UInt8, (⟨#[a_]⟩ : ByteArray).size = 1 from fun _ => rfl, show ∀ a_ b_ : UInt8, (⟨#[a_, b_]⟩ : ByteArray).size = 2 from fun _ _ => rfl] at c55b3)
                      by_cases c56 : (x3_6 ++ t314).size + 2 ≤ 9223372036854775807
                      · rw [if_pos c56] at H
                        have c56b0 := eq_true c56
                        have c56b1 : decide ((x3_6 ++ t314).size + 2 ≤ 9223372036854775807) = true := decide_eq_true c56
                        try have c56b2 : (9223372036854775807 < (x3_6 ++ t314).size + 2) = False := eq_false (Nat.not_lt.2 c56)
                        try (have c56b3 := eq_false (Nat.not_lt.2 c56); simp only [ByteArray.size_append, ByteArray.size_extract, Nat.min_self, Nat.sub_zero, show ∀ a_ : UInt8, (⟨#[a_]⟩ : ByteArray).size = 1 from fun _ => rfl, show ∀ a_ b_ : UInt8, (⟨#[a_, b_]⟩ : ByteArray).size = 2 from fun _ _ => rfl] at c56b3)
                        obtain rfl := Option.some.inj H
                        go_wp2_with (first | (go_at_call 89; (with_reducible refine (spec_l01Zeros.calls kj15 (wrap64 ((wrap64 (x4_1 + 1)) - (x3_6.size : Int))) t314 _ A54.out).mono ?_); rintro e w' ⟨rfl, ⟨nd, rfl⟩⟩; (try first | exact ⟨rfl, _, World.drewN_drewN _ _ _⟩ | exact ⟨rfl, _, Eq.trans (World.drewN_drewN _ _ _) (congrArg (World.drewN _) (Nat.add_assoc _ _ _))⟩)))
                        repeat (go_quiet (first | (go_at_call 89; (with_reducible refine (spec_l01Zeros.calls kj15 (wrap64 ((wrap64 (x4_1 + 1)) - (x3_6.size : Int))) t314 _ A54.out).mono ?_); rintro e w' ⟨rfl, ⟨nd, rfl⟩⟩; (try first | exact ⟨rfl, _, World.drewN_drewN _ _ _⟩ | exact ⟨rfl, _, Eq.trans (World.drewN_drewN _ _ _) (congrArg (World.drewN _) (Nat.add_assoc _ _ _))⟩))); try go_wp2_with (first | (go_at_call 89; (with_reducible refine (spec_l01Zeros.calls kj15 (wrap64 ((wrap64 (x4_1 + 1)) - (x3_6.size : Int))) t314 _ A54.out).mono ?_); rintro e w' ⟨rfl, ⟨nd, rfl⟩⟩; (try first | exact ⟨rfl, _, World.drewN_drewN _ _ _⟩ | exact ⟨rfl, _, Eq.trans (World.drewN_drewN _ _ _) (congrArg (World.drewN _) (Nat.add_assoc _ _ _))⟩))))
                        go_ret
                        exact ⟨by first | rfl | (simp [errW_none, errW_some] <;> rfl) | (simp [*, errW_none, errW_some] <;> rfl), by repeat (first | (with_reducible first | exact HB.out | apply below_alloc | apply pw_below_drewN | apply below_drew1) | exact HB.out)⟩
                      · rw [if_neg c56] at H
                        exact absurd H (by simp)
                    · rw [if_neg c55] at H
                      exact absurd H (by simp)
                  · rw [if_neg c53] at H
                    have c53b0 : decide ((x3_6.size : Int) ≤ (wrap64 (x4_1 + 1))) = false := decide_eq_false c53
                    clear c53
                    obtain ⟨ji57, hji57⟩ : ∃ j_ : Int, (wrap64 (x4_1 + 1)) = j_ := ⟨_, rfl⟩
                    replace H : (if 0 ≤ (ji57) then (if (ji57) ≤ (x3_6.size : Int) then (if (x3_6.extract 0 ((ji57) : Int).toNat).size + 1 ≤ 9223372036854775807 then (if ((x3_6.extract 0 ((ji57) : Int).toNat) ++ (⟨#[46]⟩ : ByteArray)).size + (x3_6.extract ((ji57) : Int).toNat x3_6.size).size ≤ 9223372036854775807 then (some (((x3_6.extract 0 ((ji57) : Int).toNat) ++ (⟨#[46]⟩ : ByteArray)) ++ (x3_6.extract ((ji57) : Int).toNat x3_6.size))) else (none)) else (none)) else (none)) else (none)) = some r := by first | (rw [hji57] at H; exact H) | (simp only [hji57] at H ⊢; exact H)
                    (try rw [hji57] at c53b0)
                    have hji57w : (IntKind.i64.wrap (x4_1 + 1)) = ji57 := (i64_w _).trans hji57
                    by_cases c58 : 0 ≤ (ji57)
                    · rw [if_pos c58] at H
                      have c58b0 := eq_true c58
                      have c58b1 : decide (0 ≤ (ji57)) = true := decide_eq_true c58
                      clear c58
                      by_cases c59 : (ji57) ≤ (x3_6.size : Int)
                      · rw [if_pos c59] at H
                        have c59b0 := eq_true c59
                        have c59b1 : decide ((ji57) ≤ (x3_6.size : Int)) = true := decide_eq_true c59
                        clear c59
                        by_cases c60 : (x3_6.extract 0 ((ji57) : Int).toNat).size + 1 ≤ 9223372036854775807
                        · rw [if_pos c60] at H
                          have c60b0 := eq_true c60
                          have c60b1 : decide ((x3_6.extract 0 ((ji57) : Int).toNat).size + 1 ≤ 9223372036854775807) = true := decide_eq_true c60
                          try have c60b2 : (9223372036854775807 < (x3_6.extract 0 ((ji57) : Int).toNat).size + 1) = False := eq_false (Nat.not_lt.2 c60)
                          try (have c60b3 := eq_false (Nat.not_lt.2 c60); simp only [ByteArray.size_append, ByteArray.size_extract, Nat.min_self, Nat.sub_zero, show ∀ a_ : UInt8, (⟨#[a_]⟩ : ByteArray).size = 1 from fun _ => rfl, show ∀ a_ b_ : UInt8, (⟨#[a_, b_]⟩ : ByteArray).size = 2 from fun _ _ => rfl] at c60b3)
                          have c61b0 := eq_true (of_decide_eq_true (by first | (with_reducible assumption) | assumption) : 0 ≤ (ji57))
                          have c62b0 := eq_true (of_decide_eq_true (by first | (with_reducible assumption) | assumption) : (ji57) ≤ (x3_6.size : Int))
                          by_cases c63 : ((x3_6.extract 0 ((ji57) : Int).toNat) ++ (⟨#[46]⟩ : ByteArray)).size + (x3_6.extract ((ji57) : Int).toNat x3_6.size).size ≤ 9223372036854775807
                          · rw [if_pos c63] at H
                            have c63b0 := eq_true c63
                            have c63b1 : decide (((x3_6.extract 0 ((ji57) : Int).toNat) ++ (⟨#[46]⟩ : ByteArray)).size + (x3_6.extract ((ji57) : Int).toNat x3_6.size).size ≤ 9223372036854775807) = true := decide_eq_true c63
                            try have c63b2 : (9223372036854775807 < ((x3_6.extract 0 ((ji57) : Int).toNat) ++ (⟨#[46]⟩ : ByteArray)).size + (x3_6.extract ((ji57) : Int).toNat x3_6.size).size) = False := eq_false (Nat.not_lt.2 c63)
                            try (have c63b3 := eq_false (Nat.not_lt.2 c63); simp only [ByteArray.size_append, ByteArray.size_extract, Nat.min_self, Nat.sub_zero, show ∀ a_ : UInt8, (⟨#[a_]⟩ : ByteArray).size = 1 from fun _ => rfl, show ∀ a_ b_ : UInt8, (⟨#[a_, b_]⟩ : ByteArray).size = 2 from fun _ _ => rfl] at c63b3)
                            obtain rfl := Option.some.inj H
                            have g1 : 0 ≤ ji57 := of_eq_true c58b0
                            have g2 : ji57 ≤ ↑x3_6.size := of_eq_true c59b0
                            have g3 : min ji57.toNat x3_6.size = ji57.toNat := by omega
                            have g4 : (9223372036854775807 < ji57.toNat + 1) = False := eq_false (by have := c60; rw [ByteArray.size_extract] at this; omega)
                            have g5 : (9223372036854775807 < ji57.toNat + 1 + (x3_6.size - ji57.toNat)) = False := eq_false (by have := c63; rw [ByteArray.size_append, ByteArray.size_extract, ByteArray.size_extract, show (⟨#[46]⟩ : ByteArray).size = 1 from rfl] at this; omega)
                            clear c60 c63 c60b0 c60b1 c60b2 c60b3 c61b0 c62b0 c63b0 c63b1 c63b2 c63b3
                            go_wp2
                            repeat (go_quiet (fail); try go_wp2)
                            go_ret
                            exact ⟨by first | rfl | (simp [errW_none, errW_some] <;> rfl) | (simp only [← hji57]; first | rfl | (simp [errW_none, errW_some] <;> rfl)) | (simp [*, errW_none, errW_some] <;> rfl), by repeat (first | (with_reducible first | exact HB.out | apply below_alloc | apply pw_below_drewN | apply below_drew1) | exact HB.out)⟩
                          · rw [if_neg c63] at H
                            exact absurd H (by simp)
                        · rw [if_neg c60] at H
                          exact absurd H (by simp)
                      · rw [if_neg c59] at H
                        exact absurd H (by simp)
                    · rw [if_neg c58] at H
                      exact absurd H (by simp)

end Go.Proofs.YtlblkajnmdhmdaaGreatDoor.PFormatNumber
