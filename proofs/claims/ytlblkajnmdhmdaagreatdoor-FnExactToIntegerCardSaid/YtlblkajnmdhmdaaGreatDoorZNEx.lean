/-
  Walk: the library's atof64exact: a small mantissa and a small power of ten are made into a float by one exact step.
-/
import Derived.Test.YtlblkajnmdhmdaaGreatDoorZNPf
import Derived.Test.YtlblkajnmdhmdaaGreatDoorZNIeee
import Derived.Laws.FloatArith
namespace Go.Proofs.YtlblkajnmdhmdaaGreatDoor
set_option linter.unusedVariables false
open Go.RowKit Lib
/-- The float powers of ten, and the number of a mantissa's bits, lie in their blocks. -/
def F10 (w : World) : Prop := ∃ (a : Addr) (c : Nat), w.cell? ⟨12, 0, none⟩ = some (.slice (some a) 23 c) ∧ a.block < w.heap.size ∧ ∀ i, i < 23 → w.cell? (a.add i) = some (.float .f64 (NU.word (10 ^ i) 1))
def I7 (w : World) : Prop := w.cell? ⟨7, 0, none⟩ = some (.int .u64 52)
theorem F10.below {w w' : World} (h : F10 w) (hs : 16 < w.heap.size) (hb : Below w.heap.size w w') : F10 w' := by
 obtain ⟨a, c, h1, h2, h3⟩ := h;refine ⟨a, c, (hb.cell (p := ⟨12, 0, none⟩) (by show 12 < _; omega)).trans h1, Nat.lt_of_lt_of_le h2 hb.size, fun i hi => (hb.cell ?_).trans (h3 i hi)⟩;unfold Addr.add;split
 ·exact h2
 ·exact h2
theorem I7.below {w w' : World} (h : I7 w) (hs : 16 < w.heap.size) (hb : Below w.heap.size w w') : I7 w' := (hb.cell (p := ⟨7, 0, none⟩) (by show 7 < _; omega)).trans h
namespace NU
theorem ofInt_word (m : Nat) : floatOfInt .f64 (m : Int) = word m 1 := by
 have : floatOfInt .f64 (m : Int) = Ieee.double.nearest (decide ((m : Int) < 0)) (m : Int).natAbs 0 := rfl;rw [this, decide_eq_false (by omega), Int.natAbs_natCast, int_word]
def pwTab : List Nat := [4607182418800017408, 4621819117588971520, 4636737291354636288, 4652007308841189376, 4666723172467343360, 4681608360884174848, 4696837146684686336, 4711630319722168320, 4726483295884279808, 4741671816366391296, 4756540486875873280, 4771362005757984768, 4786511204640096256, 4801453603149578240, 4816244402031689728, 4831355200913801216, 4846369599423283200, 4861130398305394688, 4876203697187506176, 4891288408196988160, 4906019910204099648, 4921056587992461136, 4936209963552724370]
theorem pwTab_ok : ∀ i : Fin 23, wU (pwTab.getD i.val 0) * 1 = 10 ^ i.val * 2 ^ 1074 ∧ pwTab.getD i.val 0 < 2047 * 2 ^ 52 := by decide +kernel
theorem pow_isV {i : Nat} (h : i < 23) : isV (pwTab.getD i 0) (10 ^ i) 1 := by
 obtain ⟨h1, h2⟩ := pwTab_ok ⟨i, h⟩;refine ⟨h2, by decide, ?_⟩;rw [one74_eq, e74_eq];exact h1
theorem pow_tab {i : Nat} (h : i < 23) : word (10 ^ i) 1 = pwTab.getD i 0 := isV_word (pow_isV h)
theorem pow22 {i : Nat} (h : i < 23) : isV (word (10 ^ i) 1) (10 ^ i) 1 := by rw [pow_tab h]; exact pow_isV h
/-- 10^15's word. -/
theorem word15 : word (10 ^ 15) 1 = 4831355200913801216 := pow_tab (i := 15) (by decide)
theorem word_gt15 {N : Nat} (h : 10 ^ 15 < N) : 4831355200913801216 < word N 1 := by
 by_cases h53 : N < 2 ^ 53
 ·have h1 := (int_exact h53).2.2;have h2 := (pow22 (i := 15) (by decide)).2.2;rw [word15] at h2;apply Nat.lt_of_not_le;intro hle
  rcases Nat.lt_or_eq_of_le hle with h3 | h3
  ·have := wU_lt h3;have h4 : 10 ^ 15 * one74 < N * one74 := Nat.mul_lt_mul_of_pos_right h one74_pos;omega
  ·rw [h3] at h1;have h4 : 10 ^ 15 * one74 < N * one74 := Nat.mul_lt_mul_of_pos_right h one74_pos;omega
 ·have hn := nearAt_place (n := N) (d := 1) (by decide);obtain ⟨E, hE⟩ : ∃ E, place N 1 = E := ⟨_, rfl⟩;rw [hE] at hn;have h1 : 2 ^ 53 * one74 ≤ N * one74 := Nat.mul_le_mul_right _ (by omega);have h2 := Nat.lt_of_le_of_lt h1 hn.1;rw [one74_eq, Nat.one_mul] at h2;have h3 := (Nat.pow_lt_pow_iff_right (a := 2) (by decide)).1 (Nat.lt_of_mul_lt_mul_left h2);rw [e74_eq] at h3;rw [word_of (by decide) hn];unfold wordAt;generalize rne _ _ = z;have : 1075 * 2 ^ 52 ≤ E * 2 ^ 52 := Nat.mul_le_mul_right _ h3;omega
theorem word_le15 {N : Nat} (h : N ≤ 10 ^ 15) : word N 1 ≤ 4831355200913801216 := by
 have h1 := (int_exact (N := N) (by omega)).2.2;have h2 := (pow22 (i := 15) (by decide)).2.2;rw [word15] at h2;apply Nat.le_of_not_lt;intro h3;have := wU_lt h3;have h4 : N * one74 ≤ 10 ^ 15 * one74 := Nat.mul_le_mul_right _ h;omega
theorem gt15 {N : Nat} (hN : word N 1 < 2047 * 2 ^ 52) : (FloatKind.f64.format.order (word N 1) 4831355200913801216 == some .gt) = decide (10 ^ 15 < N) := by
 have e : FloatKind.f64.format.order (word N 1) 4831355200913801216 = some (compare (word N 1) 4831355200913801216) := order_word hN (by decide);rw [e];by_cases h : 10 ^ 15 < N
 ·rw [Nat.compare_eq_gt.2 (word_gt15 h), decide_eq_true h];rfl
 ·rw [decide_eq_false h];have := word_le15 (N := N) (by omega);apply Bool.eq_false_iff.2;intro hh;have h2 : compare (word N 1) 4831355200913801216 = .gt := Option.some.inj (eq_of_beq hh);have := Nat.compare_eq_gt.1 h2;omega
theorem lt15 {x : Nat} (hx : x < 2047 * 2 ^ 52) : (FloatKind.f64.format.order x 14054727237768577024 == some .lt) = false := by
 have e : Ieee.double.read 14054727237768577024 = .number true 8000000000000000 (-3) := (by decide);have e2 : FloatKind.f64.format.order x 14054727237768577024 = (Ieee.double.read x).order (Ieee.double.read 14054727237768577024) := rfl;rw [e2, e, read_word hx];apply Bool.eq_false_iff.2;intro hh;have h2 : compare (Ieee.signed false _ _) (Ieee.signed true _ _) = .lt := Option.some.inj (eq_of_beq hh);have h3 := Int.compare_eq_lt.1 h2;rw [signed_pos] at h3;unfold Ieee.signed at h3;rw [if_pos rfl] at h3;have gen : ∀ p q : Nat, ¬ ((p : Int) < -(q : Int)) := fun p q h => by omega
 exact gen _ _ h3
theorem fin_div {N d : Nat} (h : N < 2 ^ 130) (hd : 0 < d) : word N d < 2047 * 2 ^ 52 := by
 apply Nat.lt_of_not_le;intro hge;have hn := nearAt_place (n := N) hd;obtain ⟨E, hE⟩ : ∃ E, place N d = E := ⟨_, rfl⟩;rw [hE] at hn;rw [word_of hd hn] at hge
 have hle : rne (N * one74) (d * 2 ^ E) ≤ 2 ^ 53 := by
  apply rne_le (Nat.mul_pos hd (Nat.two_pow_pos _));have := hn.1;rw [Nat.add_mul, Nat.mul_assoc 2];omega
 have hE2 : E = 0 ∨ E < 1300 := by
  refine hn.2.imp id (fun h2 => ?_);have h3 : N * one74 < 2 ^ 130 * one74 := Nat.mul_lt_mul_of_pos_right h one74_pos;have h5 : 2 ^ 52 * 2 ^ E ≤ 2 ^ 52 * (d * 2 ^ E) := Nat.mul_le_mul_left _ (Nat.le_mul_of_pos_left _ hd);have h4 := Nat.lt_of_le_of_lt (Nat.le_trans h5 h2) h3;rw [one74_eq, ← Nat.pow_add, ← Nat.pow_add] at h4;have := (Nat.pow_lt_pow_iff_right (a := 2) (by decide)).1 h4;rw [e74_eq] at this;omega
 unfold wordAt at hge;have hE3 : E * 2 ^ 52 ≤ 1300 * 2 ^ 52 := Nat.mul_le_mul_right _ (by omega);generalize rne _ _ = z at hge hle;omega
theorem fin_int {N : Nat} (h : N < 2 ^ 130) : word N 1 < 2047 * 2 ^ 52 := fin_div h (by decide)
theorem small120 {m : Nat} (h : m < 2 ^ 52) : m < 2 ^ 130 := by omega
theorem mul_small3 {m j : Nat} (h : m < 2 ^ 52) (hj : j ≤ 22) : m * 10 ^ j < 2 ^ 130 := by
 have h10 : 10 ^ j ≤ 10 ^ 22 := Nat.pow_le_pow_right (by decide) hj;have := Nat.mul_le_mul_left m h10;omega
theorem mul_small {m j : Nat} (h : m < 2 ^ 52) (hj : j ≤ 15) : m * 10 ^ j < 2 ^ 130 := mul_small3 h (by omega)
theorem le15 {a : Nat} (h : ¬ 10 ^ 15 < a) : a < 2 ^ 53 := by omega
theorem mul_small2 {a : Nat} (h : ¬ 10 ^ 15 < a) : a * 10 ^ 22 < 2 ^ 130 := by omega
theorem mul_fact {x y a c : Nat} (hx : isV x a 1) (hy : isV y c 1) : ∃ z, z = word (a * c) 1 ∧ ∀ (P : Program) (t : TypeId) (w : World), (binOp .mul t (.float .f64 x) (.float .f64 y)).run P w = .ok (.float .f64 z) w := by
 have h := mul_word hx hy;rw [Nat.one_mul] at h;exact ⟨_, rfl, fun P t w => run_float_arith w .mul t .f64 x y _ h⟩
theorem div_fact {x y a c : Nat} (hx : isV x a 1) (hy : isV y c 1) (h0 : 0 < x) (hc : 0 < c) : ∃ z, z = word a c ∧ ∀ (P : Program) (t : TypeId) (w : World), (binOp .quo t (.float .f64 x) (.float .f64 y)).run P w = .ok (.float .f64 z) w := by
 have h := div_word hx hy h0 hc;rw [Nat.one_mul, Nat.mul_one] at h;exact ⟨_, rfl, fun P t w => run_float_arith w .quo t .f64 x y _ h⟩
theorem wordE_up (m j : Nat) : wordE m (j : Int) = word (m * 10 ^ j) 1 := by
 unfold wordE;rw [show ((j : Int)).toNat = j by omega, show (-((j : Int))).toNat = 0 by omega, Nat.pow_zero]
theorem wordE_down (m j : Nat) : wordE m (-(j : Int)) = word m (10 ^ j) := by
 unfold wordE;rw [show (-(j : Int)).toNat = 0 by omega, show (-(-(j : Int))).toNat = j by omega, Nat.pow_zero, Nat.mul_one]
theorem gtl {x N : Nat} (hx : x = word N 1) (hN : N < 2 ^ 130) : (FloatKind.f64.format.order x 4831355200913801216 == some .gt) = decide (10 ^ 15 < N) ∧ (FloatKind.f64.format.order x 14054727237768577024 == some .lt) = false := by
 subst hx;exact ⟨gt15 (fin_int hN), lt15 (fin_int hN)⟩
end NU
def ExPost (m : Nat) (e : Int) (w : World) (r : Ending) (w' : World) : Prop := (∃ (x : Nat) (ok : Bool), r = .returned (.tuple #[.float .f64 x, .bool ok]) ∧ (ok = true → x = NU.wordE m e ∧ x < 2047 * 2 ^ 52)) ∧ w = w'
set_option maxRecDepth 100000 in
set_option maxHeartbeats 1000000 in
theorem exact_walk (m : Nat) (e : Int) (w : World) (h7 : I7 w) (hF : F10 w) (hm0 : 0 < m) (hm : m < 2 ^ 64) (he : -400 ≤ e ∧ e ≤ 400) :
  Calls Tryz.prog 193 #[.int .u64 m, .int .i64 e, .bool false] w (ExPost m e w) := by
 obtain ⟨a, c, f1, f2, f3⟩ := hF;unfold I7 at h7;have f4 : ∀ i, i < 23 → ∃ p, w.cell? (a.add i) = some (.float .f64 p) ∧ NU.isV p (10 ^ i) 1 := fun i hi => ⟨_, f3 i hi, NU.pow22 hi⟩;have F4 := hid f4;clear f3 f4;by_cases h52 : m < 2 ^ 52
 ·have hd : ((m : Int) / 4503599627370496 != 0) = false := (by simp; omega);have hx : NU.isV (floatOfInt .f64 (m : Int)) m 1 := (by rw [NU.ofInt_word]; exact NU.int_exact (by omega));have HX := hid hx;have H52 := hid h52;clear hx;by_cases he0 : e = 0
  ·have hb : (e == 0) = true := (by simpa using he0);go_enter Tryz.func193, Tryz.ntmps193
   go_wp2_with fail
   go_ret2;refine ⟨⟨floatOfInt .f64 (m : Int), true, rfl, fun _ => ⟨?_, HX.out.1⟩⟩, rfl⟩;rw [he0, NU.ofInt_word];exact ((NU.wordE_up m 0).trans (by rw [Nat.pow_zero, Nat.mul_one])).symm
  ·have hb : (e == 0) = false := (by simpa using he0);by_cases hpos : 0 < e
   ·have hdp : decide ((0 : Int) < e) = true := decide_eq_true hpos;by_cases h37 : e ≤ 37
    ·have hd37 : decide (e ≤ 37) = true := decide_eq_true h37;by_cases h22 : 22 < e
     ·have hd22 : decide ((22 : Int) < e) = true := decide_eq_true h22;obtain ⟨j, rfl⟩ : ∃ j : Nat, e = (j : Int) + 22 := ⟨(e - 22).toNat, by omega⟩;have hj : j ≤ 15 := (by omega);obtain ⟨pj, f3j, vj⟩ := F4.out j (by omega);obtain ⟨p22, f322, v22⟩ := F4.out 22 (by decide);replace f322 : w.cell? ⟨a.block, a.off + 22, none⟩ = some (.float .f64 p22) := f322;obtain ⟨x1, e1, hmul1⟩ := NU.mul_fact HX.out vj;replace hmul1 := hmul1 Tryz.prog;obtain ⟨ho1, ho2⟩ := NU.gtl e1 (NU.mul_small H52.out hj);by_cases h15 : 10 ^ 15 < m * 10 ^ j
      ·rw [decide_eq_true h15] at ho1;clear h15 e1 vj v22;go_enter Tryz.func193, Tryz.ntmps193
       go_wp2_with (simp only [hmul1])
       go_ret2;exact ⟨⟨_, false, rfl, fun h => by cases h⟩, rfl⟩
      ·rw [decide_eq_false h15] at ho1;obtain ⟨x2, e2, hmul2⟩ := NU.mul_fact (x := x1) (by rw [e1]; exact NU.int_exact (NU.le15 h15)) v22;replace hmul2 := hmul2 Tryz.prog
       have hr : x2 = NU.wordE m ((j : Int) + 22) ∧ x2 < 2047 * 2 ^ 52 := by
        refine ⟨?_, by rw [e2]; exact NU.fin_int (NU.mul_small2 h15)⟩;have e3 := NU.wordE_up m (j + 22);rw [Nat.pow_add, ← Nat.mul_assoc] at e3;exact e2.trans e3.symm
       have HR := hid hr;clear hr h15 e1 e2 vj v22;go_enter Tryz.func193, Tryz.ntmps193
       go_wp2_with (simp only [hmul1, hmul2])
       go_ret2;exact ⟨⟨_, true, rfl, fun _ => HR.out⟩, rfl⟩
     ·have hd22 : decide ((22 : Int) < e) = false := decide_eq_false h22;obtain ⟨j, rfl⟩ : ∃ j : Nat, e = (j : Int) := ⟨e.toNat, by omega⟩;have hj : j ≤ 22 := (by omega);obtain ⟨pj, f3j, vj⟩ := F4.out j (by omega);obtain ⟨ho1, ho2⟩ := NU.gtl (NU.ofInt_word m) (NU.small120 H52.out);by_cases h15 : 10 ^ 15 < m
      ·rw [decide_eq_true h15] at ho1;clear h15 vj;go_enter Tryz.func193, Tryz.ntmps193
       go_wp2_with fail
       go_ret2;exact ⟨⟨_, false, rfl, fun h => by cases h⟩, rfl⟩
      ·rw [decide_eq_false h15] at ho1;obtain ⟨x2, e2, hmul2⟩ := NU.mul_fact HX.out vj;replace hmul2 := hmul2 Tryz.prog
       have hr : x2 = NU.wordE m (j : Int) ∧ x2 < 2047 * 2 ^ 52 :=
        ⟨e2.trans (NU.wordE_up m j).symm, by rw [e2]; exact NU.fin_int (NU.mul_small3 H52.out hj)⟩
       have HR := hid hr;clear hr h15 e2 vj;go_enter Tryz.func193, Tryz.ntmps193
       go_wp2_with (simp only [hmul2])
       go_ret2;exact ⟨⟨_, true, rfl, fun _ => HR.out⟩, rfl⟩
    ·have hd37 : decide (e ≤ 37) = false := decide_eq_false h37;have hneg : decide (e < 0) = false := decide_eq_false (by omega);go_enter Tryz.func193, Tryz.ntmps193
     go_wp2_with fail
     go_ret2;exact ⟨⟨_, false, rfl, fun h => by cases h⟩, rfl⟩
   ·have hdp : decide ((0 : Int) < e) = false := decide_eq_false hpos;by_cases h22 : -22 ≤ e
    ·obtain ⟨j, rfl⟩ : ∃ j : Nat, e = -(j : Int) := ⟨(-e).toNat, by omega⟩;have hneg : decide (-(j : Int) < 0) = true := decide_eq_true (by omega);have hd22 : decide (-(j : Int) ≥ -22) = true := decide_eq_true h22;obtain ⟨pj, f3j, vj⟩ := F4.out j (by omega)
     have hx0 : 0 < floatOfInt .f64 (m : Int) := by
      apply Nat.pos_of_ne_zero;intro h;have h1 := HX.out.2.2;rw [h] at h1;have h2 := Nat.mul_pos hm0 NU.one74_pos;have h3 : NU.wU 0 * 1 = 0 := (by decide);omega
     obtain ⟨x2, e2, hdiv⟩ := NU.div_fact HX.out vj hx0 (Nat.pow_pos (by decide));replace hdiv := hdiv Tryz.prog
     have hr : x2 = NU.wordE m (-(j : Int)) ∧ x2 < 2047 * 2 ^ 52 :=
      ⟨e2.trans (NU.wordE_down m j).symm, by rw [e2]; exact NU.fin_div (NU.small120 H52.out) (Nat.pow_pos (by decide))⟩
     have HR := hid hr;clear hr hx0 e2 vj;go_enter Tryz.func193, Tryz.ntmps193
     go_wp2_with (simp only [hdiv])
     go_ret2;exact ⟨⟨_, true, rfl, fun _ => HR.out⟩, rfl⟩
    ·have hneg : decide (e < 0) = true := decide_eq_true (by omega);have hd22 : decide (e ≥ -22) = false := decide_eq_false h22;go_enter Tryz.func193, Tryz.ntmps193
     go_wp2_with fail
     go_ret2;exact ⟨⟨_, false, rfl, fun h => by cases h⟩, rfl⟩
 ·have hd : ((m : Int) / 4503599627370496 != 0) = true := (by simp; omega);go_enter Tryz.func193, Tryz.ntmps193
  go_wp2_with fail
  go_ret2;exact ⟨⟨0, false, rfl, fun h => by cases h⟩, rfl⟩
end Go.Proofs.YtlblkajnmdhmdaaGreatDoor
