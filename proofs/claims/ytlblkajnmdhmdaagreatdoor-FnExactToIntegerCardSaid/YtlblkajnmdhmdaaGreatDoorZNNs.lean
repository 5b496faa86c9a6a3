/-
  Plain: how the model's floats compare: a word with itself, with the greatest finite one, and two that are not negative.
  Walks: math.IsInf, math.Signbit, impl.fltN.
  Walks: the program's isDigit, intN; math.Abs and IsInf(f, 0) at a float that is not negative.
-/
import Derived.Test.YtlblkajnmdhmdaaGreatDoorZNIeee
import Derived.Test.YtlblkajnmdhmdaaGreatDoorZNPs
import Derived.Lib.Hide
import Derived.Laws.BitsAllLaws
namespace Go.Proofs.YtlblkajnmdhmdaaGreatDoor.NU
set_option linter.unusedVariables false
open Ieee
theorem sign_bit {b : Nat} (hb : b < 2 ^ 64) : (b / 2 ^ 63 % 2 == 1) = decide (2 ^ 63 ≤ b) := by
 by_cases h : 2 ^ 63 ≤ b
 ·rw [decide_eq_true h, show b / 2 ^ 63 = 1 by omega];rfl
 ·rw [decide_eq_false h, show b / 2 ^ 63 = 0 by omega];rfl
theorem read_any {b : Nat} (hb : b < 2 ^ 64) : double.read b = if b % 2 ^ 63 < 2047 * 2 ^ 52 then .number (decide (2 ^ 63 ≤ b)) (wM (b % 2 ^ 63)) ((wE (b % 2 ^ 63) : Int) - 1074)
  else if b % 2 ^ 63 = 2047 * 2 ^ 52 then .infinity (decide (2 ^ 63 ≤ b)) else .nan (decide (2 ^ 63 ≤ b)) (b % 2 ^ 63 - 2047 * 2 ^ 52) := by
 have hs : double.signWeight = 2 ^ 63 := rfl;have hbd : double.binade = 2 ^ 52 := rfl;have hi : double.infRung = 2047 * 2 ^ 52 := rfl;have hl : double.leastPlace = -1074 := rfl;unfold Format.read;rw [hs, hbd, hi, hl];have h1 := sign_bit hb;rw [h1];dsimp only;obtain ⟨m, hm⟩ : ∃ m, b % 2 ^ 63 = m := ⟨_, rfl⟩;rw [hm];by_cases h : m < 2 ^ 52
 ·rw [if_pos h, if_pos (by omega)];unfold wM wE;have : m / 2 ^ 52 = 0 := Nat.div_eq_of_lt h;rw [if_pos this, this];rfl
 ·by_cases h2 : m < 2047 * 2 ^ 52
  ·rw [if_neg h, if_pos h2, if_pos h2];unfold wM wE;rw [if_neg (by omega), Nat.add_comm (m % 2 ^ 52)];have e : ((-1074 : Int) + ((m / 2 ^ 52 - 1 : Nat) : Int)) = ((m / 2 ^ 52 - 1 : Nat) : Int) - 1074 := (by omega);rw [e]
  ·rw [if_neg h, if_neg h2, if_neg h2]
theorem ord_self {b : Nat} (hb : b < 2 ^ 64) : (double.order b b == some .eq) = decide (b % 2 ^ 63 ≤ 2047 * 2 ^ 52) := by
 unfold Format.order;rw [read_any hb];obtain ⟨m, hm⟩ : ∃ m, b % 2 ^ 63 = m := ⟨_, rfl⟩;rw [hm];by_cases h : m < 2047 * 2 ^ 52
 ·rw [if_pos h, decide_eq_true (show m ≤ 2047 * 2 ^ 52 by omega)];unfold Datum.order;simp
 ·rw [if_neg h];by_cases h2 : m = 2047 * 2 ^ 52
  ·rw [if_pos h2, decide_eq_true (show m ≤ 2047 * 2 ^ 52 by omega)];unfold Datum.order;simp
  ·rw [if_neg h2, decide_eq_false (show ¬ m ≤ 2047 * 2 ^ 52 by omega)];rfl
theorem ord_max {b : Nat} (hb : b < 2 ^ 64) : (double.order b 9218868437227405311 == some .gt) = decide (b = 9218868437227405312) := by
 have hx : (9218868437227405311 : Nat) < 2047 * 2 ^ 52 := (by decide);by_cases h : b < 2 ^ 63
 ·by_cases h1 : b < 2047 * 2 ^ 52
  ·rw [order_word h1 hx, decide_eq_false (show ¬ b = 9218868437227405312 by omega)]
   rcases Nat.lt_or_eq_of_le (show b ≤ 9218868437227405311 by omega) with h2 | h2
   ·rw [Nat.compare_eq_lt.2 h2]; rfl
   ·rw [Nat.compare_eq_eq.2 h2]; rfl
  ·by_cases h2 : b = 9218868437227405312
   ·subst h2; decide +kernel
   ·unfold Format.order;rw [read_any hb, if_neg (by omega), if_neg (by omega), decide_eq_false h2];rfl
 ·unfold Format.order;rw [read_any hb, read_word hx, decide_eq_false (show ¬ b = 9218868437227405312 by omega), decide_eq_true (show 2 ^ 63 ≤ b by omega)];split
  ·unfold Datum.order
   have h3 : ∀ (m k : Nat), signed true m k ≤ 0 := fun m k => by
    show -((m <<< k : Nat) : Int) ≤ 0;generalize m <<< k = z;omega
   dsimp only;rw [signed_pos];generalize hp : wM 9218868437227405311 * 2 ^ _ = p;have h4 := h3 (wM (b % 2 ^ 63)) ((wE (b % 2 ^ 63) : Int) - 1074 - min ((wE (b % 2 ^ 63) : Int) - 1074) ((wE 9218868437227405311 : Int) - 1074)).toNat;generalize signed true _ _ = q at h4 ⊢
   rcases Int.lt_or_eq_of_le (show q ≤ (p : Int) by omega) with h5 | h5
   ·rw [Int.compare_eq_lt.2 h5]; rfl
   ·rw [Int.compare_eq_eq.2 h5]; rfl
  ·split
   ·rfl
   ·rfl
theorem ord_eq {W u : Nat} (hW : W ≤ 2047 * 2 ^ 52) (hu : u < 2047 * 2 ^ 52) : (double.order W u == some .eq) = decide (W = u) := by
 rcases Nat.lt_or_eq_of_le hW with h | h
 ·rw [order_word h hu]
  rcases Nat.lt_trichotomy W u with h1 | h1 | h1
  ·rw [Nat.compare_eq_lt.2 h1, decide_eq_false (show ¬ W = u by omega)]; rfl
  ·rw [Nat.compare_eq_eq.2 h1, decide_eq_true h1]; rfl
  ·rw [Nat.compare_eq_gt.2 h1, decide_eq_false (show ¬ W = u by omega)]; rfl
 ·unfold Format.order;rw [read_any (by omega), if_neg (by omega), if_pos (by omega), decide_eq_false (show ¬ 2 ^ 63 ≤ W by omega), read_word hu, decide_eq_false (show ¬ W = u by omega)];rfl
theorem neg_major {b : Nat} (h : b < 2 ^ 63) : b ^^^ 2 ^ 63 = 2 ^ 63 + b := by
 have := Nat.two_pow_add_eq_or_of_lt h 1;apply Nat.eq_of_testBit_eq;intro i;rw [Nat.mul_one] at this;rw [this, Nat.testBit_or, Nat.testBit_xor, Nat.testBit_two_pow];by_cases hi : 63 = i
 ·subst hi;rw [Nat.testBit_lt_two_pow h];simp
 ·simp [hi]
end Go.Proofs.YtlblkajnmdhmdaaGreatDoor.NU
namespace Go.Proofs.YtlblkajnmdhmdaaGreatDoor
set_option linter.unusedVariables false
open Go.RowKit Lib Go.Op
theorem store_float {P : Program} {w : World} {a : Addr} {k : FloatKind} {n : Nat} {m : Mode} : (store a (.float k n) m).run P w = stored P w a (.float k n) m := run_store P w a _ m rfl
theorem neg_run {P : Program} {w : World} (b : Nat) : Sem.run P (unary .neg (.float .f64 b)) w = .ok (.float .f64 (negFloat .f64 b)) w := rfl
set_option maxRecDepth 100000 in
theorem fltN_num (b : Nat) (w : World) (hB : (FloatKind.f64.format.order b b == some .eq) = true) :
  Calls Tryz.prog 33 #[.float .f64 b] w fun e w' => e = .returned (.agg #[.bool true, .int .i64 0, .float .f64 b]) ∧ Below w.heap.size w w' := by
 have hB2 : (FloatKind.f64.format.order b b != some .eq) = false := (by simpa [bne] using hB);go_enter Tryz.func33, Tryz.ntmps33
 go_wp2_with fail
 rw [store_float];go_simp
 go_wp2_with fail
 exact bodyPost_ret (v := .agg #[.bool true, .int .i64 0, .float .f64 b]) (by simp [results, Tryz.results33, go_sem]) rfl ⟨rfl, (Below.refl _ _).alloc (Nat.le_refl _) _⟩
set_option maxRecDepth 100000 in
theorem fltN_nan (b : Nat) (w : World) (hB : (FloatKind.f64.format.order b b == some .eq) = false) :
  Calls Tryz.prog 33 #[.float .f64 b] w fun e w' => e = .returned (.agg #[.bool true, .int .i64 0, .float .f64 9221120237041090560]) ∧ Below w.heap.size w w' := by
 have hB2 : (FloatKind.f64.format.order b b != some .eq) = true := (by simpa [bne] using hB);go_enter Tryz.func33, Tryz.ntmps33
 go_wp2_with fail
 rw [show (9221120237041090560 : Int) = ((9221120237041090560 : Nat) : Int) from rfl, mfrombits_run];go_simp
 go_wp2_with fail
 rw [store_float];go_simp
 go_wp2_with fail
 exact bodyPost_ret (v := .agg #[.bool true, .int .i64 0, .float .f64 9221120237041090560]) (by simp [results, Tryz.results33, go_sem]) rfl ⟨rfl, (Below.refl _ _).alloc (Nat.le_refl _) _⟩
end Go.Proofs.YtlblkajnmdhmdaaGreatDoor
namespace Go.Proofs.YtlblkajnmdhmdaaGreatDoor
set_option linter.unusedVariables false
open Go.RowKit Lib Go.Op
theorem isDigit_yes (c : Int) (h1 : 48 ≤ c) (h2 : c ≤ 57) (w : World) : Calls Tryz.prog 47 #[.int .u8 c] w fun e w' => e = .returned (.bool true) ∧ w = w' := by
 go_enter Tryz.func47, Tryz.ntmps47
 go_wp2_with fail
 go_ret;exact ⟨rfl, rfl⟩
theorem isDigit_no (c : Int) (h : c < 48 ∨ 57 < c) (w : World) : Calls Tryz.prog 47 #[.int .u8 c] w fun e w' => e = .returned (.bool false) ∧ w = w' := by
 by_cases h1 : 48 ≤ c
 ·have h2 : decide (c ≤ 57) = false := decide_eq_false (by omega);clear h;go_enter Tryz.func47, Tryz.ntmps47
  go_wp2_with fail
  go_ret;exact ⟨rfl, rfl⟩
 ·have h2 : c < 48 := (by omega);clear h h1;go_enter Tryz.func47, Tryz.ntmps47
  go_wp2_with fail
  go_ret;exact ⟨rfl, rfl⟩
set_option maxRecDepth 100000 in
theorem intN_any (i : Int) (w : World) : Calls Tryz.prog 46 #[.int .i64 i] w fun e w' => e = .returned (.agg #[.bool false, .int .i64 i, .float .f64 0]) ∧ Below w.heap.size w w' := by
 go_enter Tryz.func46, Tryz.ntmps46
 go_wp2_with fail
 rw [store_float];go_simp
 go_wp2_with fail
 exact bodyPost_ret (v := .agg #[.bool false, .int .i64 i, .float .f64 0]) (by simp [results, Tryz.results46, go_sem]) rfl ⟨rfl, (Below.refl _ _).alloc (Nat.le_refl _) _⟩
theorem andNot_sign (b : Nat) (hb : b < 2 ^ 63) : bits .andNot .u64 (b : Int) 9223372036854775808 = (b : Int) := by
 have := u64_andNot_nat b 9223372036854775808 (by omega) (by decide);rw [show ((9223372036854775808 : Nat) : Int) = 9223372036854775808 from rfl] at this;rw [this, show 18446744073709551615 - 9223372036854775808 = 2 ^ 63 - 1 by decide, Nat.and_two_pow_sub_one_of_lt_two_pow hb]
set_option maxRecDepth 100000 in
theorem abs_pos (b : Nat) (hb : b < 2 ^ 63) (w : World) : Calls Tryz.prog 78 #[.float .f64 b] w fun e w' => e = .returned (.float .f64 b) ∧ w = w' := by
 go_enter Tryz.func78, Tryz.ntmps78
 go_wp2_with fail
 rw [mbits_run];go_simp
 go_wp2_with fail
 rw [andNot_sign b hb, mfrombits_run];go_simp
 go_wp2_with fail
 go_ret;exact ⟨rfl, rfl⟩
set_option maxRecDepth 100000 in
theorem isinf_any (b : Nat) (B : Bool) (hb : b < 2 ^ 63) (w : World) (hB : (FloatKind.f64.format.order b 9218868437227405311 == some .gt) = B) :
  Calls Tryz.prog 50 #[.float .f64 b, .int .i64 0] w fun e w' => e = .returned (.bool B) ∧ w = w' := by
 have HA := hid (abs_pos b hb);clear hb;go_enter Tryz.func50, Tryz.ntmps50
 go_wp2_with fail
 refine (HA.out w).mono ?_;rintro e w' ⟨rfl, rfl⟩
 go_wp2_with fail
 go_ret;exact ⟨rfl, rfl⟩
end Go.Proofs.YtlblkajnmdhmdaaGreatDoor
