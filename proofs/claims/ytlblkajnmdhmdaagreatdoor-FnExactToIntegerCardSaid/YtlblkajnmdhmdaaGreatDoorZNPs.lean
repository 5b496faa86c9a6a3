/-
  Walks: small functions of the library's unrounded numbers.
  Laws: the functions that the model runs in place: a float's word and back.
  Walk: the library's pack64: a mantissa and a place are made into a float.
  Walk: the library's prescale: the constants of a scaling are read out of the table.
-/
import Derived.Test.YtlblkajnmdhmdaaGreatDoorZNUs
import Derived.Laws.Externs
import Derived.Test.YtlblkajnmdhmdaaGreatDoorZNParse
import Derived.Lib.Hide
import Derived.Test.YtlblkajnmdhmdaaGreatDoorZNTab
import Derived.Below
namespace Go.Proofs.YtlblkajnmdhmdaaGreatDoor
set_option linter.unusedVariables false
open Go.RowKit
theorem log2Pow10_walk (x : Int) (h1 : -1000000 ≤ x) (h2 : x ≤ 1000000) (w : World) : Calls Tryz.prog 203 #[.int .i64 x] w fun e w' => e = .returned (.int .i64 (x * 108853 / 32768)) ∧ w' = w := by
 have hf : IntKind.i64.wrap (x * 108853) = x * 108853 := (by rw [IntKind.wrap_i64]; omega);go_enter Tryz.func203, Tryz.ntmps203;go_wp2;go_ret;exact ⟨rfl, rfl⟩
theorem unmin_walk (x : Nat) (h : 1 ≤ x) (h2 : x < 2 ^ 61) (w : World) : Calls Tryz.prog 209 #[.int .u64 x] w fun e w' => e = .returned (.int .u64 (4 * x - 2 : Nat)) ∧ w' = w := by
 go_enter Tryz.func209, Tryz.ntmps209;go_wp2;go_ret;refine ⟨?_, rfl⟩;show Ending.returned (Value.int .u64 ((x : Int) * 4 - 2)) = _;rw [show ((x : Int) * 4 - 2) = ((4 * x - 2 : Nat) : Int) by omega]
theorem and1_at (a : Nat) (h : a < 2 ^ 64) : bits .and .u64 (a : Int) 1 = ((a % 2 : Nat) : Int) := by
 have h' : (2 : Nat) ^ 64 = 18446744073709551616 := (by decide);rw [h'] at h;have := bits_and_u64_nat a 1 h (by decide);rw [Nat.and_one_is_mod] at this;exact this
theorem round_walk (u : Nat) (h : u < 2 ^ 63) (w : World) : Calls Tryz.prog 208 #[.int .u64 u] w fun e w' => e = .returned (.int .u64 ((u + 1 + u / 4 % 2) / 4 : Nat)) ∧ w' = w := by
 go_enter Tryz.func208, Tryz.ntmps208;go_wp2;go_ret;refine ⟨?_, rfl⟩;show Ending.returned (Value.int .u64 (IntKind.u64.wrap ((u : Int) + 1 + bits .and .u64 ((u : Int) / 4) 1) / 4)) = _;rw [show ((u : Int) / 4) = ((u / 4 : Nat) : Int) by omega, and1_at _ (by omega), show ((u : Int) + 1 + ((u / 4 % 2 : Nat) : Int)) = ((u + 1 + u / 4 % 2 : Nat) : Int) by omega, wrap_nat (by omega)];congr 2
end Go.Proofs.YtlblkajnmdhmdaaGreatDoor
namespace Go.Proofs.YtlblkajnmdhmdaaGreatDoor
open Go.RowKit
theorem frombits_run (m : Nat) (w : World) : Sem.run Tryz.prog (callFunc 192 #[.int .u64 m]) w = .ok (.value (.float .f64 m)) w := by
 rw [run_callFunc_extern (fn := Tryz.f192) (e := Extern.MathFloatBits.float64frombits) (by kernel_rfl) (by kernel_rfl) (by kernel_rfl) (by kernel_rfl) (by kernel_rfl)];rfl
theorem mfrombits_run (m : Nat) (w : World) : Sem.run Tryz.prog (callFunc 34 #[.int .u64 m]) w = .ok (.value (.float .f64 m)) w := by
 rw [run_callFunc_extern (fn := Tryz.f34) (e := Extern.MathFloatBits.float64frombits) (by kernel_rfl) (by kernel_rfl) (by kernel_rfl) (by kernel_rfl) (by kernel_rfl)];rfl
theorem mbits_run (b : Nat) (w : World) : Sem.run Tryz.prog (callFunc 79 #[.float .f64 b]) w = .ok (.value (.int .u64 b)) w := by
 rw [run_callFunc_extern (fn := Tryz.f79) (e := Extern.MathFloatBits.float64bits) (by kernel_rfl) (by kernel_rfl) (by kernel_rfl) (by kernel_rfl) (by kernel_rfl)];rfl
end Go.Proofs.YtlblkajnmdhmdaaGreatDoor
namespace Go.Proofs.YtlblkajnmdhmdaaGreatDoor
set_option linter.unusedVariables false
open Go.RowKit Lib
theorem frombits_any (i : Int) (w : World) : Sem.run Tryz.prog (callFunc 192 #[.int .u64 i]) w = .ok (.value (.float .f64 i.toNat)) w := by
 rw [run_callFunc_extern (fn := Tryz.f192) (e := Extern.MathFloatBits.float64frombits) (by kernel_rfl) (by kernel_rfl) (by kernel_rfl) (by kernel_rfl) (by kernel_rfl)];rfl
theorem p64 : (18446744073709551616 : Nat) = 2 ^ 64 := by decide
theorem p52 : (4503599627370496 : Nat) = 2 ^ 52 := by decide
theorem and_pow (m i : Nat) : m &&& 2 ^ i = if m.testBit i then 2 ^ i else 0 := by
 apply Nat.eq_of_testBit_eq;intro j;rw [Nat.testBit_and, Nat.testBit_two_pow];by_cases h : i = j
 ·subst h;rw [decide_eq_true rfl, Bool.and_true];cases hm : m.testBit i
  ·rw [if_neg (by decide), Nat.zero_testBit]
  ·rw [if_pos rfl, Nat.testBit_two_pow_self]
 ·rw [decide_eq_false h, Bool.and_false];split
  ·rw [Nat.testBit_two_pow_of_ne h]
  ·rw [Nat.zero_testBit]
theorem and52 {m : Nat} (h : m < 2 ^ 53) : bits .and .u64 (m : Int) 4503599627370496 = if m < 2 ^ 52 then 0 else 4503599627370496 := by
 have := bits_and_u64_nat m 4503599627370496 (by rw [p64]; exact Nat.lt_trans h (by decide)) (by decide);refine Eq.trans this ?_;rw [p52, and_pow, Nat.testBit_eq_decide_div_mod_eq];by_cases hm : m < 2 ^ 52
 ·rw [if_pos hm, decide_eq_false (by omega)]; rfl
 ·rw [if_neg hm, decide_eq_true (by omega)]; rfl
theorem andNot52 {m : Nat} (h : m < 2 ^ 53) (h2 : 2 ^ 52 ≤ m) : bits .andNot .u64 (m : Int) 4503599627370496 = ((m - 2 ^ 52 : Nat) : Int) := by
 obtain ⟨a, rfl⟩ : ∃ a, m = 2 ^ 52 + a := ⟨m - 2 ^ 52, by omega⟩;have ha : a < 2 ^ 52 := (by omega);rw [Nat.add_sub_cancel_left];show IntKind.u64.wrap ((BitVec.ofInt 64 ((2 ^ 52 + a : Nat) : Int) &&& ~~~ (BitVec.ofInt 64 4503599627370496)).toNat : Int) = _
 have hv : (BitVec.ofInt 64 ((2 ^ 52 + a : Nat) : Int) &&& ~~~ (BitVec.ofInt 64 4503599627370496)).toNat = a := by
  have e1 : BitVec.ofInt 64 ((2 ^ 52 + a : Nat) : Int) = BitVec.ofNat 64 (2 ^ 52 + a) := BitVec.ofInt_natCast ..;have e2 : (~~~ (BitVec.ofInt 64 4503599627370496) : BitVec 64) = BitVec.ofNat 64 (2 ^ 64 - 1 - 2 ^ 52) := (by decide);rw [e1, e2, BitVec.toNat_and, BitVec.toNat_ofNat, BitVec.toNat_ofNat, Nat.mod_eq_of_lt (by omega), Nat.mod_eq_of_lt (by decide)];apply Nat.eq_of_testBit_eq;intro i;rw [Nat.testBit_and]
  have hc : (2 ^ 64 - 1 - 2 ^ 52 : Nat).testBit i = (decide (i < 64) && decide (i ≠ 52)) := by
   by_cases hi : i < 64
   ·have : ∀ j : Fin 64, (2 ^ 64 - 1 - 2 ^ 52 : Nat).testBit j.val = (decide (j.val < 64) && decide (j.val ≠ 52)) := (by decide);exact this ⟨i, hi⟩
   ·rw [decide_eq_false hi, Bool.false_and];apply Nat.testBit_lt_two_pow;exact Nat.lt_of_lt_of_le (by decide : (2 ^ 64 - 1 - 2 ^ 52 : Nat) < 2 ^ 64) (Nat.pow_le_pow_right (by decide) (by omega))
  rw [hc, show 2 ^ 52 + a = 2 ^ 52 * 1 + a by omega];by_cases hi : i < 52
  ·rw [Nat.testBit_two_pow_mul_add 1 ha, if_pos hi, decide_eq_true (by omega), decide_eq_true (by omega)];simp
  ·have h0 : a.testBit i = false := Nat.testBit_lt_two_pow (Nat.lt_of_lt_of_le ha (Nat.pow_le_pow_right (by decide) (by omega)));rw [h0];by_cases he : i = 52
   ·rw [decide_eq_false (p := i ≠ 52) (by simpa using he)]; simp
   ·have hz : (2 ^ 52 * 1 + a).testBit i = false := by
     apply Nat.testBit_lt_two_pow;exact Nat.lt_of_lt_of_le (by omega : 2 ^ 52 * 1 + a < 2 ^ 53) (Nat.pow_le_pow_right (by decide) (by omega))
    rw [hz]; rfl
 rw [hv, IntKind.wrap_u64];omega
theorem or_high {a b : Nat} (h : a < 2 ^ 52) (hb : b < 2 ^ 12) : bits .or .u64 (a : Int) ((b * 2 ^ 52 : Nat) : Int) = ((b * 2 ^ 52 + a : Nat) : Int) := by
 rw [or_at _ _ (by omega) (by omega), Nat.or_comm, Nat.mul_comm, ← Nat.two_pow_add_eq_or_of_lt h]
/-- What pack64 answers. -/
def packEnd (m : Nat) (e : Int) : Ending :=
 .returned (.tuple #[.float .f64 (NU.packN m (e + 1074).toNat), if m < 2 ^ 52 ∨ e < 972 then .nilIface else .iface 124 (.int .i64 1)])
set_option maxRecDepth 100000 in
theorem pack64_walk (m : Nat) (e : Int) (h : m < 2 ^ 53) (he : -1074 ≤ e) (he2 : e ≤ 2000) (w : World) : Calls Tryz.prog 224 #[.int .u64 m, .int .i64 e] w fun r w' => r = packEnd m e ∧ w = w' := by
 by_cases hm : m < 2 ^ 52
 ·have h1 : (bits .and .u64 (m : Int) 4503599627370496 == 0) = true := (by rw [and52 h, if_pos hm]; rfl)
  have hE : packEnd m e = .returned (.tuple #[.float .f64 m, .nilIface]) := by
   unfold packEnd NU.packN;rw [if_pos hm, if_pos (Or.inl hm)]
  rw [hE];clear hE hm;go_enter Tryz.func224, Tryz.ntmps224;go_wp2;rw [frombits_run];go_simp;go_wp2;go_ret2;exact ⟨rfl, rfl⟩
 ·have h1 : (bits .and .u64 (m : Int) 4503599627370496 == 0) = false := (by rw [and52 h, if_neg hm]; rfl);by_cases hi : 972 ≤ e
  ·have hE : packEnd m e = .returned (.tuple #[.float .f64 9218868437227405312, .iface 124 (.int .i64 1)]) := by
    unfold packEnd NU.packN;rw [if_neg hm, if_pos (by omega), if_neg (by omega)]
   have hb : bits .or .u64 (bits .and .u64 (m : Int) 9223372036854775808) 9218868437227405312 = 9218868437227405312 := by
    have := bits_and_u64_nat m 9223372036854775808 (by rw [p64]; exact Nat.lt_trans h (by decide)) (by decide)
    have e0 : bits .and .u64 (m : Int) 9223372036854775808 = 0 := by
     refine Eq.trans this ?_;rw [show (9223372036854775808 : Nat) = 2 ^ 63 by decide, and_pow, Nat.testBit_lt_two_pow (Nat.lt_trans h (by decide))];rfl
    rw [e0];decide
   rw [hE];clear hE hm;go_enter Tryz.func224, Tryz.ntmps224;go_wp2;rw [frombits_any];go_simp;go_wp2;go_ret2;exact ⟨rfl, rfl⟩
  ·have hE : packEnd m e = .returned (.tuple #[.float .f64 (((e + 1075).toNat) * 2 ^ 52 + (m - 2 ^ 52)), .nilIface]) := by
    unfold packEnd NU.packN;rw [if_neg hm, if_neg (by omega), if_pos (by omega), show (e + 1074).toNat + 1 = (e + 1075).toNat by omega]
   have hb : bits .or .u64 (bits .andNot .u64 (m : Int) 4503599627370496) ((1075 + e) * 4503599627370496) = (((e + 1075).toNat * 2 ^ 52 + (m - 2 ^ 52) : Nat) : Int) := by
    rw [andNot52 h (by omega)];have hw : (1075 + e) * 4503599627370496 = (((e + 1075).toNat * 2 ^ 52 : Nat) : Int) := (by omega);rw [hw, or_high (by omega) (by omega)]
   rw [hE];have HB := hid hb;clear hb hE hm;go_enter Tryz.func224, Tryz.ntmps224;go_wp2;rw [HB.out, frombits_run];go_simp;go_wp2;go_ret2;exact ⟨rfl, rfl⟩
end Go.Proofs.YtlblkajnmdhmdaaGreatDoor
namespace Go.Proofs.YtlblkajnmdhmdaaGreatDoor
set_option linter.unusedVariables false
open Go.RowKit Lib
/-- The table of powers of ten lies in its block. -/
def P10 (w : World) : Prop := ∀ i : Nat, i < 696 → w.cell? ⟨15, i * 2, none⟩ = some (.int .u64 (NU.hiI i : Nat)) ∧ w.cell? ⟨15, i * 2 + 1, none⟩ = some (.int .u64 (NU.loI i : Nat))
set_option maxRecDepth 100000 in
theorem prescale_walk (b i : Nat) (e p lp s : Int) (w : World) (hT : P10 w) (hb : b ≠ 15) (hp : p + 348 = i) (hi : i < 696) (hs : -(e + lp + 3) = s) (he : -1000000 ≤ e ∧ e ≤ 1000000) (hlp : -1000000 ≤ lp ∧ lp ≤ 1000000)
  (x0 x1 : Int) (x2 : Int) (c0 : w.cell? ⟨b, 0, none⟩ = some (.int .u64 x0)) (c1 : w.cell? ⟨b, 1, none⟩ = some (.int .u64 x1)) (c2 : w.cell? ⟨b, 2, none⟩ = some (.int .i64 x2))
  (f0 : w.frozen? ⟨b, 0, none⟩ = false) (f1 : w.frozen? ⟨b, 1, none⟩ = false) (f2 : w.frozen? ⟨b, 2, none⟩ = false) :
  Calls Tryz.prog 202 #[.pointer (some ⟨b, 0, none⟩), .int .i64 e, .int .i64 p, .int .i64 lp] w fun r w' => r = .returned (.tuple #[]) ∧
   w' = ((w.setCell ⟨b, 0, none⟩ (.int .u64 (NU.hiI i : Nat))).setCell ⟨b, 1, none⟩ (.int .u64 (NU.loI i : Nat))).setCell ⟨b, 2, none⟩ (.int .i64 s) := by
 obtain ⟨t0, t1⟩ := hT i hi;obtain rfl : p = (i : Int) - 348 := (by omega);have hx : IntKind.i64.wrap ((i : Int) - 348 - -348) = i := (by rw [IntKind.wrap_i64]; omega);clear hp;go_enter Tryz.func202, Tryz.ntmps202;go_wp2
 go_end0
 exact ⟨rfl, rfl⟩
end Go.Proofs.YtlblkajnmdhmdaaGreatDoor
