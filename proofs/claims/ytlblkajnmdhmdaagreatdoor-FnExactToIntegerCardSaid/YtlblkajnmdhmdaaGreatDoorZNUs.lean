/-
  Walk: the library's unrounded scaling computes uscaleN.
-/
import Derived.Test.YtlblkajnmdhmdaaGreatDoorProg
import Derived.Test.YtlblkajnmdhmdaaGreatDoorZShelf
import Derived.Test.YtlblkajnmdhmdaaGreatDoorZNParse
import Derived.WalkKit
import Derived.WalkLawsBesides
import Derived.LoopTactic
import Derived.Outline
import Derived.Handy
import Derived.BigRegion
import Derived.BigQuiet
import Derived.RegionTactic
import Derived.Deep.RegionLaw
import Derived.Deep.QuietTactic
import Derived.StillTailTactics
import Derived.Laws.Shifts
import Derived.Laws.Bits64b
namespace Go.Proofs.YtlblkajnmdhmdaaGreatDoor
set_option linter.unusedVariables false
open Go.RowKit
theorem bool2_64 (b : Bool) (w : World) : Calls Tryz.prog 191 #[.bool b] w fun e w' => e = .returned (.int .u64 (if b then 1 else 0)) ∧ w' = w := by
 go_enter Tryz.func191, Tryz.ntmps191;cases b <;> go_wp2 <;> go_ret <;> exact ⟨rfl, rfl⟩
theorem bool2_k (b : Bool) (w : World) : Calls Tryz.prog 191 #[.bool b] w fun e w' => ∃ k : Nat, b.toNat = k ∧ e = .returned (.int .u64 k) ∧ w' = w := by
 refine (bool2_64 b w).mono ?_;rintro e w' ⟨rfl, rfl⟩;cases b
 ·exact ⟨0, rfl, rfl, rfl⟩
 ·exact ⟨1, rfl, rfl, rfl⟩
theorem and63 (s : Nat) (hs : s < 64) : bits .and .i64 (s : Int) 63 = s := by
 have : ∀ k : Fin 64, bits .and .i64 ((k.val : Nat) : Int) 63 = ((k.val : Nat) : Int) := (by decide);exact this ⟨s, hs⟩
theorem mul64_any {x y : Nat} (hx : x < 2 ^ 64) (hy : y < 2 ^ 64) (w : World) :
  Calls Tryz.prog 139 #[.int .u64 x, .int .u64 y] w fun e w' => ∃ H L : Nat, x * y / 2 ^ 64 = H ∧ x * y % 2 ^ 64 = L ∧ e = .returned (.tuple #[.int .u64 H, .int .u64 L]) ∧ w' = w := by
 have h : (2 : Nat) ^ 64 = 18446744073709551616 := (by decide);rw [h] at hx hy;refine (Tryz.bits_Mul64 x y hx hy w).mono ?_;rintro e w' ⟨rfl, rfl⟩;rw [h];exact ⟨_, _, rfl, rfl, rfl, rfl⟩
theorem shr_at (H s : Nat) (hs : s < 64) : (H : Int) / 2 ^ min (s : Int).toNat 64 = ((H / 2 ^ s : Nat) : Int) := by
 rw [Int.toNat_natCast, Nat.min_eq_left (by omega)];simp
theorem or_at (a b : Nat) (ha : a < 2 ^ 64) (hb : b < 2 ^ 64) : bits .or .u64 (a : Int) (b : Int) = ((a ||| b : Nat) : Int) := by
 have h : (2 : Nat) ^ 64 = 18446744073709551616 := (by decide);rw [h] at ha hb;exact bits_or_u64_nat a b ha hb
theorem quot_lt {x y H : Nat} (hx : x < 2 ^ 64) (hy : y < 2 ^ 64) (hH : x * y / 2 ^ 64 = H) : H < 2 ^ 64 - 1 := by
 have h1 : x * y ≤ (2 ^ 64 - 1) * (2 ^ 64 - 1) := Nat.mul_le_mul (by omega) (by omega);have hd := Nat.div_add_mod (x * y) (2 ^ 64);rw [hH] at hd;omega
theorem wrap_nat {a : Nat} (h : a < 2 ^ 64) : IntKind.u64.wrap (a : Int) = a := by
 rw [IntKind.wrap_u64];omega
theorem low_iff {H s q : Nat} (hH : H < 2 ^ 64) (hq : H / 2 ^ s = q) : (IntKind.u64.wrap ((q : Int) * 2 ^ s) != (H : Int)) = decide (H % 2 ^ s ≠ 0) := by
 have hd := Nat.div_add_mod H (2 ^ s);rw [hq, Nat.mul_comm] at hd;have e : ((q : Int) * 2 ^ s) = ((q * 2 ^ s : Nat) : Int) := (by simp);rw [e, wrap_nat (by omega)];by_cases h0 : H % 2 ^ s = 0
 ·rw [h0] at hd;rw [decide_eq_false (by simpa using h0)];simp;omega
 ·rw [decide_eq_true h0];simp;omega
theorem uscale_end1 {x hi lo s H q : Nat} (hx : x < 2 ^ 64) (hhi : hi < 2 ^ 64) (hH : x * hi / 2 ^ 64 = H) (hq : H / 2 ^ s = q) (hne : (IntKind.u64.wrap ((q : Int) * 2 ^ s) != (H : Int)) = true) :
  Ending.returned (Value.int .u64 (bits .or .u64 ((H : Int) / 2 ^ s) 1)) = Ending.returned (Value.int .u64 (NU.uscaleN x hi lo s)) := by
 have hHl := quot_lt hx hhi hH;rw [low_iff (by omega) hq] at hne;have hm : H % 2 ^ s ≠ 0 := (by simpa using hne);have e1 : (H : Int) / 2 ^ s = ((q : Nat) : Int) := (by rw [← hq]; simp);have hql : q ≤ H := (by rw [← hq]; exact Nat.div_le_self _ _);unfold NU.uscaleN;rw [hH, if_pos hm, hq, e1];have := or_at q 1 (by omega) (by decide);rw [← this];rfl
theorem uscale_end2 {x hi lo s H L q m2 k1 k2 : Nat} (hx : x < 2 ^ 64) (hhi : hi < 2 ^ 64) (hlo : lo < 2 ^ 64) (hx0 : 2 ^ 63 ≤ x) (hh0 : 2 ^ 63 ≤ hi) (hH : x * hi / 2 ^ 64 = H) (hL : x * hi % 2 ^ 64 = L) (hq : H / 2 ^ s = q) (hne : (IntKind.u64.wrap ((q : Int) * 2 ^ s) != (H : Int)) = false)
  (hm2 : x * lo / 2 ^ 64 = m2) (hk1 : (decide (L < m2)).toNat = k1) (hk2 : (decide (1 < IntKind.u64.wrap ((L : Int) - m2))).toNat = k2) :
  Ending.returned (Value.int .u64 (bits .or .u64 (IntKind.u64.wrap ((H : Int) - k1) / 2 ^ s) k2)) = Ending.returned (Value.int .u64 (NU.uscaleN x hi lo s)) := by
 have hHl := quot_lt hx hhi hH;have hml := quot_lt hx hlo hm2;have hLl : L < 2 ^ 64 := (by rw [← hL]; exact Nat.mod_lt _ (by decide));rw [low_iff (by omega) hq] at hne;have hm : ¬ H % 2 ^ s ≠ 0 := (by simpa using hne)
 have hH1 : 1 ≤ H := by
  have : 2 ^ 63 * 2 ^ 63 ≤ x * hi := Nat.mul_le_mul hx0 hh0;have hd := Nat.div_add_mod (x * hi) (2 ^ 64);rw [hH, hL] at hd;omega
 have fin : ∀ a k : Nat, a ≤ H → k ≤ 1 → (bits .or .u64 ((a : Int) / 2 ^ s) k) = ((a / 2 ^ s ||| k : Nat) : Int) := fun a k ha hk => by
  have e1 : (a : Int) / 2 ^ s = ((a / 2 ^ s : Nat) : Int) := (by simp);have : a / 2 ^ s ≤ a := Nat.div_le_self _ _;rw [e1, or_at _ _ (by omega) (by omega)]
 unfold NU.uscaleN;rw [hH, hL, hm2, if_neg hm];by_cases hlt : L < m2
 ·rw [decide_eq_true hlt] at hk1;have hw : 1 < IntKind.u64.wrap ((L : Int) - m2) := (by rw [IntKind.wrap_u64]; omega);rw [decide_eq_true hw] at hk2;subst hk1; subst hk2
  rw [if_pos hlt];have e : ((H : Int) - (true.toNat : Nat)) = ((H - 1 : Nat) : Int) := (by show (H : Int) - 1 = _; omega);rw [e, wrap_nat (by omega), fin _ _ (by omega) (by decide)];rfl
 ·rw [decide_eq_false hlt] at hk1;subst hk1;rw [if_neg hlt];have e : ((H : Int) - (false.toNat : Nat)) = (H : Int) := (by show (H : Int) - 0 = _; omega);have e2 : ((L : Int) - m2) = ((L - m2 : Nat) : Int) := (by omega);rw [e2, wrap_nat (by omega)] at hk2;rw [e, wrap_nat (by omega)];by_cases h1 : 1 < L - m2
  ·rw [decide_eq_true (by omega)] at hk2;subst hk2;rw [if_pos h1, fin _ _ (Nat.le_refl _) (by decide)];rfl
  ·rw [decide_eq_false (by omega)] at hk2;subst hk2;rw [if_neg h1, fin _ _ (Nat.le_refl _) (by decide)];rfl
set_option maxRecDepth 100000 in
set_option maxHeartbeats 4000000 in
theorem uscale_walk (x hi lo s b : Nat) (w : World) (hx : x < 2 ^ 64) (hhi : hi < 2 ^ 64) (hlo : lo < 2 ^ 64) (hs : s < 64) (hx0 : 2 ^ 63 ≤ x) (hh0 : 2 ^ 63 ≤ hi)
  (c0 : w.cell? ⟨b, 0, none⟩ = some (.int .u64 hi)) (c1 : w.cell? ⟨b, 1, none⟩ = some (.int .u64 lo)) (c2 : w.cell? ⟨b, 2, none⟩ = some (.int .i64 s)) :
  Calls Tryz.prog 204 #[.int .u64 x, .pointer (some ⟨b, 0, none⟩)] w fun e w' => e = .returned (.int .u64 (NU.uscaleN x hi lo s)) ∧ ∃ n, w' = w.drewN n := by
 go_enter Tryz.func204, Tryz.ntmps204
 go_wp2_with (go_at_call 139; refine (mul64_any hx hhi _).mono ?_; rintro e w' ⟨H, L, hH, hL, rfl, rfl⟩)
 have hsr := shr_at H s hs;obtain ⟨q, hq⟩ : ∃ q, H / 2 ^ s = q := ⟨_, rfl⟩;rw [hq] at hsr;rw [and63 s hs, shift_shr_any _ _ _ _ (by omega), show IntKind.u64.bits = 64 from rfl, hsr];clear hsr;go_simp
 go_wp2_with fail
 ·have hne : (IntKind.u64.wrap ((q : Int) * 2 ^ s) != (H : Int)) = true := (by assumption);go_ret;refine ⟨?_, 0, rfl⟩;show Ending.returned (Value.int .u64 (bits .or .u64 ((H : Int) / 2 ^ s) 1)) = _;exact uscale_end1 hx hhi hH hq hne
 ·have hne : (IntKind.u64.wrap ((q : Int) * 2 ^ s) != (H : Int)) = false := (by assumption);refine (mul64_any hx hlo _).mono ?_;rintro e w' ⟨m2, l2, hm2, hl2, rfl, rfl⟩
  go_wp2_with (go_at_call 191; refine (bool2_k _ _).mono ?_; rintro e w' ⟨k1, hk1, rfl, rfl⟩)
  go_region_with (go_at_call 191; refine (bool2_k _ _).mono ?_; rintro e w' ⟨k2, hk2, rfl, rfl⟩)
  go_wp2_with fail
  go_ret;refine ⟨?_, 1, rfl⟩;show Ending.returned (Value.int .u64 (bits .or .u64 (IntKind.u64.wrap ((H : Int) - k1) / 2 ^ s) k2)) = _;exact uscale_end2 hx hhi hlo hx0 hh0 hH hL hq hne hm2 hk1 hk2
end Go.Proofs.YtlblkajnmdhmdaaGreatDoor
