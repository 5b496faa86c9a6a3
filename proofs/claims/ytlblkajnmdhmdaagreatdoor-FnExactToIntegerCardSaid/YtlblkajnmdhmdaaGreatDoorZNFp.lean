/-
  Walk: the library's decimal.floatBits.
-/
import Derived.Test.YtlblkajnmdhmdaaGreatDoorZNFo
namespace Go.Proofs.YtlblkajnmdhmdaaGreatDoor
set_option linter.unusedVariables false
open Go.RowKit Lib Go.Op
theorem and2047 {q : Nat} (h : q < 2048) : bits .and .i64 (q : Int) 2047 = (q : Int) := by
 have : ∀ k : Fin 2048, bits .and .i64 ((k.val : Nat) : Int) 2047 = ((k.val : Nat) : Int) := (by decide +kernel);exact this ⟨q, h⟩
theorem fb_bits {M q : Nat} (hM : M < 2 ^ 64) (hq : q < 2048) : bits .or .u64 (bits .and .u64 (M : Int) 4503599627370495) (IntKind.u64.wrap (IntKind.u64.wrap (bits .and .i64 (q : Int) 2047) * 4503599627370496)) = ((q * 2 ^ 52 + M % 2 ^ 52 : Nat) : Int) := by
 have h1 : bits .and .u64 (M : Int) 4503599627370495 = ((M % 2 ^ 52 : Nat) : Int) := by
  have := bits_and_u64_nat M (2 ^ 52 - 1) (by rw [p64]; exact hM) (by decide);rw [Nat.and_two_pow_sub_one_eq_mod] at this;exact this
 have h2 : IntKind.u64.wrap (IntKind.u64.wrap (q : Int) * 4503599627370496) = ((q * 2 ^ 52 : Nat) : Int) := by
  rw [IntKind.wrap_u64, IntKind.wrap_u64];omega
 rw [h1, and2047 hq, h2, or_high (Nat.mod_lt _ (by decide)) (by omega)]
/-- What floatBits answers. -/
def fbEnd (W : Nat) : Ending := .returned (.tuple #[.int .u64 W, .bool (decide (¬ W < 2047 * 2 ^ 52))])
theorem addr_zero (a : Addr) : a.add 0 = a := by
 unfold Addr.add;split <;> simp_all
theorem fb_fin {Wd q M : Nat} {m x : Int} (hW : Wd = q * 2 ^ 52 + M % 2 ^ 52) (hq : q < 2047) (hM : M < 2 ^ 64) (hx : x = q) (hm : m = M) :
  Ending.returned (.tuple #[.int .u64 (bits .or .u64 (bits .and .u64 m 4503599627370495) (IntKind.u64.wrap (IntKind.u64.wrap (bits .and .i64 x 2047) * 4503599627370496))), .bool false]) = fbEnd Wd := by
 subst hx;subst hm;have h := Nat.mod_lt M (show 0 < 2 ^ 52 by decide);rw [fb_bits hM (by omega), ← hW];unfold fbEnd;rw [decide_eq_false (by rw [hW]; omega)]
theorem fb_w1 {p M : Nat} (hp : p < 2046) (h1 : 4503599627370496 ≤ M) (h2 : M < 9007199254740992) : min (p * 2 ^ 52 + M) (2047 * 2 ^ 52) = (p + 1) * 2 ^ 52 + M % 2 ^ 52 := by
 obtain ⟨a, rfl⟩ : ∃ a, M = 2 ^ 52 + a := ⟨M - 2 ^ 52, by omega⟩;have e : (2 ^ 52 + a) % 2 ^ 52 = a := (by rw [Nat.add_mod_left]; exact Nat.mod_eq_of_lt (by omega));rw [e, Nat.min_eq_left (by omega), Nat.add_mul, Nat.one_mul, Nat.add_assoc]
theorem fb_w2 {p : Nat} (hp : p < 2045) : min (p * 2 ^ 52 + 9007199254740992) (2047 * 2 ^ 52) = (p + 2) * 2 ^ 52 + 4503599627370496 % 2 ^ 52 := by
 rw [Nat.min_eq_left (by omega)];omega
theorem fb_w0 {M : Nat} (h2 : M < 4503599627370496) : min (0 * 2 ^ 52 + M) (2047 * 2 ^ 52) = 0 * 2 ^ 52 + M % 2 ^ 52 := by
 rw [Nat.mod_eq_of_lt (by omega), Nat.min_eq_left (by omega)]
/-- The exponent 310, kept shut. -/
@[irreducible] def e310 : Nat := 310
theorem e310_eq : e310 = 310 := by unfold e310; rfl
@[irreducible] def e1040 : Nat := 1040
theorem e1040_eq : e1040 = 1040 := by unfold e1040; rfl
/-- The decimal while it is shifted down to below 1. -/
def Dn (W w : World) (b A0 B0 e nd : Nat) (dp hi : Int) : Prop :=
 DecI W w b A0 (B0 * 2 ^ e) e (B0 * 2 ^ e ∣ A0 * 10 ^ e450) (fun _ nd' dp' => dp' ≤ hi ∧ ((e = 0 ∧ dp' = dp ∧ nd' = nd) ∨ (0 < dp ∧ -28 ≤ dp')))
theorem down_step (W w : World) (b A0 B0 e nd k : Nat) (dp dp1 : Int) (N1 nd1 : Nat) (tr1 : Bool) (C1 : Array Value) (hw : DecW W w b C1) (hr : RawC C1 nd1 dp1 tr1) (hd : DigC C1 N1 nd1) (hi : DInv A0 (B0 * 2 ^ e) e (B0 * 2 ^ e ∣ A0 * 10 ^ e450) N1 nd1 dp1 tr1)
  (hB : 0 < B0) (hk : 1 ≤ k ∧ k ≤ 27) (h1 : 0 < dp1) (h2 : dp1 ≤ 310) (hdp : 0 < dp) :
  Calls Tryz.prog 170 #[.pointer (some ⟨b, 0, none⟩), .int .i64 (-(k : Int))] w fun e' w' => e' = .returned (.tuple #[]) ∧ Dn W w' b A0 B0 (e + k) nd dp 310 := by
 have hBe : 0 < B0 * 2 ^ e := Nat.mul_pos hB (Nat.two_pow_pos _);have e1 : B0 * 2 ^ e * 2 ^ k = B0 * 2 ^ (e + k) := (by rw [Nat.mul_assoc, ← Nat.pow_add]);refine (shiftR W w b k N1 nd1 A0 (B0 * 2 ^ e) e _ (B0 * 2 ^ e * 2 ^ k ∣ A0 * 10 ^ e450) dp1 tr1 C1 hw hr hd hi (by omega) (by omega) hBe (fun h => Nat.dvd_trans (Nat.dvd_mul_right _ _) h) id).mono ?_;rintro r w' ⟨rfl, h⟩;refine ⟨rfl, ?_⟩;unfold Dn;rw [e1] at h;refine h.mono (Nat.le_refl _) id ?_;rintro N' nd' dp' ⟨a1, a2, a3⟩;exact ⟨by omega, Or.inr ⟨hdp, by omega⟩⟩
/-- How far it can have been shifted. -/
theorem down_bound {A0 B0 e j : Nat} {G : Prop} {N1 nd1 : Nat} {dp1 : Int} {tr1 : Bool} (hi : DInv A0 (B0 * 2 ^ e) j G N1 nd1 dp1 tr1) (hB : 0 < B0) (h1 : 0 < dp1) (hA : A0 < B0 * 10 ^ e310) : e < 1040 := by
 have h8 := hi.nd8;have h := hi.ge_pow (h1 := 0) (h2 := 0) (by omega) (by omega) (by decide);rw [Nat.pow_zero, Nat.mul_one, Nat.mul_one] at h;have h3 : B0 * 2 ^ e < B0 * 2 ^ e1040 := Nat.lt_of_le_of_lt h (Nat.lt_of_lt_of_le hA (Nat.mul_le_mul_left _ (ten_le_two (by rw [e310_eq, e1040_eq]; decide))));have := (Nat.pow_lt_pow_iff_right (by decide : 1 < 2)).1 (Nat.lt_of_mul_lt_mul_left h3)
 rwa [e1040_eq] at this
/-- Bounds on the fraction when it lies below 1. -/
structure Side (A1 B1 e : Nat) : Prop where
 bp : 0 < B1
 ub : ∃ u, u ≤ 1450 ∧ B1 ≤ 2 ^ u
 lo : ∃ h, B1 ≤ A1 * 10 ^ h ∧ (h ≤ 29 ∨ (h ≤ 331 ∧ e = 0 ∧ B1 ∣ A1 * 10 ^ e450))
theorem kX_big {n : Nat} (h : n ≤ 799) : 10 ^ n ≤ kX := by
 rw [kX_eq];exact Nat.pow_le_pow_right (by decide) (by rw [e799_eq]; exact h)
/-- The decimal while it is shifted up to a half or more. -/
def Up (W w : World) (b A1 B1 e s : Nat) : Prop :=
 DecI W w b (A1 * 2 ^ s) B1 (e + s) (B1 ∣ A1 * 10 ^ e450 ∨ B1 ∣ A1 * 2 ^ s * 10 ^ (450 - s)) (fun _ nd' dp' => dp' ≤ 0 ∧ -331 ≤ dp' ∧ -850 ≤ dp' - nd')
theorem Dn.up {W w : World} {b A0 B0 e nd : Nat} {dp : Int} (h : Dn W w b A0 B0 e nd dp 0) (hB : 10 ^ (-(dp - nd)).toNat = B0) (hnd : nd ≤ 100) (hdp : -330 ≤ dp) (he : e ≤ 1070) : Side A0 (B0 * 2 ^ e) e ∧ Up W w b A0 (B0 * 2 ^ e) e 0 := by
 obtain ⟨N1, nd1, dp1, tr1, C1, hw1, hr1, hd1, hi1, hp1, hp2⟩ := h;have hB0 : 0 < B0 := (by rw [← hB]; exact Nat.pow_pos (by decide));have hBe : 0 < B0 * 2 ^ e := Nat.mul_pos hB0 (Nat.two_pow_pos _);have h8 := hi1.nd8
 have hup : Up W w b A0 (B0 * 2 ^ e) e 0 := ⟨N1, nd1, dp1, tr1, C1, hw1, hr1, hd1, by
  rw [Nat.pow_zero, Nat.mul_one];refine hi1.weak (Nat.le_refl _) fun g => ?_
  rcases g with g | g
  ·exact g
  ·rw [Nat.sub_zero] at g;rw [e450_eq]
   exact g, by omega⟩
 rcases hp2 with ⟨he0, hd0, hn0⟩ | ⟨h0, h28⟩
 ·subst he0;subst hd0;subst hn0;rw [Nat.pow_zero, Nat.mul_one] at hBe hi1 hup ⊢;have hx : (-(dp1 - nd1)).toNat ≤ 430 := (by omega);refine ⟨⟨hBe, ⟨10 * (((-(dp1 - nd1)).toNat + 2) / 3), by omega, by rw [← hB]; exact ten_le_two (Nat.le_refl _)⟩, 331, ?_, Or.inr ⟨Nat.le_refl _, rfl, ?_⟩⟩, hup⟩
  ·have := hi1.ge_pow (h1 := 331) (h2 := 0) (by omega) (by omega) (by decide);rw [Nat.pow_zero, Nat.mul_one] at this;exact this
  ·rw [← hB];exact Nat.dvd_trans (Nat.pow_dvd_pow 10 (by rw [e450_eq]; omega)) (Nat.dvd_mul_left _ _)
 ·have hx : (-(dp - nd)).toNat ≤ 99 := (by omega);obtain ⟨u, hu⟩ : ∃ u, u = 340 := ⟨_, rfl⟩;refine ⟨⟨hBe, ⟨u + e, by omega, ?_⟩, 29, ?_, Or.inl (Nat.le_refl _)⟩, hup⟩
  ·rw [Nat.pow_add, ← hB];exact Nat.mul_le_mul_right _ (ten_le_two (by omega))
  ·have := hi1.ge_pow (h1 := 29) (h2 := 0) (by omega) (by omega) (by decide);rw [Nat.pow_zero, Nat.mul_one] at this;exact this
/-- How far it can have been shifted up. -/
theorem up_bound {A1 B1 e s j : Nat} {G : Prop} {N1 nd1 : Nat} {dp1 : Int} {tr1 : Bool} (hS : Side A1 B1 e) (hi : DInv (A1 * 2 ^ s) B1 j G N1 nd1 dp1 tr1) (hd : dp1 ≤ 0) (hn : -850 ≤ dp1 - nd1) (hj : j ≤ 4000) : s ≤ 1110 ∧ (s ≤ 100 ∨ (e = 0 ∧ B1 ∣ A1 * 10 ^ e450)) := by
 obtain ⟨h, hB, hh⟩ := hS.lo
 have hj2 : 2 * j ≤ kX := by
  have := kX_big (n := 4) (by decide);omega
 have h1 := hi.lt_pow (k := 0) (by omega) (by omega) hS.bp hj2;rw [Nat.pow_zero, Nat.mul_one] at h1
 have hA : 0 < A1 := by
  apply Nat.pos_of_ne_zero;intro h0;have := hS.bp;rw [h0, Nat.zero_mul] at hB;omega
 have h2 : A1 * 2 ^ s < A1 * 2 ^ (1 + 10 * ((h + 2) / 3)) := by
  refine Nat.lt_of_lt_of_le h1 ?_;rw [Nat.pow_add, Nat.pow_one, Nat.mul_left_comm];exact Nat.mul_le_mul_left _ (Nat.le_trans hB (Nat.mul_le_mul_left _ (ten_le_two (Nat.le_refl _))))
 have h3 := (Nat.pow_lt_pow_iff_right (by decide : 1 < 2)).1 (Nat.lt_of_mul_lt_mul_left h2)
 rcases hh with hh | ⟨hh, he, hd⟩
 ·exact ⟨by omega, Or.inl (by omega)⟩
 ·exact ⟨by omega, Or.inr ⟨he, hd⟩⟩
theorem up_step (W w : World) (b A1 B1 e s k : Nat) (dp1 : Int) (N1 nd1 : Nat) (tr1 : Bool) (C1 : Array Value) (hw : DecW W w b C1) (hr : RawC C1 nd1 dp1 tr1) (hd : DigC C1 N1 nd1)
  (hi : DInv (A1 * 2 ^ s) B1 (e + s) (B1 ∣ A1 * 10 ^ e450 ∨ B1 ∣ A1 * 2 ^ s * 10 ^ (450 - s)) N1 nd1 dp1 tr1) (hB : 0 < B1) (hk : 1 ≤ k ∧ k ≤ 27) (h1 : dp1 ≤ 0 ∧ -331 ≤ dp1 ∧ -850 ≤ dp1 - nd1) (hV : 2 ^ k * valX N1 nd1 dp1 < zX)
  (hs : s + k ≤ 450 ∨ B1 ∣ A1 * 10 ^ e450) (hT : SlowT W b) (hb : b ≤ W.heap.size) :
  Calls Tryz.prog 170 #[.pointer (some ⟨b, 0, none⟩), .int .i64 (k : Int)] w fun e' w' => e' = .returned (.tuple #[]) ∧ Up W w' b A1 B1 e (s + k) := by
 have e1 : A1 * 2 ^ s * 2 ^ k = A1 * 2 ^ (s + k) := (by rw [Nat.mul_assoc, ← Nat.pow_add]);refine (shiftL W w b k N1 nd1 (A1 * 2 ^ s) B1 (e + s) _ (B1 ∣ A1 * 10 ^ e450 ∨ B1 ∣ A1 * 2 ^ (s + k) * 10 ^ (450 - (s + k))) dp1 tr1 C1 hw hr hd hi (by omega) hT.ch hb (by omega) hB (fun g => ?_) (fun g => ?_)).mono ?_
 ·rcases g with g | g
  ·exact Or.inl g
  ·rcases hs with hs | hs
   ·refine Or.inr (Nat.dvd_trans g ?_);rw [Nat.pow_add, ← Nat.mul_assoc, Nat.mul_assoc (A1 * 2 ^ s)];refine Nat.mul_dvd_mul_left _ ?_;have e2 : 10 ^ (450 - s) = 10 ^ k * 10 ^ (450 - (s + k)) := (by rw [← Nat.pow_add]; exact congrArg _ (by omega));rw [e2];exact Nat.mul_dvd_mul_right ⟨5 ^ k, by rw [← Nat.mul_pow]⟩ _
   ·exact Or.inl hs
 ·rw [e1]
  rcases g with g | g
  ·refine Nat.dvd_trans g ?_;rw [Nat.mul_right_comm];exact Nat.dvd_mul_right _ _
  ·exact Nat.dvd_trans g (Nat.mul_dvd_mul_left _ (Nat.pow_dvd_pow 10 (by rw [e450_eq]; omega)))
 ·rintro r w' ⟨rfl, h⟩;refine ⟨rfl, ?_⟩;unfold Up;rw [e1] at h;obtain ⟨N', nd', dp', tr', C', g1, g2, g3, g4, a1, a2, a3, a4, a5⟩ := h;have hn8 := g4.nd8;refine ⟨N', nd', dp', tr', C', g1, g2, g3, g4.weak (by omega) id, ?_, by omega, by omega⟩;apply Int.not_lt.1;intro hpos;have := valX_ge g4.ge g4.nd1 (dp := dp') (by omega) (e := e2000) (by rw [e2000_eq]; omega);rw [← zX_eq] at this;omega
theorem up_v1 {N1 nd1 i : Nat} (hlt : N1 < 10 ^ nd1) (hi : 1 ≤ i) (hi2 : i ≤ 400) (hb : -1000 ≤ -(i : Int) - nd1) : 2 ^ powT i * valX N1 nd1 (-(i : Int)) < zX := by
 have h1 := valX_lt hlt hb (e := e2000 - i) (by rw [e2000_eq]; omega);have h2 := powT_ten i hi;have e : zX = 10 ^ i * 10 ^ (e2000 - i) := (by rw [zX_eq, ← Nat.pow_add]; exact congrArg _ (by rw [e2000_eq]; omega));rw [e];exact Nat.lt_of_le_of_lt (Nat.mul_le_mul_right _ h2) (Nat.mul_lt_mul_of_pos_left h1 (Nat.pow_pos (by decide)))
theorem up_v0 {N1 nd1 : Nat} (h1 : 1 ≤ nd1) (h8 : nd1 ≤ 800) (hlt : N1 < 5 * 10 ^ (nd1 - 1)) : 2 ^ powT 0 * valX N1 nd1 0 < zX := by
 unfold valX
 have e1 : zX = 10 * 10 ^ (nd1 - 1) * 10 ^ (0 - (nd1 : Int) + 2000).toNat := by
  rw [zX_eq, ← Nat.pow_add_one', ← Nat.pow_add]
  exact congrArg (10 ^ ·) (by rw [e2000_eq]; omega)
 rw [e1, ← Nat.mul_assoc];apply Nat.mul_lt_mul_of_pos_right _ (Nat.pow_pos (by decide));show 2 * N1 < _;omega
theorem lead_eq {N1 nd1 g : Nat} (h1 : 1 ≤ nd1) (hlt : N1 < 10 ^ nd1) (hg : N1 / 10 ^ (nd1 - 1) % 10 = g) : (g < 5 → N1 < 5 * 10 ^ (nd1 - 1)) ∧ (5 ≤ g → 5 * 10 ^ (nd1 - 1) ≤ N1) := by
 have e : 10 ^ nd1 = 10 ^ (nd1 - 1) * 10 := (by rw [← Nat.pow_succ]; exact congrArg _ (by omega));rw [e] at hlt;have h2 : N1 / 10 ^ (nd1 - 1) < 10 := Nat.div_lt_of_lt_mul hlt;rw [Nat.mod_eq_of_lt h2] at hg;have hp : 0 < 10 ^ (nd1 - 1) := Nat.pow_pos (by decide);refine ⟨fun h => ?_, fun h => ?_⟩
 ·exact (Nat.div_lt_iff_lt_mul hp).1 (by omega)
 ·exact (Nat.le_div_iff_mul_le hp).1 (by omega)
/-- At the end it lies between a half and 1. -/
theorem up_end {A B j : Nat} {G : Prop} {N1 nd1 : Nat} {tr1 : Bool} (hi : DInv A B j G N1 nd1 0 tr1) (hB : 0 < B) (hg : 5 * 10 ^ (nd1 - 1) ≤ N1) (hG : 2 * A = 2 * B → G) (hk : (2 * B + 1) * j < kX) : B ≤ 2 * A ∧ A < B := by
 have hz := zX_pos;have h8 := hi.nd8;have h1 := hi.nd1
 have hV : zX ≤ 2 * valX N1 nd1 0 ∧ valX N1 nd1 0 < zX := by
  unfold valX
  have e1 : zX = 10 * 10 ^ (nd1 - 1) * 10 ^ (0 - (nd1 : Int) + 2000).toNat := by
   rw [zX_eq, ← Nat.pow_add_one', ← Nat.pow_add]
   exact congrArg (10 ^ ·) (by rw [e2000_eq]; omega)
  have e2 : zX = 10 ^ nd1 * 10 ^ (0 - (nd1 : Int) + 2000).toNat := by
   rw [zX_eq, ← Nat.pow_add]
   exact congrArg (10 ^ ·) (by rw [e2000_eq]; omega)
  refine ⟨?_, ?_⟩
  ·rw [e1, ← Nat.mul_assoc 2];exact Nat.mul_le_mul_right _ (by omega)
  ·rw [e2];exact Nat.mul_lt_mul_of_pos_right hi.lt (Nat.pow_pos (by decide))
 refine ⟨?_, ?_⟩
 ·apply Nat.le_of_mul_le_mul_right (c := zX) _ hz;have := Nat.mul_le_mul_right B hV.1;have h3 := hi.up;rw [Nat.mul_assoc 2] at this;rw [Nat.mul_assoc 2, Nat.mul_comm B];omega
 ·have h3 := hi.bound (c := 2) hB hG hk;apply Nat.lt_of_not_le;intro h4;have := h3.1 (by omega);omega
theorem mul_swap (a b c d : Nat) : a * b * (c * d) = a * c * (d * b) := by grind
theorem mul_swap2 (a b c d : Nat) : a * (b * c) * d = a * b * (d * c) := by grind
theorem kbound {B c j u : Nat} (hB : B ≤ 2 ^ u) (hu : u ≤ 1600) (hc : c ≤ 2 ^ 56) (hj : j ≤ 4000) : (c * B + 1) * j < kX := by
 have h1 : c * B ≤ 2 ^ (56 + u) := (by rw [Nat.pow_add]; exact Nat.mul_le_mul hc hB);have hp : 0 < 2 ^ (56 + u) := Nat.two_pow_pos _;have h2 : (c * B + 1) * j ≤ 2 * 2 ^ (56 + u) * 4000 := Nat.mul_le_mul (by omega) hj;have h3 : 2 * 2 ^ (56 + u) * 4000 < 2 ^ (56 + u + 13) := (by rw [Nat.pow_add _ _ 13]; omega);have h4 : 2 ^ (56 + u + 13) ≤ kX := (by rw [kX_eq]; exact two_le_ten (by rw [e799_eq]; omega));exact Nat.lt_of_lt_of_le (Nat.lt_of_le_of_lt h2 h3) h4
/-- The decimal ahead of the last shift: what it stands for, times 2 ^ 53, is to be rounded; p is the word's place. -/
structure FinA (A0 B0 p A3 B3 j : Nat) : Prop where
 bp : 0 < B3
 eq : A3 * 2 ^ 53 * (B0 * 2 ^ p) = A0 * NU.one74 * B3
 half : p = 0 ∨ B3 ≤ 2 * A3
 one : A3 < B3
 ub : ∃ u, u ≤ 1600 ∧ B3 ≤ 2 ^ u
 j3 : j ≤ 3000
def FinI (W w : World) (b A0 B0 p : Nat) : Prop := ∃ A3 B3 j, FinA A0 B0 p A3 B3 j ∧ DecI W w b A3 B3 j (∃ c, 2 * (A3 * 2 ^ 53) = c * B3) (fun _ nd' dp' => -900 ≤ dp' - nd' ∧ dp' ≤ 20 ∧ -200 ≤ dp')
/-- Behind the second loop: no denormal. -/
theorem fin_plain {W w : World} {b A0 B0 B1 e s p : Nat} (hSI : Side A0 B1 e) (hB1 : B0 * 2 ^ e = B1) (hB0 : 0 < B0) (he : e ≤ 1070) (hs : s ≤ 1110) (hs2 : s ≤ 100 ∨ (e = 0 ∧ B1 ∣ A0 * 10 ^ e450))
  (hI : DecI W w b (A0 * 2 ^ s) B1 (e + s) (B1 ∣ A0 * 10 ^ e450 ∨ B1 ∣ A0 * 2 ^ s * 10 ^ (450 - s)) (fun N1 nd1 dp' => dp' = 0 ∧ 5 * 10 ^ (nd1 - 1) ≤ N1)) :
  (B1 ≤ 2 * (A0 * 2 ^ s) ∧ A0 * 2 ^ s < B1) ∧ (e + 1021 = p + s → FinI W w b A0 B0 p) := by
 obtain ⟨N1, nd1, dp1, tr1, C1, hw1, hr1, hd1, hi1, hdz, hg⟩ := hI;subst hdz;obtain ⟨u, hu, hB⟩ := hSI.ub;have h8 := hi1.nd8;have hends := up_end hi1 hSI.bp hg (fun h => Or.inr ⟨10 ^ (450 - s), by rw [show A0 * 2 ^ s = B1 by omega]⟩) (kbound hB (by omega) (by decide) (by omega));refine ⟨hends, fun hp => ⟨A0 * 2 ^ s, B1, e + s, ⟨hSI.bp, ?_, Or.inr hends.1, hends.2, ⟨u, by omega, hB⟩, by omega⟩, N1, nd1, 0, tr1, C1, hw1, hr1, hd1, hi1.weak (Nat.le_refl _) ?_, by omega, by omega, by omega⟩⟩
 ·rw [NU.one74_eq, ← hB1]
  have e1 : 2 ^ s * 2 ^ 53 * 2 ^ p = 2 ^ NU.e74 * 2 ^ e := by
   rw [← Nat.pow_add, ← Nat.pow_add, ← Nat.pow_add];exact congrArg _ (by rw [NU.e74_eq]; omega)
  calc A0 * 2 ^ s * 2 ^ 53 * (B0 * 2 ^ p) = A0 * B0 * (2 ^ s * 2 ^ 53 * 2 ^ p) := by generalize 2 ^ 53 = x; grind
   _ = A0 * B0 * (2 ^ NU.e74 * 2 ^ e) := by rw [e1]
   _ = A0 * 2 ^ NU.e74 * (B0 * 2 ^ e) := by grind
 ·rintro ⟨c, hc⟩
  rcases hs2 with hs2 | hs2
  ·refine Or.inr (Nat.dvd_trans (⟨c, ?_⟩ : B1 ∣ A0 * 2 ^ s * 2 ^ 54) (Nat.mul_dvd_mul_left _ ?_))
   ·rw [Nat.mul_comm B1, ← hc, Nat.mul_left_comm, ← Nat.pow_succ']
   ·exact Nat.dvd_trans ⟨5 ^ 54, by rw [← Nat.mul_pow]⟩ (Nat.pow_dvd_pow 10 (by omega))
  ·exact Or.inl hs2.2
/-- .. and a denormal: the shift to the right. -/
theorem fin_den (W w : World) (b A0 B0 B1 s n : Nat) (hSI : Side A0 B1 0) (hB1 : B0 = B1) (hs : s ≤ 1110) (hn : s = n + 1021) (hn1 : 1 ≤ n) (hdiv : B1 ∣ A0 * 10 ^ e450) (hone : A0 * 2 ^ s < B1)
  (hI : DecI W w b (A0 * 2 ^ s) B1 (0 + s) (B1 ∣ A0 * 10 ^ e450 ∨ B1 ∣ A0 * 2 ^ s * 10 ^ (450 - s)) (fun N1 nd1 dp' => dp' = 0 ∧ 5 * 10 ^ (nd1 - 1) ≤ N1)) :
  Calls Tryz.prog 170 #[.pointer (some ⟨b, 0, none⟩), .int .i64 (-(n : Int))] w fun e' w' => e' = .returned (.tuple #[]) ∧ FinI W w' b A0 B0 0 := by
 obtain ⟨N1, nd1, dp1, tr1, C1, hw1, hr1, hd1, hi1, hdz, hg⟩ := hI;subst hdz;subst hB1;obtain ⟨u, hu, hB⟩ := hSI.ub;refine (shiftR W w b n N1 nd1 (A0 * 2 ^ s) B0 (0 + s) _ (∃ c, 2 * (A0 * 2 ^ s * 2 ^ 53) = c * (B0 * 2 ^ n)) 0 tr1 C1 hw1 hr1 hd1 hi1 (by omega) (by omega) hSI.bp (fun _ => Or.inl hdiv) (fun _ => ?_)).mono ?_
 ·obtain ⟨t, ht⟩ := hdiv;refine ⟨2 ^ (s - n) * t, ?_⟩;have e1 : 2 ^ s = 2 ^ n * 2 ^ (s - n) := (by rw [← Nat.pow_add]; exact congrArg _ (by omega));rw [e1];generalize 2 ^ n = x;generalize 2 ^ (s - n) = y
  calc A0 * (x * y) * 10 ^ e450 = A0 * 10 ^ e450 * (x * y) := Nat.mul_right_comm _ _ _
   _ = B0 * t * (x * y) := by rw [ht]
   _ = B0 * x * (y * t) := mul_swap _ _ _ _
 ·rintro r w' ⟨rfl, h⟩;refine ⟨rfl, A0 * 2 ^ s, B0 * 2 ^ n, 0 + s + n, ⟨Nat.mul_pos hSI.bp (Nat.two_pow_pos _), ?_, Or.inl rfl, Nat.lt_of_lt_of_le hone (Nat.le_mul_of_pos_right _ (Nat.two_pow_pos _)), ⟨u + n, by omega, by rw [Nat.pow_add]; exact Nat.mul_le_mul_right _ hB⟩, by omega⟩, ?_⟩
  ·rw [NU.one74_eq]
   have e1 : 2 ^ s * 2 ^ 53 = 2 ^ NU.e74 * 2 ^ n := by
    rw [← Nat.pow_add, ← Nat.pow_add];exact congrArg _ (by rw [NU.e74_eq]; omega)
   rw [Nat.mul_assoc A0, e1, Nat.pow_zero, Nat.mul_one];exact mul_swap2 _ _ _ _
  ·obtain ⟨N', nd', dp', tr', C', g1, g2, g3, g4, a1, a2, a3⟩ := h;have h8 := g4.nd8;exact ⟨N', nd', dp', tr', C', g1, g2, g3, g4, by omega, by omega, by omega⟩
/-- The last shift, and what is rounded then. -/
def RndI (W w : World) (b M : Nat) : Prop := ∃ (N nd : Nat) (dp : Int) (tr : Bool) (C : Array Value), DecW W w b C ∧ RawC C nd dp tr ∧ DigC C N nd ∧ nd ≤ 800 ∧ N < 10 ^ nd ∧ -2000 ≤ dp ∧ dp ≤ 18 ∧ preP N nd dp.toNat + (if upI N nd dp tr = true then 1 else 0) = M
theorem fin_last (W w : World) (b A0 B0 p : Nat) (hI : FinI W w b A0 B0 p) (hB0 : 0 < B0) (hT : SlowT W b) (hb : b ≤ W.heap.size) :
  ∃ M : Nat, NU.word A0 B0 = min (p * 2 ^ 52 + M) (2047 * 2 ^ 52) ∧ M ≤ 2 ^ 53 ∧ (p = 0 ∨ 2 ^ 52 ≤ M) ∧
  ∀ n, Calls Tryz.prog 170 #[.pointer (some ⟨b, 0, none⟩), .int .i64 ((53 : Nat) : Int)] (w.drewN n) fun e' w' => e' = .returned (.tuple #[]) ∧ RndI W w' b M := by
 obtain ⟨A3, B3, j, hF, N1, nd1, dp1, tr1, C1, hw1, hr1, hd1, hi1, hp1, hp2, hp3⟩ := hI;obtain ⟨u, hu, hB⟩ := hF.ub;have hlt : A3 * 2 ^ 53 < 2 ^ 53 * B3 := (by rw [Nat.mul_comm]; exact Nat.mul_lt_mul_of_pos_left hF.one (by decide));have hhalf : p = 0 ∨ 2 ^ 52 * B3 ≤ A3 * 2 ^ 53 := hF.half.imp_right fun h => by omega
 refine ⟨NU.rne (A3 * 2 ^ 53) B3, NU.word_at hB0 hF.bp hF.eq hhalf hlt, NU.rne_lek hF.bp hlt, hhalf.imp_right (NU.le_rne hF.bp), fun n => ?_⟩;refine (shiftL W (w.drewN n) b 53 N1 nd1 A3 B3 j _ (∃ c, 2 * (A3 * 2 ^ 53) = c * B3) dp1 tr1 C1 (hw1.drewN n) hr1 hd1 hi1 (by omega) hT.ch hb (by omega) hF.bp id (fun ⟨c, hc⟩ => ?_)).mono ?_
 ·refine Nat.dvd_trans (⟨c, by rw [Nat.mul_comm _ 2, hc, Nat.mul_comm]⟩ : B3 ∣ A3 * 2 ^ 53 * 2) (Nat.mul_dvd_mul_left _ ?_);obtain ⟨y, hy⟩ : ∃ y, e450 = y + 1 := ⟨449, e450_eq⟩;exact ⟨5 * 10 ^ y, by rw [← Nat.mul_assoc, show 2 * 5 = 10 from rfl, ← Nat.pow_succ', hy]⟩
 ·rintro r w' ⟨rfl, h⟩;refine ⟨rfl, ?_⟩;obtain ⟨N', nd', dp', tr', C', g1, g2, g3, g4, a1, a2, a3, a4, a5⟩ := h;have h8 := g4.nd8;have hj := hF.j3
  have hdp18 : dp' ≤ 18 := by
   apply Int.not_lt.1;intro hgt;have h1 := g4.ge_pow (h1 := 0) (h2 := 18) (by omega) (by omega) (by decide);have h2 : 2 ^ 53 * B3 ≤ B3 * 10 ^ 18 := (by rw [Nat.mul_comm]; exact Nat.mul_le_mul_left _ (by decide));omega
  refine ⟨N', nd', dp', tr', C', g1, g2, g3, h8, g4.lt, by omega, hdp18, ?_⟩;exact g4.round hF.bp (fun c hc => ⟨c, hc⟩) (by omega) (kbound hB hu (by decide) (by omega)) a1 (by omega) (by omega)
set_option maxRecDepth 100000 in
set_option maxHeartbeats 4000000 in
theorem floatBits_any (W w : World) (b N nd : Nat) (dp : Int) (C : Array Value) (hw : DecW W w b C) (hr : RawC C nd dp false) (hd : DigC C N nd) (hnd : 1 ≤ nd ∧ nd ≤ 100) (hlt : N < 10 ^ nd) (hge : 10 ^ (nd - 1) ≤ N) (hdp : -2000 ≤ dp ∧ dp ≤ 2000)
  (hT : SlowT W b) (hb : b ≤ W.heap.size) :
  Calls Tryz.prog 190 #[.pointer (some ⟨b, 0, none⟩), .pointer (some ⟨7, 0, none⟩)] w fun e w' => e = fbEnd (NU.wordE N (dp - nd)) ∧ BelowG W w' b := by
 have HW := hid hw;have HR := hid hr;have HD := hid hd;have HT := hid hT;have HLT := hid hlt;have HGE := hid hge;have c0 : w.cell? ⟨b, 800, none⟩ = some (.int .i64 nd) := (hw.cell 800).trans hr.cnd;have f0 := hw.free 800;have c1 : w.cell? ⟨b, 801, none⟩ = some (.int .i64 dp) := (hw.cell 801).trans hr.cdp;have f1 := hw.free 801;have hbs := hT.ch.size;have hB7 : b ≠ 7 := (by omega);have hz : ((nd : Int) == 0) = false := (by simp; omega);have hTw := hT.dec hw.1 hb;have c2 : w.cell? ⟨b, 802, none⟩ = some (.bool false) := (hw.cell 802).trans hr.cneg;have f2 := hw.free 802;have m7 := hTw.m7;have x7 := hTw.x7;have b7 := hTw.b7;clear hw hr hd hT hlt hge hTw;go_enter Tryz.func190, Tryz.ntmps190
 go_wp2_with fail
 refine wp_scope_fwd rfl rfl ?_;intro s0 s1 S0 S1;by_cases hbig : 310 < dp
 ·have hgt : decide ((310 : Int) < dp) = true := decide_eq_true hbig
  go_wp2_with fail
  go_step3
  show Code.wp Tryz.prog s1 (Exit.noGoto _) _ _;rw [S1.out]
  go_wp2_with fail
  go_quiet (fail)
  go_wp2_with fail
  go_step3
  go_wp2_with fail
  go_quiet (fail)
  go_wp2_with fail
  rw [Exit.noGoto_ret];go_ret2;refine ⟨?_, ((HW.out.1.drewN _))⟩;have hwe := NU.wordE_great (n := N) (s := nd) (e := dp - nd) hnd.1 HGE.out (by omega);have hfb := fb_bits (M := 0) (q := 2047) (by decide) (by decide);unfold fbEnd;rw [hwe, decide_eq_true (by decide)];refine congrArg (fun x => Ending.returned (.tuple #[.int .u64 x, .bool true])) ?_;exact hfb.trans (by decide)
 ·have hgt : decide ((310 : Int) < dp) = false := decide_eq_false hbig;by_cases hsml : dp < -330
  ·have hlt : decide (dp < -330) = true := decide_eq_true hsml
   go_wp2_with fail
   go_step3
   show Code.wp Tryz.prog s0 (Exit.noGoto _) _ _;rw [S0.out]
   go_wp2_with fail
   go_quiet (fail)
   go_wp2_with fail
   rw [Exit.noGoto_ret];go_ret2;refine ⟨?_, ((HW.out.1.drewN _))⟩;have hwe := NU.wordE_small (n := N) (s := nd) (e := dp - nd) HLT.out (by omega);have hfb := fb_bits (M := 0) (q := 0) (by decide) (by decide);unfold fbEnd;rw [hwe, decide_eq_false (by decide)];refine congrArg (fun x => Ending.returned (.tuple #[.int .u64 x, .bool false])) ?_;exact hfb.trans (by decide)
  ·have hlt : decide (dp < -330) = false := decide_eq_false hsml;obtain ⟨A0, hA0⟩ : ∃ A0, N * 10 ^ (dp - nd).toNat = A0 := ⟨_, rfl⟩;obtain ⟨B0, hB0⟩ : ∃ B0, 10 ^ (-(dp - nd)).toNat = B0 := ⟨_, rfl⟩;have hB0p : 0 < B0 := (by rw [← hB0]; exact Nat.pow_pos (by decide));have HSTART := hid (DInv.start (dp := dp) (show nd ≤ 800 by omega) hnd.1 HLT.out HGE.out (by omega));rw [hA0, hB0] at HSTART;have HWE : Hid (NU.wordE N (dp - nd) = NU.word A0 B0) := hid (by rw [← hA0, ← hB0]; rfl);have HB0 := hid hB0;have HA0 := hid hA0;clear hA0 hB0
   have HAB : Hid (A0 < B0 * 10 ^ e310) := hid (by
    rw [← HA0.out, ← HB0.out];have h1 : N * 10 ^ (dp - nd).toNat < 10 ^ nd * 10 ^ (dp - nd).toNat := Nat.mul_lt_mul_of_pos_right HLT.out (Nat.pow_pos (by decide));rw [← Nat.pow_add] at h1 ⊢
    exact Nat.lt_of_lt_of_le h1 (Nat.pow_le_pow_right (by decide) (by rw [e310_eq]; omega)))
   go_upto_block 0 with fail
   go_cut [6] from 8 to 60 (fun v6 wx => ∃ e : Nat, v6 = .int .i64 e ∧ e ≤ 1070 ∧ Hid (Dn W wx b A0 B0 e nd dp 0))
   case first =>
    go_wp2_with fail
    go_loopw [6] (fun v6 wx => ∃ e : Nat, v6 = .int .i64 e ∧ e ≤ 1070 ∧ Hid (Dn W wx b A0 B0 e nd dp 310)) (fun v6 _ => 2000 - (RowKit.intOf v6).toNat)
    case atStart => exact ⟨0, rfl, by omega, hid ⟨N, nd, dp, false, C, HW.out, HR.out, HD.out, by rw [Nat.pow_zero, Nat.mul_one]; exact HSTART.out.weak (Nat.le_refl _) (fun _ => trivial), by omega, Or.inl ⟨rfl, rfl, rfl⟩⟩⟩
    case round =>
     obtain ⟨e, rfl, he, HI⟩ := hrel;obtain ⟨N1, nd1, dp1, tr1, C1, hw1, hr1, hd1, hi1, hp1, hp2⟩ := HI.out;have c1 : wr.cell? ⟨b, 801, none⟩ = some (.int .i64 dp1) := (hw1.cell 801).trans hr1.cdp;have f1 := hw1.free 801;by_cases hpos : 0 < dp1
     ·have hps : decide (0 < dp1) = true := decide_eq_true hpos;have hdp0 : 0 < dp := (by omega);have heb := down_bound hi1 hB0p hpos HAB.out;obtain ⟨i, rfl⟩ : ∃ i : Nat, dp1 = i := ⟨dp1.toNat, by omega⟩;obtain ⟨a, cp, t1, ha, t2⟩ := (HT.out.dec hw1.1 hb).pt;have HST := hid (fun n => down_step W (wr.drewN n) b A0 B0 e nd (powT i) dp i N1 nd1 tr1 C1 (hw1.drewN n) hr1 hd1 hi1 hB0p (powT_le i) hpos hp1 hdp0);have hk := powT_le i;have hw1d : ∀ n, DecW W (wr.drewN n) b C1 := fun n => hw1.drewN n;clear hw1 hr1 hd1 hi1 hp2;by_cases h9 : 9 ≤ i
      ·have hge : decide (9 ≤ i) = true := decide_eq_true h9
       have hp27 : powT i = 27 := by
        obtain ⟨j, rfl⟩ : ∃ j, i = j + 9 := ⟨i - 9, by omega⟩;rfl
       go_wp2_with fail
       rw [hp27] at HST
       go_quiet (fail)
       go_wp2_with (go_at_call 170; refine (HST.out _).mono ?_; rintro r w' ⟨rfl, hD⟩)
       have HDD := hid hD;clear hD HST HI
       go_wp2_with fail
       refine ⟨⟨e + 27, by go_num, by omega, HDD⟩, ?_⟩;simp only [RowKit.intOf];omega
      ·have hge : decide (9 ≤ i) = false := decide_eq_false h9;have t3 := (t2 i (by omega)).2
       go_wp2_with fail
       go_quiet (fail)
       go_wp2_with fail
       go_quiet (fail)
       go_wp2_with (go_at_call 170; refine (HST.out _).mono ?_; rintro r w' ⟨rfl, hD⟩)
       have HDD := hid hD;clear hD HST HI
       go_wp2_with fail
       refine ⟨⟨e + powT i, by go_num, by omega, HDD⟩, ?_⟩;simp only [RowKit.intOf];omega
     ·have hps : decide (0 < dp1) = false := decide_eq_false hpos
      go_wp2_with fail
      go_meet;exact ⟨e, rfl, he, hid ⟨N1, nd1, dp1, tr1, C1, hw1, hr1, hd1, hi1, by omega, hp2⟩⟩
   case rest =>
    obtain ⟨e, rfl, he, HI⟩ := hcut;obtain ⟨hSide, hUp⟩ := HI.out.up HB0.out hnd.2 (by omega) he;have HSI := hid hSide;have HUP := hid hUp;clear hSide hUp HI;obtain ⟨wo, hwo⟩ : ∃ wo : World, wo = wc := ⟨_, rfl⟩;subst hwo;obtain ⟨B1, hB1⟩ : ∃ B1, B0 * 2 ^ e = B1 := ⟨_, rfl⟩;rw [hB1] at HSI HUP;have HB1 := hid hB1;clear hB1 c0 f0 c1 f1 c2 f2
    go_upto_block 2 with fail
    go_cut [6] from 9 to 102 (fun v6 wx => ∃ s : Nat, v6 = .int .i64 ((e : Int) - s) ∧ s ≤ 1110 ∧ Hid (s ≤ 100 ∨ (e = 0 ∧ B1 ∣ A0 * 10 ^ e450)) ∧ Hid (DecI W wx b (A0 * 2 ^ s) B1 (e + s) (B1 ∣ A0 * 10 ^ e450 ∨ B1 ∣ A0 * 2 ^ s * 10 ^ (450 - s)) (fun N1 nd1 dp' => dp' = 0 ∧ 5 * 10 ^ (nd1 - 1) ≤ N1)))
    case first =>
     go_wp2_with fail
     go_loopw [6] (fun v6 wx => ∃ s : Nat, v6 = .int .i64 ((e : Int) - s) ∧ s ≤ 1200 ∧ Hid (Up W wx b A0 B1 e s)) (fun v6 _ => (RowKit.intOf v6 + 2000).toNat)
     case atStart => exact ⟨0, congrArg (Value.int .i64) (by omega), by omega, HUP⟩
     case round =>
      obtain ⟨s, rfl, hs, HI⟩ := hrel;obtain ⟨N1, nd1, dp1, tr1, C1, hw1, hr1, hd1, hi1, hp1⟩ := HI.out;have hsb := up_bound HSI.out hi1 hp1.1 hp1.2.2 (by omega);have c1 : wr.cell? ⟨b, 801, none⟩ = some (.int .i64 dp1) := (hw1.cell 801).trans hr1.cdp;have f1 := hw1.free 801;obtain ⟨g, hg⟩ : ∃ g, N1 / 10 ^ (nd1 - 1) % 10 = g := ⟨_, rfl⟩
      have cz : wr.cell? ⟨b, 0, none⟩ = some (.int .u8 ((48 + g : Nat) : Int)) := by
       rw [hw1.cell, hd1 0 hi1.nd1, Nat.sub_zero, hg]
      have fz := hw1.free 0;have hld := lead_eq hi1.nd1 hi1.lt hg;have hg9 : g < 10 := (by omega);have HLD := hid hld;clear hg hld;have hTr := HT.out.dec hw1.1 hb;obtain ⟨a, cp, t1, ha, t2⟩ := hTr.pt;have hs2 : ∀ k, k ≤ 27 → (s + k ≤ 450 ∨ B1 ∣ A0 * 10 ^ e450) := fun k hk => hsb.2.imp (fun h => by omega) (fun h => h.2);have HSB := hid hsb.2;have hsb := hsb.1;have hn8 := hi1.nd8;by_cases hneg : dp1 < 0
      ·obtain ⟨i, hi⟩ : ∃ i : Nat, dp1 = -(i : Int) := ⟨(-dp1).toNat, by omega⟩;subst hi;have hi1' : 1 ≤ i := (by omega);have hi3 : i ≤ 331 := (by omega);have hps : decide (-(i : Int) < 0) = true := decide_eq_true hneg;have hpz : decide (0 < i) = true := decide_eq_true hi1';have HST := hid (fun n => up_step W (wr.drewN n) b A0 B1 e s (powT i) (-(i : Int)) N1 nd1 tr1 C1 (hw1.drewN n) hr1 hd1 hi1 HSI.out.bp (powT_le i) hp1 (up_v1 hi1.lt hi1' (by omega) (by omega)) (hs2 _ (powT_le i).2) HT.out hb);have hk := powT_le i;clear hw1 hr1 hd1 hi1 hp1 hs2 hTr hneg;by_cases h9 : 9 ≤ i
       ·have hge : decide (9 ≤ i) = true := decide_eq_true h9
        have hp27 : powT i = 27 := by
         obtain ⟨j, rfl⟩ : ∃ j, i = j + 9 := ⟨i - 9, by omega⟩;rfl
        rw [hp27] at HST
        go_wp2_with fail
        go_quiet (fail)
        go_wp2_with (go_at_call 170; refine (HST.out _).mono ?_; rintro r w' ⟨rfl, hD⟩)
        have HDD := hid hD;clear hD HST HI
        go_wp2_with fail
        refine ⟨⟨s + 27, congrArg (Value.int .i64) (by omega), by omega, HDD⟩, ?_⟩;simp only [RowKit.intOf];omega
       ·have hge : decide (9 ≤ i) = false := decide_eq_false h9;have t3 := (t2 i (by omega)).2
        go_wp2_with fail
        go_quiet (fail)
        go_wp2_with fail
        go_quiet (fail)
        go_wp2_with (go_at_call 170; refine (HST.out _).mono ?_; rintro r w' ⟨rfl, hD⟩)
        have HDD := hid hD;clear hD HST HI
        go_wp2_with fail
        refine ⟨⟨s + powT i, congrArg (Value.int .i64) (by omega), by omega, HDD⟩, ?_⟩;simp only [RowKit.intOf];omega
      ·have hd0 : dp1 = 0 := (by omega);subst hd0;by_cases hg5 : g < 5
       ·have hg5' : decide (48 + (g : Int) < 53) = true := decide_eq_true (by omega);have HST := hid (fun n => up_step W (wr.drewN n) b A0 B1 e s (powT 0) 0 N1 nd1 tr1 C1 (hw1.drewN n) hr1 hd1 hi1 HSI.out.bp (powT_le 0) hp1 (up_v0 hi1.nd1 hn8 (HLD.out.1 hg5)) (hs2 _ (powT_le 0).2) HT.out hb);have t3 := (t2 0 (by omega)).2;have hk := powT_le 0;have t4 : wr.cell? a = some (.int .i64 (powT 0 : Nat)) := (by rw [← addr_zero a]; exact t3);clear hw1 hr1 hd1 hi1 hp1 hs2 hTr hneg
        go_wp2_with fail
        go_quiet (fail)
        go_wp2_with fail
        go_quiet (fail)
        go_wp2_with (go_at_call 170; refine (HST.out _).mono ?_; rintro r w' ⟨rfl, hD⟩)
        have HDD := hid hD;clear hD HST HI
        go_wp2_with fail
        refine ⟨⟨s + powT 0, congrArg (Value.int .i64) (by omega), by omega, HDD⟩, ?_⟩;simp only [RowKit.intOf];omega
       ·have hg5' : decide (48 + (g : Int) < 53) = false := decide_eq_false (by omega)
        go_wp2_with fail
        go_meet;exact ⟨s, rfl, hsb, HSB, hid ⟨N1, nd1, 0, tr1, C1, hw1, hr1, hd1, hi1, rfl, HLD.out.2 (by omega)⟩⟩
    case rest =>
     obtain ⟨s, rfl, hs, HS2, HI⟩ := hcut;obtain ⟨wp, hwp⟩ : ∃ wp : World, wp = wc := ⟨_, rfl⟩;subst hwp
     have hTw : SlowT wp b := by
      obtain ⟨_, _, _, _, _, hw1, _⟩ := HI.out;exact HT.out.dec hw1.1 hb
     have m7 := hTw.m7;have x7 := hTw.x7;have b7 := hTw.b7;have HENDS := hid (fin_plain (p := 0) HSI.out HB1.out hB0p he hs HS2.out HI.out).1
     go_upto_if 111 with fail
     go_cut [6] from 10 to 125 (fun v6 wx => ∃ p : Nat, v6 = .int .i64 ((p : Int) - 1022) ∧ p ≤ 2100 ∧ Hid (FinI W wx b A0 B0 p))
     case first =>
      by_cases hden : e + 1021 < s
      ·obtain ⟨n, hn⟩ : ∃ n : Nat, s = n + 1021 := ⟨s - 1021, by omega⟩;have hlt2 : decide ((e : Int) - s - 1 < -1022) = true := decide_eq_true (by omega);have hed : e = 0 ∧ B1 ∣ A0 * 10 ^ e450 := HS2.out.resolve_left (by omega);have HED := hid hed.2;obtain rfl := hed.1;have hb1 := HB1.out;rw [Nat.pow_zero, Nat.mul_one] at hb1;have HST := hid (fin_den W wp b A0 B0 B1 s n HSI.out hb1 hs hn (by omega) HED.out HENDS.out.2 HI.out);clear hed hb1;rw [show ((0 : Nat) : Int) - s - 1 = -(n : Int) - 1022 by omega] at hlt2 ⊢
       go_wp2_with fail
       rw [show -(-1022 - (-(n : Int) - 1022)) = -(n : Int) by omega];refine HST.out.mono ?_;rintro r w' ⟨rfl, hF⟩;have HF := hid hF;clear hF HST HI;go_simp
       go_wp2_with fail
       go_meet;exact ⟨0, congrArg (Value.int .i64) (by omega), by omega, HF⟩
      ·have hlt2 : decide ((e : Int) - s - 1 < -1022) = false := decide_eq_false (by omega)
       go_wp2_with fail
       go_meet;exact ⟨e + 1021 - s, congrArg (Value.int .i64) (by omega), by omega, hid ((fin_plain (p := e + 1021 - s) HSI.out HB1.out hB0p he hs HS2.out HI.out).2 (by omega))⟩
     case rest =>
      obtain ⟨p, rfl, hp, HI⟩ := hcut;clear HS2 HENDS HSI hTw m7 x7 b7
      have hTw : SlowT wc b := by
       obtain ⟨_, _, _, _, _, _, _, _, _, hw1, _⟩ := HI.out;exact HT.out.dec hw1.1 hb
      have hneg : wc.cell? ⟨b, 802, none⟩ = some (.bool false) ∧ wc.frozen? ⟨b, 802, none⟩ = false ∧ BelowG W wc b := by
       obtain ⟨_, _, _, _, _, _, _, _, _, hw1, hr1, _⟩ := HI.out;exact ⟨(hw1.cell 802).trans hr1.cneg, hw1.free 802, hw1.1⟩
      obtain ⟨M, hM1, hM2, hM3, hst⟩ := fin_last W wc b A0 B0 p HI.out hB0p HT.out hb;have HM1 := hid (HWE.out.trans hM1);have HST := hid hst;have m7 := hTw.m7;have x7 := hTw.x7;have b7 := hTw.b7;clear hst hM1;by_cases hov : 2046 ≤ p
      ·have hge : decide ((2047 : Int) ≤ (p : Int) - 1022 + 1023) = true := decide_eq_true (by omega);have c2 := hneg.1;have f2 := hneg.2.1;have HBG := hid hneg.2.2;clear hneg
       go_wp2_with fail
       go_quiet (fail)
       go_wp2_with fail
       go_step3
       show Code.wp Tryz.prog s1 (Exit.noGoto _) _ _;rw [S1.out]
       go_wp2_with fail
       go_quiet (fail)
       go_wp2_with fail
       go_step3
       go_wp2_with fail
       go_quiet (fail)
       go_wp2_with fail
       rw [Exit.noGoto_ret];go_ret2;refine ⟨?_, HBG.out.drewN _⟩;have hfb := fb_bits (M := 0) (q := 2047) (by decide) (by decide)
       have hwe : NU.wordE N (dp - nd) = 2047 * 2 ^ 52 := by
        rw [HM1.out];apply Nat.min_eq_right;have h2 := Nat.mul_le_mul_right (2 ^ 52) (show 2046 ≤ p from hov);have h3 := hM3.resolve_left (by omega);omega
       unfold fbEnd;rw [hwe, decide_eq_true (by decide)];refine congrArg (fun x => Ending.returned (.tuple #[.int .u64 x, .bool true])) ?_;exact hfb.trans (by decide)
      ·have hge : decide ((2047 : Int) ≤ (p : Int) - 1022 + 1023) = false := decide_eq_false (by omega);clear hneg
       go_wp2_with fail
       go_quiet (fail)
       go_wp2_with (go_at_call 170; refine (HST.out _).mono ?_; rintro r w' ⟨rfl, hF⟩)
       obtain ⟨N2, nd2, dp2, tr2, C2, g1, g2, g3, g4, g5, g6, g7, g8⟩ := hF;have HRD := hid (rounded_any W w' b N2 nd2 dp2 tr2 C2 g1 g2 g3 g4 g5 ⟨g6, g7⟩);rw [g8] at HRD;have c2 : w'.cell? ⟨b, 802, none⟩ = some (.bool false) := (g1.cell 802).trans g2.cneg;have f2 := g1.free 802;have HBG := hid g1.1;have hTw2 := HT.out.dec g1.1 hb;have m7 := hTw2.m7;have x7 := hTw2.x7;have b7 := hTw2.b7;clear g1 g2 g3 g4 g5 g6 g7 g8 HI HST hTw2;by_cases hM53 : M = 9007199254740992
       ·subst hM53;by_cases hov2 : 2045 ≤ p
        ·have hge2 : decide ((2047 : Int) ≤ (p : Int) - 1022 + 1 + 1023) = true := decide_eq_true (by omega)
         go_wp2_with (go_at_call 223; refine HRD.out.mono ?_; rintro r w1 ⟨rfl, rfl⟩)
         go_quiet (fail)
         go_wp2_with fail
         go_step3
         show Code.wp Tryz.prog s1 (Exit.noGoto _) _ _;rw [S1.out]
         go_wp2_with fail
         go_quiet (fail)
         go_wp2_with fail
         go_step3
         go_wp2_with fail
         go_quiet (fail)
         go_wp2_with fail
         rw [Exit.noGoto_ret];go_ret2;refine ⟨?_, HBG.out.drewN _⟩;have hfb := fb_bits (M := 0) (q := 2047) (by decide) (by decide)
         have hwe : NU.wordE N (dp - nd) = 2047 * 2 ^ 52 := by
          rw [HM1.out];apply Nat.min_eq_right;have h2 := Nat.mul_le_mul_right (2 ^ 52) (show 2045 ≤ p from hov2);omega
         unfold fbEnd;rw [hwe, decide_eq_true (by decide)];refine congrArg (fun x => Ending.returned (.tuple #[.int .u64 x, .bool true])) ?_;exact hfb.trans (by decide)
        ·have hge2 : decide ((2047 : Int) ≤ (p : Int) - 1022 + 1 + 1023) = false := decide_eq_false (by omega)
         go_wp2_with (go_at_call 223; refine HRD.out.mono ?_; rintro r w1 ⟨rfl, rfl⟩)
         go_quiet (fail)
         go_wp2_with fail
         go_step3
         show Code.wp Tryz.prog s0 (Exit.noGoto _) _ _;rw [S0.out]
         go_wp2_with fail
         go_quiet (fail)
         go_wp2_with fail
         rw [Exit.noGoto_ret];go_ret2;refine ⟨?_, HBG.out.drewN _⟩;refine fb_fin (q := p + 2) (M := 4503599627370496) ?_ (by omega) (by decide) (by omega) rfl;exact HM1.out.trans (fb_w2 (by omega))
       ·have hne : ((M : Int) == 9007199254740992) = false := (by simp; omega);by_cases hlo : M < 4503599627370496
        ·have hand : (bits .and .u64 (M : Int) 4503599627370496 == 0) = true := (by rw [and52 (by omega), if_pos hlo]; rfl);have hp0 : p = 0 := hM3.resolve_right (by omega)
         go_wp2_with (go_at_call 223; refine HRD.out.mono ?_; rintro r w1 ⟨rfl, rfl⟩)
         go_step3
         show Code.wp Tryz.prog s0 (Exit.noGoto _) _ _;rw [S0.out]
         go_wp2_with fail
         go_quiet (fail)
         go_wp2_with fail
         rw [Exit.noGoto_ret];go_ret2;refine ⟨?_, HBG.out.drewN _⟩;refine fb_fin (q := 0) (M := M) ?_ (by omega) (by omega) rfl rfl;rw [HM1.out, hp0];exact fb_w0 hlo
        ·have hand : (bits .and .u64 (M : Int) 4503599627370496 == 0) = false := (by rw [and52 (by omega), if_neg hlo]; rfl)
         go_wp2_with (go_at_call 223; refine HRD.out.mono ?_; rintro r w1 ⟨rfl, rfl⟩)
         go_step3
         show Code.wp Tryz.prog s0 (Exit.noGoto _) _ _;rw [S0.out]
         go_wp2_with fail
         go_quiet (fail)
         go_wp2_with fail
         rw [Exit.noGoto_ret];go_ret2;refine ⟨?_, HBG.out.drewN _⟩;refine fb_fin (q := p + 1) (M := M) ?_ (by omega) (by omega) (by omega) rfl;exact HM1.out.trans (fb_w1 (by omega) (by omega) (by omega))
end Go.Proofs.YtlblkajnmdhmdaaGreatDoor
