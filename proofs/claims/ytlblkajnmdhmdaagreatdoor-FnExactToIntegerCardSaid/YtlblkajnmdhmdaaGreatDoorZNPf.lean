/-
  Walk: the library's parseFloat64: up to 19 digits and a power of ten are made into the nearest float.
-/
import Derived.Test.YtlblkajnmdhmdaaGreatDoorZNFd
namespace Go.Proofs.YtlblkajnmdhmdaaGreatDoor
set_option linter.unusedVariables false
open Go.RowKit Lib
theorem hi_ge3 {i : Nat} (hi : 3 ≤ i ∧ i < 659) : 2 ^ 63 ≤ NU.hiI i := by
 obtain ⟨x1, h⟩ := NU.allOk_at (j := i - 3) NU.read_ok (by rw [NU.read_len]; omega);rw [show 3 + (i - 3) = i by omega] at h;unfold NU.idxOk at h;simp only [Bool.and_eq_true, decide_eq_true_eq] at h;exact h.1.1.1.1.1.2
namespace NU
theorem unround_small {n d a : Nat} (hd : 0 < d) (ha : a % 2 = 0) (h : n < a * d) : unround n d < a := by
 have hq : n / d < a := (Nat.div_lt_iff_lt_mul hd).2 h;rw [unround_eq];split <;> omega
theorem uscale_small {i x s : Nat} (hi : 3 ≤ i ∧ i < 659) (hs : 8 ≤ s) (hx : x < 2 ^ 64) (hx0 : 2 ^ 63 ≤ x) : uscaleN x (hiI i) (loI i) s < 4 * (2 ^ 54 - 1) := by
 obtain ⟨t1, t2, t3, t4, t5⟩ := ten_at (i := i) ⟨hi.1, by omega⟩;rw [uscale_read hi hs hx hx0];clear t1 t2 t5;obtain ⟨N, hN⟩ : ∃ N, (numD i).1 = N := ⟨_, rfl⟩;obtain ⟨D, hD⟩ : ∃ D, (numD i).2 = D := ⟨_, rfl⟩;rw [hN, hD] at t4;rw [hD] at t3;rw [hN, hD];obtain ⟨g, rfl⟩ : ∃ g, s = 8 + g := ⟨s - 8, by omega⟩;obtain ⟨Dd, hDd⟩ : ∃ Dd, 2 ^ 128 * 2 ^ (8 + g) * D = Dd := ⟨_, rfl⟩;have hDdp : 0 < Dd := (by rw [← hDd]; exact Nat.mul_pos (Nat.mul_pos (by decide) (Nat.two_pow_pos _)) t3);rw [hDd]
 have hhi : x * N * 2 ^ 64 ≤ (2 ^ 64 - 1) * (2 ^ 128 * (2 ^ 64 - 2 ^ 10) * D) := by
  rw [Nat.mul_assoc];exact Nat.mul_le_mul (by omega) t4
 have hDd8 : Dd = 2 ^ 136 * D * 2 ^ g := by
  rw [← hDd, Nat.pow_add 2 8 g];have : (2 : Nat) ^ 136 = 2 ^ 128 * 2 ^ 8 := (by decide);rw [this]
  grind
 have hg1 : 2 ^ 136 * D ≤ Dd := (by rw [hDd8]; exact Nat.le_mul_of_pos_right _ (Nat.two_pow_pos g));refine unround_small hDdp (by decide) ?_;have : 4 * (2 ^ 54 - 1) * (2 ^ 136 * D) ≤ 4 * (2 ^ 54 - 1) * Dd := Nat.mul_le_mul_left _ hg1;have e : 4 * (2 ^ 54 - 1) * (2 ^ 136 * D) = (4 * (2 ^ 54 - 1) * 2 ^ 136) * D := (by rw [Nat.mul_assoc _ _ D]);have e2 : (2 ^ 64 - 1) * (2 ^ 128 * (2 ^ 64 - 2 ^ 10) * D) = ((2 ^ 64 - 1) * (2 ^ 128 * (2 ^ 64 - 2 ^ 10))) * D := (Nat.mul_assoc _ _ _).symm;rw [e2] at hhi;rw [e] at this;have hc : ((2 ^ 64 - 1) * (2 ^ 128 * (2 ^ 64 - 2 ^ 10))) < (4 * (2 ^ 54 - 1) * 2 ^ 136) * 2 ^ 64 := (by decide);have hc2 : ((2 ^ 64 - 1) * (2 ^ 128 * (2 ^ 64 - 2 ^ 10))) * D < (4 * (2 ^ 54 - 1) * 2 ^ 136) * 2 ^ 64 * D := Nat.mul_lt_mul_of_pos_right hc t3
 have e3 : (4 * (2 ^ 54 - 1) * 2 ^ 136) * 2 ^ 64 * D = (4 * (2 ^ 54 - 1) * 2 ^ 136) * D * 2 ^ 64 := by
  rw [Nat.mul_assoc _ _ D, Nat.mul_comm _ D, ← Nat.mul_assoc]
 rw [e3] at hc2;exact Nat.lt_of_lt_of_le (Nat.lt_of_mul_lt_mul_right (Nat.lt_of_le_of_lt hhi hc2)) this
theorem packN_fin (m E : Nat) (h : m < 2 ^ 53) : packN m E < 2047 * 2 ^ 52 ↔ m < 2 ^ 52 ∨ E < 2046 := by
 unfold packN;split
 ·constructor
  ·intro _; left; omega
  ·intro _; omega
 ·split
  ·constructor <;> intro h <;> omega
  ·constructor
   ·intro _; right; omega
   ·intro _; omega
end NU
/-- A read number's float and error. -/
def numEnd (W : Nat) : Ending := .returned (.tuple #[.float .f64 W, if W < 2047 * 2 ^ 52 then .nilIface else .iface 124 (.int .i64 1)])
theorem packEnd_eq (m : Nat) (e : Int) (h : m < 2 ^ 53) (he : -1074 ≤ e) : packEnd m e = numEnd (NU.packN m (e + 1074).toNat) := by
 unfold packEnd numEnd;have := NU.packN_fin m (e + 1074).toNat h;by_cases hc : m < 2 ^ 52 ∨ e < 972
 ·rw [if_pos hc, if_pos (this.2 (hc.imp id (fun h => by omega)))]
 ·rw [if_neg hc, if_neg (fun hh => hc ((this.1 hh).imp id (fun h => by omega)))]
theorem bool2_i (b : Bool) (w : World) : Calls Tryz.prog 158 #[.bool b] w fun e w' => e = .returned (.int .i64 (if b then 1 else 0)) ∧ w' = w := by
 go_enter Tryz.func158, Tryz.ntmps158;cases b <;> go_wp2 <;> go_ret <;> exact ⟨rfl, rfl⟩
theorem or_zero_at (m : Nat) (h : m < 2 ^ 64) : bits .or .u64 0 (m : Int) = (m : Int) := by
 have := or_at 0 m (by decide) h;rw [Nat.zero_or] at this;exact this
set_option maxRecDepth 100000 in
set_option maxHeartbeats 4000000 in
theorem parse64_walk (d i : Nat) (p : Int) (w : World) (hT : P10 w) (hsz : 16 < w.heap.size) (hd0 : 0 < d) (hd : d < 2 ^ 64) (hp : p + 348 = i) (hi : 3 ≤ i ∧ i < 659) :
  Calls Tryz.prog 194 #[.int .u64 d, .int .i64 p, .int .u64 0] w fun r w' => r = numEnd (NU.word (d * NU.tn i) (NU.td i)) ∧ Below w.heap.size w w' := by
 obtain ⟨b, hb⟩ : ∃ b, Lib.bitLen d = b := ⟨_, rfl⟩;obtain ⟨b1, b2, b3, b4⟩ := bitLen_at hd0 hd;rw [hb] at b1 b2 b3 b4;have HB := hid hb;clear hb;obtain ⟨lp, hlp⟩ : ∃ lp, NU.lpI i = lp := ⟨_, rfl⟩;have hlp' : p * 108853 / 32768 = lp := (by rw [← hlp]; unfold NU.lpI; rw [← hp, show p + 348 - 348 = p by omega]);have hlpb : -1200 ≤ lp ∧ lp ≤ 1100 := (by omega);obtain ⟨E, hE⟩ : ∃ E : Nat, (E : Int) = max 0 (1021 + b + lp) := ⟨(max 0 (1021 + b + lp)).toNat, by omega⟩;obtain ⟨s, hs⟩ : ∃ s : Nat, (s : Int) = 8 + (E - (1021 + b + lp)) := ⟨(8 + (E - (1021 + b + lp))).toNat, by omega⟩;have hpw := NU.parse_word (s := s) hi b1 b2 b3 b4 (by rw [hlp]; exact hE) (by rw [hlp]; exact hs);have hs8 : 8 ≤ s := (by omega)
 have hp63 : (2 : Nat) ^ 63 = 2 ^ (b - 1) * 2 ^ (64 - b) := by rw [← Nat.pow_add]; exact congrArg (2 ^ ·) (by omega)
 have hp64 : (2 : Nat) ^ 64 = 2 ^ b * 2 ^ (64 - b) := by rw [← Nat.pow_add]; exact congrArg (2 ^ ·) (by omega)
 obtain ⟨x, hx⟩ : ∃ x, d * 2 ^ (64 - b) = x := ⟨_, rfl⟩;have hx64 : x < 2 ^ 64 := (by rw [← hx, hp64]; exact Nat.mul_lt_mul_of_pos_right b4 (Nat.two_pow_pos _));have hx63 : 2 ^ 63 ≤ x := (by rw [← hx, hp63]; exact Nat.mul_le_mul_right _ b3);have hus := NU.uscale_small hi hs8 hx64 hx63;rw [hx] at hpw;obtain ⟨u, hu⟩ : ∃ u, NU.uscaleN x (NU.hiI i) (NU.loI i) s = u := ⟨_, rfl⟩;rw [hu] at hpw hus;obtain ⟨W, hW⟩ : ∃ W, NU.word (d * NU.tn i) (NU.td i) = W := ⟨_, rfl⟩;rw [hW] at hpw;rw [hW];obtain ⟨e, he⟩ : ∃ e : Int, e = 1074 - E := ⟨_, rfl⟩;have hmin : min (1074 : Int) (53 - b - lp) = e := (by omega);have HPW := hid hpw;have HU := hid hu;have HX := hid hx;have HLP := hid hlp';have HMIN := hid hmin;have HS := hid hs;have HE := hid (And.intro he hE);have HB34 := hid (And.intro b3 b4);have HTP := hid hT;have hebd : -3000 ≤ e ∧ e ≤ 1074 := (by omega);have hpb : -345 ≤ p ∧ p ≤ 310 := (by omega);have hsb : s ≤ 3000 := (by omega);clear hpw hu hx hlp' hmin he hE hW hlp hp63 hp64 b3 b4 hs hT;have hb15 : w.heap.size ≠ 15 := (by omega);go_enter Tryz.func194, Tryz.ntmps194
 go_wp2_with (go_at_call 157; refine (flip (Tryz.bits_Len64 (d : Int) _ (by omega) (by omega))).mono ?_; rintro r w' ⟨rfl, rfl⟩; rw [Int.toNat_natCast, HB.out])
 refine (flip (log2Pow10_walk p (by omega) (by omega) _)).mono ?_;rintro r w' ⟨rfl, rfl⟩;rw [HLP.out]
 go_wp2_with fail
 rw [HMIN.out];have hpre : -(e - (64 - (b : Int)) + lp + 3) = s := (by have := HE.out.1; have := HS.out; omega);have HPRE := hid hpre;clear hpre;have hT1' : P10 (w.alloc (.cells #[.int .u64 0, .int .u64 0, .int .i64 0] 222)) := HTP.out.below hsz ((Below.refl _ _).alloc (Nat.le_refl _) _);refine (prescale_walk w.heap.size i (e - (64 - (b : Int))) p lp s _ hT1' hb15 hp (by omega) HPRE.out (by omega) (by omega) 0 0 0 (by go_simp) (by go_simp) (by go_simp) (by go_simp) (by go_simp) (by go_simp)).mono ?_;rintro r w' ⟨rfl, rfl⟩;clear hT1';by_cases h64 : 64 ≤ s
 ·have hd64 : decide ((s : Int) ≥ 64) = true := decide_eq_true (by omega);have hW0 := HPW.out.2 h64;subst hW0
  go_wp2_with fail
  rw [frombits_any];go_simp
  go_wp2_with fail
  go_ret2;refine ⟨?_, ((Below.refl _ _).alloc (Nat.le_refl _) _)⟩;unfold numEnd;rw [if_pos (by decide)];rfl
 ·have hd64 : decide ((s : Int) ≥ 64) = false := decide_eq_false (by omega);obtain ⟨tp, ht1, ht2⟩ := NU.tab_at (i := i) (by omega);clear tp
  go_wp2_with fail
  have hwr : IntKind.u64.wrap ((d : Int) * 2 ^ (64 - b)) = (x : Nat) := by
   rw [show ((d : Int) * 2 ^ (64 - b)) = ((d * 2 ^ (64 - b) : Nat) : Int) by simp, HX.out];exact wrap_nat hx64
  rw [hwr];clear hwr;refine (uscale_walk x (NU.hiI i) (NU.loI i) s w.heap.size _ hx64 ht1 ht2 (by omega) hx63 (hi_ge3 (by omega)) (by go_simp) (by go_simp) (by go_simp)).mono ?_;rintro r w' ⟨rfl, nq, rfl⟩;rw [HU.out]
  go_wp2_with fail
  refine (flip (unmin_walk 9007199254740992 (by decide) (by decide) _)).mono ?_;rintro r w' ⟨rfl, rfl⟩;rw [show ((4 * 9007199254740992 - 2 : Nat) : Int) = 36028797018963966 from rfl];have hu2 : u < 72057594037927932 := hus;obtain ⟨er, her⟩ : ∃ er, numEnd W = .returned (.tuple #[.float .f64 W, er]) := ⟨_, rfl⟩;have HNE := hid her;clear her;by_cases hge : 4 * 2 ^ 53 - 2 ≤ u
  ·have hd2 : decide ((u : Int) ≥ 36028797018963966) = true := decide_eq_true (by omega)
   go_wp2_with fail
   refine (flip (bool2_i _ _)).mono ?_;rintro r w' ⟨rfl, rfl⟩
   go_wp2_with fail
   have hor : bits .or .u64 ((u : Int) / 2) (bits .and .u64 (u : Int) 1) = ((u / 2 ||| u % 2 : Nat) : Int) := by
    rw [and1_at u (by omega), show ((u : Int) / 2) = ((u / 2 : Nat) : Int) by omega];exact or_at _ _ (by omega) (by omega)
   rw [hor];clear hor
   have hv : u / 2 ||| u % 2 ≤ 2 ^ 55 - 3 := by
    rcases Nat.mod_two_eq_zero_or_one u with h | h
    ·rw [h, Nat.or_zero]; omega
    ·rw [h, NU.or_one]; omega
   have hr := HPW.out.1;unfold NU.readN at hr;rw [if_pos hge] at hr;obtain ⟨v, hvv⟩ : ∃ v, u / 2 ||| u % 2 = v := ⟨_, rfl⟩;rw [hvv] at hv hr ⊢;have HR := hid hr;clear hr hvv;refine (flip (round_walk v (by omega) _)).mono ?_;rintro r w' ⟨rfl, rfl⟩;obtain ⟨m, hm⟩ : ∃ m, (v + 1 + v / 4 % 2) / 4 = m := ⟨_, rfl⟩;have hm53 : m < 2 ^ 53 := (by omega);rw [hm];rw [hm] at HR;clear hm;have hz := or_zero_at m (by omega)
   go_wp2_with fail
   have hpk : ∀ w1, Calls Tryz.prog 224 #[.int .u64 m, .int .i64 (-(e - 1))] w1 fun r w' => r = .returned (.tuple #[.float .f64 W, er]) ∧ w1 = w' := fun w1 => by
    refine (pack64_walk m (-(e - 1)) hm53 (by have := HE.out; omega) (by have := HE.out; omega) w1).mono ?_;rintro r w' ⟨rfl, rfl⟩;refine ⟨?_, rfl⟩;rw [packEnd_eq _ _ hm53 (by have := HE.out; omega), ← HNE.out, ← HR.out];exact congrArg (fun z => numEnd (NU.packN m z)) (by have := HE.out; omega)
   refine (hpk _).mono ?_;rintro r w' ⟨rfl, rfl⟩
   go_wp2_with fail
   go_ret2;refine ⟨HNE.out.symm, below_drewN ((Below.refl _ _).alloc (Nat.le_refl _) _) _⟩
  ·have hd2 : decide ((u : Int) ≥ 36028797018963966) = false := decide_eq_false (by omega)
   go_wp2_with fail
   refine (flip (bool2_i _ _)).mono ?_;rintro r w' ⟨rfl, rfl⟩
   go_wp2_with fail
   have hvu : u ||| u % 2 = u := by
    rcases Nat.mod_two_eq_zero_or_one u with h | h
    ·rw [h, Nat.or_zero]
    ·rw [h, NU.or_one]; omega
   have hor : bits .or .u64 (u : Int) (bits .and .u64 (u : Int) 1) = ((u : Nat) : Int) := by
    rw [and1_at u (by omega), or_at _ _ (by omega) (by omega), hvu]
   rw [hor];clear hor hvu;have hv : u ≤ 4 * 2 ^ 53 - 3 := (by omega);have hr := HPW.out.1;unfold NU.readN at hr;rw [if_neg hge] at hr;have HR := hid hr;clear hr;refine (flip (round_walk u (by omega) _)).mono ?_;rintro r w' ⟨rfl, rfl⟩;obtain ⟨m, hm⟩ : ∃ m, (u + 1 + u / 4 % 2) / 4 = m := ⟨_, rfl⟩;have hm53 : m < 2 ^ 53 := (by omega);rw [hm];rw [hm] at HR;clear hm;have hz := or_zero_at m (by omega)
   go_wp2_with fail
   have hpk : ∀ w1, Calls Tryz.prog 224 #[.int .u64 m, .int .i64 (-e)] w1 fun r w' => r = .returned (.tuple #[.float .f64 W, er]) ∧ w1 = w' := fun w1 => by
    refine (pack64_walk m (-e) hm53 (by have := HE.out; omega) (by have := HE.out; omega) w1).mono ?_;rintro r w' ⟨rfl, rfl⟩;refine ⟨?_, rfl⟩;rw [packEnd_eq _ _ hm53 (by have := HE.out; omega), ← HNE.out, ← HR.out];exact congrArg (fun z => numEnd (NU.packN m z)) (by have := HE.out; omega)
   refine (hpk _).mono ?_;rintro r w' ⟨rfl, rfl⟩
   go_wp2_with fail
   go_ret2;refine ⟨HNE.out.symm, below_drewN ((Below.refl _ _).alloc (Nat.le_refl _) _) _⟩
end Go.Proofs.YtlblkajnmdhmdaaGreatDoor
