/-
  Plain: the decimal's value, scaled by 10 ^ 2000, behind the two shifts.
  Plain: what the library's decimal, cut to 800 digits, knows of the exact fraction A / B that it stands for; what a shift does to that.
  Walk: shouldRoundUp.
  Walk: RoundedInteger.
  Plain: the decimal that stands for A / B, rounded to a whole number as the library does it, is A / B rounded half to even; and the word's bits.
-/
import Derived.Test.YtlblkajnmdhmdaaGreatDoorZNDh
namespace Go.Proofs.YtlblkajnmdhmdaaGreatDoor
set_option linter.unusedVariables false
/-- The value N * 10 ^ (dp - nd), times 10 ^ 2000. -/
def valX (N nd : Nat) (dp : Int) : Nat := N * 10 ^ (dp - nd + 2000).toNat
/-- Zeros at the end count for nothing. -/
theorem valX_trim {N nd z : Nat} {dp : Int} (hz : z ≤ nd) (h : N / 10 ^ z * 10 ^ z = N) (hb : -1000 ≤ dp - nd) : valX (N / 10 ^ z) (nd - z) dp = valX N nd dp := by
 unfold valX;rw [show (dp - ((nd - z : Nat) : Int) + 2000).toNat = z + (dp - nd + 2000).toNat by omega, Nat.pow_add, ← Nat.mul_assoc, h]
theorem valX_right {N nd m Q c n r : Nat} {dp : Int} (h : N * 10 ^ (r - nd) = Q * (10 * m) + n) (hcr : c ≤ r) (hnr : nd ≤ r) (hb : -1000 ≤ dp - r) :
  10 * valX N nd dp = 10 * (m * valX Q c (dp - (((r - c : Nat) : Int) - 1))) + n * 10 ^ (dp - r + 2001).toNat := by
 unfold valX;have e1 : (dp - nd + 2000).toNat = (r - nd) + (dp - r + 2000).toNat := (by omega);have e2 : (dp - (((r - c : Nat) : Int) - 1) - c + 2000).toNat = (dp - r + 2000).toNat + 1 := (by omega);have e3 : (dp - r + 2001).toNat = (dp - r + 2000).toNat + 1 := (by omega);rw [e1, e2, e3, Nat.pow_add, ← Nat.mul_assoc N, h, Nat.pow_succ];generalize 10 ^ (dp - r + 2000).toNat = A
 have h1 : (Q * (10 * m) + n) * A = 10 * (m * (Q * A)) + n * A := by
  rw [Nat.add_mul, Nat.mul_assoc, Nat.mul_assoc, Nat.mul_left_comm Q 10, Nat.mul_left_comm Q m]
 have h2 : m * (Q * (A * 10)) = 10 * (m * (Q * A)) := (by rw [← Nat.mul_assoc Q, ← Nat.mul_assoc m, Nat.mul_comm]);have h3 : n * (A * 10) = 10 * (n * A) := (by rw [← Nat.mul_assoc, Nat.mul_comm]);rw [h1, h2, h3];omega
theorem valX_left {N nd m T : Nat} {dp : Int} (hT : nd ≤ T) (hb : -1000 ≤ dp - nd) :
  m * valX N nd dp = valX (N * m / 10 ^ (T - 800)) (min T 800) (dp + ((T : Int) - nd)) + N * m % 10 ^ (T - 800) * 10 ^ (dp - nd + 2000).toNat := by
 unfold valX;rw [show (dp + ((T : Int) - nd) - ((min T 800 : Nat) : Int) + 2000).toNat = (T - 800) + (dp - nd + 2000).toNat by omega, Nat.pow_add, ← Nat.mul_assoc (N * m / 10 ^ (T - 800)), ← Nat.add_mul, Nat.mul_comm (N * m / 10 ^ (T - 800)), Nat.div_add_mod, ← Nat.mul_assoc, Nat.mul_comm m N]
end Go.Proofs.YtlblkajnmdhmdaaGreatDoor
namespace Go.Proofs.YtlblkajnmdhmdaaGreatDoor
set_option linter.unusedVariables false
/-- The exponents 2000 and 799, kept shut. -/
@[irreducible] def e2000 : Nat := 2000
theorem e2000_eq : e2000 = 2000 := by unfold e2000; rfl
@[irreducible] def e799 : Nat := 799
theorem e799_eq : e799 = 799 := by unfold e799; rfl
@[irreducible] def e450 : Nat := 450
theorem e450_eq : e450 = 450 := by unfold e450; rfl
/-- 10 ^ 2000, kept shut. -/
@[irreducible] def zX : Nat := 10 ^ e2000
theorem zX_eq : zX = 10 ^ e2000 := by unfold zX; rfl
/-- 10 ^ 799, kept shut. -/
@[irreducible] def kX : Nat := 10 ^ e799
theorem kX_eq : kX = 10 ^ e799 := by unfold kX; rfl
theorem zX_pos : 0 < zX := by rw [zX_eq]; exact Nat.pow_pos (by decide)
theorem kX_pos : 0 < kX := by rw [kX_eq]; exact Nat.pow_pos (by decide)
/-- The decimal (N, nd, dp, tr) stands for A / B: from below, with an error of j parts in 10 ^ 799; exactly where G holds; tr marks an error. -/
structure DInv (A B j : Nat) (G : Prop) (N nd : Nat) (dp : Int) (tr : Bool) : Prop where
 nd8 : nd ≤ 800
 nd1 : 1 ≤ nd
 lt : N < 10 ^ nd
 ge : 10 ^ (nd - 1) ≤ N
 up : valX N nd dp * B ≤ A * zX
 lo : A * zX * kX ≤ valX N nd dp * B * kX + A * zX * j
 ex : G → valX N nd dp * B = A * zX
 mkd : tr = true ↔ valX N nd dp * B < A * zX
theorem core {a x x' d K j : Nat} (h1 : x = x' + d) (h2 : x ≤ a) (h3 : a * K ≤ x * K + a * j) (h4 : d * K ≤ x') : x' ≤ a ∧ a * K ≤ x' * K + a * (j + 1) := by
 refine ⟨by omega, ?_⟩;have e : x * K = x' * K + d * K := (by rw [h1, Nat.add_mul]);rw [Nat.mul_add, Nat.mul_one];omega
/-- What the value is between: the point's place. -/
theorem valX_lt {N nd : Nat} {dp : Int} (h : N < 10 ^ nd) (hb : -1000 ≤ dp - nd) {e : Nat} (he : dp + 2000 ≤ e) : valX N nd dp < 10 ^ e := by
 unfold valX
 have e1 : 10 ^ e = 10 ^ nd * 10 ^ (dp - nd + 2000).toNat * 10 ^ (e - (dp + 2000)).toNat := by
  rw [← Nat.pow_add, ← Nat.pow_add];exact congrArg _ (by omega)
 rw [e1];refine Nat.lt_of_lt_of_le (Nat.mul_lt_mul_of_pos_right h (Nat.pow_pos (by decide))) (Nat.le_mul_of_pos_right _ (Nat.pow_pos (by decide)))
theorem valX_ge {N nd : Nat} {dp : Int} (h : 10 ^ (nd - 1) ≤ N) (h1 : 1 ≤ nd) (hb : -1000 ≤ dp - nd) {e : Nat} (he : e ≤ dp - 1 + 2000) : 10 ^ e ≤ valX N nd dp := by
 unfold valX
 have e1 : 10 ^ (nd - 1) * 10 ^ (dp - nd + 2000).toNat = 10 ^ (dp - 1 + 2000).toNat := by
  rw [← Nat.pow_add];exact congrArg _ (by omega)
 exact Nat.le_trans (Nat.pow_le_pow_right (by decide) (by omega)) (Nat.le_trans (Nat.le_of_eq e1.symm) (Nat.mul_le_mul_right _ h))
/-- A shift to the right. -/
theorem DInv.right {A B j : Nat} {G G' : Prop} {N nd : Nat} {dp : Int} {tr : Bool} (h : DInv A B j G N nd dp tr) {m Q c n r z : Nat}
  (hm : 1 ≤ m) (hdp : dp ≤ 350) (hB : 0 < B)
  (hcr : c + 1 ≤ r) (hnr : nd ≤ r) (hc1 : 1 ≤ c) (hc8 : c ≤ 800) (hQ1 : 10 ^ (c - 1) ≤ Q) (hQ2 : Q < 10 ^ c) (hq : N * 10 ^ (r - nd) = Q * (10 * m) + n) (hn : n < 10 * m) (hn8 : 0 < n → c = 800)
  (hz : z ≤ c) (hz2 : Q / 10 ^ z * 10 ^ z = Q) (hb : -1000 ≤ dp - r)
  (hG : G' → G) (hG2 : G' → B * m ∣ A * 10 ^ e450) :
  DInv A (B * m) (j + 1) G' (Q / 10 ^ z) (c - z) (dp - (((r - c : Nat) : Int) - 1)) (tr || decide (0 < n)) ∧ m * valX (Q / 10 ^ z) (c - z) (dp - (((r - c : Nat) : Int) - 1)) ≤ valX N nd dp := by
 have hv := valX_right (c := c) hq (dp := dp) (by omega) hnr (by omega);have hQ0 : 0 < Q := Nat.lt_of_lt_of_le (Nat.pow_pos (by decide)) hQ1
 have hzc : z < c := by
  apply Nat.lt_of_le_of_ne hz;intro e;subst e;rw [Nat.div_eq_of_lt hQ2, Nat.zero_mul] at hz2;omega
 have ht := valX_trim hz hz2 (dp := dp - (((r - c : Nat) : Int) - 1)) (by omega);obtain ⟨dp', hdp'⟩ : ∃ dp' : Int, dp - (((r - c : Nat) : Int) - 1) = dp' := ⟨_, rfl⟩;rw [hdp'] at hv ht ⊢;rw [ht];obtain ⟨p, hp⟩ : ∃ p : Nat, (dp - r + 2000 : Int) = p := ⟨(dp - r + 2000).toNat, by omega⟩;have e1 : (dp - r + 2001).toNat = p + 1 := (by omega)
 have hV' : valX Q c dp' = Q * 10 ^ (p + 1) := by unfold valX; exact congrArg (Q * 10 ^ ·) (by omega)
 rw [e1] at hv
 have hv2 : valX N nd dp = m * valX Q c dp' + n * 10 ^ p := by
  rw [Nat.pow_succ, ← Nat.mul_assoc n] at hv;omega
 clear hv;obtain ⟨V, hV⟩ : ∃ V, valX N nd dp = V := ⟨_, rfl⟩;obtain ⟨V', hV''⟩ : ∃ V', valX Q c dp' = V' := ⟨_, rfl⟩;have h' := h;obtain ⟨_, _, _, _, hup, hlo, hex, hmk⟩ := h;rw [hV] at hup hlo hex hmk hv2;rw [hV''] at hV' hv2 ⊢
 have hx : V * B = V' * (B * m) + n * 10 ^ p * B := by
  rw [hv2, Nat.add_mul, Nat.mul_comm m V', Nat.mul_assoc V' m B, Nat.mul_comm m B]
 have hd : n * 10 ^ p * B * kX ≤ V' * (B * m) := by
  by_cases hn0 : n = 0
  ·rw [hn0, Nat.zero_mul, Nat.zero_mul, Nat.zero_mul];exact Nat.zero_le _
  ·have hc : c = 800 := hn8 (by omega);have hQK : kX ≤ Q := (by rw [kX_eq, e799_eq, show 799 = c - 1 by omega]; exact hQ1);have e2 : V' * (B * m) = Q * (10 * m * 10 ^ p * B) := (by rw [hV', Nat.pow_succ]; grind);have e3 : n * 10 ^ p * B * kX = kX * (n * 10 ^ p * B) := Nat.mul_comm _ _;rw [e2, e3];exact Nat.mul_le_mul hQK (Nat.mul_le_mul_right _ (Nat.mul_le_mul_right _ (Nat.le_of_lt hn)))
 obtain ⟨c1, c2⟩ := core hx hup hlo hd;have hpp : 0 < 10 ^ p := Nat.pow_pos (by decide)
 have hstep : V' * (B * m) < A * zX ↔ (V * B < A * zX ∨ 0 < n) := by
  have h0 : 0 < n ↔ 0 < n * 10 ^ p * B := by
   constructor
   ·intro h;exact Nat.mul_pos (Nat.mul_pos h hpp) hB
   ·intro h;exact Nat.pos_of_ne_zero fun h0 => by rw [h0, Nat.zero_mul, Nat.zero_mul] at h; omega
  rw [h0];omega
 refine ⟨⟨by omega, by omega, ?_, ?_, ?_, ?_, fun hg => ?_, ?_⟩, ?_⟩
 ·apply Nat.div_lt_of_lt_mul;rw [← Nat.pow_add];exact Nat.lt_of_lt_of_le hQ2 (Nat.pow_le_pow_right (by decide) (by omega))
 ·apply (Nat.le_div_iff_mul_le (Nat.pow_pos (by decide))).2;rw [← Nat.pow_add];exact Nat.le_trans (Nat.pow_le_pow_right (by decide) (by omega)) hQ1
 ·rw [ht, hV'']; exact c1
 ·rw [ht, hV'']; exact c2
 ·rw [ht, hV''];have hexV := hex (hG hg);obtain ⟨t, htt⟩ := hG2 hg;by_cases hn0 : n = 0
  ·rw [hn0, Nat.zero_mul, Nat.zero_mul, Nat.add_zero] at hx;rw [← hx, hexV]
  ·exfalso;have hc : c = 800 := hn8 (by omega);obtain ⟨g, hg⟩ : ∃ g : Nat, e2000 = p + e450 + g + 1 := ⟨2000 - p - 451, by rw [e2000_eq, e450_eq]; omega⟩
   have hz : zX = 10 ^ p * 10 ^ e450 * 10 ^ g * 10 := by rw [zX_eq, ← Nat.pow_add, ← Nat.pow_add, ← Nat.pow_succ]; exact congrArg (10 ^ ·) hg
   -- V * 10^450 = t * m * Z
   have k1 : V * B * 10 ^ e450 = B * (m * t * zX) := by
    rw [hexV];have : A * zX * 10 ^ e450 = (A * 10 ^ e450) * zX := (by rw [Nat.mul_right_comm]);rw [this, htt]
    grind
   have k2 : V * 10 ^ e450 = m * t * zX := by
    apply Nat.eq_of_mul_eq_mul_left hB;rw [← k1, ← Nat.mul_assoc, Nat.mul_comm B V]
   rw [hv2, hV', hz, Nat.pow_succ] at k2;obtain ⟨P, hP⟩ : ∃ P, 10 ^ p = P := ⟨_, rfl⟩;obtain ⟨F, hF⟩ : ∃ F, 10 ^ e450 = F := ⟨_, rfl⟩;obtain ⟨Gg, hGg⟩ : ∃ Gg, 10 ^ g = Gg := ⟨_, rfl⟩;have hPp : 0 < P := (by rw [← hP]; exact hpp);have hFp : 0 < F := (by rw [← hF]; exact Nat.pow_pos (by decide));rw [hP, hF, hGg] at k2
   have k3 : 10 * m * Q + n = 10 * m * (t * Gg) := by
    apply Nat.eq_of_mul_eq_mul_left (Nat.mul_pos hPp hFp);have e1 : P * F * (10 * m * Q + n) = (m * (Q * (P * 10)) + n * P) * F := (by grind);have e2 : P * F * (10 * m * (t * Gg)) = m * t * (P * F * Gg * 10) := (by grind);rw [e1, e2, k2]
   have k4 : n % (10 * m) = 0 := by
    have : (10 * m * Q + n) % (10 * m) = 0 := (by rw [k3]; exact Nat.mul_mod_right _ _);rw [Nat.mul_add_mod] at this;exact this
   rw [Nat.mod_eq_of_lt hn] at k4;exact hn0 k4
 ·rw [ht, hV'', hstep];simp [hmk]
 ·rw [hV, hv2];exact Nat.le_add_right _ _
/-- A shift to the left. -/
theorem DInv.left {A B j : Nat} {G G' : Prop} {N nd : Nat} {dp : Int} {tr : Bool} (h : DInv A B j G N nd dp tr) {m T z : Nat}
  (hm : 1 ≤ m) (hdp : -900 ≤ dp - nd) (hB : 0 < B) (hT : nd ≤ T) (hT3 : dp + ((T : Int) - nd) ≤ 350) (hT1 : 10 ^ (T - 1) ≤ N * m) (hT2 : N * m < 10 ^ T)
  (hz : z ≤ min T 800) (hz2 : N * m / 10 ^ (T - 800) / 10 ^ z * 10 ^ z = N * m / 10 ^ (T - 800))
  (hG : G' → G) (hG2 : G' → B ∣ A * m * 10 ^ e450) :
  DInv (A * m) B (j + 1) G' (N * m / 10 ^ (T - 800) / 10 ^ z) (min T 800 - z) (dp + ((T : Int) - nd)) (tr || decide (N * m % 10 ^ (T - 800) ≠ 0)) ∧ valX (N * m / 10 ^ (T - 800) / 10 ^ z) (min T 800 - z) (dp + ((T : Int) - nd)) ≤ m * valX N nd dp := by
 have h' := h;obtain ⟨hnd8, hnd1, hlt, hge, hup, hlo, hex, hmk⟩ := h;have hv := valX_left (N := N) (m := m) hT (dp := dp) (by omega);obtain ⟨R, hR⟩ : ∃ R, N * m % 10 ^ (T - 800) = R := ⟨_, rfl⟩;have hRl : R < 10 ^ (T - 800) := (by rw [← hR]; exact Nat.mod_lt _ (Nat.pow_pos (by decide)));have hQd := Nat.div_add_mod (N * m) (10 ^ (T - 800));rw [hR] at hQd;have hT0 : 1 ≤ T := (by omega)
 have hQ1 : 10 ^ (min T 800 - 1) ≤ N * m / 10 ^ (T - 800) := by
  apply (Nat.le_div_iff_mul_le (Nat.pow_pos (by decide))).2;rw [← Nat.pow_add, show min T 800 - 1 + (T - 800) = T - 1 by omega];exact hT1
 have hQ2 : N * m / 10 ^ (T - 800) < 10 ^ min T 800 := by
  apply Nat.div_lt_of_lt_mul;rw [← Nat.pow_add, show T - 800 + min T 800 = T by omega];exact hT2
 rw [hR] at hv ⊢;obtain ⟨Q, hQ⟩ : ∃ Q, N * m / 10 ^ (T - 800) = Q := ⟨_, rfl⟩;rw [hQ] at hv hQ1 hQ2 hQd hz2 ⊢;obtain ⟨c, hc⟩ : ∃ c, min T 800 = c := ⟨_, rfl⟩;rw [hc] at hv hQ1 hQ2 hz ⊢;have hQ0 : 0 < Q := Nat.lt_of_lt_of_le (Nat.pow_pos (by decide)) hQ1
 have hzc : z < c := by
  apply Nat.lt_of_le_of_ne hz;intro e;subst e;rw [Nat.div_eq_of_lt hQ2, Nat.zero_mul] at hz2;omega
 obtain ⟨dp', hdp'⟩ : ∃ dp' : Int, dp + ((T : Int) - nd) = dp' := ⟨_, rfl⟩;rw [hdp'] at hv ⊢;have ht := valX_trim hz hz2 (dp := dp') (by omega);rw [ht];obtain ⟨p, hp⟩ : ∃ p : Nat, (dp - nd + 2000 : Int) = p := ⟨(dp - nd + 2000).toNat, by omega⟩;have e1 : (dp - nd + 2000).toNat = p := (by omega)
 have hV' : valX Q c dp' = Q * (10 ^ (T - 800) * 10 ^ p) := by unfold valX; rw [← Nat.pow_add]; exact congrArg (Q * 10 ^ ·) (by omega)
 rw [e1] at hv;obtain ⟨V, hV⟩ : ∃ V, valX N nd dp = V := ⟨_, rfl⟩;obtain ⟨V', hV''⟩ : ∃ V', valX Q c dp' = V' := ⟨_, rfl⟩;rw [hV] at hup hlo hex hmk hv ⊢;rw [hV''] at hV' hv ⊢;obtain ⟨P, hP⟩ : ∃ P, 10 ^ p = P := ⟨_, rfl⟩;obtain ⟨S, hS⟩ : ∃ S, 10 ^ (T - 800) = S := ⟨_, rfl⟩;have hPp : 0 < P := (by rw [← hP]; exact Nat.pow_pos (by decide));have hSp : 0 < S := (by rw [← hS]; exact Nat.pow_pos (by decide));rw [hP] at hv hV';rw [hS] at hRl hQd hV'
 have hx : V * B * m = V' * B + R * P * B := by
  rw [Nat.mul_right_comm, Nat.mul_comm V m, hv, Nat.add_mul]
 have hd : R * P * B * kX ≤ V' * B := by
  by_cases hT8 : T ≤ 800
  ·have : R = 0 := (by rw [← hS, show T - 800 = 0 by omega, Nat.pow_zero] at hRl; omega);rw [this, Nat.zero_mul, Nat.zero_mul, Nat.zero_mul];exact Nat.zero_le _
  ·have hc8 : c = 800 := (by omega);have hQK : kX ≤ Q := (by rw [kX_eq, e799_eq, show 799 = c - 1 by omega]; exact hQ1);have e2 : V' * B = Q * (S * P * B) := (by rw [hV']; grind);have e3 : R * P * B * kX = kX * (R * P * B) := Nat.mul_comm _ _;rw [e2, e3];exact Nat.mul_le_mul hQK (Nat.mul_le_mul_right _ (Nat.mul_le_mul_right _ (Nat.le_of_lt hRl)))
 have hup2 : V * B * m ≤ A * m * zX := (by rw [Nat.mul_right_comm A]; exact Nat.mul_le_mul_right _ hup)
 have hlo2 : A * m * zX * kX ≤ V * B * m * kX + A * m * zX * j := by
  have := Nat.mul_le_mul_right m hlo;have e1 : A * zX * kX * m = A * m * zX * kX := (by grind);have e2 : (V * B * kX + A * zX * j) * m = V * B * m * kX + A * m * zX * j := (by grind);rw [e1, e2] at this;exact this
 obtain ⟨c1, c2⟩ := core hx hup2 hlo2 hd
 have hstep : V' * B < A * m * zX ↔ (V * B < A * zX ∨ 0 < R) := by
  have h0 : 0 < R ↔ 0 < R * P * B := by
   constructor
   ·intro h;exact Nat.mul_pos (Nat.mul_pos h hPp) hB
   ·intro h;exact Nat.pos_of_ne_zero fun h0 => by rw [h0, Nat.zero_mul, Nat.zero_mul] at h; omega
  have h1 : V * B < A * zX ↔ V * B * m < A * m * zX := by
   rw [Nat.mul_right_comm A];exact (Nat.mul_lt_mul_right (by omega : 0 < m)).symm
  rw [h0, h1];omega
 refine ⟨⟨by omega, by omega, ?_, ?_, ?_, ?_, fun hg => ?_, ?_⟩, ?_⟩
 ·apply Nat.div_lt_of_lt_mul;rw [← Nat.pow_add];exact Nat.lt_of_lt_of_le hQ2 (Nat.pow_le_pow_right (by decide) (by omega))
 ·apply (Nat.le_div_iff_mul_le (Nat.pow_pos (by decide))).2;rw [← Nat.pow_add];exact Nat.le_trans (Nat.pow_le_pow_right (by decide) (by omega)) hQ1
 ·rw [ht, hV'']; exact c1
 ·rw [ht, hV'']; exact c2
 ·rw [ht, hV''];have hexV := hex (hG hg);obtain ⟨t, htt⟩ := hG2 hg;by_cases hn0 : R = 0
  ·rw [hn0, Nat.zero_mul, Nat.zero_mul, Nat.add_zero] at hx;rw [← hx, hexV, Nat.mul_right_comm]
  ·exfalso
   have hT8 : ¬ T ≤ 800 := fun hT8 => by
    rw [← hS, show T - 800 = 0 by omega, Nat.pow_zero] at hRl;omega
   obtain ⟨g, hg⟩ : ∃ g : Nat, e2000 = p + e450 + (T - 800) + g := ⟨2000 - p - 450 - (T - 800), by rw [e2000_eq, e450_eq]; omega⟩
   have hzz : zX = P * 10 ^ e450 * S * 10 ^ g := by rw [zX_eq, ← hP, ← hS, ← Nat.pow_add, ← Nat.pow_add, ← Nat.pow_add]; exact congrArg (10 ^ ·) hg
   have k1 : V * m * B * 10 ^ e450 = B * (t * zX) := by
    rw [Nat.mul_right_comm V, hexV];have : A * zX * m * 10 ^ e450 = (A * m * 10 ^ e450) * zX := (by generalize 10 ^ e450 = F; grind);rw [this, htt, Nat.mul_assoc]
   have k2 : m * V * 10 ^ e450 = t * zX := by
    apply Nat.eq_of_mul_eq_mul_left hB;rw [← k1];generalize 10 ^ e450 = F
    grind
   rw [hv, hV', hzz] at k2;obtain ⟨F, hF⟩ : ∃ F, 10 ^ e450 = F := ⟨_, rfl⟩;obtain ⟨Gg, hGg⟩ : ∃ Gg, 10 ^ g = Gg := ⟨_, rfl⟩;have hFp : 0 < F := (by rw [← hF]; exact Nat.pow_pos (by decide));rw [hF, hGg] at k2
   have k3 : S * Q + R = S * (t * Gg) := by
    apply Nat.eq_of_mul_eq_mul_left (Nat.mul_pos hPp hFp);have e1 : P * F * (S * Q + R) = (Q * (S * P) + R * P) * F := (by grind);have e2 : P * F * (S * (t * Gg)) = t * (P * F * S * Gg) := (by grind);rw [e1, e2, k2]
   have k4 : R % S = 0 := by
    have : (S * Q + R) % S = 0 := (by rw [k3]; exact Nat.mul_mod_right _ _);rw [Nat.mul_add_mod] at this;exact this
   rw [Nat.mod_eq_of_lt hRl] at k4;exact hn0 k4
 ·rw [ht, hV'', hstep];simp [hmk, Nat.pos_iff_ne_zero]
 ·rw [hv];exact Nat.le_add_right _ _
end Go.Proofs.YtlblkajnmdhmdaaGreatDoor
namespace Go.Proofs.YtlblkajnmdhmdaaGreatDoor
set_option linter.unusedVariables false
open Go.RowKit Lib Go.Op
/-- What the library does at digit p. -/
def upN (N nd p : Nat) (tr : Bool) : Bool :=
 if N / 10 ^ (nd - 1 - p) % 10 = 5 ∧ p + 1 = nd then tr || decide (0 < p ∧ N / 10 ^ (nd - 1 - (p - 1)) % 10 % 2 = 1) else decide (5 ≤ N / 10 ^ (nd - 1 - p) % 10)
/-- .. and outside the digits. -/
def upI (N nd : Nat) (x : Int) (tr : Bool) : Bool := if 0 ≤ x ∧ x < nd then upN N nd x.toNat tr else false
set_option maxRecDepth 100000 in
set_option maxHeartbeats 1000000 in
theorem up_any (W w : World) (b N nd : Nat) (x dp : Int) (tr : Bool) (C : Array Value) (hw : DecW W w b C) (hr : RawC C nd dp tr) (hd : DigC C N nd) (hnd : nd ≤ 800) (hx : -2000 ≤ x ∧ x ≤ 2000) :
  Calls Tryz.prog 214 #[.pointer (some ⟨b, 0, none⟩), .int .i64 x] w fun e w' => e = .returned (.bool (upI N nd x tr)) ∧ w' = w := by
 have HD := hid hd;have HW := hid hw;have c0 : w.cell? ⟨b, 800, none⟩ = some (.int .i64 nd) := (hw.cell 800).trans hr.cnd;have f0 := hw.free 800;have c3 : w.cell? ⟨b, 803, none⟩ = some (.bool tr) := (hw.cell 803).trans hr.ctr;have f3 := hw.free 803;clear hw hr hd;by_cases hin : 0 ≤ x ∧ x < nd
 ·obtain ⟨p, rfl⟩ : ∃ p : Nat, x = p := ⟨x.toNat, by omega⟩;have hp : p < nd := (by omega);have hlt : decide ((p : Int) < 0) = false := decide_eq_false (by omega);have hge : decide (nd ≤ p) = false := decide_eq_false (by omega);have HU := hid (show upI N nd p tr = upN N nd p tr by unfold upI; rw [if_pos (by omega), Int.toNat_natCast]);obtain ⟨g, hg⟩ : ∃ g, N / 10 ^ (nd - 1 - p) % 10 = g := ⟨_, rfl⟩;have hg9 : g < 10 := (by omega);have cp : w.cell? ⟨b, p, none⟩ = some (.int .u8 ((48 + g : Nat) : Int)) := (by rw [HW.out.cell, HD.out p hp, hg]);have fp := HW.out.free p;unfold upN at HU;rw [hg] at HU;clear hg hin;by_cases hg5 : g = 5
  ·subst hg5;by_cases hp1 : p + 1 = nd
   ·have he : (((p + 1 : Nat) : Int) == (nd : Int)) = true := (by simp; omega);rw [if_pos ⟨rfl, hp1⟩] at HU;clear hp1
    cases tr with
    | true =>
     go_enter Tryz.func214, Tryz.ntmps214
     go_wp2_with fail
     go_ret;exact ⟨by rw [HU.out]; rfl, rfl⟩
    | false =>
     rcases Nat.eq_zero_or_pos p with rfl | hp0
     ·go_enter Tryz.func214, Tryz.ntmps214
      go_wp2_with fail
      go_ret;exact ⟨by rw [HU.out]; rfl, rfl⟩
     ·obtain ⟨p, rfl⟩ : ∃ p', p = p' + 1 := ⟨p - 1, by omega⟩;obtain ⟨h, hh⟩ : ∃ h, N / 10 ^ (nd - 1 - p) % 10 = h := ⟨_, rfl⟩;have hh9 : h < 10 := (by omega);have cq : w.cell? ⟨b, p, none⟩ = some (.int .u8 ((48 + h : Nat) : Int)) := (by rw [HW.out.cell, HD.out p (by omega), hh]);have fq := HW.out.free p;rw [Nat.add_sub_cancel, hh] at HU;clear hh;go_enter Tryz.func214, Tryz.ntmps214
      go_wp2_with fail
      go_ret;refine ⟨?_, rfl⟩;rw [HU.out];show Ending.returned (.bool (((48 : Int) + (h : Int) - 48) % 2 != 0)) = _;by_cases h5 : h % 2 = 1
      ·rw [decide_eq_true ⟨Nat.succ_pos _, h5⟩, show ((48 : Int) + (h : Int) - 48) % 2 = 1 by omega];rfl
      ·rw [decide_eq_false (fun hh => h5 hh.2), show ((48 : Int) + (h : Int) - 48) % 2 = 0 by omega];rfl
   ·have he : (((p + 1 : Nat) : Int) == (nd : Int)) = false := (by simp; omega);rw [if_neg (by omega)] at HU;go_enter Tryz.func214, Tryz.ntmps214
    go_wp2_with fail
    go_ret;exact ⟨by rw [HU.out]; rfl, rfl⟩
  ·have he : (((48 + g : Nat) : Int) == 53) = false := (by simp; omega);rw [if_neg (by omega)] at HU;go_enter Tryz.func214, Tryz.ntmps214
   go_wp2_with fail
   go_ret;refine ⟨?_, rfl⟩;rw [HU.out];show Ending.returned (.bool (decide ((53 : Int) ≤ 48 + (g : Int)))) = _;by_cases h5 : 5 ≤ g
   ·rw [decide_eq_true h5, decide_eq_true (by omega)]
   ·rw [decide_eq_false h5, decide_eq_false (by omega)]
 ·have HU := hid (show upI N nd x tr = false by unfold upI; rw [if_neg hin]);by_cases h0 : x < 0
  ·have hlt : decide (x < 0) = true := decide_eq_true h0;go_enter Tryz.func214, Tryz.ntmps214
   go_wp2_with fail
   go_ret;exact ⟨by rw [HU.out]; rfl, rfl⟩
  ·have hlt : decide (x < 0) = false := decide_eq_false h0;have hge : decide ((nd : Int) ≤ x) = true := decide_eq_true (by omega);go_enter Tryz.func214, Tryz.ntmps214
   go_wp2_with fail
   go_ret;exact ⟨by rw [HU.out]; rfl, rfl⟩
end Go.Proofs.YtlblkajnmdhmdaaGreatDoor
namespace Go.Proofs.YtlblkajnmdhmdaaGreatDoor
set_option linter.unusedVariables false
open Go.RowKit Lib Go.Op
theorem preP_bound {N nd : Nat} (h : N < 10 ^ nd) : ∀ r, preP N nd r < 10 ^ r
 | 0 => by rw [preP_zero h]; exact Nat.one_pos
 | r + 1 => by
  have ih := preP_bound h r;rw [Nat.pow_succ];by_cases hr : r < nd
  ·rw [preP_lt hr];omega
  ·rw [preP_ge (by omega)];omega
set_option maxRecDepth 100000 in
set_option maxHeartbeats 1000000 in
theorem rounded_any (W w : World) (b N nd : Nat) (dp : Int) (tr : Bool) (C : Array Value) (hw : DecW W w b C) (hr : RawC C nd dp tr) (hd : DigC C N nd) (hnd : nd ≤ 800) (hN : N < 10 ^ nd) (hdp : -2000 ≤ dp ∧ dp ≤ 18) :
  Calls Tryz.prog 223 #[.pointer (some ⟨b, 0, none⟩)] w fun e w' => e = .returned (.int .u64 ((preP N nd dp.toNat + (if upI N nd dp tr = true then 1 else 0) : Nat) : Int)) ∧ w' = w := by
 have HD := hid hd;have HW := hid hw;have HN := hid hN;have HUP := hid (up_any W w b N nd dp dp tr C hw hr hd hnd (by omega));have c0 : w.cell? ⟨b, 800, none⟩ = some (.int .i64 nd) := (hw.cell 800).trans hr.cnd;have f0 := hw.free 800;have c1 : w.cell? ⟨b, 801, none⟩ = some (.int .i64 dp) := (hw.cell 801).trans hr.cdp;have f1 := hw.free 801;have hgt : decide (20 < dp) = false := decide_eq_false (by omega);have HB := hid (fun r (hr : r ≤ 18) => Nat.lt_of_lt_of_le (preP_bound hN r) (Nat.pow_le_pow_right (show 0 < 10 by decide) hr));clear hw hr hd hN;obtain ⟨up, hup⟩ : ∃ up, upI N nd dp tr = up := ⟨_, rfl⟩;rw [hup] at HUP ⊢;obtain ⟨P, hPP⟩ : ∃ P, preP N nd dp.toNat = P := ⟨_, rfl⟩;have hPb := HB.out dp.toNat (by omega);rw [hPP] at hPb ⊢;have hPb' : P < 1000000000000000000 := (by simpa using hPb);have HPP := hid hPP;clear hup hPP hPb;go_enter Tryz.func223, Tryz.ntmps223
 go_upto_block 0 with fail
 go_cut [3, 4] from 10 to 36 (fun v3 v4 wx => wx = w ∧ ∃ (i n : Nat), v3 = .int .i64 i ∧ v4 = .int .u64 n ∧ Hid (preP N nd i = n) ∧ n < 1000000000000000000 ∧ i ≤ dp.toNat ∧ Hid ((i : Int) < dp → nd ≤ i))
 case first =>
  go_wp2_with fail
  go_loopw [3, 4] (fun v3 v4 wx => wx = w ∧ ∃ (i n : Nat), v3 = .int .i64 i ∧ v4 = .int .u64 n ∧ Hid (preP N nd i = n) ∧ n < 1000000000000000000 ∧ i ≤ dp.toNat ∧ i ≤ nd) (fun v3 _ _ => nd - (RowKit.intOf v3).toNat)
  case atStart => exact ⟨rfl, 0, 0, rfl, rfl, hid (preP_zero HN.out), by omega, by omega, by omega⟩
  case round =>
   obtain ⟨rfl, i, n, rfl, rfl, hP, hn, hi, hin⟩ := hrel;by_cases h1 : (i : Int) < dp
   ·have hlt : decide ((i : Int) < dp) = true := decide_eq_true h1;by_cases h2 : i < nd
    ·have hlt2 : decide (i < nd) = true := decide_eq_true h2;obtain ⟨g, hg⟩ : ∃ g, N / 10 ^ (nd - 1 - i) % 10 = g := ⟨_, rfl⟩;have hg9 : g < 10 := (by omega);have ci : wr.cell? ⟨b, i, none⟩ = some (.int .u8 ((48 + g : Nat) : Int)) := (by rw [HW.out.cell, HD.out i h2, hg]);have fi := HW.out.free i;have hs := preP_lt (N := N) h2;rw [hg, hP.out] at hs;have hb := HB.out (i + 1) (by omega);rw [hs] at hb;have HS := hid hs;have hb' : n * 10 + g < 1000000000000000000 := (by simpa using hb);clear hg hs hb
     go_wp2_with fail
     refine ⟨⟨trivial, i + 1, n * 10 + g, by go_num, ?_, hid HS.out, hb', by omega, by omega⟩, ?_⟩
     ·rw [show (n : Int) * 10 + (48 + (g : Int) - 48) = ((n * 10 + g : Nat) : Int) by omega]
     ·simp only [RowKit.intOf];omega
    ·have hlt2 : decide (i < nd) = false := decide_eq_false h2
     go_wp2_with fail
     go_meet;exact ⟨rfl, i, n, rfl, rfl, hP, hn, hi, hid fun _ => by omega⟩
   ·have hlt : decide ((i : Int) < dp) = false := decide_eq_false h1
    go_wp2_with fail
    go_meet;exact ⟨rfl, i, n, rfl, rfl, hP, hn, hi, hid fun h => absurd h (by omega)⟩
 case rest =>
  obtain ⟨hwc, i, n, rfl, rfl, hP, hn, hi, hin⟩ := hcut;subst hwc;obtain ⟨wo, hwo⟩ : ∃ wo : World, wo = wc := ⟨_, rfl⟩;subst hwo
  go_upto_block 2 with fail
  go_cut [3, 4] from 37 to 46 (fun v3 v4 wx => wx = wo ∧ v4 = .int .u64 P)
  case first =>
   go_wp2_with fail
   go_loopw [3, 4] (fun v3 v4 wx => wx = wo ∧ ∃ (i n : Nat), v3 = .int .i64 i ∧ v4 = .int .u64 n ∧ Hid (preP N nd i = n) ∧ n < 1000000000000000000 ∧ i ≤ dp.toNat ∧ Hid ((i : Int) < dp → nd ≤ i)) (fun v3 _ _ => dp.toNat - (RowKit.intOf v3).toNat)
   case atStart => exact ⟨rfl, i, n, rfl, rfl, hP, hn, hi, hin⟩
   case round =>
    clear hP hn hi hin;obtain ⟨rfl, i, n, rfl, rfl, hP, hn, hi, hin⟩ := hrel;by_cases h1 : (i : Int) < dp
    ·have hlt : decide ((i : Int) < dp) = true := decide_eq_true h1;have hs := preP_ge (N := N) (hin.out h1);rw [hP.out] at hs;have hb := HB.out (i + 1) (by omega);rw [hs] at hb;have HS := hid hs;have HI := hid (hin.out h1);have hb' : n * 10 < 1000000000000000000 := (by simpa using hb);clear hs hb
     go_wp2_with fail
     refine ⟨⟨trivial, i + 1, n * 10, by go_num, by go_num, hid HS.out, hb', by omega, hid fun _ => by have := HI.out; omega⟩, ?_⟩;simp only [RowKit.intOf];omega
    ·have hlt : decide ((i : Int) < dp) = false := decide_eq_false h1;have hid2 : i = dp.toNat := (by omega);have HE := hid hid2;clear hid2
     go_wp2_with fail
     go_meet;exact ⟨rfl, by rw [← HPP.out, ← HE.out, hP.out]⟩
  case rest =>
   obtain ⟨hwc, rfl⟩ := hcut;subst hwc;clear hP hin HB
   cases up with
   | true =>
    go_wp2_with (go_at_call 214; refine HUP.out.mono ?_; rintro e w' ⟨rfl, rfl⟩)
    go_ret;exact ⟨rfl, rfl⟩
   | false =>
    go_wp2_with (go_at_call 214; refine HUP.out.mono ?_; rintro e w' ⟨rfl, rfl⟩)
    go_ret;exact ⟨rfl, rfl⟩
end Go.Proofs.YtlblkajnmdhmdaaGreatDoor
namespace Go.Proofs.YtlblkajnmdhmdaaGreatDoor
set_option linter.unusedVariables false
theorem bound_alg {a b K j : Nat} (h1 : a * K ≤ b * K + a * j) (h2 : b + 1 ≤ a) (h3 : (b + 1) * j < K) : False := by
 obtain ⟨t, rfl⟩ : ∃ t, a = b + 1 + t := ⟨a - b - 1, by omega⟩
 have hj : j ≤ K := by
  have : 1 * j ≤ (b + 1) * j := Nat.mul_le_mul_right _ (by omega);omega
 have htj := Nat.mul_le_mul_left t hj;rw [Nat.add_mul, Nat.add_mul, Nat.one_mul, Nat.add_mul (b + 1)] at h1;omega
/-- Half numbers lie on the same side of the decimal and of what it stands for. -/
theorem DInv.bound {A B j : Nat} {G : Prop} {N nd : Nat} {dp : Int} {tr : Bool} (h : DInv A B j G N nd dp tr) {c : Nat} (hB : 0 < B) (hG : 2 * A = c * B → G) (hk : (c * B + 1) * j < kX) :
  c * B ≤ 2 * A ↔ c * zX ≤ 2 * valX N nd dp := by
 obtain ⟨_, _, _, _, hup, hlo, hex, hmk⟩ := h;have hz := zX_pos;obtain ⟨V, hV⟩ : ∃ V, valX N nd dp = V := ⟨_, rfl⟩;obtain ⟨Z, hZ⟩ : ∃ Z, zX = Z := ⟨_, rfl⟩;obtain ⟨K, hK⟩ : ∃ K, kX = K := ⟨_, rfl⟩;rw [hV, hZ] at hup hlo hex;rw [hZ] at hz;rw [hK] at hlo hk;rw [hV, hZ];clear hmk;constructor
 ·intro h1;apply Nat.le_of_not_lt;intro h2;by_cases h3 : 2 * A = c * B
  ·have h4 := hex (hG h3)
   have h5 : B * (2 * V) = B * (c * Z) := by
    have e1 : B * (2 * V) = 2 * (V * B) := (by grind);have e2 : B * (c * Z) = c * B * Z := (by grind);rw [e1, h4, e2, ← h3, Nat.mul_assoc]
   have := Nat.eq_of_mul_eq_mul_left hB h5;omega
  ·have h4 : 2 * V * (B * K) ≤ c * Z * (B * K) := Nat.mul_le_mul_right _ (Nat.le_of_lt h2)
   have h5 : Z * (2 * A * K) ≤ Z * (c * B * K + 2 * A * j) := by
    have e1 : Z * (2 * A * K) = 2 * (A * Z * K) := (by grind);have e2 : Z * (c * B * K + 2 * A * j) = c * Z * (B * K) + 2 * (A * Z * j) := (by grind);have e3 : 2 * V * (B * K) = 2 * (V * B * K) := (by grind);rw [e1, e2];rw [e3] at h4;omega
   exact bound_alg (Nat.le_of_mul_le_mul_left h5 hz) (by omega) hk
 ·intro h1;apply Nat.le_of_mul_le_mul_right (c := Z) _ hz;have h2 : B * (c * Z) ≤ B * (2 * V) := Nat.mul_le_mul_left _ h1;have e1 : B * (c * Z) = c * B * Z := (by grind);have e2 : B * (2 * V) = 2 * (V * B) := (by grind);have e3 : 2 * A * Z = 2 * (A * Z) := Nat.mul_assoc _ _ _;rw [e1, e2] at h2;rw [e3];omega
theorem rne_low {A B f : Nat} (hB : 0 < B) (h1 : 2 * f * B ≤ 2 * A) (h2 : 2 * A < (2 * f + 1) * B) : NU.rne A B = f := by
 have e1 : 2 * f * B = 2 * (f * B) := Nat.mul_assoc _ _ _;have e2 : (2 * f + 1) * B = 2 * (f * B) + B := (by rw [Nat.add_mul, Nat.one_mul, e1]);rw [e1] at h1;rw [e2] at h2
 have hq : A / B = f := by
  apply Nat.div_eq_of_lt_le
  ·omega
  ·rw [Nat.add_mul, Nat.one_mul]; omega
 have hr : A % B = A - f * B := by
  have := Nat.div_add_mod A B;rw [hq, Nat.mul_comm] at this;omega
 unfold NU.rne;rw [hq, hr, if_neg (by omega)];rfl
theorem rne_high {A B f : Nat} (hB : 0 < B) (h1 : (2 * f + 1) * B ≤ 2 * A) (h2 : 2 * A < (2 * f + 2) * B) : NU.rne A B = f + (if (2 * f + 1) * B < 2 * A ∨ f % 2 = 1 then 1 else 0) := by
 have e2 : (2 * f + 1) * B = 2 * (f * B) + B := (by rw [Nat.add_mul, Nat.one_mul, Nat.mul_assoc]);have e3 : (2 * f + 2) * B = 2 * (f * B) + 2 * B := (by rw [Nat.add_mul, Nat.mul_assoc]);rw [e2] at h1 ⊢;rw [e3] at h2
 have hq : A / B = f := by
  apply Nat.div_eq_of_lt_le
  ·omega
  ·rw [Nat.add_mul, Nat.one_mul]; omega
 have hr : A % B = A - f * B := by
  have := Nat.div_add_mod A B;rw [hq, Nat.mul_comm] at this;omega
 unfold NU.rne;rw [hq, hr];have e : (B < 2 * (A - f * B) ∨ 2 * (A - f * B) = B ∧ f % 2 = 1) ↔ (2 * (f * B) + B < 2 * A ∨ f % 2 = 1) := (by omega);simp only [e]
/-- The library's rounding of its decimal is the exact fraction's. -/
theorem DInv.round {A B j : Nat} {G : Prop} {N nd : Nat} {dp : Int} {tr : Bool} (h : DInv A B j G N nd dp tr) (hB : 0 < B) (hG : ∀ c, 2 * A = c * B → G) (hA : A < 2 ^ 54 * B) (hk : ((2 ^ 55 + 1) * B + 1) * j < kX) (h10 : N % 10 ≠ 0) (hdp : -1000 ≤ dp ∧ dp ≤ 900) (hnd : -1000 ≤ dp - nd) :
  preP N nd dp.toNat + (if upI N nd dp tr = true then 1 else 0) = NU.rne A B := by
 have hz := zX_pos;have hb : ∀ c, c ≤ 2 ^ 55 + 1 → (c * B ≤ 2 * A ↔ c * zX ≤ 2 * valX N nd dp) := fun c hc => h.bound hB (hG c) (Nat.lt_of_le_of_lt (Nat.mul_le_mul_right _ (Nat.add_le_add_right (Nat.mul_le_mul_right _ hc) 1)) hk);obtain ⟨H, hH⟩ : ∃ H, 2 * A / B = H := ⟨_, rfl⟩;have hH1 : H * B ≤ 2 * A := (by rw [← hH]; exact Nat.div_mul_le_self _ _);have hH2 : 2 * A < (H + 1) * B := (by rw [← hH, Nat.mul_comm _ B]; exact Nat.lt_mul_div_succ _ hB)
 have hH3 : H < 2 ^ 55 := by
  rw [← hH];apply Nat.div_lt_of_lt_mul;have e : 2 ^ 55 * B = 2 * (2 ^ 54 * B) := (by rw [← Nat.mul_assoc]);rw [Nat.mul_comm B, e];omega
 have hV1 := (hb H (by omega)).1 hH1
 have hV2 : 2 * valX N nd dp < (H + 1) * zX := by
  apply Nat.lt_of_not_le;intro h';have := (hb (H + 1) (by omega)).2 h';omega
 clear hb hk hH hA hH3;obtain ⟨hnd8, hnd1, hlt, hge, hup, hlo, hex, hmk⟩ := h;clear hlo hex;by_cases hneg : dp < 0
 ·have hvl : valX N nd dp < 10 ^ (e2000 - 1) := valX_lt hlt (by omega) (by rw [e2000_eq]; omega)
  have hH0 : H = 0 := by
   apply Nat.eq_zero_of_not_pos;intro hp;have h1 : 1 * zX ≤ H * zX := Nat.mul_le_mul_right _ hp
   have h2 : zX = 10 ^ (e2000 - 1) * 10 := by rw [zX_eq, ← Nat.pow_succ]; exact congrArg (10 ^ ·) (by rw [e2000_eq])
   rw [h2] at h1 hV1;generalize 10 ^ (e2000 - 1) = Y at h1 hvl hV1;omega
  subst hH0;rw [show dp.toNat = 0 by omega, preP_zero hlt, show upI N nd dp tr = false by unfold upI; rw [if_neg (by omega)], if_neg (by decide)];exact (rne_low (f := 0) hB (by omega) (by omega)).symm
 ·obtain ⟨p, rfl⟩ : ∃ p : Nat, dp = p := ⟨dp.toNat, by omega⟩;rw [Int.toNat_natCast];by_cases hpn : nd ≤ p
  ·have hv : valX N nd p = N * 10 ^ (p - nd) * zX := by
    unfold valX;rw [zX_eq, Nat.mul_assoc, ← Nat.pow_add]
    exact congrArg (N * 10 ^ ·) (by have := e2000_eq; omega)
   rw [preP_end hpn, show upI N nd p tr = false by unfold upI; rw [if_neg (by omega)], if_neg (by decide), Nat.add_zero];obtain ⟨f, hf⟩ : ∃ f, N * 10 ^ (p - nd) = f := ⟨_, rfl⟩;rw [hv, hf, ← Nat.mul_assoc] at hV1 hV2;rw [hf];have a1 := Nat.le_of_mul_le_mul_right hV1 hz;have a2 := Nat.lt_of_mul_lt_mul_right hV2;have : H = 2 * f := (by omega);subst this;exact (rne_low hB hH1 hH2).symm
  ·obtain ⟨q, hq⟩ : ∃ q, nd - p = q + 1 := ⟨nd - p - 1, by omega⟩
   have hv : valX N nd p * 10 ^ (q + 1) = N * zX := by
    unfold valX;rw [zX_eq, Nat.mul_assoc, ← Nat.pow_add]
    exact congrArg (N * 10 ^ ·) (by have := e2000_eq; omega)
   have hq0 : 0 < 10 ^ (q + 1) := Nat.pow_pos (by decide)
   have a1 : H * 10 ^ (q + 1) ≤ 2 * N := by
    apply Nat.le_of_mul_le_mul_right (c := zX) _ hz;have := Nat.mul_le_mul_right (10 ^ (q + 1)) hV1;rw [Nat.mul_assoc 2, hv, ← Nat.mul_assoc, Nat.mul_right_comm] at this;exact this
   have a2 : 2 * N < (H + 1) * 10 ^ (q + 1) := by
    apply Nat.lt_of_mul_lt_mul_right (a := zX);have := Nat.mul_lt_mul_of_pos_right hV2 hq0;rw [Nat.mul_assoc 2, hv, ← Nat.mul_assoc, Nat.mul_right_comm (H + 1)] at this;exact this
   -- the mark, told on halves
   have hmk2 : 2 * N = H * 10 ^ (q + 1) → (tr = true ↔ H * B < 2 * A) := fun e => by
    rw [hmk]
    have e1 : 2 * valX N nd p = H * zX := by
     apply Nat.eq_of_mul_eq_mul_right hq0;rw [Nat.mul_assoc, hv, ← Nat.mul_assoc, e, Nat.mul_right_comm]
    have e2 : H * B * zX = 2 * (valX N nd p * B) := (by rw [← Nat.mul_assoc, e1, Nat.mul_right_comm]);have e3 : 2 * A * zX = 2 * (A * zX) := Nat.mul_assoc _ _ _;rw [← Nat.mul_lt_mul_right hz (b := H * B), e2, e3];omega
   have hst2 : H * 10 ^ (q + 1) < 2 * N → H * B < 2 * A := fun e => by
    have e1 : H * zX < 2 * valX N nd p := by
     apply Nat.lt_of_mul_lt_mul_right (a := 10 ^ (q + 1));rw [Nat.mul_assoc 2, hv, ← Nat.mul_assoc, Nat.mul_right_comm];exact Nat.mul_lt_mul_of_pos_right e hz
    apply Nat.lt_of_mul_lt_mul_right (a := zX);have e2 := Nat.mul_lt_mul_of_pos_right e1 hB;rw [Nat.mul_assoc 2 A];have e3 : H * B * zX = H * zX * B := Nat.mul_right_comm _ _ _;rw [e3];have e4 : 2 * valX N nd p * B = 2 * (valX N nd p * B) := Nat.mul_assoc _ _ _;rw [e4] at e2;omega
   have hpre : preP N nd p = N / 10 ^ (q + 1) := (by unfold preP; rw [show p - nd = 0 by omega, Nat.pow_zero, Nat.mul_one, hq]);have hupi : upI N nd p tr = upN N nd p tr := (by unfold upI; rw [if_pos (by omega), Int.toNat_natCast]);rw [hpre, hupi];unfold upN;have hq1 : nd - 1 - p = q := (by omega);rw [hq1]
   have hpr : 0 < p → N / 10 ^ (nd - 1 - (p - 1)) % 10 % 2 = N / 10 ^ (q + 1) % 2 := fun hp => by
    rw [show nd - 1 - (p - 1) = q + 1 by omega];omega
   have hp0 : p = 0 → N / 10 ^ (q + 1) = 0 := fun hp => by
    apply Nat.div_eq_of_lt;rw [show q + 1 = nd by omega];exact hlt
   have hf1 := mod_grow N q;have hf2 := Nat.div_add_mod N (10 ^ (q + 1));have hlow : N % 10 ^ q < 10 ^ q := Nat.mod_lt _ (Nat.pow_pos (by decide));have hg9 : N / 10 ^ q % 10 < 10 := Nat.mod_lt _ (by decide)
   have hlow0 : 0 < q → 0 < N % 10 ^ q := fun h0 => by
    apply Nat.pos_of_ne_zero;intro h1;apply h10;have h2 : 10 ∣ 10 ^ q := ⟨10 ^ (q - 1), by rw [Nat.mul_comm, ← Nat.pow_succ]; exact congrArg _ (by omega)⟩;exact Nat.mod_eq_zero_of_dvd (Nat.dvd_trans h2 (Nat.dvd_of_mod_eq_zero h1))
   have hq00 : q = 0 → N % 10 ^ q = 0 := fun h0 => by rw [h0, Nat.pow_zero]; exact Nat.mod_one _
   rw [hf1] at hf2;have hps : 10 ^ (q + 1) = 10 ^ q * 10 := Nat.pow_succ _ _;have hT1 : q = 0 → 10 ^ q = 1 := fun h0 => by rw [h0, Nat.pow_zero]
   obtain ⟨f, hf⟩ : ∃ f, N / 10 ^ (q + 1) = f := ⟨_, rfl⟩;obtain ⟨g, hg⟩ : ∃ g, N / 10 ^ q % 10 = g := ⟨_, rfl⟩;obtain ⟨l, hl⟩ : ∃ l, N % 10 ^ q = l := ⟨_, rfl⟩;rw [hf] at hf2 hpr hp0 ⊢;rw [hg] at hf2 hg9 ⊢;rw [hl] at hf2 hlow hlow0 hq00;clear hf1 hf hg hl hv hpre hupi;obtain ⟨T, hTT⟩ : ∃ T, 10 ^ q = T := ⟨_, rfl⟩;rw [hTT] at hf2 hlow hps hT1;rw [hps] at a1 a2 hmk2 hst2 hf2;have e10 : T * 10 * f = 10 * (f * T) := (by grind);have eH : H * (T * 10) = 10 * (H * T) := (by grind);have eH2 : (H + 1) * (T * 10) = 10 * (H * T) + 10 * T := (by grind);rw [e10] at hf2;rw [eH] at a1 hmk2 hst2;rw [eH2] at a2;by_cases hg5 : g < 5
   ·rw [if_neg (show ¬ (g = 5 ∧ p + 1 = nd) by omega), decide_eq_false (show ¬ 5 ≤ g by omega), if_neg Bool.false_ne_true, Nat.add_zero];have hgT : g * T ≤ 4 * T := Nat.mul_le_mul_right _ (by omega)
    have hHf : H = 2 * f := by
     have b1 : H * T < (2 * f + 1) * T := (by rw [Nat.add_mul, Nat.one_mul, Nat.mul_assoc]; omega);have b2 : 2 * f * T < (H + 1) * T := (by rw [Nat.add_mul, Nat.one_mul, Nat.mul_assoc]; omega);have := Nat.lt_of_mul_lt_mul_right b1;have := Nat.lt_of_mul_lt_mul_right b2;omega
    subst hHf;exact (rne_low hB hH1 hH2).symm
   ·have hgT : 5 * T ≤ g * T := Nat.mul_le_mul_right _ (by omega);have hgT9 : g * T ≤ 9 * T := Nat.mul_le_mul_right _ (by omega)
    have hHf : H = 2 * f + 1 := by
     have b1 : H * T < (2 * f + 2) * T := (by rw [Nat.add_mul, Nat.mul_assoc]; omega);have b2 : (2 * f + 1) * T < (H + 1) * T := (by rw [Nat.add_mul, Nat.add_mul, Nat.one_mul, Nat.mul_assoc]; omega);have := Nat.lt_of_mul_lt_mul_right b1;have := Nat.lt_of_mul_lt_mul_right b2;omega
    subst hHf;have eHT : (2 * f + 1) * T = 2 * (f * T) + T := (by rw [Nat.add_mul, Nat.one_mul, Nat.mul_assoc]);rw [eHT] at hmk2 hst2;rw [rne_high hB hH1 hH2];congr 1;by_cases hhalf : g = 5 ∧ p + 1 = nd
    ·have hq0' : q = 0 := (by omega);have hl0 := hq00 hq0';have hT1' := hT1 hq0';have hm := hmk2 (by rw [hl0] at hf2; rw [hhalf.1] at hf2; omega);rw [if_pos hhalf]
     have hodd : (0 < p ∧ N / 10 ^ (nd - 1 - (p - 1)) % 10 % 2 = 1) ↔ f % 2 = 1 := by
      constructor
      ·rintro ⟨h1, h2⟩;rw [hpr h1] at h2;exact h2
      ·intro h1
       have hp : 0 < p := by
        apply Nat.pos_of_ne_zero;intro h0;have := hp0 h0;omega
       exact ⟨hp, by rw [hpr hp]; exact h1⟩
     have e : ((tr || decide (0 < p ∧ N / 10 ^ (nd - 1 - (p - 1)) % 10 % 2 = 1)) = true) ↔ ((2 * f + 1) * B < 2 * A ∨ f % 2 = 1) := by
      rw [Bool.or_eq_true, decide_eq_true_iff, hodd, hm]
     simp only [e]
    ·rw [if_neg hhalf, decide_eq_true (show 5 ≤ g by omega), if_pos rfl]
     have : (2 * f + 1) * B < 2 * A := hst2 (by
      by_cases hg6 : g = 5
      ·have := hlow0 (by omega);rw [hg6] at hf2;omega
      ·have : 6 * T ≤ g * T := Nat.mul_le_mul_right _ (by omega)
       omega)
     rw [if_pos (Or.inl this)]
end Go.Proofs.YtlblkajnmdhmdaaGreatDoor
