/-
  Plain law, no Go in sight: a word's value rounded to n decimal digits; what fixed width writing computes.
  Plain law, no Go in sight: fixed width writing of a word as Go reckons it gives the word's value rounded to n digits.
  Plain law, no Go in sight: 17 digits read back as the word; the fewest digits that read back do not end in 0.
  Plain law, no Go in sight: the steps by which the reference finds a word lead to the nearest one.
-/
import Derived.Test.YtlblkajnmdhmdaaGreatDoorZNParse
namespace Go.Proofs.YtlblkajnmdhmdaaGreatDoor.NU
end Go.Proofs.YtlblkajnmdhmdaaGreatDoor.NU
namespace Go.Proofs.YtlblkajnmdhmdaaGreatDoor.NU
end Go.Proofs.YtlblkajnmdhmdaaGreatDoor.NU
namespace Go.Proofs.YtlblkajnmdhmdaaGreatDoor.NU
end Go.Proofs.YtlblkajnmdhmdaaGreatDoor.NU
namespace Go.Proofs.YtlblkajnmdhmdaaGreatDoor.NU
set_option linter.unusedVariables false
/-- The word of n * 2^e / d. -/
def word2 (n d : Nat) (e : Int) : Nat := word (n * 2 ^ e.toNat) (d * 2 ^ (-e).toNat)
/-- The word of n * 10^e. -/
def wordE (n : Nat) (e : Int) : Nat := word (n * 10 ^ e.toNat) (10 ^ (-e).toNat)
theorem word2_zero (n d : Nat) : word2 n d 0 = word n d := by unfold word2; simp
theorem wordE_at (n i : Nat) : wordE n ((i : Int) - 348) = word (n * tn i) (td i) := by
 unfold wordE tn td;rw [show ((i : Int) - 348).toNat = i - 348 by omega, show (-((i : Int) - 348)).toNat = 348 - i by omega]
theorem word_steps {n0 d0 n d i j : Nat} {e0 e : Int} (hd0 : 0 < d0) (hn : n = n0 * 2 ^ i) (hd : d = d0 * 2 ^ j) (he : e = e0 + j - i) (hlo : -1074 ≤ e) (h1 : n < 2 ^ 53 * d) (h2 : e = -1074 ∨ 2 ^ 52 * d ≤ n) :
  word2 n0 d0 e0 = min ((e + 1074).toNat * 2 ^ 52 + rne n d) (2047 * 2 ^ 52) := by
 unfold word2;obtain ⟨a, ha⟩ : ∃ a, e0.toNat = a := ⟨_, rfl⟩;obtain ⟨b, hb⟩ : ∃ b, (-e0).toNat = b := ⟨_, rfl⟩;obtain ⟨E, hE⟩ : ∃ E, (e + 1074).toNat = E := ⟨_, rfl⟩;rw [ha, hb, hE];have hdp : 0 < d := (by rw [hd]; exact Nat.mul_pos hd0 (Nat.two_pow_pos _));have hDp : 0 < d0 * 2 ^ b := Nat.mul_pos hd0 (Nat.two_pow_pos _);obtain ⟨A, hA⟩ : ∃ A, n0 * 2 ^ a * one74 = A := ⟨_, rfl⟩;obtain ⟨Z, hZ⟩ : ∃ Z, d0 * 2 ^ b * 2 ^ E = Z := ⟨_, rfl⟩;have hZp : 0 < Z := (by rw [← hZ]; exact Nat.mul_pos hDp (Nat.two_pow_pos _))
 have hr : A * d = n * Z := by
  rw [← hA, ← hZ, hn, hd, one74_eq]
  have hk : 2 ^ a * 2 ^ e74 * 2 ^ j = 2 ^ i * 2 ^ b * 2 ^ E := by
   simp only [← Nat.pow_add]
   exact congrArg (2 ^ ·) (by rw [e74_eq]; omega)
  calc n0 * 2 ^ a * 2 ^ e74 * (d0 * 2 ^ j) = n0 * d0 * (2 ^ a * 2 ^ e74 * 2 ^ j) := by grind
   _ = n0 * 2 ^ i * (d0 * 2 ^ b * 2 ^ E) := by rw [hk]; grind
 have hnear : nearAt (n0 * 2 ^ a) (d0 * 2 ^ b) E := by
  unfold nearAt;rw [hA, hZ];constructor
  ·apply Nat.lt_of_mul_lt_mul_right (a := d);rw [hr, show 2 ^ 53 * Z * d = 2 ^ 53 * d * Z from Nat.mul_right_comm _ _ _];exact Nat.mul_lt_mul_of_pos_right h1 hZp
  ·rcases h2 with h2 | h2
   ·left; omega
   ·right;refine Nat.le_of_mul_le_mul_right (c := d) ?_ hdp;rw [hr, show 2 ^ 52 * Z * d = 2 ^ 52 * d * Z from Nat.mul_right_comm _ _ _];exact Nat.mul_le_mul_right _ h2
 rw [word_of hDp hnear];unfold wordAt;rw [hA, hZ, rne_ratio hZp hdp hr]
/-- The reference's last step. -/
theorem word_pack {q E : Nat} (h : q ≤ 2 ^ 53) (h0 : E = 0 ∨ 2 ^ 52 ≤ q) : min (E * 2 ^ 52 + q) (2047 * 2 ^ 52) =
  if q = 2 ^ 53 then (if 2045 < E + 1 then 2047 * 2 ^ 52 else (E + 2) * 2 ^ 52) else if 2045 < E then 2047 * 2 ^ 52 else if q < 2 ^ 52 then q else (E + 1) * 2 ^ 52 + q - 2 ^ 52 := by
 by_cases hq : q = 2 ^ 53
 ·rw [if_pos hq];split <;> omega
 ·rw [if_neg hq];split
  ·omega
  ·split
   ·have : E = 0 := (by omega);subst this;omega
   ·omega
theorem word_zero (d : Nat) (hd : 0 < d) : word 0 d = 0 := by
 apply word_between hd (by decide) (Or.inl rfl);have h1 : 0 < d * 2 ^ wE 0 := Nat.mul_pos hd (Nat.two_pow_pos _);have h2 : 0 < (2 * wM 0 + 1) * (d * 2 ^ wE 0) := Nat.mul_pos (by omega) h1;rw [Nat.zero_mul];exact h2
/-- Exponents, kept shut. -/
@[irreducible] def e24 : Nat := 1024
theorem e24_eq : e24 = 1024 := by unfold e24; rfl
@[irreducible] def e310 : Nat := 310
theorem e310_eq : e310 = 310 := by unfold e310; rfl
@[irreducible] def e331 : Nat := 331
theorem e331_eq : e331 = 331 := by unfold e331; rfl
theorem ten310 : 2 ^ e24 ≤ 10 ^ e310 := by decide +kernel
theorem ten331 : 2 * one74 ≤ 10 ^ e331 := by decide +kernel
theorem word_inf {n d : Nat} (hd : 0 < d) (h : d * 2 ^ e24 ≤ n) : word n d = 2047 * 2 ^ 52 := by
 have hn := nearAt_place (n := n) hd;unfold word wordAt;obtain ⟨E, hE⟩ : ∃ E, place n d = E := ⟨_, rfl⟩;rw [hE] at hn ⊢;have hZ : 0 < d * 2 ^ E := Nat.mul_pos hd (Nat.two_pow_pos _);obtain ⟨h1, h2⟩ := hn
 have hbig : 2 ^ e24 * one74 < 2 ^ 53 * 2 ^ E := by
  apply Nat.lt_of_mul_lt_mul_right (a := d);have hgen : ∀ X O Y Z : Nat, X * O * d = d * X * O ∧ Y * (d * Z) = Y * Z * d := fun X O Y Z => ⟨by grind, by grind⟩;rw [(hgen _ _ 0 0).1];refine Nat.lt_of_le_of_lt (Nat.mul_le_mul_right _ h) ?_;rw [← (hgen 0 0 _ _).2];exact h1
 have hE2 : 2046 ≤ E := by
  rw [one74_eq, ← Nat.pow_add, ← Nat.pow_add] at hbig;have hx := (Nat.pow_lt_pow_iff_right (by decide)).1 hbig;rw [e74_eq, e24_eq] at hx;clear hbig h;omega
 clear hbig h;have hq := rne_ge hZ (h2.resolve_left (by omega));omega
/-- Too small a number. -/
theorem wordE_small {n s : Nat} {e : Int} (hn : n < 10 ^ s) (h : (s : Int) + e < -330) : wordE n e = 0 := by
 unfold wordE;obtain ⟨b, hb⟩ : ∃ b, (-e).toNat = b := ⟨_, rfl⟩;rw [show e.toNat = 0 by omega, hb, Nat.pow_zero, Nat.mul_one];obtain ⟨g, hg⟩ : ∃ g, b = s + 331 + g := ⟨b - s - 331, by omega⟩;have hp : 0 < 10 ^ b := Nat.pow_pos (by decide);apply word_between hp (by decide) (Or.inl rfl);have h1 := ten331;have hm0 : wM 0 = 0 := (by decide);have he0 : wE 0 = 0 := (by decide);rw [hm0, he0];have hgp : 0 < 10 ^ g := Nat.pow_pos (by decide);have ho := one74_pos;obtain ⟨K, hK⟩ : ∃ K, one74 = K := ⟨_, rfl⟩;rw [hK] at h1 ho ⊢
 have hbig : 10 ^ b = 10 ^ s * 10 ^ e331 * 10 ^ g := by rw [← Nat.pow_add, ← Nat.pow_add]; exact congrArg (10 ^ ·) (by rw [e331_eq]; omega)
 obtain ⟨S, hS⟩ : ∃ S, 10 ^ s = S := ⟨_, rfl⟩;obtain ⟨R, hR⟩ : ∃ R, 10 ^ e331 = R := ⟨_, rfl⟩;obtain ⟨G, hG⟩ : ∃ G, 10 ^ g = G := ⟨_, rfl⟩;rw [hS] at hn hbig;rw [hR] at h1 hbig;rw [hG] at hgp hbig;rw [hbig];have a1 : n * (2 * K) < S * (2 * K) := Nat.mul_lt_mul_of_pos_right hn (by omega);have a2 : S * (2 * K) ≤ S * R := Nat.mul_le_mul_left _ h1;have a3 : S * R ≤ S * R * G := Nat.le_mul_of_pos_right _ hgp;have e1 : 2 * (n * K) = n * (2 * K) := Nat.mul_left_comm 2 n K;rw [e1, Nat.pow_zero, Nat.mul_one];omega
/-- Too great a number. -/
theorem wordE_great {n s : Nat} {e : Int} (hs : 1 ≤ s) (hn : 10 ^ (s - 1) ≤ n) (h : 310 < (s : Int) + e) : wordE n e = 2047 * 2 ^ 52 := by
 unfold wordE;have hp : 0 < 10 ^ (-e).toNat := Nat.pow_pos (by decide);apply word_inf hp;have h1 := ten310;obtain ⟨a, ha⟩ : ∃ a, e.toNat = a := ⟨_, rfl⟩;obtain ⟨b, hb⟩ : ∃ b, (-e).toNat = b := ⟨_, rfl⟩;rw [ha, hb]
 have h2 : 10 ^ b * 10 ^ e310 ≤ 10 ^ (s - 1) * 10 ^ a := by
  rw [← Nat.pow_add, ← Nat.pow_add];exact Nat.pow_le_pow_right (by decide) (by rw [e310_eq]; omega)
 have h3 : 10 ^ (s - 1) * 10 ^ a ≤ n * 10 ^ a := Nat.mul_le_mul_right _ hn;have h4 : 10 ^ b * 2 ^ e24 ≤ 10 ^ b * 10 ^ e310 := Nat.mul_le_mul_left _ h1;exact Nat.le_trans h4 (Nat.le_trans h2 h3)
theorem word_le (n d : Nat) : word n d ≤ 2047 * 2 ^ 52 := by unfold word wordAt; exact Nat.min_le_right _ _
end Go.Proofs.YtlblkajnmdhmdaaGreatDoor.NU
