/-
  Plain law, no Go in sight: scaling by a power of ten with a rounded 128 bit mantissa gives the unrounded value: the floor with a sticky bit.
  Plain law, no Go in sight: each power of ten from 10^-345 to 10^310 (reading) and from 10^-307 to 10^340 (writing) has a certificate. Written by wip/tools/gencert.py.
  Plain law, no Go in sight: rounding half even of a fraction; what is done to unrounded values; the word nearest to a fraction.
  Plain law, no Go in sight: the word nearest to a fraction, and where it is known.
  Plain law, no Go in sight: reading a decimal number of up to 19 digits by unrounded scaling gives the word nearest to it.
-/
namespace Go.Proofs.YtlblkajnmdhmdaaGreatDoor.NU
set_option linter.unusedVariables false
/-- The unrounded value of n / d, as a whole number: the floor, its lowest bit set if something is left. -/
def unround (n d : Nat) : Nat := (n / d) ||| (if n % d = 0 then 0 else 1)
/-- uscale on natural numbers. -/
def uscaleN (x hi lo s : Nat) : Nat :=
 if (x * hi / 2 ^ 64) % 2 ^ s ≠ 0 then (x * hi / 2 ^ 64 / 2 ^ s) ||| 1
 else if x * hi % 2 ^ 64 < x * lo / 2 ^ 64 then ((x * hi / 2 ^ 64 - 1) / 2 ^ s) ||| 1
 else (x * hi / 2 ^ 64 / 2 ^ s) ||| (if 1 < x * hi % 2 ^ 64 - x * lo / 2 ^ 64 then 1 else 0)
theorem unround_between {n d a : Nat} (h1 : a * d < n) (h2 : n < (a + 1) * d) : unround n d = a ||| 1 := by
 have hd : 0 < d := by
  rcases Nat.eq_zero_or_pos d with h | h
  ·subst h; simp at h2
  ·exact h
 have hq : n / d = a := by
  apply Nat.div_eq_of_lt_le
  ·omega
  ·exact h2
 have hr : n % d ≠ 0 := by
  intro h;have := Nat.div_add_mod n d;rw [hq, h, Nat.mul_comm] at this;omega
 unfold unround;rw [hq, if_neg hr]
theorem unround_exact {n d a : Nat} (hd : 0 < d) (h : n = a * d) : unround n d = a := by
 unfold unround;rw [h, Nat.mul_div_cancel _ hd, Nat.mul_mod_left, if_pos rfl];simp
/-- From the rounded product to the true one. -/
theorem between_of {V xN D M a x R : Nat} (hV : V * D = xN + R) (hR : R ≤ x * D) (hx : x < 2 ^ 64) (h1 : a * M + 2 ^ 64 ≤ V) (h2 : V < (a + 1) * M) (hD : 0 < D) : a * (M * D) < xN ∧ xN < (a + 1) * (M * D) := by
 have e1 : (a * M + 2 ^ 64) * D ≤ V * D := Nat.mul_le_mul_right D h1;have e2 : (V + 1) * D ≤ (a + 1) * M * D := Nat.mul_le_mul_right D h2;have e3 : x * D < 2 ^ 64 * D := Nat.mul_lt_mul_of_pos_right hx hD;have e4 : (a * M + 2 ^ 64) * D = a * (M * D) + 2 ^ 64 * D := (by rw [Nat.add_mul, Nat.mul_assoc]);have e5 : (V + 1) * D = V * D + D := (by rw [Nat.add_mul, Nat.one_mul]);have e6 : (a + 1) * M * D = (a + 1) * (M * D) := Nat.mul_assoc _ _ _;constructor <;> omega
theorem uscale_unround {x hi lo s N D : Nat} (hx : x < 2 ^ 64) (hx0 : 2 ^ 63 ≤ x) (hlo : lo < 2 ^ 64) (hhi : 2 ^ 63 ≤ hi) (hD : 0 < D) (h1 : N ≤ (hi * 2 ^ 64 - lo) * D) (h2 : (hi * 2 ^ 64 - lo) * D ≤ N + D)
  (hex : (x * hi / 2 ^ 64) % 2 ^ s = 0 → x * hi % 2 ^ 64 = x * lo / 2 ^ 64 ∨ x * hi % 2 ^ 64 = x * lo / 2 ^ 64 + 1 → x * N = (x * hi / 2 ^ 64 / 2 ^ s) * (2 ^ 128 * 2 ^ s * D)) :
  uscaleN x hi lo s = unround (x * N) (2 ^ 128 * 2 ^ s * D) := by
 obtain ⟨H, hH⟩ : ∃ H, x * hi / 2 ^ 64 = H := ⟨_, rfl⟩;obtain ⟨L, hL⟩ : ∃ L, x * hi % 2 ^ 64 = L := ⟨_, rfl⟩;obtain ⟨m2, hm2⟩ : ∃ m2, x * lo / 2 ^ 64 = m2 := ⟨_, rfl⟩;obtain ⟨l2, hl2⟩ : ∃ l2, x * lo % 2 ^ 64 = l2 := ⟨_, rfl⟩;obtain ⟨S, hS⟩ : ∃ S, 2 ^ s = S := ⟨_, rfl⟩;obtain ⟨a, ha⟩ : ∃ a, H / S = a := ⟨_, rfl⟩;obtain ⟨b, hb⟩ : ∃ b, H % S = b := ⟨_, rfl⟩;have hSp : 0 < S := (by rw [← hS]; exact Nat.two_pow_pos s);have hHab : H = S * a + b := (by rw [← ha, ← hb]; exact (Nat.div_add_mod H S).symm);have hbS : b < S := (by rw [← hb]; exact Nat.mod_lt _ hSp);have eP : x * hi = 2 ^ 64 * H + L := (by rw [← hH, ← hL]; exact (Nat.div_add_mod _ _).symm);have eQ : x * lo = 2 ^ 64 * m2 + l2 := (by rw [← hm2, ← hl2]; exact (Nat.div_add_mod _ _).symm);have hLb : L < 2 ^ 64 := (by rw [← hL]; exact Nat.mod_lt _ (by decide));have hl2b : l2 < 2 ^ 64 := (by rw [← hl2]; exact Nat.mod_lt _ (by decide))
 -- the product
 have hlo64 : lo ≤ hi * 2 ^ 64 := by
  have : 2 ^ 63 * 2 ^ 64 ≤ hi * 2 ^ 64 := Nat.mul_le_mul_right _ hhi;omega
 obtain ⟨pm, hpm⟩ : ∃ pm, hi * 2 ^ 64 - lo = pm := ⟨_, rfl⟩;have hpm' : pm + lo = hi * 2 ^ 64 := (by omega);have eV : x * pm + x * lo = x * hi * 2 ^ 64 := (by rw [← Nat.mul_add, hpm', Nat.mul_assoc]);obtain ⟨V, hV⟩ : ∃ V, x * pm = V := ⟨_, rfl⟩
 obtain ⟨R, hR⟩ : ∃ R, V * D = x * N + R := ⟨V * D - x * N, by
  have : x * N ≤ x * (pm * D) := Nat.mul_le_mul_left x (hpm ▸ h1);rw [← Nat.mul_assoc, hV] at this
  omega⟩
 have hRx : R ≤ x * D := by
  have : x * (pm * D) ≤ x * (N + D) := Nat.mul_le_mul_left x (hpm ▸ h2);rw [← Nat.mul_assoc, hV, Nat.mul_add] at this;omega
 have hxlo : x * lo ≤ (2 ^ 64 - 1) * (2 ^ 64 - 1) := Nat.mul_le_mul (by omega) (by omega)
 -- in multiples of M
 have hM : S * a * 2 ^ 128 = a * (2 ^ 128 * S) := (by rw [Nat.mul_comm S a, Nat.mul_assoc, Nat.mul_comm S]);obtain ⟨aM, haM⟩ : ∃ aM, a * (2 ^ 128 * S) = aM := ⟨_, rfl⟩;have hbM : (b + 1) * 2 ^ 128 ≤ 2 ^ 128 * S := (by rw [Nat.mul_comm]; exact Nat.mul_le_mul_left _ hbS)
 have eV2 : V + (2 ^ 64 * m2 + l2) = aM + b * 2 ^ 128 + L * 2 ^ 64 := by
  rw [hV, eQ, eP, hHab] at eV;rw [← haM, ← hM]
  have : (2 ^ 64 * (S * a + b) + L) * 2 ^ 64 = S * a * 2 ^ 128 + b * 2 ^ 128 + L * 2 ^ 64 := by
   have gen : ∀ W : Nat, (W * (S * a + b) + L) * W = S * a * (W * W) + b * (W * W) + L * W := (by intro W; grind);have g := gen (2 ^ 64);rw [show (2 ^ 64 * 2 ^ 64 : Nat) = 2 ^ 128 from by decide] at g;exact g
  rw [← this]; exact eV
 have hMb : 2 ^ 128 ≤ 2 ^ 128 * S := Nat.le_mul_of_pos_right _ hSp;have eA1 : (a + 1) * (2 ^ 128 * S) = aM + 2 ^ 128 * S := (by rw [Nat.add_mul, Nat.one_mul, haM]);rw [hpm] at h1 h2;unfold uscaleN;rw [hH, hL, hm2, hS, ha, hb];rw [hH, hL, hm2, hS, ha, hb] at hex;rw [eQ] at hxlo;by_cases hb0 : b = 0
 ·rw [if_neg (by simpa using hb0)];subst hb0;by_cases hlt : L < m2
  ·rw [if_pos hlt]
   have ha1 : 1 ≤ a := by
    apply Nat.pos_of_ne_zero;intro h0;subst h0;have h62 : 2 ^ 63 * 2 ^ 63 ≤ x * hi := Nat.mul_le_mul hx0 hhi;rw [eP, hHab] at h62;omega
   obtain ⟨a', rfl⟩ : ∃ a', a = a' + 1 := ⟨a - 1, by omega⟩
   have hq : (H - 1) / S = a' := by
    apply Nat.div_eq_of_lt_le
    ·rw [hHab, Nat.mul_add, Nat.mul_comm]; omega
    ·rw [hHab, Nat.mul_comm (a' + 1)]; have : 0 < S * (a' + 1) := Nat.mul_pos hSp (by omega); omega
   rw [hq];have haM' : a' * (2 ^ 128 * S) + 2 ^ 128 * S = aM := (by rw [← haM, Nat.add_mul, Nat.one_mul]);obtain ⟨hA, hB⟩ := between_of (M := 2 ^ 128 * S) (a := a') hR hRx hx (by omega) (by rw [Nat.add_mul, Nat.one_mul]; omega) hD;exact (unround_between hA hB).symm
  ·rw [if_neg hlt];by_cases h2' : 1 < L - m2
   ·rw [if_pos h2'];obtain ⟨hA, hB⟩ := between_of (M := 2 ^ 128 * S) (a := a) hR hRx hx (by rw [haM]; omega) (by rw [eA1]; omega) hD;exact (unround_between hA hB).symm
   ·rw [if_neg h2'];have he := hex rfl (by omega);rw [unround_exact (Nat.mul_pos (Nat.mul_pos (by decide) hSp) hD) he];simp
 ·rw [if_pos (by simpa using hb0)];obtain ⟨hA, hB⟩ := between_of (M := 2 ^ 128 * S) (a := a) hR hRx hx (by rw [haM]; omega) (by rw [eA1]; omega) hD;exact (unround_between hA hB).symm
/-! ### The certificate: no near miss -/
theorem ring_cert (x1 z A a M k1 y y1 : Int) (h1 : x1 * A - k1 * M = y1) (h2 : z * A - a * M = y) : x1 * y - y1 * z = M * (k1 * z - x1 * a) := by
 subst h1; subst h2; grind
theorem cert_core {x1 k1 A M W X z a : Nat} {y1 y : Int} (h1 : (x1 : Int) * A - k1 * M = y1) (hb : x1 * W + y1.natAbs * X < M) (hz : z ≤ X) (h2 : (z : Int) * A - a * M = y) (hy : y.natAbs ≤ W) : k1 * z = x1 * a ∧ (x1 : Int) * y = y1 * z := by
 have hr := ring_cert x1 z A a M k1 y y1 h1 h2;have b1 : ((x1 : Int) * y).natAbs ≤ x1 * W := (by rw [Int.natAbs_mul, Int.natAbs_natCast]; exact Nat.mul_le_mul_left _ hy);have b2 : (y1 * (z : Int)).natAbs ≤ y1.natAbs * X := (by rw [Int.natAbs_mul, Int.natAbs_natCast]; exact Nat.mul_le_mul_left _ hz);have b3 : ((x1 : Int) * y - y1 * z).natAbs < M := (by omega)
 have hzero : (k1 : Int) * z - x1 * a = 0 := by
  apply Classical.byContradiction;intro hne;have : M * 1 ≤ M * ((k1 : Int) * z - x1 * a).natAbs := Nat.mul_le_mul_left _ (by omega);rw [hr, Int.natAbs_mul, Int.natAbs_natCast] at b3;omega
 refine ⟨?_, ?_⟩
 ·have : (k1 : Int) * z = x1 * a := (by omega)
  exact_mod_cast this
 ·rw [hzero, Int.mul_zero] at hr;omega
/-- The check on a certificate (x1, k1) for the factor A modulo M, at numbers z from Xl to X; N and D: the true factor. -/
def certOk (A M N D X Xl x1 k1 : Nat) : Bool :=
 decide (x1 * 2 ^ 64 + ((x1 : Int) * A - k1 * M).natAbs * X < M) && decide (0 < x1) && decide (0 < Xl) &&
  (decide (x1 * 2 ^ 64 < ((x1 : Int) * A - k1 * M).natAbs * Xl) || (decide (Nat.gcd x1 k1 = 1) && (decide (X < x1) || decide (x1 * N = k1 * M * D))))
theorem cert_use {A M N D X Xl x1 k1 z a : Nat} {y : Int} (hc : certOk A M N D X Xl x1 k1 = true) (hz : z ≤ X) (hzl : Xl ≤ z) (h2 : (z : Int) * A - a * M = y) (hy : y.natAbs ≤ 2 ^ 64) : z * N = a * M * D := by
 unfold certOk at hc;simp only [Bool.and_eq_true, Bool.or_eq_true, decide_eq_true_eq] at hc;obtain ⟨⟨⟨hb, hx1⟩, hXl⟩, hcase⟩ := hc;obtain ⟨e1, e2⟩ := cert_core rfl hb hz h2 hy
 rcases hcase with hs | ⟨hg, hs⟩
 ·exfalso;have b1 : ((x1 : Int) * y).natAbs ≤ x1 * 2 ^ 64 := (by rw [Int.natAbs_mul, Int.natAbs_natCast]; exact Nat.mul_le_mul_left _ hy);rw [e2, Int.natAbs_mul, Int.natAbs_natCast] at b1;have b2 : ((x1 : Int) * A - k1 * M).natAbs * Xl ≤ ((x1 : Int) * A - k1 * M).natAbs * z := Nat.mul_le_mul_left _ hzl;omega
 ·have hd : x1 ∣ z := (Nat.Coprime.dvd_of_dvd_mul_left (m := k1) (by exact hg) ⟨a, e1⟩);obtain ⟨t, rfl⟩ := hd
  rcases hs with hs | hs
  ·exfalso;have : 0 < t := Nat.pos_of_ne_zero (fun h => by subst h; simp at hzl; omega);have : x1 * 1 ≤ x1 * t := Nat.mul_le_mul_left _ this;omega
  ·have ea : a = k1 * t := by
    have : x1 * (k1 * t) = x1 * a := (by rw [← e1]; grind);exact (Nat.eq_of_mul_eq_mul_left hx1 this).symm
   subst ea;have : x1 * t * N = t * (x1 * N) := (by grind);rw [this, hs]
   grind
/-- uscale at a number with a certificate, for a shift of s0 bits or more. -/
theorem uscale_cert {x z hi lo s s0 sh N D x1 k1 X Xl : Nat} (hxz : x = z * 2 ^ sh) (hx : x < 2 ^ 64) (hx0 : 2 ^ 63 ≤ x) (hlo : lo < 2 ^ 64) (hhi : 2 ^ 63 ≤ hi) (hD : 0 < D) (h1 : N ≤ (hi * 2 ^ 64 - lo) * D) (h2 : (hi * 2 ^ 64 - lo) * D ≤ N + D) (hs : s0 ≤ s)
  (hzX : z ≤ X) (hzl : Xl ≤ z) (hc : certOk ((hi * 2 ^ 64 - lo) * 2 ^ sh) (2 ^ 128 * 2 ^ s0) (2 ^ sh * N) D X Xl x1 k1 = true) : uscaleN x hi lo s = unround (x * N) (2 ^ 128 * 2 ^ s * D) := by
 refine uscale_unround hx hx0 hlo hhi hD h1 h2 fun hm hL => ?_;obtain ⟨H, hH⟩ : ∃ H, x * hi / 2 ^ 64 = H := ⟨_, rfl⟩;obtain ⟨L, hLe⟩ : ∃ L, x * hi % 2 ^ 64 = L := ⟨_, rfl⟩;obtain ⟨m2, hm2⟩ : ∃ m2, x * lo / 2 ^ 64 = m2 := ⟨_, rfl⟩;obtain ⟨l2, hl2⟩ : ∃ l2, x * lo % 2 ^ 64 = l2 := ⟨_, rfl⟩;have hl2b : l2 < 2 ^ 64 := (by rw [← hl2]; exact Nat.mod_lt _ (by decide));have eP : x * hi = 2 ^ 64 * H + L := (by rw [← hH, ← hLe]; exact (Nat.div_add_mod _ _).symm);have eQ : x * lo = 2 ^ 64 * m2 + l2 := (by rw [← hm2, ← hl2]; exact (Nat.div_add_mod _ _).symm);rw [hH] at hm ⊢;rw [hLe, hm2] at hL;obtain ⟨a, ha⟩ : ∃ a, H / 2 ^ s = a := ⟨_, rfl⟩;rw [ha];have hHa : H = 2 ^ s * a := (by rw [← ha]; have := Nat.div_add_mod H (2 ^ s); rw [hm] at this; omega)
 have hlo64 : lo ≤ hi * 2 ^ 64 := by
  have : 2 ^ 63 * 2 ^ 64 ≤ hi * 2 ^ 64 := Nat.mul_le_mul_right _ hhi;omega
 obtain ⟨pm, hpm⟩ : ∃ pm, hi * 2 ^ 64 - lo = pm := ⟨_, rfl⟩;have hpm' : pm + lo = hi * 2 ^ 64 := (by omega);have eV : x * pm + x * lo = x * hi * 2 ^ 64 := (by rw [← Nat.mul_add, hpm', Nat.mul_assoc]);obtain ⟨d, rfl⟩ : ∃ d, s = s0 + d := ⟨s - s0, by omega⟩;have hpow : 2 ^ 128 * 2 ^ (s0 + d) = (2 ^ 128 * 2 ^ s0) * 2 ^ d := (by rw [Nat.pow_add, Nat.mul_assoc]);obtain ⟨M0, hM0⟩ : ∃ M0, 2 ^ 128 * 2 ^ s0 = M0 := ⟨_, rfl⟩
 have eV2 : x * pm + (2 ^ 64 * m2 + l2) = a * 2 ^ d * M0 + L * 2 ^ 64 := by
  rw [eQ, eP, hHa] at eV;rw [eV, ← hM0];have gen : ∀ W S D' : Nat, (W * (S * D' * a) + L) * W = a * D' * (W * W * S) + L * W := (by intro W S D'; grind);have g := gen (2 ^ 64) (2 ^ s0) (2 ^ d);rw [show (2 ^ 64 * 2 ^ 64 : Nat) = 2 ^ 128 from by decide] at g;rw [Nat.pow_add];exact g
 have hzA : x * pm = z * (pm * 2 ^ sh) := (by rw [hxz]; grind);rw [hpm, hM0] at hc
 have key := cert_use (a := a * 2 ^ d) (y := (x * pm : Int) - (a * 2 ^ d * M0 : Nat)) hc hzX hzl (by
  have : ((x * pm : Nat) : Int) = ((z * (pm * 2 ^ sh) : Nat) : Int) := (by rw [hzA]);push_cast at this ⊢
  omega) (by
  have e3 : ((x * pm : Nat) : Int) + (2 ^ 64 * m2 + l2 : Nat) = (a * 2 ^ d * M0 : Nat) + (L * 2 ^ 64 : Nat) := (by exact_mod_cast eV2);have e4 : ((x * pm : Nat) : Int) = (x : Int) * pm := (by push_cast; rfl)
  rcases hL with rfl | rfl <;> omega)
 have e5 : x * N = z * (2 ^ sh * N) := (by rw [hxz]; grind);rw [e5, key, hpow, hM0]
 grind
end Go.Proofs.YtlblkajnmdhmdaaGreatDoor.NU
namespace Go.Proofs.YtlblkajnmdhmdaaGreatDoor.NU
set_option linter.unusedVariables false
/-- 10^(i - 348) * 2^(127 - lp) as a fraction, lp the floor of its binary logarithm. -/
def numD (i : Nat) : Nat × Nat :=
 if 348 ≤ i then
  let p := i - 348
  let l := p * 108853 / 32768
  if l ≤ 127 then (10 ^ p * 2 ^ (127 - l), 1) else (10 ^ p, 2 ^ (l - 127))
 else
  let q := 348 - i
  let l := (q * 108853 + 32767) / 32768
  (2 ^ (127 + l), 10 ^ q)
/-- The mantissa of 128 bits: the fraction rounded up. -/
def pmI (i : Nat) : Nat := ((numD i).1 + (numD i).2 - 1) / (numD i).2
def hiI (i : Nat) : Nat := (pmI i + (2 ^ 64 - 1)) / 2 ^ 64
def loI (i : Nat) : Nat := hiI i * 2 ^ 64 - pmI i
/-- What is checked of an index with its certificate. -/
def idxOk (i s0 sh X Xl x1 : Nat) : Bool :=
 decide (loI i < 2 ^ 64) && decide (2 ^ 63 ≤ hiI i) && decide (hiI i < 2 ^ 64) && decide (0 < (numD i).2) && decide ((numD i).1 ≤ (hiI i * 2 ^ 64 - loI i) * (numD i).2) && decide ((hiI i * 2 ^ 64 - loI i) * (numD i).2 ≤ (numD i).1 + (numD i).2) &&
  certOk ((hiI i * 2 ^ 64 - loI i) * 2 ^ sh) (2 ^ 128 * 2 ^ s0) (2 ^ sh * (numD i).1) (numD i).2 X Xl x1 ((x1 * ((hiI i * 2 ^ 64 - loI i) * 2 ^ sh) + 2 ^ 128 * 2 ^ s0 / 2) / (2 ^ 128 * 2 ^ s0))
def allOk (s0 sh X Xl : Nat) : Nat → List Nat → Bool
 | _, [] => true
 | i, x1 :: l => idxOk i s0 sh X Xl x1 && allOk s0 sh X Xl (i + 1) l
theorem allOk_at {s0 sh X Xl : Nat} : ∀ {l : List Nat} {i j : Nat}, allOk s0 sh X Xl i l = true → j < l.length → ∃ x1, idxOk (i + j) s0 sh X Xl x1 = true := by
 intro l
 induction l with
 | nil => intro i j h hj; simp at hj
 | cons x l ih =>
  intro i j h hj;unfold allOk at h;rw [Bool.and_eq_true] at h
  cases j with
  | zero => exact ⟨x, h.1⟩
  | succ j =>
   obtain ⟨x1, hx⟩ := ih h.2 (by simpa using hj);exact ⟨x1, by rw [show i + (j + 1) = i + 1 + j by omega]; exact hx⟩
def readCerts : List Nat := [
  213808759537455012162, 168091799068065902099, 209615914269160961655, 208019643658212430555, 83207857463284972222, 42625541922649546015, 17050216769059818406, 104147203433854264265, 20829440686770852853,
  83317762747083411412, 10669650006965962891, 219670380760016679798, 61633254225218618783, 67959639780021041275, 54367711824016833020, 43494169459213466416, 123622354199397533242, 47157570987310526457, 202644539531601184799,
  29317503440432973783, 75194315124553879163, 111895764471850603467, 36343166061304638193, 128152790669134472077, 193951173361310116185, 38790234672262023237, 155160938689048092948, 219211946505456665323,
  167971140252329807423, 253956990499656642206, 159772611251829510159, 171211070149359411733, 125457234559239805437, 69842410594903788407, 69842410594903788407, 145996780209574798959, 145996780209574798959,
  50319404538527875238, 270803004874692721703, 35620497849450218807, 35620497849450218807, 117745946474661000551, 193340723344085575817, 142759319817801865475, 228414911708482984760, 182731929366786387808,
  66732837667502511521, 186225246093930617159, 175464432150453359969, 192681734460016971473, 255980586396372870859, 257094657856752580185, 205675726285402064148, 9838157730118219477, 39352630920472877908,
  118252570309696542566, 102433646922196227866, 115088785632196479626, 277597853112490997657, 277597853112490997657, 136209731484711854015, 108967785187769483212, 162146000636719582359, 117514344845664075107,
  235930732049618516753, 94552701291505480009, 189105402583010960018, 26763409916274451695, 21410727933019561356, 190894168742494956523, 7843338111335386270, 6274670489068309016, 72749731965783704925, 58199785572626963940,
  46559828458101571152, 103741127554438706369, 112238304065027157621, 60545241230545533571, 121090482461091067142, 93628801444613772963, 93628801444613772963, 206277661920802992483, 128838612894235247905,
  103070890315388198324, 154823745537124850822, 10437535069964351834, 124902749936696315841, 266436021804760413383, 113296151675026459267, 282443043367218592556, 231539508695491441447, 98200877479913143981,
  41980471502848898405, 8396094300569779681, 8396094300569779681, 33584377202279118724, 123865256317812767831, 239352710642582570010, 191482168514066056008, 207518891551229603339, 264867691312259768945,
  211894153049807815156, 176609820893474073429, 134193358261151437439, 134193358261151437439, 28070129382055085671, 36835265675227523573, 259266636128622882583, 170294087947264738979, 105236856134539462679,
  1145285234179020599, 167691798674755727927, 67992947657245507650, 108788716251592812240, 87030973001274249792, 136973469661550673035, 27394693932310134607, 109578775729240538428, 181175685755441197869,
  84169563479489151916, 85095708824099851935, 68076567059279881548, 145623702901763185313, 188720274009342983891, 20505426358836677347, 20505426358836677347, 224337392590536210409, 4345544743100783551, 114721658672771757527,
  144618861996287362714, 89274322067994911825, 71419457654395929460, 57135566123516743568, 60697675400053508933, 57847987978824096641, 57847987978824096641, 231391951915296386564, 19703660036889033245, 15762928029511226596,
  63051712118044906384, 160818483803885859643, 249516107903651874405, 199612886322921499524, 245072580278973980405, 49014516055794796081, 49014516055794796081, 196058064223179184324, 13443041041295089981,
  294872645299273568945, 235898116239418855156, 121070477056514039897, 65983259168725250991, 61624842656350666157, 246499370625402664628, 173619859860076024739, 186055161168553033718, 121581337747913427414,
  136685995160051084233, 94095323025740775995, 75276258420592620796, 10894995926725758655, 2178999185345151731, 8715996741380606924, 177541387226714853190, 142033109781371882552, 156171991711527016513, 8612187254057188965,
  6889749803245751172, 139061580465875403113, 139061580465875403113, 142723304003702269984, 246104058468652105601, 75203944297422979067, 150407888594845958134, 94876480850750820731, 35941849520234127997,
  194932588785482266766, 150829551957931237935, 30165910391586247587, 60331820783172495174, 241327283132689980696, 234844754253706578350, 187875803402965262680, 150300642722372210144, 148911012706455147827,
  210698825814504506665, 84279530325801802666, 73576641875138433341, 90701263396199824261, 90701263396199824261, 58200020905438510082, 20180991902065200335, 8072396760826080134, 122987901463758112627, 122987901463758112627,
  83138137258598783025, 133021019613758052840, 106416815691006442272, 56488699992672703457, 225954799970690813828, 216027075510287386385, 86410830204114954554, 71077153900644124127, 248083795092910204922,
  194844554023361534779, 166743089371589115299, 63074753697669016961, 126149507395338033922, 67370743007749453021, 67370743007749453021, 164166199186342661541, 309745459771498267264, 94782331791568185761,
  189564663583136371522, 215013872357478398869, 215013872357478398869, 100087800875406741947, 108001545198961363267, 104836047469539514739, 193769681812246084175, 38753936362449216835, 62006298179918746936,
  248025192719674987744, 266081792739530958847, 280777404578411078930, 266081792739530958847, 81556795649731126117, 229176793321570992301, 124566024089295460425, 99652819271436368340, 79722255417149094672,
  122592720506052856963, 44074200041035448273, 251259265488055707808, 82874026178808103814, 192720009772563755865, 154176007818051004692, 117163153197865110465, 23432630639573022093, 23432630639573022093,
  93730522558292088372, 199378953997328310586, 177057476821446652759, 18160049857826648233, 191282648590586649374, 282323747913082627710, 97385074271067168359, 97385074271067168359, 107333506203333333303,
  72358849267812931937, 70431220950395228573, 43800835224171299835, 2379603422617622832449, 70081336358674079736, 245031716169175608790, 80365871834909888439, 62336974807154217125, 24934789922861686850,
  19947831938289349480, 31916531101262959168, 127666124405051836672, 43415129535150010110, 69464207256240016176, 121235556519507473786, 161144795073954227635, 128915836059163382108, 71506846175006745055,
  28602738470002698022, 123317396131653587109, 281711443113340137028, 3507665085003296281, 3507665085003296281, 3507665085003296281, 280362796071532679315, 266332135731519494191, 182248337982932792713, 223735020301115160603,
  240329693228388107759, 31588491405232524797, 241610376787838803371, 119695432948517262185, 95756346358813809748, 227690827012177587709, 115903221750896199121, 72834426242229567899, 78155692152271045717,
  156311384304542091434, 75588229458851611838, 85201022559472320125, 68160818047577856100, 109057308876124569760, 87245847100899655808, 39998462235048470421, 187591510043497613798, 26479237567378029914,
  268371330988742546180, 94287861377556115867, 209472796383817675902, 58662424189404213937, 61985873566126555635, 24794349426450622254, 99177397705802489016, 306876094300042720324, 171404746454654807310,
  137123797163723845848, 93219542812847969081, 93219542812847969081, 213071997376118051131, 261012979201426083951, 30896266439947526415, 12358506575979010566, 175870491749498309453, 206671467406164799423,
  182030686880831607447, 75831386216699428651, 75831386216699428651, 186264514923095703125, 37252902984619140625, 7450580596923828125, 1490116119384765625, 298023223876953125, 59604644775390625, 11920928955078125,
  2384185791015625, 476837158203125, 95367431640625, 19073486328125, 3814697265625, 762939453125, 152587890625, 30517578125, 6103515625, 1220703125, 244140625, 48828125, 9765625, 1953125, 390625, 78125,
  15625, 3125, 625, 500, 400, 320, 512, 2048, 8192, 32768, 262144, 1048576, 4194304, 33554432, 134217728, 536870912, 4294967296, 17179869184, 68719476736, 549755813888, 2199023255552, 8796093022208, 70368744177664,
  281474976710656, 1125899906842624, 9007199254740992, 36028797018963968, 144115188075855872, 1152921504606846976, 4611686018427387904, 18446744073709551616, 147573952589676412928, 239934976423069782409,
  136327681294666825997, 110151372361655730329, 65001596091071168666, 242684360188807863127, 60096622936888280424, 157629940700662373961, 157629940700662373961, 154267346163910750283, 154267346163910750283,
  238790487176186418738, 17967474373362407223, 241533705114133081357, 137733233319134885925, 110186586655307908740, 176298538648492653984, 263445388573185697173, 75928237694555284285, 60742590155644227428,
  157282354540044726165, 31456470908008945233, 62259110684423957791, 251128702358796415724, 188451139750152341021, 62259110684423957791, 261140374299210663000, 208912299439368530400, 117927747582031399679,
  267407743282391718912, 16525611975952477901, 33051223951904955802, 93801091653273103527, 90402394984357170694, 129282310313232785238, 116163634812097948769, 83189247832589752833, 23534039115947294951,
  80671821735640179237, 80671821735640179237, 161343643471280358474, 50551905639491764073, 101103811278983528146, 238739038935457357139, 132540964944381404356, 213589316003139056171, 213589316003139056171,
  244103070567797419502, 85436422996202571183, 7322325862592278999, 135233811621405658093, 212758779030263214127, 278394072521335097776, 1585289855704756318, 220971439175792846271, 46730751604286179363,
  242200203586634928125, 193760162869307942500, 155008130295446354000, 248013008472714166400, 198410406778171333120, 158728325422537066496, 11637750841355304091, 270258171853956732121, 126723670087751179394,
  159569035110671545333, 159569035110671545333, 103882357538596431874, 136545264321286120445, 109236211457028896356, 123264188299372284345, 49305675319748913738, 189569640927170908291, 233606017394064887278,
  11492102305297794266, 85397935343917498925, 68318348275133999140, 54654678620107199312, 25902381998741210731, 190436400783587764237, 190436400783587764237, 101712153240480344861, 96516990961531174667,
  53754064753759368645, 86006503606014989832, 207988989816020696997, 175460326826685841753, 219621527165892294259, 254002907813145481647, 138649192428986014033, 8643988913946659879, 114376949508767475178,
  37770680418208906505, 30216544334567125204, 35600952588064798515, 7120190517612959703, 14240381035225919406, 155106833948825360479, 194364957871994033621, 194364957871994033621, 29296988893330378603, 117187955573321514412,
  194793516447246778285, 77917406578898711314, 96430770199280087891, 43047771223262951473, 231775220520721453277, 207941566269653594323, 64109703107007150566, 76599668665912864666, 238122922989321312491,
  36301439843531518077, 5529436763613147623, 229011552940433827119, 48014085293532024473, 279993131176336479339, 20823910234383943289, 124491598611164957709, 90372559027740405, 18074511805548081, 265530263436642671947,
  159332617671430041633, 201782756758626216829, 12792880163936606418, 84550966752631468657, 169101933505262937314, 146851028779235036705, 117480823023388029364, 93627457764082191326, 178963771715640860015,
  71585508686256344006, 238793574227056752117, 9299437776150998265, 3719775110460399306, 119049075174402042679, 154762170562755728994, 63095847126036389971, 111190567024997305201, 111190567024997305201,
  222381134049994610402, 265121265047799330739, 191617069922335882736, 52365135447724869357, 24747804584395849625, 19798243667516679700, 15838594934013343760, 25341751894421350016, 129318226667077356762,
  178250395424969103797, 178250395424969103797, 178250395424969103797, 21782907629175892257, 146956897865810461489, 105600464822826990699, 204855904125987320595, 163884723300789856476, 132993187293022828015,
  53197274917209131206, 114812097700017230437, 114812097700017230437, 109424867066033890901, 109424867066033890901, 111283201219817927567, 240363040714517752649, 82493898674823503885, 65995118939858803108,
  216293311846588456313, 216293311846588456313, 177599236959902074209, 177599236959902074209, 204189279880433882419, 204189279880433882419, 6802601037806061975, 1360520207561212395, 1088416166048969916,
  4353664664195879664, 261068405882122147619, 222786451631124533020, 178229161304899626416, 35928102174759596755, 7185620434951919351, 14371240869903838702, 57484963479615354808, 184830753261360872287, 6014546754280072926,
  135234054425100544685, 267479484982301272137, 75133345704476341577, 75133345704476341577, 9250317119603650245, 3700126847841460098, 235616541352130394919, 41203105313879742827, 163771369893376470239, 98679242480882882571,
  216261492368228340801, 162927589944469298956, 267660170339097473909, 152836767596813001145, 244538828154900801832, 195944385795400196514, 78691077589639633654, 7555784487484408317, 279012272441790697634,
  18834285859197779783, 131227878500370444274, 133172519337691623673, 236599109468131035573, 112487201311603741293, 224974402623207482586, 195898589342852950820, 156718871474282360656, 66790905449214049793,
  91470436730125261601, 8422274833660567597, 61385164616975414645, 24554065846790165858, 117801323100837429985, 94241058480669943988, 53422664126964756971, 107446445260714809373, 150905916970428969467, 39353971341456862257,
  217837084347812233793, 114960662072104595373, 197261799892670706109, 26388550277918747367, 52777100555837494734, 66081657297654507913, 97659692348870893157, 97659692348870893157, 31929105514642993735,
  6385821102928598747, 260147282472372348377, 145871055718737651031, 120595192546655288083, 177358916187987791900, 196850656046313628191, 225228082636391674895, 180182466109113339916, 58380168477038565599,
  58380168477038565599, 58380168477038565599, 63568649119598344934, 91202189165349693933, 91202189165349693933, 66220548402840855059, 66220548402840855059, 185798809413249800826, 209523824672683886649, 146257117314192991121,
  201604171824316395559, 249838624675650563548, 93133599963509086401, 93133599963509086401, 93719744253147622279, 223051724480710978660, 178441379584568782928, 179341190476741429091, 104725319431092389733,
  185363080153830099166, 107134075301927857763, 91718037728580862371, 42697992578470921109, 259339326668682022700, 176164749490980550163, 165977169067956494528, 161902136898746872274, 45310615334256363879,
  141235819168928449553, 282471638337856899106, 193583974030019457336, 277535033260659298378, 5826920366190006579, 230185715121193447913, 119465283900908047695, 47786113560363219078, 122026624468482573529,
  192000792134080511239, 160084247738247621806, 230501255712713248415, 184401004570170598732, 243774525975307065022, 50639037301489772963, 106381529779468540629, 272509213285427009873]
set_option maxRecDepth 100000 in
theorem read_ok : allOk 8 0 (2 ^ 64 - 1) (2 ^ 63) 3 readCerts = true := by decide +kernel
theorem read_len : readCerts.length = 656 := by decide +kernel
/-- uscale at the powers of ten that reading wants: index i is for 10^(i - 348). -/
theorem uscale_read {i x s : Nat} (hi : 3 ≤ i ∧ i < 659) (hs : 8 ≤ s) (hx : x < 2 ^ 64) (hx0 : 2 ^ 63 ≤ x) : uscaleN x (hiI i) (loI i) s = unround (x * (numD i).1) (2 ^ 128 * 2 ^ s * (numD i).2) := by
 obtain ⟨x1, h⟩ := allOk_at (j := i - 3) read_ok (by rw [read_len]; omega);rw [show 3 + (i - 3) = i by omega] at h;unfold idxOk at h;simp only [Bool.and_eq_true, decide_eq_true_eq] at h;obtain ⟨⟨⟨⟨⟨⟨h1, h2⟩, _⟩, h3⟩, h4⟩, h5⟩, h6⟩ := h;exact uscale_cert (sh := 0) (z := x) (by simp) hx hx0 h1 h2 h3 h4 h5 hs (by omega) hx0 h6
end Go.Proofs.YtlblkajnmdhmdaaGreatDoor.NU
namespace Go.Proofs.YtlblkajnmdhmdaaGreatDoor.NU
set_option linter.unusedVariables false
/-- n / d rounded to a whole number, half to even. -/
def rne (n d : Nat) : Nat := n / d + (if d < 2 * (n % d) ∨ (2 * (n % d) = d ∧ n / d % 2 = 1) then 1 else 0)
theorem or_one (q : Nat) : q ||| 1 = q / 2 * 2 + 1 := by
 apply Nat.eq_of_testBit_eq;intro i;rw [Nat.testBit_or]
 cases i with
 | zero => simp [Nat.testBit_zero]
 | succ i =>
  rw [Nat.testBit_succ, Nat.testBit_succ, Nat.testBit_succ];rw [show (q / 2 * 2 + 1) / 2 = q / 2 by omega];simp
theorem unround_eq (n d : Nat) : unround n d = if n % d = 0 then n / d else n / d / 2 * 2 + 1 := by
 unfold unround;split
 ·simp
 ·exact or_one _
/-- Rounding an unrounded value: of 4 v it gives v rounded. -/
theorem round_unround {n d : Nat} (hd : 0 < d) : (unround n d + 1 + unround n d / 4 % 2) / 4 = rne n (d * 4) := by
 rw [unround_eq];unfold rne;rw [← Nat.div_div_eq_div_mul, Nat.mod_mul];obtain ⟨f, hf⟩ : ∃ f, n / d = f := ⟨_, rfl⟩;obtain ⟨r, hr⟩ : ∃ r, n % d = r := ⟨_, rfl⟩;have hrd : r < d := (by rw [← hr]; exact Nat.mod_lt _ hd);rw [hf, hr];obtain ⟨k, c, hc, rfl⟩ : ∃ k c, c < 4 ∧ f = 4 * k + c := ⟨f / 4, f % 4, by omega, by omega⟩;have e1 : (4 * k + c) / 4 = k := (by omega);have e2 : (4 * k + c) % 4 = c := (by omega);rw [e1, e2];by_cases h0 : r = 0
 ·subst h0;rw [if_pos rfl, e1];have hc' : c = 0 ∨ c = 1 ∨ c = 2 ∨ c = 3 := (by omega)
  rcases hc' with rfl | rfl | rfl | rfl
  ·rw [if_neg (by omega)]; omega
  ·rw [if_neg (by omega)]; omega
  ·by_cases hk : k % 2 = 1
   ·rw [if_pos (Or.inr ⟨by omega, hk⟩)]; omega
   ·rw [if_neg (by omega)]; omega
  ·rw [if_pos (by omega)]; omega
 ·rw [if_neg h0];have hc' : c = 0 ∨ c = 1 ∨ c = 2 ∨ c = 3 := (by omega)
  rcases hc' with rfl | rfl | rfl | rfl
  ·rw [if_neg (by omega)]; omega
  ·rw [if_neg (by omega)]; omega
  ·rw [if_pos (by omega)]; omega
  ·rw [if_pos (by omega)]; omega
/-- Dividing an unrounded value by an even number, the rest kept in the lowest bit. -/
theorem unround_div {n d k : Nat} (hd : 0 < d) (hk : 0 < k) (hk2 : k % 2 = 0) : (unround n d / k ||| unround n d % 2) ||| (if unround n d % k ≠ 0 then 1 else 0) = unround n (d * k) := by
 obtain ⟨f, hf⟩ : ∃ f, n / d = f := ⟨_, rfl⟩;obtain ⟨r, hr⟩ : ∃ r, n % d = r := ⟨_, rfl⟩;obtain ⟨h, rfl⟩ : ∃ h, k = 2 * h := ⟨k / 2, by omega⟩;have hq : n / (d * (2 * h)) = f / (2 * h) := (by rw [← Nat.div_div_eq_div_mul, hf]);have hm : n % (d * (2 * h)) = r + d * (f % (2 * h)) := (by rw [Nat.mod_mul, hf, hr]);obtain ⟨q, hqe⟩ : ∃ q, f / (2 * h) = q := ⟨_, rfl⟩;obtain ⟨c, hce⟩ : ∃ c, f % (2 * h) = c := ⟨_, rfl⟩;have hfe : f = 2 * h * q + c := (by rw [← hqe, ← hce]; exact (Nat.div_add_mod _ _).symm);have hck : c < 2 * h := (by rw [← hce]; exact Nat.mod_lt _ hk);have hqd : ∀ j, j < 2 * h → (2 * h * q + j) / (2 * h) = q := fun j hj => by rw [Nat.mul_add_div hk, Nat.div_eq_of_lt hj]; rfl
 have hmd : ∀ j, j < 2 * h → (2 * h * q + j) % (2 * h) = j := fun j hj => by rw [Nat.mul_add_mod, Nat.mod_eq_of_lt hj]
 have hev : (2 * h * q + c) % 2 = c % 2 := (by rw [Nat.mul_assoc]; omega)
 have fin : ∀ a b : Bool, ∀ st : Bool, (a || b) = st → (q ||| a.toNat) ||| b.toNat = q ||| st.toNat := fun a b st h => by
  subst h;cases a <;> cases b <;> simp [Nat.or_assoc]
 unfold unround;rw [hq, hm, hqe, hce, hf, hr];by_cases h0 : r = 0
 ·subst h0;rw [if_pos rfl, Nat.or_zero, hfe, hqd c hck, hmd c hck, hev];by_cases hc0 : c = 0
  ·subst hc0; simp
  ·rw [if_pos (by omega), if_neg (by
    intro h;have : d * c = 0 := (by omega)
    rcases Nat.mul_eq_zero.1 this with h | h <;> omega)]
   have e : c % 2 = (decide (c % 2 = 1)).toNat := by
    by_cases h2 : c % 2 = 1
    ·rw [decide_eq_true h2, h2]; rfl
    ·rw [decide_eq_false h2]; simp; omega
   rw [e];exact fin _ true true (by simp)
 ·have hu : (f ||| (if r = 0 then 0 else 1)) = 2 * h * q + (c / 2 * 2 + 1) := by
   rw [if_neg h0, or_one, hfe, Nat.mul_assoc];omega
  have hc2 : c / 2 * 2 + 1 < 2 * h := (by omega);have e2 : (2 * h * q + (c / 2 * 2 + 1)) % 2 = 1 := (by rw [Nat.mul_assoc]; omega);have hn0 : ¬ r + d * c = 0 := (by omega);rw [hu, hqd _ hc2, hmd _ hc2, e2, if_neg hn0, if_pos (by omega)];exact fin true true true rfl
/-- An unrounded value against the least that rounds to x. -/
theorem unround_ge {n d x : Nat} (hd : 0 < d) (hx : 1 ≤ x) : (4 * x - 2 ≤ unround n d) ↔ (4 * x - 2) * d ≤ n := by
 rw [← Nat.le_div_iff_mul_le hd, unround_eq];split <;> omega
/-! ### The word nearest to a fraction: rungs -/
/-- The exponent 1074, kept shut. -/
@[irreducible] def e74 : Nat := 1074
theorem e74_eq : e74 = 1074 := by unfold e74; rfl
/-- 2 to the 1074, kept shut. -/
@[irreducible] def one74 : Nat := 2 ^ e74
theorem one74_eq : one74 = 2 ^ e74 := by unfold one74; rfl
theorem one74_pos : 0 < one74 := by unfold one74; exact Nat.two_pow_pos _
/-- E is the place (above 2^-1074) at which n / d has its last digit. -/
def nearAt (n d E : Nat) : Prop := n * one74 < 2 ^ 53 * (d * 2 ^ E) ∧ (E = 0 ∨ 2 ^ 52 * (d * 2 ^ E) ≤ n * one74)
/-- The word of n / d with its last digit at E. -/
def wordAt (n d E : Nat) : Nat := min (E * 2 ^ 52 + rne (n * one74) (d * 2 ^ E)) (2047 * 2 ^ 52)
theorem nearAt_unique {n d E F : Nat} (h1 : nearAt n d E) (h2 : nearAt n d F) : E = F := by
 have key : ∀ {E F : Nat}, nearAt n d E → nearAt n d F → ¬ E < F := fun {E F} h1 h2 hlt => by
  have hF : 2 ^ 52 * (d * 2 ^ F) ≤ n * one74 := h2.2.resolve_left (by omega);obtain ⟨g, rfl⟩ : ∃ g, F = E + 1 + g := ⟨F - E - 1, by omega⟩;have e : d * 2 ^ (E + 1 + g) = d * 2 ^ E * 2 * 2 ^ g := (by rw [Nat.pow_add, Nat.pow_succ]; grind);rw [e] at hF;have : d * 2 ^ E * 2 * 1 ≤ d * 2 ^ E * 2 * 2 ^ g := Nat.mul_le_mul_left _ (Nat.two_pow_pos g);have := h1.1;omega
 have a := key h1 h2;have b := key h2 h1;omega
theorem rne_bounds {n d : Nat} (hd : 0 < d) : n / d ≤ rne n d ∧ rne n d ≤ n / d + 1 := by
 unfold rne;split <;> omega
/-- Rounding at a place one higher, where the number is next to its binade's end. -/
theorem rne_eq {n d q : Nat} (hd : 0 < d) (h1 : (2 * q - 1) * d < 2 * n ∨ q = 0) (h2 : 2 * n < (2 * q + 1) * d) : rne n d = q := by
 have hm := Nat.mod_lt n hd;have hdm := Nat.div_add_mod n d;obtain ⟨f, hf⟩ : ∃ f, n / d = f := ⟨_, rfl⟩;obtain ⟨r, hr⟩ : ∃ r, n % d = r := ⟨_, rfl⟩;unfold rne;rw [hf, hr] at hdm ⊢;rw [hr] at hm;have e2 : (2 * q + 1) * d = 2 * (d * q) + d := (by grind);rw [e2] at h2
 have hfq : f ≤ q := by
  apply Nat.le_of_not_lt;intro h;have : d * (q + 1) ≤ d * f := Nat.mul_le_mul_left _ h;rw [Nat.mul_add, Nat.mul_one] at this;omega
 rcases Nat.eq_or_lt_of_le hfq with h | h
 ·subst h;rw [if_neg (by omega)];rfl
 ·have hq0 : q ≠ 0 := (by omega);have h1' := h1.resolve_right hq0;obtain ⟨q', rfl⟩ : ∃ q', q = q' + 1 := ⟨q - 1, by omega⟩
  have e1 : (2 * (q' + 1) - 1) * d = 2 * (d * q') + d := by
   rw [show 2 * (q' + 1) - 1 = 2 * q' + 1 by omega]; grind
  rw [e1] at h1'
  have : f = q' := by
   apply Nat.le_antisymm (by omega);apply Nat.le_of_not_lt;intro hlt;have : d * (f + 1) ≤ d * q' := Nat.mul_le_mul_left _ hlt;rw [Nat.mul_add, Nat.mul_one] at this;omega
  subst this;rw [if_pos (by omega)]
end Go.Proofs.YtlblkajnmdhmdaaGreatDoor.NU
namespace Go.Proofs.YtlblkajnmdhmdaaGreatDoor.NU
set_option linter.unusedVariables false
/-- The place of the last digit of n / d. -/
def place (n d : Nat) : Nat := Nat.log2 (n * one74 / d) - 52
/-- The word nearest to n / d. -/
def word (n d : Nat) : Nat := wordAt n d (place n d)
theorem nearAt_place {n d : Nat} (hd : 0 < d) : nearAt n d (place n d) := by
 unfold nearAt place;obtain ⟨N, hN⟩ : ∃ N, n * one74 = N := ⟨_, rfl⟩;rw [hN];obtain ⟨q, hq⟩ : ∃ q, N / d = q := ⟨_, rfl⟩;rw [hq];have hm := Nat.mod_lt N hd;have hdm := Nat.div_add_mod N d;rw [hq] at hdm;have hqN : d * q ≤ N := (by omega);have hNq : N < d * (q + 1) := (by rw [Nat.mul_add, Nat.mul_one]; omega);by_cases h0 : q = 0
 ·subst h0;rw [Nat.log2_zero];refine ⟨?_, Or.inl rfl⟩;simp at hNq ⊢;omega
 ·have h1 : 2 ^ Nat.log2 q ≤ q := Nat.log2_self_le h0;have h2 : q < 2 ^ (Nat.log2 q + 1) := Nat.lt_log2_self;obtain ⟨l, hl⟩ : ∃ l, Nat.log2 q = l := ⟨_, rfl⟩;rw [hl] at h1 h2 ⊢;by_cases h52 : 52 ≤ l
  ·obtain ⟨g, rfl⟩ : ∃ g, l = 52 + g := ⟨l - 52, by omega⟩;rw [show 52 + g - 52 = g by omega];have e1 : 2 ^ 52 * (d * 2 ^ g) = d * 2 ^ (52 + g) := (by rw [Nat.pow_add]; grind);have e2 : 2 ^ 53 * (d * 2 ^ g) = d * 2 ^ (52 + g + 1) := (by rw [Nat.pow_succ, Nat.pow_add]; grind);rw [e1, e2];have a1 : d * 2 ^ (52 + g) ≤ d * q := Nat.mul_le_mul_left _ h1;have a2 : d * (q + 1) ≤ d * 2 ^ (52 + g + 1) := Nat.mul_le_mul_left _ h2;exact ⟨by omega, Or.inr (by omega)⟩
  ·rw [show l - 52 = 0 by omega];refine ⟨?_, Or.inl rfl⟩;have : 2 ^ (l + 1) ≤ 2 ^ 53 := Nat.pow_le_pow_right (by decide) (by omega);have a2 : d * (q + 1) ≤ d * 2 ^ 53 := Nat.mul_le_mul_left _ (by omega);simp;omega
theorem word_of {n d E : Nat} (hd : 0 < d) (h : nearAt n d E) : word n d = wordAt n d E := by
 unfold word;rw [nearAt_unique (nearAt_place hd) h]
theorem rne_scale {n d c : Nat} (hc : 0 < c) : rne (n * c) (d * c) = rne n d := by
 unfold rne;rw [Nat.mul_div_mul_right _ _ hc, Nat.mul_mod_mul_right]
 have e1 : (d * c < 2 * (n % d * c)) ↔ d < 2 * (n % d) := by
  rw [← Nat.mul_assoc]; exact Nat.mul_lt_mul_right hc
 have e2 : (2 * (n % d * c) = d * c) ↔ 2 * (n % d) = d := by
  rw [← Nat.mul_assoc]; exact Nat.mul_right_cancel_iff hc
 have e : (d * c < 2 * (n % d * c) ∨ (2 * (n % d * c) = d * c ∧ n / d % 2 = 1)) ↔ (d < 2 * (n % d) ∨ (2 * (n % d) = d ∧ n / d % 2 = 1)) := (by rw [e1, e2]);simp only [e]
theorem word_scale {n d c : Nat} (hd : 0 < d) (hc : 0 < c) : word (n * c) (d * c) = word n d := by
 have h := nearAt_place (n := n) hd
 have h' : nearAt (n * c) (d * c) (place n d) := by
  unfold nearAt at h ⊢;obtain ⟨E, hE⟩ : ∃ E, place n d = E := ⟨_, rfl⟩;rw [hE] at h ⊢;have e1 : n * c * one74 = n * one74 * c := (by grind);have e2 : 2 ^ 53 * (d * c * 2 ^ E) = 2 ^ 53 * (d * 2 ^ E) * c := (by grind);have e3 : 2 ^ 52 * (d * c * 2 ^ E) = 2 ^ 52 * (d * 2 ^ E) * c := (by grind);rw [e1, e2, e3];exact ⟨Nat.mul_lt_mul_of_pos_right h.1 hc, h.2.imp_right fun h => Nat.mul_le_mul_right _ h⟩
 rw [word_of (Nat.mul_pos hd hc) h'];unfold word wordAt;have e1 : n * c * one74 = n * one74 * c := (by grind);have e2 : d * c * 2 ^ place n d = d * 2 ^ place n d * c := (by grind);rw [e1, e2, rne_scale hc]
/-- The same number, told in two ways. -/
theorem word_eq {n d n' d' : Nat} (hd : 0 < d) (hd' : 0 < d') (h : n * d' = n' * d) : word n d = word n' d' := by
 rw [← word_scale (n := n) hd hd', ← word_scale (n := n') hd' hd, h, Nat.mul_comm d d']
/-! ### The value of a word, in units of 2^-1074 -/
def wE (w : Nat) : Nat := w / 2 ^ 52 - 1
def wM (w : Nat) : Nat := if w / 2 ^ 52 = 0 then w else w % 2 ^ 52 + 2 ^ 52
def wU (w : Nat) : Nat := wM w * 2 ^ wE w
theorem wM_lt (w : Nat) : wM w < 2 ^ 53 := by unfold wM; split <;> omega
theorem wM_ge {w : Nat} (h : 0 < wE w) : 2 ^ 52 ≤ wM w := by unfold wM; unfold wE at h; rw [if_neg (by omega)]; omega
theorem wEM (w : Nat) : wE w * 2 ^ 52 + wM w = w := by unfold wE wM; split <;> omega
/-- Bounds that name the word: 2 n / d (in units of 2^-1074) lies between the words' midpoints; the lower one is told in units of a quarter of the last digit. -/
theorem word_between {n d w : Nat} (hd : 0 < d) (hw : w < 2047 * 2 ^ 52)
  (h1 : w = 0 ∨ ((4 * wM w - (if wM w = 2 ^ 52 ∧ 0 < wE w then 1 else 2)) * (d * 2 ^ wE w) < 4 * (n * one74)))
  (h2 : 2 * (n * one74) < (2 * wM w + 1) * (d * 2 ^ wE w)) : word n d = w := by
 obtain ⟨N, hN⟩ : ∃ N, n * one74 = N := ⟨_, rfl⟩;obtain ⟨E, hE⟩ : ∃ E, wE w = E := ⟨_, rfl⟩;obtain ⟨m, hm⟩ : ∃ m, wM w = m := ⟨_, rfl⟩;have hml := wM_lt w;have hmg := @wM_ge w;have hwe := wEM w;obtain ⟨X, hX⟩ : ∃ X, d * 2 ^ E = X := ⟨_, rfl⟩;have hXp : 0 < X := (by rw [← hX]; exact Nat.mul_pos hd (Nat.two_pow_pos E));rw [hN, hE, hm, hX] at h1 h2;rw [hm] at hml hmg hwe;rw [hE] at hmg hwe;have hXm : m * X ≤ (2 ^ 53 - 1) * X := Nat.mul_le_mul_right _ (by omega);have e2 : (2 * m + 1) * X = 2 * (m * X) + X := (by grind);rw [e2] at h2;by_cases hlow : E = 0 ∨ 2 ^ 52 * X ≤ N
 ·have hn : nearAt n d E := ⟨by rw [hN, hX]; omega, by rw [hN, hX]; exact hlow⟩;rw [word_of hd hn];unfold wordAt;rw [hN, hX]
  have hr : rne N X = m := by
   apply rne_eq hXp
   ·by_cases hm0 : m = 0
    ·exact Or.inr hm0
    ·refine Or.inl ?_;obtain ⟨m', rfl⟩ : ∃ m', m = m' + 1 := ⟨m - 1, by omega⟩;have e3 : (2 * (m' + 1) - 1) * X = 2 * (m' * X) + X := (by rw [show 2 * (m' + 1) - 1 = 2 * m' + 1 by omega]; grind);rw [e3]
     rcases h1 with h1 | h1
     ·omega
     ·split at h1
      ·rename_i hc
       have e4 : (4 * (m' + 1) - 1) * X = 4 * (m' * X) + 3 * X := (by rw [show 4 * (m' + 1) - 1 = 4 * m' + 3 by omega]; grind);rw [e4] at h1;omega
      ·have e4 : (4 * (m' + 1) - 2) * X = 4 * (m' * X) + 2 * X := (by rw [show 4 * (m' + 1) - 2 = 4 * m' + 2 by omega]; grind);rw [e4] at h1;omega
   ·rw [e2]; exact h2
  rw [hr, hwe];omega
 ·have hE0 : 0 < E := (by omega);have hm2 := hmg hE0;have hw0 : w ≠ 0 := (by omega);have h1 := h1.resolve_left hw0
  have hm52 : m = 2 ^ 52 := by
   apply Nat.le_antisymm _ hm2;apply Nat.le_of_not_lt;intro hlt;have : (2 ^ 52 + 1) * X ≤ m * X := Nat.mul_le_mul_right _ hlt;rw [if_neg (by omega)] at h1;have e4 : (4 * m - 2) * X + 2 * X = 4 * (m * X) := (by rw [← Nat.add_mul, show 4 * m - 2 + 2 = 4 * m by omega, Nat.mul_assoc]);omega
  rw [if_pos ⟨hm52, hE0⟩] at h1;subst hm52;obtain ⟨E', rfl⟩ : ∃ E', E = E' + 1 := ⟨E - 1, by omega⟩;obtain ⟨Y, hY⟩ : ∃ Y, d * 2 ^ E' = Y := ⟨_, rfl⟩;have hXY : X = 2 * Y := (by rw [← hX, ← hY, Nat.pow_succ]; grind);have hn : nearAt n d E' := ⟨by rw [hN, hY]; omega, by rw [hN, hY]; omega⟩;rw [word_of hd hn];unfold wordAt;rw [hN, hY]
  have hr : rne N Y = 2 ^ 53 := by
   have hYp : 0 < Y := (by omega);have k1 : (2 * 2 ^ 53 - 1) * Y < 2 * N := (by clear hwe hn; omega);have k2 : 2 * N < (2 * 2 ^ 53 + 1) * Y := (by clear hwe hn; omega);exact rne_eq hYp (Or.inl k1) k2
  rw [hr]
  have hwe' : E' * 2 ^ 52 + 2 ^ 53 = w := by
   have hp : (2 : Nat) ^ 53 = 2 ^ 52 + 2 ^ 52 := (by decide);rw [hp, ← hwe, Nat.add_mul, Nat.one_mul, Nat.add_assoc]
  rw [hwe'];exact Nat.min_eq_left (Nat.le_of_lt hw)
/-- A word's own value. -/
theorem word_exact {w : Nat} (hw : w < 2047 * 2 ^ 52) : word (wU w) (one74) = w := by
 have hX : 0 < one74 * 2 ^ wE w := Nat.mul_pos one74_pos (Nat.two_pow_pos _);apply word_between one74_pos hw
 ·by_cases h0 : w = 0
  ·exact Or.inl h0
  ·right
   have hm0 : wM w ≠ 0 := by
    intro h;have := wEM w;by_cases hE : 0 < wE w
    ·have := wM_ge hE; omega
    ·omega
   unfold wU;obtain ⟨X, hX'⟩ : ∃ X, one74 * 2 ^ wE w = X := ⟨_, rfl⟩;have e : 4 * (wM w * 2 ^ wE w * one74) = 4 * wM w * (one74 * 2 ^ wE w) := (by grind);rw [e, hX'];rw [hX'] at hX;apply Nat.mul_lt_mul_of_pos_right _ hX;split <;> omega
 ·unfold wU;have e : 2 * (wM w * 2 ^ wE w * one74) = 2 * wM w * (one74 * 2 ^ wE w) := (by grind);rw [e];apply Nat.mul_lt_mul_of_pos_right _ hX;omega
end Go.Proofs.YtlblkajnmdhmdaaGreatDoor.NU
namespace Go.Proofs.YtlblkajnmdhmdaaGreatDoor.NU
set_option linter.unusedVariables false
/-- 10^(i - 348) as a fraction. -/
def tn (i : Nat) : Nat := 10 ^ (i - 348)
def td (i : Nat) : Nat := 10 ^ (348 - i)
/-- The floor of the binary logarithm of 10^(i - 348). -/
def lpI (i : Nat) : Int := ((i : Int) - 348) * 108853 / 32768
/-- The same, 1200 higher. -/
def lpN (i : Nat) : Nat := (lpI i + 1200).toNat
/-- The exponent 1327, kept shut. -/
@[irreducible] def e27 : Nat := 1327
theorem e27_eq : e27 = 1327 := by unfold e27; rfl
def tenOk (i : Nat) : Bool :=
 decide (0 ≤ lpI i + 1200) && decide ((numD i).1 * td i * 2 ^ lpN i = (numD i).2 * tn i * 2 ^ e27) && decide (0 < (numD i).2)
  && decide ((numD i).1 * 2 ^ 64 ≤ 2 ^ 128 * (2 ^ 64 - 2 ^ 10) * (numD i).2) && decide (2 ^ 127 * (numD i).2 ≤ (numD i).1)
def allTen : Nat → Bool
 | 0 => true
 | k + 1 => tenOk (3 + k) && allTen k
theorem allTen_at : ∀ {k j : Nat}, allTen k = true → j < k → tenOk (3 + j) = true := by
 intro k
 induction k with
 | zero => intro j _ h; omega
 | succ k ih =>
  intro j h hj;unfold allTen at h;rw [Bool.and_eq_true] at h;by_cases hjk : j = k
  ·subst hjk; exact h.1
  ·exact ih h.2 (by omega)
theorem ten_ok : allTen 686 = true := by decide +kernel
theorem ten_at {i : Nat} (hi : 3 ≤ i ∧ i < 689) : 0 ≤ lpI i + 1200 ∧ (numD i).1 * td i * 2 ^ lpN i = (numD i).2 * tn i * 2 ^ e27 ∧ 0 < (numD i).2 ∧ (numD i).1 * 2 ^ 64 ≤ 2 ^ 128 * (2 ^ 64 - 2 ^ 10) * (numD i).2 ∧ 2 ^ 127 * (numD i).2 ≤ (numD i).1 := by
 have h := allTen_at ten_ok (j := i - 3) (by omega);rw [show 3 + (i - 3) = i by omega] at h;unfold tenOk at h;simp only [Bool.and_eq_true, decide_eq_true_eq] at h;obtain ⟨⟨⟨⟨h1, h2⟩, h3⟩, h4⟩, h5⟩ := h;exact ⟨h1, h2, h3, h4, h5⟩
theorem rne_ratio {n d n' d' : Nat} (hd : 0 < d) (hd' : 0 < d') (h : n * d' = n' * d) : rne n d = rne n' d' := by
 rw [← rne_scale (n := n) (d := d) hd', ← rne_scale (n := n') (d := d') hd, h, Nat.mul_comm d d']
/-- The last step: a mantissa and a place are made into a word. -/
def packN (m E : Nat) : Nat := if m < 2 ^ 52 then m else if 2046 ≤ E then 2047 * 2 ^ 52 else (E + 1) * 2 ^ 52 + (m - 2 ^ 52)
theorem packN_eq {m E : Nat} (h : m < 2 ^ 53) (h0 : E = 0 ∨ 2 ^ 52 ≤ m) : packN m E = min (E * 2 ^ 52 + m) (2047 * 2 ^ 52) := by
 unfold packN;split
 ·rcases h0 with h0 | h0
  ·subst h0; omega
  ·omega
 ·split <;> omega
theorem rne_le {n d q : Nat} (hd : 0 < d) (h : 2 * n < (2 * q + 1) * d) : rne n d ≤ q := by
 have hm := Nat.mod_lt n hd;have hdm := Nat.div_add_mod n d;obtain ⟨f, hf⟩ : ∃ f, n / d = f := ⟨_, rfl⟩;obtain ⟨r, hr⟩ : ∃ r, n % d = r := ⟨_, rfl⟩;unfold rne;rw [hf, hr] at hdm ⊢;rw [hr] at hm;have e2 : (2 * q + 1) * d = 2 * (d * q) + d := (by grind);rw [e2] at h
 have hfq : f ≤ q := by
  apply Nat.le_of_not_lt;intro h;have : d * (q + 1) ≤ d * f := Nat.mul_le_mul_left _ h;rw [Nat.mul_add, Nat.mul_one] at this;omega
 rcases Nat.eq_or_lt_of_le hfq with h | h
 ·subst h;rw [if_neg (by omega)];omega
 ·split <;> omega
theorem rne_ge {n d q : Nat} (hd : 0 < d) (h : q * d ≤ n) : q ≤ rne n d := by
 have : q ≤ n / d := (Nat.le_div_iff_mul_le hd).2 h;have := (rne_bounds (n := n) hd).1;omega
theorem rne_mid {Y Z : Nat} (hZp : 0 < Z) (heq : 4 * Y = (4 * 2 ^ 53 - 2) * Z) : rne Y Z = 2 ^ 53 := by
 revert heq
 have gen : ∀ P : Nat, P % 2 = 0 → 0 < P → 4 * Y = (4 * P - 2) * Z → rne Y Z = P := by
  intro P hP hP0 heq;obtain ⟨q, rfl⟩ : ∃ q, P = q + 1 := ⟨P - 1, by omega⟩
  have hYq : 2 * Y = 2 * (q * Z) + Z := by
   have : (4 * (q + 1) - 2) * Z = 4 * (q * Z) + 2 * Z := by
    rw [show 4 * (q + 1) - 2 = 4 * q + 2 by omega]; grind
   omega
  have hqZ : (q + 1) * Z = q * Z + Z := (by rw [Nat.add_mul, Nat.one_mul]);have hq : Y / Z = q := Nat.div_eq_of_lt_le (by omega) (by omega);have hdm := Nat.div_add_mod Y Z;rw [hq, Nat.mul_comm] at hdm;have hodd : Y / Z % 2 = 1 := (by omega);have hhalf : 2 * (Y % Z) = Z := (by omega);unfold rne;rw [if_pos (Or.inr ⟨hhalf, hodd⟩), hq]
 intro heq;exact gen (2 ^ 53) (by decide) (by decide) heq
/-- What reading does with an unrounded number u of a place E. -/
def readN (u E : Nat) : Nat :=
 if 4 * 2 ^ 53 - 2 ≤ u then packN (((u / 2 ||| u % 2) + 1 + (u / 2 ||| u % 2) / 4 % 2) / 4) (E + 1) else packN ((u + 1 + u / 4 % 2) / 4) E
theorem read_core {Y Z N D n0 d0 E : Nat} (hD : 0 < D) (hd0 : 0 < d0) (hY : n0 * one74 = Y) (hZ : d0 * 2 ^ E = Z) (hr : Y * (4 * D) = N * Z) (hlow : E = 0 ∨ 4 * 2 ^ 52 * D ≤ N) (hup : N < 4 * (2 ^ 54 - 1) * D) (hbig : 4 * 2 ^ 52 * D ≤ N ∨ N < 4 * 2 ^ 52 * D) :
  readN (unround N D) E = word n0 d0 := by
 have hZp : 0 < Z := (by rw [← hZ]; exact Nat.mul_pos hd0 (Nat.two_pow_pos E))
 have cmpL : ∀ a : Nat, 4 * a * D ≤ N → a * Z ≤ Y := fun a h => by
  have : 4 * a * D * Z ≤ N * Z := Nat.mul_le_mul_right _ h;rw [← hr, show 4 * a * D * Z = a * Z * (4 * D) by grind] at this;exact Nat.le_of_mul_le_mul_right this (by omega)
 have cmpR : ∀ a b : Nat, b * N < a * D → 4 * b * Y < a * Z := fun a b h => by
  have : b * N * Z < a * D * Z := Nat.mul_lt_mul_of_pos_right h hZp;rw [Nat.mul_assoc, ← hr, show b * (Y * (4 * D)) = 4 * b * Y * D by grind, show a * D * Z = a * Z * D by grind] at this;exact Nat.lt_of_mul_lt_mul_right this
 unfold readN;by_cases hs : 4 * 2 ^ 53 - 2 ≤ unround N D
 ·rw [if_pos hs];have hge := (unround_ge (x := 2 ^ 53) hD (by decide)).1 hs
  have hu : (unround N D / 2 ||| unround N D % 2) = unround N (D * 2) := by
   rw [← unround_div hD (by decide : 0 < 2) (by decide)];obtain ⟨a, ha⟩ : ∃ a, unround N D / 2 = a := ⟨_, rfl⟩;have h2 : unround N D % 2 = 0 ∨ unround N D % 2 = 1 := (by omega);rw [ha]
   rcases h2 with h2 | h2
   ·rw [h2, if_neg (by decide)]; simp
   ·rw [h2, if_pos (by decide), Nat.or_assoc]; rfl
  rw [hu, round_unround (by omega)];have hZ2 : 0 < 2 * Z := (by omega);have hZ' : d0 * 2 ^ (E + 1) = 2 * Z := (by rw [← hZ, Nat.pow_succ]; grind);have hrn : rne N (D * 2 * 4) = rne Y (2 * Z) := rne_ratio (by omega) hZ2 (by grind);rw [hrn];have hE : E = 0 ∨ 2 ^ 52 * Z ≤ Y := hlow.imp_right (cmpL _)
  -- the upper bound
  have hup2 : 2 * Y < (2 * (2 ^ 53 - 1) + 1) * (2 * Z) := by
   have := cmpR (4 * (2 ^ 54 - 1)) 1 (by omega);omega
  have hlo2 : (4 * 2 ^ 53 - 2) * Z ≤ 4 * Y := by
   have : (4 * 2 ^ 53 - 2) * D * Z ≤ N * Z := Nat.mul_le_mul_right _ hge;rw [← hr, show (4 * 2 ^ 53 - 2) * D * Z = (4 * 2 ^ 53 - 2) * Z * D by rw [Nat.mul_assoc, Nat.mul_assoc, Nat.mul_comm D], show Y * (4 * D) = 4 * Y * D by grind] at this;exact Nat.le_of_mul_le_mul_right this hD
  by_cases h53 : 2 ^ 53 * Z ≤ Y
  ·have hn : nearAt n0 d0 (E + 1) := ⟨by rw [hY, hZ']; omega, by rw [hY, hZ']; omega⟩;rw [word_of hd0 hn];have hm : rne Y (2 * Z) ≤ 2 ^ 53 - 1 := rne_le hZ2 hup2;have hm2 : 2 ^ 52 ≤ rne Y (2 * Z) := rne_ge hZ2 (by omega);rw [packN_eq (by omega) (Or.inr hm2)];unfold wordAt;rw [hY, hZ']
  ·have hn : nearAt n0 d0 E := ⟨by rw [hY, hZ]; omega, by rw [hY, hZ]; exact hE⟩;rw [word_of hd0 hn]
   have hm : rne Y (2 * Z) = 2 ^ 52 := by
    refine rne_eq hZ2 (Or.inl ?_) ?_
    ·omega
    ·omega
   unfold wordAt;rw [hY, hZ]
   have hm' : rne Y Z = 2 ^ 53 := by
    by_cases heq : 4 * Y = (4 * 2 ^ 53 - 2) * Z
    ·exact rne_mid hZp heq
    ·have hlt := Nat.lt_of_le_of_ne hlo2 (fun h => heq h.symm);clear heq hr hlo2 hge hup hup2 hlow hbig;refine rne_eq hZp (Or.inl ?_) ?_
     ·omega
     ·omega
   have hp : (2 : Nat) ^ 53 = 2 ^ 52 + 2 ^ 52 := (by decide);have key : ∀ P : Nat, (E + 1) * P + P = E * P + (P + P) := (by intro P; grind);have hk : packN (2 ^ 52) (E + 1) = min ((E + 1) * 2 ^ 52 + 2 ^ 52) (2047 * 2 ^ 52) := packN_eq (by decide) (Or.inr (Nat.le_refl _));rw [hm, hm', hk, key, ← hp]
 ·rw [if_neg hs, round_unround hD];have hlt : ¬ (4 * 2 ^ 53 - 2) * D ≤ N := fun h => hs ((unround_ge (x := 2 ^ 53) hD (by decide)).2 h);have hrn : rne N (D * 4) = rne Y Z := rne_ratio (by omega) hZp (by grind);rw [hrn];have hE : E = 0 ∨ 2 ^ 52 * Z ≤ Y := hlow.imp_right (cmpL _)
  have hup2 : 2 * Y < (2 * (2 ^ 53 - 1) + 1) * Z := by
   have := cmpR (4 * 2 ^ 53 - 2) 1 (by omega);omega
  have hn : nearAt n0 d0 E := ⟨by rw [hY, hZ]; omega, by rw [hY, hZ]; exact hE⟩;rw [word_of hd0 hn];have hm : rne Y Z ≤ 2 ^ 53 - 1 := rne_le hZp hup2;rw [packN_eq (by omega) (hE.imp_right fun h => rne_ge hZp h)];unfold wordAt;rw [hY, hZ]
/-- Reading d * 10^(i - 348) by unrounded scaling: b is the length of d, E the place, s the shift. -/
theorem parse_word {i d b E s : Nat} (hi : 3 ≤ i ∧ i < 659) (hb1 : 1 ≤ b) (hb : b ≤ 64) (hd1 : 2 ^ (b - 1) ≤ d) (hd2 : d < 2 ^ b)
  (hE : (E : Int) = max 0 (1021 + b + lpI i)) (hs : (s : Int) = 8 + (E - (1021 + b + lpI i))) :
  readN (uscaleN (d * 2 ^ (64 - b)) (hiI i) (loI i) s) E = word (d * tn i) (td i) ∧ (64 ≤ s → word (d * tn i) (td i) = 0) := by
 obtain ⟨t1, t2, t3, t4, t5⟩ := ten_at (i := i) ⟨hi.1, by omega⟩;have htd : 0 < td i := Nat.pow_pos (by decide);obtain ⟨N, hN⟩ : ∃ N, (numD i).1 = N := ⟨_, rfl⟩;obtain ⟨D, hD⟩ : ∃ D, (numD i).2 = D := ⟨_, rfl⟩;obtain ⟨L, hL⟩ : ∃ L, lpN i = L := ⟨_, rfl⟩;have hLI : (L : Int) = lpI i + 1200 := (by rw [← hL]; unfold lpN; omega);obtain ⟨lp, hlp⟩ : ∃ lp, lpI i = lp := ⟨_, rfl⟩;rw [hlp] at hE hs hLI t1;rw [hN, hD, hL] at t2;rw [hD] at t3;rw [hN, hD] at t4 t5;have hpb : 2 ^ b = 2 ^ (b - 1) * 2 := (by rw [← Nat.pow_succ]; congr 1; omega);have hp64 : (2 : Nat) ^ 64 = 2 ^ b * 2 ^ (64 - b) := (by rw [← Nat.pow_add]; congr 1; omega);have hp63 : (2 : Nat) ^ 63 = 2 ^ (b - 1) * 2 ^ (64 - b) := (by rw [← Nat.pow_add]; congr 1; omega);obtain ⟨x, hx⟩ : ∃ x, d * 2 ^ (64 - b) = x := ⟨_, rfl⟩;have hx64 : x < 2 ^ 64 := (by rw [← hx, hp64]; exact Nat.mul_lt_mul_of_pos_right hd2 (Nat.two_pow_pos _));have hx63 : 2 ^ 63 ≤ x := (by rw [← hx, hp63]; exact Nat.mul_le_mul_right _ hd1);obtain ⟨g, rfl⟩ : ∃ g, s = 8 + g := ⟨s - 8, by omega⟩;have hus := uscale_read hi (by omega : 8 ≤ 8 + g) hx64 hx63;rw [hN, hD] at hus;rw [hx, hus];obtain ⟨Dd, hDd⟩ : ∃ Dd, 2 ^ 128 * 2 ^ (8 + g) * D = Dd := ⟨_, rfl⟩;have hDdp : 0 < Dd := (by rw [← hDd]; exact Nat.mul_pos (Nat.mul_pos (by decide) (Nat.two_pow_pos _)) t3);rw [hDd]
 -- the two ways to tell the number
 have hr : d * tn i * one74 * (4 * Dd) = x * N * (td i * 2 ^ E) := by
  rw [one74_eq, ← hDd, ← hx];apply Nat.eq_of_mul_eq_mul_right (Nat.two_pow_pos 115);have hk : 2 ^ (64 - b) * 2 ^ E * 2 ^ 115 = 2 ^ L * 2 ^ g := (by rw [← Nat.pow_add, ← Nat.pow_add, ← Nat.pow_add]; congr 1; omega)
  have hk2 : (2 : Nat) ^ e74 * (4 * (2 ^ 128 * 2 ^ (8 + g))) * 2 ^ 115 = 2 ^ e27 * 2 ^ g := by
   have h4 : (4 : Nat) = 2 ^ 2 := (by decide);rw [h4];simp only [← Nat.pow_add];congr 1;rw [e74_eq, e27_eq];omega
  obtain ⟨Q, hQ⟩ : ∃ Q, 2 ^ e27 = Q := ⟨_, rfl⟩;rw [hQ] at hk2 t2;obtain ⟨K, hK⟩ : ∃ K : Nat, 2 ^ e74 = K := ⟨_, rfl⟩;rw [hK] at hk2 ⊢;clear hK hQ
  calc d * tn i * K * (4 * (2 ^ 128 * 2 ^ (8 + g) * D)) * 2 ^ 115
    = d * (D * tn i) * (K * (4 * (2 ^ 128 * 2 ^ (8 + g))) * 2 ^ 115) := by grind
   _ = d * (D * tn i * Q) * 2 ^ g := by rw [hk2]; grind
   _ = d * (N * td i * 2 ^ L) * 2 ^ g := by rw [t2]
   _ = d * (N * td i) * (2 ^ (64 - b) * 2 ^ E * 2 ^ 115) := by rw [hk]; grind
   _ = d * 2 ^ (64 - b) * N * (td i * 2 ^ E) * 2 ^ 115 := by grind
 clear t2
 -- bounds
 have hg0 : E = 0 ∨ g = 0 := (by omega);have hlo : 2 ^ 63 * (2 ^ 127 * D) ≤ x * N := Nat.mul_le_mul hx63 t5
 have hhi : x * N * 2 ^ 64 ≤ (2 ^ 64 - 1) * (2 ^ 128 * (2 ^ 64 - 2 ^ 10) * D) := by
  rw [Nat.mul_assoc];exact Nat.mul_le_mul (by omega) t4
 have hDd8 : Dd = 2 ^ 136 * D * 2 ^ g := by
  rw [← hDd, Nat.pow_add 2 8 g];have : (2 : Nat) ^ 136 = 2 ^ 128 * 2 ^ 8 := (by decide);rw [this]
  grind
 have hg1 : 2 ^ 136 * D ≤ Dd := (by rw [hDd8]; exact Nat.le_mul_of_pos_right _ (Nat.two_pow_pos g))
 have hup : x * N < 4 * (2 ^ 54 - 1) * Dd := by
  have : 4 * (2 ^ 54 - 1) * (2 ^ 136 * D) ≤ 4 * (2 ^ 54 - 1) * Dd := Nat.mul_le_mul_left _ hg1;have e : 4 * (2 ^ 54 - 1) * (2 ^ 136 * D) = (4 * (2 ^ 54 - 1) * 2 ^ 136) * D := (by rw [Nat.mul_assoc _ _ D]);have e2 : (2 ^ 64 - 1) * (2 ^ 128 * (2 ^ 64 - 2 ^ 10) * D) = ((2 ^ 64 - 1) * (2 ^ 128 * (2 ^ 64 - 2 ^ 10))) * D := (Nat.mul_assoc _ _ _).symm;rw [e2] at hhi;rw [e] at this;have hc : ((2 ^ 64 - 1) * (2 ^ 128 * (2 ^ 64 - 2 ^ 10))) < (4 * (2 ^ 54 - 1) * 2 ^ 136) * 2 ^ 64 := (by decide);have hc2 : ((2 ^ 64 - 1) * (2 ^ 128 * (2 ^ 64 - 2 ^ 10))) * D < (4 * (2 ^ 54 - 1) * 2 ^ 136) * 2 ^ 64 * D := Nat.mul_lt_mul_of_pos_right hc t3
  have e3 : (4 * (2 ^ 54 - 1) * 2 ^ 136) * 2 ^ 64 * D = (4 * (2 ^ 54 - 1) * 2 ^ 136) * D * 2 ^ 64 := by
   rw [Nat.mul_assoc _ _ D, Nat.mul_comm _ D, ← Nat.mul_assoc]
  rw [e3] at hc2;have h1 := Nat.lt_of_le_of_lt hhi hc2;have h2 := Nat.lt_of_mul_lt_mul_right h1;exact Nat.lt_of_lt_of_le h2 this
 have hlow : E = 0 ∨ 4 * 2 ^ 52 * Dd ≤ x * N := by
  rcases hg0 with h | h
  ·exact Or.inl h
  ·right;subst h;rw [hDd8];refine Nat.le_trans (Nat.le_of_eq ?_) hlo;have : (4 * 2 ^ 52) * 2 ^ 136 = 2 ^ 63 * 2 ^ 127 := (by decide);rw [Nat.pow_zero, Nat.mul_one, ← Nat.mul_assoc, this, Nat.mul_assoc]
 refine ⟨read_core hDdp htd rfl rfl hr hlow hup (by omega), fun h64 => ?_⟩
 -- too small
 have hE0 : E = 0 := (by omega);subst hE0
 have hsm : x * N < Dd := by
  have h1 : x * N < 2 ^ 64 * (2 ^ 128 * D) := by
   have a : N * 2 ^ 64 ≤ 2 ^ 128 * D * 2 ^ 64 := by
    refine Nat.le_trans t4 ?_;rw [Nat.mul_assoc, Nat.mul_comm (2 ^ 64 - 2 ^ 10) D, ← Nat.mul_assoc];exact Nat.mul_le_mul_left _ (by decide)
   have a' := Nat.le_of_mul_le_mul_right a (by decide);exact Nat.lt_of_le_of_lt (Nat.mul_le_mul_left _ a') (Nat.mul_lt_mul_of_pos_right hx64 (Nat.mul_pos (by decide) t3))
  have h2 : 2 ^ 64 * (2 ^ 128 * D) ≤ Dd := by
   rw [← hDd];have hp : (2 : Nat) ^ 64 ≤ 2 ^ (8 + g) := Nat.pow_le_pow_right (by decide) h64;have : 2 ^ 128 * (2 ^ 64 * D) ≤ 2 ^ 128 * (2 ^ (8 + g) * D) := Nat.mul_le_mul_left _ (Nat.mul_le_mul_right _ hp);rw [Nat.mul_assoc];refine Nat.le_trans (Nat.le_of_eq ?_) this;rw [← Nat.mul_assoc, ← Nat.mul_assoc, Nat.mul_comm (2 ^ 64)]
  exact Nat.lt_of_lt_of_le h1 h2
 rw [Nat.pow_zero, Nat.mul_one] at hr
 have hsmall : 4 * (d * tn i * one74) < td i := by
  apply Nat.lt_of_mul_lt_mul_right (a := Dd)
  calc 4 * (d * tn i * one74) * Dd = d * tn i * one74 * (4 * Dd) := by grind
   _ = x * N * td i := hr
   _ < Dd * td i := Nat.mul_lt_mul_of_pos_right hsm htd
   _ = td i * Dd := Nat.mul_comm _ _
 have hn : nearAt (d * tn i) (td i) 0 := ⟨by rw [Nat.pow_zero, Nat.mul_one]; omega, Or.inl rfl⟩;rw [word_of htd hn];unfold wordAt;rw [Nat.pow_zero, Nat.mul_one];have : rne (d * tn i * one74) (td i) = 0 := rne_eq htd (Or.inr rfl) (by omega);rw [this];omega
end Go.Proofs.YtlblkajnmdhmdaaGreatDoor.NU
