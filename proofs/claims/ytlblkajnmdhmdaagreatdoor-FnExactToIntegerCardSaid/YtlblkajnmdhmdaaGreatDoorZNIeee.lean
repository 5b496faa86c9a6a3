/-
  Plain: the model's floats (Ieee) on numbers that are not negative: what is written is the nearest word; products and quotients; the order.
-/
import Derived.Test.YtlblkajnmdhmdaaGreatDoorZNSpec
import Ieee.Arith
namespace Go.Proofs.YtlblkajnmdhmdaaGreatDoor.NU
set_option linter.unusedVariables false
open Ieee
theorem cut_even (n drop : Nat) (hn : 0 < n) : Toward.even.cut false n drop = rne n (2 ^ drop) := by
 have key : ∀ g, Toward.even.cut false n drop = n / g + (decide (g < 2 * (n % g)) || (g == 2 * (n % g) && n / g % 2 == 1)).toNat → g = 2 ^ min drop (n.log2 + 2) → Toward.even.cut false n drop = rne n (2 ^ drop) := by
  intro g h hg;rw [h];by_cases hd : drop ≤ n.log2 + 2
  ·rw [Nat.min_eq_left hd] at hg;rw [← hg];unfold rne;congr 1;by_cases h1 : g < 2 * (n % g)
   ·rw [if_pos (Or.inl h1), decide_eq_true h1]; rfl
   ·rw [decide_eq_false h1, Bool.false_or];by_cases h2 : 2 * (n % g) = g ∧ n / g % 2 = 1
    ·rw [if_pos (Or.inr h2), beq_iff_eq.2 h2.1.symm, beq_iff_eq.2 h2.2]; rfl
    ·rw [if_neg (fun hh => hh.elim h1 h2)];by_cases h3 : 2 * (n % g) = g
     ·rw [beq_eq_false_iff_ne.2 (fun h4 : n / g % 2 = 1 => h2 ⟨h3, h4⟩), Bool.and_false]; rfl
     ·rw [beq_eq_false_iff_ne.2 (fun h4 : g = 2 * (n % g) => h3 h4.symm), Bool.false_and]; rfl
  ·rw [Nat.min_eq_right (by omega)] at hg;have hl : n < 2 ^ (n.log2 + 1) := Nat.lt_log2_self;have hg2 : g = 2 ^ (n.log2 + 1) * 2 := (by rw [hg, Nat.pow_succ])
   have hdg : g * 2 ≤ 2 ^ drop := by
    rw [hg, ← Nat.pow_succ];exact Nat.pow_le_pow_right (by decide) (by omega)
   have hn2 : 2 * n < g := (by omega);obtain ⟨D, hD⟩ : ∃ D, 2 ^ drop = D := ⟨_, rfl⟩;rw [hD] at hdg ⊢;clear hg hD;have a1 : n / g = 0 := Nat.div_eq_of_lt (by omega);have a2 : n % g = n := Nat.mod_eq_of_lt (by omega);have a3 : n / D = 0 := Nat.div_eq_of_lt (by omega);have a4 : n % D = n := Nat.mod_eq_of_lt (by omega);unfold rne;rw [a1, a2, a3, a4, if_neg (by omega), decide_eq_false (by omega), beq_eq_false_iff_ne.2 (show g ≠ 2 * n by omega)];rfl
 refine key (1 <<< min drop (n.log2 + 2)) rfl ?_;rw [Nat.shiftLeft_eq, Nat.one_mul]
theorem nearest_at (mag : Nat) (place : Int) (E L : Nat) (last : Int) (h0 : mag ≠ 0) (hL : mag.log2 = L) (hlast : last = max (place + L - 52) (-1074)) (hE : (E : Int) = last + 1074) :
  double.nearest false mag place = min (E * 2 ^ 52 + Toward.even.cut false (mag <<< (place - last).toNat) (last - place).toNat) (2047 * 2 ^ 52) := by
 have hb : double.binade = 2 ^ 52 := rfl;have hi : double.infRung = 2047 * 2 ^ 52 := rfl;have hl : double.leastPlace = -1074 := rfl;have hf : (double.fractionBits : Int) = 52 := rfl;have hEn : E = (last - (-1074)).toNat := (by omega);unfold Format.nearest;rw [if_neg h0];dsimp only;rw [hb, hi, hl, hf, hL, ← hlast, ← hEn];exact if_neg Bool.false_ne_true
/-- What the model writes is the nearest word. -/
theorem nearest_word (mag : Nat) (place : Int) : double.nearest false mag place = word2 mag 1 place := by
 by_cases h0 : mag = 0
 ·subst h0
  have e : double.nearest false 0 place = 0 := by
   unfold Format.nearest;rw [if_pos rfl];rfl
  rw [e];unfold word2;rw [Nat.zero_mul, word_zero];exact Nat.mul_pos (by decide) (Nat.two_pow_pos _)
 ·obtain ⟨L, hL⟩ : ∃ L, mag.log2 = L := ⟨_, rfl⟩;have hlo : 2 ^ L ≤ mag := (by rw [← hL]; exact Nat.log2_self_le h0);have hhi : mag < 2 ^ (L + 1) := (by rw [← hL]; exact Nat.lt_log2_self);obtain ⟨last, hlast⟩ : ∃ last : Int, last = max (place + L - 52) (-1074) := ⟨_, rfl⟩;obtain ⟨E, hE⟩ : ∃ E : Nat, (E : Int) = last + 1074 := ⟨(last + 1074).toNat, by omega⟩;have hne := nearest_at mag place E L last h0 hL hlast hE;obtain ⟨a, ha⟩ : ∃ a, (place - last).toNat = a := ⟨_, rfl⟩;obtain ⟨b, hb⟩ : ∃ b, (last - place).toNat = b := ⟨_, rfl⟩;obtain ⟨c, hc⟩ : ∃ c, place.toNat = c := ⟨_, rfl⟩;obtain ⟨d, hd⟩ : ∃ d, (-place).toNat = d := ⟨_, rfl⟩;have hx : a + d + E = c + e74 + b := (by rw [e74_eq]; omega);rw [hne, ha, hb, cut_even _ _ (by rw [Nat.shiftLeft_eq]; exact Nat.mul_pos (by omega) (Nat.two_pow_pos _)), Nat.shiftLeft_eq];unfold word2;rw [hc, hd, Nat.one_mul]
  have hk : mag * 2 ^ c * one74 * 2 ^ b = mag * 2 ^ a * (2 ^ d * 2 ^ E) := by
   rw [one74_eq, Nat.mul_assoc (mag * 2 ^ c), Nat.mul_assoc mag, Nat.mul_assoc mag, ← Nat.pow_add, ← Nat.pow_add, ← Nat.pow_add, ← Nat.pow_add];exact congrArg (fun z => mag * 2 ^ z) (by omega)
  have hup : mag * 2 ^ c * one74 < 2 ^ 53 * (2 ^ d * 2 ^ E) := by
   have h1 : mag * 2 ^ c * one74 < 2 ^ (L + 1) * 2 ^ c * one74 := Nat.mul_lt_mul_of_pos_right (Nat.mul_lt_mul_of_pos_right hhi (Nat.two_pow_pos _)) one74_pos;refine Nat.lt_of_lt_of_le h1 ?_;rw [one74_eq, ← Nat.pow_add, ← Nat.pow_add, ← Nat.pow_add, ← Nat.pow_add];exact Nat.pow_le_pow_right (by decide) (by rw [e74_eq]; omega)
  have hlw : E = 0 ∨ 2 ^ 52 * (2 ^ d * 2 ^ E) ≤ mag * 2 ^ c * one74 := by
   by_cases hE0 : E = 0
   ·exact Or.inl hE0
   ·right;refine Nat.le_trans ?_ (Nat.mul_le_mul_right _ (Nat.mul_le_mul_right _ hlo));rw [one74_eq, ← Nat.pow_add, ← Nat.pow_add, ← Nat.pow_add, ← Nat.pow_add];exact Nat.pow_le_pow_right (by decide) (by rw [e74_eq]; omega)
  rw [word_of (Nat.two_pow_pos d) ⟨hup, hlw⟩];unfold wordAt;rw [rne_ratio (n := mag * 2 ^ c * one74) (n' := mag * 2 ^ a) (d' := 2 ^ b) (Nat.mul_pos (Nat.two_pow_pos _) (Nat.two_pow_pos _)) (Nat.two_pow_pos _) hk]
/-- What the model reads in a word. -/
theorem read_word {w : Nat} (hw : w < 2047 * 2 ^ 52) : double.read w = .number false (wM w) ((wE w : Int) - 1074) := by
 have hs : double.signWeight = 2 ^ 63 := rfl;have hb : double.binade = 2 ^ 52 := rfl;have hi : double.infRung = 2047 * 2 ^ 52 := rfl;have hl : double.leastPlace = -1074 := rfl;unfold Format.read;rw [hs, hb, hi, hl];have h1 : w / 2 ^ 63 = 0 := Nat.div_eq_of_lt (by omega);have h2 : w % 2 ^ 63 = w := Nat.mod_eq_of_lt (by omega);rw [h1, h2];dsimp only;by_cases h : w < 2 ^ 52
 ·rw [if_pos h];unfold wM wE;have : w / 2 ^ 52 = 0 := Nat.div_eq_of_lt h;rw [if_pos this, this];rfl
 ·rw [if_neg h, if_pos hw];unfold wM wE;rw [if_neg (by omega), Nat.add_comm (w % 2 ^ 52)];have e : ((-1074 : Int) + ((w / 2 ^ 52 - 1 : Nat) : Int)) = ((w / 2 ^ 52 - 1 : Nat) : Int) - 1074 := (by omega);rw [e];rfl
/-- An integer made into a float. -/
theorem int_word (N : Nat) : double.nearest false N 0 = word N 1 := by
 rw [nearest_word, word2_zero]
/-- The value of a word is the fraction a / b. -/
def isV (x a b : Nat) : Prop := x < 2047 * 2 ^ 52 ∧ 0 < b ∧ wU x * b = a * one74
theorem isV_word {x a b : Nat} (h : isV x a b) : word a b = x := by
 have e := word_eq (n := a) (d := b) (n' := wU x) (d' := one74) h.2.1 one74_pos (by rw [h.2.2]);rw [e, word_exact h.1]
/-- An integer below 2^53 is a word. -/
theorem int_exact {N : Nat} (h : N < 2 ^ 53) : isV (word N 1) N 1 := by
 by_cases h0 : N = 0
 ·subst h0;rw [word_zero 1 (by decide)];exact ⟨by decide, by decide, by rw [Nat.zero_mul]; decide⟩
 ·obtain ⟨L, hL⟩ : ∃ L, N.log2 = L := ⟨_, rfl⟩;have hlo : 2 ^ L ≤ N := (by rw [← hL]; exact Nat.log2_self_le h0);have hhi : N < 2 ^ (L + 1) := (by rw [← hL]; exact Nat.lt_log2_self)
  have hL52 : L ≤ 52 := by
   apply Nat.le_of_not_lt;intro hh;have : 2 ^ 53 ≤ 2 ^ L := Nat.pow_le_pow_right (by decide) hh;omega
  obtain ⟨M, hM⟩ : ∃ M, N * 2 ^ (52 - L) = M := ⟨_, rfl⟩
  have hp : (2 : Nat) ^ L * 2 ^ (52 - L) = 2 ^ 52 := by rw [← Nat.pow_add]; exact congrArg (2 ^ ·) (by omega)
  have hM1 : 2 ^ 52 ≤ M := (by rw [← hM, ← hp]; exact Nat.mul_le_mul_right _ hlo)
  have hM2 : M < 2 ^ 53 := by
   have : 2 ^ 53 = 2 ^ (L + 1) * 2 ^ (52 - L) := by rw [← Nat.pow_add]; exact congrArg (2 ^ ·) (by omega)
   rw [← hM, this];exact Nat.mul_lt_mul_of_pos_right hhi (Nat.two_pow_pos _)
  obtain ⟨x, hx⟩ : ∃ x, x = (1022 + L) * 2 ^ 52 + M := ⟨_, rfl⟩;have hxi : x < 2047 * 2 ^ 52 := (by omega);have hE : wE x = 1022 + L := (by unfold wE; omega);have hW : wM x = M := (by unfold wM; rw [if_neg (by omega)]; omega)
  have hU : wU x * 1 = N * one74 := by
   unfold wU;rw [hE, hW, ← hM, one74_eq, Nat.mul_one, Nat.mul_assoc, ← Nat.pow_add];exact congrArg (fun z => N * 2 ^ z) (by rw [e74_eq]; omega)
  have hv : isV x N 1 := ⟨hxi, by decide, hU⟩;rw [isV_word hv];exact hv
theorem wU_lt {x y : Nat} (h : x < y) : wU x < wU y := by
 have hx := wM_lt x;have ex := wEM x;have ey := wEM y;unfold wU;by_cases he : wE x = wE y
 ·rw [he] at ex ⊢;exact Nat.mul_lt_mul_of_pos_right (by omega) (Nat.two_pow_pos _)
 ·have hle : wE x < wE y := by
   have h2 : x / 2 ^ 52 ≤ y / 2 ^ 52 := Nat.div_le_div_right (by omega);unfold wE at he ⊢;omega
  have hy := wM_ge (w := y) (by omega)
  calc wM x * 2 ^ wE x < 2 ^ 53 * 2 ^ wE x := Nat.mul_lt_mul_of_pos_right hx (Nat.two_pow_pos _)
   _ = 2 ^ 52 * 2 ^ (wE x + 1) := by rw [← Nat.pow_add, ← Nat.pow_add]; exact congrArg (2 ^ ·) (by omega)
   _ ≤ 2 ^ 52 * 2 ^ wE y := Nat.mul_le_mul_left _ (Nat.pow_le_pow_right (by decide) hle)
   _ ≤ wM y * 2 ^ wE y := Nat.mul_le_mul_right _ hy
theorem signed_pos (m k : Nat) : signed false m k = ((m * 2 ^ k : Nat) : Int) := by
 unfold signed;rw [if_neg Bool.false_ne_true, Nat.shiftLeft_eq]
theorem order_word {x y : Nat} (hx : x < 2047 * 2 ^ 52) (hy : y < 2047 * 2 ^ 52) : double.order x y = some (compare x y) := by
 unfold Format.order;rw [read_word hx, read_word hy];show some (compare (signed false (wM x) _) (signed false (wM y) _)) = _;rw [signed_pos, signed_pos];obtain ⟨a, ha⟩ : ∃ a, ((wE x : Int) - 1074 - min ((wE x : Int) - 1074) ((wE y : Int) - 1074)).toNat = a := ⟨_, rfl⟩;obtain ⟨b, hb⟩ : ∃ b, ((wE y : Int) - 1074 - min ((wE x : Int) - 1074) ((wE y : Int) - 1074)).toNat = b := ⟨_, rfl⟩;rw [ha, hb];obtain ⟨c, hc1, hc2⟩ : ∃ c, wE x = a + c ∧ wE y = b + c := ⟨min (wE x) (wE y), by omega, by omega⟩;have e1 : wM x * 2 ^ a * 2 ^ c = wU x := (by unfold wU; rw [hc1, Nat.mul_assoc, ← Nat.pow_add]);have e2 : wM y * 2 ^ b * 2 ^ c = wU y := (by unfold wU; rw [hc2, Nat.mul_assoc, ← Nat.pow_add]);refine congrArg some ?_;have lt : ∀ {p q : Nat}, p * 2 ^ c < q * 2 ^ c → p < q := fun h => Nat.lt_of_mul_lt_mul_right h
 rcases Nat.lt_trichotomy x y with h | h | h
 ·have h1 := wU_lt h;rw [← e1, ← e2] at h1;rw [Nat.compare_eq_lt.2 h, Int.compare_eq_lt.2 (Int.ofNat_lt.2 (lt h1))]
 ·subst h
  have h1 : wM x * 2 ^ a = wM x * 2 ^ b := by
   rw [show a = b by omega]
  rw [h1];simp
 ·have h1 := wU_lt h;rw [← e1, ← e2] at h1;rw [Nat.compare_eq_gt.2 h, Int.compare_eq_gt.2 (Int.ofNat_lt.2 (lt h1))]
/-- A product. -/
theorem mul_word {x y a b c d : Nat} (hx : isV x a b) (hy : isV y c d) : double.mul x y = some (word (a * c) (b * d)) := by
 unfold Format.mul;rw [read_word hx.1, read_word hy.1];show some (double.nearest false (wM x * wM y) _) = _;rw [nearest_word];refine congrArg some ?_;unfold word2;obtain ⟨X, hX⟩ : ∃ X, ((wE x : Int) - 1074 + ((wE y : Int) - 1074)).toNat = X := ⟨_, rfl⟩;obtain ⟨Y, hY⟩ : ∃ Y, (-((wE x : Int) - 1074 + ((wE y : Int) - 1074))).toNat = Y := ⟨_, rfl⟩;rw [hX, hY, Nat.one_mul];refine word_eq (Nat.two_pow_pos _) (Nat.mul_pos hx.2.1 hy.2.1) ?_
 have hp : (2 : Nat) ^ wE x * 2 ^ wE y * 2 ^ Y = 2 ^ X * (one74 * one74) := by
  rw [one74_eq, ← Nat.pow_add, ← Nat.pow_add, ← Nat.pow_add, ← Nat.pow_add]
  exact congrArg (2 ^ ·) (by rw [e74_eq]; omega)
 have h1 := hx.2.2;have h2 := hy.2.2;unfold wU at h1 h2;apply Nat.eq_of_mul_eq_mul_right (Nat.mul_pos one74_pos one74_pos)
 calc wM x * wM y * 2 ^ X * (b * d) * (one74 * one74) = wM x * wM y * (b * d) * (2 ^ X * (one74 * one74)) := by grind
  _ = wM x * wM y * (b * d) * (2 ^ wE x * 2 ^ wE y * 2 ^ Y) := by rw [hp]
  _ = (wM x * 2 ^ wE x * b) * (wM y * 2 ^ wE y * d) * 2 ^ Y := by grind
  _ = a * c * 2 ^ Y * (one74 * one74) := by rw [h1, h2]; grind
theorem sticky_rne {A n k : Nat} (hn : 0 < n) (hk : 0 < k) : rne (2 * (A / n) + (if A % n = 0 then 0 else 1)) (4 * k) = rne (2 * A) (n * (4 * k)) := by
 have hr := Nat.mod_lt A hn;have hA := Nat.div_add_mod A n;obtain ⟨q, hq⟩ : ∃ q, A / n = q := ⟨_, rfl⟩;obtain ⟨r, hr'⟩ : ∃ r, A % n = r := ⟨_, rfl⟩;rw [hq, hr'] at hA;rw [hr'] at hr;rw [hq, hr'];obtain ⟨f, hf⟩ : ∃ f, 2 * q / (4 * k) = f := ⟨_, rfl⟩;obtain ⟨R, hR⟩ : ∃ R, 2 * q % (4 * k) = R := ⟨_, rfl⟩;have hqR := Nat.div_add_mod (2 * q) (4 * k);have hRG := Nat.mod_lt (2 * q) (show 0 < 4 * k by omega);rw [hR] at hRG;rw [hf, hR] at hqR;have hkf : 4 * k * f = 2 * (2 * (k * f)) := (by grind);have hRe : R % 2 = 0 := (by omega);have hs : (if r = 0 then 0 else 1) ≤ 1 ∧ ((if r = 0 then 0 else 1) = 0 ↔ r = 0) := (by split <;> simp [*]);obtain ⟨s, hs'⟩ : ∃ s, (if r = 0 then 0 else 1) = s := ⟨_, rfl⟩;rw [hs'] at hs ⊢;have hN : 2 * q + s = 4 * k * f + (R + s) := (by omega);have hlt1 : R + s < 4 * k := (by omega)
 have hA2 : 2 * A = n * (4 * k) * f + (n * R + 2 * r) := by
  have : n * (2 * q) = n * (4 * k * f + R) := (by rw [hqR]);rw [Nat.mul_add, ← Nat.mul_assoc n (4 * k) f] at this;have e : n * (2 * q) = 2 * (n * q) := (by grind);omega
 have hlt2 : n * R + 2 * r < n * (4 * k) := by
  have h1 : n * (R + 2) ≤ n * (4 * k) := Nat.mul_le_mul_left _ (by omega);rw [Nat.mul_add] at h1;omega
 have hd1 : (2 * q + s) / (4 * k) = f ∧ (2 * q + s) % (4 * k) = R + s := by
  rw [hN, Nat.mul_add_div (by omega), Nat.div_eq_of_lt hlt1, Nat.mul_add_mod, Nat.mod_eq_of_lt hlt1];exact ⟨rfl, rfl⟩
 have hd2 : (2 * A) / (n * (4 * k)) = f ∧ (2 * A) % (n * (4 * k)) = n * R + 2 * r := by
  have hp : 0 < n * (4 * k) := Nat.mul_pos hn (by omega);rw [hA2, Nat.mul_add_div hp, Nat.div_eq_of_lt hlt2, Nat.mul_add_mod, Nat.mod_eq_of_lt hlt2];exact ⟨rfl, rfl⟩
 unfold rne;rw [hd1.1, hd1.2, hd2.1, hd2.2]
 refine congrArg (f + ·) ?_
 have hnk : n * (4 * k) = 2 * (n * (2 * k)) := (by grind)
 have hcond : (4 * k < 2 * (R + s) ∨ 2 * (R + s) = 4 * k ∧ f % 2 = 1) ↔ (n * (4 * k) < 2 * (n * R + 2 * r) ∨ 2 * (n * R + 2 * r) = n * (4 * k) ∧ f % 2 = 1) := by
  rcases Nat.lt_trichotomy R (2 * k) with h | h | h
  ·have h1 : n * (R + 2) ≤ n * (2 * k) := Nat.mul_le_mul_left _ (by omega);rw [Nat.mul_add] at h1;constructor
   ·rintro (h2 | ⟨h2, _⟩) <;> omega
   ·rintro (h2 | ⟨h2, _⟩) <;> omega
  ·subst h;by_cases hr0 : r = 0
   ·have hs0 := hs.2.2 hr0;constructor
    ·rintro (h2 | ⟨h2, h3⟩)
     ·omega
     ·exact Or.inr ⟨by omega, h3⟩
    ·rintro (h2 | ⟨h2, h3⟩)
     ·omega
     ·exact Or.inr ⟨by omega, h3⟩
   ·have hs1 : s ≠ 0 := fun h => hr0 (hs.2.1 h);constructor
    ·intro _; left; omega
    ·intro _; left; omega
  ·have h1 : n * (2 * k + 1) ≤ n * R := Nat.mul_le_mul_left _ h;rw [Nat.mul_add] at h1;constructor
   ·intro _; left; omega
   ·intro _; left; omega
 by_cases hc : 4 * k < 2 * (R + s) ∨ 2 * (R + s) = 4 * k ∧ f % 2 = 1
 ·rw [if_pos hc, if_pos (hcond.1 hc)]
 ·rw [if_neg hc, if_neg (fun h => hc (hcond.2 h))]
theorem sticky_word {A n X Y : Nat} (hn : 0 < n) (hq : 2 ^ 53 ≤ A / n) : word ((2 * (A / n) + (if A % n = 0 then 0 else 1)) * 2 ^ X) (2 ^ Y) = word (2 * A * 2 ^ X) (n * 2 ^ Y) := by
 obtain ⟨N, hN⟩ : ∃ N, 2 * (A / n) + (if A % n = 0 then 0 else 1) = N := ⟨_, rfl⟩;have hN1 : 2 * (A / n) ≤ N ∧ N ≤ 2 * (A / n) + 1 := (by rw [← hN]; split <;> omega);have hnear := nearAt_place (n := N * 2 ^ X) (d := 2 ^ Y) (Nat.two_pow_pos _);obtain ⟨E, hE⟩ : ∃ E, place (N * 2 ^ X) (2 ^ Y) = E := ⟨_, rfl⟩;rw [hE] at hnear;have hXp : 0 < 2 ^ X * one74 := Nat.mul_pos (Nat.two_pow_pos _) one74_pos
 obtain ⟨k, hk0, hk⟩ : ∃ k, 0 < k ∧ 2 ^ Y * 2 ^ E = 4 * k * (2 ^ X * one74) := by
  have h1 := hnear.1;have h2 : 2 ^ 54 * (2 ^ X * one74) ≤ N * 2 ^ X * one74 := (by rw [Nat.mul_assoc]; exact Nat.mul_le_mul_right _ (by omega));have h3 := Nat.lt_of_le_of_lt h2 h1;rw [one74_eq] at h3 ⊢;rw [← Nat.pow_add, ← Nat.pow_add, ← Nat.pow_add, ← Nat.pow_add] at h3;have h4 := (Nat.pow_lt_pow_iff_right (by decide)).1 h3;refine ⟨2 ^ (Y + E - (X + e74) - 2), Nat.two_pow_pos _, ?_⟩;rw [show (4 : Nat) = 2 ^ 2 from rfl, ← Nat.pow_add, ← Nat.pow_add, ← Nat.pow_add, ← Nat.pow_add]
  exact congrArg (2 ^ ·) (by omega)
 have hAn := Nat.div_add_mod A n;have hAm := Nat.mod_lt A hn;have h1 := hnear.1;rw [hk, Nat.mul_assoc N, ← Nat.mul_assoc (2 ^ 53)] at h1;have h1' : N < 2 ^ 53 * (4 * k) := Nat.lt_of_mul_lt_mul_right h1;have hd' : n * 2 ^ Y * 2 ^ E = n * (4 * k) * (2 ^ X * one74) := (by rw [Nat.mul_assoc, hk, Nat.mul_assoc n])
 have hnear' : nearAt (2 * A * 2 ^ X) (n * 2 ^ Y) E := by
  refine ⟨?_, hnear.2.imp id (fun h => ?_)⟩
  ·rw [hd', Nat.mul_assoc (2 * A), ← Nat.mul_assoc (2 ^ 53)];refine Nat.mul_lt_mul_of_pos_right ?_ hXp;have h5 : n * (2 * (A / n) + 2) ≤ n * (2 ^ 53 * (4 * k)) := Nat.mul_le_mul_left _ (by omega);rw [Nat.mul_add] at h5;have e1 : n * (2 * (A / n)) = 2 * (n * (A / n)) := (by grind);have e2 : n * (2 ^ 53 * (4 * k)) = 2 ^ 53 * (n * (4 * k)) := (by grind);omega
  ·rw [hd', Nat.mul_assoc (2 * A), ← Nat.mul_assoc (2 ^ 52)];refine Nat.mul_le_mul_right _ ?_;rw [hk, Nat.mul_assoc N, ← Nat.mul_assoc (2 ^ 52)] at h;have h6 : 2 ^ 52 * (4 * k) ≤ N := Nat.le_of_mul_le_mul_right h hXp;have h5 : n * (2 ^ 52 * (4 * k)) ≤ n * (2 * (A / n)) := Nat.mul_le_mul_left _ (by omega);have e1 : n * (2 * (A / n)) = 2 * (n * (A / n)) := (by grind);have e2 : n * (2 ^ 52 * (4 * k)) = 2 ^ 52 * (n * (4 * k)) := (by grind);omega
 rw [hN, word_of (Nat.two_pow_pos _) hnear, word_of (Nat.mul_pos hn (Nat.two_pow_pos _)) hnear'];unfold wordAt;rw [hd', hk, Nat.mul_assoc N, Nat.mul_assoc (2 * A), rne_scale hXp, rne_scale hXp, ← hN, sticky_rne hn hk0]
theorem quotient_num (g m n : Nat) (i j : Int) (hn : n ≠ 0) : Datum.quotient g (.number false m i) (.number false n j) = some (.number false (2 * ((m <<< (g + n.log2 - m.log2)) / n) + ((m <<< (g + n.log2 - m.log2)) % n != 0).toNat) (i - j - (g + n.log2 - m.log2 : Nat) - 1)) := by
 unfold Datum.quotient;exact if_neg hn
/-- A quotient. -/
theorem div_word {x y a b c d : Nat} (hx : isV x a b) (hy : isV y c d) (hx0 : 0 < x) (hc : 0 < c) : double.div x y = some (word (a * d) (b * c)) := by
 have hm0 : 0 < wM x := by
  have := wEM x;by_cases he : 0 < wE x
  ·have := wM_ge he; omega
  ·omega
 have h1 := hx.2.2;have h2 := hy.2.2
 have hn0 : 0 < wM y := by
  apply Nat.pos_of_ne_zero;intro h;unfold wU at h2;rw [h, Nat.zero_mul, Nat.zero_mul] at h2;have := Nat.mul_pos hc one74_pos;omega
 unfold Format.div;rw [read_word hx.1, read_word hy.1];obtain ⟨mo, hmo⟩ : ∃ mo, 52 + 2 + (wM y).log2 - (wM x).log2 = mo := ⟨_, rfl⟩
 have hq : Datum.quotient (double.fractionBits + 2) (.number false (wM x) ((wE x : Int) - 1074)) (.number false (wM y) ((wE y : Int) - 1074)) = some (.number false (2 * ((wM x <<< mo) / wM y) + ((wM x <<< mo) % wM y != 0).toNat) ((wE x : Int) - 1074 - ((wE y : Int) - 1074) - mo - 1)) := by
  rw [← hmo];exact quotient_num _ _ _ _ _ (by omega)
 rw [hq];show some (double.nearest false _ _) = _;rw [nearest_word, Nat.shiftLeft_eq];refine congrArg some ?_
 have hs : ((wM x * 2 ^ mo) % wM y != 0).toNat = if (wM x * 2 ^ mo) % wM y = 0 then 0 else 1 := by
  by_cases h : (wM x * 2 ^ mo) % wM y = 0
  ·rw [h]; rfl
  ·rw [if_neg h, bne_iff_ne.2 h]; rfl
 rw [hs]
 have hbig : 2 ^ 53 ≤ wM x * 2 ^ mo / wM y := by
  rw [Nat.le_div_iff_mul_le hn0];have l1 := Nat.log2_self_le (n := wM x) (by omega);have l2 := Nat.lt_log2_self (n := wM y);have l3 : (wM x).log2 < 53 := (Nat.log2_lt (by omega)).2 (wM_lt x)
  have e : 2 ^ 53 * 2 ^ ((wM y).log2 + 1) = 2 ^ (wM x).log2 * 2 ^ mo := by
   rw [← Nat.pow_add, ← Nat.pow_add]
   exact congrArg (2 ^ ·) (by omega)
  calc 2 ^ 53 * wM y ≤ 2 ^ 53 * 2 ^ ((wM y).log2 + 1) := Nat.mul_le_mul_left _ (by omega)
   _ = 2 ^ (wM x).log2 * 2 ^ mo := e
   _ ≤ wM x * 2 ^ mo := Nat.mul_le_mul_right _ l1
 unfold word2;obtain ⟨X, hX⟩ : ∃ X, ((wE x : Int) - 1074 - ((wE y : Int) - 1074) - mo - 1).toNat = X := ⟨_, rfl⟩;obtain ⟨Y, hY⟩ : ∃ Y, (-((wE x : Int) - 1074 - ((wE y : Int) - 1074) - mo - 1)).toNat = Y := ⟨_, rfl⟩;rw [hX, hY, Nat.one_mul, sticky_word hn0 hbig];refine word_eq (Nat.mul_pos hn0 (Nat.two_pow_pos _)) (Nat.mul_pos hx.2.1 hc) ?_
 have hp : 2 * 2 ^ mo * 2 ^ X * 2 ^ wE y = 2 ^ Y * 2 ^ wE x := by
  have e2 : (2 : Nat) * 2 ^ mo = 2 ^ (mo + 1) := (by rw [Nat.pow_succ, Nat.mul_comm]);rw [e2, ← Nat.pow_add, ← Nat.pow_add, ← Nat.pow_add]
  exact congrArg (2 ^ ·) (by omega)
 unfold wU at h1 h2;apply Nat.eq_of_mul_eq_mul_right (Nat.mul_pos one74_pos (Nat.two_pow_pos (wE y)))
 calc 2 * (wM x * 2 ^ mo) * 2 ^ X * (b * c) * (one74 * 2 ^ wE y) = wM x * (2 * 2 ^ mo * 2 ^ X * 2 ^ wE y) * b * (c * one74) := by grind
  _ = wM x * (2 ^ Y * 2 ^ wE x) * b * (wM y * 2 ^ wE y * d) := by rw [hp, h2]
  _ = (wM x * 2 ^ wE x * b) * d * wM y * 2 ^ Y * 2 ^ wE y := by grind
  _ = a * d * (wM y * 2 ^ Y) * (one74 * 2 ^ wE y) := by rw [h1]; grind
end Go.Proofs.YtlblkajnmdhmdaaGreatDoor.NU
