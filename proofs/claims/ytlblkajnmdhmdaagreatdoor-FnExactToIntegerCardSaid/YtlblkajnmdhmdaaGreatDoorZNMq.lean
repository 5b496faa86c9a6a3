/-
  Plain: the nearest word is monotone; the digits of a numeral all told, against the first 19 of them.
  Plain: the answer that a decimal numeral has; digits and points counted as the reference counts them.
-/
import Derived.Test.YtlblkajnmdhmdaaGreatDoorZNAt
namespace Go.Proofs.YtlblkajnmdhmdaaGreatDoor
set_option linter.unusedVariables false
open NR
namespace NU
theorem rne_mono {n n' d : Nat} (hd : 0 < d) (h : n ≤ n') : rne n d ≤ rne n' d := by
 have h1 : n / d ≤ n' / d := Nat.div_le_div_right h
 rcases Nat.lt_or_eq_of_le h1 with h2 | h2
 ·have a := (rne_bounds (n := n) hd).2;have b := (rne_bounds (n := n') hd).1;omega
 ·have e1 := Nat.div_add_mod n d;have e2 := Nat.div_add_mod n' d;rw [← h2] at e2;have h3 : n % d ≤ n' % d := (by omega);unfold rne;rw [← h2];by_cases hc : d < 2 * (n % d) ∨ 2 * (n % d) = d ∧ n / d % 2 = 1
  ·rw [if_pos hc, if_pos (by omega)];exact Nat.le_refl _
  ·rw [if_neg hc];split <;> omega
theorem min_mono {a b M : Nat} (h : a ≤ b) : min a M ≤ min b M := by omega
theorem word_mono {n n' d : Nat} (hd : 0 < d) (h : n ≤ n') : word n d ≤ word n' d := by
 have p1 := nearAt_place (n := n) hd;have p2 := nearAt_place (n := n') hd;unfold word wordAt;have hN : n * one74 ≤ n' * one74 := Nat.mul_le_mul_right _ h
 have hle : place n d ≤ place n' d := by
  apply Nat.le_of_not_lt;intro hlt;unfold nearAt at p1 p2;have h1 := p1.2.resolve_left (by omega);obtain ⟨g, hg⟩ : ∃ g, place n d = place n' d + 1 + g := ⟨place n d - place n' d - 1, by omega⟩;rw [hg] at h1;have e : d * 2 ^ (place n' d + 1 + g) = d * 2 ^ place n' d * 2 * 2 ^ g := (by rw [Nat.pow_add, Nat.pow_succ]; grind);rw [e] at h1;have h2 : d * 2 ^ place n' d * 2 * 1 ≤ d * 2 ^ place n' d * 2 * 2 ^ g := Nat.mul_le_mul_left _ (Nat.two_pow_pos g);have h3 := p2.1;obtain ⟨X, hX⟩ : ∃ X, d * 2 ^ place n' d = X := ⟨_, rfl⟩;rw [hX] at h1 h2 h3;omega
 have key : place n d * 2 ^ 52 + rne (n * one74) (d * 2 ^ place n d) ≤ place n' d * 2 ^ 52 + rne (n' * one74) (d * 2 ^ place n' d) := by
  rcases Nat.lt_or_eq_of_le hle with hlt | heq
  ·have h1 : rne (n * one74) (d * 2 ^ place n d) ≤ 2 ^ 53 := by
    have hdd : 0 < d * 2 ^ place n d := Nat.mul_pos hd (Nat.two_pow_pos _);have a := (rne_bounds (n := n * one74) hdd).2;have b : n * one74 / (d * 2 ^ place n d) < 2 ^ 53 := Nat.div_lt_of_lt_mul (by rw [Nat.mul_comm _ (2 ^ 53)]; exact p1.1);omega
   have h2 : 2 ^ 52 ≤ rne (n' * one74) (d * 2 ^ place n' d) := by
    have hdd : 0 < d * 2 ^ place n' d := Nat.mul_pos hd (Nat.two_pow_pos _);have a := (rne_bounds (n := n' * one74) hdd).1;have b : 2 ^ 52 ≤ n' * one74 / (d * 2 ^ place n' d) := (Nat.le_div_iff_mul_le hdd).2 (p2.2.resolve_left (by omega));omega
   have h3 : (place n d + 1) * 2 ^ 52 ≤ place n' d * 2 ^ 52 := Nat.mul_le_mul_right _ hlt;rw [Nat.add_mul, Nat.one_mul] at h3;generalize rne (n * one74) (d * 2 ^ place n d) = a at h1 ⊢;generalize rne (n' * one74) (d * 2 ^ place n' d) = b at h2 ⊢;omega
  ·rw [← heq];exact Nat.add_le_add_left (rne_mono (Nat.mul_pos hd (Nat.two_pow_pos _)) hN) _
 exact min_mono key
theorem wordE_mono {n n' : Nat} {e : Int} (h : n ≤ n') : wordE n e ≤ wordE n' e := by
 unfold wordE;exact word_mono (Nat.pow_pos (by decide)) (Nat.mul_le_mul_right _ h)
/-- Zeros behind a number. -/
theorem wordE_shift (n k : Nat) (e : Int) : wordE (n * 10 ^ k) e = wordE n (e + k) := by
 unfold wordE;apply word_eq (Nat.pow_pos (by decide)) (Nat.pow_pos (by decide));rw [Nat.mul_assoc n, ← Nat.pow_add, Nat.mul_assoc n, ← Nat.pow_add, Nat.mul_assoc n, ← Nat.pow_add]
 exact congrArg (n * 10 ^ ·) (by omega)
end NU
/-- All the digits of the first k bytes. -/
def fdig (s : ByteArray) : Nat → Nat
 | 0 => 0
 | k + 1 => if bt s k = 46 then fdig s k else fdig s k * 10 + (bt s k - 48)
/-- The first digits and the rest. -/
theorem fdig_scan {s : ByteArray} {P : Nat} (hd : ∀ k, k < P → (bt s k = 46 ∧ (scan s k).dot = false) ∨ isD (bt s k)) : ∀ k, k ≤ P →
  (scan s k).nm = min (scan s k).nd 19 ∧ fdig s k < 10 ^ (scan s k).nd ∧ (1 ≤ (scan s k).nd → 10 ^ ((scan s k).nd - 1) ≤ fdig s k) ∧
  (scan s k).m * 10 ^ ((scan s k).nd - (scan s k).nm) ≤ fdig s k ∧ fdig s k < ((scan s k).m + 1) * 10 ^ ((scan s k).nd - (scan s k).nm) ∧
  ((scan s k).tr = false → fdig s k = (scan s k).m * 10 ^ ((scan s k).nd - (scan s k).nm))
 | 0, _ => by simp [scan, fdig]
 | k + 1, hk => by
  obtain ⟨h1, h2, h3, h4, h5, h6⟩ := fdig_scan hd k (by omega);have hc := hd k (by omega)
  show (NR.step (scan s k) (bt s k)).nm = min (NR.step (scan s k) (bt s k)).nd 19 ∧ fdig s (k + 1) < 10 ^ (NR.step (scan s k) (bt s k)).nd ∧ (1 ≤ (NR.step (scan s k) (bt s k)).nd → 10 ^ ((NR.step (scan s k) (bt s k)).nd - 1) ≤ fdig s (k + 1)) ∧
   (NR.step (scan s k) (bt s k)).m * 10 ^ ((NR.step (scan s k) (bt s k)).nd - (NR.step (scan s k) (bt s k)).nm) ≤ fdig s (k + 1) ∧ fdig s (k + 1) < ((NR.step (scan s k) (bt s k)).m + 1) * 10 ^ ((NR.step (scan s k) (bt s k)).nd - (NR.step (scan s k) (bt s k)).nm) ∧
   ((NR.step (scan s k) (bt s k)).tr = false → fdig s (k + 1) = (NR.step (scan s k) (bt s k)).m * 10 ^ ((NR.step (scan s k) (bt s k)).nd - (NR.step (scan s k) (bt s k)).nm))
  have hF : fdig s (k + 1) = if bt s k = 46 then fdig s k else fdig s k * 10 + (bt s k - 48) := rfl;rw [hF];obtain ⟨c, hcc⟩ : ∃ c, bt s k = c := ⟨_, rfl⟩;obtain ⟨D, hD⟩ : ∃ D, fdig s k = D := ⟨_, rfl⟩;obtain ⟨r, hr⟩ : ∃ r, scan s k = r := ⟨_, rfl⟩;rw [hcc, hr] at hc;rw [hr] at h1 h2 h3 h4 h5 h6;rw [hD] at h2 h3 h4 h5 h6;rw [hcc, hD, hr];clear hcc hD hr hF hd;obtain ⟨m, nd, nm, dp, dot, dig, tr⟩ := r;simp only at h1 h2 h3 h4 h5 h6;unfold NR.step;by_cases h46 : c = 46
  ·rw [if_pos h46, if_pos h46];exact ⟨h1, h2, h3, h4, h5, h6⟩
  ·rw [if_neg h46, if_neg h46];have hcd : 48 ≤ c ∧ c ≤ 57 := hc.resolve_left fun h => h46 h.1;by_cases h0 : c = 48 ∧ nd = 0
   ·obtain ⟨h48, h0⟩ := h0;subst h0;rw [if_pos ⟨h48, rfl⟩];rw [Nat.pow_zero] at h2;have hD0 : D = 0 := (by omega);subst hD0;rw [show 0 * 10 + (c - 48) = 0 by omega];exact ⟨h1, by simp, h3, h4, h5, h6⟩
   ·rw [if_neg h0];have hpow : D * 10 + (c - 48) < 10 ^ (nd + 1) := (by rw [Nat.pow_succ]; omega)
    have hpow1 : 10 ^ (nd + 1 - 1) ≤ D * 10 + (c - 48) := by
     rw [Nat.add_sub_cancel];by_cases hn0 : nd = 0
     ·subst hn0;rw [Nat.pow_zero];omega
     ·have := h3 (by omega);have e : 10 ^ nd = 10 ^ (nd - 1) * 10 := (by rw [← Nat.pow_succ]; exact congrArg _ (by omega));omega
    by_cases hnm : nm < 19
    ·rw [if_pos hnm];have e0 : nm = nd := (by omega);subst e0;rw [Nat.sub_self, Nat.pow_zero] at h4 h5 h6;refine ⟨by simp only; omega, hpow, fun _ => hpow1, ?_, ?_, ?_⟩
     ·simp only [Nat.sub_self, Nat.pow_zero]; omega
     ·simp only [Nat.sub_self, Nat.pow_zero]; omega
     ·simp only [Nat.sub_self, Nat.pow_zero];intro _;omega
    ·rw [if_neg hnm];have e1 : nd + 1 - nm = nd - nm + 1 := (by omega);refine ⟨by simp only; omega, hpow, fun _ => hpow1, ?_, ?_, ?_⟩
     ·simp only [e1, Nat.pow_succ, ← Nat.mul_assoc]; omega
     ·simp only [e1, Nat.pow_succ, ← Nat.mul_assoc]; omega
     ·simp only [e1, Nat.pow_succ, ← Nat.mul_assoc];intro ht;rw [Bool.or_eq_false_iff] at ht;have := h6 ht.1;have h48 : c = 48 := (by simpa using ht.2);omega
end Go.Proofs.YtlblkajnmdhmdaaGreatDoor
namespace Go.Proofs.YtlblkajnmdhmdaaGreatDoor
set_option linter.unusedVariables false
open NR
/-- The word of the numeral's value. -/
def numW (s : ByteArray) (P : Nat) (E : Int) : Nat := NU.wordE (fdig s P) (dpt (scan s P) + E - (scan s P).nd)
/-- The integer that the numeral is, or none. -/
def decI (s : ByteArray) (P : Nat) : Option Int := if P = s.size ∧ (scan s P).dot = false ∧ fdig s P < 9223372036854775808 then some (fdig s P : Int) else none
/-- What comes behind the digits: nothing, or an exponent. -/
def Tail (s : ByteArray) (P : Nat) (E : Int) : Prop := (P = s.size ∧ E = 0) ∨ ∃ q neg, HasExp s P q neg ∧ E = expI s q neg
/-- A decimal numeral. -/
def IsDec (s : ByteArray) (P : Nat) (E : Int) : Prop := Digs s P ∧ Tail s P E
/-- A hexadecimal numeral's head. -/
def IsHex (s : ByteArray) : Prop := 1 < s.size ∧ bt s 0 = 48 ∧ (bt s 1 = 120 ∨ bt s 1 = 88)
/-- The points among the first k bytes. -/
def pt (s : ByteArray) : Nat → Nat
 | 0 => 0
 | k + 1 => if bt s k = 46 then pt s k + 1 else pt s k
/-- The digits behind a point. -/
def bh (s : ByteArray) : Nat → Nat
 | 0 => 0
 | k + 1 => if bt s k = 46 then bh s k else bh s k + pt s k
/-- The digits. -/
def dl (s : ByteArray) : Nat → List Int
 | 0 => []
 | k + 1 => if bt s k = 46 then dl s k else dl s k ++ [(bt s k : Int)]
theorem pt_mono {s : ByteArray} {j k : Nat} (h : j ≤ k) : pt s j ≤ pt s k := by
 induction k with
 | zero => rw [show j = 0 by omega]; exact Nat.le_refl _
 | succ k ih =>
  by_cases e : j = k + 1
  ·rw [e]; exact Nat.le_refl _
  ·have := ih (by omega);show pt s j ≤ if bt s k = 46 then pt s k + 1 else pt s k;split <;> omega
theorem dot_pt (s : ByteArray) : ∀ j, (scan s j).dot = decide (1 ≤ pt s j)
 | 0 => rfl
 | j + 1 => by
  have ih := dot_pt s j;show (NR.step (scan s j) (bt s j)).dot = decide (1 ≤ if bt s j = 46 then pt s j + 1 else pt s j);unfold NR.step;by_cases h : bt s j = 46
  ·rw [if_pos h, if_pos h, decide_eq_true (by omega)]
  ·rw [if_neg h, if_neg h];split
   ·exact ih
   ·split
    ·exact ih
    ·exact ih
theorem dig_dl (s : ByteArray) : ∀ j, (scan s j).dig = decide (dl s j ≠ [])
 | 0 => rfl
 | j + 1 => by
  have ih := dig_dl s j;show (NR.step (scan s j) (bt s j)).dig = decide ((if bt s j = 46 then dl s j else dl s j ++ [(bt s j : Int)]) ≠ []);unfold NR.step;by_cases h : bt s j = 46
  ·simp only [if_pos h];exact ih
  ·simp only [if_neg h];rw [decide_eq_true (show dl s j ++ [(bt s j : Int)] ≠ [] by simp)];split
   ·rfl
   ·split <;> rfl
theorem bh_scan {s : ByteArray} {P : Nat} (hd : ∀ k, k < P → bt s k = 46 ∨ isD (bt s k)) (hp : pt s P ≤ 1) : ∀ j, j ≤ P → ((scan s j).dot = true → (scan s j).dp = (scan s j).nd - bh s j) ∧ ((scan s j).dot = false → bh s j = 0)
 | 0, _ => ⟨fun h => by simp [scan] at h, fun _ => rfl⟩
 | j + 1, hj => by
  obtain ⟨i1, i2⟩ := bh_scan hd hp j (by omega);have hpj := pt_mono (s := s) hj;have hdj := dot_pt s j;have hc := hd j (by omega);show ((NR.step (scan s j) (bt s j)).dot = true → (NR.step (scan s j) (bt s j)).dp = (NR.step (scan s j) (bt s j)).nd - ((if bt s j = 46 then bh s j else bh s j + pt s j : Nat) : Int)) ∧ ((NR.step (scan s j) (bt s j)).dot = false → (if bt s j = 46 then bh s j else bh s j + pt s j) = 0);have hpn : pt s (j + 1) = if bt s j = 46 then pt s j + 1 else pt s j := rfl;by_cases h : bt s j = 46
  ·rw [if_pos h] at hpn;have h0 : (scan s j).dot = false := (by rw [hdj]; exact decide_eq_false (by omega));have h1 := i2 h0;rw [if_pos h];unfold NR.step;rw [if_pos h];refine ⟨fun _ => ?_, fun hh => absurd (show true = false from hh) (by decide)⟩;show ((scan s j).nd : Int) = (scan s j).nd - (bh s j : Int);omega
  ·rw [if_neg h] at hpn ⊢
   have hpt : (scan s j).dot = true → pt s j = 1 := fun hh => by
    rw [hh] at hdj;have := of_decide_eq_true hdj.symm;omega
   have hpf : (scan s j).dot = false → pt s j = 0 := fun hh => by
    rw [hh] at hdj;have := of_decide_eq_false hdj.symm;omega
   unfold NR.step;rw [if_neg h];split
   ·refine ⟨fun hh => ?_, fun hh => ?_⟩
    ·have a := i1 hh;have b := hpt hh;show (scan s j).dp - 1 = ((scan s j).nd : Int) - _;omega
    ·have a := i2 hh;have b := hpf hh;omega
   ·split
    ·refine ⟨fun hh => ?_, fun hh => ?_⟩
     ·have a := i1 hh;have b := hpt hh;show (scan s j).dp = (((scan s j).nd + 1 : Nat) : Int) - _;omega
     ·have a := i2 hh;have b := hpf hh;omega
    ·refine ⟨fun hh => ?_, fun hh => ?_⟩
     ·have a := i1 hh;have b := hpt hh;show (scan s j).dp = (((scan s j).nd + 1 : Nat) : Int) - _;omega
     ·have a := i2 hh;have b := hpf hh;omega
theorem dpt_bh {s : ByteArray} {P : Nat} (hd : ∀ k, k < P → bt s k = 46 ∨ isD (bt s k)) (hp : pt s P ≤ 1) : dpt (scan s P) - (scan s P).nd = -(bh s P : Int) := by
 obtain ⟨h1, h2⟩ := bh_scan hd hp P (Nat.le_refl _);unfold dpt
 cases h : (scan s P).dot with
 | true => rw [if_pos rfl, h1 h]; omega
 | false => rw [if_neg (by decide), h2 h]; omega
/-- The bytes up to the stop make a numeral's digits where there is one point at most, and a digit. -/
theorem digs_of {s : ByteArray} {P : Nat} (hP : P ≤ s.size) (hd : ∀ k, k < P → bt s k = 46 ∨ isD (bt s k)) (hp : pt s P ≤ 1) (hl : dl s P ≠ []) : Digs s P := by
 refine ⟨?_, hP, fun k hk => ?_, by rw [dig_dl]; exact decide_eq_true hl⟩
 ·apply Nat.pos_of_ne_zero;intro h;subst h;exact hl rfl
 ·rcases hd k hk with h | h
  ·left;refine ⟨h, ?_⟩;rw [dot_pt];apply decide_eq_false;have h1 := pt_mono (s := s) (show k + 1 ≤ P from hk);have h2 : pt s (k + 1) = pt s k + 1 := if_pos h;omega
  ·exact Or.inr h
theorem digs_pt {s : ByteArray} {P : Nat} (h : Digs s P) : pt s P ≤ 1 ∧ dl s P ≠ [] := by
 obtain ⟨_, _, h3, h4⟩ := h;refine ⟨?_, ?_⟩
 ·have : ∀ j, j ≤ P → pt s j ≤ 1 := by
   intro j
   induction j with
   | zero => intro _; exact Nat.zero_le _
   | succ j ih =>
    intro hj;have ih := ih (by omega);show (if bt s j = 46 then pt s j + 1 else pt s j) ≤ 1;split
    ·rename_i hb
     rcases h3 j (by omega) with ⟨_, hdot⟩ | hd
     ·rw [dot_pt] at hdot;have := of_decide_eq_false hdot;omega
     ·unfold isD at hd;omega
    ·exact ih
  exact this P (Nat.le_refl _)
 ·rw [dig_dl] at h4;exact of_decide_eq_true h4
/-- There is a first byte that is no digit and no point. -/
theorem stop_at (s : ByteArray) : ∃ P, P ≤ s.size ∧ (∀ k, k < P → bt s k = 46 ∨ isD (bt s k)) ∧ (P = s.size ∨ (bt s P ≠ 46 ∧ ¬ isD (bt s P))) := by
 have : ∀ n j, j + n = s.size → (∀ k, k < j → bt s k = 46 ∨ isD (bt s k)) → ∃ P, P ≤ s.size ∧ (∀ k, k < P → bt s k = 46 ∨ isD (bt s k)) ∧ (P = s.size ∨ (bt s P ≠ 46 ∧ ¬ isD (bt s P))) := by
  intro n
  induction n with
  | zero => intro j hj h; exact ⟨j, by omega, h, Or.inl (by omega)⟩
  | succ n ih =>
   intro j hj h;by_cases hc : bt s j = 46 ∨ isD (bt s j)
   ·refine ih (j + 1) (by omega) fun k hk => ?_;by_cases e : k = j
    ·rw [e]; exact hc
    ·exact h k (by omega)
   ·exact ⟨j, by omega, h, Or.inr ⟨fun h => hc (Or.inl h), fun h => hc (Or.inr h)⟩⟩
 exact this s.size 0 (by omega) fun k hk => absurd hk (by omega)
/-- A numeral's digits end there. -/
theorem dec_stop {s : ByteArray} {P P' : Nat} {E : Int} (hP : P ≤ s.size) (hd : ∀ k, k < P → bt s k = 46 ∨ isD (bt s k)) (hs : P = s.size ∨ (bt s P ≠ 46 ∧ ¬ isD (bt s P))) (h : IsDec s P' E) : P' = P := by
 obtain ⟨⟨_, h2, h3, _⟩, ht⟩ := h
 rcases Nat.lt_trichotomy P' P with hlt | heq | hgt
 ·exfalso;have h4 := hd P' hlt
  rcases ht with ⟨e, _⟩ | ⟨q, neg, ⟨_, e, _⟩, _⟩
  ·omega
  ·unfold isD at h4;omega
 ·exact heq
 ·exfalso;have h4 := h3 P hgt
  rcases hs with hs | hs
  ·omega
  ·rcases h4 with h4 | h4
   ·exact hs.1 h4.1
   ·exact hs.2 h4
end Go.Proofs.YtlblkajnmdhmdaaGreatDoor
