/-
  Plain law, no Go in sight: a word's value rounded to n decimal digits; what fixed width writing computes.
  Plain law, no Go in sight: fixed width writing of a word as Go reckons it gives the word's value rounded to n digits.
  Plain law, no Go in sight: 17 digits read back as the word; the fewest digits that read back do not end in 0.
  Plain law, no Go in sight: the steps by which the reference finds a word lead to the nearest one.
-/
import Derived.Test.YtlblkajnmdhmdaaGreatDoorZNParse
namespace Go.Proofs.YtlblkajnmdhmdaaGreatDoor.NU
set_option linter.unusedVariables false

theorem tn_pos (i : Nat) : 0 < tn i := Nat.pow_pos (by decide)
theorem td_pos (i : Nat) : 0 < td i := Nat.pow_pos (by decide)
/-- Two powers of ten whose product is a whole one. -/
theorem ten_id {i j c : Nat} (h : i + j = 696 + c) : tn i * tn j = 10 ^ c * (td i * td j) := by
  unfold tn td
  rw [← Nat.pow_add, ← Nat.pow_add, ← Nat.pow_add]
  exact congrArg (10 ^ ·) (by omega)
theorem ten_up (i c : Nat) : tn i * 10 ^ c * td (i + c) = tn (i + c) * td i := by
  unfold tn td
  rw [← Nat.pow_add, ← Nat.pow_add, ← Nat.pow_add]
  exact congrArg (10 ^ ·) (by omega)
theorem ten_le {i j : Nat} (h : i ≤ j) : tn i * td j ≤ tn j * td i := by
  obtain ⟨c, rfl⟩ : ∃ c, j = i + c := ⟨j - i, by omega⟩
  rw [← ten_up i c]
  exact Nat.mul_le_mul_right _ (Nat.le_mul_of_pos_right _ (Nat.pow_pos (by decide)))

/-- The weight of w's first digit is 10^(j - 348). -/
def isW (w j : Nat) : Prop := one74 * tn j ≤ wU w * td j ∧ wU w * td (j + 1) < one74 * tn (j + 1)
/-- w's value times 10^(i - 348), rounded half to even. -/
def roundAt (w i : Nat) : Nat := rne (wU w * tn i) (one74 * td i)
/-- w's value rounded to k digits: the digits as a number, and the weight of the first (348 higher). -/
def digK (w k j : Nat) : Nat × Nat := if roundAt w (k + 695 - j) = 10 ^ k then (10 ^ (k - 1), j + 1) else (roundAt w (k + 695 - j), j)

theorem isW_unique {w j j' : Nat} (h : isW w j) (h' : isW w j') : j = j' := by
  have key : ∀ {j j' : Nat}, isW w j → isW w j' → ¬ j < j' := fun {j j'} h h' hlt => by
    have h1 := h.2
    have h2 := h'.1
    have h3 : tn (j + 1) * td j' ≤ tn j' * td (j + 1) := ten_le (by omega)
    have a1 : wU w * td (j + 1) * td j' < one74 * tn (j + 1) * td j' := Nat.mul_lt_mul_of_pos_right h1 (td_pos _)
    have a2 : one74 * tn j' * td (j + 1) ≤ wU w * td j' * td (j + 1) := Nat.mul_le_mul_right _ h2
    have a3 : one74 * (tn (j + 1) * td j') ≤ one74 * (tn j' * td (j + 1)) := Nat.mul_le_mul_left _ h3
    rw [← Nat.mul_assoc, ← Nat.mul_assoc] at a3
    have e : wU w * td (j + 1) * td j' = wU w * td j' * td (j + 1) := Nat.mul_right_comm _ _ _
    omega
  have a := key h h'
  have b := key h' h
  omega

theorem scale_ge {a b i j c : Nat} (hij : i + j = 696 + c) (h : a * tn j ≤ b * td j) : 10 ^ c * (a * td i) ≤ b * tn i := by
  refine Nat.le_of_mul_le_mul_right ?_ (td_pos j)
  have e := ten_id hij
  have h2 : a * tn j * tn i ≤ b * td j * tn i := Nat.mul_le_mul_right _ h
  calc 10 ^ c * (a * td i) * td j = a * (10 ^ c * (td i * td j)) := by grind
    _ = a * tn j * tn i := by rw [← e]; grind
    _ ≤ b * td j * tn i := h2
    _ = b * tn i * td j := Nat.mul_right_comm _ _ _
theorem scale_lt {a b i j c : Nat} (hij : i + j = 696 + c) (h : b * td j < a * tn j) : b * tn i < 10 ^ c * (a * td i) := by
  apply Nat.lt_of_mul_lt_mul_right (a := td j)
  have e := ten_id hij
  have h2 : b * td j * tn i < a * tn j * tn i := Nat.mul_lt_mul_of_pos_right h (tn_pos i)
  calc b * tn i * td j = b * td j * tn i := Nat.mul_right_comm _ _ _
    _ < a * tn j * tn i := h2
    _ = a * (10 ^ c * (td i * td j)) := by rw [← e]; grind
    _ = 10 ^ c * (a * td i) * td j := by grind

theorem rne_lt_of {n d q : Nat} (hd : 0 < d) (hq : 0 < q) (h : 2 * n < (2 * q - 1) * d) : rne n d < q := by
  obtain ⟨p, rfl⟩ : ∃ p, q = p + 1 := ⟨q - 1, by omega⟩
  have := rne_le (q := p) hd (by rw [show 2 * p + 1 = 2 * (p + 1) - 1 by omega]; exact h)
  omega

/-- Rounding half up to an even number. -/
theorem rne_half_even {n d q : Nat} (hd : 0 < d) (hq0 : 0 < q) (hq : q % 2 = 0) (h1 : (2 * q - 1) * d ≤ 2 * n) (h2 : n < q * d) : rne n d = q := by
  obtain ⟨p, rfl⟩ : ∃ p, q = p + 1 := ⟨q - 1, by omega⟩
  have e1 : (2 * (p + 1) - 1) * d = 2 * (p * d) + d := by rw [show 2 * (p + 1) - 1 = 2 * p + 1 by omega]; grind
  rw [e1] at h1
  have hf : n / d = p := Nat.div_eq_of_lt_le (by omega) h2
  have hdm := Nat.div_add_mod n d
  rw [hf, Nat.mul_comm] at hdm
  unfold rne
  rw [hf, if_pos (by omega)]

theorem pow10_even {n : Nat} (h : 0 < n) : 10 ^ n % 2 = 0 := by
  obtain ⟨m, rfl⟩ : ∃ m, n = m + 1 := ⟨n - 1, by omega⟩
  rw [Nat.pow_succ]; omega

/-- What fixed width writing gives is w rounded to n digits. jl: a weight that is the first digit's or one too small. -/
theorem fix_dig {w n jl : Nat} (hn : 1 ≤ n) (hn2 : n ≤ 17) (hjl : jl ≤ 695) (h1 : one74 * tn jl ≤ wU w * td jl) (h2 : wU w * td (jl + 1) < 2 * (one74 * tn (jl + 1))) :
    ∃ j, isW w j ∧ digK w n j = (if 2 * (wU w * tn (n + 695 - jl)) < (2 * 10 ^ n - 1) * (one74 * td (n + 695 - jl)) then (rne (wU w * tn (n + 695 - jl)) (one74 * td (n + 695 - jl)), jl)
      else (rne (wU w * tn (n + 695 - jl)) (one74 * td (n + 695 - jl) * 10), jl + 1)) ∧ 10 ^ (n - 1) ≤ (digK w n j).1 ∧ (digK w n j).1 < 10 ^ n ∧ jl ≤ j ∧ j ≤ jl + 1 := by
  have hp := scale_ge (i := n + 695 - jl) (c := n - 1) (by omega) h1
  have h2' : wU w * td (jl + 1) < 2 * one74 * tn (jl + 1) := by rw [Nat.mul_assoc]; exact h2
  have hq := scale_lt (i := n + 695 - jl) (j := jl + 1) (c := n) (by omega) h2'
  obtain ⟨P, hP⟩ : ∃ P, wU w * tn (n + 695 - jl) = P := ⟨_, rfl⟩
  obtain ⟨Q, hQ⟩ : ∃ Q, one74 * td (n + 695 - jl) = Q := ⟨_, rfl⟩
  rw [hP, hQ] at hp ⊢
  rw [hP, Nat.mul_assoc, hQ] at hq
  have hQp : 0 < Q := by rw [← hQ]; exact Nat.mul_pos one74_pos (td_pos _)
  have h10 : 10 ^ n = 10 * 10 ^ (n - 1) := by rw [Nat.mul_comm, ← Nat.pow_succ]; exact congrArg (10 ^ ·) (by omega)
  have htp : 0 < 10 ^ (n - 1) := Nat.pow_pos (by decide)
  have hev := pow10_even (n := n) (by omega)
  obtain ⟨T, hT⟩ : ∃ T, 10 ^ (n - 1) = T := ⟨_, rfl⟩
  rw [hT] at h10 hp htp
  have hW0 : wU w * td (jl + 1) < one74 * tn (jl + 1) ∨ one74 * tn (jl + 1) ≤ wU w * td (jl + 1) := by omega
  -- V < 10^(l+1) as P < 10^n Q
  have hiffL : wU w * td (jl + 1) < one74 * tn (jl + 1) → P < 10 ^ n * Q := fun h => by
    have := scale_lt (i := n + 695 - jl) (j := jl + 1) (c := n) (by omega) h
    rw [hP, hQ] at this; exact this
  have hiffG : one74 * tn (jl + 1) ≤ wU w * td (jl + 1) → 10 ^ n * Q ≤ P := fun h => by
    have := scale_ge (i := n + 695 - jl) (j := jl + 1) (c := n) (by omega) h
    rw [hP, hQ] at this; exact this
  by_cases hlt : 2 * P < (2 * 10 ^ n - 1) * Q
  · rw [if_pos hlt]
    have hPn : ¬ 10 ^ n * Q ≤ P := fun h => by
      have : (2 * 10 ^ n - 1) * Q ≤ 2 * 10 ^ n * Q := Nat.mul_le_mul_right _ (by omega)
      have e : 2 * 10 ^ n * Q = 2 * (10 ^ n * Q) := Nat.mul_assoc _ _ _
      omega
    have hW : isW w jl := ⟨h1, hW0.resolve_right fun h => hPn (hiffG h)⟩
    have hr := rne_lt_of hQp (by omega) hlt
    have hr2 := rne_ge hQp hp
    have hdk : digK w n jl = (rne P Q, jl) := by
      unfold digK roundAt
      rw [hP, hQ, if_neg (by omega)]
    exact ⟨jl, hW, hdk, by rw [hdk, hT]; exact hr2, by rw [hdk]; exact hr, by omega, by omega⟩
  · rw [if_neg hlt]
    by_cases hge : one74 * tn (jl + 1) ≤ wU w * td (jl + 1)
    · -- the first digit's weight is one higher
      have hPg := hiffG hge
      have hW : isW w (jl + 1) := by
        refine ⟨hge, ?_⟩
        have e1 := ten_up (jl + 1) 1
        apply Nat.lt_of_mul_lt_mul_right (a := td (jl + 1))
        calc wU w * td (jl + 1 + 1) * td (jl + 1) = wU w * td (jl + 1) * td (jl + 1 + 1) := Nat.mul_right_comm _ _ _
          _ < 2 * (one74 * tn (jl + 1)) * td (jl + 1 + 1) := Nat.mul_lt_mul_of_pos_right h2 (td_pos _)
          _ ≤ one74 * (tn (jl + 1) * 10 ^ 1 * td (jl + 1 + 1)) := by
            have : 2 * (one74 * tn (jl + 1) * td (jl + 1 + 1)) ≤ 10 * (one74 * tn (jl + 1) * td (jl + 1 + 1)) := Nat.mul_le_mul_right _ (by decide)
            rw [Nat.pow_one]
            grind
          _ = one74 * tn (jl + 1 + 1) * td (jl + 1) := by rw [e1]; exact (Nat.mul_assoc _ _ _).symm
      have hrat : roundAt w (n + 695 - (jl + 1)) = rne P (Q * 10) := by
        unfold roundAt
        have e := ten_up (n + 695 - (jl + 1)) 1
        rw [show n + 695 - (jl + 1) + 1 = n + 695 - jl by omega, Nat.pow_one] at e
        refine rne_ratio (Nat.mul_pos one74_pos (td_pos _)) (by omega) ?_
        rw [← hP, ← hQ]
        calc wU w * tn (n + 695 - (jl + 1)) * (one74 * td (n + 695 - jl) * 10) = wU w * one74 * (tn (n + 695 - (jl + 1)) * 10 * td (n + 695 - jl)) := by grind
          _ = wU w * tn (n + 695 - jl) * (one74 * td (n + 695 - (jl + 1))) := by rw [e]; grind
      have hQ10 : 0 < Q * 10 := by omega
      have hr : rne P (Q * 10) ≤ 2 * T := by
        apply rne_le hQ10
        rw [h10] at hq
        have : (2 * (2 * T) + 1) * (Q * 10) = 20 * (T * (2 * Q)) + 10 * Q := by grind
        have e2 : 10 * T * (2 * Q) = 10 * (T * (2 * Q)) := Nat.mul_assoc _ _ _
        omega
      have hr2 : T ≤ rne P (Q * 10) := by
        apply rne_ge hQ10
        rw [h10] at hPg
        have : T * (Q * 10) = 10 * T * Q := by grind
        omega
      have hdk : digK w n (jl + 1) = (rne P (Q * 10), jl + 1) := by
        unfold digK
        rw [hrat, if_neg (by omega)]
      exact ⟨jl + 1, hW, hdk, by rw [hdk, hT]; exact hr2, by rw [hdk]; show rne P (Q * 10) < _; omega, by omega, by omega⟩
    · have hge' : wU w * td (jl + 1) < one74 * tn (jl + 1) := by omega
      have hPl := hiffL hge'
      have hW : isW w jl := ⟨h1, hge'⟩
      have hr : rne P Q = 10 ^ n := rne_half_even hQp (by omega) hev (by omega) hPl
      have hr10 : rne P (Q * 10) = T := by
        rw [h10] at hlt hPl
        have e0 : (2 * (10 * T) - 1) * Q + Q = 20 * (T * Q) := by
          rw [← Nat.succ_mul, show (2 * (10 * T) - 1).succ = 20 * T by omega, Nat.mul_assoc]
        have e1 : 10 * T * Q = 10 * (T * Q) := Nat.mul_assoc _ _ _
        refine rne_eq (by omega) (Or.inl ?_) ?_
        · have e2 : (2 * T - 1) * (Q * 10) + 10 * Q = 20 * (T * Q) := by
            have : (2 * T - 1) * (Q * 10) + 1 * (Q * 10) = 2 * T * (Q * 10) := by rw [← Nat.add_mul, show 2 * T - 1 + 1 = 2 * T by omega]
            have e3 : 2 * T * (Q * 10) = 20 * (T * Q) := by grind
            omega
          omega
        · have e3 : (2 * T + 1) * (Q * 10) = 20 * (T * Q) + 10 * Q := by grind
          omega
      have hdk : digK w n jl = (T, jl + 1) := by
        unfold digK roundAt
        rw [hP, hQ, hr, if_pos rfl, hT]
      exact ⟨jl, hW, by rw [hdk, hr10], by rw [hdk, hT]; exact Nat.le_refl _, by rw [hdk]; show T < _; omega, by omega, by omega⟩
end Go.Proofs.YtlblkajnmdhmdaaGreatDoor.NU

namespace Go.Proofs.YtlblkajnmdhmdaaGreatDoor.NU
set_option linter.unusedVariables false

/-- The decimal logarithm of 2^(T - 1074) as Go reckons it, 348 higher. -/
def jlT (T : Nat) : Nat := (((T : Int) - 1074) * 78913 / 262144 + 348).toNat
def logOk (T : Nat) : Bool :=
  decide (0 ≤ ((T : Int) - 1074) * 78913 / 262144 + 348) && decide (2 ^ 1074 * tn (jlT T) ≤ 2 ^ T * td (jlT T)) && decide (2 ^ T * td (jlT T + 1) < 2 ^ 1074 * tn (jlT T + 1))
def allLog : Nat → Bool
  | 0 => true
  | k + 1 => logOk k && allLog k
theorem log_ok : allLog 2098 = true := by decide +kernel
theorem allLog_at : ∀ {k j : Nat}, allLog k = true → j < k → logOk j = true := by
  intro k
  induction k with
  | zero => intro j _ h; omega
  | succ k ih =>
    intro j h hj
    unfold allLog at h
    rw [Bool.and_eq_true] at h
    by_cases hjk : j = k
    · subst hjk; exact h.1
    · exact ih h.2 (by omega)
theorem log_at {T : Nat} (hT : T < 2098) : 0 ≤ ((T : Int) - 1074) * 78913 / 262144 + 348 ∧ one74 * tn (jlT T) ≤ 2 ^ T * td (jlT T) ∧ 2 ^ T * td (jlT T + 1) < one74 * tn (jlT T + 1) := by
  have h := allLog_at log_ok hT
  unfold logOk at h
  simp only [Bool.and_eq_true, decide_eq_true_eq] at h
  obtain ⟨⟨h1, h2⟩, h3⟩ := h
  rw [one74_eq, e74_eq]
  exact ⟨h1, h2, h3⟩

theorem unround_le (n d : Nat) : unround n d ≤ n / d + 1 := by
  rw [unround_eq]
  split <;> omega

/-- From the unrounded number u of 4 P / Q to the digits. -/
theorem fix_core {X D P Q n jl : Nat} (hD : 0 < D) (hQ : 0 < Q) (hn : 1 ≤ n) (hr : P * (4 * D) = X * Q) :
    (if 2 * P < (2 * 10 ^ n - 1) * Q then (rne P Q, jl) else (rne P (Q * 10), jl + 1)) =
      (if 4 * 10 ^ n - 2 ≤ unround X D then ((((unround X D / 10 ||| unround X D % 2) ||| (if unround X D % 10 ≠ 0 then 1 else 0)) + 1 + ((unround X D / 10 ||| unround X D % 2) ||| (if unround X D % 10 ≠ 0 then 1 else 0)) / 4 % 2) / 4, jl + 1)
        else ((unround X D + 1 + unround X D / 4 % 2) / 4, jl)) := by
  rw [unround_div hD (by decide : 0 < 10) (by decide), round_unround (by omega), round_unround hD]
  have e1 : rne X (D * 4) = rne P Q := rne_ratio (by omega) hQ (by rw [← hr]; grind)
  have e2 : rne X (D * 10 * 4) = rne P (Q * 10) := rne_ratio (by omega) (by omega) (by
    calc X * (Q * 10) = X * Q * 10 := by grind
      _ = P * (D * 10 * 4) := by rw [← hr]; grind)
  rw [e1, e2]
  have hp : 0 < 10 ^ n := Nat.pow_pos (by decide)
  have hiff : (4 * 10 ^ n - 2 ≤ unround X D) ↔ ¬ 2 * P < (2 * 10 ^ n - 1) * Q := by
    rw [unround_ge hD hp]
    have c : (4 * 10 ^ n - 2) * D ≤ X ↔ (4 * 10 ^ n - 2) * Q ≤ 4 * P := by
      constructor
      · intro h
        have h2 : (4 * 10 ^ n - 2) * D * Q ≤ X * Q := Nat.mul_le_mul_right _ h
        rw [← hr] at h2
        refine Nat.le_of_mul_le_mul_right (c := D) ?_ hD
        calc (4 * 10 ^ n - 2) * Q * D = (4 * 10 ^ n - 2) * D * Q := Nat.mul_right_comm _ _ _
          _ ≤ P * (4 * D) := h2
          _ = 4 * P * D := by grind
      · intro h
        have h2 : (4 * 10 ^ n - 2) * Q * D ≤ 4 * P * D := Nat.mul_le_mul_right _ h
        refine Nat.le_of_mul_le_mul_right (c := Q) ?_ hQ
        calc (4 * 10 ^ n - 2) * D * Q = (4 * 10 ^ n - 2) * Q * D := Nat.mul_right_comm _ _ _
          _ ≤ 4 * P * D := h2
          _ = P * (4 * D) := by grind
          _ = X * Q := hr
    rw [c]
    have e : (4 * 10 ^ n - 2) * Q = 2 * ((2 * 10 ^ n - 1) * Q) := by rw [← Nat.mul_assoc]; congr 1; omega
    omega
  by_cases h : 2 * P < (2 * 10 ^ n - 1) * Q
  · rw [if_pos h, if_neg (fun hh => hiff.1 hh h)]
  · rw [if_neg h, if_pos (hiff.2 h)]

theorem fix_word {w b n : Nat} {l p lp s : Int} (hw0 : 0 < w) (hw : w < 2047 * 2 ^ 52) (hb : 1 ≤ b) (hb1 : 2 ^ (b - 1) ≤ wM w) (hb2 : wM w < 2 ^ b) (hn : 1 ≤ n) (hn2 : n ≤ 17)
    (hl : l = ((wE w : Int) - 1074 - (64 - b) + 63) * 78913 / 262144) (hp : p = n - 1 - l) (hlp : lp = p * 108853 / 32768) (hs : s = -((wE w : Int) - 1074 - (64 - b) + lp + 3)) :
    ∃ i sn jl j : Nat, p + 348 = i ∧ 41 ≤ i ∧ i < 689 ∧ s = sn ∧ sn < 64 ∧ l + 348 = jl ∧ 24 ≤ jl ∧ jl ≤ 656 ∧ isW w j ∧ jl ≤ j ∧ j ≤ jl + 1 ∧ 10 ^ (n - 1) ≤ (digK w n j).1 ∧ (digK w n j).1 < 10 ^ n ∧ ∃ u, uscaleN (wM w * 2 ^ (64 - b)) (hiI i) (loI i) sn = u ∧ u < 2 ^ 61 ∧
      digK w n j = (if 4 * 10 ^ n - 2 ≤ u then ((((u / 10 ||| u % 2) ||| (if u % 10 ≠ 0 then 1 else 0)) + 1 + ((u / 10 ||| u % 2) ||| (if u % 10 ≠ 0 then 1 else 0)) / 4 % 2) / 4, jl + 1)
        else ((u + 1 + u / 4 % 2) / 4, jl)) := by
  have hM53 := wM_lt w
  have hb53 : b ≤ 53 := by
    apply Nat.le_of_not_lt
    intro h
    have : 2 ^ 53 ≤ 2 ^ (b - 1) := Nat.pow_le_pow_right (by decide) (by omega)
    omega
  obtain ⟨E, hE⟩ : ∃ E, wE w = E := ⟨_, rfl⟩
  have hE2 : E ≤ 2045 := by
    rw [← hE]
    unfold wE
    have : w / 2 ^ 52 < 2047 := (Nat.div_lt_iff_lt_mul (by decide)).2 hw
    omega
  rw [hE] at hl hs
  obtain ⟨T, hT⟩ : ∃ T, E + b - 1 = T := ⟨_, rfl⟩
  have hT2 : T < 2098 := by omega
  obtain ⟨g1, g2, g3⟩ := log_at hT2
  have hlT : l = ((T : Int) - 1074) * 78913 / 262144 := by
    rw [hl, show (E : Int) - 1074 - (64 - b) + 63 = (T : Int) - 1074 by omega]
  have hjl : l + 348 = (jlT T : Nat) := by unfold jlT; rw [← hlT] at g1 ⊢; omega
  have hl1 : -324 ≤ l := by omega
  have hl2 : l ≤ 307 := by omega
  obtain ⟨jl, hjle⟩ : ∃ jl, jlT T = jl := ⟨_, rfl⟩
  rw [hjle] at g2 g3 hjl
  obtain ⟨i, hi⟩ : ∃ i : Nat, p + 348 = i := ⟨(p + 348).toNat, by omega⟩
  have hi1 : 41 ≤ i := by omega
  have hi2 : i < 689 := by omega
  have hii : n + 695 - jl = i := by omega
  have hs1 : 4 ≤ s := by omega
  have hs2 : s < 64 := by omega
  obtain ⟨sn, hsn⟩ : ∃ sn : Nat, s = sn := ⟨s.toNat, by omega⟩
  -- w's value
  have hU : wU w = wM w * 2 ^ E := by unfold wU; rw [hE]
  have hU1 : 2 ^ T ≤ wU w := by
    rw [hU, ← hT, show E + b - 1 = (b - 1) + E by omega, Nat.pow_add]
    exact Nat.mul_le_mul_right _ hb1
  have hU2 : wU w < 2 ^ T * 2 := by
    rw [hU, ← Nat.pow_succ, ← hT, show (E + b - 1).succ = b + E by omega, Nat.pow_add]
    exact Nat.mul_lt_mul_of_pos_right hb2 (Nat.two_pow_pos _)
  have k1 : one74 * tn jl ≤ wU w * td jl := Nat.le_trans g2 (Nat.mul_le_mul_right _ hU1)
  have k2 : wU w * td (jl + 1) < 2 * (one74 * tn (jl + 1)) := by
    have a : wU w * td (jl + 1) ≤ 2 ^ T * 2 * td (jl + 1) := Nat.mul_le_mul_right _ (Nat.le_of_lt hU2)
    have e : 2 ^ T * 2 * td (jl + 1) = 2 * (2 ^ T * td (jl + 1)) := by grind
    omega
  obtain ⟨j, hW, hdig, d1, d2, j1, j2⟩ := fix_dig hn hn2 (by omega) k1 k2
  -- the scaling
  obtain ⟨t1, t2, t3, t4, t5⟩ := ten_at (i := i) ⟨by omega, hi2⟩
  have hlpi : lpI i = lp := by
    unfold lpI
    rw [hlp, show (i : Int) - 348 = p by omega]
  obtain ⟨N, hN⟩ : ∃ N, (numD i).1 = N := ⟨_, rfl⟩
  obtain ⟨D, hD⟩ : ∃ D, (numD i).2 = D := ⟨_, rfl⟩
  obtain ⟨L, hL⟩ : ∃ L, lpN i = L := ⟨_, rfl⟩
  have hLI : (L : Int) = lp + 1200 := by rw [← hL, ← hlpi]; unfold lpN; omega
  rw [hN, hD, hL] at t2
  rw [hD] at t3
  obtain ⟨z, hz⟩ : ∃ z, wM w * 2 ^ (53 - b) = z := ⟨_, rfl⟩
  have hxz : wM w * 2 ^ (64 - b) = z * 2 ^ 11 := by rw [← hz, Nat.mul_assoc, ← Nat.pow_add, show 53 - b + 11 = 64 - b by omega]
  have hz1 : z < 2 ^ 53 := by
    rw [← hz, show (53 : Nat) = b + (53 - b) by omega, Nat.pow_add, show b + (53 - b) - b = 53 - b by omega]
    exact Nat.mul_lt_mul_of_pos_right hb2 (Nat.two_pow_pos _)
  have hz0 : 2 ^ 52 ≤ z := by
    rw [← hz, show (52 : Nat) = (b - 1) + (53 - b) by omega, Nat.pow_add]
    exact Nat.mul_le_mul_right _ hb1
  have hus := uscale_write (i := i) (s := sn) ⟨hi1, hi2⟩ (by omega) hz1 hz0
  rw [← hxz, hN, hD] at hus
  obtain ⟨Dd, hDd⟩ : ∃ Dd, 2 ^ 128 * 2 ^ sn * D = Dd := ⟨_, rfl⟩
  have hDdp : 0 < Dd := by rw [← hDd]; exact Nat.mul_pos (Nat.mul_pos (by decide) (Nat.two_pow_pos _)) t3
  rw [hDd] at hus
  rw [hii] at hdig
  obtain ⟨Q, hQ⟩ : ∃ Q, one74 * td i = Q := ⟨_, rfl⟩
  have hQp : 0 < Q := by rw [← hQ]; exact Nat.mul_pos one74_pos (td_pos _)
  obtain ⟨P, hP⟩ : ∃ P, wU w * tn i = P := ⟨_, rfl⟩
  have hr : P * (4 * Dd) = wM w * 2 ^ (64 - b) * N * Q := by
    rw [← hP, ← hQ, ← hDd, hU, one74_eq]
    have hk : 2 ^ E * (4 * (2 ^ 128 * 2 ^ sn)) * 2 ^ L = 2 ^ (64 - b) * 2 ^ e74 * 2 ^ e27 := by
      have h4 : (4 : Nat) = 2 ^ 2 := by decide
      rw [h4]
      simp only [← Nat.pow_add]
      exact congrArg (2 ^ ·) (by rw [e74_eq, e27_eq]; omega)
    obtain ⟨R, hR⟩ : ∃ R, 2 ^ e27 = R := ⟨_, rfl⟩
    rw [hR] at hk t2
    obtain ⟨K, hK⟩ : ∃ K : Nat, 2 ^ e74 = K := ⟨_, rfl⟩
    rw [hK] at hk ⊢
    obtain ⟨LL, hLL⟩ : ∃ LL : Nat, 2 ^ L = LL := ⟨_, rfl⟩
    have hLLp : 0 < LL := by rw [← hLL]; exact Nat.two_pow_pos _
    rw [hLL] at hk t2
    obtain ⟨G, hG⟩ : ∃ G : Nat, 4 * (2 ^ 128 * 2 ^ sn) = G := ⟨_, rfl⟩
    rw [hG] at hk
    have hG2 : 4 * (2 ^ 128 * 2 ^ sn * D) = G * D := by rw [← hG]; exact (Nat.mul_assoc _ _ _).symm
    rw [hG2]
    obtain ⟨B, hB⟩ : ∃ B : Nat, 2 ^ (64 - b) = B := ⟨_, rfl⟩
    rw [hB] at hk ⊢
    obtain ⟨EE, hEE⟩ : ∃ EE : Nat, 2 ^ E = EE := ⟨_, rfl⟩
    rw [hEE] at hk ⊢
    apply Nat.eq_of_mul_eq_mul_right hLLp
    clear hG hK hR hLL hB hEE
    calc wM w * EE * tn i * (G * D) * LL = wM w * tn i * D * (EE * G * LL) := by grind
      _ = wM w * B * K * (D * tn i * R) := by rw [hk]; grind
      _ = wM w * B * K * (N * td i * LL) := by rw [t2]
      _ = wM w * B * N * (K * td i) * LL := by grind
  obtain ⟨X, hX⟩ : ∃ X, wM w * 2 ^ (64 - b) * N = X := ⟨_, rfl⟩
  rw [hX] at hr hus
  rw [hP, hQ, fix_core hDdp hQp hn hr] at hdig
  refine ⟨i, sn, jl, j, hi, hi1, hi2, hsn, by omega, hjl, by omega, by omega, hW, j1, j2, d1, d2, unround X Dd, hus, ?_, hdig⟩
  -- u is small
  have k2' : wU w * td (jl + 1) < 2 * one74 * tn (jl + 1) := by rw [Nat.mul_assoc]; exact k2
  have hPu := scale_lt (i := i) (j := jl + 1) (c := n) (by omega) k2'
  rw [hP, Nat.mul_assoc, hQ] at hPu
  have hn17 : 10 ^ n ≤ 10 ^ 17 := Nat.pow_le_pow_right (by decide) hn2
  have hXb : X < 2 ^ 60 * Dd := by
    apply Nat.lt_of_mul_lt_mul_right (a := Q)
    have a1 : 10 ^ n * (2 * Q) ≤ 10 ^ 17 * (2 * Q) := Nat.mul_le_mul_right _ hn17
    have a2 : P < 2 ^ 58 * Q := by omega
    calc X * Q = P * (4 * Dd) := hr.symm
      _ < 2 ^ 58 * Q * (4 * Dd) := Nat.mul_lt_mul_of_pos_right a2 (by omega)
      _ = 2 ^ 60 * Dd * Q := by grind
  have := unround_le X Dd
  have h60 : X / Dd < 2 ^ 60 := (Nat.div_lt_iff_lt_mul hDdp).2 hXb
  omega
end Go.Proofs.YtlblkajnmdhmdaaGreatDoor.NU

namespace Go.Proofs.YtlblkajnmdhmdaaGreatDoor.NU
set_option linter.unusedVariables false

/-- The word that w's k digits read back as. -/
def backK (w k j : Nat) : Nat := word ((digK w k j).1 * tn ((digK w k j).2 + 1 - k)) (td ((digK w k j).2 + 1 - k))

theorem rne_near {n d : Nat} (hd : 0 < d) : 2 * (rne n d * d) ≤ 2 * n + d ∧ 2 * n ≤ 2 * (rne n d * d) + d := by
  have hm := Nat.mod_lt n hd
  have hdm := Nat.div_add_mod n d
  unfold rne
  obtain ⟨f, hf⟩ : ∃ f, n / d = f := ⟨_, rfl⟩
  obtain ⟨r, hr⟩ : ∃ r, n % d = r := ⟨_, rfl⟩
  rw [hf, hr] at hdm ⊢
  rw [hr] at hm
  rw [Nat.mul_comm] at hdm
  rw [Nat.add_mul]
  split <;> omega

theorem roundAt_pred (w i : Nat) : roundAt w i = rne (wU w * tn (i + 1)) (one74 * td (i + 1) * 10) := by
  unfold roundAt
  have e := ten_up i 1
  rw [Nat.pow_one] at e
  refine rne_ratio (Nat.mul_pos one74_pos (td_pos _)) (Nat.mul_pos (Nat.mul_pos one74_pos (td_pos _)) (by decide)) ?_
  calc wU w * tn i * (one74 * td (i + 1) * 10) = wU w * one74 * (tn i * 10 * td (i + 1)) := by grind
    _ = wU w * tn (i + 1) * (one74 * td i) := by rw [e]; grind

/-- Whether or not the rounding carries, the value is the same. -/
theorem backK_eq {w k j : Nat} (hk : 1 ≤ k) (hj : k ≤ j) : backK w k j = word (roundAt w (k + 695 - j) * tn (j + 1 - k)) (td (j + 1 - k)) := by
  unfold backK digK
  split
  · rename_i h
    rw [h]
    show word (10 ^ (k - 1) * tn (j + 1 + 1 - k)) (td (j + 1 + 1 - k)) = _
    have e := ten_up (j + 1 - k) 1
    rw [show j + 1 - k + 1 = j + 1 + 1 - k by omega, Nat.pow_one] at e
    refine word_eq (td_pos _) (td_pos _) ?_
    have h10 : 10 ^ k = 10 * 10 ^ (k - 1) := by rw [Nat.mul_comm, ← Nat.pow_succ]; exact congrArg (10 ^ ·) (by omega)
    rw [h10]
    calc 10 ^ (k - 1) * tn (j + 1 + 1 - k) * td (j + 1 - k) = 10 ^ (k - 1) * (tn (j + 1 + 1 - k) * td (j + 1 - k)) := Nat.mul_assoc _ _ _
      _ = 10 * 10 ^ (k - 1) * tn (j + 1 - k) * td (j + 1 + 1 - k) := by rw [← e]; grind
  · rfl

theorem back_17 {w j : Nat} (hw0 : 0 < w) (hw : w < 2047 * 2 ^ 52) (hj : 17 ≤ j) (hj2 : j ≤ 695) (hW : isW w j) : backK w 17 j = w := by
  rw [backK_eq (by omega) hj]
  obtain ⟨r, hr⟩ : ∃ r, roundAt w (17 + 695 - j) = r := ⟨_, rfl⟩
  rw [hr]
  obtain ⟨ip, hip⟩ : ∃ ip, 17 + 695 - j = ip := ⟨_, rfl⟩
  obtain ⟨i0, hi0⟩ : ∃ i0, j + 1 - 17 = i0 := ⟨_, rfl⟩
  rw [hip] at hr
  rw [hi0]
  have hid := ten_id (i := i0) (j := ip) (c := 0) (by omega)
  rw [Nat.pow_zero, Nat.one_mul] at hid
  have hQp : 0 < one74 * td ip := Nat.mul_pos one74_pos (td_pos _)
  obtain ⟨n1, n2⟩ := rne_near (n := wU w * tn ip) hQp
  unfold roundAt at hr
  rw [hr] at n1 n2
  -- the error, without ip
  obtain ⟨A, hA⟩ : ∃ A, r * tn i0 * one74 = A := ⟨_, rfl⟩
  obtain ⟨B, hB⟩ : ∃ B, wU w * td i0 = B := ⟨_, rfl⟩
  have q1 : r * (one74 * td ip) * tn i0 = A * td ip := by rw [← hA]; grind
  have q2 : wU w * tn ip * tn i0 = B * td ip := by
    rw [← hB]
    calc wU w * tn ip * tn i0 = wU w * (tn i0 * tn ip) := by grind
      _ = wU w * td i0 * td ip := by rw [hid]; grind
  have b1 : 2 * A ≤ 2 * B + one74 * tn i0 := by
    refine Nat.le_of_mul_le_mul_right (c := td ip) ?_ (td_pos _)
    have := Nat.mul_le_mul_right (tn i0) n1
    calc 2 * A * td ip = 2 * (r * (one74 * td ip)) * tn i0 := by grind
      _ ≤ (2 * (wU w * tn ip) + one74 * td ip) * tn i0 := this
      _ = 2 * (wU w * tn ip * tn i0) + one74 * tn i0 * td ip := by grind
      _ = (2 * B + one74 * tn i0) * td ip := by rw [q2]; grind
  have b2 : 2 * B ≤ 2 * A + one74 * tn i0 := by
    refine Nat.le_of_mul_le_mul_right (c := td ip) ?_ (td_pos _)
    have := Nat.mul_le_mul_right (tn i0) n2
    calc 2 * B * td ip = 2 * (wU w * tn ip) * tn i0 := by grind
      _ ≤ (2 * (r * (one74 * td ip)) + one74 * td ip) * tn i0 := this
      _ = 2 * (r * (one74 * td ip) * tn i0) + one74 * tn i0 * td ip := by grind
      _ = (2 * A + one74 * tn i0) * td ip := by rw [q1]; grind
  have b3 : one74 * tn i0 * 10 ^ 16 ≤ B := by
    have e := ten_up i0 16
    rw [show i0 + 16 = j by omega] at e
    refine Nat.le_of_mul_le_mul_right (c := td j) ?_ (td_pos _)
    calc one74 * tn i0 * 10 ^ 16 * td j = one74 * (tn i0 * 10 ^ 16 * td j) := by grind
      _ = one74 * tn j * td i0 := by rw [e]; grind
      _ ≤ wU w * td j * td i0 := Nat.mul_le_mul_right _ hW.1
      _ = B * td j := by rw [← hB]; exact Nat.mul_right_comm _ _ _
  obtain ⟨Z, hZ⟩ : ∃ Z, one74 * tn i0 = Z := ⟨_, rfl⟩
  rw [hZ] at b1 b2 b3
  -- the word's own
  obtain ⟨E, hE⟩ : ∃ E, wE w = E := ⟨_, rfl⟩
  obtain ⟨m, hm⟩ : ∃ m, wM w = m := ⟨_, rfl⟩
  obtain ⟨X, hX⟩ : ∃ X, td i0 * 2 ^ E = X := ⟨_, rfl⟩
  have hXp : 0 < X := by rw [← hX]; exact Nat.mul_pos (td_pos _) (Nat.two_pow_pos _)
  have hBm : B = m * X := by rw [← hB, ← hX, ← hm, ← hE]; unfold wU; grind
  have hml : m < 2 ^ 53 := by rw [← hm]; exact wM_lt w
  have hBX : m * X ≤ (2 ^ 53 - 1) * X := Nat.mul_le_mul_right _ (by omega)
  rw [← hBm] at hBX
  apply word_between (td_pos _) hw
  · right
    rw [hE, hm, hX, hA]
    by_cases hc : m = 2 ^ 52 ∧ 0 < E
    · rw [if_pos hc]
      have hB52 : B = 2 ^ 52 * X := by rw [hBm, hc.1]
      have e : (4 * m - 1) * X + X = 4 * B := by
        rw [hBm]
        have : (4 * m - 1) * X + 1 * X = 4 * m * X := by rw [← Nat.add_mul, show 4 * m - 1 + 1 = 4 * m by have := hc.1; omega]
        rw [Nat.one_mul] at this
        rw [this, Nat.mul_assoc]
      omega
    · rw [if_neg hc]
      have hm1 : 1 ≤ m := by
        apply Nat.pos_of_ne_zero
        rintro rfl
        have h := wEM w
        rw [hE, hm] at h
        by_cases h0 : 0 < wE w
        · have := wM_ge h0; omega
        · rw [hE] at h0; omega
      have e : (4 * m - 2) * X + 2 * X = 4 * B := by
        rw [hBm, ← Nat.add_mul, ← Nat.mul_assoc, show 4 * m - 2 + 2 = 4 * m by omega]
      omega
  · rw [hE, hm, hX, hA]
    have e : (2 * m + 1) * X = 2 * B + X := by rw [hBm]; grind
    rw [e]
    omega

/-- A last digit 0 can be left away. -/
theorem back_prev {w k j : Nat} (hk : 2 ≤ k) (hj : k ≤ j) (hj2 : j ≤ 695) (h : (digK w k j).1 % 10 = 0) : backK w (k - 1) j = backK w k j := by
  have h10 : 10 ^ k = 10 * 10 ^ (k - 1) := by rw [Nat.mul_comm, ← Nat.pow_succ]; exact congrArg (10 ^ ·) (by omega)
  rw [backK_eq (by omega) hj, backK_eq (by omega) (by omega)]
  obtain ⟨ip, hip⟩ : ∃ ip, k - 1 + 695 - j = ip := ⟨_, rfl⟩
  rw [hip, show k + 695 - j = ip + 1 by omega]
  obtain ⟨c, hc⟩ : ∃ c, roundAt w (ip + 1) = 10 * c := by
    unfold digK at h
    rw [show k + 695 - j = ip + 1 by omega] at h
    split at h
    · rename_i e
      exact ⟨10 ^ (k - 1), by rw [e, h10]⟩
    · exact ⟨roundAt w (ip + 1) / 10, by dsimp only at h; omega⟩
  have hQ : 0 < one74 * td (ip + 1) := Nat.mul_pos one74_pos (td_pos _)
  have hr : roundAt w ip = c := by
    rw [roundAt_pred]
    have n := rne_near (n := wU w * tn (ip + 1)) hQ
    unfold roundAt at hc
    rw [hc] at n
    obtain ⟨P, hP⟩ : ∃ P, wU w * tn (ip + 1) = P := ⟨_, rfl⟩
    obtain ⟨Q, hQe⟩ : ∃ Q, one74 * td (ip + 1) = Q := ⟨_, rfl⟩
    rw [hP, hQe] at n ⊢
    rw [hQe] at hQ
    have e : 10 * c * Q = 10 * (c * Q) := Nat.mul_assoc _ _ _
    rw [e] at n
    refine rne_eq (by omega) ?_ ?_
    · by_cases h0 : c = 0
      · exact Or.inr h0
      · refine Or.inl ?_
        have e2 : (2 * c - 1) * (Q * 10) + 10 * Q = 20 * (c * Q) := by
          have : (2 * c - 1) * (Q * 10) + 1 * (Q * 10) = 2 * c * (Q * 10) := by rw [← Nat.add_mul, show 2 * c - 1 + 1 = 2 * c by omega]
          have e3 : 2 * c * (Q * 10) = 20 * (c * Q) := by grind
          omega
        omega
    · have e3 : (2 * c + 1) * (Q * 10) = 20 * (c * Q) + 10 * Q := by grind
      omega
  rw [hr, hc]
  have e := ten_up (j + 1 - k) 1
  rw [show j + 1 - k + 1 = j + 1 - (k - 1) by omega, Nat.pow_one] at e
  refine word_eq (td_pos _) (td_pos _) ?_
  calc c * tn (j + 1 - (k - 1)) * td (j + 1 - k) = c * (tn (j + 1 - (k - 1)) * td (j + 1 - k)) := Nat.mul_assoc _ _ _
    _ = 10 * c * tn (j + 1 - k) * td (j + 1 - (k - 1)) := by rw [← e]; grind

/-- The fewest digits that read back. -/
theorem back_least {w j : Nat} (hw0 : 0 < w) (hw : w < 2047 * 2 ^ 52) (hj : 17 ≤ j) (hj2 : j ≤ 695) (hW : isW w j) :
    ∃ K, 1 ≤ K ∧ K ≤ 17 ∧ backK w K j = w ∧ (∀ k, 1 ≤ k → k < K → backK w k j ≠ w) ∧ (2 ≤ K → (digK w K j).1 % 10 ≠ 0) := by
  have h17 := back_17 hw0 hw hj hj2 hW
  have main : ∀ n, (∃ K, 1 ≤ K ∧ K ≤ n ∧ backK w K j = w) → ∃ K, 1 ≤ K ∧ K ≤ n ∧ backK w K j = w ∧ (∀ k, 1 ≤ k → k < K → backK w k j ≠ w) := by
    intro n
    induction n with
    | zero => rintro ⟨K, h1, h2, _⟩; omega
    | succ n ih =>
      rintro ⟨K, h1, h2, h3⟩
      by_cases hex : ∃ K, 1 ≤ K ∧ K ≤ n ∧ backK w K j = w
      · obtain ⟨K', a, b, c, d⟩ := ih hex
        exact ⟨K', a, by omega, c, d⟩
      · exact ⟨K, h1, h2, h3, fun k k1 k2 hb => hex ⟨k, k1, by omega, hb⟩⟩
  obtain ⟨K, h1, h2, h3, h4⟩ := main 17 ⟨17, by omega, by omega, h17⟩
  refine ⟨K, h1, h2, h3, h4, fun hK h0 => h4 (K - 1) (by omega) (by omega) ?_⟩
  rw [back_prev hK (by omega) hj2 h0, h3]
end Go.Proofs.YtlblkajnmdhmdaaGreatDoor.NU

namespace Go.Proofs.YtlblkajnmdhmdaaGreatDoor.NU
set_option linter.unusedVariables false

/-- The word of n * 2^e / d. -/
def word2 (n d : Nat) (e : Int) : Nat := word (n * 2 ^ e.toNat) (d * 2 ^ (-e).toNat)
/-- The word of n * 10^e. -/
def wordE (n : Nat) (e : Int) : Nat := word (n * 10 ^ e.toNat) (10 ^ (-e).toNat)

theorem word2_zero (n d : Nat) : word2 n d 0 = word n d := by unfold word2; simp
theorem wordE_at (n i : Nat) : wordE n ((i : Int) - 348) = word (n * tn i) (td i) := by
  unfold wordE tn td
  rw [show ((i : Int) - 348).toNat = i - 348 by omega, show (-((i : Int) - 348)).toNat = 348 - i by omega]

theorem word_steps {n0 d0 n d i j : Nat} {e0 e : Int} (hd0 : 0 < d0) (hn : n = n0 * 2 ^ i) (hd : d = d0 * 2 ^ j) (he : e = e0 + j - i) (hlo : -1074 ≤ e) (h1 : n < 2 ^ 53 * d) (h2 : e = -1074 ∨ 2 ^ 52 * d ≤ n) :
    word2 n0 d0 e0 = min ((e + 1074).toNat * 2 ^ 52 + rne n d) (2047 * 2 ^ 52) := by
  unfold word2
  obtain ⟨a, ha⟩ : ∃ a, e0.toNat = a := ⟨_, rfl⟩
  obtain ⟨b, hb⟩ : ∃ b, (-e0).toNat = b := ⟨_, rfl⟩
  obtain ⟨E, hE⟩ : ∃ E, (e + 1074).toNat = E := ⟨_, rfl⟩
  rw [ha, hb, hE]
  have hdp : 0 < d := by rw [hd]; exact Nat.mul_pos hd0 (Nat.two_pow_pos _)
  have hDp : 0 < d0 * 2 ^ b := Nat.mul_pos hd0 (Nat.two_pow_pos _)
  obtain ⟨A, hA⟩ : ∃ A, n0 * 2 ^ a * one74 = A := ⟨_, rfl⟩
  obtain ⟨Z, hZ⟩ : ∃ Z, d0 * 2 ^ b * 2 ^ E = Z := ⟨_, rfl⟩
  have hZp : 0 < Z := by rw [← hZ]; exact Nat.mul_pos hDp (Nat.two_pow_pos _)
  have hr : A * d = n * Z := by
    rw [← hA, ← hZ, hn, hd, one74_eq]
    have hk : 2 ^ a * 2 ^ e74 * 2 ^ j = 2 ^ i * 2 ^ b * 2 ^ E := by
      simp only [← Nat.pow_add]
      exact congrArg (2 ^ ·) (by rw [e74_eq]; omega)
    calc n0 * 2 ^ a * 2 ^ e74 * (d0 * 2 ^ j) = n0 * d0 * (2 ^ a * 2 ^ e74 * 2 ^ j) := by grind
      _ = n0 * 2 ^ i * (d0 * 2 ^ b * 2 ^ E) := by rw [hk]; grind
  have hnear : nearAt (n0 * 2 ^ a) (d0 * 2 ^ b) E := by
    unfold nearAt
    rw [hA, hZ]
    constructor
    · apply Nat.lt_of_mul_lt_mul_right (a := d)
      rw [hr, show 2 ^ 53 * Z * d = 2 ^ 53 * d * Z from Nat.mul_right_comm _ _ _]
      exact Nat.mul_lt_mul_of_pos_right h1 hZp
    · rcases h2 with h2 | h2
      · left; omega
      · right
        refine Nat.le_of_mul_le_mul_right (c := d) ?_ hdp
        rw [hr, show 2 ^ 52 * Z * d = 2 ^ 52 * d * Z from Nat.mul_right_comm _ _ _]
        exact Nat.mul_le_mul_right _ h2
  rw [word_of hDp hnear]
  unfold wordAt
  rw [hA, hZ, rne_ratio hZp hdp hr]

/-- The reference's last step. -/
theorem word_pack {q E : Nat} (h : q ≤ 2 ^ 53) (h0 : E = 0 ∨ 2 ^ 52 ≤ q) : min (E * 2 ^ 52 + q) (2047 * 2 ^ 52) =
    if q = 2 ^ 53 then (if 2045 < E + 1 then 2047 * 2 ^ 52 else (E + 2) * 2 ^ 52) else if 2045 < E then 2047 * 2 ^ 52 else if q < 2 ^ 52 then q else (E + 1) * 2 ^ 52 + q - 2 ^ 52 := by
  by_cases hq : q = 2 ^ 53
  · rw [if_pos hq]
    split <;> omega
  · rw [if_neg hq]
    split
    · omega
    · split
      · have : E = 0 := by omega
        subst this
        omega
      · omega

theorem word_zero (d : Nat) (hd : 0 < d) : word 0 d = 0 := by
  apply word_between hd (by decide) (Or.inl rfl)
  have h1 : 0 < d * 2 ^ wE 0 := Nat.mul_pos hd (Nat.two_pow_pos _)
  have h2 : 0 < (2 * wM 0 + 1) * (d * 2 ^ wE 0) := Nat.mul_pos (by omega) h1
  rw [Nat.zero_mul]
  exact h2

/-- Exponents, kept shut. -/
@[irreducible] def e24 : Nat := 1024
theorem e24_eq : e24 = 1024 := by unfold e24; rfl
@[irreducible] def e310 : Nat := 310
theorem e310_eq : e310 = 310 := by unfold e310; rfl
@[irreducible] def e331 : Nat := 331
theorem e331_eq : e331 = 331 := by unfold e331; rfl
theorem ten310 : 2 ^ e24 ≤ 10 ^ e310 := by decide +kernel
theorem ten331 : 2 * one74 ≤ 10 ^ e331 := by decide +kernel

theorem word_inf {n d : Nat} (hd : 0 < d) (h : d * 2 ^ e24 ≤ n) : word n d = 2047 * 2 ^ 52 := by
  have hn := nearAt_place (n := n) hd
  unfold word wordAt
  obtain ⟨E, hE⟩ : ∃ E, place n d = E := ⟨_, rfl⟩
  rw [hE] at hn ⊢
  have hZ : 0 < d * 2 ^ E := Nat.mul_pos hd (Nat.two_pow_pos _)
  obtain ⟨h1, h2⟩ := hn
  have hbig : 2 ^ e24 * one74 < 2 ^ 53 * 2 ^ E := by
    apply Nat.lt_of_mul_lt_mul_right (a := d)
    have hgen : ∀ X O Y Z : Nat, X * O * d = d * X * O ∧ Y * (d * Z) = Y * Z * d := fun X O Y Z => ⟨by grind, by grind⟩
    rw [(hgen _ _ 0 0).1]
    refine Nat.lt_of_le_of_lt (Nat.mul_le_mul_right _ h) ?_
    rw [← (hgen 0 0 _ _).2]
    exact h1
  have hE2 : 2046 ≤ E := by
    rw [one74_eq, ← Nat.pow_add, ← Nat.pow_add] at hbig
    have hx := (Nat.pow_lt_pow_iff_right (by decide)).1 hbig
    rw [e74_eq, e24_eq] at hx
    clear hbig h
    omega
  clear hbig h
  have hq := rne_ge hZ (h2.resolve_left (by omega))
  omega

/-- Too small a number. -/
theorem wordE_small {n s : Nat} {e : Int} (hn : n < 10 ^ s) (h : (s : Int) + e < -330) : wordE n e = 0 := by
  unfold wordE
  obtain ⟨b, hb⟩ : ∃ b, (-e).toNat = b := ⟨_, rfl⟩
  rw [show e.toNat = 0 by omega, hb, Nat.pow_zero, Nat.mul_one]
  obtain ⟨g, hg⟩ : ∃ g, b = s + 331 + g := ⟨b - s - 331, by omega⟩
  have hp : 0 < 10 ^ b := Nat.pow_pos (by decide)
  apply word_between hp (by decide) (Or.inl rfl)
  have h1 := ten331
  have hm0 : wM 0 = 0 := by decide
  have he0 : wE 0 = 0 := by decide
  rw [hm0, he0]
  have hgp : 0 < 10 ^ g := Nat.pow_pos (by decide)
  have ho := one74_pos
  obtain ⟨K, hK⟩ : ∃ K, one74 = K := ⟨_, rfl⟩
  rw [hK] at h1 ho ⊢
  have hbig : 10 ^ b = 10 ^ s * 10 ^ e331 * 10 ^ g := by rw [← Nat.pow_add, ← Nat.pow_add]; exact congrArg (10 ^ ·) (by rw [e331_eq]; omega)
  obtain ⟨S, hS⟩ : ∃ S, 10 ^ s = S := ⟨_, rfl⟩
  obtain ⟨R, hR⟩ : ∃ R, 10 ^ e331 = R := ⟨_, rfl⟩
  obtain ⟨G, hG⟩ : ∃ G, 10 ^ g = G := ⟨_, rfl⟩
  rw [hS] at hn hbig
  rw [hR] at h1 hbig
  rw [hG] at hgp hbig
  rw [hbig]
  have a1 : n * (2 * K) < S * (2 * K) := Nat.mul_lt_mul_of_pos_right hn (by omega)
  have a2 : S * (2 * K) ≤ S * R := Nat.mul_le_mul_left _ h1
  have a3 : S * R ≤ S * R * G := Nat.le_mul_of_pos_right _ hgp
  have e1 : 2 * (n * K) = n * (2 * K) := Nat.mul_left_comm 2 n K
  rw [e1, Nat.pow_zero, Nat.mul_one]
  omega

/-- Too great a number. -/
theorem wordE_great {n s : Nat} {e : Int} (hs : 1 ≤ s) (hn : 10 ^ (s - 1) ≤ n) (h : 310 < (s : Int) + e) : wordE n e = 2047 * 2 ^ 52 := by
  unfold wordE
  have hp : 0 < 10 ^ (-e).toNat := Nat.pow_pos (by decide)
  apply word_inf hp
  have h1 := ten310
  obtain ⟨a, ha⟩ : ∃ a, e.toNat = a := ⟨_, rfl⟩
  obtain ⟨b, hb⟩ : ∃ b, (-e).toNat = b := ⟨_, rfl⟩
  rw [ha, hb]
  have h2 : 10 ^ b * 10 ^ e310 ≤ 10 ^ (s - 1) * 10 ^ a := by
    rw [← Nat.pow_add, ← Nat.pow_add]
    exact Nat.pow_le_pow_right (by decide) (by rw [e310_eq]; omega)
  have h3 : 10 ^ (s - 1) * 10 ^ a ≤ n * 10 ^ a := Nat.mul_le_mul_right _ hn
  have h4 : 10 ^ b * 2 ^ e24 ≤ 10 ^ b * 10 ^ e310 := Nat.mul_le_mul_left _ h1
  exact Nat.le_trans h4 (Nat.le_trans h2 h3)

theorem word_le (n d : Nat) : word n d ≤ 2047 * 2 ^ 52 := by unfold word wordAt; exact Nat.min_le_right _ _
end Go.Proofs.YtlblkajnmdhmdaaGreatDoor.NU
