/-
  The library's fixedWidthFloat at a word gives the word's value rounded to n digits.
-/
import Derived.Test.YtlblkajnmdhmdaaGreatDoorZNFw
import Derived.Test.YtlblkajnmdhmdaaGreatDoorZNSpec
import Derived.Lib.BitFns
import Derived.Lib.ItoaNum
namespace Go.Proofs.YtlblkajnmdhmdaaGreatDoor
set_option linter.unusedVariables false
open Go.RowKit Lib
theorem bitLenAux_at : ∀ (f x : Nat), x < 2 ^ f → 0 < x → 1 ≤ bitLenAux f x ∧ bitLenAux f x ≤ f ∧ 2 ^ (bitLenAux f x - 1) ≤ x ∧ x < 2 ^ bitLenAux f x := by
  intro f
  induction f with
  | zero => intro x h h0; simp at h; omega
  | succ f ih =>
    intro x h h0
    rw [Nat.pow_succ] at h
    by_cases h1 : x = 1
    · subst h1
      have : bitLenAux (f + 1) 1 = 1 := by
        unfold bitLenAux
        rw [if_neg (by decide), show 1 / 2 = 0 by decide]
        cases f <;> simp [bitLenAux]
      rw [this]
      exact ⟨by omega, by omega, by decide, by decide⟩
    · obtain ⟨a1, a2, a3, a4⟩ := ih (x / 2) (by omega) (by omega)
      have e : bitLenAux (f + 1) x = 1 + bitLenAux f (x / 2) := by
        conv => lhs; unfold bitLenAux
        rw [if_neg (by omega)]
      rw [e]
      obtain ⟨c, hc⟩ : ∃ c, bitLenAux f (x / 2) = c + 1 := ⟨bitLenAux f (x / 2) - 1, by omega⟩
      rw [hc] at a2 a3 a4 ⊢
      rw [Nat.add_sub_cancel] at a3
      rw [show 1 + (c + 1) - 1 = c + 1 by omega, show 1 + (c + 1) = c + 1 + 1 by omega, Nat.pow_succ, Nat.pow_succ]
      rw [Nat.pow_succ] at a4
      refine ⟨by omega, by omega, by omega, by omega⟩
theorem hi_ge {i : Nat} (hi : 41 ≤ i ∧ i < 689) : 2 ^ 63 ≤ NU.hiI i := by
  obtain ⟨x1, h⟩ := NU.allOk_at (j := i - 41) NU.write_ok (by rw [NU.write_len]; omega)
  rw [show 41 + (i - 41) = i by omega] at h
  unfold NU.idxOk at h
  simp only [Bool.and_eq_true, decide_eq_true_eq] at h
  exact h.1.1.1.1.1.2
theorem bitLen_at {x : Nat} (h0 : 0 < x) (h : x < 2 ^ 64) : 1 ≤ Lib.bitLen x ∧ Lib.bitLen x ≤ 64 ∧ 2 ^ (Lib.bitLen x - 1) ≤ x ∧ x < 2 ^ Lib.bitLen x := bitLenAux_at 64 x h h0
theorem nDigits_at : ∀ (k u : Nat), 10 ^ k ≤ u → u < 10 ^ (k + 1) → nDigits u = k + 1 := by
  intro k
  induction k with
  | zero => intro u h h2; rw [nDigits_small (by omega)]
  | succ k ih =>
    intro u h h2
    have hp : 0 < 10 ^ k := Nat.pow_pos (by decide)
    rw [Nat.pow_succ] at h h2
    rw [nDigits_big (by omega), ih (u / 10) (by omega) (by omega)]

theorem fixed_word {u n b : Nat} (hu0 : 0 < u) (hu : u < 2047 * 2 ^ 52) (hb : 1 ≤ b) (hb1 : 2 ^ (b - 1) ≤ NU.wM u) (hb2 : NU.wM u < 2 ^ b) (hn1 : 1 ≤ n) (hn2 : n ≤ 17) :
    ∃ (D j jx : Nat) (P : Int), NU.isW u j ∧ 17 ≤ j ∧ j ≤ 695 ∧ NU.digK u n j = (D, jx) ∧ 10 ^ (n - 1) ≤ D ∧ D < 10 ^ n ∧ (n : Int) + P = (jx : Int) - 348 + 1 ∧ 24 ≤ jx ∧ jx ≤ 657 ∧
      ∀ (x : Nat) (e prec : Int) (w : World), x = NU.wM u * 2 ^ (64 - b) → e = (NU.wE u : Int) - 1074 - (64 - b) → P10 w → T10 w → 16 < w.heap.size →
        Calls Tryz.prog 168 #[.int .u64 x, .int .i64 e, .int .i64 n, .int .i64 prec, .int .u8 101] w fun r w' => r = .returned (.tuple #[.int .u64 D, .int .i64 P]) ∧ Below w.heap.size w w' := by
  obtain ⟨l, hl⟩ : ∃ l, l = ((NU.wE u : Int) - 1074 - (64 - b) + 63) * 78913 / 262144 := ⟨_, rfl⟩
  obtain ⟨p, hp⟩ : ∃ p : Int, p = n - 1 - l := ⟨_, rfl⟩
  obtain ⟨lp, hlp⟩ : ∃ lp : Int, lp = p * 108853 / 32768 := ⟨_, rfl⟩
  obtain ⟨s, hs⟩ : ∃ s : Int, s = -((NU.wE u : Int) - 1074 - (64 - b) + lp + 3) := ⟨_, rfl⟩
  obtain ⟨i, sn, jl, j, hpi, hi1, hi2, hsn, hsn2, hjl, hjl1, hjl2, hW, hj1, hj2, d1, d2, v, hv, hv2, hd⟩ := NU.fix_word hu0 hu hb hb1 hb2 hn1 hn2 hl hp hlp hs
  have hM53 := NU.wM_lt u
  have hb53 : b ≤ 53 := by
    apply Nat.le_of_not_lt
    intro h
    have : 2 ^ 53 ≤ 2 ^ (b - 1) := Nat.pow_le_pow_right (by decide) (by omega)
    omega
  have hE : NU.wE u ≤ 2045 := by
    unfold NU.wE
    have : u / 2 ^ 52 < 2047 := (Nat.div_lt_iff_lt_mul (by decide)).2 hu
    omega
  have hx64 : NU.wM u * 2 ^ (64 - b) < 2 ^ 64 := by
    have e : (2 : Nat) ^ 64 = 2 ^ b * 2 ^ (64 - b) := by rw [← Nat.pow_add]; exact congrArg (2 ^ ·) (by omega)
    rw [e]
    exact Nat.mul_lt_mul_of_pos_right hb2 (Nat.two_pow_pos _)
  have hx63 : 2 ^ 63 ≤ NU.wM u * 2 ^ (64 - b) := by
    have e : (2 : Nat) ^ 63 = 2 ^ (b - 1) * 2 ^ (64 - b) := by rw [← Nat.pow_add]; exact congrArg (2 ^ ·) (by omega)
    rw [e]
    exact Nat.mul_le_mul_right _ hb1
  have hhi := hi_ge (i := i) ⟨by omega, hi2⟩
  by_cases hge : 4 * 10 ^ n - 2 ≤ v
  · rw [if_pos hge] at hd
    have hd' : NU.digK u n j = (rnd (div10 v), jl + 1) := hd
    rw [hd'] at d1 d2
    refine ⟨rnd (div10 v), j, jl + 1, -(p - 1), hW, by omega, by omega, hd', d1, d2, by omega, by omega, by omega, fun x e prec w hx he hT hT3 hsz => ?_⟩
    subst hx
    exact fixed_ge _ n i sn v e prec l p lp w hT hT3 hsz hn1 hn2 (by omega) hx64 hx63 (by rw [hl, he]) hp hlp (by omega) hpi (by omega) hsn2 hhi hv hv2 hge
  · rw [if_neg hge] at hd
    have hd' : NU.digK u n j = (rnd v, jl) := hd
    rw [hd'] at d1 d2
    refine ⟨rnd v, j, jl, -p, hW, by omega, by omega, hd', d1, d2, by omega, by omega, by omega, fun x e prec w hx he hT hT3 hsz => ?_⟩
    subst hx
    exact fixed_lt _ n i sn v e prec l p lp w hT hT3 hsz hn1 hn2 (by omega) hx64 hx63 (by rw [hl, he]) hp hlp (by omega) hpi (by omega) hsn2 hhi hv hv2 (by omega)
end Go.Proofs.YtlblkajnmdhmdaaGreatDoor
