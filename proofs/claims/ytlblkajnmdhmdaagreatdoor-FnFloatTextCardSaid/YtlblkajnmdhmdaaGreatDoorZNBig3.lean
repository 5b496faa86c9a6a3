/-
  Plain law over the printed functions: l01Word finds the word nearest to n / d * 2^e.
-/
import Derived.Test.YtlblkajnmdhmdaaGreatDoorZNBig2
namespace Go.Proofs.YtlblkajnmdhmdaaGreatDoor.NB
set_option linter.unusedVariables false
open Go Go.RowKit Go.Proofs.YtlblkajnmdhmdaaGreatDoor.PFormatNumber Go.Proofs.YtlblkajnmdhmdaaGreatDoorW.PrintWords Go.Proofs.YtlblkajnmdhmdaaGreatDoorW.PrintLast Go.Proofs.YtlblkajnmdhmdaaGreatDoorW.PrintMore Go.Proofs.YtlblkajnmdhmdaaGreatDoor.NU

theorem dlen_two {n B : Nat} (h : n < 2 ^ B) : (dig n).length ≤ B := dlen_le (Nat.lt_of_lt_of_le h (Nat.pow_le_pow_left (by decide) B))
theorem cmpI_ge {a b : Nat} : (0 ≤ cmpI a b) ↔ b ≤ a := by unfold cmpI; split <;> (try split) <;> omega
theorem cmpI_lt {a b : Nat} : (cmpI a b < 0) ↔ a < b := by unfold cmpI; split <;> (try split) <;> omega

/-- The word as the reference packs it. -/
def packI (E q : Nat) : Int := ((min (E * 2 ^ 52 + q) (2047 * 2 ^ 52) : Nat) : Int)
theorem pack_ev {q : Nat} {e : Int} (he : -1074 ≤ e) (he2 : e ≤ 100000) (hq : q ≤ 2 ^ 53) (h0 : e = -1074 ∨ 2 ^ 52 ≤ q) : Ev (fun k => spec_l01Word.j6 k e (q : Int)) (packI (e + 1074).toNat q) := by
  obtain ⟨E, hE⟩ : ∃ E : Nat, e = (E : Int) - 1074 := ⟨(e + 1074).toNat, by omega⟩
  subst hE
  have hEt : ((E : Int) - 1074 + 1074).toNat = E := by omega
  rw [hEt]
  unfold packI
  rw [word_pack hq (by omega)]
  by_cases h53 : q = 2 ^ 53
  · rw [if_pos h53]
    refine Ev.step (f := fun k => spec_l01Word.j7 k ((E : Int) - 1073) 4503599627370496) (fun k => ?_) ?_
    · simp only [spec_l01Word.j6]
      rw [if_pos (by omega), wrap64_of (by omega) (by omega)]
      rw [show (E : Int) - 1074 + 1 = (E : Int) - 1073 by omega]
    · by_cases hb : 2045 < E + 1
      · rw [if_pos hb]
        refine Ev.step (f := fun _ => some 9218868437227405312) (fun k => ?_) (Ev.now _)
        simp only [spec_l01Word.j7]
        rw [if_pos (by omega)]
      · rw [if_neg hb]
        refine Ev.step (f := fun _ => some ((((E + 2) * 2 ^ 52 : Nat)) : Int)) (fun k => ?_) (Ev.now _)
        simp only [spec_l01Word.j7]
        rw [if_neg (by omega), if_neg (by omega), wrap64_of (x := (E : Int) - 1073 + 1075) (by omega) (by omega)]
        simp only [IntKind.wrap_u64]
        congr 1
        omega
  · rw [if_neg h53]
    refine Ev.step (f := fun k => spec_l01Word.j7 k ((E : Int) - 1074) (q : Int)) (fun k => ?_) ?_
    · simp only [spec_l01Word.j6]
      rw [if_neg (by omega)]
    · by_cases hb : 2045 < E
      · rw [if_pos hb]
        refine Ev.step (f := fun _ => some 9218868437227405312) (fun k => ?_) (Ev.now _)
        simp only [spec_l01Word.j7]
        rw [if_pos (by omega)]
      · rw [if_neg hb]
        by_cases hs : q < 2 ^ 52
        · rw [if_pos hs]
          refine Ev.step (f := fun _ => some (q : Int)) (fun k => ?_) (Ev.now _)
          simp only [spec_l01Word.j7]
          rw [if_neg (by omega), if_pos (by omega)]
        · rw [if_neg hs]
          refine Ev.step (f := fun _ => some (((E + 1) * 2 ^ 52 + q - 2 ^ 52 : Nat) : Int)) (fun k => ?_) (Ev.now _)
          simp only [spec_l01Word.j7]
          rw [if_neg (by omega), if_neg (by omega), wrap64_of (x := (E : Int) - 1074 + 1075) (by omega) (by omega)]
          simp only [IntKind.wrap_u64]
          congr 1
          omega

theorem j5_ev {N d : Nat} {e : Int} (hd : 0 < d) (he : -1074 ≤ e) (he2 : e ≤ 100000) (h1 : N < 2 ^ 53 * d) (h2 : e = -1074 ∨ 2 ^ 52 * d ≤ N) (b : Bool)
    (hb : b = decide (d < 2 * (N % d) ∨ (2 * (N % d) = d ∧ N / d % 2 = 1))) : Ev (fun k => spec_l01Word.j5 k e ((N / d : Nat) : Int) b) (packI (e + 1074).toNat (rne N d)) := by
  have hq : N / d < 2 ^ 53 := (Nat.div_lt_iff_lt_mul hd).2 h1
  have hq2 : e = -1074 ∨ 2 ^ 52 ≤ N / d := h2.imp_right fun h => (Nat.le_div_iff_mul_le hd).2 h
  unfold rne
  cases b with
  | true =>
    have hc := of_decide_eq_true hb.symm
    rw [if_pos hc]
    refine Ev.step (f := fun k => spec_l01Word.j6 k e ((N / d + 1 : Nat) : Int)) (fun k => ?_) (pack_ev he he2 (by omega) (by omega))
    simp only [spec_l01Word.j5]
    obtain ⟨f, hf⟩ : ∃ f, N / d = f := ⟨_, rfl⟩
    rw [hf] at hq ⊢
    rw [if_pos trivial, IntKind.wrap_u64]
    congr 1
    clear hc hb h1 h2 hf hq2
    omega
  | false =>
    have hc := of_decide_eq_false hb.symm
    rw [if_neg hc, Nat.add_zero]
    refine Ev.step (f := fun k => spec_l01Word.j6 k e ((N / d : Nat) : Int)) (fun k => ?_) (pack_ev he he2 (by omega) hq2)
    simp only [spec_l01Word.j5]
    rw [if_neg (by decide)]

theorem l2_ev {N d B : Nat} {e : Int} (hd : 0 < d) (hB : B ≤ 500000) (hNB : N < 2 ^ B) (hdB : d * 2 ^ 53 < 2 ^ B) (he : -1074 ≤ e) (he2 : e ≤ 100000) (h1 : N < 2 ^ 53 * d) (h2 : e = -1074 ∨ 2 ^ 52 * d ≤ N) :
    ∀ (s q n : Nat), s ≤ 53 → N = q * d + n → n < d * 2 ^ s → q < 2 ^ 53 → q % 2 ^ s = 0 → Ev (fun k => spec_l01Word.l2 k (dig n) (dig d) e (q : Int) (dig (d * 2 ^ s / 2)) ((s : Int) - 1)) (packI (e + 1074).toNat (rne N d)) := by
  intro s
  induction s with
  | zero =>
    intro q n _ hN hn hq _
    rw [Nat.pow_zero, Nat.mul_one] at hn ⊢
    have hqe : N / d = q := by rw [hN, Nat.add_comm, Nat.add_mul_div_right _ _ hd, Nat.div_eq_of_lt hn, Nat.zero_add]
    have hre : N % d = n := by rw [hN, Nat.add_comm, Nat.add_mul_mod_self_right, Nat.mod_eq_of_lt hn]
    have hnB : n * 2 < 2 ^ (B + 1) := by
      rw [Nat.pow_succ]
      have : n ≤ N := by rw [hN]; omega
      omega
    have hl1 := dlen_two (Nat.lt_of_le_of_lt (by rw [hN]; omega : n ≤ N) hNB)
    have hl2 := dlen_two hnB
    have fin := fun b hb => j5_ev hd he he2 h1 h2 b hb
    rw [hqe, hre] at fin
    refine Ev.step (f := fun k => (spec_l01Times.f k (dig n) 2 0).bind fun t215 => ((spec_l01Cmp.f k t215 (dig d)).bind fun t218 => (if t218 > 0 then (spec_l01Word.j5 k e (q : Int) true) else (if t218 = 0 then (spec_l01Word.j5 k e (q : Int) ((Int.tmod (q : Int) 2) == 1)) else (spec_l01Word.j5 k e (q : Int) false))))) (fun k => ?_) ?_
    · simp only [spec_l01Word.l2]
      rw [if_neg (by omega)]
    · refine Ev.bind (f := fun k t215 => (spec_l01Cmp.f k t215 (dig d)).bind fun t218 => (if t218 > 0 then (spec_l01Word.j5 k e (q : Int) true) else (if t218 = 0 then (spec_l01Word.j5 k e (q : Int) ((Int.tmod (q : Int) 2) == 1)) else (spec_l01Word.j5 k e (q : Int) false)))) (times_2 (by omega)) ?_
      refine Ev.bind (f := fun k t218 => (if t218 > 0 then (spec_l01Word.j5 k e (q : Int) true) else (if t218 = 0 then (spec_l01Word.j5 k e (q : Int) ((Int.tmod (q : Int) 2) == 1)) else (spec_l01Word.j5 k e (q : Int) false)))) (cmp_ev (by omega)) ?_
      by_cases c1 : d < 2 * n
      · refine Ev.congr (fun k => ?_) (fin true (decide_eq_true (Or.inl c1)).symm)
        rw [if_pos]
        unfold cmpI
        rw [if_neg (by omega), if_neg (by omega)]
        decide
      · by_cases c2 : 2 * n = d
        · have hod : (Int.tmod (q : Int) 2 == 1) = decide (q % 2 = 1) := by
            rw [Int.tmod_eq_emod_of_nonneg (by omega)]
            by_cases h : q % 2 = 1
            · rw [decide_eq_true h]; simp; omega
            · rw [decide_eq_false h]; simp; omega
          refine Ev.congr (fun k => ?_) (fin (decide (q % 2 = 1)) ?_)
          · have hc : cmpI (n * 2) d = 0 := by unfold cmpI; rw [if_neg (by omega), if_pos (by omega)]
            rw [hc, if_neg (by decide), if_pos rfl, hod]
          · by_cases h : q % 2 = 1
            · rw [decide_eq_true h, decide_eq_true (Or.inr ⟨c2, h⟩)]
            · rw [decide_eq_false h, decide_eq_false]
              omega
        · refine Ev.congr (fun k => ?_) (fin false (decide_eq_false (by omega)).symm)
          have hc : cmpI (n * 2) d = -1 := by unfold cmpI; rw [if_pos (by omega)]
          rw [hc, if_neg (by decide), if_neg (by decide)]
  | succ s ih =>
    intro q n hs hN hn hq hqs
    have ht : d * 2 ^ (s + 1) / 2 = d * 2 ^ s := by
      rw [Nat.pow_succ, ← Nat.mul_assoc]
      exact Nat.mul_div_cancel _ (by decide)
    rw [ht, show ((s + 1 : Nat) : Int) - 1 = (s : Int) by omega]
    have hnN : n ≤ N := by rw [hN]; omega
    have hl1 := dlen_two (Nat.lt_of_le_of_lt hnN hNB)
    have hl2 : (dig (d * 2 ^ s)).length ≤ B := dlen_two (Nat.lt_of_le_of_lt (Nat.mul_le_mul_left _ (Nat.pow_le_pow_right (by decide) (by omega))) hdB)
    refine Ev.step (f := fun k => (spec_l01Cmp.f k (dig n) (dig (d * 2 ^ s))).bind fun t205 => (if t205 ≥ 0 then ((spec_l01Minus.f k (dig n) (dig (d * 2 ^ s))).bind fun t206 => (if 0 ≤ (s : Int) then ((spec_l01Half.f k (dig (d * 2 ^ s))).bind fun t209 => (spec_l01Word.l2 k t206 (dig d) e (IntKind.u64.wrap ((q : Int) + (shl .u64 1 (s : Int)))) t209 (wrap64 ((s : Int) - 1)))) else (none))) else ((spec_l01Half.f k (dig (d * 2 ^ s))).bind fun t212 => (spec_l01Word.l2 k (dig n) (dig d) e (q : Int) t212 (wrap64 ((s : Int) - 1)))))) (fun k => ?_) ?_
    · simp only [spec_l01Word.l2]
      rw [if_pos (by omega)]
    · have hws : wrap64 ((s : Int) - 1) = (s : Int) - 1 := wrap64_of (by omega) (by omega)
      simp only [hws]
      refine Ev.bind (f := fun k t205 => (if t205 ≥ 0 then ((spec_l01Minus.f k (dig n) (dig (d * 2 ^ s))).bind fun t206 => (if 0 ≤ (s : Int) then ((spec_l01Half.f k (dig (d * 2 ^ s))).bind fun t209 => (spec_l01Word.l2 k t206 (dig d) e (IntKind.u64.wrap ((q : Int) + (shl .u64 1 (s : Int)))) t209 ((s : Int) - 1))) else (none))) else ((spec_l01Half.f k (dig (d * 2 ^ s))).bind fun t212 => (spec_l01Word.l2 k (dig n) (dig d) e (q : Int) t212 ((s : Int) - 1))))) (cmp_ev (by omega)) ?_
      by_cases hge : d * 2 ^ s ≤ n
      · have hq2 : q + 2 ^ s < 2 ^ 53 := by
          have hqd : (q + 2 ^ s) * d ≤ N := by
            rw [hN, Nat.add_mul, Nat.mul_comm (2 ^ s)]; omega
          have := Nat.lt_of_le_of_lt hqd h1
          exact Nat.lt_of_mul_lt_mul_right this
        have hsh : IntKind.u64.wrap ((q : Int) + (shl .u64 1 (s : Int))) = ((q + 2 ^ s : Nat) : Int) := by
          unfold shl
          rw [Int.toNat_natCast, show IntKind.u64.bits = 64 from rfl, Nat.min_eq_left (by omega), Int.one_mul, show ((2 : Int) ^ s) = ((2 ^ s : Nat) : Int) by simp]
          rw [IntKind.wrap_u64, IntKind.wrap_u64]
          have : 2 ^ s ≤ 2 ^ 53 := Nat.pow_le_pow_right (by decide) (by omega)
          omega
        refine Ev.congr (f := fun k => (spec_l01Minus.f k (dig n) (dig (d * 2 ^ s))).bind fun t206 => (spec_l01Half.f k (dig (d * 2 ^ s))).bind fun t209 => spec_l01Word.l2 k t206 (dig d) e ((q + 2 ^ s : Nat) : Int) t209 ((s : Int) - 1)) (fun k => ?_) ?_
        · rw [if_pos (cmpI_ge.2 hge), hsh]
          simp only [if_pos (show (0 : Int) ≤ (s : Int) by omega)]
        · refine Ev.bind (f := fun k t206 => (spec_l01Half.f k (dig (d * 2 ^ s))).bind fun t209 => spec_l01Word.l2 k t206 (dig d) e ((q + 2 ^ s : Nat) : Int) t209 ((s : Int) - 1)) (minus_ev (by omega) hge) ?_
          refine Ev.bind (f := fun k t209 => spec_l01Word.l2 k (dig (n - d * 2 ^ s)) (dig d) e ((q + 2 ^ s : Nat) : Int) t209 ((s : Int) - 1)) (half_ev (by omega)) ?_
          refine ih (q + 2 ^ s) (n - d * 2 ^ s) (by omega) ?_ ?_ hq2 ?_
          · rw [hN, Nat.add_mul, Nat.mul_comm (2 ^ s)]; omega
          · rw [Nat.pow_succ, ← Nat.mul_assoc] at hn; omega
          · rw [Nat.add_mod_right]
            have := Nat.mod_mod_of_dvd q (Nat.pow_dvd_pow 2 (Nat.le_succ s))
            rw [← this, hqs, Nat.zero_mod]
      · refine Ev.congr (f := fun k => (spec_l01Half.f k (dig (d * 2 ^ s))).bind fun t212 => spec_l01Word.l2 k (dig n) (dig d) e (q : Int) t212 ((s : Int) - 1)) (fun k => ?_) ?_
        · rw [if_neg (fun h => hge (cmpI_ge.1 h))]
        · refine Ev.bind (f := fun k t212 => spec_l01Word.l2 k (dig n) (dig d) e (q : Int) t212 ((s : Int) - 1)) (half_ev (by omega)) ?_
          refine ih q n (by omega) hN (by omega) hq ?_
          have := Nat.mod_mod_of_dvd q (Nat.pow_dvd_pow 2 (Nat.le_succ s))
          rw [← this, hqs, Nat.zero_mod]

theorem l1_ev {n0 d0 d j B : Nat} {e0 : Int} (hd0 : 0 < d0) (hB : B ≤ 500000) (hdB : d * 2 ^ 53 < 2 ^ B) (hd : d = d0 * 2 ^ j) (heB : e0 + j ≤ 100000) : ∀ (g i : Nat) (e : Int), e = e0 + j - i → e + 1074 = g → n0 * 2 ^ i < 2 ^ 53 * d →
    Ev (fun k => spec_l01Word.l1 k (dig (n0 * 2 ^ i)) (dig d) e (dig (d * 2 ^ 52))) ((word2 n0 d0 e0 : Nat) : Int) := by
  intro g
  have hdp : 0 < d := by rw [hd]; exact Nat.mul_pos hd0 (Nat.two_pow_pos _)
  have last : ∀ (i : Nat) (e : Int), e = e0 + j - i → -1074 ≤ e → n0 * 2 ^ i < 2 ^ 53 * d → (e = -1074 ∨ 2 ^ 52 * d ≤ n0 * 2 ^ i) → Ev (fun k => spec_l01Word.j3 k (dig (n0 * 2 ^ i)) (dig d) e (dig (d * 2 ^ 52))) ((word2 n0 d0 e0 : Nat) : Int) := fun i e he hlo h1 h2 => by
    rw [word_steps hd0 rfl hd he hlo h1 h2]
    refine Ev.step (f := fun k => spec_l01Word.l2 k (dig (n0 * 2 ^ i)) (dig d) e 0 (dig (d * 2 ^ 52)) 52) (fun k => ?_) ?_
    · simp only [spec_l01Word.j3]
    · have hh := l2_ev hdp hB (Nat.lt_trans (by rw [Nat.mul_comm d]; exact h1) hdB) hdB hlo (by omega) h1 h2 53 0 (n0 * 2 ^ i) (by omega) (by omega) (by rw [Nat.mul_comm d]; exact h1) (by decide) (by decide)
      rw [show d * 2 ^ 53 / 2 = d * 2 ^ 52 by rw [show (2 : Nat) ^ 53 = 2 ^ 52 * 2 by decide, ← Nat.mul_assoc]; exact Nat.mul_div_cancel _ (by decide)] at hh
      exact hh
  have hl52 : (dig (d * 2 ^ 52)).length ≤ B := dlen_two (Nat.lt_of_le_of_lt (Nat.mul_le_mul_left _ (by decide)) hdB)
  induction g with
  | zero =>
    intro i e he hg h1
    refine Ev.step (f := fun k => spec_l01Word.j3 k (dig (n0 * 2 ^ i)) (dig d) e (dig (d * 2 ^ 52))) (fun k => ?_) (last i e he (by omega) h1 (Or.inl (by omega)))
    simp only [spec_l01Word.l1]
    rw [if_neg (by omega)]
  | succ g ih =>
    intro i e he hg h1
    have hl1 : (dig (n0 * 2 ^ i)).length ≤ B := dlen_two (Nat.lt_trans (by rw [Nat.mul_comm d]; exact h1) hdB)
    refine Ev.step (f := fun k => (spec_l01Cmp.f k (dig (n0 * 2 ^ i)) (dig (d * 2 ^ 52))).bind fun t201 => (if t201 < 0 then ((spec_l01Times.f k (dig (n0 * 2 ^ i)) 2 0).bind fun t202 => (spec_l01Word.l1 k t202 (dig d) (wrap64 (e - 1)) (dig (d * 2 ^ 52)))) else (spec_l01Word.j3 k (dig (n0 * 2 ^ i)) (dig d) e (dig (d * 2 ^ 52))))) (fun k => ?_) ?_
    · simp only [spec_l01Word.l1]
      rw [if_pos (by omega)]
    · rw [wrap64_of (x := e - 1) (by omega) (by omega)]
      refine Ev.bind (f := fun k t201 => (if t201 < 0 then ((spec_l01Times.f k (dig (n0 * 2 ^ i)) 2 0).bind fun t202 => (spec_l01Word.l1 k t202 (dig d) (e - 1) (dig (d * 2 ^ 52)))) else (spec_l01Word.j3 k (dig (n0 * 2 ^ i)) (dig d) e (dig (d * 2 ^ 52))))) (cmp_ev (by omega)) ?_
      by_cases hlt : n0 * 2 ^ i < d * 2 ^ 52
      · refine Ev.congr (f := fun k => (spec_l01Times.f k (dig (n0 * 2 ^ i)) 2 0).bind fun t202 => (spec_l01Word.l1 k t202 (dig d) (e - 1) (dig (d * 2 ^ 52)))) (fun k => ?_) ?_
        · rw [if_pos (cmpI_lt.2 hlt)]
        · refine Ev.bind (f := fun k t202 => spec_l01Word.l1 k t202 (dig d) (e - 1) (dig (d * 2 ^ 52))) (times_2 (by omega)) ?_
          have e1 : n0 * 2 ^ i * 2 = n0 * 2 ^ (i + 1) := by rw [Nat.pow_succ]; grind
          rw [e1]
          refine ih (i + 1) (e - 1) (by omega) (by omega) ?_
          rw [← e1]
          have : d * 2 ^ 52 * 2 = 2 ^ 53 * d := by rw [Nat.mul_assoc, Nat.mul_comm d]
          omega
      · refine Ev.congr (f := fun k => spec_l01Word.j3 k (dig (n0 * 2 ^ i)) (dig d) e (dig (d * 2 ^ 52))) (fun k => ?_) ?_
        · rw [if_neg (fun h => hlt (cmpI_lt.1 h))]
        · exact last i e he (by omega) h1 (Or.inr (by rw [Nat.mul_comm]; omega))

theorem l0_ev {n0 d0 B : Nat} {e0 : Int} (he0 : -100000 ≤ e0) (hd0 : 0 < d0) (hB : B ≤ 500000) (hnB : n0 < 2 ^ B) : ∀ (r j : Nat) (e : Int), e = e0 + j → n0 < d0 * 2 ^ j * 2 ^ 53 * 2 ^ r → -1074 ≤ e + r → e + r ≤ 100000 → d0 * 2 ^ j * 2 ^ 53 * 2 ^ r < 2 ^ B →
    Ev (fun k => spec_l01Word.l0 k (dig n0) (dig (d0 * 2 ^ j)) e (dig (d0 * 2 ^ j * 2 ^ 53))) ((word2 n0 d0 e0 : Nat) : Int) := by
  intro r
  induction r with
  | zero =>
    intro j e he h1 h2 h3 hdB
    rw [Nat.pow_zero, Nat.mul_one] at h1 hdB
    have hl : (dig n0).length ≤ B := dlen_two hnB
    have hl2 := dlen_two hdB
    refine Ev.step (f := fun k => (spec_l01Cmp.f k (dig n0) (dig (d0 * 2 ^ j * 2 ^ 53))).bind fun t191 => (if t191 ≥ 0 then (spec_l01Word.j1 k (dig n0) (dig (d0 * 2 ^ j)) e (dig (d0 * 2 ^ j * 2 ^ 53)) true) else (spec_l01Word.j1 k (dig n0) (dig (d0 * 2 ^ j)) e (dig (d0 * 2 ^ j * 2 ^ 53)) (decide (e < (-1074)))))) (fun k => ?_) ?_
    · simp only [spec_l01Word.l0]
    · refine Ev.bind (f := fun k t191 => (if t191 ≥ 0 then (spec_l01Word.j1 k (dig n0) (dig (d0 * 2 ^ j)) e (dig (d0 * 2 ^ j * 2 ^ 53)) true) else (spec_l01Word.j1 k (dig n0) (dig (d0 * 2 ^ j)) e (dig (d0 * 2 ^ j * 2 ^ 53)) (decide (e < (-1074)))))) (cmp_ev (by omega)) ?_
      refine Ev.congr (f := fun k => spec_l01Word.j1 k (dig n0) (dig (d0 * 2 ^ j)) e (dig (d0 * 2 ^ j * 2 ^ 53)) false) (fun k => ?_) ?_
      · rw [if_neg (fun h => by have := cmpI_ge.1 h; omega), decide_eq_false (by omega)]
      · refine Ev.step (f := fun k => (spec_l01Half.f k (dig (d0 * 2 ^ j * 2 ^ 53))).bind fun t198 => (spec_l01Word.l1 k (dig n0) (dig (d0 * 2 ^ j)) e t198)) (fun k => ?_) ?_
        · simp only [spec_l01Word.j1]
          rw [if_neg (by decide)]
        · refine Ev.bind (f := fun k t198 => spec_l01Word.l1 k (dig n0) (dig (d0 * 2 ^ j)) e t198) (half_ev (by omega)) ?_
          have e2 : d0 * 2 ^ j * 2 ^ 53 / 2 = d0 * 2 ^ j * 2 ^ 52 := by rw [show (2 : Nat) ^ 53 = 2 ^ 52 * 2 by decide, ← Nat.mul_assoc]; exact Nat.mul_div_cancel _ (by decide)
          rw [e2]
          have := l1_ev (n0 := n0) hd0 hB hdB rfl (e0 := e0) (by omega) (e + 1074).toNat 0 e (by omega) (by omega) (by rw [Nat.pow_zero, Nat.mul_one, Nat.mul_comm]; exact h1)
          rw [Nat.pow_zero, Nat.mul_one] at this
          exact this
  | succ r ih =>
    intro j e he h1 h2 h3 hdB
    have hbig : d0 * 2 ^ j * 2 ^ 53 ≤ d0 * 2 ^ j * 2 ^ 53 * 2 ^ (r + 1) := Nat.le_mul_of_pos_right _ (Nat.two_pow_pos _)
    have hl : (dig n0).length ≤ B := dlen_two hnB
    have hl2 : (dig (d0 * 2 ^ j * 2 ^ 53)).length ≤ B := dlen_two (Nat.lt_of_le_of_lt hbig hdB)
    have hl3 : (dig (d0 * 2 ^ j)).length ≤ B := Nat.le_trans (dlen_mono (Nat.le_mul_of_pos_right _ (Nat.two_pow_pos _))) hl2
    have e1 : d0 * 2 ^ j * 2 = d0 * 2 ^ (j + 1) := by rw [Nat.pow_succ]; grind
    have e3 : d0 * 2 ^ j * 2 ^ 53 * 2 = d0 * 2 ^ (j + 1) * 2 ^ 53 := by rw [← e1]; grind
    have e4 : d0 * 2 ^ j * 2 ^ 53 * 2 ^ (r + 1) = d0 * 2 ^ (j + 1) * 2 ^ 53 * 2 ^ r := by rw [← e3, Nat.pow_succ]; grind
    have more : Ev (fun k => spec_l01Word.j1 k (dig n0) (dig (d0 * 2 ^ j)) e (dig (d0 * 2 ^ j * 2 ^ 53)) true) ((word2 n0 d0 e0 : Nat) : Int) := by
      refine Ev.step (f := fun k => (spec_l01Times.f k (dig (d0 * 2 ^ j * 2 ^ 53)) 2 0).bind fun t192 => ((spec_l01Times.f k (dig (d0 * 2 ^ j)) 2 0).bind fun t195 => (spec_l01Word.l0 k (dig n0) t195 (e + 1) t192))) (fun k => ?_) ?_
      · simp only [spec_l01Word.j1]
        rw [if_pos trivial, wrap64_of (by omega) (by omega)]
      · refine Ev.bind (f := fun k t192 => (spec_l01Times.f k (dig (d0 * 2 ^ j)) 2 0).bind fun t195 => (spec_l01Word.l0 k (dig n0) t195 (e + 1) t192)) (times_2 (by omega)) ?_
        refine Ev.bind (f := fun k t195 => spec_l01Word.l0 k (dig n0) t195 (e + 1) (dig (d0 * 2 ^ j * 2 ^ 53 * 2))) (times_2 (by omega)) ?_
        rw [e1, e3]
        exact ih (j + 1) (e + 1) (by omega) (by rw [← e4]; exact h1) (by omega) (by omega) (by rw [← e4]; exact hdB)
    refine Ev.step (f := fun k => (spec_l01Cmp.f k (dig n0) (dig (d0 * 2 ^ j * 2 ^ 53))).bind fun t191 => (if t191 ≥ 0 then (spec_l01Word.j1 k (dig n0) (dig (d0 * 2 ^ j)) e (dig (d0 * 2 ^ j * 2 ^ 53)) true) else (spec_l01Word.j1 k (dig n0) (dig (d0 * 2 ^ j)) e (dig (d0 * 2 ^ j * 2 ^ 53)) (decide (e < (-1074)))))) (fun k => ?_) ?_
    · simp only [spec_l01Word.l0]
    · refine Ev.bind (f := fun k t191 => (if t191 ≥ 0 then (spec_l01Word.j1 k (dig n0) (dig (d0 * 2 ^ j)) e (dig (d0 * 2 ^ j * 2 ^ 53)) true) else (spec_l01Word.j1 k (dig n0) (dig (d0 * 2 ^ j)) e (dig (d0 * 2 ^ j * 2 ^ 53)) (decide (e < (-1074)))))) (cmp_ev (by omega)) ?_
      by_cases hge : d0 * 2 ^ j * 2 ^ 53 ≤ n0
      · refine Ev.congr (fun k => ?_) more
        rw [if_pos (cmpI_ge.2 hge)]
      · by_cases hlo : e < -1074
        · refine Ev.congr (fun k => ?_) more
          rw [if_neg (fun h => hge (cmpI_ge.1 h)), decide_eq_true hlo]
        · refine Ev.congr (f := fun k => spec_l01Word.j1 k (dig n0) (dig (d0 * 2 ^ j)) e (dig (d0 * 2 ^ j * 2 ^ 53)) false) (fun k => ?_) ?_
          · rw [if_neg (fun h => hge (cmpI_ge.1 h)), decide_eq_false hlo]
          · refine Ev.step (f := fun k => (spec_l01Half.f k (dig (d0 * 2 ^ j * 2 ^ 53))).bind fun t198 => (spec_l01Word.l1 k (dig n0) (dig (d0 * 2 ^ j)) e t198)) (fun k => ?_) ?_
            · simp only [spec_l01Word.j1]
              rw [if_neg (by decide)]
            · refine Ev.bind (f := fun k t198 => spec_l01Word.l1 k (dig n0) (dig (d0 * 2 ^ j)) e t198) (half_ev (by omega)) ?_
              have e2 : d0 * 2 ^ j * 2 ^ 53 / 2 = d0 * 2 ^ j * 2 ^ 52 := by rw [show (2 : Nat) ^ 53 = 2 ^ 52 * 2 by decide, ← Nat.mul_assoc]; exact Nat.mul_div_cancel _ (by decide)
              rw [e2]
              have := l1_ev (n0 := n0) hd0 hB (Nat.lt_of_le_of_lt hbig hdB) rfl (e0 := e0) (by omega) (e + 1074).toNat 0 e (by omega) (by omega) (by rw [Nat.pow_zero, Nat.mul_one, Nat.mul_comm]; omega)
              rw [Nat.pow_zero, Nat.mul_one] at this
              exact this

/-- The reference's l01Word. -/
theorem word_ev {n d C : Nat} {e : Int} (hd : 0 < d) (hC : C ≤ 30000) (hn : n < 2 ^ C) (hdC : d < 2 ^ C) (he1 : -50000 ≤ e) (he2 : e ≤ 5000) : Ev (fun k => spec_l01Word.f k (dig n) (dig d) e) ((word2 n d e : Nat) : Int) := by
  by_cases h0 : n = 0
  · subst h0
    have hw : word2 0 d e = 0 := by
      unfold word2
      rw [Nat.zero_mul]
      exact word_zero _ (Nat.mul_pos hd (Nat.two_pow_pos _))
    rw [hw, dig_zero]
    refine Ev.congr (fun k => ?_) (Ev.now _)
    unfold spec_l01Word.f
    rw [if_pos (by simp)]
    rfl
  · have hne : (dig n).length ≠ 0 := fun h => h0 (dig_nil.1 (List.eq_nil_of_length_eq_zero h))
    have b1 : d * 2 ^ 52 < 2 ^ (C + 52) := by rw [Nat.pow_add]; exact Nat.mul_lt_mul_of_pos_right hdC (Nat.two_pow_pos _)
    have hl52 := dlen_two b1
    refine Ev.congr (f := fun k => (spec_l01Two.f k (dig d) 52).bind fun t185 => ((spec_l01Times.f k t185 2 0).bind fun t188 => (spec_l01Word.l0 k (dig n) (dig d) e t188))) (fun k => ?_) ?_
    · unfold spec_l01Word.f
      rw [if_neg (by omega)]
    · refine Ev.bind (f := fun k t185 => (spec_l01Times.f k t185 2 0).bind fun t188 => (spec_l01Word.l0 k (dig n) (dig d) e t188)) (two_ev 52 d (by omega) (by omega)) ?_
      refine Ev.bind (f := fun k t188 => spec_l01Word.l0 k (dig n) (dig d) e t188) (times_2 (by omega)) ?_
      have e1 : d * 2 ^ 52 * 2 = d * 2 ^ 53 := by rw [Nat.mul_assoc]
      rw [e1]
      obtain ⟨B, hBe⟩ : ∃ B, B = 2 * C + 60100 := ⟨_, rfl⟩
      have hh := l0_ev (n0 := n) (d0 := d) (e0 := e) (B := B) (by omega) hd (by omega) (Nat.lt_of_lt_of_le hn (Nat.pow_le_pow_right (by decide) (by omega))) (C + 60000) 0 e (by omega) ?_ (by omega) (by omega) ?_
      · rw [Nat.pow_zero, Nat.mul_one] at hh
        exact hh
      · have : 1 ≤ d * 2 ^ 0 * 2 ^ 53 := Nat.mul_pos (Nat.mul_pos hd (by decide)) (by decide)
        have h2 : 2 ^ C ≤ 2 ^ (C + 60000) := Nat.pow_le_pow_right (by decide) (by omega)
        have h3 : 1 * 2 ^ (C + 60000) ≤ d * 2 ^ 0 * 2 ^ 53 * 2 ^ (C + 60000) := Nat.mul_le_mul_right _ this
        rw [Nat.one_mul] at h3
        exact Nat.lt_of_lt_of_le hn (Nat.le_trans h2 h3)
      · have h4 : d * 2 ^ 0 * 2 ^ 53 * 2 ^ (C + 60000) < 2 ^ C * 2 ^ 53 * 2 ^ (C + 60000) := by
          rw [Nat.pow_zero, Nat.mul_one]
          exact Nat.mul_lt_mul_of_pos_right (Nat.mul_lt_mul_of_pos_right hdC (by decide)) (Nat.two_pow_pos _)
        rw [← Nat.pow_add, ← Nat.pow_add] at h4
        exact Nat.lt_of_lt_of_le h4 (Nat.pow_le_pow_right (by decide) (by omega))
end Go.Proofs.YtlblkajnmdhmdaaGreatDoor.NB
