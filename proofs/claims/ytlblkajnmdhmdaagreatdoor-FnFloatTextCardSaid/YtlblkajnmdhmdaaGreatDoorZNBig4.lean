/-
  Plain law over the printed functions: l01Nearest, l01Parts, l01Of, l01Exact.
-/
import Derived.Test.YtlblkajnmdhmdaaGreatDoorZNBig3
import Derived.Test.YtlblkajnmdhmdaaGreatDoorZPFormatNumberx5
namespace Go.Proofs.YtlblkajnmdhmdaaGreatDoor.NB
set_option linter.unusedVariables false
open Go Go.RowKit Go.Proofs.YtlblkajnmdhmdaaGreatDoor.PFormatNumber Go.Proofs.YtlblkajnmdhmdaaGreatDoorW.PrintWords Go.Proofs.YtlblkajnmdhmdaaGreatDoorW.PrintLast Go.Proofs.YtlblkajnmdhmdaaGreatDoorW.PrintMore Go.Proofs.YtlblkajnmdhmdaaGreatDoor.NU

/-- The signs of decimal digits. -/
def AD (l : List Int) : Prop := ∀ x ∈ l, 48 ≤ x ∧ x ≤ 57
/-- The number that they tell. -/
def dv (l : List Int) : Nat := l.foldl (fun a x => a * 10 + (x - 48).toNat) 0
theorem dv_snoc (l : List Int) (x : Int) : dv (l ++ [x]) = dv l * 10 + (x - 48).toNat := by unfold dv; rw [List.foldl_append]; rfl
theorem dv_lt {l : List Int} (h : AD l) : dv l < 10 ^ l.length := by
  have : ∀ (n : Nat) (l : List Int), l.length = n → AD l → dv l < 10 ^ n := by
    intro n
    induction n with
    | zero =>
      intro l hl _
      have : l = [] := List.eq_nil_of_length_eq_zero hl
      subst this
      decide
    | succ n ih =>
      intro l hl ha
      have hne : l ≠ [] := by rintro rfl; simp at hl
      have e := List.dropLast_concat_getLast hne
      rw [← e, dv_snoc, Nat.pow_succ]
      have h1 := ih l.dropLast (by rw [List.length_dropLast]; omega) (fun x hx => ha x (List.dropLast_subset l hx))
      have h2 := ha (l.getLast hne) (List.getLast_mem hne)
      omega
  exact this _ l rfl h
theorem take_snoc_rd {l : List Int} {j : Nat} (h : j < l.length) : l.take (j + 1) = l.take j ++ [rd l (j : Int)] := by
  rw [rd_at h, List.take_succ_eq_append_getElem h]
theorem ad_take {l : List Int} (h : AD l) (n : Nat) : AD (l.take n) := fun x hx => h x (List.mem_of_mem_take hx)
theorem ad_rd {l : List Int} (h : AD l) {j : Nat} (hj : j < l.length) : 48 ≤ rd l (j : Int) ∧ rd l (j : Int) ≤ 57 := h _ (by rw [rd_at hj]; exact List.getElem_mem _)

theorem dig_one : dig 1 = [1] := by rw [dig_pos (by decide), show 1 / 10000 = 0 by decide, dig_zero]; rfl
theorem ten_two (k : Nat) : 10 ^ k ≤ 2 ^ (4 * k) := by
  rw [Nat.pow_mul]
  exact Nat.pow_le_pow_left (by decide) k

/-! ### l01Nearest -/
theorem nearest_j1 {n s : Nat} {e : Int} (hs : n < 10 ^ s) (hs2 : (n = 0 ∧ s = 0) ∨ (1 ≤ s ∧ 10 ^ (s - 1) ≤ n)) (hsl : s ≤ 2000) (he1 : -3000 ≤ e) (he2 : e ≤ 3000) (b : Bool) (hb : b = decide (n = 0 ∨ (s : Int) + e < -330)) :
    ∃ r1 : Int, Ev (fun k => spec_l01Nearest.j1 k e (dig n) (s : Int) b) (r1, decide (wordE n e ≠ 2047 * 2 ^ 52)) ∧ (wordE n e ≠ 2047 * 2 ^ 52 → r1 = (wordE n e : Nat)) := by
  cases b with
  | true =>
    have hc := of_decide_eq_true hb.symm
    have hw : wordE n e = 0 := by
      rcases hc with rfl | hc
      · unfold wordE; rw [Nat.zero_mul]; exact word_zero _ (Nat.pow_pos (by decide))
      · exact wordE_small hs hc
    refine ⟨0, ?_, fun _ => by rw [hw]; rfl⟩
    rw [hw, decide_eq_true (by decide)]
    refine Ev.step (f := fun _ => some (0, true)) (fun k => ?_) (Ev.now _)
    simp only [spec_l01Nearest.j1]
    rw [if_pos trivial]
  | false =>
    have hc := of_decide_eq_false hb.symm
    have hn0 : n ≠ 0 := fun h => hc (Or.inl h)
    have hsm : ¬ (s : Int) + e < -330 := fun h => hc (Or.inr h)
    obtain ⟨hs1, hs3⟩ := hs2.resolve_left (fun h => hn0 h.1)
    by_cases hbig : 310 < (s : Int) + e
    · have hw := wordE_great hs1 hs3 hbig
      refine ⟨0, ?_, fun h => absurd hw h⟩
      rw [decide_eq_false (fun h => h hw)]
      refine Ev.step (f := fun _ => some (0, false)) (fun k => ?_) (Ev.now _)
      simp only [spec_l01Nearest.j1]
      rw [if_neg (by decide), wrap64_of (by omega) (by omega), if_pos (by omega)]
    · have hnC : n < 2 ^ (4 * s) := Nat.lt_of_lt_of_le hs (ten_two s)
      have hdn : (dig n).length ≤ 4 * s := dlen_two hnC
      have hinf : ((2047 * 2 ^ 52 : Nat) : Int) = 9218868437227405312 := by decide
      have hend : ∀ v : Nat, ((v : Int) != 9218868437227405312) = decide (v ≠ 2047 * 2 ^ 52) := fun v => by
        rw [← hinf]
        by_cases h : v = 2047 * 2 ^ 52
        · rw [decide_eq_false (fun hh => hh h), h]
          simp
        · rw [decide_eq_true h]
          simp only [bne_iff_ne, ne_eq]
          omega
      refine ⟨(wordE n e : Nat), ?_, fun _ => rfl⟩
      rw [← hend]
      by_cases h0 : 0 ≤ e
      · obtain ⟨g, rfl⟩ : ∃ g : Nat, e = g := ⟨e.toNat, by omega⟩
        have hwE : wordE n (g : Int) = word2 (n * 10 ^ g) 1 0 := by
          rw [word2_zero]; unfold wordE
          rw [Int.toNat_natCast, show (-(g : Int)).toNat = 0 by omega, Nat.pow_zero]
        rw [hwE]
        refine Ev.step (f := fun k => (spec_l01Pow10.f k (dig n) (g : Int)).bind fun t229 => ((spec_l01Word.f k t229 (dig 1) 0).bind fun t232 => (some (t232, (t232 != 9218868437227405312))))) (fun k => ?_) ?_
        · simp only [spec_l01Nearest.j1, Option.bind_some, dig_one]
          rw [if_neg (by decide), wrap64_of (by omega) (by omega), if_neg (by omega), if_pos (by omega)]
        · refine Ev.bind (f := fun k t229 => (spec_l01Word.f k t229 (dig 1) 0).bind fun t232 => (some (t232, (t232 != 9218868437227405312)))) (pow10_ev (by omega)) ?_
          have hC : n * 10 ^ g < 2 ^ (4 * s + 4 * g) := by
            rw [Nat.pow_add]
            exact Nat.mul_lt_mul_of_lt_of_le hnC (ten_two g) (Nat.two_pow_pos _)
          exact Ev.bind (f := fun _ t232 => some (t232, (t232 != 9218868437227405312))) (word_ev (C := 4 * s + 4 * g) (e := 0) (by decide) (by omega) hC (Nat.one_lt_two_pow (by omega)) (by omega) (by omega)) (Ev.now _)
      · obtain ⟨g, rfl⟩ : ∃ g : Nat, e = -(g : Int) := ⟨(-e).toNat, by omega⟩
        have hwE : wordE n (-(g : Int)) = word2 n (10 ^ g) 0 := by
          rw [word2_zero]; unfold wordE
          rw [show (-(g : Int)).toNat = 0 by omega, Nat.pow_zero, Nat.mul_one, Int.neg_neg, Int.toNat_natCast]
        rw [hwE]
        refine Ev.step (f := fun k => (spec_l01Pow10.f k (dig 1) (g : Int)).bind fun t233 => ((spec_l01Word.f k (dig n) t233 0).bind fun t236 => (some (t236, (t236 != 9218868437227405312))))) (fun k => ?_) ?_
        · simp only [spec_l01Nearest.j1, Option.bind_some, dig_one]
          rw [if_neg (by decide), wrap64_of (x := (s : Int) + -(g : Int)) (by omega) (by omega), if_neg (by omega), if_neg (by omega), wrap64_of (by omega) (by omega), Int.neg_neg]
        · have h1 : (dig 1).length = 1 := by rw [dig_one]; rfl
          have hp := pow10_ev (n := 1) (e := g) (by omega)
          rw [Nat.one_mul] at hp
          refine Ev.bind (f := fun k t233 => (spec_l01Word.f k (dig n) t233 0).bind fun t236 => (some (t236, (t236 != 9218868437227405312)))) hp ?_
          have hC1 : n < 2 ^ (4 * s + 4 * g + 1) := Nat.lt_of_lt_of_le hnC (Nat.pow_le_pow_right (by decide) (by omega))
          have hC2 : 10 ^ g < 2 ^ (4 * s + 4 * g + 1) := Nat.lt_of_le_of_lt (ten_two g) (Nat.pow_lt_pow_right (by decide) (by omega))
          exact Ev.bind (f := fun _ t236 => some (t236, (t236 != 9218868437227405312))) (word_ev (C := 4 * s + 4 * g + 1) (e := 0) (Nat.pow_pos (by decide)) (by omega) hC1 hC2 (by omega) (by omega)) (Ev.now _)

theorem nearest_l0 (L : List Int) (e : Int) (hL : AD L) (hlen : L.length ≤ 2000) (he1 : -3000 ≤ e) (he2 : e ≤ 3000) : ∀ (r j s : Nat), j + r = L.length → dv (L.take j) < 10 ^ s → (dv (L.take j) = 0 ∧ s = 0) ∨ (1 ≤ s ∧ 10 ^ (s - 1) ≤ dv (L.take j)) → s ≤ j →
    ∃ r1 : Int, Ev (fun k => spec_l01Nearest.l0 k e (dig (dv (L.take j))) (s : Int) L (L.length : Int) (j : Int)) (r1, decide (wordE (dv L) e ≠ 2047 * 2 ^ 52)) ∧ (wordE (dv L) e ≠ 2047 * 2 ^ 52 → r1 = (wordE (dv L) e : Nat)) := by
  intro r
  induction r with
  | zero =>
    intro j s hj h1 h2 hs
    rw [List.take_of_length_le (by omega)] at h1 h2 ⊢
    obtain ⟨r1, hev, hr⟩ := nearest_j1 h1 h2 (by omega) he1 he2 (decide (dv L = 0 ∨ (s : Int) + e < -330)) rfl
    refine ⟨r1, Ev.step (f := fun k => spec_l01Nearest.j1 k e (dig (dv L)) (s : Int) (decide (dv L = 0 ∨ (s : Int) + e < -330))) (fun k => ?_) hev, hr⟩
    simp only [spec_l01Nearest.l0]
    rw [if_neg (by omega)]
    by_cases h0 : dv L = 0
    · rw [if_pos (by rw [h0, dig_zero]; rfl), decide_eq_true (Or.inl h0)]
    · rw [if_neg (fun h => h0 (dig_nil.1 (List.eq_nil_of_length_eq_zero (by omega)))), wrap64_of (by omega) (by omega)]
      congr 1
      by_cases hc : (s : Int) + e < -330
      · rw [decide_eq_true hc, decide_eq_true (Or.inr hc)]
      · rw [decide_eq_false hc, decide_eq_false (fun h => h.elim h0 hc)]
  | succ r ih =>
    intro j s hj h1 h2 hs
    have hjl : j < L.length := by omega
    have hx := ad_rd hL hjl
    obtain ⟨x, hxe⟩ : ∃ x : Nat, rd L (j : Int) = x := ⟨(rd L (j : Int)).toNat, by omega⟩
    rw [hxe] at hx
    have hsn : dv (L.take (j + 1)) = dv (L.take j) * 10 + (x - 48) := by
      rw [take_snoc_rd hjl, dv_snoc, hxe]
      congr 1
      omega
    obtain ⟨n, hn⟩ : ∃ n, dv (L.take j) = n := ⟨_, rfl⟩
    rw [hn] at h1 h2 hsn ⊢
    have hlt := dv_lt (ad_take hL j)
    rw [hn, List.length_take, Nat.min_eq_left (by omega)] at hlt
    have hdn := dlen_two (Nat.lt_of_lt_of_le hlt (ten_two j))
    have ht := times_ev (n := n) (m := 10) (c := x - 48) (by omega) (by omega) (by omega)
    rw [show ((x - 48 : Nat) : Int) = (x : Int) - 48 by omega] at ht
    -- the size behind this digit
    obtain ⟨s', hs', g1, g2, g3⟩ : ∃ s' : Nat, (if ((dig (n * 10 + (x - 48))).length : Int) > 0 then (s : Int) + 1 else (s : Int)) = s' ∧ n * 10 + (x - 48) < 10 ^ s' ∧ ((n * 10 + (x - 48) = 0 ∧ s' = 0) ∨ (1 ≤ s' ∧ 10 ^ (s' - 1) ≤ n * 10 + (x - 48))) ∧ s' ≤ j + 1 := by
      by_cases h0 : n * 10 + (x - 48) = 0
      · refine ⟨s, ?_, ?_, ?_, by omega⟩
        · rw [h0, dig_zero, if_neg (by simp)]
        · rw [h0]; exact Nat.pow_pos (by decide)
        · left
          refine ⟨h0, ?_⟩
          rcases h2 with h2 | h2
          · exact h2.2
          · have : 0 < 10 ^ (s - 1) := Nat.pow_pos (by decide)
            omega
      · refine ⟨s + 1, ?_, ?_, ?_, by omega⟩
        · rw [if_pos]
          · omega
          · have : (dig (n * 10 + (x - 48))).length ≠ 0 := fun h => h0 (dig_nil.1 (List.eq_nil_of_length_eq_zero h))
            omega
        · rw [Nat.pow_succ]; omega
        · right
          refine ⟨by omega, ?_⟩
          rw [Nat.add_sub_cancel]
          rcases h2 with h2 | h2
          · rw [h2.2, Nat.pow_zero]; omega
          · obtain ⟨t, rfl⟩ : ∃ t, s = t + 1 := ⟨s - 1, by omega⟩
            have h3 := h2.2
            rw [Nat.add_sub_cancel] at h3
            rw [Nat.pow_succ]
            omega
    rw [← hsn] at g1 g2
    obtain ⟨r1, hev, hr⟩ := ih (j + 1) s' (by omega) g1 g2 g3
    refine ⟨r1, Ev.step (f := fun k => (spec_l01Times.f k (dig n) ((10 : Nat) : Int) ((x : Int) - 48)).bind fun t223 => (if (t223.length : Int) > 0 then (spec_l01Nearest.l0 k e t223 (wrap64 ((s : Int) + 1)) L (L.length : Int) (wrap64 ((j : Int) + 1))) else (spec_l01Nearest.l0 k e t223 (s : Int) L (L.length : Int) (wrap64 ((j : Int) + 1))))) (fun k => ?_) ?_, hr⟩
    · simp only [spec_l01Nearest.l0]
      rw [if_pos (by omega), if_pos (by omega), if_pos (by omega), hxe, wrap64_of (x := (x : Int)) (by omega) (by omega), wrap64_of (x := (x : Int) - 48) (by omega) (by omega)]
      rfl
    · refine Ev.bind (f := fun k t223 => (if (t223.length : Int) > 0 then (spec_l01Nearest.l0 k e t223 (wrap64 ((s : Int) + 1)) L (L.length : Int) (wrap64 ((j : Int) + 1))) else (spec_l01Nearest.l0 k e t223 (s : Int) L (L.length : Int) (wrap64 ((j : Int) + 1))))) ht ?_
      refine Ev.congr (fun k => ?_) hev
      rw [hsn, wrap64_of (x := (s : Int) + 1) (by omega) (by omega), wrap64_of (x := (j : Int) + 1) (by omega) (by omega)]
      by_cases hp : ((dig (n * 10 + (x - 48))).length : Int) > 0
      · rw [if_pos hp] at hs' ⊢
        rw [hs']
        rfl
      · rw [if_neg hp] at hs' ⊢
        rw [hs']
        rfl

theorem nearest_ev {L : List Int} {e : Int} (hL : AD L) (hlen : L.length ≤ 2000) (he1 : -3000 ≤ e) (he2 : e ≤ 3000) :
    ∃ r1 : Int, Ev (fun k => spec_l01Nearest.f k L e) (r1, decide (wordE (dv L) e ≠ 2047 * 2 ^ 52)) ∧ (wordE (dv L) e ≠ 2047 * 2 ^ 52 → r1 = (wordE (dv L) e : Nat)) := by
  have h := nearest_l0 L e hL hlen he1 he2 L.length 0 0 (by omega) (by rw [List.take_zero]; decide) (Or.inl ⟨by rw [List.take_zero]; rfl, rfl⟩) (by omega)
  rw [List.take_zero, show dv [] = 0 from rfl, dig_zero] at h
  exact h
end Go.Proofs.YtlblkajnmdhmdaaGreatDoor.NB
