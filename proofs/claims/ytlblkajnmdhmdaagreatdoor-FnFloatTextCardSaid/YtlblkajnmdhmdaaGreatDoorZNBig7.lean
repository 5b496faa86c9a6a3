/-
  Plain law over the printed functions: l01Short finds the fewest digits that read back.
-/
import Derived.Test.YtlblkajnmdhmdaaGreatDoorZNBig6
import Derived.Test.YtlblkajnmdhmdaaGreatDoorZSShort
namespace Go.Proofs.YtlblkajnmdhmdaaGreatDoor.NB
set_option linter.unusedVariables false
open Go Go.RowKit Go.Proofs.YtlblkajnmdhmdaaGreatDoor.PFormatNumber Go.Proofs.YtlblkajnmdhmdaaGreatDoorW.PrintWords Go.Proofs.YtlblkajnmdhmdaaGreatDoorW.PrintLast Go.Proofs.YtlblkajnmdhmdaaGreatDoorW.PrintMore Go.Proofs.YtlblkajnmdhmdaaGreatDoor.NU

/-- The exact digits against the word's value: weight, and what rounding to k digits is. -/
theorem exact_isW {w N p n j : Nat} (hrel : N * one74 = wU w * 10 ^ p) (hn1 : 1 ≤ n) (hlo : 10 ^ (n - 1) ≤ N) (hhi : N < 10 ^ n) (hj : (j : Int) = n - 1 - p + 348) : isW w j := by
  have ho := one74_pos
  have hp : 0 < 10 ^ p := Nat.pow_pos (by decide)
  constructor
  · refine Nat.le_of_mul_le_mul_right (c := 10 ^ p) ?_ hp
    have e : tn j * 10 ^ p = 10 ^ (n - 1) * td j := by
      unfold tn td
      rw [← Nat.pow_add, ← Nat.pow_add]
      exact congrArg (10 ^ ·) (by omega)
    calc one74 * tn j * 10 ^ p = one74 * (10 ^ (n - 1) * td j) := by rw [Nat.mul_assoc, e]
      _ ≤ one74 * (N * td j) := Nat.mul_le_mul_left _ (Nat.mul_le_mul_right _ hlo)
      _ = wU w * td j * 10 ^ p := by
        rw [Nat.mul_right_comm, ← hrel]; grind
  · refine Nat.lt_of_mul_lt_mul_right (a := 10 ^ p) ?_
    have e : tn (j + 1) * 10 ^ p = 10 ^ n * td (j + 1) := by
      unfold tn td
      rw [← Nat.pow_add, ← Nat.pow_add]
      exact congrArg (10 ^ ·) (by omega)
    have htd : 0 < td (j + 1) := td_pos _
    calc wU w * td (j + 1) * 10 ^ p = one74 * (N * td (j + 1)) := by
          rw [Nat.mul_right_comm, ← hrel]; grind
      _ < one74 * (10 ^ n * td (j + 1)) := Nat.mul_lt_mul_of_pos_left (Nat.mul_lt_mul_of_pos_right hhi htd) ho
      _ = one74 * tn (j + 1) * 10 ^ p := by rw [Nat.mul_assoc, e]

theorem exact_round {w N p n j k : Nat} (hrel : N * one74 = wU w * 10 ^ p) (hk1 : 1 ≤ k) (hkn : k ≤ n) (hj : (j : Int) = n - 1 - p + 348) (hj2 : j ≤ 695) : roundAt w (k + 695 - j) = rne N (10 ^ (n - k)) := by
  unfold roundAt
  refine rne_ratio (Nat.mul_pos one74_pos (td_pos _)) (Nat.pow_pos (by decide)) ?_
  have e : tn (k + 695 - j) * 10 ^ (n - k) = 10 ^ p * td (k + 695 - j) := by
    unfold tn td
    rw [← Nat.pow_add, ← Nat.pow_add]
    exact congrArg (10 ^ ·) (by omega)
  calc wU w * tn (k + 695 - j) * 10 ^ (n - k) = wU w * (10 ^ p * td (k + 695 - j)) := by rw [Nat.mul_assoc, e]
    _ = N * one74 * td (k + 695 - j) := by rw [hrel, Nat.mul_assoc]
    _ = N * (one74 * td (k + 695 - j)) := Nat.mul_assoc _ _ _

theorem rne_one (N : Nat) : rne N 1 = N := by
  unfold rne
  rw [Nat.div_one, Nat.mod_one, if_neg (by omega)]
  rfl

/-- All the digits read back. -/
theorem exact_back {w N p n j : Nat} (hw : w < 2047 * 2 ^ 52) (hrel : N * one74 = wU w * 10 ^ p) (hn1 : 1 ≤ n) (hhi : N < 10 ^ n) (hj : (j : Int) = n - 1 - p + 348) (hj2 : j ≤ 695) (hnj : n ≤ j) : digK w n j = (N, j) ∧ backK w n j = w := by
  have hr : roundAt w (n + 695 - j) = N := by rw [exact_round hrel hn1 (Nat.le_refl _) hj hj2, Nat.sub_self, Nat.pow_zero, rne_one]
  refine ⟨?_, ?_⟩
  · unfold digK
    rw [hr, if_neg (by omega)]
  · rw [backK_eq hn1 hnj, hr]
    refine Eq.trans (word_eq (td_pos _) one74_pos ?_) (word_exact hw)
    have e : 10 ^ p * tn (j + 1 - n) = td (j + 1 - n) := by
      unfold tn td
      rw [← Nat.pow_add]
      exact congrArg (10 ^ ·) (by omega)
    calc N * tn (j + 1 - n) * one74 = N * one74 * tn (j + 1 - n) := Nat.mul_right_comm _ _ _
      _ = wU w * td (j + 1 - n) := by rw [hrel, Nat.mul_assoc, e]

/-- One round of the search. -/
theorem short_step {w N p n j k : Nat} (hw : w < 2047 * 2 ^ 52) (hrel : N * one74 = wU w * 10 ^ p) (hnl : (decs N).length = n) (hn2 : n ≤ 2000) (hlo : 10 ^ (n - 1) ≤ N) (hp : p ≤ 1074)
    (hj : (j : Int) = n - 1 - p + 348) (hj1 : 17 ≤ j) (hj2 : j ≤ 695) (hk1 : 1 ≤ k) (hk17 : k ≤ 17) (hkn : k < n) (r : List Int × Int) (h1 : backK w k j = w → r = (decs (digK w k j).1, ((digK w k j).2 : Int) - 348))
    (h2 : backK w k j ≠ w → Ev (fun f => spec_l01Short.l0 f (w : Int) (decs N) ((n : Int) - 1 - p) ((k + 1 : Nat) : Int)) r) : Ev (fun f => spec_l01Short.l0 f (w : Int) (decs N) ((n : Int) - 1 - p) (k : Int)) r := by
  have hr := round_ev (L := decs N) (kk := k) (ad_decs N) hk1 (by omega) (by omega) (by rw [dv_decs, hnl]; exact hlo)
  rw [dv_decs, hnl, ← exact_round hrel hk1 (by omega) hj hj2] at hr
  have hwe : ((n : Int) - 1 - p) = (j : Int) - 348 := by omega
  rw [hwe] at h2 ⊢
  refine Ev.step (f := fun f => (spec_l01Round.f f (decs N) (k : Int)).bind fun bt299 => (if bt299.2 = true then ((spec_l01Nearest.f f bt299.1 ((j : Int) - 348 + 1 - k + 1)).bind fun bt303 => (if bt303.2 = true then (if bt303.1 = (w : Int) then (some (bt299.1, (j : Int) - 348 + 1)) else (spec_l01Short.l0 f (w : Int) (decs N) ((j : Int) - 348) ((k + 1 : Nat) : Int))) else (spec_l01Short.l0 f (w : Int) (decs N) ((j : Int) - 348) ((k + 1 : Nat) : Int)))) else ((spec_l01Nearest.f f bt299.1 ((j : Int) - 348 - k + 1)).bind fun bt305 => (if bt305.2 = true then (if bt305.1 = (w : Int) then (some (bt299.1, (j : Int) - 348)) else (spec_l01Short.l0 f (w : Int) (decs N) ((j : Int) - 348) ((k + 1 : Nat) : Int))) else (spec_l01Short.l0 f (w : Int) (decs N) ((j : Int) - 348) ((k + 1 : Nat) : Int)))))) (fun f => ?_) ?_
  · simp only [spec_l01Short.l0]
    rw [if_pos (by omega), if_neg (by omega), wrap64_of (x := (j : Int) - 348 + 1) (by omega) (by omega), wrap64_of (x := (j : Int) - 348 + 1 - k) (by omega) (by omega), wrap64_of (x := (j : Int) - 348 + 1 - k + 1) (by omega) (by omega), wrap64_of (x := (j : Int) - 348 - k) (by omega) (by omega), wrap64_of (x := (j : Int) - 348 - k + 1) (by omega) (by omega), wrap64_of (x := (k : Int) + 1) (by omega) (by omega)]
    rfl
  · -- what is done behind the rounding
    have fin : ∀ (D x : Nat) (e : Int), (digK w k j) = (D, x) → e = (x : Int) - 348 - k + 1 → 17 ≤ x → x ≤ 696 → D < 10 ^ k → Ev (fun f => (spec_l01Nearest.f f (decs D) e).bind fun bt305 => (if bt305.2 = true then (if bt305.1 = (w : Int) then (some (decs D, (x : Int) - 348)) else (spec_l01Short.l0 f (w : Int) (decs N) ((j : Int) - 348) ((k + 1 : Nat) : Int))) else (spec_l01Short.l0 f (w : Int) (decs N) ((j : Int) - 348) ((k + 1 : Nat) : Int)))) r := fun D x e hD he hx1 hx2 hDl => by
      have hlen := decs_length hDl
      obtain ⟨r1, hev, hr1⟩ := nearest_ev (L := decs D) (e := e) (ad_decs D) (by omega) (by omega) (by omega)
      have hwe2 : wordE (dv (decs D)) e = backK w k j := by
        rw [dv_decs]
        unfold backK
        rw [hD, ← wordE_at, show e = ((x + 1 - k : Nat) : Int) - 348 by omega]
      rw [hwe2] at hev hr1
      refine Ev.bind (f := fun f bt305 => (if bt305.2 = true then (if bt305.1 = (w : Int) then (some (decs D, (x : Int) - 348)) else (spec_l01Short.l0 f (w : Int) (decs N) ((j : Int) - 348) ((k + 1 : Nat) : Int))) else (spec_l01Short.l0 f (w : Int) (decs N) ((j : Int) - 348) ((k + 1 : Nat) : Int)))) hev ?_
      by_cases hb : backK w k j = w
      · have hne : backK w k j ≠ 2047 * 2 ^ 52 := by omega
        rw [h1 hb, hD]
        refine Ev.congr (fun f => ?_) (Ev.now _)
        rw [if_pos (decide_eq_true hne), if_pos (by rw [hr1 hne, hb])]
      · refine Ev.congr (fun f => ?_) (h2 hb)
        by_cases hne : backK w k j ≠ 2047 * 2 ^ 52
        · rw [if_pos (decide_eq_true hne), if_neg (by rw [hr1 hne]; exact fun h => hb (by omega))]
        · rw [if_neg (by rw [decide_eq_false hne]; exact Bool.false_ne_true)]
    have hpk : 10 ^ (k - 1) < 10 ^ k := Nat.pow_lt_pow_right (by decide) (by omega)
    by_cases hc : roundAt w (k + 695 - j) = 10 ^ k
    · rw [if_pos hc] at hr
      refine Ev.bind (f := fun f bt299 => (if bt299.2 = true then ((spec_l01Nearest.f f bt299.1 ((j : Int) - 348 + 1 - k + 1)).bind fun bt303 => (if bt303.2 = true then (if bt303.1 = (w : Int) then (some (bt299.1, (j : Int) - 348 + 1)) else (spec_l01Short.l0 f (w : Int) (decs N) ((j : Int) - 348) ((k + 1 : Nat) : Int))) else (spec_l01Short.l0 f (w : Int) (decs N) ((j : Int) - 348) ((k + 1 : Nat) : Int)))) else ((spec_l01Nearest.f f bt299.1 ((j : Int) - 348 - k + 1)).bind fun bt305 => (if bt305.2 = true then (if bt305.1 = (w : Int) then (some (bt299.1, (j : Int) - 348)) else (spec_l01Short.l0 f (w : Int) (decs N) ((j : Int) - 348) ((k + 1 : Nat) : Int))) else (spec_l01Short.l0 f (w : Int) (decs N) ((j : Int) - 348) ((k + 1 : Nat) : Int)))))) hr ?_
      have hf := fin (10 ^ (k - 1)) (j + 1) ((j : Int) - 348 + 1 - k + 1) (by unfold digK; rw [if_pos hc]) (by omega) (by omega) (by omega) hpk
      rw [show ((j + 1 : Nat) : Int) - 348 = (j : Int) - 348 + 1 by omega] at hf
      exact hf
    · rw [if_neg hc] at hr
      refine Ev.bind (f := fun f bt299 => (if bt299.2 = true then ((spec_l01Nearest.f f bt299.1 ((j : Int) - 348 + 1 - k + 1)).bind fun bt303 => (if bt303.2 = true then (if bt303.1 = (w : Int) then (some (bt299.1, (j : Int) - 348 + 1)) else (spec_l01Short.l0 f (w : Int) (decs N) ((j : Int) - 348) ((k + 1 : Nat) : Int))) else (spec_l01Short.l0 f (w : Int) (decs N) ((j : Int) - 348) ((k + 1 : Nat) : Int)))) else ((spec_l01Nearest.f f bt299.1 ((j : Int) - 348 - k + 1)).bind fun bt305 => (if bt305.2 = true then (if bt305.1 = (w : Int) then (some (bt299.1, (j : Int) - 348)) else (spec_l01Short.l0 f (w : Int) (decs N) ((j : Int) - 348) ((k + 1 : Nat) : Int))) else (spec_l01Short.l0 f (w : Int) (decs N) ((j : Int) - 348) ((k + 1 : Nat) : Int)))))) hr ?_
      have hlt : roundAt w (k + 695 - j) < 10 ^ k := by
        have hN : N < 10 ^ n := by have := lt_decs N; rwa [hnl] at this
        have hle : roundAt w (k + 695 - j) ≤ 10 ^ k := by
          rw [exact_round hrel hk1 (by omega) hj hj2]
          have hpp : 0 < 10 ^ (n - k) := Nat.pow_pos (by decide)
          apply rne_le hpp
          have : 10 ^ n = 10 ^ k * 10 ^ (n - k) := by rw [← Nat.pow_add]; exact congrArg (10 ^ ·) (by omega)
          rw [this] at hN
          rw [Nat.add_mul, Nat.mul_assoc]
          omega
        omega
      exact fin (roundAt w (k + 695 - j)) j ((j : Int) - 348 - k + 1) (by unfold digK; rw [if_neg hc]) (by omega) (by omega) (by omega) hlt

theorem short_l0 {w N p n j K : Nat} (hw0 : 0 < w) (hw : w < 2047 * 2 ^ 52) (hrel : N * one74 = wU w * 10 ^ p) (hn1 : 1 ≤ n) (hnl : (decs N).length = n) (hn2 : n ≤ 2000) (hlo : 10 ^ (n - 1) ≤ N) (hhi : N < 10 ^ n) (hp : p ≤ 1074)
    (hj : (j : Int) = n - 1 - p + 348) (hj1 : 17 ≤ j) (hj2 : j ≤ 695) (hK1 : 1 ≤ K) (hK2 : K ≤ 17) (hKn : K ≤ n) (hback : backK w K j = w) (hleast : ∀ k, 1 ≤ k → k < K → backK w k j ≠ w) :
    ∀ (g k : Nat), k + g = K → 1 ≤ k → Ev (fun f => spec_l01Short.l0 f (w : Int) (decs N) ((n : Int) - 1 - p) (k : Int)) (decs (digK w K j).1, ((digK w K j).2 : Int) - 348) := by
  intro g
  induction g with
  | zero =>
    intro k hg hk1
    have hkK : k = K := by omega
    subst hkK
    by_cases hkn : k = n
    · subst hkn
      obtain ⟨hd, _⟩ := exact_back hw hrel hn1 hhi hj hj2 (by omega)
      rw [hd]
      refine Ev.step (f := fun _ => some (decs N, (j : Int) - 348)) (fun f => ?_) (Ev.now _)
      simp only [spec_l01Short.l0]
      rw [if_pos (by omega), if_pos (by omega), show (k : Int) - 1 - p = (j : Int) - 348 by omega]
    · exact short_step hw hrel hnl hn2 hlo hp hj hj1 hj2 hk1 hK2 (by omega) _ (fun _ => rfl) (fun h => absurd hback h)
  | succ g ih =>
    intro k hg hk1
    exact short_step hw hrel hnl hn2 hlo hp hj hj1 hj2 hk1 (by omega) (by omega) _ (fun h => absurd h (hleast k hk1 (by omega))) (fun _ => ih (k + 1) (by omega) (by omega))

/-- The reference's shortest digits. -/
theorem short_ev {w : Nat} (hw0 : 0 < w) (hw : w < 2047 * 2 ^ 52) : ∃ K j : Nat, isW w j ∧ 17 ≤ j ∧ j ≤ 695 ∧ 1 ≤ K ∧ K ≤ 17 ∧ backK w K j = w ∧ (∀ k, 1 ≤ k → k < K → backK w k j ≠ w) ∧ (2 ≤ K → (digK w K j).1 % 10 ≠ 0) ∧
    Ev (fun f => spec_l01Short.f f (w : Int)) (decs (digK w K j).1, ((digK w K j).2 : Int) - 348) := by
  obtain ⟨N, p, hev, hrel, hN0, hNl, hp⟩ := exact_ev hw0 hw
  obtain ⟨n, hn⟩ : ∃ n, (decs N).length = n := ⟨_, rfl⟩
  have hn1 : 1 ≤ n := by
    apply Nat.pos_of_ne_zero
    intro h
    rw [h] at hn
    have := decs_nil.1 (List.eq_nil_of_length_eq_zero hn)
    omega
  have hlo := decs_ge (n := N) (by omega)
  have hhi := lt_decs N
  rw [hn] at hlo hhi hNl
  -- the weight lies in its bounds
  have hx : wordE N (-(p : Int)) = w := by
    unfold wordE
    rw [show (-(p : Int)).toNat = 0 by omega, Nat.pow_zero, Nat.mul_one, Int.neg_neg, Int.toNat_natCast]
    exact Eq.trans (word_eq (Nat.pow_pos (by decide)) one74_pos hrel) (word_exact hw)
  have hbd : -331 ≤ (n : Int) - 1 - p ∧ (n : Int) - 1 - p ≤ 309 := by
    constructor
    · apply Classical.byContradiction
      intro hc
      have h0 := wordE_small (n := N) (s := n) (e := -(p : Int)) hhi (by omega)
      omega
    · apply Classical.byContradiction
      intro hc
      have h0 := wordE_great (n := N) (s := n) (e := -(p : Int)) hn1 hlo (by omega)
      omega
  obtain ⟨j, hj⟩ : ∃ j : Nat, (j : Int) = n - 1 - p + 348 := ⟨(n - 1 - p + 348 : Int).toNat, by omega⟩
  have hW := exact_isW hrel hn1 hlo hhi hj
  obtain ⟨K, k1, k2, k3, k4, k5⟩ := back_least hw0 hw (by omega) (by omega) hW
  have hKn : K ≤ n := by
    apply Nat.le_of_not_lt
    intro h
    exact k4 n hn1 h (exact_back hw hrel hn1 hhi hj (by omega) (by omega)).2
  refine ⟨K, j, hW, by omega, by omega, k1, k2, k3, k4, k5, ?_⟩
  have hev2 := short_l0 hw0 hw hrel hn1 hn hNl hlo hhi hp hj (by omega) (by omega) k1 k2 hKn k3 k4 (K - 1) 1 (by omega) (by omega)
  refine Ev.congr (fun f => ?_) (Ev.bind (f := fun f bt295 => spec_l01Short.l0 f (w : Int) bt295.1 (wrap64 ((wrap64 ((bt295.1.length : Int) - 1)) - bt295.2)) 1) hev (Ev.congr (fun f => ?_) hev2))
  · rfl
  · rw [hn, wrap64_of (x := (n : Int) - 1) (by omega) (by omega), wrap64_of (by omega) (by omega)]
    rfl
end Go.Proofs.YtlblkajnmdhmdaaGreatDoor.NB
