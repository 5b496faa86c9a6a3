/-
  Plain law over the printed functions: l01Exact writes the decimal digits of a word's value.
-/
import Derived.Test.YtlblkajnmdhmdaaGreatDoorZNBig4
namespace Go.Proofs.YtlblkajnmdhmdaaGreatDoor.NB
set_option linter.unusedVariables false
open Go Go.RowKit Go.Proofs.YtlblkajnmdhmdaaGreatDoor.PFormatNumber Go.Proofs.YtlblkajnmdhmdaaGreatDoorW.PrintWords Go.Proofs.YtlblkajnmdhmdaaGreatDoorW.PrintLast Go.Proofs.YtlblkajnmdhmdaaGreatDoorW.PrintMore Go.Proofs.YtlblkajnmdhmdaaGreatDoor.NU

theorem tdiv_nat (a b : Nat) : Int.tdiv (a : Int) (b : Int) = ((a / b : Nat) : Int) := by rw [Int.tdiv_eq_ediv_of_nonneg (by omega)]; exact (Int.natCast_ediv a b).symm
theorem tmod_nat (a b : Nat) : Int.tmod (a : Int) (b : Int) = ((a % b : Nat) : Int) := by rw [Int.tmod_eq_emod_of_nonneg (by omega)]; exact (Int.natCast_emod a b).symm
theorem tdiv_10000 (a : Nat) : Int.tdiv (a : Int) 10000 = ((a / 10000 : Nat) : Int) := tdiv_nat a 10000
theorem tmod_10000 (a : Nat) : Int.tmod (a : Int) 10000 = ((a % 10000 : Nat) : Int) := tmod_nat a 10000
theorem tdiv_2 (a : Nat) : Int.tdiv (a : Int) 2 = ((a / 2 : Nat) : Int) := tdiv_nat a 2
theorem tmod_2 (a : Nat) : Int.tmod (a : Int) 2 = ((a % 2 : Nat) : Int) := tmod_nat a 2
theorem tmod_10 (a : Nat) : Int.tmod (a : Int) 10 = ((a % 10 : Nat) : Int) := tmod_nat a 10
theorem tmod_52 (a : Nat) : Int.tmod (a : Int) 4503599627370496 = ((a % 4503599627370496 : Nat) : Int) := tmod_nat a 4503599627370496
theorem tdiv_52 (a : Nat) : Int.tdiv (a : Int) 4503599627370496 = ((a / 4503599627370496 : Nat) : Int) := tdiv_nat a 4503599627370496
theorem tmod_2048 (a : Nat) : Int.tmod (a : Int) 2048 = ((a % 2048 : Nat) : Int) := tmod_nat a 2048

/-! ### l01Parts -/
theorem parts_at {w : Nat} (hw : w < 2047 * 2 ^ 52) : spec_l01Parts.f (w : Int) = some ((wM w : Int), (wE w : Int) - 1074) := by
  have hp : (2 : Nat) ^ 52 = 4503599627370496 := by decide
  rw [hp] at hw
  unfold spec_l01Parts.f wM wE
  rw [hp, tdiv_52, tmod_52]
  obtain ⟨q, hq⟩ : ∃ q, w / 4503599627370496 = q := ⟨_, rfl⟩
  obtain ⟨r, hr⟩ : ∃ r, w % 4503599627370496 = r := ⟨_, rfl⟩
  have hq2 : q < 2047 := by omega
  have hr2 : r < 4503599627370496 := by omega
  have hw2 : w = 4503599627370496 * q + r := by omega
  rw [hq, hr, IntKind.wrap_u64, show ((q : Nat) : Int) % 18446744073709551616 = (q : Int) by omega, tmod_2048, show q % 2048 = q by omega, wrap64_of (x := (q : Int)) (by omega) (by omega), wrap64_of (x := (r : Int)) (by omega) (by omega)]
  by_cases h0 : q = 0
  · subst h0
    rw [if_pos (by omega), if_pos rfl]
    congr 2
    omega
  · rw [if_neg (by omega), if_neg h0, wrap64_of (by omega) (by omega), wrap64_of (by omega) (by omega)]
    congr 2
    omega

/-! ### l01Of -/
theorem of_l0 (v : Nat) : ∀ out : List Int, v < 9223372036854775808 → out.length + (dig v).length ≤ 1000000 → Ev (fun k => spec_l01Of.l0 k (v : Int) out) (out ++ dig v) := by
  induction v using Nat.strongRecOn with
  | ind v ih =>
    intro out hv hl
    by_cases h0 : v = 0
    · subst h0
      rw [dig_zero, List.append_nil]
      refine Ev.step (f := fun _ => some out) (fun k => ?_) (Ev.now _)
      simp only [spec_l01Of.l0]
      rw [if_neg (by omega)]
    · rw [dig_pos h0] at hl ⊢
      rw [List.length_cons] at hl
      refine Ev.step (f := fun k => spec_l01Of.l0 k ((v / 10000 : Nat) : Int) (out ++ [((v % 10000 : Nat) : Int)])) (fun k => ?_) ?_
      · simp only [spec_l01Of.l0]
        rw [if_pos (by omega), if_pos (by omega), tdiv_10000, tmod_10000, wrap64_of (by omega) (by omega)]
      · have := ih (v / 10000) (by omega) (out ++ [((v % 10000 : Nat) : Int)]) (by omega) (by rw [List.length_append]; simp; omega)
        rw [List.append_assoc] at this
        exact this
theorem of_ev {v : Nat} (hv : v < 9223372036854775808) : Ev (fun k => spec_l01Of.f k (v : Int)) (dig v) := by
  have hl := dlen_two (n := v) (B := 63) (by omega)
  exact of_l0 v [] hv (by simp; omega)

/-! ### l01Exact -/
/-- The decimal digits of a number as signs, none for 0. -/
def decs (n : Nat) : List Int := if h : n = 0 then [] else decs (n / 10) ++ [((48 + n % 10 : Nat) : Int)]
termination_by n
decreasing_by omega
theorem decs_zero : decs 0 = [] := by unfold decs; simp
theorem decs_pos {n : Nat} (h : n ≠ 0) : decs n = decs (n / 10) ++ [((48 + n % 10 : Nat) : Int)] := by rw [decs, dif_neg h]
theorem decs_ten {a d : Nat} (hd : d < 10) (h : a ≠ 0 ∨ d ≠ 0) : decs (a * 10 + d) = decs a ++ [((48 + d : Nat) : Int)] := by
  rw [decs_pos (by omega), show (a * 10 + d) / 10 = a by omega, show (a * 10 + d) % 10 = d by omega]
theorem decs_nil {n : Nat} : decs n = [] ↔ n = 0 := by
  constructor
  · intro h
    apply Classical.byContradiction
    intro h0
    rw [decs_pos h0] at h
    simp at h
  · rintro rfl; exact decs_zero
theorem ad_decs (n : Nat) : AD (decs n) := by
  induction n using Nat.strongRecOn with
  | ind n ih =>
    by_cases h : n = 0
    · subst h; rw [decs_zero]; intro x hx; cases hx
    · rw [decs_pos h]
      intro x hx
      rcases List.mem_append.1 hx with hx | hx
      · exact ih _ (by omega) x hx
      · rcases List.mem_cons.1 hx with rfl | hx
        · omega
        · cases hx
theorem dv_decs (n : Nat) : dv (decs n) = n := by
  induction n using Nat.strongRecOn with
  | ind n ih =>
    by_cases h : n = 0
    · subst h; rw [decs_zero]; rfl
    · rw [decs_pos h, dv_snoc, ih _ (by omega)]
      omega
theorem decs_length {n t : Nat} (h : n < 10 ^ t) : (decs n).length ≤ t := by
  induction t generalizing n with
  | zero =>
    have : n = 0 := by simp at h; exact h
    subst this; rw [decs_zero]; exact Nat.le_refl _
  | succ t ih =>
    by_cases h0 : n = 0
    · subst h0; rw [decs_zero]; exact Nat.zero_le _
    · rw [decs_pos h0, List.length_append]
      have := ih (n := n / 10) (by rw [Nat.pow_succ] at h; omega)
      simp
      omega
theorem lt_decs (n : Nat) : n < 10 ^ (decs n).length := by
  have := dv_lt (ad_decs n)
  rwa [dv_decs] at this
theorem decs_ge {n : Nat} (h : n ≠ 0) : 10 ^ ((decs n).length - 1) ≤ n := by
  apply Nat.le_of_not_lt
  intro hlt
  have := decs_length hlt
  have hne : (decs n).length ≠ 0 := fun hh => h (decs_nil.1 (List.eq_nil_of_length_eq_zero hh))
  omega

/-- One sign more, if it is no leading 0. -/
theorem exact_sign {x p j a : Nat} {k : Nat} {L : List Int} {pt i : Int} (hx : x < 10000) (hp : p ∈ [1000, 100, 10, 1]) (hi0 : 0 ≤ i) (hil : i < (L.length : Int)) (hrd : rd L i = (x : Int)) (hj : j < 4) (hpj : rd ([1000, 100, 10, 1] : List Int) (j : Int) = (p : Int)) (hlen : (decs a).length ≤ 1000000) :
    spec_l01Exact.l3 (k + 1) L pt (decs a) i [1000, 100, 10, 1] 4 (j : Int) = spec_l01Exact.l3 k L pt (decs (a * 10 + x / p % 10)) i [1000, 100, 10, 1] 4 ((j + 1 : Nat) : Int) := by
  have hp0 : 0 < p ∧ p ≤ 1000 := by
    rcases List.mem_cons.1 hp with rfl | hp
    · omega
    · rcases List.mem_cons.1 hp with rfl | hp
      · omega
      · rcases List.mem_cons.1 hp with rfl | hp
        · omega
        · rcases List.mem_cons.1 hp with rfl | hp
          · omega
          · cases hp
  have hxp : x / p ≤ x := Nat.div_le_self _ _
  obtain ⟨y, hy⟩ : ∃ y, x / p = y := ⟨_, rfl⟩
  rw [hy] at hxp ⊢
  obtain ⟨d, hd⟩ : ∃ d, y % 10 = d := ⟨_, rfl⟩
  have hd10 : d < 10 := by omega
  have hc : (wrap64 (48 + (Int.tmod (wrap64 (Int.tdiv (rd L i) (rd ([1000, 100, 10, 1] : List Int) (j : Int)))) 10))) % 256 = ((48 + d : Nat) : Int) := by
    rw [hrd, hpj, tdiv_nat, hy, wrap64_of (x := (y : Int)) (by omega) (by omega), tmod_10, hd, wrap64_of (by omega) (by omega)]
    omega
  simp only [spec_l01Exact.l3]
  rw [if_pos (by omega), if_pos (by omega), if_pos (by simp; omega), if_pos hi0, if_pos hil, if_neg (by rw [hpj]; omega), hc, hd, wrap64_of (x := (j : Int) + 1) (by omega) (by omega)]
  by_cases ha : a = 0
  · subst ha
    rw [decs_zero, if_neg (by simp)]
    by_cases hd0 : d = 0
    · subst hd0
      rw [if_pos (by omega), Nat.zero_mul, Nat.zero_add, decs_zero]
      rfl
    · rw [if_neg (by omega), if_pos (by simp), decs_ten hd10 (Or.inr hd0), decs_zero]
      rfl
  · have : (decs a).length ≠ 0 := fun hh => ha (decs_nil.1 (List.eq_nil_of_length_eq_zero hh))
    rw [if_pos (by omega), if_pos (by omega), decs_ten hd10 (Or.inl ha)]
    rfl
theorem decs_mono {a b : Nat} (h : a ≤ b) : (decs a).length ≤ (decs b).length := decs_length (Nat.lt_of_le_of_lt h (lt_decs b))

theorem exact_l2 (L : List Int) (pt : Int) (hL : Dg L) (hb : L.length ≤ 1000000) (hbd : (decs (val L)).length ≤ 1000000) : ∀ j : Nat, j ≤ L.length → Ev (fun k => spec_l01Exact.l2 k L pt (decs (val (L.drop j))) ((j : Int) - 1)) (decs (val L), pt) := by
  intro j
  induction j with
  | zero =>
    intro _
    refine Ev.step (f := fun _ => some (decs (val L), pt)) (fun k => ?_) (Ev.now _)
    simp only [spec_l01Exact.l2]
    rw [if_neg (by omega), List.drop_zero]
  | succ j ih =>
    intro hj
    have hj1 : j < L.length := by omega
    rw [show ((j + 1 : Nat) : Int) - 1 = (j : Int) by omega]
    have r1 := hL (rd L (j : Int)) (by rw [rd_at hj1]; exact List.getElem_mem _)
    obtain ⟨x, hx⟩ : ∃ x : Nat, rd L (j : Int) = x := ⟨(rd L (j : Int)).toNat, by omega⟩
    rw [hx] at r1
    obtain ⟨a, ha⟩ : ∃ a, val (L.drop (j + 1)) = a := ⟨_, rfl⟩
    have hvL : val (L.drop j) = x + 10000 * a := by rw [drop_at hj1, val_cons, hx, ha, Int.toNat_natCast]
    have hle : val (L.drop j) ≤ val L := by
      have := val_append (L.take j) (L.drop j)
      rw [List.take_append_drop] at this
      have h1 : 1 * val (L.drop j) ≤ 10000 ^ (L.take j).length * val (L.drop j) := Nat.mul_le_mul_right _ (Nat.pow_pos (by decide))
      omega
    have hlen : ∀ b, b ≤ val (L.drop j) → (decs b).length ≤ 1000000 := fun b hb => Nat.le_trans (decs_mono (Nat.le_trans hb hle)) hbd
    rw [hvL] at hlen
    rw [ha]
    refine Ev.step (f := fun k => spec_l01Exact.l3 k L pt (decs a) (j : Int) [1000, 100, 10, 1] 4 ((0 : Nat) : Int)) (fun k => ?_) ?_
    · simp only [spec_l01Exact.l2, Option.bind_some]
      rw [if_pos (by omega)]
      rfl
    · refine Ev.step (fun k => exact_sign (p := 1000) (by omega) (by simp) (by omega) (by omega) hx (by omega) rfl (hlen a (by omega))) ?_
      refine Ev.step (fun k => exact_sign (p := 100) (by omega) (by simp) (by omega) (by omega) hx (by omega) rfl (hlen _ (by omega))) ?_
      refine Ev.step (fun k => exact_sign (p := 10) (by omega) (by simp) (by omega) (by omega) hx (by omega) rfl (hlen _ (by omega))) ?_
      refine Ev.step (fun k => exact_sign (p := 1) (by omega) (by simp) (by omega) (by omega) hx (by omega) rfl (hlen _ (by omega))) ?_
      have hfin : ((((a * 10 + x / 1000 % 10) * 10 + x / 100 % 10) * 10 + x / 10 % 10) * 10 + x / 1 % 10) = val (L.drop j) := by rw [hvL]; omega
      rw [hfin]
      refine Ev.step (f := fun k => spec_l01Exact.l2 k L pt (decs (val (L.drop j))) ((j : Int) - 1)) (fun k => ?_) (ih (by omega))
      simp only [spec_l01Exact.l3]
      rw [if_neg (by omega), wrap64_of (by omega) (by omega)]

theorem exact_l1 {B : Nat} (hB : B ≤ 10000) (g : Nat) : ∀ (n : Nat) (pt : Nat), g ≤ 2000 → pt + g ≤ 100000 → n * 5 ^ g < 2 ^ B → Ev (fun k => spec_l01Exact.l1 k (-(g : Int)) (dig n) (pt : Int)) (decs (n * 5 ^ g), ((pt + g : Nat) : Int)) := by
  induction g with
  | zero =>
    intro n pt _ _ hn
    rw [Nat.pow_zero, Nat.mul_one] at hn ⊢
    have hl := dlen_two hn
    have hd : (decs n).length ≤ B := decs_length (Nat.lt_of_lt_of_le hn (Nat.pow_le_pow_left (by decide) _))
    refine Ev.step (f := fun k => spec_l01Exact.l2 k (dig n) (pt : Int) [] (((dig n).length : Int) - 1)) (fun k => ?_) ?_
    · simp only [spec_l01Exact.l1]
      rw [if_neg (by omega), wrap64_of (by omega) (by omega)]
    · have h := exact_l2 (dig n) (pt : Int) (dg_dig n) (by omega) (by rw [val_dig]; omega) (dig n).length (Nat.le_refl _)
      rw [List.drop_length, show val [] = 0 from rfl, decs_zero, val_dig] at h
      exact h
  | succ g ih =>
    intro n pt hg hp hn
    have e1 : n * 5 ^ (g + 1) = n * 5 * 5 ^ g := by rw [Nat.pow_succ]; grind
    have hl := dlen_two (Nat.lt_of_le_of_lt (Nat.le_mul_of_pos_right n (Nat.pow_pos (by decide) : 0 < 5 ^ (g + 1))) hn)
    rw [e1] at hn ⊢
    refine Ev.step (f := fun k => (spec_l01Times.f k (dig n) 5 0).bind fun t251 => (spec_l01Exact.l1 k (-(g : Int)) t251 ((pt + 1 : Nat) : Int))) (fun k => ?_) ?_
    · simp only [spec_l01Exact.l1]
      rw [if_pos (by omega), wrap64_of (x := -((g + 1 : Nat) : Int) + 1) (by omega) (by omega), wrap64_of (by omega) (by omega)]
      rw [show -((g + 1 : Nat) : Int) + 1 = -(g : Int) by omega]
      rfl
    · have h := ih (n * 5) (pt + 1) (by omega) (by omega) hn
      rw [show pt + 1 + g = pt + (g + 1) by omega] at h
      exact Ev.bind (f := fun k t251 => spec_l01Exact.l1 k (-(g : Int)) t251 ((pt + 1 : Nat) : Int)) (times_5 (by omega)) h

theorem exact_j1 {m : Nat} {e : Int} (hm : m < 2 ^ 53) (he1 : -1074 ≤ e) (he2 : e ≤ 971) : ∃ N p : Nat, Ev (fun k => spec_l01Exact.j1 k (m : Int) e) (decs N, (p : Int)) ∧ N = m * 2 ^ e.toNat * 5 ^ (-e).toNat ∧ p = (-e).toNat ∧ (decs N).length ≤ 2000 := by
  have hm2 := of_ev (v := m) (by omega)
  have e53 : (2 : Nat) ^ 53 ≤ 10 ^ 16 := by decide
  by_cases h0 : 0 ≤ e
  · obtain ⟨g, rfl⟩ : ∃ g : Nat, e = g := ⟨e.toNat, by omega⟩
    have hB : m * 2 ^ g < 2 ^ (53 + g) := by rw [Nat.pow_add]; exact Nat.mul_lt_mul_of_pos_right hm (Nat.two_pow_pos _)
    have hl := dlen_two hB
    refine ⟨m * 2 ^ g, 0, ?_, by rw [Int.toNat_natCast, show (-(g : Int)).toNat = 0 by omega, Nat.pow_zero, Nat.mul_one], by omega, ?_⟩
    · refine Ev.step (f := fun k => (spec_l01Of.f k (m : Int)).bind fun t245 => ((spec_l01Two.f k t245 (g : Int)).bind fun t248 => (spec_l01Exact.j2 k (g : Int) t248 0))) (fun k => ?_) ?_
      · simp only [spec_l01Exact.j1]
        simp only [if_pos (show (g : Int) ≥ 0 by omega)]
      · refine Ev.bind (f := fun k t245 => (spec_l01Two.f k t245 (g : Int)).bind fun t248 => (spec_l01Exact.j2 k (g : Int) t248 0)) hm2 ?_
        refine Ev.bind (f := fun k t248 => spec_l01Exact.j2 k (g : Int) t248 0) (two_ev g m (by omega) (by omega)) ?_
        refine Ev.step (f := fun k => spec_l01Exact.l1 k (g : Int) (dig (m * 2 ^ g)) 0) (fun k => ?_) ?_
        · simp only [spec_l01Exact.j2]
        · have hd : (decs (m * 2 ^ g)).length ≤ 53 + g := decs_length (Nat.lt_of_lt_of_le hB (Nat.pow_le_pow_left (by decide) _))
          refine Ev.step (f := fun k => spec_l01Exact.l2 k (dig (m * 2 ^ g)) 0 [] (((dig (m * 2 ^ g)).length : Int) - 1)) (fun k => ?_) ?_
          · simp only [spec_l01Exact.l1]
            rw [if_neg (by omega), wrap64_of (by omega) (by omega)]
          · have h := exact_l2 (dig (m * 2 ^ g)) 0 (dg_dig _) (by omega) (by rw [val_dig]; omega) (dig (m * 2 ^ g)).length (Nat.le_refl _)
            rw [List.drop_length, show val [] = 0 from rfl, decs_zero, val_dig] at h
            exact h
    · exact Nat.le_trans (decs_length (Nat.lt_of_lt_of_le hB (Nat.pow_le_pow_left (by decide) _))) (by omega)
  · obtain ⟨g, rfl⟩ : ∃ g : Nat, e = -(g : Int) := ⟨(-e).toNat, by omega⟩
    have hg : (-(-(g : Int))).toNat = g := by omega
    have hB : m * 5 ^ g < 10 ^ (53 + g) := by
      rw [Nat.pow_add]
      exact Nat.mul_lt_mul_of_lt_of_le (Nat.lt_of_lt_of_le hm (Nat.pow_le_pow_left (by decide) _)) (Nat.pow_le_pow_left (by decide) _) (Nat.pow_pos (by decide))
    refine ⟨m * 5 ^ g, g, ?_, by rw [hg, show (-(g : Int)).toNat = 0 by omega, Nat.pow_zero, Nat.mul_one], hg.symm, Nat.le_trans (decs_length hB) (by omega)⟩
    refine Ev.step (f := fun k => (spec_l01Of.f k (m : Int)).bind fun t245 => (spec_l01Exact.j2 k (-(g : Int)) t245 0)) (fun k => ?_) ?_
    · simp only [spec_l01Exact.j1]
      simp only [if_neg (show ¬ (-(g : Int)) ≥ 0 by omega)]
    · refine Ev.bind (f := fun k t245 => spec_l01Exact.j2 k (-(g : Int)) t245 0) hm2 ?_
      refine Ev.step (f := fun k => spec_l01Exact.l1 k (-(g : Int)) (dig m) 0) (fun k => ?_) ?_
      · simp only [spec_l01Exact.j2]
      · have h2 : m * 5 ^ g < 2 ^ (4 * (53 + g)) := Nat.lt_of_lt_of_le hB (ten_two _)
        have h := exact_l1 (by omega) g m 0 (by omega) (by omega) h2
        rw [Nat.zero_add] at h
        exact h

theorem exact_l0 (g : Nat) : ∀ (m : Nat) (e : Int), e + g = 0 ∨ (g = 0 ∧ 0 ≤ e) → m < 2 ^ 53 → 0 < m → -1074 ≤ e → e ≤ 971 →
    ∃ N p i : Nat, Ev (fun k => spec_l01Exact.l0 k (m : Int) e) (decs N, (p : Int)) ∧ 2 ^ i * N = m * 2 ^ (e + i).toNat * 5 ^ (-(e + i)).toNat ∧ (p : Int) = (-(e + i)).toNat ∧ (decs N).length ≤ 2000 := by
  induction g with
  | zero =>
    intro m e hg hm hm0 he1 he2
    obtain ⟨N, p, hev, h1, h2, h3⟩ := exact_j1 hm he1 he2
    refine ⟨N, p, 0, Ev.step (f := fun k => spec_l01Exact.j1 k (m : Int) e) (fun k => ?_) hev, by rw [Nat.pow_zero, Nat.one_mul, h1]; simp, by simp; omega, h3⟩
    simp only [spec_l01Exact.l0]
    rw [if_neg (by omega)]
  | succ g ih =>
    intro m e hg hm hm0 he1 he2
    by_cases hev : m % 2 = 0
    · obtain ⟨N, p, i, he, h1, h2, h3⟩ := ih (m / 2) (e + 1) (by omega) (by omega) (by omega) (by omega) (by omega)
      refine ⟨N, p, i + 1, Ev.step (f := fun k => spec_l01Exact.l0 k ((m / 2 : Nat) : Int) (e + 1)) (fun k => ?_) he, ?_, ?_, h3⟩
      · simp only [spec_l01Exact.l0]
        rw [if_pos (by omega), tmod_2, if_pos (by omega), if_pos (by omega), tdiv_2, wrap64_of (x := ((m / 2 : Nat) : Int)) (by omega) (by omega), wrap64_of (by omega) (by omega)]
      · rw [show e + ((i + 1 : Nat) : Int) = e + 1 + i by omega, Nat.pow_succ, show m = m / 2 * 2 by omega]
        calc 2 ^ i * 2 * N = 2 * (2 ^ i * N) := by grind
          _ = m / 2 * 2 * 2 ^ (e + 1 + (i : Int)).toNat * 5 ^ (-(e + 1 + (i : Int))).toNat := by rw [h1]; grind
      · rw [h2]; omega
    · obtain ⟨N, p, hev2, h1, h2, h3⟩ := exact_j1 hm he1 he2
      refine ⟨N, p, 0, Ev.step (f := fun k => spec_l01Exact.j1 k (m : Int) e) (fun k => ?_) hev2, by rw [Nat.pow_zero, Nat.one_mul, h1]; simp, by simp; omega, h3⟩
      simp only [spec_l01Exact.l0]
      rw [if_pos (by omega), tmod_2, if_neg (by omega)]

/-- The exact digits of a word's value. -/
theorem exact_ev {w : Nat} (hw0 : 0 < w) (hw : w < 2047 * 2 ^ 52) : ∃ N p : Nat, Ev (fun k => spec_l01Exact.f k (w : Int)) (decs N, (p : Int)) ∧ N * one74 = wU w * 10 ^ p ∧ 0 < N ∧ (decs N).length ≤ 2000 ∧ p ≤ 1074 := by
  have hm0 : 0 < wM w := by
    apply Nat.pos_of_ne_zero
    intro h0
    have h := wEM w
    by_cases h1 : 0 < wE w
    · have := wM_ge h1; omega
    · omega
  have hE : wE w ≤ 2045 := by
    unfold wE
    have : w / 2 ^ 52 < 2047 := (Nat.div_lt_iff_lt_mul (by decide)).2 hw
    omega
  obtain ⟨E, hEe⟩ : ∃ E, wE w = E := ⟨_, rfl⟩
  rw [hEe] at hE
  obtain ⟨N, p, i, hev, h1, h2, h3⟩ := exact_l0 (1074 - E) (wM w) ((E : Int) - 1074) (by omega) (wM_lt w) hm0 (by omega) (by omega)
  have hrel : N * one74 = wU w * 10 ^ p := by
    unfold wU
    rw [hEe, one74_eq]
    apply Nat.eq_of_mul_eq_mul_left (Nat.two_pow_pos i)
    have hp : (10 : Nat) ^ p = 2 ^ p * 5 ^ p := by rw [← Nat.mul_pow]
    have hk : 2 ^ ((E : Int) - 1074 + i).toNat * 2 ^ e74 = 2 ^ i * 2 ^ E * 2 ^ p := by
      rw [← Nat.pow_add, ← Nat.pow_add, ← Nat.pow_add]
      exact congrArg (2 ^ ·) (by rw [e74_eq]; omega)
    have hp5 : (-((E : Int) - 1074 + i)).toNat = p := by omega
    rw [hp5] at h1
    obtain ⟨K, hK⟩ : ∃ K : Nat, 2 ^ e74 = K := ⟨_, rfl⟩
    rw [hK] at hk ⊢
    rw [hp]
    clear hK
    calc 2 ^ i * (N * K) = 2 ^ i * N * K := (Nat.mul_assoc _ _ _).symm
      _ = wM w * 5 ^ p * (2 ^ ((E : Int) - 1074 + i).toNat * K) := by rw [h1]; grind
      _ = 2 ^ i * (wM w * 2 ^ E * (2 ^ p * 5 ^ p)) := by rw [hk]; grind
  refine ⟨N, p, ?_, hrel, ?_, h3, by omega⟩
  · refine Ev.congr (fun k => ?_) hev
    unfold spec_l01Exact.f
    rw [parts_at hw, hEe]
    rfl
  · apply Nat.pos_of_ne_zero
    rintro rfl
    rw [Nat.zero_mul] at hrel
    have : 0 < wU w * 10 ^ p := Nat.mul_pos (by unfold wU; exact Nat.mul_pos hm0 (Nat.two_pow_pos _)) (Nat.pow_pos (by decide))
    omega
end Go.Proofs.YtlblkajnmdhmdaaGreatDoor.NB
