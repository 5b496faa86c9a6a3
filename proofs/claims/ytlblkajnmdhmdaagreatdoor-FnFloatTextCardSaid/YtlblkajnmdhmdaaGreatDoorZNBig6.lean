/-
  Plain law over the printed functions: l01Round rounds half to even.
-/
import Derived.Test.YtlblkajnmdhmdaaGreatDoorZNBig5
import Derived.Test.YtlblkajnmdhmdaaGreatDoorZSRound
namespace Go.Proofs.YtlblkajnmdhmdaaGreatDoor.NB
set_option linter.unusedVariables false
open Go Go.RowKit Go.Proofs.YtlblkajnmdhmdaaGreatDoor.PFormatNumber Go.Proofs.YtlblkajnmdhmdaaGreatDoorW.PrintWords Go.Proofs.YtlblkajnmdhmdaaGreatDoorW.PrintLast Go.Proofs.YtlblkajnmdhmdaaGreatDoorW.PrintMore Go.Proofs.YtlblkajnmdhmdaaGreatDoor.NU

theorem snoc_of {l : List Int} {n : Nat} (h : l.length = n + 1) : ∃ l' x, l = l' ++ [x] ∧ l'.length = n := by
  have hne : l ≠ [] := by rintro rfl; simp at h
  exact ⟨l.dropLast, l.getLast hne, (List.dropLast_concat_getLast hne).symm, by rw [List.length_dropLast]; omega⟩
theorem dv_append (l r : List Int) : dv (l ++ r) = dv l * 10 ^ r.length + dv r := by
  have : ∀ (n : Nat) (r : List Int), r.length = n → dv (l ++ r) = dv l * 10 ^ n + dv r := by
    intro n
    induction n with
    | zero =>
      intro r hr
      have : r = [] := List.eq_nil_of_length_eq_zero hr
      subst this
      simp [dv]
    | succ n ih =>
      intro r hr
      obtain ⟨r', x, rfl, hr'⟩ := snoc_of hr
      rw [← List.append_assoc, dv_snoc, dv_snoc, ih r' hr', Nat.pow_succ]
      grind
  exact this _ r rfl
/-- Digits with no leading 0 are their number's digits. -/
theorem decs_dv : ∀ (n : Nat) (l : List Int), l.length = n + 1 → AD l → 10 ^ n ≤ dv l → decs (dv l) = l := by
  intro n
  induction n with
  | zero =>
    intro l hl ha hv
    obtain ⟨l', x, rfl, hl'⟩ := snoc_of hl
    have : l' = [] := List.eq_nil_of_length_eq_zero hl'
    subst this
    have hx := ha x (by simp)
    rw [List.nil_append] at hv ⊢
    have e : dv [x] = (x - 48).toNat := by
      have := dv_snoc [] x
      rw [List.nil_append] at this
      rw [this]; simp [dv]
    rw [e] at hv ⊢
    rw [decs_pos (by omega), show (x - 48).toNat / 10 = 0 by omega, decs_zero, List.nil_append, show ((48 + (x - 48).toNat % 10 : Nat) : Int) = x by omega]
  | succ n ih =>
    intro l hl ha hv
    obtain ⟨l', x, rfl, hl'⟩ := snoc_of hl
    have hx := ha x (by simp)
    have ha' : AD l' := fun y hy => ha y (List.mem_append_left _ hy)
    rw [dv_snoc] at hv ⊢
    rw [Nat.pow_succ] at hv
    have hv' : 10 ^ n ≤ dv l' := by omega
    have hp : 0 < 10 ^ n := Nat.pow_pos (by decide)
    have hi := ih l' hl' ha' hv'
    rw [decs_ten (by omega) (Or.inl (by omega)), hi, show ((48 + (x - 48).toNat : Nat) : Int) = x by omega]

theorem ad_append {l r : List Int} (h : AD l) (k : AD r) : AD (l ++ r) := fun x hx => by
  rcases List.mem_append.1 hx with hx | hx
  · exact h x hx
  · exact k x hx
theorem ad_one {x : Int} (h0 : 48 ≤ x) (h : x ≤ 57) : AD [x] := fun y hy => by
  rcases List.mem_cons.1 hy with rfl | hy
  · exact ⟨h0, h⟩
  · cases hy
theorem ad_drop {l : List Int} (h : AD l) (n : Nat) : AD (l.drop n) := fun x hx => h x (List.mem_of_mem_drop hx)
theorem dv_zeros (n : Nat) : dv (List.replicate n 48) = 0 := by
  induction n with
  | zero => rfl
  | succ n ih =>
    rw [List.replicate_succ', dv_snoc, ih]
    decide
theorem ad_zeros (n : Nat) : AD (List.replicate n 48) := fun x hx => by
  have := (List.mem_replicate.1 hx).2
  omega
theorem dv_one (x : Int) : dv [x] = (x - 48).toNat := by
  have := dv_snoc [] x
  rw [List.nil_append] at this
  rw [this]; simp [dv]
theorem dv_cons (x : Int) (l : List Int) : dv (x :: l) = (x - 48).toNat * 10 ^ l.length + dv l := by
  have := dv_append [x] l
  rw [List.singleton_append, dv_one] at this
  exact this
/-- A row of digits is worth 0 if all are 0. -/
theorem dv_eq_zero {l : List Int} (h : AD l) : dv l = 0 ↔ ∀ x ∈ l, x = 48 := by
  induction l with
  | nil => simp [dv]
  | cons x l ih =>
    have hx := h x (List.mem_cons_self ..)
    have hl : AD l := fun y hy => h y (List.mem_cons_of_mem _ hy)
    have hp : 0 < 10 ^ l.length := Nat.pow_pos (by decide)
    rw [dv_cons]
    constructor
    · intro h0
      have h1 : (x - 48).toNat * 10 ^ l.length = 0 := by omega
      have h2 : (x - 48).toNat = 0 := by
        rcases Nat.mul_eq_zero.1 h1 with h | h <;> omega
      intro y hy
      rcases List.mem_cons.1 hy with rfl | hy
      · omega
      · exact (ih hl).1 (by omega) y hy
    · intro ha
      have h1 := ha x (List.mem_cons_self ..)
      have h2 := (ih hl).2 (fun y hy => ha y (List.mem_cons_of_mem _ hy))
      rw [h1, h2]
      simp

/-! ### l01Round -/
theorem round_l1 (kk : Nat) (hk : 1 ≤ kk) (hk2 : kk ≤ 100000) (l : List Int) (hl : AD l) (hlen : l.length = kk) : ∀ j : Nat, j ≤ kk → (∀ i, j ≤ i → i < kk → rd l (i : Int) = 57) →
    ∃ D : List Int, ∃ b : Bool, Ev (fun k => spec_l01Round.l1 k (kk : Int) (l.take j ++ List.replicate (kk - j) 48) true ((j : Int) - 1)) (D, b) ∧ AD D ∧ D.length = kk ∧ (b = false → dv D = dv l + 1) ∧ (b = true → dv l + 1 = 10 ^ kk ∧ dv D = 10 ^ (kk - 1)) := by
  intro j
  induction j with
  | zero =>
    intro _ h9
    rw [List.take_zero, List.nil_append, Nat.sub_zero]
    refine ⟨49 :: List.replicate (kk - 1) 48, true, ?_, ?_, ?_, nofun, fun _ => ⟨?_, ?_⟩⟩
    · refine Ev.step (f := fun k => spec_l01Round.j3 k (kk : Int) (List.replicate kk 48) true (((0 : Nat) : Int) - 1) false) (fun k => ?_) ?_
      · simp only [spec_l01Round.l1]
        rw [if_pos trivial, decide_eq_false (by omega)]
      · refine Ev.step (f := fun _ => some ((49 :: List.replicate (kk - 1) 48 : List Int), true)) (fun k => ?_) (Ev.now _)
        simp only [spec_l01Round.j3, Option.bind_some]
        rw [if_neg (by decide), if_pos trivial, wrap64_of (by omega) (by omega), if_pos (by omega), if_pos (by rw [List.length_replicate]; omega), if_pos (by simp; omega), show ((kk : Int) - 1).toNat = kk - 1 by omega, List.take_replicate, Nat.min_eq_left (by omega)]
        rfl
    · exact fun x hx => by
        rcases List.mem_cons.1 hx with rfl | hx
        · omega
        · exact ad_zeros _ x hx
    · rw [List.length_cons, List.length_replicate]; omega
    · -- all nines
      have : ∀ n : Nat, n ≤ kk → dv (l.take n) + 1 = 10 ^ n := by
        intro n
        induction n with
        | zero => intro _; rw [List.take_zero]; rfl
        | succ n ih =>
          intro hn
          have := ih (by omega)
          rw [take_snoc_rd (by omega), dv_snoc, h9 n (by omega) (by omega), Nat.pow_succ]
          omega
      have h := this kk (Nat.le_refl _)
      rw [List.take_of_length_le (by omega)] at h
      exact h
    · rw [dv_cons, dv_zeros, List.length_replicate, show ((49 : Int) - 48).toNat = 1 by decide, Nat.one_mul]
      rfl
  | succ j ih =>
    intro hj h9
    have hjl : j < l.length := by omega
    have hx := ad_rd hl hjl
    have hX : (l.take (j + 1) ++ List.replicate (kk - (j + 1)) 48).length = kk := by rw [List.length_append, List.length_take, List.length_replicate]; omega
    have hrd : rd (l.take (j + 1) ++ List.replicate (kk - (j + 1)) 48) (j : Int) = rd l (j : Int) := by
      rw [rd_at (by omega), rd_at hjl, List.getElem_append_left (by rw [List.length_take]; omega), List.getElem_take]
    have hset : ∀ y : Int, (l.take (j + 1) ++ List.replicate (kk - (j + 1)) 48).set j y = l.take j ++ (y :: List.replicate (kk - (j + 1)) 48) := fun y => by
      rw [take_snoc_rd hjl, List.append_assoc, List.set_append_right _ _ (by rw [List.length_take]; omega), List.length_take, Nat.min_eq_left (by omega), Nat.sub_self]
      rfl
    rw [show ((j + 1 : Nat) : Int) - 1 = (j : Int) by omega]
    have st : ∀ r, Ev (fun k => spec_l01Round.j3 k (kk : Int) (l.take (j + 1) ++ List.replicate (kk - (j + 1)) 48) true (j : Int) true) r → Ev (fun k => spec_l01Round.l1 k (kk : Int) (l.take (j + 1) ++ List.replicate (kk - (j + 1)) 48) true (j : Int)) r := fun r h => by
      refine Ev.step (f := fun k => spec_l01Round.j3 k (kk : Int) (l.take (j + 1) ++ List.replicate (kk - (j + 1)) 48) true (j : Int) true) (fun k => ?_) h
      simp only [spec_l01Round.l1]
      rw [if_pos trivial, decide_eq_true (by omega)]
    by_cases hn : rd l (j : Int) = 57
    · obtain ⟨D, b, hev, h1, h2, h3, h4⟩ := ih (by omega) (fun i hi hi2 => by
        by_cases e : i = j
        · rw [e]; exact hn
        · exact h9 i (by omega) hi2)
      refine ⟨D, b, st _ ?_, h1, h2, h3, h4⟩
      refine Ev.step (f := fun k => spec_l01Round.l1 k (kk : Int) (l.take j ++ List.replicate (kk - j) 48) true ((j : Int) - 1)) (fun k => ?_) hev
      simp only [spec_l01Round.j3]
      rw [if_pos trivial, if_pos (by omega), if_pos (by omega), hrd, if_pos hn, Int.toNat_natCast, hset, wrap64_of (by omega) (by omega), show kk - j = kk - (j + 1) + 1 by omega, List.replicate_succ]
    · refine ⟨l.take j ++ ((rd l (j : Int) + 1) :: List.replicate (kk - (j + 1)) 48), false, st _ ?_, ?_, ?_, fun _ => ?_, nofun⟩
      · refine Ev.step (f := fun k => spec_l01Round.l1 k (kk : Int) (l.take j ++ ((rd l (j : Int) + 1) :: List.replicate (kk - (j + 1)) 48)) false ((j : Int) - 1)) (fun k => ?_) ?_
        · simp only [spec_l01Round.j3]
          rw [if_pos trivial, if_pos (by omega), if_pos (by omega), hrd, if_neg hn, Int.toNat_natCast, hset, wrap64_of (by omega) (by omega), show (rd l (j : Int) + 1) % 256 = rd l (j : Int) + 1 by omega]
        · refine Ev.step (f := fun k => spec_l01Round.j3 k (kk : Int) (l.take j ++ ((rd l (j : Int) + 1) :: List.replicate (kk - (j + 1)) 48)) false ((j : Int) - 1) false) (fun k => ?_) ?_
          · simp only [spec_l01Round.l1]
            rw [if_neg (by decide)]
          · refine Ev.step (f := fun _ => some (l.take j ++ ((rd l (j : Int) + 1) :: List.replicate (kk - (j + 1)) 48), false)) (fun k => ?_) (Ev.now _)
            simp only [spec_l01Round.j3]
            rw [if_neg (by decide), if_neg (by decide)]
      · refine ad_append (ad_take hl j) (fun x hx2 => ?_)
        rcases List.mem_cons.1 hx2 with rfl | hx2
        · omega
        · exact ad_zeros _ x hx2
      · rw [List.length_append, List.length_take, List.length_cons, List.length_replicate]; omega
      · -- the value
        have hnines : ∀ n : Nat, j + 1 + n ≤ kk → dv (l.take (j + 1 + n)) + 1 = (dv (l.take (j + 1)) + 1) * 10 ^ n := by
          intro n
          induction n with
          | zero => intro _; rw [Nat.pow_zero, Nat.mul_one, Nat.add_zero]
          | succ n ihn =>
            intro hle
            have hi := ihn (by omega)
            rw [← Nat.add_assoc, take_snoc_rd (by omega), dv_snoc, h9 (j + 1 + n) (by omega) (by omega), Nat.pow_succ]
            have e57 : ((57 : Int) - 48).toNat = 9 := by decide
            rw [e57, ← Nat.mul_assoc, ← hi]
            omega
        have hk3 := hnines (kk - (j + 1)) (by omega)
        rw [List.take_of_length_le (by omega)] at hk3
        rw [hk3, dv_append, dv_cons, dv_zeros, List.length_cons, List.length_replicate, take_snoc_rd hjl, dv_snoc, Nat.pow_succ]
        obtain ⟨x, hxe⟩ : ∃ x : Nat, rd l (j : Int) = (x : Int) + 48 := ⟨(rd l (j : Int) - 48).toNat, by omega⟩
        rw [hxe, show ((x : Int) + 48 + 1 - 48).toNat = x + 1 by omega, show ((x : Int) + 48 - 48).toNat = x by omega]
        grind

/-- The scan for a digit that is not 0. -/
theorem round_l0 {R : List Int × Bool} (kk : Nat) (x6 x7 T : List Int) (hT : T.length ≤ 100000) (G : Bool → Nat → Option (List Int × Bool)) (hend : ∀ (b : Bool) (k : Nat), spec_l01Round.l0 (k + 1) (kk : Int) x6 x7 b T (T.length : Int) (T.length : Int) = G b k) :
    ∀ (r j : Nat) (b : Bool), j + r = T.length → Ev (G (b || (T.drop j).any (· != 48))) R → Ev (fun k => spec_l01Round.l0 k (kk : Int) x6 x7 b T (T.length : Int) (j : Int)) R := by
  intro r
  induction r with
  | zero =>
    intro j b hj hG
    have : j = T.length := by omega
    subst this
    rw [List.drop_length, List.any_nil, Bool.or_false] at hG
    exact Ev.step (fun k => hend b k) hG
  | succ r ih =>
    intro j b hj hG
    have hjl : j < T.length := by omega
    rw [drop_at hjl, List.any_cons] at hG
    by_cases hx : rd T (j : Int) = 48
    · rw [show (rd T (j : Int) != 48) = false by rw [hx]; rfl, Bool.false_or] at hG
      refine Ev.step (f := fun k => spec_l01Round.l0 k (kk : Int) x6 x7 b T (T.length : Int) ((j + 1 : Nat) : Int)) (fun k => ?_) (ih (j + 1) b (by omega) hG)
      simp only [spec_l01Round.l0]
      rw [if_pos (by omega), if_pos (by omega), if_pos (by omega), if_pos hx, wrap64_of (by omega) (by omega)]
      rfl
    · rw [show (rd T (j : Int) != 48) = true by simpa using hx, Bool.true_or, Bool.or_true] at hG
      refine Ev.step (f := fun k => spec_l01Round.l0 k (kk : Int) x6 x7 true T (T.length : Int) ((j + 1 : Nat) : Int)) (fun k => ?_) (ih (j + 1) true (by omega) (by rw [Bool.true_or]; exact hG))
      simp only [spec_l01Round.l0]
      rw [if_pos (by omega), if_pos (by omega), if_pos (by omega), if_neg hx, wrap64_of (by omega) (by omega)]
      rfl

/-- l01Round: the digits of the number rounded to kk of them. -/
theorem round_ev {L : List Int} {kk : Nat} (hL : AD L) (hk : 1 ≤ kk) (hkl : kk < L.length) (hlen : L.length ≤ 2000) (hlead : 10 ^ (L.length - 1) ≤ dv L) :
    Ev (fun k => spec_l01Round.f k L (kk : Int)) (if rne (dv L) (10 ^ (L.length - kk)) = 10 ^ kk then (decs (10 ^ (kk - 1)), true) else (decs (rne (dv L) (10 ^ (L.length - kk))), false)) := by
  obtain ⟨m, hm⟩ : ∃ m, L.length = kk + 1 + m := ⟨L.length - kk - 1, by omega⟩
  rw [show L.length - kk = m + 1 by omega]
  obtain ⟨O, hO⟩ : ∃ O, L.take kk = O := ⟨_, rfl⟩
  obtain ⟨Rs, hRs⟩ : ∃ Rs, L.drop kk = Rs := ⟨_, rfl⟩
  have hOl : O.length = kk := by rw [← hO, List.length_take]; omega
  have hRl : Rs.length = m + 1 := by rw [← hRs, List.length_drop]; omega
  have hOa : AD O := by rw [← hO]; exact ad_take hL kk
  have hRa : AD Rs := by rw [← hRs]; exact ad_drop hL kk
  have hv : dv L = dv O * 10 ^ (m + 1) + dv Rs := by
    have := dv_append O Rs
    rw [hRl, ← hO, ← hRs, List.take_append_drop] at this
    rw [this, hO, hRs]
  have hr0 := ad_rd hRa (j := 0) (by omega)
  have hsplit : Rs = rd Rs 0 :: Rs.drop 1 := by
    have := drop_at (l := Rs) (j := 0) (by omega)
    rw [List.drop_zero] at this
    exact this
  obtain ⟨x, hx⟩ : ∃ x : Nat, rd Rs 0 = (x : Int) + 48 := ⟨(rd Rs 0 - 48).toNat, by
    have : (((0 : Nat) : Int)) = 0 := rfl
    rw [this] at hr0
    omega⟩
  have hx9 : x ≤ 9 := by
    have : (((0 : Nat) : Int)) = 0 := rfl
    rw [this, hx] at hr0
    omega
  obtain ⟨B, hB⟩ : ∃ B, dv (Rs.drop 1) = B := ⟨_, rfl⟩
  have hTl : (Rs.drop 1).length = m := by rw [List.length_drop]; omega
  have hvR : dv Rs = x * 10 ^ m + B := by
    conv => lhs; rw [hsplit]
    rw [dv_cons, hx, hB, hTl, show ((x : Int) + 48 - 48).toNat = x by omega]
  have hBlt : B < 10 ^ m := by
    have := dv_lt (ad_drop hRa 1)
    rwa [hB, hTl] at this
  have hB0 : (Rs.drop 1).any (· != 48) = decide (B ≠ 0) := by
    have hz := dv_eq_zero (ad_drop hRa 1)
    rw [hB] at hz
    by_cases h0 : B = 0
    · rw [decide_eq_false (fun h => h h0)]
      have ha := hz.1 h0
      rw [List.any_eq_false]
      intro y hy
      simpa using ha y hy
    · rw [decide_eq_true h0, List.any_eq_true]
      apply Classical.byContradiction
      intro hc
      apply h0
      apply hz.2
      intro y hy
      apply Classical.byContradiction
      intro hne
      exact hc ⟨y, hy, by simpa using hne⟩
  -- the rounding
  obtain ⟨A, hA⟩ : ∃ A, dv O = A := ⟨_, rfl⟩
  have hp : 0 < 10 ^ m := Nat.pow_pos (by decide)
  have hpm : 10 ^ (m + 1) = 10 ^ m * 10 := Nat.pow_succ ..
  have hRlt : dv Rs < 10 ^ (m + 1) := by
    have := dv_lt hRa
    rwa [hRl] at this
  have hdiv : dv L / 10 ^ (m + 1) = A := by rw [hv, hA, Nat.mul_comm, Nat.mul_add_div (by omega), Nat.div_eq_of_lt hRlt]; rfl
  have hmod : dv L % 10 ^ (m + 1) = dv Rs := by rw [hv, hA, Nat.mul_comm, Nat.mul_add_mod, Nat.mod_eq_of_lt hRlt]
  have hAlt : A < 10 ^ kk := by
    have := dv_lt hOa
    rwa [hA, hOl] at this
  have hAlo : 10 ^ (kk - 1) ≤ A := by
    rw [← hdiv, Nat.le_div_iff_mul_le (by omega), ← Nat.pow_add]
    rw [show kk - 1 + (m + 1) = L.length - 1 by omega]
    exact hlead
  have hodd : rd O ((kk : Int) - 1) % 2 = ((A % 2 : Nat) : Int) := by
    obtain ⟨O', y, hOe, hOl'⟩ := snoc_of (l := O) (n := kk - 1) (by omega)
    have hy := hOa y (by rw [hOe]; simp)
    have hrd : rd O ((kk : Int) - 1) = y := by
      rw [show (kk : Int) - 1 = ((kk - 1 : Nat) : Int) by omega, rd_at (by omega)]
      simp only [hOe]
      rw [List.getElem_append_right (by omega)]
      simp
    rw [hrd, ← hA, hOe, dv_snoc]
    omega
  have hup : rne (dv L) (10 ^ (m + 1)) = A + (if 5 < x ∨ (x = 5 ∧ (B ≠ 0 ∨ A % 2 = 1)) then 1 else 0) := by
    unfold rne
    rw [hdiv, hmod, hvR, hpm]
    congr 1
    have hmx : ∀ a b : Nat, a ≤ b → a * 10 ^ m ≤ b * 10 ^ m := fun a b h => Nat.mul_le_mul_right _ h
    by_cases h5 : 5 < x
    · have := hmx 6 x (by omega)
      rw [if_pos (Or.inl h5), if_pos (Or.inl (by omega))]
    · by_cases h5e : x = 5
      · subst h5e
        by_cases hB1 : B ≠ 0
        · rw [if_pos (c := 5 < 5 ∨ (5 = 5 ∧ (B ≠ 0 ∨ A % 2 = 1))) (Or.inr ⟨rfl, Or.inl hB1⟩), if_pos (Or.inl (by omega))]
        · have hB2 : B = 0 := by omega
          by_cases ho : A % 2 = 1
          · rw [if_pos (c := 5 < 5 ∨ (5 = 5 ∧ (B ≠ 0 ∨ A % 2 = 1))) (Or.inr ⟨rfl, Or.inr ho⟩), if_pos (Or.inr ⟨by omega, ho⟩)]
          · rw [if_neg (by omega), if_neg (by omega)]
      · have := hmx x 4 (by omega)
        rw [if_neg (by omega), if_neg (by omega)]
  -- the end of the scan
  have fin : ∀ up : Bool, up = decide (5 < x ∨ (x = 5 ∧ (B ≠ 0 ∨ A % 2 = 1))) → Ev (fun k => spec_l01Round.j1 k (kk : Int) O up) (if rne (dv L) (10 ^ (m + 1)) = 10 ^ kk then (decs (10 ^ (kk - 1)), true) else (decs (rne (dv L) (10 ^ (m + 1))), false)) := fun up hu => by
    have hpk : 10 ^ (kk - 1) < 10 ^ kk := Nat.pow_lt_pow_right (by decide) (by omega)
    have hj : ∀ r, Ev (fun k => spec_l01Round.l1 k (kk : Int) O up ((kk : Int) - 1)) r → Ev (fun k => spec_l01Round.j1 k (kk : Int) O up) r := fun r h => by
      refine Ev.step (f := fun k => spec_l01Round.l1 k (kk : Int) O up ((kk : Int) - 1)) (fun k => ?_) h
      simp only [spec_l01Round.j1]
      rw [wrap64_of (by omega) (by omega)]
    apply hj
    cases up with
    | false =>
      have hc := of_decide_eq_false hu.symm
      rw [hup, if_neg hc, Nat.add_zero, if_neg (by omega)]
      rw [show decs A = O by rw [← hA]; exact decs_dv (kk - 1) O (by omega) hOa (by rw [hA]; exact hAlo)]
      refine Ev.step (f := fun k => spec_l01Round.j3 k (kk : Int) O false ((kk : Int) - 1) false) (fun k => ?_) ?_
      · simp only [spec_l01Round.l1]
        rw [if_neg (by decide)]
      · refine Ev.step (f := fun _ => some (O, false)) (fun k => ?_) (Ev.now _)
        simp only [spec_l01Round.j3]
        rw [if_neg (by decide), if_neg (by decide)]
    | true =>
      have hc := of_decide_eq_true hu.symm
      rw [hup, if_pos hc]
      obtain ⟨D, b, hev, h1, h2, h3, h4⟩ := round_l1 kk hk (by omega) O hOa hOl kk (Nat.le_refl _) (fun i h h' => by omega)
      rw [List.take_of_length_le (by omega), Nat.sub_self, List.replicate_zero, List.append_nil] at hev
      rw [hA] at h3 h4
      cases b with
      | false =>
        have hD := h3 rfl
        have hlt := dv_lt h1
        rw [h2, hD] at hlt
        rw [if_neg (by omega), ← hD, decs_dv (kk - 1) D (by omega) h1 (by omega)]
        exact hev
      | true =>
        obtain ⟨g1, g2⟩ := h4 rfl
        rw [if_pos g1, ← g2, decs_dv (kk - 1) D (by omega) h1 (by omega)]
        exact hev
  -- the walk
  have hend := round_l0 (R := (if rne (dv L) (10 ^ (m + 1)) = 10 ^ kk then (decs (10 ^ (kk - 1)), true) else (decs (rne (dv L) (10 ^ (m + 1))), false))) kk O Rs (Rs.drop 1) (by omega) (fun b k => spec_l01Round.l0 (k + 1) (kk : Int) O Rs b (Rs.drop 1) ((Rs.drop 1).length : Int) ((Rs.drop 1).length : Int)) (fun b k => rfl) m 0 false (by omega) (by
    rw [List.drop_zero, Bool.false_or, hB0]
    refine Ev.congr (f := fun k => spec_l01Round.j1 k (kk : Int) O (decide (5 < x ∨ (x = 5 ∧ (B ≠ 0 ∨ A % 2 = 1))))) (fun k => ?_) (fin _ rfl)
    simp only [spec_l01Round.l0]
    rw [if_neg (by omega), if_pos (by omega), hx]
    by_cases h5 : 5 < x
    · rw [if_pos (by omega), decide_eq_true (Or.inl h5)]
    · rw [if_neg (by omega)]
      by_cases h5e : x = 5
      · rw [if_pos (by omega)]
        by_cases hB1 : B ≠ 0
        · rw [if_pos (decide_eq_true hB1), decide_eq_true (Or.inr ⟨h5e, Or.inl hB1⟩)]
        · rw [if_neg (by rw [decide_eq_false hB1]; decide), wrap64_of (by omega) (by omega), if_pos (by omega), if_pos (by omega)]
          have hpar : (Int.tmod (rd O ((kk : Int) - 1)) 2 == 1) = decide (A % 2 = 1) := by
            have hge : 0 ≤ rd O ((kk : Int) - 1) := by
              have := ad_rd hOa (j := kk - 1) (by omega)
              rw [show ((kk - 1 : Nat) : Int) = (kk : Int) - 1 by omega] at this
              omega
            rw [Int.tmod_eq_emod_of_nonneg hge, hodd]
            by_cases ho : A % 2 = 1
            · rw [decide_eq_true ho, ho]; rfl
            · rw [decide_eq_false ho, show A % 2 = 0 by omega]; rfl
          rw [hpar]
          congr 1
          by_cases ho : A % 2 = 1
          · rw [decide_eq_true ho, decide_eq_true (Or.inr ⟨h5e, Or.inr ho⟩)]
          · rw [decide_eq_false ho, decide_eq_false (by omega)]
      · rw [if_neg (by omega), decide_eq_false (by omega)])
  refine Ev.congr (fun k => ?_) hend
  unfold spec_l01Round.f
  simp only [Option.bind_some, Int.toNat_natCast, hO, hRs, List.nil_append]
  rw [if_pos (by omega), if_pos (by omega), if_pos (by simp; omega), if_pos (by omega)]
  rfl
end Go.Proofs.YtlblkajnmdhmdaaGreatDoor.NB
