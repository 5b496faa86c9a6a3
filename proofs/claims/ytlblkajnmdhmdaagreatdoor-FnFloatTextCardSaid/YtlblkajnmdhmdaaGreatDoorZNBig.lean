/-
  Plain law over the printed functions: great numbers as lists of digits to base 10000.
-/
import Derived.Test.YtlblkajnmdhmdaaGreatDoorZPFormatNumberx5
import Derived.Test.YtlblkajnmdhmdaaGreatDoorZNSpec
namespace Go.Proofs.YtlblkajnmdhmdaaGreatDoor.NB
set_option linter.unusedVariables false
open Go Go.RowKit Go.Proofs.YtlblkajnmdhmdaaGreatDoor.PFormatNumber Go.Proofs.YtlblkajnmdhmdaaGreatDoorW.PrintWords Go.Proofs.YtlblkajnmdhmdaaGreatDoorW.PrintLast Go.Proofs.YtlblkajnmdhmdaaGreatDoorW.PrintMore

theorem wrap64_of {x : Int} (h1 : -9223372036854775808 ≤ x) (h2 : x ≤ 9223372036854775807) : wrap64 x = x := by unfold wrap64; omega

/-- Digits to base 10000. -/
def Dg (l : List Int) : Prop := ∀ x ∈ l, 0 ≤ x ∧ x < 10000
def val : List Int → Nat
  | [] => 0
  | x :: l => x.toNat + 10000 * val l
theorem val_cons (x : Int) (l : List Int) : val (x :: l) = x.toNat + 10000 * val l := rfl
/-- The digits of n, the lowest first, none needless. -/
def dig (n : Nat) : List Int := if h : n = 0 then [] else ((n % 10000 : Nat) : Int) :: dig (n / 10000)
termination_by n
decreasing_by omega

theorem dig_zero : dig 0 = [] := by unfold dig; simp
theorem dig_pos {n : Nat} (h : n ≠ 0) : dig n = ((n % 10000 : Nat) : Int) :: dig (n / 10000) := by rw [dig, dif_neg h]
theorem dg_dig (n : Nat) : Dg (dig n) := by
  induction n using Nat.strongRecOn with
  | ind n ih =>
    by_cases h : n = 0
    · subst h; rw [dig_zero]; intro x hx; cases hx
    · rw [dig_pos h]
      intro x hx
      rcases List.mem_cons.1 hx with rfl | hx
      · omega
      · exact ih (n / 10000) (by omega) x hx
theorem val_dig (n : Nat) : val (dig n) = n := by
  induction n using Nat.strongRecOn with
  | ind n ih =>
    by_cases h : n = 0
    · subst h; rw [dig_zero]; rfl
    · rw [dig_pos h, val_cons, ih (n / 10000) (by omega)]
      omega
theorem val_append (l r : List Int) : val (l ++ r) = val l + 10000 ^ l.length * val r := by
  induction l with
  | nil => simp [val]
  | cons x l ih =>
    rw [List.cons_append, List.length_cons, Nat.pow_succ, val_cons, val_cons, ih]
    grind
theorem val_snoc (l : List Int) (x : Int) : val (l ++ [x]) = val l + 10000 ^ l.length * x.toNat := by
  rw [val_append]
  simp [val]
theorem dg_append {l r : List Int} (h : Dg l) (k : Dg r) : Dg (l ++ r) := fun x hx => by
  rcases List.mem_append.1 hx with hx | hx
  · exact h x hx
  · exact k x hx
theorem dg_one {x : Int} (h0 : 0 ≤ x) (h : x < 10000) : Dg [x] := fun y hy => by
  rcases List.mem_cons.1 hy with rfl | hy
  · exact ⟨h0, h⟩
  · cases hy
theorem dg_take {l : List Int} (h : Dg l) (n : Nat) : Dg (l.take n) := fun x hx => h x (List.mem_of_mem_take hx)
theorem val_lt {l : List Int} (h : Dg l) : val l < 10000 ^ l.length := by
  induction l with
  | nil => simp [val]
  | cons x l ih =>
    have hx := h x (List.mem_cons_self ..)
    have := ih (fun y hy => h y (List.mem_cons_of_mem _ hy))
    rw [List.length_cons, Nat.pow_succ, val_cons]
    omega
theorem dlen_le {n t : Nat} (h : n < 10000 ^ t) : (dig n).length ≤ t := by
  induction t generalizing n with
  | zero =>
    have : n = 0 := by simp at h; exact h
    subst this; rw [dig_zero]; exact Nat.le_refl _
  | succ t ih =>
    by_cases h0 : n = 0
    · subst h0; rw [dig_zero]; exact Nat.zero_le _
    · rw [dig_pos h0, List.length_cons]
      have : n / 10000 < 10000 ^ t := by
        rw [Nat.pow_succ] at h
        exact (Nat.div_lt_iff_lt_mul (by decide)).2 h
      have := ih this
      omega
theorem lt_dlen (n : Nat) : n < 10000 ^ (dig n).length := by
  have := val_lt (dg_dig n)
  rwa [val_dig] at this
theorem dlen_mono {a b : Nat} (h : a ≤ b) : (dig a).length ≤ (dig b).length := dlen_le (Nat.lt_of_le_of_lt h (lt_dlen b))
/-- A list with no needless digit is the digits of its value. -/
theorem dig_val {l : List Int} (h : Dg l) (hl : ∀ x, l.getLast? = some x → x ≠ 0) : dig (val l) = l := by
  induction l with
  | nil => exact dig_zero
  | cons x l ih =>
    have hx := h x (List.mem_cons_self ..)
    have ht : Dg l := fun y hy => h y (List.mem_cons_of_mem _ hy)
    have hv : val (x :: l) ≠ 0 := by
      intro h0
      rw [val_cons] at h0
      cases l with
      | nil =>
        have := hl x rfl
        omega
      | cons y l =>
        have hd : val (y :: l) = 0 := by omega
        have hk := ih ht (fun z hz => hl z (by simpa using hz))
        rw [hd, dig_zero] at hk
        cases hk
    rw [dig_pos hv, val_cons]
    rw [show (x.toNat + 10000 * val l) / 10000 = val l by omega, show ((x.toNat + 10000 * val l) % 10000 : Nat) = x.toNat by omega, Int.toNat_of_nonneg hx.1]
    congr 1
    cases l with
    | nil => exact dig_zero
    | cons y l => exact ih ht (fun z hz => hl z (by simpa using hz))
theorem dig_nil {n : Nat} : dig n = [] ↔ n = 0 := by
  constructor
  · intro h
    have := val_dig n
    rw [h] at this
    exact this.symm
  · rintro rfl; exact dig_zero
theorem rd_at {l : List Int} {j : Nat} (h : j < l.length) : rd l (j : Int) = l[j] := by
  unfold rd
  rw [Int.toNat_natCast, List.getD_eq_getElem?_getD, List.getElem?_eq_getElem h]
  rfl
theorem drop_at {l : List Int} {j : Nat} (h : j < l.length) : l.drop j = rd l (j : Int) :: l.drop (j + 1) := by
  rw [rd_at h]
  exact List.drop_eq_getElem_cons h

theorem bind_some_id {α : Type} (g : Nat → Option α) (r : α) (h : Ev g r) : Ev (fun k => (g k).bind fun t => some t) r := Ev.bind h (Ev.now r)

/-! ### l01Trim -/
theorem trim_ev : ∀ (n : Nat) (l : List Int), l.length = n → n < 9223372036854775807 → Dg l → Ev (fun k => spec_l01Trim.l0 k l) (dig (val l)) := by
  intro n
  induction n with
  | zero =>
    intro l hl _ hd
    have : l = [] := List.eq_nil_of_length_eq_zero hl
    subst this
    rw [show dig (val []) = [] from dig_zero]
    refine Ev.step (f := fun _ => some []) (fun k => ?_) (Ev.now _)
    simp only [spec_l01Trim.l0]
    rw [if_neg (by simp)]
  | succ n ih =>
    intro l hl hn hd
    have hw : wrap64 ((l.length : Int) - 1) = (n : Int) := by rw [wrap64_of (by omega) (by omega)]; omega
    by_cases hz : rd l (n : Int) = 0
    · refine Ev.step (f := fun k => spec_l01Trim.l0 k (l.take n)) (fun k => ?_) ?_
      · simp only [spec_l01Trim.l0]
        rw [hw, if_pos (by omega), if_pos (by omega), if_pos (by omega), if_pos hz, if_pos (by omega), Int.toNat_natCast]
      · have h1 := ih (l.take n) (by rw [List.length_take]; omega) (by omega) (dg_take hd n)
        have hs : l = l.take n ++ [0] := by
          have h2 := List.take_append_drop n l
          rw [drop_at (by omega), hz, List.drop_eq_nil_of_le (by omega)] at h2
          exact h2.symm
        have hv : val l = val (l.take n) := by
          conv => lhs; rw [hs]
          rw [val_snoc]
          simp
        rw [hv]
        exact h1
    · refine Ev.step (f := fun _ => some l) (fun k => ?_) ?_
      · simp only [spec_l01Trim.l0]
        rw [hw, if_pos (by omega), if_pos (by omega), if_pos (by omega), if_neg hz]
      · rw [dig_val hd (fun x hx => by
          rw [List.getLast?_eq_getElem?, hl] at hx
          rw [rd_at (by omega)] at hz
          rw [show n + 1 - 1 = n by omega, List.getElem?_eq_getElem (by omega)] at hx
          cases hx
          exact hz)]
        exact Ev.now _

/-! ### l01Times -/
theorem times_l1 : ∀ (n : Nat) (c : Nat) (out : List Int), c ≤ n → c ≤ 1000000000 → out.length + c < 10000000000 → Dg out → Ev (fun k => spec_l01Times.l1 k (c : Int) out) (dig (val out + 10000 ^ out.length * c)) := by
  intro n
  induction n with
  | zero =>
    intro c out hc _ hl hd
    have : c = 0 := by omega
    subst this
    refine Ev.step (f := fun k => (spec_l01Trim.f k out).bind fun t => some t) (fun k => ?_) ?_
    · simp only [spec_l01Times.l1]
      rw [if_neg (by omega)]
    · apply bind_some_id
      rw [Nat.mul_zero, Nat.add_zero]
      exact trim_ev _ out rfl (by omega) hd
  | succ n ih =>
    intro c out hc hc2 hl hd
    by_cases h0 : c = 0
    · subst h0
      exact ih 0 out (by omega) (by omega) hl hd
    · refine Ev.step (f := fun k => spec_l01Times.l1 k ((c / 10000 : Nat) : Int) (out ++ [((c % 10000 : Nat) : Int)])) (fun k => ?_) ?_
      · simp only [spec_l01Times.l1]
        have e1 : Int.tdiv (c : Int) 10000 = ((c / 10000 : Nat) : Int) := by rw [Int.tdiv_eq_ediv_of_nonneg (by omega)]; omega
        have e2 : Int.tmod (c : Int) 10000 = ((c % 10000 : Nat) : Int) := by rw [Int.tmod_eq_emod_of_nonneg (by omega)]; omega
        rw [if_pos (by omega), if_pos (by omega), e1, e2, wrap64_of (by omega) (by omega)]
      · have hg := ih (c / 10000) (out ++ [((c % 10000 : Nat) : Int)]) (by omega) (by omega) (by rw [List.length_append]; simp; omega) (dg_append hd (dg_one (by omega) (by omega)))
        have hv : val (out ++ [((c % 10000 : Nat) : Int)]) + 10000 ^ (out ++ [((c % 10000 : Nat) : Int)]).length * (c / 10000) = val out + 10000 ^ out.length * c := by
          rw [val_snoc, List.length_append, Int.toNat_natCast]
          simp only [List.length_cons, List.length_nil, Nat.zero_add, Nat.pow_succ]
          have := Nat.div_add_mod c 10000
          have e : 10000 ^ out.length * c = 10000 ^ out.length * (10000 * (c / 10000) + c % 10000) := by rw [this]
          rw [e]
          grind
        rw [hv] at hg
        exact hg

theorem times_l0 (L : List Int) (m : Nat) (hm : m ≤ 4096) (hL : Dg L) (hlen : L.length ≤ 1000000) : ∀ (n j c : Nat) (out : List Int), j + n = L.length → c ≤ 10000 → out.length = j → Dg out →
    Ev (fun k => spec_l01Times.l0 k (m : Int) (c : Int) out L (L.length : Int) (j : Int)) (dig (val out + 10000 ^ out.length * (val (L.drop j) * m + c))) := by
  intro n
  induction n with
  | zero =>
    intro j c out hj hc ho hd
    refine Ev.step (f := fun k => spec_l01Times.l1 k (c : Int) out) (fun k => ?_) ?_
    · simp only [spec_l01Times.l0]
      rw [if_neg (by omega)]
    · rw [List.drop_eq_nil_of_le (by omega), show val [] * m + c = c by simp [val]]
      exact times_l1 c c out (Nat.le_refl _) (by omega) (by omega) hd
  | succ n ih =>
    intro j c out hj hc ho hd
    have hjl : j < L.length := by omega
    have hx := hL (rd L (j : Int)) (by rw [rd_at hjl]; exact List.getElem_mem _)
    obtain ⟨x, hxe⟩ : ∃ x : Nat, rd L (j : Int) = x := ⟨(rd L (j : Int)).toNat, by omega⟩
    rw [hxe] at hx
    obtain ⟨p, hp⟩ : ∃ p, x * m = p := ⟨_, rfl⟩
    have hxm : p ≤ 40955904 := by rw [← hp]; exact Nat.le_trans (Nat.mul_le_mul (Nat.le_of_lt_succ (by omega : x < 9999 + 1)) hm) (by decide)
    obtain ⟨y, hy⟩ : ∃ y, c + p = y := ⟨_, rfl⟩
    have e0 : wrap64 ((c : Int) + wrap64 (rd L (j : Int) * (m : Int))) = (y : Nat) := by
      have ew : (rd L (j : Int) * (m : Int)) = (p : Int) := by rw [hxe, ← hp]; simp
      rw [ew, wrap64_of (x := (p : Int)) (by omega) (by omega), wrap64_of (by omega) (by omega)]
      omega
    have e1 : Int.tdiv (y : Int) 10000 = ((y / 10000 : Nat) : Int) := by rw [Int.tdiv_eq_ediv_of_nonneg (by omega)]; omega
    have e2 : Int.tmod (y : Int) 10000 = ((y % 10000 : Nat) : Int) := by rw [Int.tmod_eq_emod_of_nonneg (by omega)]; omega
    refine Ev.step (f := fun k => spec_l01Times.l0 k (m : Int) ((y / 10000 : Nat) : Int) (out ++ [((y % 10000 : Nat) : Int)]) L (L.length : Int) ((j + 1 : Nat) : Int)) (fun k => ?_) ?_
    · simp only [spec_l01Times.l0]
      rw [if_pos (by omega), if_pos (by omega), if_pos (by omega), if_pos (by omega), e0, e1, e2, wrap64_of (x := ((y / 10000 : Nat) : Int)) (by omega) (by omega), wrap64_of (x := (j : Int) + 1) (by omega) (by omega)]
      rfl
    · have hg := ih (j + 1) (y / 10000) (out ++ [((y % 10000 : Nat) : Int)]) (by omega) (by omega) (by rw [List.length_append]; simp; omega) (dg_append hd (dg_one (by omega) (by omega)))
      have hv : val (out ++ [((y % 10000 : Nat) : Int)]) + 10000 ^ (out ++ [((y % 10000 : Nat) : Int)]).length * (val (L.drop (j + 1)) * m + y / 10000) = val out + 10000 ^ out.length * (val (L.drop j) * m + c) := by
        rw [val_snoc, List.length_append, Int.toNat_natCast, drop_at hjl, hxe]
        simp only [List.length_cons, List.length_nil, Nat.zero_add, Nat.pow_succ]
        rw [val_cons, Int.toNat_natCast]
        have := Nat.div_add_mod y 10000
        have e : (x + 10000 * val (L.drop (j + 1))) * m + c = 10000 * (val (L.drop (j + 1)) * m) + (10000 * (y / 10000) + y % 10000) := by
          rw [this, ← hy, ← hp]; grind
        rw [e]
        grind
      rw [hv] at hg
      exact hg

theorem times_any {L : List Int} {m c : Nat} (hm : m ≤ 4096) (hc : c ≤ 10000) (hL : Dg L) (hlen : L.length ≤ 1000000) : Ev (fun k => spec_l01Times.f k L (m : Int) (c : Int)) (dig (val L * m + c)) := by
  have h := times_l0 L m hm hL hlen L.length 0 c [] (by omega) hc rfl (fun x hx => by cases hx)
  simp only [List.length_nil, Nat.pow_zero, Nat.one_mul, List.drop_zero, show val [] = 0 from rfl, Nat.zero_add] at h
  exact h
theorem times_ev {n m c : Nat} (hm : m ≤ 4096) (hc : c ≤ 10000) (hlen : (dig n).length ≤ 1000000) : Ev (fun k => spec_l01Times.f k (dig n) (m : Int) (c : Int)) (dig (n * m + c)) := by
  have h := times_any (L := dig n) hm hc (dg_dig n) hlen
  rw [val_dig] at h
  exact h
end Go.Proofs.YtlblkajnmdhmdaaGreatDoor.NB
