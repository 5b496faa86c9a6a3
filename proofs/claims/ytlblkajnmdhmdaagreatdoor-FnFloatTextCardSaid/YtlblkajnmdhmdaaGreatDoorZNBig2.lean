/-
  Plain law over the printed functions: doubling, powers of ten, comparing, halving, subtracting great numbers.
-/
import Derived.Test.YtlblkajnmdhmdaaGreatDoorZNBig
namespace Go.Proofs.YtlblkajnmdhmdaaGreatDoor.NB
set_option linter.unusedVariables false
open Go Go.RowKit Go.Proofs.YtlblkajnmdhmdaaGreatDoor.PFormatNumber Go.Proofs.YtlblkajnmdhmdaaGreatDoorW.PrintWords Go.Proofs.YtlblkajnmdhmdaaGreatDoorW.PrintLast Go.Proofs.YtlblkajnmdhmdaaGreatDoorW.PrintMore

theorem times_at {n m : Nat} (hm : m ≤ 4096) (hlen : (dig n).length ≤ 1000000) : Ev (fun k => spec_l01Times.f k (dig n) (m : Int) 0) (dig (n * m)) := times_ev (c := 0) hm (by omega) hlen
theorem times_2 {n : Nat} (hlen : (dig n).length ≤ 1000000) : Ev (fun k => spec_l01Times.f k (dig n) 2 0) (dig (n * 2)) := times_at (m := 2) (by omega) hlen
theorem times_5 {n : Nat} (hlen : (dig n).length ≤ 1000000) : Ev (fun k => spec_l01Times.f k (dig n) 5 0) (dig (n * 5)) := times_at (m := 5) (by omega) hlen
theorem times_4096 {n : Nat} (hlen : (dig n).length ≤ 1000000) : Ev (fun k => spec_l01Times.f k (dig n) 4096 0) (dig (n * 4096)) := times_at (m := 4096) (by omega) hlen

/-! ### l01Two -/
theorem two_l1 (e : Nat) : ∀ n : Nat, e ≤ 1000000 → (dig (n * 2 ^ e)).length ≤ 1000000 → Ev (fun k => spec_l01Two.l1 k (dig n) (e : Int)) (dig (n * 2 ^ e)) := by
  induction e with
  | zero =>
    intro n _ hl
    rw [Nat.pow_zero, Nat.mul_one]
    refine Ev.step (f := fun _ => some (dig n)) (fun k => ?_) (Ev.now _)
    simp only [spec_l01Two.l1]
    rw [if_neg (by omega)]
  | succ e ih =>
    intro n he hl
    have h0 : (dig n).length ≤ 1000000 := Nat.le_trans (dlen_mono (Nat.le_mul_of_pos_right _ (Nat.two_pow_pos _))) hl
    refine Ev.step (f := fun k => (spec_l01Times.f k (dig n) 2 0).bind fun t => spec_l01Two.l1 k t (e : Int)) (fun k => ?_) ?_
    · simp only [spec_l01Two.l1]
      rw [if_pos (by omega), wrap64_of (by omega) (by omega)]
      rw [show ((e + 1 : Nat) : Int) - 1 = (e : Int) by omega]
    · have e1 : n * 2 ^ (e + 1) = n * 2 * 2 ^ e := by rw [Nat.pow_succ]; grind
      rw [e1] at hl ⊢
      exact Ev.bind (f := fun k t => spec_l01Two.l1 k t (e : Int)) (times_2 h0) (ih (n * 2) (by omega) hl)
theorem two_ev (e : Nat) : ∀ n : Nat, e ≤ 1000000 → (dig (n * 2 ^ e)).length ≤ 1000000 → Ev (fun k => spec_l01Two.f k (dig n) (e : Int)) (dig (n * 2 ^ e)) := by
  induction e using Nat.strongRecOn with
  | ind e ih =>
    intro n he hl
    have h0 : (dig n).length ≤ 1000000 := Nat.le_trans (dlen_mono (Nat.le_mul_of_pos_right _ (Nat.two_pow_pos _))) hl
    by_cases h12 : 12 ≤ e
    · obtain ⟨g, rfl⟩ : ∃ g, e = g + 12 := ⟨e - 12, by omega⟩
      refine Ev.step (f := fun k => (spec_l01Times.f k (dig n) 4096 0).bind fun t => spec_l01Two.l0 k t (g : Int)) (fun k => ?_) ?_
      · simp only [spec_l01Two.f, spec_l01Two.l0]
        rw [if_pos (by omega), wrap64_of (by omega) (by omega)]
        rw [show ((g + 12 : Nat) : Int) - 12 = (g : Int) by omega]
      · have e1 : n * 2 ^ (g + 12) = n * 4096 * 2 ^ g := by
          rw [Nat.pow_add, show (2 : Nat) ^ 12 = 4096 by decide]; grind
        rw [e1] at hl ⊢
        exact Ev.bind (f := fun k t => spec_l01Two.l0 k t (g : Int)) (times_4096 h0) (ih g (by omega) (n * 4096) (by omega) hl)
    · refine Ev.step (f := fun k => spec_l01Two.l1 k (dig n) (e : Int)) (fun k => ?_) (two_l1 e n he hl)
      simp only [spec_l01Two.f, spec_l01Two.l0]
      rw [if_neg (by omega)]

/-! ### l01Pow10 -/
theorem pow10_l1 (e : Nat) : ∀ L : List Int, Dg L → L.length + e ≤ 1000000 → Ev (fun k => spec_l01Pow10.l1 k L (e : Int)) (dig (val L * 10 ^ e)) := by
  induction e with
  | zero =>
    intro L hL hl
    rw [Nat.pow_zero, Nat.mul_one]
    refine Ev.step (f := fun k => (spec_l01Trim.f k L).bind fun t => some t) (fun k => ?_) (bind_some_id _ _ (trim_ev _ L rfl (by omega) hL))
    simp only [spec_l01Pow10.l1]
    rw [if_neg (by omega)]
  | succ e ih =>
    intro L hL hl
    refine Ev.step (f := fun k => (spec_l01Times.f k L 10 0).bind fun t => spec_l01Pow10.l1 k t (e : Int)) (fun k => ?_) ?_
    · simp only [spec_l01Pow10.l1]
      rw [if_pos (by omega), wrap64_of (by omega) (by omega)]
      rw [show ((e + 1 : Nat) : Int) - 1 = (e : Int) by omega]
    · have e1 : val L * 10 ^ (e + 1) = val (dig (val L * 10)) * 10 ^ e := by rw [val_dig, Nat.pow_succ]; grind
      rw [e1]
      have hln : (dig (val L * 10)).length ≤ L.length + 1 := by
        apply dlen_le
        have := val_lt hL
        rw [Nat.pow_succ]
        omega
      exact Ev.bind (f := fun k t => spec_l01Pow10.l1 k t (e : Int)) (times_any (m := 10) (c := 0) (by omega) (by omega) hL (by omega)) (ih (dig (val L * 10)) (dg_dig _) (by omega))
theorem pow10_any (e : Nat) : ∀ L : List Int, Dg L → L.length + e ≤ 1000000 → Ev (fun k => spec_l01Pow10.f k L (e : Int)) (dig (val L * 10 ^ e)) := by
  induction e using Nat.strongRecOn with
  | ind e ih =>
    intro L hL hl
    by_cases h4 : 4 ≤ e
    · obtain ⟨g, rfl⟩ : ∃ g, e = g + 4 := ⟨e - 4, by omega⟩
      refine Ev.step (f := fun k => spec_l01Pow10.l0 k (0 :: L) (g : Int)) (fun k => ?_) ?_
      · simp only [spec_l01Pow10.f, spec_l01Pow10.l0, Option.bind_some]
        rw [if_pos (by omega), if_pos (by simp; omega), wrap64_of (by omega) (by omega)]
        rw [show ((g + 4 : Nat) : Int) - 4 = (g : Int) by omega]
        rfl
      · have e1 : val L * 10 ^ (g + 4) = val (0 :: L) * 10 ^ g := by
          rw [val_cons, Nat.pow_add, show (10 : Nat) ^ 4 = 10000 by decide]
          simp
          grind
        rw [e1]
        exact ih g (by omega) (0 :: L) (fun x hx => by
          rcases List.mem_cons.1 hx with rfl | hx
          · omega
          · exact hL x hx) (by simp; omega)
    · refine Ev.step (f := fun k => spec_l01Pow10.l1 k L (e : Int)) (fun k => ?_) (pow10_l1 e L hL hl)
      simp only [spec_l01Pow10.f, spec_l01Pow10.l0]
      rw [if_neg (by omega)]
theorem pow10_ev {n e : Nat} (h : (dig n).length + e ≤ 1000000) : Ev (fun k => spec_l01Pow10.f k (dig n) (e : Int)) (dig (n * 10 ^ e)) := by
  have := pow10_any e (dig n) (dg_dig n) h
  rwa [val_dig] at this

/-! ### l01Cmp -/
def cmpI (a b : Nat) : Int := if a < b then -1 else if a = b then 0 else 1
theorem cmp_l0 (L R : List Int) (hL : Dg L) (hR : Dg R) (hlen : L.length = R.length) (hb : L.length ≤ 1000000) : ∀ j : Nat, j ≤ L.length → L.drop j = R.drop j → Ev (fun k => spec_l01Cmp.l0 k L R ((j : Int) - 1)) (cmpI (val L) (val R)) := by
  intro j
  induction j with
  | zero =>
    intro _ hd
    rw [List.drop_zero, List.drop_zero] at hd
    subst hd
    refine Ev.step (f := fun _ => some 0) (fun k => ?_) ?_
    · simp only [spec_l01Cmp.l0]
      rw [if_neg (by omega)]
    · rw [show cmpI (val L) (val L) = 0 by unfold cmpI; rw [if_neg (by omega), if_pos rfl]]
      exact Ev.now _
  | succ j ih =>
    intro hj hd
    have hj1 : j < L.length := by omega
    have hj2 : j < R.length := by omega
    have ej : ((j + 1 : Nat) : Int) - 1 = (j : Int) := by omega
    rw [ej]
    have d1 := drop_at hj1
    have d2 := drop_at hj2
    by_cases he : rd L (j : Int) = rd R (j : Int)
    · refine Ev.step (f := fun k => spec_l01Cmp.l0 k L R ((j : Int) - 1)) (fun k => ?_) (ih (by omega) (by rw [d1, d2, he, hd]))
      simp only [spec_l01Cmp.l0]
      rw [if_pos (by omega), if_pos (by omega), if_pos (by omega), if_pos (by omega), if_pos he, wrap64_of (by omega) (by omega)]
    · have r1 := hL (rd L (j : Int)) (by rw [rd_at hj1]; exact List.getElem_mem _)
      have r2 := hR (rd R (j : Int)) (by rw [rd_at hj2]; exact List.getElem_mem _)
      have v1 : val L = val (L.take j) + 10000 ^ j * ((rd L (j : Int)).toNat + 10000 * val (L.drop (j + 1))) := by
        conv => lhs; rw [← List.take_append_drop j L]
        rw [val_append, List.length_take, Nat.min_eq_left (by omega), d1, val_cons]
      have v2 : val R = val (R.take j) + 10000 ^ j * ((rd R (j : Int)).toNat + 10000 * val (L.drop (j + 1))) := by
        conv => lhs; rw [← List.take_append_drop j R]
        rw [val_append, List.length_take, Nat.min_eq_left (by omega), d2, val_cons, hd]
      have t1 := val_lt (dg_take hL j)
      have t2 := val_lt (dg_take hR j)
      rw [List.length_take, Nat.min_eq_left (by omega)] at t1 t2
      obtain ⟨x, hx⟩ : ∃ x : Nat, rd L (j : Int) = x := ⟨(rd L (j : Int)).toNat, by omega⟩
      obtain ⟨y, hy⟩ : ∃ y : Nat, rd R (j : Int) = y := ⟨(rd R (j : Int)).toNat, by omega⟩
      rw [hx, Int.toNat_natCast] at v1
      rw [hy, Int.toNat_natCast] at v2
      rw [hx, hy] at he
      obtain ⟨P, hP⟩ : ∃ P, 10000 ^ j = P := ⟨_, rfl⟩
      obtain ⟨H, hH⟩ : ∃ H, val (L.drop (j + 1)) = H := ⟨_, rfl⟩
      rw [hP] at t1 t2 v1 v2
      rw [hH] at v1 v2
      have key : ∀ {a b s t : Nat}, a < b → s < P → s + P * (a + 10000 * H) < t + P * (b + 10000 * H) := fun {a b s t} h hs => by
        have : P * (a + 10000 * H + 1) ≤ P * (b + 10000 * H) := Nat.mul_le_mul_left _ (by omega)
        rw [Nat.mul_add, Nat.mul_one] at this
        omega
      by_cases hlt : x < y
      · have hc : cmpI (val L) (val R) = -1 := by
          unfold cmpI
          rw [if_pos (by rw [v1, v2]; exact key hlt t1)]
        rw [hc]
        refine Ev.step (f := fun _ => some (-1)) (fun k => ?_) (Ev.now _)
        simp only [spec_l01Cmp.l0]
        rw [if_pos (by omega), if_pos (by omega), if_pos (by omega), if_pos (by omega), hx, hy, if_neg he, if_pos (by omega)]
      · have hgt : val R < val L := by rw [v1, v2]; exact key (by omega) t2
        have hc : cmpI (val L) (val R) = 1 := by
          unfold cmpI
          rw [if_neg (by omega), if_neg (by omega)]
        rw [hc]
        refine Ev.step (f := fun _ => some 1) (fun k => ?_) (Ev.now _)
        simp only [spec_l01Cmp.l0]
        rw [if_pos (by omega), if_pos (by omega), if_pos (by omega), if_pos (by omega), hx, hy, if_neg he, if_neg (by omega)]
theorem cmp_ev {a b : Nat} (ha : (dig a).length ≤ 1000000) : Ev (fun k => spec_l01Cmp.f k (dig a) (dig b)) (cmpI a b) := by
  by_cases he : (dig a).length = (dig b).length
  · have h := cmp_l0 (dig a) (dig b) (dg_dig a) (dg_dig b) he ha (dig a).length (Nat.le_refl _) (by rw [List.drop_length, he, List.drop_length])
    rw [val_dig, val_dig] at h
    refine Ev.congr (fun k => ?_) h
    unfold spec_l01Cmp.f
    rw [if_pos (by omega), wrap64_of (by omega) (by omega)]
  · by_cases hlt : (dig a).length < (dig b).length
    · have hab : a < b := by
        apply Nat.lt_of_not_le
        intro h
        have := dlen_mono h
        omega
      rw [show cmpI a b = -1 by unfold cmpI; rw [if_pos hab]]
      refine Ev.congr (fun k => ?_) (Ev.now _)
      unfold spec_l01Cmp.f
      rw [if_neg (by omega), if_pos (by omega)]
    · have hab : b < a := by
        apply Nat.lt_of_not_le
        intro h
        have := dlen_mono h
        omega
      rw [show cmpI a b = 1 by unfold cmpI; rw [if_neg (by omega), if_neg (by omega)]]
      refine Ev.congr (fun k => ?_) (Ev.now _)
      unfold spec_l01Cmp.f
      rw [if_neg (by omega), if_neg (by omega)]

/-! ### l01Half -/
theorem set_drop {l : List Int} {j : Nat} (x : Int) (h : j < l.length) : (l.set j x).drop j = x :: l.drop (j + 1) := by
  have h1 : j < (l.set j x).length := by rw [List.length_set]; exact h
  rw [List.drop_eq_getElem_cons h1, List.getElem_set_self, List.drop_set_of_lt (by omega)]
theorem dg_set {l : List Int} (h : Dg l) {j : Nat} {x : Int} (h0 : 0 ≤ x) (h1 : x < 10000) : Dg (l.set j x) := fun y hy => by
  rcases List.mem_or_eq_of_mem_set hy with hy | rfl
  · exact h y hy
  · exact ⟨h0, h1⟩
theorem half_l0 (L : List Int) (hL : Dg L) (hb : L.length ≤ 1000000) : ∀ (j : Nat) (X : List Int) (c : Nat), j ≤ L.length → X.length = L.length → Dg X → val (X.drop j) = val (L.drop j) / 2 → c = val (L.drop j) % 2 →
    Ev (fun k => spec_l01Half.l0 k L X (c : Int) ((j : Int) - 1)) (dig (val L / 2)) := by
  intro j
  induction j with
  | zero =>
    intro X c _ hlen hX hv hc
    refine Ev.step (f := fun k => (spec_l01Trim.f k X).bind fun t => some t) (fun k => ?_) ?_
    · simp only [spec_l01Half.l0]
      rw [if_neg (by omega)]
    · rw [List.drop_zero, List.drop_zero] at hv
      rw [← hv]
      exact bind_some_id _ _ (trim_ev _ X rfl (by omega) hX)
  | succ j ih =>
    intro X c hj hlen hX hv hc
    have hj1 : j < L.length := by omega
    rw [show ((j + 1 : Nat) : Int) - 1 = (j : Int) by omega]
    have r1 := hL (rd L (j : Int)) (by rw [rd_at hj1]; exact List.getElem_mem _)
    obtain ⟨x, hx⟩ : ∃ x : Nat, rd L (j : Int) = x := ⟨(rd L (j : Int)).toNat, by omega⟩
    rw [hx] at r1
    obtain ⟨y, hy⟩ : ∃ y : Nat, c * 10000 + x = y := ⟨_, rfl⟩
    obtain ⟨H, hH⟩ : ∃ H, val (L.drop (j + 1)) = H := ⟨_, rfl⟩
    rw [hH] at hv hc
    have e2 : Int.tdiv (y : Int) 2 = ((y / 2 : Nat) : Int) := by rw [Int.tdiv_eq_ediv_of_nonneg (by omega)]; omega
    have e3 : Int.tmod (y : Int) 2 = ((y % 2 : Nat) : Int) := by rw [Int.tmod_eq_emod_of_nonneg (by omega)]; omega
    have e1 : Unit → wrap64 (wrap64 ((c : Int) * 10000) + (x : Int)) = (y : Int) := fun _ => by
      have hc1 : c ≤ 1 := by omega
      clear hv hc
      rw [wrap64_of (x := (c : Int) * 10000) (by omega) (by omega), wrap64_of (by omega) (by omega)]
      omega
    refine Ev.step (f := fun k => spec_l01Half.l0 k L (X.set j ((y / 2 : Nat) : Int)) ((y % 2 : Nat) : Int) ((j : Int) - 1)) (fun k => ?_) ?_
    · simp only [spec_l01Half.l0]
      rw [if_pos (by omega), if_pos (by omega), if_pos (by omega), if_pos (by omega), hx, e1 (), e2, e3, Int.toNat_natCast, wrap64_of (x := ((y / 2 : Nat) : Int)) (by omega) (by omega), wrap64_of (x := (j : Int) - 1) (by omega) (by omega)]
    · have hvL : val (L.drop j) = x + 10000 * H := by rw [drop_at hj1, val_cons, hx, hH, Int.toNat_natCast]
      refine ih (X.set j ((y / 2 : Nat) : Int)) (y % 2) (by omega) (by rw [List.length_set]; exact hlen) (dg_set hX (by omega) (by omega)) ?_ ?_
      · rw [set_drop _ (by omega), val_cons, hv, hvL, Int.toNat_natCast]
        omega
      · rw [hvL]
        omega
theorem half_ev {n : Nat} (h : (dig n).length ≤ 1000000) : Ev (fun k => spec_l01Half.f k (dig n)) (dig (n / 2)) := by
  have hg := half_l0 (dig n) (dg_dig n) h (dig n).length (List.replicate (dig n).length 0) 0 (Nat.le_refl _) (List.length_replicate ..) (fun x hx => by
    have := (List.mem_replicate.1 hx).2
    omega) (by rw [List.drop_length, List.drop_eq_nil_of_le (by rw [List.length_replicate]; exact Nat.le_refl _)]; rfl) (by rw [List.drop_length]; rfl)
  rw [val_dig] at hg
  refine Ev.congr (fun k => ?_) hg
  unfold spec_l01Half.f
  rw [Int.toNat_natCast, if_pos (by omega), if_pos (by omega), wrap64_of (by omega) (by omega)]
  rfl

/-! ### l01Minus -/
theorem minus_l0 (L R : List Int) (hL : Dg L) (hR : Dg R) (hb : L.length ≤ 1000000) : ∀ (n j c : Nat) (out : List Int), j + n = L.length → c ≤ 1 → out.length = j → Dg out → val (R.drop j) + c ≤ val (L.drop j) →
    Ev (fun k => spec_l01Minus.l0 k R out (c : Int) L (L.length : Int) (j : Int)) (dig (val out + 10000 ^ j * (val (L.drop j) - val (R.drop j) - c))) := by
  intro n
  induction n with
  | zero =>
    intro j c out hj hc ho hd hge
    refine Ev.step (f := fun k => (spec_l01Trim.f k out).bind fun t => some t) (fun k => ?_) ?_
    · simp only [spec_l01Minus.l0]
      rw [if_neg (by omega)]
    · rw [List.drop_eq_nil_of_le (by omega : L.length ≤ j), show val [] = 0 from rfl, Nat.zero_sub, Nat.zero_sub, Nat.mul_zero, Nat.add_zero]
      exact bind_some_id _ _ (trim_ev _ out rfl (by omega) hd)
  | succ n ih =>
    intro j c out hj hc ho hd hge
    have hj1 : j < L.length := by omega
    have r1 := hL (rd L (j : Int)) (by rw [rd_at hj1]; exact List.getElem_mem _)
    obtain ⟨x, hx⟩ : ∃ x : Nat, rd L (j : Int) = x := ⟨(rd L (j : Int)).toNat, by omega⟩
    rw [hx] at r1
    obtain ⟨A, hA⟩ : ∃ A, val (L.drop (j + 1)) = A := ⟨_, rfl⟩
    obtain ⟨B, hB⟩ : ∃ B, val (R.drop (j + 1)) = B := ⟨_, rfl⟩
    have hvL : val (L.drop j) = x + 10000 * A := by rw [drop_at hj1, val_cons, hx, hA, Int.toNat_natCast]
    -- the digit of R, 0 behind its end
    obtain ⟨y, hy1, hy2, hvR⟩ : ∃ y : Nat, y < 10000 ∧ (if (j : Int) < (R.length : Int) then rd R (j : Int) = y else y = 0) ∧ val (R.drop j) = y + 10000 * B := by
      by_cases hjR : j < R.length
      · have r2 := hR (rd R (j : Int)) (by rw [rd_at hjR]; exact List.getElem_mem _)
        refine ⟨(rd R (j : Int)).toNat, by omega, ?_, ?_⟩
        · rw [if_pos (by omega)]; omega
        · rw [drop_at hjR, val_cons, hB]
      · refine ⟨0, by omega, ?_, ?_⟩
        · rw [if_neg (by omega)]
        · rw [List.drop_eq_nil_of_le (by omega), ← hB, List.drop_eq_nil_of_le (by omega)]; rfl
    rw [hvL, hvR] at hge ⊢
    by_cases hlt : x < y + c
    · refine Ev.step (f := fun k => spec_l01Minus.l0 k R (out ++ [((x + 10000 - y - c : Nat) : Int)]) ((1 : Nat) : Int) L (L.length : Int) ((j + 1 : Nat) : Int)) (fun k => ?_) ?_
      · simp only [spec_l01Minus.l0]
        rw [if_pos (by omega), if_pos (by omega), if_pos (by omega), hx, wrap64_of (x := (j : Int) + 1) (by omega) (by omega), wrap64_of (x := (x : Int) - c) (by omega) (by omega)]
        by_cases hjR : (j : Int) < (R.length : Int)
        · rw [if_pos hjR] at hy2
          rw [if_pos hjR, hy2, wrap64_of (x := (x : Int) - c - y) (by omega) (by omega), if_pos (by omega), if_pos (by omega), wrap64_of (by omega) (by omega)]
          rw [show (x : Int) - c - y + 10000 = ((x + 10000 - y - c : Nat) : Int) by omega]
          rfl
        · rw [if_neg hjR] at hy2
          rw [if_neg hjR, if_pos (by omega), if_pos (by omega), wrap64_of (by omega) (by omega)]
          rw [show (x : Int) - c + 10000 = ((x + 10000 - y - c : Nat) : Int) by omega]
          rfl
      · have hg := ih (j + 1) 1 (out ++ [((x + 10000 - y - c : Nat) : Int)]) (by omega) (by omega) (by rw [List.length_append]; simp; omega) (dg_append hd (dg_one (by omega) (by omega))) (by rw [hA, hB]; omega)
        rw [hA, hB, val_snoc, ho, Int.toNat_natCast, Nat.pow_succ] at hg
        have hv : val out + 10000 ^ j * (x + 10000 - y - c) + 10000 ^ j * 10000 * (A - B - 1) = val out + 10000 ^ j * (x + 10000 * A - (y + 10000 * B) - c) := by
          rw [show x + 10000 * A - (y + 10000 * B) - c = (x + 10000 - y - c) + 10000 * (A - B - 1) by omega]
          grind
        rw [hv] at hg
        exact hg
    · refine Ev.step (f := fun k => spec_l01Minus.l0 k R (out ++ [((x - y - c : Nat) : Int)]) ((0 : Nat) : Int) L (L.length : Int) ((j + 1 : Nat) : Int)) (fun k => ?_) ?_
      · simp only [spec_l01Minus.l0]
        rw [if_pos (by omega), if_pos (by omega), if_pos (by omega), hx, wrap64_of (x := (j : Int) + 1) (by omega) (by omega), wrap64_of (x := (x : Int) - c) (by omega) (by omega)]
        by_cases hjR : (j : Int) < (R.length : Int)
        · rw [if_pos hjR] at hy2
          rw [if_pos hjR, hy2, wrap64_of (x := (x : Int) - c - y) (by omega) (by omega), if_neg (by omega), if_pos (by omega)]
          rw [show (x : Int) - c - y = ((x - y - c : Nat) : Int) by omega]
          rfl
        · rw [if_neg hjR] at hy2
          rw [if_neg hjR, if_neg (by omega), if_pos (by omega)]
          rw [show (x : Int) - c = ((x - y - c : Nat) : Int) by omega]
          rfl
      · have hg := ih (j + 1) 0 (out ++ [((x - y - c : Nat) : Int)]) (by omega) (by omega) (by rw [List.length_append]; simp; omega) (dg_append hd (dg_one (by omega) (by omega))) (by rw [hA, hB]; omega)
        rw [hA, hB, val_snoc, ho, Int.toNat_natCast, Nat.pow_succ] at hg
        have hv : val out + 10000 ^ j * (x - y - c) + 10000 ^ j * 10000 * (A - B - 0) = val out + 10000 ^ j * (x + 10000 * A - (y + 10000 * B) - c) := by
          rw [show x + 10000 * A - (y + 10000 * B) - c = (x - y - c) + 10000 * (A - B - 0) by omega]
          grind
        rw [hv] at hg
        exact hg
theorem minus_ev {a b : Nat} (hl : (dig a).length ≤ 1000000) (h : b ≤ a) : Ev (fun k => spec_l01Minus.f k (dig a) (dig b)) (dig (a - b)) := by
  have hg := minus_l0 (dig a) (dig b) (dg_dig a) (dg_dig b) hl (dig a).length 0 0 [] (by omega) (by omega) rfl (fun x hx => by cases hx) (by rw [List.drop_zero, List.drop_zero, val_dig, val_dig]; exact h)
  rw [List.drop_zero, List.drop_zero, val_dig, val_dig, Nat.pow_zero, Nat.one_mul, show val [] = 0 from rfl, Nat.zero_add, Nat.sub_zero] at hg
  exact hg
end Go.Proofs.YtlblkajnmdhmdaaGreatDoor.NB
