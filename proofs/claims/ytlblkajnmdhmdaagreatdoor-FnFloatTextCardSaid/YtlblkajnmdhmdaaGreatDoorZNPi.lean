/-
  Plain: the text of a float that is not negative is a numeral that reads as that float; the text of a whole number.
  Contract: strconv.ParseInt(s, 10, 64) at a row of digits.
-/
import Derived.Test.YtlblkajnmdhmdaaGreatDoorZNSx
import Derived.Test.YtlblkajnmdhmdaaGreatDoorZShelf
import Derived.Lib.ParseIntBCases
import Derived.Lib.AtoiErrMem
namespace Go.Proofs.YtlblkajnmdhmdaaGreatDoor
set_option linter.unusedVariables false
open Go.RowKit Lib NR NU NB Go.Proofs.YtlblkajnmdhmdaaGreatDoorW.PrintWords
/-- A numeral with a point or an exponent: m * 10^X. -/
def FNum (s : ByteArray) (m : Nat) (X : Int) : Prop := ∃ (P : Nat) (E : Int), s.size ≤ 100 ∧ Digs s P ∧ ((P = s.size ∧ E = 0) ∨ ∃ q neg, HasExp s P q neg ∧ E = expI s q neg) ∧ (scan s P).tr = false ∧ (scan s P).m = m ∧ expOf (scan s P) E = X ∧ (P = s.size → (scan s P).dot = true)
theorem FNum.num {s : ByteArray} {m : Nat} {X : Int} (h : FNum s m X) : Num s m X := by
  obtain ⟨P, E, h1, h2, h3, h4, h5, h6, _⟩ := h
  exact ⟨P, E, by omega, h2, h3, h4, h5, h6⟩
theorem fold_tail : ∀ (l : List UInt8) (r : RS), (∀ b ∈ l, isD b.toNat) → r.nm = r.nd → r.nd + l.length ≤ 19 → (r.nd = 0 → r.m = 0) →
    ∃ r' : RS, l.foldl (fun r b => NR.step r b.toNat) r = r' ∧ r'.m = valS r.m l ∧ r'.nm = r'.nd ∧ r'.nd ≤ r.nd + l.length ∧ (r'.nd = 0 → r'.m = 0) ∧ r'.dot = r.dot ∧ ((r.dig = true ∨ l ≠ []) → r'.dig = true) ∧ r'.tr = r.tr ∧ r'.dp - r'.nd = r.dp - r.nd - l.length
  | [], r, _, h1, h2, h3 => ⟨r, rfl, rfl, h1, by simp, h3, rfl, fun h => h.elim id (fun h => absurd rfl h), rfl, by simp⟩
  | b :: l, r, hd, h1, h2, h3 => by
    have hb := hd b (List.mem_cons_self ..)
    unfold isD at hb
    have hl : (b :: l).length = l.length + 1 := rfl
    rw [hl] at h2
    have hs : ∃ r1, NR.step r b.toNat = r1 ∧ r1.m = r.m * 10 + (b.toNat - 48) ∧ r1.nm = r1.nd ∧ r1.nd ≤ r.nd + 1 ∧ (r1.nd = 0 → r1.m = 0) ∧ r1.dot = r.dot ∧ r1.dig = true ∧ r1.tr = r.tr ∧ r1.dp - r1.nd = r.dp - r.nd - 1 := by
      refine ⟨_, rfl, ?_⟩
      unfold NR.step
      rw [if_neg (by omega)]
      by_cases h0 : b.toNat = 48 ∧ r.nd = 0
      · rw [if_pos h0]
        have := h3 h0.2
        refine ⟨by show r.m = _; omega, h1, by show r.nd ≤ _; omega, h3, rfl, rfl, rfl, by show r.dp - 1 - (r.nd : Int) = _; omega⟩
      · rw [if_neg h0, if_pos (by omega)]
        refine ⟨rfl, by show r.nm + 1 = r.nd + 1; omega, Nat.le_refl _, fun h => ?_, rfl, rfl, rfl, by show r.dp - ((r.nd + 1 : Nat) : Int) = _; omega⟩
        exact absurd h (Nat.succ_ne_zero _)
    obtain ⟨r1, e1, a1, a2, a3, a4, a5, a6, a7, a8⟩ := hs
    obtain ⟨r2, e2, b1, b2, b3, b4, b5, b6, b7, b8⟩ := fold_tail l r1 (fun c hc => hd c (List.mem_cons_of_mem _ hc)) a2 (by omega) a4
    refine ⟨r2, ?_, ?_, b2, by rw [hl]; omega, b4, b5.trans a5, fun _ => b6 (Or.inl a6), b7.trans a7, by rw [hl]; omega⟩
    · show l.foldl _ (NR.step r b.toNat) = r2
      rw [e1]
      exact e2
    · rw [b1, a1]
      rfl
theorem fold_zeros : ∀ (n : Nat) (r : RS), r.nd = 0 → r.dig = true → (List.replicate n (48 : UInt8)).foldl (fun r b => NR.step r b.toNat) r = { r with dp := r.dp - n }
  | 0, r, _, _ => by cases r; simp
  | n + 1, r, h, hg => by
    show (List.replicate n (48 : UInt8)).foldl _ (NR.step r 48) = _
    have : NR.step r 48 = { r with dp := r.dp - 1 } := by
      unfold NR.step
      rw [if_neg (by decide), if_pos ⟨rfl, h⟩, ← hg]
    rw [this, fold_zeros n { r with dp := r.dp - 1 } h hg]
    simp only [RS.mk.injEq, true_and, and_true]
    omega
theorem fold_append (A B : List UInt8) : foldS (A ++ B) = B.foldl (fun r b => NR.step r b.toNat) (foldS A) := by unfold foldS; rw [List.foldl_append]
/-- A text with a point. -/
theorem point_num {A B : List UInt8} {m : Nat} {X : Int} (hA : ∀ b ∈ A, isD b.toNat) (hB : ∀ b ∈ B, isD b.toNat) (hl : A.length + 1 + B.length ≤ 100)
    (hdA : (foldS A).dot = false) (h1 : (foldS (A ++ 46 :: B)).m = m) (h2 : (foldS (A ++ 46 :: B)).tr = false) (h3 : (foldS (A ++ 46 :: B)).dig = true) (h4 : (foldS (A ++ 46 :: B)).dot = true) (h5 : expOf (foldS (A ++ 46 :: B)) 0 = X) :
    FNum ⟨(A ++ 46 :: B).toArray⟩ m X := by
  have hlen : (A ++ 46 :: B).length = A.length + 1 + B.length := by simp; omega
  have hsize : (⟨(A ++ 46 :: B).toArray⟩ : ByteArray).size = A.length + 1 + B.length := by rw [← hlen]; rfl
  have hsc : ∀ k, k ≤ A.length + 1 + B.length → scan ⟨(A ++ 46 :: B).toArray⟩ k = foldS ((A ++ 46 :: B).take k) := fun k hk => scan_list _ k (by omega)
  have hP : scan ⟨(A ++ 46 :: B).toArray⟩ (A.length + 1 + B.length) = foldS (A ++ 46 :: B) := by rw [hsc _ (Nat.le_refl _), List.take_of_length_le (by omega)]
  refine ⟨A.length + 1 + B.length, 0, by omega, ⟨by omega, by omega, fun k hk => ?_, by rw [hP]; exact h3⟩, Or.inl ⟨hsize.symm, rfl⟩, by rw [hP]; exact h2, by rw [hP]; exact h1, by rw [hP]; exact h5, fun _ => by rw [hP]; exact h4⟩
  rw [bt_list _ k (by omega)]
  rcases Nat.lt_trichotomy k A.length with h | h | h
  · right
    rw [List.getElem_append_left h]
    exact hA _ (List.getElem_mem h)
  · left
    subst h
    refine ⟨by simp, ?_⟩
    rw [hsc _ (by omega), List.take_left]
    exact hdA
  · right
    obtain ⟨i, rfl⟩ : ∃ i, k = A.length + 1 + i := ⟨k - (A.length + 1), by omega⟩
    have : (A ++ 46 :: B)[A.length + 1 + i]'(by omega) = B[i]'(by omega) := by
      rw [List.getElem_append_right (by omega)]
      simp [show A.length + 1 + i - A.length = i + 1 by omega]
    rw [this]
    exact hB _ (List.getElem_mem _)
theorem valS_append (A B : List UInt8) (m : Nat) : valS m (A ++ B) = valS (valS m A) B := by unfold valS; rw [List.foldl_append]
theorem valS_zeros : ∀ (n m : Nat), valS m (List.replicate n 48) = m * 10 ^ n
  | 0, m => by simp [valS]
  | n + 1, m => by
    show valS (m * 10 + 0) (List.replicate n 48) = _
    rw [valS_zeros n, Nat.add_zero, Nat.pow_succ, Nat.mul_assoc, Nat.mul_comm 10]
theorem wordE_shift {n a : Nat} {e : Int} : wordE (n * 10 ^ a) (e - a) = wordE n e := by
  unfold wordE
  refine word_eq (Nat.pow_pos (by decide)) (Nat.pow_pos (by decide)) ?_
  have h : 10 ^ a * 10 ^ (e - a).toNat * 10 ^ (-e).toNat = 10 ^ e.toNat * 10 ^ (-(e - a)).toNat := by
    rw [← Nat.pow_add, ← Nat.pow_add, ← Nat.pow_add]
    exact congrArg (10 ^ ·) (by omega)
  rw [Nat.mul_assoc n, Nat.mul_assoc n, h, Nat.mul_assoc n]
theorem d48 : isD (48 : UInt8).toNat := ⟨by decide, by decide⟩
theorem zeros_d (n : Nat) : ∀ b ∈ List.replicate n (48 : UInt8), isD b.toNat := fun b hb => by rw [(List.mem_replicate.1 hb).2]; exact d48
theorem app_d {A B : List UInt8} (hA : ∀ b ∈ A, isD b.toNat) (hB : ∀ b ∈ B, isD b.toNat) : ∀ b ∈ A ++ B, isD b.toNat := fun b hb => (List.mem_append.1 hb).elim (hA b) (hB b)
theorem step46 (r : RS) : NR.step r 46 = { r with dot := true, dp := r.nd } := by unfold NR.step; rw [if_pos rfl]
/-- Digits, a point, digits: 19 at most. -/
theorem point19 {A B : List UInt8} (hA : ∀ b ∈ A, isD b.toNat) (hB : ∀ b ∈ B, isD b.toNat) (h0 : A ≠ []) (hl : A.length + B.length ≤ 19) {m : Nat} (hm : valS 0 (A ++ B) = m) (hm0 : m ≠ 0) :
    FNum ⟨(A ++ 46 :: B).toArray⟩ m (-(B.length : Int)) := by
  obtain ⟨r1, e1, a1, a2, a3, a4, a5, a6, a7, a8⟩ := fold_tail A rs0 hA rfl (by show 0 + A.length ≤ 19; omega) (fun _ => rfl)
  have hf : foldS A = r1 := e1
  have ha3 : r1.nd ≤ 0 + A.length := a3
  obtain ⟨r2, e2, b1, b2, b3, b4, b5, b6, b7, b8⟩ := fold_tail B (NR.step r1 46) hB (by rw [step46]; exact a2) (by rw [step46]; show r1.nd + B.length ≤ 19; omega) (by rw [step46]; exact a4)
  rw [step46] at b1 b3 b5 b6 b7 b8
  have hF : foldS (A ++ 46 :: B) = r2 := by
    rw [fold_append, hf]
    exact e2
  have hv : r2.m = m := by
    rw [b1, ← hm, valS_append]
    show valS r1.m B = _
    rw [a1]
    rfl
  refine point_num hA hB (by omega) (by rw [hf, a5]; rfl) (by rw [hF]; exact hv) (by rw [hF, b7]; exact a7) (by rw [hF]; exact b6 (Or.inl (a6 (Or.inr h0)))) (by rw [hF, b5]) ?_
  rw [hF]
  unfold expOf dpt
  rw [hv, if_neg hm0, b5]
  have h8 : r2.dp - r2.nd = (r1.nd : Int) - r1.nd - B.length := b8
  rw [if_pos rfl, b2]
  omega
/-- Nothing, a point, zeros, digits. -/
theorem point_small {n : Nat} {B : List UInt8} (hB : ∀ b ∈ B, isD b.toNat) (hn : n ≤ 40) (h0 : B ≠ []) (hl : B.length ≤ 19) {m : Nat} (hm : valS 0 B = m) (hm0 : m ≠ 0) :
    FNum ⟨([48] ++ 46 :: (List.replicate n 48 ++ B)).toArray⟩ m (-((n + B.length : Nat) : Int)) := by
  have hf : foldS [48] = ⟨0, 0, 0, -1, false, true, false⟩ := rfl
  have hz := fold_zeros n ⟨0, 0, 0, 0, true, true, false⟩ rfl rfl
  obtain ⟨r2, e2, b1, b2, b3, b4, b5, b6, b7, b8⟩ := fold_tail B ⟨0, 0, 0, 0 - (n : Int), true, true, false⟩ hB rfl (by show 0 + B.length ≤ 19; omega) (fun _ => rfl)
  have hF : foldS ([48] ++ 46 :: (List.replicate n 48 ++ B)) = r2 := by
    rw [fold_append, hf]
    show List.foldl _ (⟨0, 0, 0, 0, true, true, false⟩ : RS) (List.replicate n 48 ++ B) = r2
    rw [List.foldl_append, hz]
    exact e2
  have hv : r2.m = m := by rw [b1, ← hm]
  refine point_num (by intro b hb; simp only [List.mem_cons, List.not_mem_nil, or_false] at hb; rw [hb]; exact d48) (app_d (zeros_d n) hB) (by simp; omega) rfl (by rw [hF]; exact hv) (by rw [hF, b7]) (by rw [hF]; exact b6 (Or.inl rfl)) (by rw [hF, b5]) ?_
  rw [hF]
  unfold expOf dpt
  rw [hv, if_neg hm0, b5]
  have h8 : r2.dp - r2.nd = 0 - (n : Int) - ((0 : Nat) : Int) - B.length := b8
  rw [if_pos rfl, b2]
  omega
theorem zero_fnum : FNum ⟨(([48] : List UInt8) ++ 46 :: [48]).toArray⟩ 0 0 :=
  point_num (A := [48]) (B := [48]) (by intro b hb; simp only [List.mem_cons, List.not_mem_nil, or_false] at hb; rw [hb]; exact d48) (by intro b hb; simp only [List.mem_cons, List.not_mem_nil, or_false] at hb; rw [hb]; exact d48) (by decide) rfl rfl rfl rfl rfl rfl
theorem pad_eDig {n : Nat} (hn : n < 1000) : toB (pad2 (decz n)) = eDig n := by
  have h1 : ∀ k, k < 10 → decs k = if k = 0 then [] else [((48 + k : Nat) : Int)] := fun k hk => by
    by_cases h : k = 0
    · rw [if_pos h, h, decs_zero]
    · rw [if_neg h, decs_pos h, show k / 10 = 0 by omega, decs_zero, show k % 10 = k by omega]
      rfl
  unfold eDig pad2
  rw [decz_eq]
  by_cases a : n < 10
  · rw [if_pos a, show n / 10 = 0 by omega, decs_zero, show n % 10 = n by omega]
    rfl
  · by_cases b : n < 100
    · rw [if_neg a, if_pos b, h1 (n / 10) (by omega), if_neg (show ¬ n / 10 = 0 by omega), if_neg (by simp)]
      rfl
    · rw [if_neg a, if_neg b, decs_pos (show n / 10 ≠ 0 by omega), h1 (n / 10 / 10) (by omega), if_neg (show ¬ n / 10 / 10 = 0 by omega), show n / 10 / 10 = n / 100 by omega, if_neg (by simp)]
      rfl
theorem decs_get : ∀ (n D : Nat), (decs D).length = n + 1 → ∀ t, t ≤ n → (toB (decs D))[t]! = dg D (n - t)
  | n, D, hl, t, ht => by
    have hD : D ≠ 0 := fun h => by rw [h, decs_zero] at hl; simp at hl
    have he := decs_pos hD
    have hl2 : (decs (D / 10)).length = n := by rw [he, List.length_append] at hl; simpa using hl
    have e1 : toB [((48 + D % 10 : Nat) : Int)] = [UInt8.ofNat (48 + D % 10)] := rfl
    rw [he, toB_append, e1]
    by_cases h : t = n
    · subst h
      have : (toB (decs (D / 10)) ++ [UInt8.ofNat (48 + D % 10)])[t]! = UInt8.ofNat (48 + D % 10) := by
        rw [getElem!_pos _ _ (by rw [List.length_append, toB_length, hl2]; simp), List.getElem_append_right (by rw [toB_length]; omega)]
        simp
      rw [this, Nat.sub_self]
      unfold dg
      rw [Nat.pow_zero, Nat.div_one]
    · cases n with
      | zero => omega
      | succ n =>
        have ih := decs_get n (D / 10) hl2 t (by omega)
        have : (toB (decs (D / 10)) ++ [UInt8.ofNat (48 + D % 10)])[t]! = (toB (decs (D / 10)))[t]! := by
          rw [getElem!_pos _ _ (by rw [List.length_append, toB_length, hl2]; omega), getElem!_pos _ _ (by rw [toB_length]; omega), List.getElem_append_left (by rw [toB_length]; omega)]
        rw [this, ih]
        unfold dg
        rw [Nat.div_div_eq_div_mul, ← Nat.pow_succ', show (n - t).succ = n + 1 - t by omega]
theorem valS_toB : ∀ (l : List Int) (m : Nat), AD l → valS m (toB l) = l.foldl (fun a x => a * 10 + (x - 48).toNat) m
  | [], m, _ => rfl
  | x :: l, m, h => by
    have hx := h x (List.mem_cons_self ..)
    show valS (m * 10 + ((UInt8.ofNat x.toNat).toNat - 48)) (toB l) = List.foldl _ (m * 10 + (x - 48).toNat) l
    rw [valS_toB l _ (fun y hy => h y (List.mem_cons_of_mem _ hy)), UInt8.toNat_ofNat', show x.toNat % 2 ^ 8 - 48 = (x - 48).toNat by omega]
theorem toB_isD {l : List Int} (h : AD l) : ∀ b ∈ toB l, isD b.toNat := fun b hb => by
  obtain ⟨x, hx, rfl⟩ := List.mem_map.1 hb
  have := h x hx
  rw [UInt8.toNat_ofNat']
  unfold isD
  omega
/-- The text of a finite word that is not negative reads back as the word. -/
theorem ft_num {u : Nat} {t : List Int} (hu : u < 2047 * 2 ^ 52) (h : FT u t) : ∃ m X, FNum (strOfNums t) m X ∧ wordE m X = u := by
  unfold FT at h
  rcases h with ⟨h0, ht⟩ | ⟨h0, K, j, hW, j1, j2, k1, k2, k3, _, ht⟩
  · rw [ht]
    have e : strOfNums (ftext [48] 0) = ⟨(([48] : List UInt8) ++ 46 :: [48]).toArray⟩ := by rw [strOf_toB]; rfl
    rw [e]
    exact ⟨0, 0, zero_fnum, (wordE_zero 0).trans h0.symm⟩
  · obtain ⟨b1, b2, b3, b4⟩ := digK_bounds hW j2 k1 k2 j1
    have hl := decs_len_eq k1 b1 b2
    rw [ht]
    clear ht
    unfold backK at k3
    obtain ⟨⟨D, jx⟩, hdk⟩ : ∃ p, digK u K j = p := ⟨_, rfl⟩
    rw [hdk] at b1 b2 b3 b4 hl k3 ⊢
    dsimp only at b1 b2 b3 b4 hl k3 ⊢
    rw [← wordE_at] at k3
    have hD0 : D ≠ 0 := by have := Nat.pow_pos (n := K - 1) (show 0 < 10 by decide); omega
    obtain ⟨x, hx⟩ : ∃ x : Int, x = (jx : Int) - 348 := ⟨_, rfl⟩
    have hwx : wordE D (x + 1 - K) = u := by rw [← k3]; exact congrArg (wordE D) (by omega)
    rw [← hx]
    have had := ad_decs D
    have hdv : valS 0 (toB (decs D)) = D := (valS_toB _ 0 had).trans (dv_decs D)
    have hdd := toB_isD had
    have hbl : (toB (decs D)).length = K := by rw [toB_length, hl]
    rw [strOf_toB]
    unfold ftext
    split
    · rename_i hx2
      obtain ⟨d0, tl, hdt⟩ : ∃ d0 tl, toB (decs D) = d0 :: tl := by
        cases h : toB (decs D) with
        | nil => rw [h] at hbl; simp at hbl; omega
        | cons a l => exact ⟨a, l, rfl⟩
      have htl : tl.length = K - 1 := by rw [hdt, List.length_cons] at hbl; omega
      have hget := decs_get (K - 1) D (by omega)
      rw [hdt] at hget
      have hxb : -999 ≤ x ∧ x ≤ 999 := by omega
      have hxk : x - ((K - 1 : Nat) : Int) = x + 1 - K := by omega
      have hpn : x.natAbs < 1000 := by omega
      have htz : (tl.length = 0) ↔ ¬ 1 < K := by omega
      obtain ⟨P, E, h3, h4, h5, h6, h7, h8, h9⟩ := text_ex htl (by omega) hget b1 (by rw [show K - 1 + 1 = K by omega]; exact b2) hxb
      have ht : toB ((decs D).take 1 ++ (if 1 < (decs D).length then 46 :: (decs D).drop 1 else []) ++ [101] ++ [if x < 0 then 45 else 43] ++ pad2 (decz x.natAbs)) = eText d0 tl x := by
        rw [toB_append, toB_append, toB_append, toB_append, pad_eDig hpn]
        have e1 : toB ((decs D).take 1) = [d0] := by
          show ((decs D).take 1).map _ = _
          rw [List.map_take]
          show (toB (decs D)).take 1 = _
          rw [hdt]
          rfl
        have e2 : toB (if 1 < (decs D).length then 46 :: (decs D).drop 1 else []) = if tl.length = 0 then [] else 46 :: tl := by
          rw [hl]
          by_cases hk : 1 < K
          · rw [if_pos hk, if_neg (fun h => htz.1 h hk)]
            show 46 :: ((decs D).drop 1).map _ = _
            rw [List.map_drop]
            show 46 :: (toB (decs D)).drop 1 = _
            rw [hdt]
            rfl
          · rw [if_neg hk, if_pos (htz.2 hk)]
            rfl
        have e3 : toB [if x < 0 then 45 else 43] = [if x < 0 then 45 else 43] := by split <;> rfl
        rw [e1, e2, e3]
        unfold eText mant
        rw [expo_eq]
        simp [toB]
      rw [ht]
      exact ⟨D, x - (K - 1 : Nat), ⟨P, E, h3, h4, h5, h6, h7, h8, fun h => absurd h (Nat.ne_of_lt h9)⟩, by rw [← hwx, hxk]⟩
    · split
      · have ht : toB ([48, 46] ++ List.replicate (-x - 1).toNat 48 ++ decs D) = [48] ++ 46 :: (List.replicate (-x - 1).toNat 48 ++ toB (decs D)) := by
          rw [toB_append, toB_append]
          have : toB (List.replicate (-x - 1).toNat 48) = List.replicate (-x - 1).toNat 48 := by
            show (List.replicate _ _).map _ = _
            rw [List.map_replicate]
            rfl
          rw [this]
          rfl
        rw [ht]
        exact ⟨D, _, point_small hdd (by omega) (fun h => by rw [h] at hbl; simp at hbl; omega) (by omega) hdv hD0, by rw [← hwx]; exact congrArg (wordE D) (by omega)⟩
      · split
        · rename_i hle
          obtain ⟨z, hz⟩ : ∃ z, (x + 1 - (decs D).length).toNat = z := ⟨_, rfl⟩
          rw [hz]
          have hzr : toB (List.replicate z 48) = List.replicate z 48 := by
            show (List.replicate _ _).map _ = _
            rw [List.map_replicate]
            rfl
          have ht : toB (decs D ++ List.replicate z 48 ++ [46, 48]) = (toB (decs D) ++ List.replicate z 48) ++ 46 :: [48] := by
            rw [toB_append, toB_append, hzr]
            rfl
          rw [ht]
          have hv : valS 0 (toB (decs D) ++ List.replicate z 48 ++ [48]) = D * 10 ^ (z + 1) := by
            rw [valS_append, valS_append, hdv, valS_zeros]
            show D * 10 ^ z * 10 + 0 = _
            rw [Nat.pow_succ, Nat.mul_assoc, Nat.add_zero]
          have hn0 : D * 10 ^ (z + 1) ≠ 0 := Nat.ne_of_gt (Nat.mul_pos (by omega) (Nat.pow_pos (by decide)))
          refine ⟨D * 10 ^ (z + 1), _, point19 (app_d hdd (zeros_d z)) (by intro b hb; simp only [List.mem_cons, List.not_mem_nil, or_false] at hb; rw [hb]; exact d48) (fun h => by have := congrArg List.length h; rw [List.length_append, hbl] at this; simp at this; omega) (by rw [List.length_append, hbl, List.length_replicate]; simp; omega) hv hn0, ?_⟩
          rw [← hwx, ← wordE_shift (n := D) (a := z + 1) (e := x + 1 - K)]
          exact congrArg (wordE _) (by simp; omega)
        · rename_i hle
          have ht : toB ((decs D).take (x + 1).toNat ++ [46] ++ (decs D).drop (x + 1).toNat) = (toB (decs D)).take (x + 1).toNat ++ 46 :: (toB (decs D)).drop (x + 1).toNat := by
            rw [toB_append, toB_append]
            unfold toB
            rw [List.map_take, List.map_drop]
            simp
          rw [ht]
          have hlt : ((toB (decs D)).take (x + 1).toNat).length = (x + 1).toNat := by rw [List.length_take]; omega
          have hld : ((toB (decs D)).drop (x + 1).toNat).length = K - (x + 1).toNat := by rw [List.length_drop, hbl]
          refine ⟨D, _, point19 (fun b hb => hdd b (List.mem_of_mem_take hb)) (fun b hb => hdd b (List.mem_of_mem_drop hb)) (fun h => by rw [h] at hlt; simp at hlt; omega) (by omega) (by rw [List.take_append_drop]; exact hdv) hD0, ?_⟩
          rw [← hwx]
          exact congrArg (wordE D) (by rw [hld]; omega)
end Go.Proofs.YtlblkajnmdhmdaaGreatDoor

namespace Go.Proofs.YtlblkajnmdhmdaaGreatDoor
set_option linter.unusedVariables false
open Go.RowKit Lib NR
theorem valS_ge : ∀ (l : List UInt8) (m : Nat), m ≤ valS m l
  | [], m => Nat.le_refl m
  | b :: l, m => Nat.le_trans (by omega) (valS_ge l (m * 10 + (b.toNat - 48)))
theorem parse_digits : ∀ (l : List UInt8) (m : Nat), (∀ b ∈ l, isD b.toNat) → m < 18446744073709551616 → Lib.parseUint10 m l = if valS m l < 18446744073709551616 then .ok (valS m l) else .range
  | [], m, _, h => by
    show NumEnd.ok m = if m < _ then NumEnd.ok m else .range
    rw [if_pos h]
  | b :: l, m, hd, h => by
    have hb := hd b (List.mem_cons_self ..)
    unfold isD at hb
    have hg := valS_ge l (m * 10 + (b.toNat - 48))
    have he : valS m (b :: l) = valS (m * 10 + (b.toNat - 48)) l := rfl
    unfold Lib.parseUint10
    rw [if_pos hb, he]
    split
    · rw [if_neg (by omega)]
    · split
      · rw [if_neg (by omega)]
      · exact parse_digits l _ (fun c hc => hd c (List.mem_cons_of_mem _ hc)) (by omega)
/-- What ParseInt makes of digits. -/
def intVal (l : List UInt8) : Option Int := if valS 0 l < 9223372036854775808 then some (valS 0 l : Int) else none
theorem parseInt_digits {l : List UInt8} (hd : ∀ b ∈ l, isD b.toNat) (h0 : l ≠ []) : Lib.parseIntB 64 l = if valS 0 l < 9223372036854775808 then .ok (valS 0 l : Int) else .range := by
  cases l with
  | nil => exact absurd rfl h0
  | cons c r =>
    have hc := hd c (List.mem_cons_self ..)
    unfold isD at hc
    rw [Lib.parseIntB_plain 64 c r (by omega) (by omega), Lib.parseUintB_64]
    unfold Lib.parseMag
    rw [if_neg (by simp), parse_digits _ _ hd (by decide)]
    obtain ⟨v, hv⟩ : ∃ v, valS 0 (c :: r) = v := ⟨_, rfl⟩
    rw [hv]
    by_cases h : v < 18446744073709551616
    · rw [if_pos h]
      show (if 2 ^ (64 - 1) ≤ v then NumEnd.range else .ok (v : Int)) = _
      by_cases h2 : v < 9223372036854775808
      · rw [if_neg (by omega), if_pos h2]
      · rw [if_pos (by omega), if_neg h2]
    · rw [if_neg h, if_neg (by omega)]
      rfl
theorem parseInt_any {l : List UInt8} (hd : ∀ b ∈ l, isD b.toNat) (h0 : l ≠ []) (hl : l.length ≤ 100) (w : World) (hr : ∃ ev, w.cell? ⟨2, 0, none⟩ = some ev ∧ (ev = .nilIface ∨ ∃ te pe, ev = .iface te pe)) :
    Calls Tryz.prog 48 #[.string ⟨l.toArray⟩, .int .i64 10, .int .i64 64] w fun r w2 => (∃ v er, r = .returned (.tuple #[.int .i64 v, er]) ∧ ((er = .nilIface ∧ intVal l = some v) ∨ ((∃ t p, er = .iface t p) ∧ intVal l = none))) ∧ Below w.heap.size w w2 := by
  have hs : (⟨l.toArray⟩ : ByteArray).size = l.length := rfl
  have hp := parseInt_digits hd h0
  unfold intVal
  by_cases h : valS 0 l < 9223372036854775808
  · rw [if_pos h] at hp
    rw [if_pos h]
    refine (Tryz.strconv_ParseInt_10_at64_ok ⟨l.toArray⟩ (by omega) _ hp w).mono ?_
    rintro r w' ⟨rfl, hw⟩
    refine ⟨⟨_, _, rfl, Or.inl ⟨rfl, rfl⟩⟩, ?_⟩
    rcases hw with rfl | ⟨t, rfl⟩
    · exact Below.refl _ _
    · exact Lib.bytesWorld_below _ _ _
  · rw [if_neg h] at hp
    rw [if_neg h]
    obtain ⟨ev, hv, hev⟩ := hr
    refine (Tryz.strconv_ParseInt_10_at64_range ⟨l.toArray⟩ (by omega) hp ev w hv hev).mono ?_
    rintro r w' ⟨N, rfl, _, _, hb⟩
    exact ⟨⟨_, _, rfl, Or.inr ⟨⟨_, _, rfl⟩, rfl⟩⟩, hb⟩
/-- Digits alone: the whole text is scanned. -/
theorem digits_digs {l : List UInt8} (hd : ∀ b ∈ l, isD b.toNat) (h0 : l ≠ []) : Digs ⟨l.toArray⟩ l.length ∧ (scan ⟨l.toArray⟩ l.length).dot = false := by
  have key : ∀ k, k ≤ l.length → (scan ⟨l.toArray⟩ k).dot = false ∧ (0 < k → (scan ⟨l.toArray⟩ k).dig = true) := by
    intro k
    induction k with
    | zero => intro _; exact ⟨rfl, fun h => absurd h (by decide)⟩
    | succ k ih =>
      intro hk
      have hb := hd l[k] (List.getElem_mem (by omega))
      have e : scan ⟨l.toArray⟩ (k + 1) = NR.step (scan ⟨l.toArray⟩ k) (l[k].toNat) := by
        show NR.step _ (bt _ k) = _
        rw [bt_list l k (by omega)]
      rw [e]
      refine ⟨(step_dot hb).trans (ih (by omega)).1, fun _ => ?_⟩
      unfold isD at hb
      unfold NR.step
      rw [if_neg (by omega)]
      split
      · rfl
      · split <;> rfl
  have hl : 0 < l.length := by
    cases l with
    | nil => exact absurd rfl h0
    | cons a r => exact Nat.succ_pos _
  refine ⟨⟨hl, Nat.le_refl _, fun k hk => Or.inr ?_, (key _ (Nat.le_refl _)).2 hl⟩, (key _ (Nat.le_refl _)).1⟩
  rw [bt_list l k hk]
  exact hd _ (List.getElem_mem hk)
end Go.Proofs.YtlblkajnmdhmdaaGreatDoor
