/-
  Plain: what the library's Cut, ReplaceAll, Atoi, Itoa and Repeat make of the text that FormatFloat writes.
-/
import Derived.Test.YtlblkajnmdhmdaaGreatDoorZNEr
import Derived.Test.YtlblkajnmdhmdaaGreatDoorZNBig8
import Derived.Lib.IndexMore
import Derived.Lib.Replace
import Derived.Lib.Repeat
import Derived.Lib.Atoi
import Derived.Lib.ItoaNum
namespace Go.Proofs.YtlblkajnmdhmdaaGreatDoor
set_option linter.unusedVariables false
open Go.RowKit Lib NR NU NB Go.Proofs.YtlblkajnmdhmdaaGreatDoorW.PrintWords
theorem index_absent (c : UInt8) : ∀ l : List UInt8, c ∉ l → Lib.index l [c] = -1
  | [], _ => rfl
  | b :: l, h => by
    have h1 : ¬ c = b := fun e => h (e ▸ List.mem_cons_self ..)
    have h2 := index_absent c l (fun hm => h (List.mem_cons_of_mem _ hm))
    unfold Lib.index
    rw [if_neg (by simp [List.isPrefixOf, h1]), h2]
    rfl
theorem index_here (c : UInt8) (B : List UInt8) : ∀ A : List UInt8, c ∉ A → Lib.index (A ++ c :: B) [c] = (A.length : Int)
  | [], _ => by
    show Lib.index (c :: B) [c] = 0
    unfold Lib.index
    rw [if_pos (by simp [List.isPrefixOf])]
  | b :: A, h => by
    have h1 : ¬ c = b := fun e => h (e ▸ List.mem_cons_self ..)
    have h2 := index_here c B A (fun hm => h (List.mem_cons_of_mem _ hm))
    show Lib.index (b :: (A ++ c :: B)) [c] = ((b :: A).length : Int)
    unfold Lib.index
    rw [if_neg (by simp [List.isPrefixOf, h1]), h2, if_neg (by simp), List.length_cons]
    omega
theorem cut_at (c : UInt8) (A B : List UInt8) (h : c ∉ A) : Lib.cut (A ++ c :: B) [c] = (A, B, true) := by
  unfold Lib.cut
  rw [index_here c B A h, if_pos (by omega)]
  simp
theorem strip_absent (c : UInt8) (A : List UInt8) (h : c ∉ A) : Lib.replaceAll A [c] [] = A := by
  have h1 := index_absent c A h
  unfold Lib.replaceAll Lib.replace
  rw [if_neg (by simp)]
  unfold Lib.replaceNum
  rw [if_pos (Or.inl (by decide))]
  have h2 : Lib.count A [c] = 0 := by
    unfold Lib.count Lib.countFrom
    rw [h1]
    rfl
  rw [h2]
  rfl
theorem strip_one (c : UInt8) (A B : List UInt8) (h : c ∉ A) (h' : c ∉ B) : Lib.replaceAll (A ++ c :: B) [c] [] = A ++ B := by
  have h1 := index_here c B A h
  unfold Lib.replaceAll Lib.replace
  rw [if_neg (by simp)]
  unfold Lib.replaceNum
  rw [if_pos (Or.inl (by decide))]
  have hd : (A ++ c :: B).drop (A.length + 1) = B := by simp
  have h2 : Lib.count (A ++ c :: B) [c] = 1 := by
    unfold Lib.count Lib.countFrom
    rw [h1, if_neg (by simp), show ((A.length : Int)).toNat = A.length by omega, show [c].length = 1 from rfl, hd]
    have : ∀ f, Lib.countFrom [c] f B = 0 := fun f => by
      cases f with
      | zero => rfl
      | succ f => unfold Lib.countFrom; rw [index_absent c B h']; rfl
    rw [this]
  rw [h2, Lib.replaceK_hit _ _ _ _ _ h1, show [c].length = 1 from rfl, hd]
  simp [Lib.replaceK]
theorem not_digit {l : List UInt8} {c : UInt8} (h : ∀ b ∈ l, isD b.toNat) (hc : ¬ isD c.toNat) : c ∉ l := fun hm => hc (h c hm)
theorem strip_mant {d0 : UInt8} {tl : List UInt8} (h : ∀ b ∈ d0 :: tl, isD b.toNat) : Lib.replaceAll (mant d0 tl) [46] [] = d0 :: tl := by
  have hn : ¬ isD (46 : UInt8).toNat := by unfold isD; decide
  unfold mant
  cases tl with
  | nil => exact strip_absent 46 [d0] (not_digit (by simpa using h) hn)
  | cons a tl =>
    rw [if_neg (by simp)]
    exact strip_one 46 [d0] (a :: tl) (not_digit (fun b hb => h b (by simp at hb; simp [hb])) hn) (not_digit (fun b hb => h b (List.mem_cons_of_mem _ hb)) hn)
theorem cut_text {d0 : UInt8} {tl : List UInt8} {X : Int} (h : ∀ b ∈ d0 :: tl, isD b.toNat) : Lib.cut (eText d0 tl X) [101] = (mant d0 tl, expo X, true) := by
  have hn : ¬ isD (101 : UInt8).toNat := by unfold isD; decide
  have hm : (101 : UInt8) ∉ mant d0 tl := by
    have h1 := not_digit h hn
    unfold mant
    cases tl with
    | nil => simpa using h1
    | cons a tl =>
      rw [if_neg (by simp)]
      simp only [List.mem_cons, not_or] at h1
      simp only [List.cons_append, List.nil_append, List.mem_cons, not_or]
      exact ⟨h1.1, by decide, h1.2⟩
  unfold eText
  rw [List.append_assoc]
  exact cut_at 101 _ _ hm
theorem dec_digits : ∀ (l : List UInt8) (m : Nat), (∀ b ∈ l, isD b.toNat) → Lib.decFrom m l = some (valS m l)
  | [], m, _ => rfl
  | b :: l, m, h => by
    have hb := h b (List.mem_cons_self ..)
    unfold isD at hb
    unfold Lib.decFrom Lib.digitVal
    rw [if_pos hb]
    exact dec_digits l _ fun c hc => h c (List.mem_cons_of_mem _ hc)
theorem dec_eDig {n : Nat} (hn : n < 1000) : Lib.decNat (eDig n) = some n := by
  have hd : ∀ b ∈ eDig n, isD b.toNat := fun b hb => by
    obtain ⟨i, hi, rfl⟩ := List.mem_iff_getElem.1 hb
    exact (eDig_ok [] n hn).2.2.2 i hi
  have hne : (eDig n).isEmpty = false := by
    have := (eDig_ok [] n hn).2.1
    cases h : eDig n with
    | nil => rw [h] at this; simp at this
    | cons a l => rfl
  unfold Lib.decNat
  rw [hne, if_neg (by decide), dec_digits _ _ hd]
  congr 1
  unfold eDig
  split
  · show (0 * 10 + (48 - 48)) * 10 + ((UInt8.ofNat (48 + n)).toNat - 48) = n
    rw [u48 (by omega)]
    omega
  · split
    · show (0 * 10 + ((UInt8.ofNat (48 + n / 10)).toNat - 48)) * 10 + ((UInt8.ofNat (48 + n % 10)).toNat - 48) = n
      rw [u48 (by omega), u48 (by omega)]
      omega
    · show ((0 * 10 + ((UInt8.ofNat (48 + n / 100)).toNat - 48)) * 10 + ((UInt8.ofNat (48 + n / 10 % 10)).toNat - 48)) * 10 + ((UInt8.ofNat (48 + n % 10)).toNat - 48) = n
      rw [u48 (by omega), u48 (by omega), u48 (by omega)]
      omega
theorem atoi_expo {X : Int} (hX : -999 ≤ X ∧ X ≤ 999) : Lib.atoi (expo X) = some X ∧ (expo X).length ≤ 18 := by
  rw [expo_eq]
  have hl := (eDig_ok [] X.natAbs (by omega)).2.2.1
  refine ⟨?_, by rw [List.length_cons]; omega⟩
  by_cases h : X < 0
  · rw [if_pos h]
    show (Lib.decNat (eDig X.natAbs)).map (fun (m : Nat) => -(m : Int)) = some X
    rw [dec_eDig (by omega)]
    show some (-(X.natAbs : Int)) = some X
    congr 1
    omega
  · rw [if_neg h]
    show (Lib.decNat (eDig X.natAbs)).map (fun (m : Nat) => (m : Int)) = some X
    rw [dec_eDig (by omega)]
    show some ((X.natAbs : Int)) = some X
    congr 1
    omega
/-- The bytes of a list of numbers. -/
def toB (l : List Int) : List UInt8 := l.map fun n => UInt8.ofNat n.toNat
theorem toB_append (a b : List Int) : toB (a ++ b) = toB a ++ toB b := List.map_append
theorem toB_length (l : List Int) : (toB l).length = l.length := List.length_map ..
theorem strOf_toB (l : List Int) : strOfNums l = ⟨(toB l).toArray⟩ := str_ext (by rw [str_list]; rfl)
theorem toB_digits {l : List UInt8} : toB (l.map fun b => (b.toNat : Int)) = l := by
  unfold toB
  rw [List.map_map]
  conv => rhs; rw [← List.map_id l]
  apply List.map_congr_left
  intro b _
  simp
theorem dv_valS : ∀ (l : List UInt8) (m : Nat), (l.map fun b => (b.toNat : Int)).foldl (fun a x => a * 10 + (x - 48).toNat) m = valS m l
  | [], m => rfl
  | b :: l, m => by
    show List.foldl _ (m * 10 + ((b.toNat : Int) - 48).toNat) (l.map _) = valS (m * 10 + (b.toNat - 48)) l
    rw [show ((b.toNat : Int) - 48).toNat = b.toNat - 48 by omega]
    exact dv_valS l _
theorem digits_decs {n D : Nat} {d0 : UInt8} {tl : List UInt8} (hl : tl.length = n) (hdig : ∀ t, t ≤ n → (d0 :: tl)[t]! = dg D (n - t)) (h1 : 10 ^ n ≤ D) (h2 : D < 10 ^ (n + 1)) :
    (∀ b ∈ d0 :: tl, isD b.toNat) ∧ d0 :: tl = toB (decs D) ∧ (decs D).length = n + 1 := by
  have hd : ∀ b ∈ d0 :: tl, isD b.toNat := fun b hb => by
    obtain ⟨i, hi, rfl⟩ := List.mem_iff_getElem.1 hb
    have hi' : i < tl.length + 1 := hi
    have h3 : (d0 :: tl)[i] = dg D (n - i) := by
      rw [← hdig i (by omega)]
      simp [getElem!_pos, hi']
    rw [h3, digit_at]
    unfold isD
    omega
  have hv : valS 0 (d0 :: tl) = D := val_digits D (d0 :: tl) 0 (fun t ht => by
    have ht' : t < tl.length + 1 := ht
    rw [hdig t (by omega), List.length_cons, hl]
    rfl) (by rw [List.length_cons, hl, Nat.div_eq_of_lt h2])
  have hdv : dv ((d0 :: tl).map fun b => (b.toNat : Int)) = D := by
    unfold dv
    rw [dv_valS]
    exact hv
  have had : AD ((d0 :: tl).map fun b => (b.toNat : Int)) := fun x hx => by
    obtain ⟨b, hb, rfl⟩ := List.mem_map.1 hx
    have := hd b hb
    unfold isD at this
    omega
  have he := decs_dv n ((d0 :: tl).map fun b => (b.toNat : Int)) (by simp [hl]) had (by rw [hdv]; exact h1)
  rw [hdv] at he
  refine ⟨hd, by rw [he, toB_digits], by rw [he]; simp [hl]⟩
theorem decD_decz (u : Nat) : Lib.decDigits u = toB (decz u) := by
  induction u using Nat.strongRecOn with
  | ind u ih =>
    rw [Lib.decDigits]
    by_cases h : u < 10
    · rw [dif_pos h, decz_eq, show u / 10 = 0 by omega, decs_zero, show u % 10 = u by omega]
      rfl
    · rw [dif_neg h, ih _ (by omega), decz_eq u, toB_append]
      have : decz (u / 10) = decs (u / 10) := by unfold decz; rw [if_neg (by omega)]
      rw [this]
      rfl
theorem itoa_itext (n : Int) : Lib.itoa n = toB (itext n) := by
  unfold Lib.itoa itext
  by_cases h : n < 0
  · rw [if_pos h, if_pos h, toB_append, decD_decz]
    rfl
  · rw [if_neg h, if_neg h, decD_decz, show n.toNat = n.natAbs by omega]
    rfl
theorem rep_zeros : ∀ n, Lib.repeatL [48] n = toB (List.replicate n 48)
  | 0 => rfl
  | n + 1 => by
    show [48] ++ Lib.repeatL [48] n = _
    rw [rep_zeros n]
    rfl
end Go.Proofs.YtlblkajnmdhmdaaGreatDoor
