/-
  Plain law over the printed functions: the text that the reference's FormatNumber writes.
-/
import Derived.Test.YtlblkajnmdhmdaaGreatDoorZNBig7
import Derived.Test.YtlblkajnmdhmdaaGreatDoorZSText
namespace Go.Proofs.YtlblkajnmdhmdaaGreatDoor.NB
set_option linter.unusedVariables false
open Go Go.RowKit Go.Proofs.YtlblkajnmdhmdaaGreatDoor.PFormatNumber Go.Proofs.YtlblkajnmdhmdaaGreatDoorW.PrintWords Go.Proofs.YtlblkajnmdhmdaaGreatDoorW.PrintLast Go.Proofs.YtlblkajnmdhmdaaGreatDoorW.PrintMore Go.Proofs.YtlblkajnmdhmdaaGreatDoor.NU

/-! ### strings as lists of numbers -/
theorem str_ext {a b : ByteArray} (h : a.data.toList = b.data.toList) : a = b := by
  cases a with | mk a => cases b with | mk b => exact congrArg ByteArray.mk (Array.ext' h)
theorem str_list (l : List Int) : (strOfNums l).data.toList = l.map fun n => UInt8.ofNat n.toNat := by simp [strOfNums]
theorem str_size (l : List Int) : (strOfNums l).size = l.length := by simp [strOfNums, ByteArray.size]
theorem str_append (l r : List Int) : strOfNums l ++ strOfNums r = strOfNums (l ++ r) := by
  apply str_ext
  rw [ByteArray.data_append, Array.toList_append, str_list, str_list, str_list, List.map_append]
theorem str_extract (l : List Int) (a b : Nat) : (strOfNums l).extract a b = strOfNums ((l.take b).drop a) := by
  apply str_ext
  rw [ByteArray.data_extract, Array.toList_extract, str_list, str_list, List.extract_eq_drop_take', List.map_drop, List.map_take]
theorem str_lit1 (a : UInt8) : (⟨#[a]⟩ : ByteArray) = strOfNums [((a.toNat : Nat) : Int)] := by
  apply str_ext
  rw [str_list]
  simp
/-! ### l01Dec -/
def decz (u : Nat) : List Int := if u = 0 then [48] else decs u
theorem decz_eq (u : Nat) : decz u = decs (u / 10) ++ [((48 + u % 10 : Nat) : Int)] := by
  unfold decz
  by_cases h : u = 0
  · subst h; rw [if_pos rfl, show 0 / 10 = 0 by decide, decs_zero]; rfl
  · rw [if_neg h, decs_pos h]
/-- An integer's decimal text. -/
def itext (v : Int) : List Int := (if v < 0 then [45] else []) ++ decz v.natAbs

theorem dec_l0 (v : Int) (u : Nat) : ∀ (X : List Int), u < 18446744073709551616 → X.length + (decs u).length ≤ 1000000 → Ev (fun k => spec_l01Dec.l0 k v (u : Int) X) (strOfNums ((if v < 0 then [45] else []) ++ (decs (u / 10) ++ X))) := by
  induction u using Nat.strongRecOn with
  | ind u ih =>
    intro X hu hl
    by_cases h10 : 10 ≤ u
    · have e1 : IntKind.u64.wrap (Int.tdiv (u : Int) 10) = ((u / 10 : Nat) : Int) := by
        rw [show Int.tdiv (u : Int) 10 = ((u / 10 : Nat) : Int) from tdiv_nat u 10, IntKind.wrap_u64]; omega
      have e2 : (IntKind.u64.wrap (48 + (Int.tmod ((u / 10 : Nat) : Int) 10))) % 256 = ((48 + u / 10 % 10 : Nat) : Int) := by
        rw [tmod_10, IntKind.wrap_u64]; omega
      have hd : decs u = decs (u / 10) ++ [((48 + u % 10 : Nat) : Int)] := decs_pos (by omega)
      refine Ev.step (f := fun k => spec_l01Dec.l0 k v ((u / 10 : Nat) : Int) ([((48 + u / 10 % 10 : Nat) : Int)] ++ X)) (fun k => ?_) ?_
      · simp only [spec_l01Dec.l0, Option.bind_some]
        rw [if_pos (by omega), e1, e2, if_pos (by simp; omega)]
      · have h := ih (u / 10) (by omega) ([((48 + u / 10 % 10 : Nat) : Int)] ++ X) (by omega) (by rw [hd] at hl; simp at hl ⊢; omega)
        rw [show decs (u / 10) = decs (u / 10 / 10) ++ [((48 + u / 10 % 10 : Nat) : Int)] from decs_pos (by omega), List.append_assoc (decs (u / 10 / 10))]
        exact h
    · rw [show u / 10 = 0 by omega, decs_zero, List.nil_append]
      by_cases hv : v < 0
      · rw [if_pos hv]
        refine Ev.step (f := fun _ => some (strOfNums ([45] ++ X))) (fun k => ?_) (Ev.now _)
        simp only [spec_l01Dec.l0, Option.bind_some]
        rw [if_neg (by omega), if_pos hv, if_pos (by simp; omega)]
      · rw [if_neg hv, List.nil_append]
        refine Ev.step (f := fun _ => some (strOfNums X)) (fun k => ?_) (Ev.now _)
        simp only [spec_l01Dec.l0, Option.bind_some]
        rw [if_neg (by omega), if_neg hv]
theorem dec_ev {v : Int} (h1 : -9223372036854775808 ≤ v) (h2 : v ≤ 9223372036854775807) : Ev (fun k => spec_l01Dec.f k v) (strOfNums (itext v)) := by
  have hu : v.natAbs < 18446744073709551616 := by omega
  have hl : (decs v.natAbs).length ≤ 64 := decs_length (Nat.lt_of_lt_of_le (by omega : v.natAbs < 2 ^ 64) (Nat.pow_le_pow_left (by decide) 64))
  have hj : Ev (fun k => spec_l01Dec.j0 k v ((v.natAbs : Nat) : Int)) (strOfNums (itext v)) := by
    unfold itext
    rw [decz_eq]
    refine Ev.step (f := fun k => spec_l01Dec.l0 k v ((v.natAbs : Nat) : Int) [((48 + v.natAbs % 10 : Nat) : Int)]) (fun k => ?_) (dec_l0 v v.natAbs _ hu (by simp; omega))
    simp only [spec_l01Dec.j0]
    rw [tmod_10, IntKind.wrap_u64]
    congr 2
    omega
  refine Ev.congr (fun k => ?_) hj
  unfold spec_l01Dec.f
  by_cases hv : v < 0
  · rw [if_pos hv, IntKind.wrap_u64, IntKind.wrap_u64]
    congr 1
    omega
  · rw [if_neg hv, IntKind.wrap_u64]
    congr 1
    omega

/-! ### l01Zeros -/
theorem zeros_l0 (n : Nat) (hn : n ≤ 100000) : ∀ (r j : Nat), j + r = n → Ev (fun k => spec_l01Zeros.l0 k (n : Int) (strOfNums (List.replicate j 48)) (j : Int)) (strOfNums (List.replicate n 48)) := by
  intro r
  induction r with
  | zero =>
    intro j hj
    have : j = n := by omega
    subst this
    refine Ev.step (f := fun _ => some (strOfNums (List.replicate j 48))) (fun k => ?_) (Ev.now _)
    simp only [spec_l01Zeros.l0]
    rw [if_neg (by omega)]
  | succ r ih =>
    intro j hj
    refine Ev.step (f := fun k => spec_l01Zeros.l0 k (n : Int) (strOfNums (List.replicate (j + 1) 48)) ((j + 1 : Nat) : Int)) (fun k => ?_) (ih (j + 1) (by omega))
    simp only [spec_l01Zeros.l0]
    rw [if_pos (by omega), if_pos (by rw [str_size, List.length_replicate]; omega), wrap64_of (by omega) (by omega), str_lit1, str_append]
    rw [show [(((48 : UInt8).toNat : Nat) : Int)] = List.replicate 1 48 from rfl, List.replicate_append_replicate]
    rfl
theorem zeros_ev {n : Nat} (hn : n ≤ 100000) : Ev (fun k => spec_l01Zeros.f k (n : Int)) (strOfNums (List.replicate n 48)) := by
  have h := zeros_l0 n hn n 0 (by omega)
  exact h

/-! ### l01FloatText -/
/-- An exponent's digits, two at least. -/
def pad2 (l : List Int) : List Int := if l.length < 2 then 48 :: l else l
/-- The text of digits d, the first of weight x. -/
def ftext (d : List Int) (x : Int) : List Int :=
  if x < -5 ∨ 16 < x then (d.take 1 ++ (if 1 < d.length then 46 :: d.drop 1 else [])) ++ [101] ++ [if x < 0 then 45 else 43] ++ pad2 (decz x.natAbs)
  else if x < 0 then [48, 46] ++ List.replicate (-x - 1).toNat 48 ++ d
  else if (d.length : Int) ≤ x + 1 then d ++ List.replicate (x + 1 - d.length).toNat 48 ++ [46, 48]
  else d.take (x + 1).toNat ++ [46] ++ d.drop (x + 1).toNat
theorem decz_length {u t : Nat} (ht : 1 ≤ t) (h : u < 10 ^ t) : (decz u).length ≤ t := by
  unfold decz
  split
  · simp; omega
  · exact decs_length h

theorem ftext_j4 {x : Int} (h1 : -1000 ≤ x) (h2 : x ≤ 1000) (o : List Int) (ho : o.length ≤ 1000) : Ev (fun k => spec_l01FloatText.j4 k x (strOfNums o)) (strOfNums (o ++ [101] ++ [if x < 0 then 45 else 43] ++ pad2 (decz x.natAbs))) := by
  have hl : (decz x.natAbs).length ≤ 4 := decz_length (by omega) (by omega)
  have hi : itext ((x.natAbs : Nat) : Int) = decz x.natAbs := by
    unfold itext
    rw [if_neg (by omega), Int.natAbs_natCast, List.nil_append]
  have hd := dec_ev (v := ((x.natAbs : Nat) : Int)) (by omega) (by omega)
  rw [hi] at hd
  unfold pad2
  have e101 : (⟨#[101]⟩ : ByteArray) = strOfNums [101] := str_lit1 101
  have e45 : (⟨#[45]⟩ : ByteArray) = strOfNums [45] := str_lit1 45
  have e43 : (⟨#[43]⟩ : ByteArray) = strOfNums [43] := str_lit1 43
  have e48 : (⟨#[48]⟩ : ByteArray) = strOfNums [48] := str_lit1 48
  obtain ⟨D, hD⟩ : ∃ D, decz x.natAbs = D := ⟨_, rfl⟩
  rw [hD] at hl hd ⊢
  by_cases hx : x < 0
  · rw [if_pos hx]
    have hx' : ((x.natAbs : Nat) : Int) = -x := by omega
    rw [hx'] at hd
    refine Ev.step (f := fun k => (spec_l01Dec.f k (-x)).bind fun t311 => (if (t311.size : Int) < 2 then (if 1 + t311.size ≤ 9223372036854775807 then (if (strOfNums o).size + 1 ≤ 9223372036854775807 then (if ((strOfNums o) ++ (⟨#[101]⟩ : ByteArray)).size + 1 ≤ 9223372036854775807 then (if (((strOfNums o) ++ (⟨#[101]⟩ : ByteArray)) ++ (⟨#[45]⟩ : ByteArray)).size + ((⟨#[48]⟩ : ByteArray) ++ t311).size ≤ 9223372036854775807 then (some ((((strOfNums o) ++ (⟨#[101]⟩ : ByteArray)) ++ (⟨#[45]⟩ : ByteArray)) ++ ((⟨#[48]⟩ : ByteArray) ++ t311))) else (none)) else (none)) else (none)) else (none)) else (if (strOfNums o).size + 1 ≤ 9223372036854775807 then (if ((strOfNums o) ++ (⟨#[101]⟩ : ByteArray)).size + 1 ≤ 9223372036854775807 then (if (((strOfNums o) ++ (⟨#[101]⟩ : ByteArray)) ++ (⟨#[45]⟩ : ByteArray)).size + t311.size ≤ 9223372036854775807 then (some ((((strOfNums o) ++ (⟨#[101]⟩ : ByteArray)) ++ (⟨#[45]⟩ : ByteArray)) ++ t311)) else (none)) else (none)) else (none)))) (fun k => ?_) ?_
    · simp only [spec_l01FloatText.j4]
      rw [if_pos hx, wrap64_of (by omega) (by omega)]
    · refine Ev.congr (fun k => rfl) (Ev.bind (f := fun _ t311 => if (t311.size : Int) < 2 then (if 1 + t311.size ≤ 9223372036854775807 then (if (strOfNums o).size + 1 ≤ 9223372036854775807 then (if ((strOfNums o) ++ (⟨#[101]⟩ : ByteArray)).size + 1 ≤ 9223372036854775807 then (if (((strOfNums o) ++ (⟨#[101]⟩ : ByteArray)) ++ (⟨#[45]⟩ : ByteArray)).size + ((⟨#[48]⟩ : ByteArray) ++ t311).size ≤ 9223372036854775807 then (some ((((strOfNums o) ++ (⟨#[101]⟩ : ByteArray)) ++ (⟨#[45]⟩ : ByteArray)) ++ ((⟨#[48]⟩ : ByteArray) ++ t311))) else (none)) else (none)) else (none)) else (none)) else (if (strOfNums o).size + 1 ≤ 9223372036854775807 then (if ((strOfNums o) ++ (⟨#[101]⟩ : ByteArray)).size + 1 ≤ 9223372036854775807 then (if (((strOfNums o) ++ (⟨#[101]⟩ : ByteArray)) ++ (⟨#[45]⟩ : ByteArray)).size + t311.size ≤ 9223372036854775807 then (some ((((strOfNums o) ++ (⟨#[101]⟩ : ByteArray)) ++ (⟨#[45]⟩ : ByteArray)) ++ t311)) else (none)) else (none)) else (none))) hd (Ev.congr (fun k => ?_) (Ev.now _)))
      simp only [e101, e45, e48, str_append, str_size, List.length_append, List.length_cons, List.length_nil]
      by_cases h2 : D.length < 2
      · rw [if_pos (by omega), if_pos (by omega), if_pos (by omega), if_pos (by omega), if_pos (by omega), if_pos h2]
        rfl
      · rw [if_neg (by omega), if_pos (by omega), if_pos (by omega), if_pos (by omega), if_neg h2]
  · rw [if_neg hx]
    have hx' : ((x.natAbs : Nat) : Int) = x := by omega
    rw [hx'] at hd
    refine Ev.step (f := fun k => (spec_l01Dec.f k x).bind fun t311 => (if (t311.size : Int) < 2 then (if 1 + t311.size ≤ 9223372036854775807 then (if (strOfNums o).size + 1 ≤ 9223372036854775807 then (if ((strOfNums o) ++ (⟨#[101]⟩ : ByteArray)).size + 1 ≤ 9223372036854775807 then (if (((strOfNums o) ++ (⟨#[101]⟩ : ByteArray)) ++ (⟨#[43]⟩ : ByteArray)).size + ((⟨#[48]⟩ : ByteArray) ++ t311).size ≤ 9223372036854775807 then (some ((((strOfNums o) ++ (⟨#[101]⟩ : ByteArray)) ++ (⟨#[43]⟩ : ByteArray)) ++ ((⟨#[48]⟩ : ByteArray) ++ t311))) else (none)) else (none)) else (none)) else (none)) else (if (strOfNums o).size + 1 ≤ 9223372036854775807 then (if ((strOfNums o) ++ (⟨#[101]⟩ : ByteArray)).size + 1 ≤ 9223372036854775807 then (if (((strOfNums o) ++ (⟨#[101]⟩ : ByteArray)) ++ (⟨#[43]⟩ : ByteArray)).size + t311.size ≤ 9223372036854775807 then (some ((((strOfNums o) ++ (⟨#[101]⟩ : ByteArray)) ++ (⟨#[43]⟩ : ByteArray)) ++ t311)) else (none)) else (none)) else (none)))) (fun k => ?_) ?_
    · simp only [spec_l01FloatText.j4]
      rw [if_neg hx]
    · refine Ev.congr (fun k => rfl) (Ev.bind (f := fun _ t311 => if (t311.size : Int) < 2 then (if 1 + t311.size ≤ 9223372036854775807 then (if (strOfNums o).size + 1 ≤ 9223372036854775807 then (if ((strOfNums o) ++ (⟨#[101]⟩ : ByteArray)).size + 1 ≤ 9223372036854775807 then (if (((strOfNums o) ++ (⟨#[101]⟩ : ByteArray)) ++ (⟨#[43]⟩ : ByteArray)).size + ((⟨#[48]⟩ : ByteArray) ++ t311).size ≤ 9223372036854775807 then (some ((((strOfNums o) ++ (⟨#[101]⟩ : ByteArray)) ++ (⟨#[43]⟩ : ByteArray)) ++ ((⟨#[48]⟩ : ByteArray) ++ t311))) else (none)) else (none)) else (none)) else (none)) else (if (strOfNums o).size + 1 ≤ 9223372036854775807 then (if ((strOfNums o) ++ (⟨#[101]⟩ : ByteArray)).size + 1 ≤ 9223372036854775807 then (if (((strOfNums o) ++ (⟨#[101]⟩ : ByteArray)) ++ (⟨#[43]⟩ : ByteArray)).size + t311.size ≤ 9223372036854775807 then (some ((((strOfNums o) ++ (⟨#[101]⟩ : ByteArray)) ++ (⟨#[43]⟩ : ByteArray)) ++ t311)) else (none)) else (none)) else (none))) hd (Ev.congr (fun k => ?_) (Ev.now _)))
      simp only [e101, e43, e48, str_append, str_size, List.length_append, List.length_cons, List.length_nil]
      by_cases h2 : D.length < 2
      · rw [if_pos (by omega), if_pos (by omega), if_pos (by omega), if_pos (by omega), if_pos (by omega), if_pos h2]
        rfl
      · rw [if_neg (by omega), if_pos (by omega), if_pos (by omega), if_pos (by omega), if_neg h2]

theorem ftext_j3 {x : Int} (h1 : -1000 ≤ x) (h2 : x ≤ 1000) (d : List Int) (hd : 1 ≤ d.length) (hd2 : d.length ≤ 100) : Ev (fun k => spec_l01FloatText.j2 k (strOfNums d) x) (strOfNums (ftext d x)) := by
  have e46 : (⟨#[46]⟩ : ByteArray) = strOfNums [46] := str_lit1 46
  have e48 : (⟨#[48, 46]⟩ : ByteArray) = strOfNums [48, 46] := rfl
  have e460 : (⟨#[46, 48]⟩ : ByteArray) = strOfNums [46, 48] := rfl
  have hj : ∀ r, Ev (fun k => spec_l01FloatText.j3 k (strOfNums d) x (decide (x < -5 ∨ 16 < x))) r → Ev (fun k => spec_l01FloatText.j2 k (strOfNums d) x) r := fun r h => by
    refine Ev.step (f := fun k => spec_l01FloatText.j3 k (strOfNums d) x (decide (x < -5 ∨ 16 < x))) (fun k => ?_) h
    simp only [spec_l01FloatText.j2]
    by_cases c : x < -5
    · rw [if_pos c, decide_eq_true (Or.inl c)]
    · rw [if_neg c]
      congr 1
      by_cases c2 : 16 < x
      · rw [decide_eq_true (Or.inr c2), decide_eq_true (by omega)]
      · rw [decide_eq_false (by omega), decide_eq_false (by omega)]
  apply hj
  unfold ftext
  by_cases c : x < -5 ∨ 16 < x
  · rw [if_pos c, decide_eq_true c]
    have ht : (strOfNums d).extract 0 1 = strOfNums (d.take 1) := by rw [str_extract, List.drop_zero]
    have hdr : (strOfNums d).extract 1 d.length = strOfNums (d.drop 1) := by rw [str_extract, List.take_length]
    refine Ev.step (f := fun k => spec_l01FloatText.j4 k x (strOfNums (d.take 1 ++ (if 1 < d.length then 46 :: d.drop 1 else [])))) (fun k => ?_) (ftext_j4 h1 h2 _ ?_)
    · simp only [spec_l01FloatText.j3, str_size]
      rw [if_pos trivial, if_pos (by omega), if_pos (by omega), ht, hdr]
      by_cases c1 : 1 < d.length
      · rw [if_pos (by omega), if_pos (by rw [str_size, List.length_drop]; omega), e46, str_append, str_append, if_pos (by rw [str_size, str_size]; simp; omega), if_pos c1]
        rfl
      · rw [if_neg (by omega), if_neg c1, List.append_nil]
    · have := List.length_drop (i := 1) (l := d)
      have := List.length_take (i := 1) (l := d)
      split <;> simp <;> omega
  · rw [if_neg c, decide_eq_false c]
    by_cases c0 : x < 0
    · rw [if_pos c0]
      have hz := zeros_ev (n := (-x - 1).toNat) (by omega)
      rw [show (((-x - 1).toNat : Nat) : Int) = -x - 1 by omega] at hz
      refine Ev.step (f := fun k => (spec_l01Zeros.f k (-x - 1)).bind fun t313 => (if 2 + t313.size ≤ 9223372036854775807 then (if ((⟨#[48, 46]⟩ : ByteArray) ++ t313).size + (strOfNums d).size ≤ 9223372036854775807 then (some (((⟨#[48, 46]⟩ : ByteArray) ++ t313) ++ (strOfNums d))) else (none)) else (none))) (fun k => ?_) ?_
      · simp only [spec_l01FloatText.j3]
        rw [if_neg (by decide), if_pos c0, wrap64_of (x := -x) (by omega) (by omega), wrap64_of (by omega) (by omega)]
      · refine Ev.bind (f := fun _ t313 => (if 2 + t313.size ≤ 9223372036854775807 then (if ((⟨#[48, 46]⟩ : ByteArray) ++ t313).size + (strOfNums d).size ≤ 9223372036854775807 then (some (((⟨#[48, 46]⟩ : ByteArray) ++ t313) ++ (strOfNums d))) else (none)) else (none))) hz (Ev.congr (fun k => ?_) (Ev.now _))
        rw [e48, str_append, str_append, if_pos (by rw [str_size, List.length_replicate]; omega), if_pos (by rw [str_size, str_size, List.length_append, List.length_replicate]; simp; omega)]
    · rw [if_neg c0]
      by_cases c3 : (d.length : Int) ≤ x + 1
      · rw [if_pos c3]
        have hz := zeros_ev (n := (x + 1 - d.length).toNat) (by omega)
        rw [show (((x + 1 - d.length).toNat : Nat) : Int) = x + 1 - d.length by omega] at hz
        refine Ev.step (f := fun k => (spec_l01Zeros.f k (x + 1 - d.length)).bind fun t314 => (if (strOfNums d).size + t314.size ≤ 9223372036854775807 then (if ((strOfNums d) ++ t314).size + 2 ≤ 9223372036854775807 then (some (((strOfNums d) ++ t314) ++ (⟨#[46, 48]⟩ : ByteArray))) else (none)) else (none))) (fun k => ?_) ?_
        · simp only [spec_l01FloatText.j3]
          rw [if_neg (by decide), if_neg c0, wrap64_of (x := x + 1) (by omega) (by omega), str_size, if_pos (by omega), wrap64_of (by omega) (by omega)]
        · refine Ev.bind (f := fun _ t314 => (if (strOfNums d).size + t314.size ≤ 9223372036854775807 then (if ((strOfNums d) ++ t314).size + 2 ≤ 9223372036854775807 then (some (((strOfNums d) ++ t314) ++ (⟨#[46, 48]⟩ : ByteArray))) else (none)) else (none))) hz (Ev.congr (fun k => ?_) (Ev.now _))
          rw [e460, str_append, str_append, if_pos (by rw [str_size, str_size, List.length_replicate]; omega), if_pos (by rw [str_size, List.length_append, List.length_replicate]; omega)]
      · rw [if_neg c3]
        have ht : (strOfNums d).extract 0 (x + 1).toNat = strOfNums (d.take (x + 1).toNat) := by rw [str_extract, List.drop_zero]
        have hdr : (strOfNums d).extract (x + 1).toNat d.length = strOfNums (d.drop (x + 1).toNat) := by rw [str_extract, List.take_length]
        refine Ev.step (f := fun _ => some (strOfNums (d.take (x + 1).toNat ++ [46] ++ d.drop (x + 1).toNat))) (fun k => ?_) (Ev.now _)
        simp only [spec_l01FloatText.j3]
        rw [if_neg (by decide), if_neg c0, wrap64_of (x := x + 1) (by omega) (by omega), str_size, if_neg (by omega), if_pos (by omega), if_pos (by omega), ht, hdr, e46, str_append, str_append, if_pos (by rw [str_size, List.length_take]; omega), if_pos (by rw [str_size, str_size, List.length_append, List.length_take, List.length_drop]; simp; omega)]

/-- The reference drops no digit where the last is not 0. -/
theorem ftext_l0 {x : Int} (h1 : -1000 ≤ x) (h2 : x ≤ 1000) (d : List Int) (hd : 1 ≤ d.length) (hd2 : d.length ≤ 100) (ha : AD d) (hlast : d.length = 1 ∨ dv d % 10 ≠ 0) : Ev (fun k => spec_l01FloatText.j0 k (strOfNums d) x) (strOfNums (ftext d x)) := by
  refine Ev.step (f := fun k => spec_l01FloatText.l0 k (strOfNums d) x) (fun k => ?_) ?_
  · simp only [spec_l01FloatText.j0]
  · refine Ev.step (f := fun k => spec_l01FloatText.j2 k (strOfNums d) x) (fun k => ?_) (ftext_j3 h1 h2 d hd hd2)
    simp only [spec_l01FloatText.l0, str_size]
    by_cases c1 : d.length = 1
    · rw [if_neg (by omega)]
    · obtain ⟨d', y, hde, hdl⟩ := snoc_of (l := d) (n := d.length - 1) (by omega)
      have hy := ha y (by rw [hde]; simp)
      have hb : bt (strOfNums d) ((d.length : Int) - 1) = y := by
        unfold bt
        rw [dif_pos (by rw [str_size]; omega)]
        have hi : ((d.length : Int) - 1).toNat = d.length - 1 := by omega
        simp only [hi]
        have hg : (strOfNums d)[d.length - 1]'(by rw [str_size]; omega) = UInt8.ofNat y.toNat := by
          have hsz : (strOfNums d).data.size = d.length := by simp [strOfNums]
          show (strOfNums d).data[d.length - 1]'(by rw [hsz]; omega) = _
          unfold strOfNums
          simp only [List.getElem_toArray, List.getElem_map]
          congr 2
          simp only [hde]
          rw [List.getElem_append_right (by simp)]
          simp
        rw [hg]
        simp
        omega
      have hne : y ≠ 48 := by
        rintro rfl
        rcases hlast with h | h
        · exact c1 h
        · rw [hde, dv_snoc] at h
          simp at h
      rw [if_pos (by omega), wrap64_of (by omega) (by omega), if_pos (by omega), if_pos (by omega), hb, if_neg hne]

/-- t is the text of the magnitude of a finite word. -/
def FT (u : Nat) (t : List Int) : Prop := (u = 0 ∧ t = ftext [48] 0) ∨ (0 < u ∧ ∃ K j : Nat, isW u j ∧ 17 ≤ j ∧ j ≤ 695 ∧ 1 ≤ K ∧ K ≤ 17 ∧ backK u K j = u ∧ (∀ k, 1 ≤ k → k < K → backK u k j ≠ u) ∧ t = ftext (decs (digK u K j).1) (((digK u K j).2 : Int) - 348))
theorem FT_unique {u : Nat} {t t' : List Int} (h : FT u t) (h' : FT u t') : t = t' := by
  rcases h with ⟨h0, ht⟩ | ⟨h0, K, j, a1, a2, a3, a4, a5, a6, a7, ht⟩ <;> rcases h' with ⟨g0, gt⟩ | ⟨g0, K', j', b1, b2, b3, b4, b5, b6, b7, gt⟩
  · rw [ht, gt]
  · omega
  · omega
  · have hj := isW_unique a1 b1
    subst hj
    have hK : K = K' := by
      apply Nat.le_antisymm
      · apply Nat.le_of_not_lt
        intro h
        exact a7 K' b4 h b6
      · apply Nat.le_of_not_lt
        intro h
        exact b7 K a4 h a6
    subst hK
    rw [ht, gt]

theorem digK_bounds {u K j : Nat} (hW : isW u j) (hj : j ≤ 695) (hK : 1 ≤ K) (hK2 : K ≤ 17) (hj1 : 17 ≤ j) : 10 ^ (K - 1) ≤ (digK u K j).1 ∧ (digK u K j).1 < 10 ^ K ∧ j ≤ (digK u K j).2 ∧ (digK u K j).2 ≤ j + 1 := by
  have hpk : 10 ^ (K - 1) < 10 ^ K := Nat.pow_lt_pow_right (by decide) (by omega)
  have hQ : 0 < one74 * td (K + 695 - j) := Nat.mul_pos one74_pos (td_pos _)
  have hp := scale_ge (i := K + 695 - j) (c := K - 1) (by omega) hW.1
  have hq := scale_lt (i := K + 695 - j) (c := K) (by omega) hW.2
  have g1 : 10 ^ (K - 1) ≤ roundAt u (K + 695 - j) := rne_ge hQ hp
  have g2 : roundAt u (K + 695 - j) ≤ 10 ^ K := rne_le hQ (by rw [Nat.add_mul, Nat.mul_assoc]; omega)
  unfold digK
  by_cases hc : roundAt u (K + 695 - j) = 10 ^ K
  · rw [if_pos hc]
    exact ⟨Nat.le_refl _, hpk, by show j ≤ j + 1; omega, Nat.le_refl _⟩
  · rw [if_neg hc]
    exact ⟨g1, by show roundAt u (K + 695 - j) < _; omega, Nat.le_refl _, by show j ≤ j + 1; omega⟩
theorem decs_len_eq {n k : Nat} (h1 : 1 ≤ k) (h : 10 ^ (k - 1) ≤ n) (h2 : n < 10 ^ k) : (decs n).length = k := by
  have a := decs_length h2
  have b := lt_decs n
  apply Nat.le_antisymm a
  apply Nat.le_of_not_lt
  intro hlt
  have : 10 ^ (decs n).length ≤ 10 ^ (k - 1) := Nat.pow_le_pow_right (by decide) (by omega)
  omega

theorem floatText_ev {u : Nat} (hu : u < 2047 * 2 ^ 52) : ∃ t, FT u t ∧ t.length ≤ 1000 ∧ Ev (fun k => spec_l01FloatText.f k (u : Int)) (strOfNums t) := by
  have hlen : ∀ (d : List Int) (x : Int), d.length ≤ 20 → -1000 ≤ x → x ≤ 1000 → (ftext d x).length ≤ 1000 := fun d x h1 h2 h3 => by
    have hl : (decz x.natAbs).length ≤ 4 := decz_length (by omega) (by omega)
    have := List.length_drop (i := 1) (l := d)
    have := List.length_take (i := 1) (l := d)
    have := List.length_drop (i := (x + 1).toNat) (l := d)
    have := List.length_take (i := (x + 1).toNat) (l := d)
    have hp2 : (pad2 (decz x.natAbs)).length ≤ 5 := by
      by_cases h : (decz x.natAbs).length < 2
      · unfold pad2; rw [if_pos h, List.length_cons]; omega
      · unfold pad2; rw [if_neg h]; omega
    unfold ftext
    split
    · simp only [List.length_append, List.length_cons, List.length_nil]
      split
      · simp only [List.length_cons]; omega
      · simp only [List.length_nil]; omega
    · split
      · simp only [List.length_append, List.length_cons, List.length_nil, List.length_replicate]; omega
      · split <;> simp only [List.length_append, List.length_cons, List.length_nil, List.length_replicate] <;> omega
  by_cases h0 : u = 0
  · subst h0
    refine ⟨ftext [48] 0, Or.inl ⟨rfl, rfl⟩, hlen _ _ (by decide) (by decide) (by decide), ?_⟩
    refine Ev.congr (fun k => ?_) (ftext_l0 (x := 0) (by omega) (by omega) [48] (by decide) (by decide) (ad_one (by omega) (by omega)) (Or.inl rfl))
    unfold spec_l01FloatText.f
    rw [if_neg (by omega)]
    rfl
  · obtain ⟨K, j, hW, j1, j2, k1, k2, k3, k4, k5, hev⟩ := short_ev (by omega) hu
    obtain ⟨b1, b2, b3, b4⟩ := digK_bounds hW j2 k1 k2 j1
    have hl := decs_len_eq k1 b1 b2
    refine ⟨_, Or.inr ⟨by omega, K, j, hW, j1, j2, k1, k2, k3, k4, rfl⟩, hlen _ _ (by omega) (by omega) (by omega), ?_⟩
    have hf := ftext_l0 (x := ((digK u K j).2 : Int) - 348) (by omega) (by omega) (decs (digK u K j).1) (by omega) (by omega) (ad_decs _) (by
      by_cases hK : K = 1
      · left; omega
      · right; rw [dv_decs]; exact k5 (by omega))
    refine Ev.congr (fun k => ?_) (Ev.bind (f := fun k bt307 => spec_l01FloatText.j0 k (strOfNums bt307.1) bt307.2) hev hf)
    unfold spec_l01FloatText.f
    rw [if_pos (by omega)]

/-! ### L01Text -/
/-- What FormatNumber writes. -/
def NT (isF : Bool) (i : Int) (b : Nat) (t : List Int) : Prop :=
  if isF then (if 2047 * 2 ^ 52 < b % 2 ^ 63 then t = [110, 97, 110] else ∃ m, t = (if 2 ^ 63 ≤ b then [45] else []) ++ m ∧ (if b % 2 ^ 63 = 2047 * 2 ^ 52 then m = [105, 110, 102] else FT (b % 2 ^ 63) m)) else t = itext i
theorem NT_unique {isF : Bool} {i : Int} {b : Nat} {t t' : List Int} (h : NT isF i b t) (h' : NT isF i b t') : t = t' := by
  unfold NT at h h'
  cases isF with
  | false =>
    rw [if_neg (by decide)] at h h'
    rw [h, h']
  | true =>
    rw [if_pos rfl] at h h'
    by_cases c : 2047 * 2 ^ 52 < b % 2 ^ 63
    · rw [if_pos c] at h h'; rw [h, h']
    · rw [if_neg c] at h h'
      obtain ⟨m, hm, hm2⟩ := h
      obtain ⟨m', hm', hm2'⟩ := h'
      by_cases c2 : b % 2 ^ 63 = 2047 * 2 ^ 52
      · rw [if_pos c2] at hm2 hm2'; rw [hm, hm', hm2, hm2']
      · rw [if_neg c2] at hm2 hm2'; rw [hm, hm', FT_unique hm2 hm2']
theorem format_ev {isF : Bool} {i : Int} {b : Nat} (h1 : -9223372036854775808 ≤ i) (h2 : i ≤ 9223372036854775807) (hb : b < 2 ^ 64) : ∃ t, NT isF i b t ∧ ∃ k, spec_FormatNumber.f k isF i (b : Int) = some (strOfNums t) := by
  have hp63 : (2 : Nat) ^ 63 = 9223372036854775808 := by decide
  have hp52 : (2047 : Nat) * 2 ^ 52 = 9218868437227405312 := by decide
  have em : Int.tmod (b : Int) 9223372036854775808 = ((b % 2 ^ 63 : Nat) : Int) := by rw [hp63]; exact tmod_nat b 9223372036854775808
  have up : ∀ {t : List Int}, Ev (fun k => spec_L01Text.f k isF i (b : Int)) (strOfNums t) → ∃ k, spec_FormatNumber.f k isF i (b : Int) = some (strOfNums t) := fun h => (bind_some_id _ _ h).rounds
  unfold NT
  cases isF with
  | false =>
    refine ⟨itext i, rfl, up ?_⟩
    refine Ev.congr (fun k => ?_) (bind_some_id _ _ (dec_ev h1 h2))
    unfold spec_L01Text.f
    rw [if_neg (by decide)]
  | true =>
    simp only [if_true]
    obtain ⟨u, hu⟩ : ∃ u, b % 2 ^ 63 = u := ⟨_, rfl⟩
    rw [hu] at em ⊢
    have hul : u < 2 ^ 63 := by rw [← hu]; exact Nat.mod_lt _ (by decide)
    by_cases c : 2047 * 2 ^ 52 < u
    · simp only [if_pos c]
      refine ⟨_, rfl, up ?_⟩
      refine Ev.congr (fun k => ?_) (Ev.now _)
      unfold spec_L01Text.f spec_l01IsNan.f
      rw [if_pos rfl, em, Option.bind_some, if_pos (decide_eq_true (by omega))]
      rfl
    · simp only [if_neg c]
      -- behind the sign
      have sign : ∀ (m : List Int), (∀ s : List Int, s.length ≤ 1 → Ev (fun k => spec_L01Text.j0 k (strOfNums s) true i (b : Int)) (strOfNums (s ++ m))) → Ev (fun k => spec_L01Text.f k true i (b : Int)) (strOfNums ((if 2 ^ 63 ≤ b then [45] else []) ++ m)) := fun m h => by
        by_cases hs : 2 ^ 63 ≤ b
        · rw [if_pos hs]
          refine Ev.congr (fun k => ?_) (h [45] (by decide))
          unfold spec_L01Text.f spec_l01IsNan.f spec_l01Minor.f
          rw [if_pos rfl, em, Option.bind_some, if_neg (by rw [decide_eq_false (by omega)]; decide), Option.bind_some, if_pos (decide_eq_true (by omega))]
          rfl
        · rw [if_neg hs]
          refine Ev.congr (fun k => ?_) (h [] (by decide))
          unfold spec_L01Text.f spec_l01IsNan.f spec_l01Minor.f
          rw [if_pos rfl, em, Option.bind_some, if_neg (by rw [decide_eq_false (by omega)]; decide), Option.bind_some, if_neg (by rw [decide_eq_false (by omega)]; decide)]
          rfl
      by_cases c2 : u = 2047 * 2 ^ 52
      · simp only [if_pos c2]
        refine ⟨_, ⟨_, rfl, rfl⟩, up (sign _ fun s hs => ?_)⟩
        refine Ev.step (f := fun _ => some (strOfNums (s ++ [105, 110, 102]))) (fun k => ?_) (Ev.now _)
        simp only [spec_L01Text.j0]
        unfold spec_l01Infinite.f
        rw [em, Option.bind_some, if_pos (by rw [c2]; decide), if_pos (by rw [str_size]; omega)]
        rw [show (⟨#[105, 110, 102]⟩ : ByteArray) = strOfNums [105, 110, 102] from rfl, str_append]
      · simp only [if_neg c2]
        obtain ⟨t, hft, htl, hev⟩ := floatText_ev (u := u) (by omega)
        refine ⟨_, ⟨t, rfl, hft⟩, up (sign _ fun s hs => ?_)⟩
        refine Ev.step (f := fun k => (spec_l01FloatText.f k (u : Int)).bind fun t320 => (if (strOfNums s).size + t320.size ≤ 9223372036854775807 then (some (strOfNums s ++ t320)) else (none))) (fun k => ?_) ?_
        · simp only [spec_L01Text.j0]
          unfold spec_l01Infinite.f
          rw [em, Option.bind_some, if_neg (by simp only [beq_iff_eq]; omega)]
        · refine Ev.bind (f := fun _ t320 => (if (strOfNums s).size + t320.size ≤ 9223372036854775807 then (some (strOfNums s ++ t320)) else (none))) hev (Ev.congr (fun k => ?_) (Ev.now _))
          rw [if_pos (by rw [str_size, str_size]; omega), str_append]
end Go.Proofs.YtlblkajnmdhmdaaGreatDoor.NB
