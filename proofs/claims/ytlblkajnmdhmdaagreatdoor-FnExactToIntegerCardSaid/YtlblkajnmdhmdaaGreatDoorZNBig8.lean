/-
  Plain law over the printed functions: l01Exact writes the decimal digits of a word's value.
  Plain law over the printed functions: l01Round rounds half to even.
  Plain law over the printed functions: l01Short finds the fewest digits that read back.
  Plain law over the printed functions: the text that the reference's FormatNumber writes.
-/
import Derived.Test.YtlblkajnmdhmdaaGreatDoorZNBig4
import Derived.Test.YtlblkajnmdhmdaaGreatDoorZSText
namespace Go.Proofs.YtlblkajnmdhmdaaGreatDoor.NB
set_option linter.unusedVariables false
open Go Go.RowKit Go.Proofs.YtlblkajnmdhmdaaGreatDoor.PFormatNumber Go.Proofs.YtlblkajnmdhmdaaGreatDoorW.PrintWords Go.Proofs.YtlblkajnmdhmdaaGreatDoorW.PrintLast Go.Proofs.YtlblkajnmdhmdaaGreatDoorW.PrintMore Go.Proofs.YtlblkajnmdhmdaaGreatDoor.NU
theorem tdiv_nat (a b : Nat) : Int.tdiv (a : Int) (b : Int) = ((a / b : Nat) : Int) := by rw [Int.tdiv_eq_ediv_of_nonneg (by omega)]; exact (Int.natCast_ediv a b).symm
theorem tmod_nat (a b : Nat) : Int.tmod (a : Int) (b : Int) = ((a % b : Nat) : Int) := by rw [Int.tmod_eq_emod_of_nonneg (by omega)]; exact (Int.natCast_emod a b).symm
theorem tdiv_10000 (a : Nat) : Int.tdiv (a : Int) 10000 = ((a / 10000 : Nat) : Int) := tdiv_nat a 10000
theorem tmod_10000 (a : Nat) : Int.tmod (a : Int) 10000 = ((a % 10000 : Nat) : Int) := tmod_nat a 10000
theorem tmod_10 (a : Nat) : Int.tmod (a : Int) 10 = ((a % 10 : Nat) : Int) := tmod_nat a 10
theorem tmod_52 (a : Nat) : Int.tmod (a : Int) 4503599627370496 = ((a % 4503599627370496 : Nat) : Int) := tmod_nat a 4503599627370496
theorem tdiv_52 (a : Nat) : Int.tdiv (a : Int) 4503599627370496 = ((a / 4503599627370496 : Nat) : Int) := tdiv_nat a 4503599627370496
theorem tmod_2048 (a : Nat) : Int.tmod (a : Int) 2048 = ((a % 2048 : Nat) : Int) := tmod_nat a 2048
/-! ### l01Parts -/
theorem parts_at {w : Nat} (hw : w < 2047 * 2 ^ 52) : spec_l01Parts.f (w : Int) = some ((wM w : Int), (wE w : Int) - 1074) := by
 have hp : (2 : Nat) ^ 52 = 4503599627370496 := (by decide);rw [hp] at hw;unfold spec_l01Parts.f wM wE;rw [hp, tdiv_52, tmod_52];obtain ⟨q, hq⟩ : ∃ q, w / 4503599627370496 = q := ⟨_, rfl⟩;obtain ⟨r, hr⟩ : ∃ r, w % 4503599627370496 = r := ⟨_, rfl⟩;have hq2 : q < 2047 := (by omega);have hr2 : r < 4503599627370496 := (by omega);have hw2 : w = 4503599627370496 * q + r := (by omega);rw [hq, hr, IntKind.wrap_u64, show ((q : Nat) : Int) % 18446744073709551616 = (q : Int) by omega, tmod_2048, show q % 2048 = q by omega, wrap64_of (x := (q : Int)) (by omega) (by omega), wrap64_of (x := (r : Int)) (by omega) (by omega)];by_cases h0 : q = 0
 ·subst h0;rw [if_pos (by omega), if_pos rfl];congr 2;omega
 ·rw [if_neg (by omega), if_neg h0, wrap64_of (by omega) (by omega), wrap64_of (by omega) (by omega)];congr 2;omega
/-! ### l01Of -/
theorem of_l0 (v : Nat) : ∀ out : List Int, v < 9223372036854775808 → out.length + (dig v).length ≤ 1000000 → Ev (fun k => spec_l01Of.l0 k (v : Int) out) (out ++ dig v) := by
 induction v using Nat.strongRecOn with
 | ind v ih =>
  intro out hv hl;by_cases h0 : v = 0
  ·subst h0;rw [dig_zero, List.append_nil];refine Ev.step (f := fun _ => some out) (fun k => ?_) (Ev.now _);simp only [spec_l01Of.l0];rw [if_neg (by omega)]
  ·rw [dig_pos h0] at hl ⊢;rw [List.length_cons] at hl;refine Ev.step (f := fun k => spec_l01Of.l0 k ((v / 10000 : Nat) : Int) (out ++ [((v % 10000 : Nat) : Int)])) (fun k => ?_) ?_
   ·simp only [spec_l01Of.l0];rw [if_pos (by omega), if_pos (by omega), tdiv_10000, tmod_10000, wrap64_of (by omega) (by omega)]
   ·have := ih (v / 10000) (by omega) (out ++ [((v % 10000 : Nat) : Int)]) (by omega) (by rw [List.length_append]; simp; omega);rw [List.append_assoc] at this;exact this
theorem of_ev {v : Nat} (hv : v < 9223372036854775808) : Ev (fun k => spec_l01Of.f k (v : Int)) (dig v) := by
 have hl := dlen_two (n := v) (B := 63) (by omega);exact of_l0 v [] hv (by simp; omega)
/-! ### l01Exact -/
/-- The decimal digits of a number as signs, none for 0. -/
def decs (n : Nat) : List Int := if h : n = 0 then [] else decs (n / 10) ++ [((48 + n % 10 : Nat) : Int)]
termination_by n
decreasing_by omega
theorem decs_zero : decs 0 = [] := by unfold decs; simp
theorem decs_pos {n : Nat} (h : n ≠ 0) : decs n = decs (n / 10) ++ [((48 + n % 10 : Nat) : Int)] := by rw [decs, dif_neg h]
theorem decs_length {n t : Nat} (h : n < 10 ^ t) : (decs n).length ≤ t := by
 induction t generalizing n with
 | zero =>
  have : n = 0 := (by simp at h; exact h);subst this; rw [decs_zero]; exact Nat.le_refl _
 | succ t ih =>
  by_cases h0 : n = 0
  ·subst h0; rw [decs_zero]; exact Nat.zero_le _
  ·rw [decs_pos h0, List.length_append];have := ih (n := n / 10) (by rw [Nat.pow_succ] at h; omega);simp;omega
end Go.Proofs.YtlblkajnmdhmdaaGreatDoor.NB
namespace Go.Proofs.YtlblkajnmdhmdaaGreatDoor.NB
end Go.Proofs.YtlblkajnmdhmdaaGreatDoor.NB
namespace Go.Proofs.YtlblkajnmdhmdaaGreatDoor.NB
end Go.Proofs.YtlblkajnmdhmdaaGreatDoor.NB
namespace Go.Proofs.YtlblkajnmdhmdaaGreatDoor.NB
set_option linter.unusedVariables false
open Go Go.RowKit Go.Proofs.YtlblkajnmdhmdaaGreatDoor.PFormatNumber Go.Proofs.YtlblkajnmdhmdaaGreatDoorW.PrintWords Go.Proofs.YtlblkajnmdhmdaaGreatDoorW.PrintLast Go.Proofs.YtlblkajnmdhmdaaGreatDoorW.PrintMore Go.Proofs.YtlblkajnmdhmdaaGreatDoor.NU
/-! ### strings as lists of numbers -/
theorem str_ext {a b : ByteArray} (h : a.data.toList = b.data.toList) : a = b := by
 cases a with | mk a => cases b with | mk b => exact congrArg ByteArray.mk (Array.ext' h)
theorem str_list (l : List Int) : (strOfNums l).data.toList = l.map fun n => UInt8.ofNat n.toNat := by simp [strOfNums]
/-! ### l01Dec -/
def decz (u : Nat) : List Int := if u = 0 then [48] else decs u
theorem decz_eq (u : Nat) : decz u = decs (u / 10) ++ [((48 + u % 10 : Nat) : Int)] := by
 unfold decz;by_cases h : u = 0
 ·subst h; rw [if_pos rfl, show 0 / 10 = 0 by decide, decs_zero]; rfl
 ·rw [if_neg h, decs_pos h]
/-- An integer's decimal text. -/
def itext (v : Int) : List Int := (if v < 0 then [45] else []) ++ decz v.natAbs
theorem dec_l0 (v : Int) (u : Nat) : ∀ (X : List Int), u < 18446744073709551616 → X.length + (decs u).length ≤ 1000000 → Ev (fun k => spec_l01Dec.l0 k v (u : Int) X) (strOfNums ((if v < 0 then [45] else []) ++ (decs (u / 10) ++ X))) := by
 induction u using Nat.strongRecOn with
 | ind u ih =>
  intro X hu hl;by_cases h10 : 10 ≤ u
  ·have e1 : IntKind.u64.wrap (Int.tdiv (u : Int) 10) = ((u / 10 : Nat) : Int) := by
    rw [show Int.tdiv (u : Int) 10 = ((u / 10 : Nat) : Int) from tdiv_nat u 10, IntKind.wrap_u64]; omega
   have e2 : (IntKind.u64.wrap (48 + (Int.tmod ((u / 10 : Nat) : Int) 10))) % 256 = ((48 + u / 10 % 10 : Nat) : Int) := by
    rw [tmod_10, IntKind.wrap_u64]; omega
   have hd : decs u = decs (u / 10) ++ [((48 + u % 10 : Nat) : Int)] := decs_pos (by omega);refine Ev.step (f := fun k => spec_l01Dec.l0 k v ((u / 10 : Nat) : Int) ([((48 + u / 10 % 10 : Nat) : Int)] ++ X)) (fun k => ?_) ?_
   ·simp only [spec_l01Dec.l0, Option.bind_some];rw [if_pos (by omega), e1, e2, if_pos (by simp; omega)]
   ·have h := ih (u / 10) (by omega) ([((48 + u / 10 % 10 : Nat) : Int)] ++ X) (by omega) (by rw [hd] at hl; simp at hl ⊢; omega);rw [show decs (u / 10) = decs (u / 10 / 10) ++ [((48 + u / 10 % 10 : Nat) : Int)] from decs_pos (by omega), List.append_assoc (decs (u / 10 / 10))];exact h
  ·rw [show u / 10 = 0 by omega, decs_zero, List.nil_append];by_cases hv : v < 0
   ·rw [if_pos hv];refine Ev.step (f := fun _ => some (strOfNums ([45] ++ X))) (fun k => ?_) (Ev.now _);simp only [spec_l01Dec.l0, Option.bind_some];rw [if_neg (by omega), if_pos hv, if_pos (by simp; omega)]
   ·rw [if_neg hv, List.nil_append];refine Ev.step (f := fun _ => some (strOfNums X)) (fun k => ?_) (Ev.now _);simp only [spec_l01Dec.l0, Option.bind_some];rw [if_neg (by omega), if_neg hv]
theorem dec_ev {v : Int} (h1 : -9223372036854775808 ≤ v) (h2 : v ≤ 9223372036854775807) : Ev (fun k => spec_l01Dec.f k v) (strOfNums (itext v)) := by
 have hu : v.natAbs < 18446744073709551616 := (by omega);have hl : (decs v.natAbs).length ≤ 64 := decs_length (Nat.lt_of_lt_of_le (by omega : v.natAbs < 2 ^ 64) (Nat.pow_le_pow_left (by decide) 64))
 have hj : Ev (fun k => spec_l01Dec.j0 k v ((v.natAbs : Nat) : Int)) (strOfNums (itext v)) := by
  unfold itext;rw [decz_eq];refine Ev.step (f := fun k => spec_l01Dec.l0 k v ((v.natAbs : Nat) : Int) [((48 + v.natAbs % 10 : Nat) : Int)]) (fun k => ?_) (dec_l0 v v.natAbs _ hu (by simp; omega));simp only [spec_l01Dec.j0];rw [tmod_10, IntKind.wrap_u64];congr 2;omega
 refine Ev.congr (fun k => ?_) hj;unfold spec_l01Dec.f;by_cases hv : v < 0
 ·rw [if_pos hv, IntKind.wrap_u64, IntKind.wrap_u64];congr 1;omega
 ·rw [if_neg hv, IntKind.wrap_u64];congr 1;omega
/-! ### l01Zeros -/
/-! ### l01FloatText -/
/-! ### L01Text -/
end Go.Proofs.YtlblkajnmdhmdaaGreatDoor.NB
