/-
  Plain law over the printed functions: L01AsInt, l01Negated, L01Operand, ToInteger of the reference.
  Plain law over the printed functions: l01Negated, L01Operand, ToInteger of the reference.
  Plain law over the printed functions: L01Operand and ToInteger of the reference, at every text.
  Plain: when a float is a whole number of the machine's, as the program asks it: two comparisons, and the number cut towards zero.
-/
import Derived.Test.YtlblkajnmdhmdaaGreatDoorZNRg
import Derived.Test.YtlblkajnmdhmdaaGreatDoorZNBig8
import Derived.Test.YtlblkajnmdhmdaaGreatDoorZDTob
import Derived.Test.YtlblkajnmdhmdaaGreatDoorZNNs
import Derived.Test.YtlblkajnmdhmdaaGreatDoorZNEx
namespace Go.Proofs.YtlblkajnmdhmdaaGreatDoor.NB
set_option linter.unusedVariables false
open Go Go.RowKit Go.Proofs.YtlblkajnmdhmdaaGreatDoor.PFormatNumber Go.Proofs.YtlblkajnmdhmdaaGreatDoorW.PrintWords Go.Proofs.YtlblkajnmdhmdaaGreatDoorW.PrintLast Go.Proofs.YtlblkajnmdhmdaaGreatDoorW.PrintMore Go.Proofs.YtlblkajnmdhmdaaGreatDoor.NU
open NR (isD evs expI HasExp Digs scan dpt)
/-- The whole number that a word's magnitude is, or none. -/
def magI (m : Nat) : Option Nat :=
 if m < 2047 * 2 ^ 52 then (if 1074 ≤ wE m then some (wM m * 2 ^ (wE m - 1074)) else if wM m % 2 ^ (1074 - wE m) = 0 then some (wM m / 2 ^ (1074 - wE m)) else none) else none
/-- The integer that a word is, or none. -/
def wordI (B : Nat) : Option Int := match magI (B % 2 ^ 63) with
 | none => none
 | some v => if 2 ^ 63 ≤ B then (if v ≤ 2 ^ 63 then some (-(v : Int)) else none) else (if v < 2 ^ 63 then some (v : Int) else none)
def numI (isF : Bool) (i : Int) (u : Nat) : Option Int := if isF then wordI u else some i
def optI : Option Int → Int × Bool
 | some v => (v, true)
 | none => (0, false)
theorem shl_at {a e : Nat} (he : e ≤ 62) (h : a * 2 ^ e < 9223372036854775808) : shl .i64 (a : Int) (e : Int) = ((a * 2 ^ e : Nat) : Int) := by
 unfold shl;rw [Int.toNat_natCast, Nat.min_eq_left (by show e ≤ 64; omega)];have e1 : (a : Int) * 2 ^ e = ((a * 2 ^ e : Nat) : Int) := (by push_cast; rfl);rw [e1];show IntKind.i64.wrap _ = _;rw [IntKind.wrap_i64];omega
theorem shr_at' {a e : Nat} (he : e ≤ 63) : shr .i64 (a : Int) (e : Int) = ((a / 2 ^ e : Nat) : Int) := by
 unfold shr;rw [Int.toNat_natCast, Nat.min_eq_left (by show e ≤ 64; omega)];push_cast;rfl
theorem neg_end (v : Nat) (B : Nat) (hv : v < 9223372036854775808) (hB : B < 18446744073709551616) : (spec_l01Minor.f (B : Int)).bind (fun t295 => (if t295 = true then (some (wrap64 (-(v : Int)), true)) else (some ((v : Int), true)))) = some (optI (if 2 ^ 63 ≤ B then (if v ≤ 2 ^ 63 then some (-(v : Int)) else none) else (if v < 2 ^ 63 then some (v : Int) else none))) := by
 unfold spec_l01Minor.f;rw [Option.bind_some];by_cases h : 2 ^ 63 ≤ B
 ·rw [if_pos (decide_eq_true (by omega)), if_pos h, if_pos (by omega), wrap64_of (by omega) (by omega)];rfl
 ·rw [if_neg (by rw [decide_eq_false (by omega)]; decide), if_neg h, if_pos (by omega)];rfl
theorem asint_ev {isF : Bool} {i : Int} {u : Nat} (hu : u < 2 ^ 64) : Ev (fun k => spec_L01AsInt.f k isF i (u : Int)) (optI (numI isF i u)) := by
 cases isF with
 | false =>
  refine Ev.congr (fun k => ?_) (Ev.now _);unfold spec_L01AsInt.f;rw [if_neg (by decide)];rfl
 | true =>
  have hmod : Int.tmod (u : Int) 9223372036854775808 = ((u % 9223372036854775808 : Nat) : Int) := tmod_nat u 9223372036854775808;have hp : (2 : Nat) ^ 63 = 9223372036854775808 := (by decide);have hnum : numI true i u = wordI u := rfl;rw [hnum];unfold wordI;rw [hp];obtain ⟨m, hm⟩ : ∃ m, u % 9223372036854775808 = m := ⟨_, rfl⟩;have hml : m < 9223372036854775808 := (by omega);rw [hm] at hmod ⊢;by_cases hfin : m < 2047 * 2 ^ 52
  ·have hstart : ∀ r, Ev (fun k => spec_L01AsInt.j0 k false true i (u : Int)) r → Ev (fun k => spec_L01AsInt.f k true i (u : Int)) r := fun r h => by
    refine Ev.congr (fun k => ?_) h;unfold spec_L01AsInt.f spec_l01IsNan.f spec_l01Infinite.f;rw [if_pos rfl, hmod, decide_eq_false (by omega), Option.bind_some, if_neg (by decide), Option.bind_some];congr 1;simp only [beq_eq_false_iff_ne, ne_eq];omega
   apply hstart;have hpa := parts_at hfin;have hM := wM_lt m;have hMg := @wM_ge m;have hEM := wEM m;unfold magI;rw [if_pos hfin];obtain ⟨M, hMM⟩ : ∃ M, wM m = M := ⟨_, rfl⟩;obtain ⟨E, hEE⟩ : ∃ E, wE m = E := ⟨_, rfl⟩;rw [hMM, hEE] at hpa hEM hMg ⊢;rw [hMM] at hM;by_cases he : 1074 ≤ E
   ·rw [if_pos he];obtain ⟨e, rfl⟩ : ∃ e, E = 1074 + e := ⟨E - 1074, by omega⟩;have hM2 := hMg (by omega);rw [Nat.add_sub_cancel_left];by_cases hC3 : u = 14114281232179134464
    ·have hm2 : m = 4890909195324358656 := (by omega);have hE2 : 1074 + e = 1085 ∧ M = 4503599627370496 := (by omega);obtain ⟨h1, rfl⟩ := hE2;obtain rfl : e = 11 := (by omega);refine Ev.step (f := fun _ => some ((-9223372036854775808), true)) (fun k => ?_) (Ev.congr (fun k => ?_) (Ev.now _))
     ·simp only [spec_L01AsInt.j0];rw [if_neg (by decide), hmod, hpa, Option.bind_some, if_pos (by omega), if_pos (by omega)]
     ·rw [hC3];rfl
    ·by_cases he10 : 10 < e
     ·have hbig : 2 ^ 52 * 2 ^ 11 ≤ M * 2 ^ e := Nat.mul_le_mul hM2 (Nat.pow_le_pow_right (by decide) (by omega))
      have hno : (match some (M * 2 ^ e) with
       | none => none
       | some v => if 9223372036854775808 ≤ u then (if v ≤ 9223372036854775808 then some (-(v : Int)) else none) else (if v < 9223372036854775808 then some (v : Int) else none)) = none := by
       show (if 9223372036854775808 ≤ u then (if M * 2 ^ e ≤ 9223372036854775808 then some (-((M * 2 ^ e : Nat) : Int)) else none) else (if M * 2 ^ e < 9223372036854775808 then some ((M * 2 ^ e : Nat) : Int) else none)) = none;by_cases hn : 9223372036854775808 ≤ u
       ·rw [if_pos hn, if_neg];intro hle
        have he11 : e = 11 := by
         apply Nat.le_antisymm _ (by omega);apply Nat.le_of_not_lt;intro h12;have : 2 ^ 52 * 2 ^ 12 ≤ M * 2 ^ e := Nat.mul_le_mul hM2 (Nat.pow_le_pow_right (by decide) (by omega));omega
        subst he11;omega
       ·rw [if_neg hn, if_neg (by omega)]
      rw [hno];refine Ev.step (f := fun _ => some (0, false)) (fun k => ?_) (Ev.now _);simp only [spec_L01AsInt.j0];rw [if_neg (by decide), hmod, hpa, Option.bind_some, if_pos (by omega), if_neg (by omega), if_pos (by omega)]
     ·have hlt : M * 2 ^ e < 9223372036854775808 := by
       have : M * 2 ^ e ≤ (2 ^ 53 - 1) * 2 ^ 10 := Nat.mul_le_mul (by omega) (Nat.pow_le_pow_right (by decide) (by omega));omega
      have hsh := shl_at (a := M) (e := e) (by omega) hlt;have hend := neg_end (M * 2 ^ e) u hlt (by omega);rw [hp] at hend;refine Ev.step (f := fun _ => some (optI (if 9223372036854775808 ≤ u then (if M * 2 ^ e ≤ 9223372036854775808 then some (-((M * 2 ^ e : Nat) : Int)) else none) else (if M * 2 ^ e < 9223372036854775808 then some ((M * 2 ^ e : Nat) : Int) else none)))) (fun k => ?_) (Ev.now _);simp only [spec_L01AsInt.j0];rw [if_neg (by decide), hmod, hpa, Option.bind_some, if_pos (by omega), if_neg (by omega), if_neg (by omega), if_pos (by omega), show (((1074 + e : Nat) : Int) - 1074) = (e : Int) by omega, hsh];exact hend
   ·rw [if_neg he];obtain ⟨e, hee⟩ : ∃ e, 1074 - E = e := ⟨_, rfl⟩;have he1 : 1 ≤ e ∧ e ≤ 1074 := (by omega);have hx5 : ((E : Nat) : Int) - 1074 = -(e : Int) := (by omega);rw [hx5] at hpa;rw [hee]
    -- what the last step answers
    have hj2 : ∀ t : Nat, t < 9223372036854775808 → Ev (fun k => spec_L01AsInt.j2 k (t : Int) false true i (u : Int)) (optI (if 9223372036854775808 ≤ u then (if t ≤ 9223372036854775808 then some (-(t : Int)) else none) else (if t < 9223372036854775808 then some (t : Int) else none))) := fun t ht => by
     have hend := neg_end t u ht (by omega);rw [hp] at hend;refine Ev.step (f := fun _ => some (optI (if 9223372036854775808 ≤ u then (if t ≤ 9223372036854775808 then some (-(t : Int)) else none) else (if t < 9223372036854775808 then some (t : Int) else none)))) (fun k => ?_) (Ev.now _);simp only [spec_L01AsInt.j2];rw [if_neg (by decide)];exact hend
    have hj2n : ∀ t : Int, Ev (fun k => spec_L01AsInt.j2 k t true true i (u : Int)) (0, false) := fun t => by
     refine Ev.step (f := fun _ => some (0, false)) (fun k => ?_) (Ev.now _);simp only [spec_L01AsInt.j2];rw [if_pos trivial]
    by_cases he63 : e < 63
    ·have hlt : M / 2 ^ e < 9223372036854775808 := Nat.lt_of_le_of_lt (Nat.div_le_self _ _) (by omega);refine Ev.step (f := fun k => spec_L01AsInt.j1 k (M : Int) (-(e : Int)) ((M / 2 ^ e : Nat) : Int) true i (u : Int)) (fun k => ?_) ?_
     ·simp only [spec_L01AsInt.j0];rw [if_neg (by decide), hmod, hpa, Option.bind_some, if_neg (by omega), if_pos (by omega), wrap64_of (x := -(-(e : Int))) (by omega) (by omega), if_pos (by omega), Int.neg_neg, shr_at' (by omega)]
     ·by_cases hM0 : M = 0
      ·rw [if_pos (by rw [hM0, Nat.zero_mod])];refine Ev.step (fun k => ?_) (hj2 _ hlt);simp only [spec_L01AsInt.j1];rw [if_pos (by omega)]
      ·have hmul : M / 2 ^ e * 2 ^ e ≤ M := Nat.div_mul_le_self _ _;have hsh := shl_at (a := M / 2 ^ e) (e := e) (by omega) (by omega);by_cases hr : M % 2 ^ e = 0
       ·rw [if_pos hr];have hx : M / 2 ^ e * 2 ^ e = M := Nat.div_mul_cancel (Nat.dvd_of_mod_eq_zero hr);refine Ev.step (fun k => ?_) (hj2 _ hlt);simp only [spec_L01AsInt.j1];rw [if_neg (by omega), if_neg (by omega), wrap64_of (x := -(-(e : Int))) (by omega) (by omega), if_pos (by omega), Int.neg_neg, hsh, hx];congr 1;simp
       ·rw [if_neg hr];refine Ev.step (fun k => ?_) (hj2n ((M / 2 ^ e : Nat) : Int));simp only [spec_L01AsInt.j1];rw [if_neg (by omega), if_neg (by omega), wrap64_of (x := -(-(e : Int))) (by omega) (by omega), if_pos (by omega), Int.neg_neg, hsh];congr 1;simp only [bne_iff_ne, ne_eq];intro h;apply hr;have h2 : M / 2 ^ e * 2 ^ e = M := (by omega);have h3 := Nat.div_add_mod M (2 ^ e);rw [Nat.mul_comm] at h3;omega
    ·have hpow : M < 2 ^ e := Nat.lt_of_lt_of_le (by omega : M < 2 ^ 53) (Nat.pow_le_pow_right (by decide) (by omega));rw [Nat.mod_eq_of_lt hpow, Nat.div_eq_of_lt hpow];refine Ev.step (f := fun k => spec_L01AsInt.j1 k (M : Int) (-(e : Int)) 0 true i (u : Int)) (fun k => ?_) ?_
     ·simp only [spec_L01AsInt.j0];rw [if_neg (by decide), hmod, hpa, Option.bind_some, if_neg (by omega), if_neg (by omega)]
     ·by_cases hM0 : M = 0
      ·rw [if_pos hM0];refine Ev.step (fun k => ?_) (hj2 0 (by decide));simp only [spec_L01AsInt.j1];rw [if_pos (by omega)];rfl
      ·rw [if_neg hM0];refine Ev.step (fun k => ?_) (hj2n 0);simp only [spec_L01AsInt.j1];rw [if_neg (by omega), if_pos (by omega)]
  ·have hno : magI m = none := (by unfold magI; rw [if_neg hfin]);rw [hno];refine Ev.congr (f := fun k => spec_L01AsInt.j0 k true true i (u : Int)) (fun k => ?_) (Ev.step (f := fun _ => some (0, false)) (fun k => ?_) (Ev.now _))
   ·unfold spec_L01AsInt.f spec_l01IsNan.f spec_l01Infinite.f;rw [if_pos rfl, hmod];by_cases hn : (m : Int) > 9218868437227405312
    ·rw [decide_eq_true hn, Option.bind_some, if_pos rfl]
    ·rw [decide_eq_false hn, Option.bind_some, if_neg (by decide), Option.bind_some];congr 1;simp only [beq_iff_eq];omega
   ·simp only [spec_L01AsInt.j0];rw [if_pos trivial]
end Go.Proofs.YtlblkajnmdhmdaaGreatDoor.NB
namespace Go.Proofs.YtlblkajnmdhmdaaGreatDoor.NB
set_option linter.unusedVariables false
open Go Go.RowKit Go.Proofs.YtlblkajnmdhmdaaGreatDoor.PFormatNumber Go.Proofs.YtlblkajnmdhmdaaGreatDoorW.PrintWords Go.Proofs.YtlblkajnmdhmdaaGreatDoorW.PrintLast Go.Proofs.YtlblkajnmdhmdaaGreatDoorW.PrintMore Go.Proofs.YtlblkajnmdhmdaaGreatDoor.NU
open NR (isD evs expI HasExp Digs scan dpt)
theorem bits_xor_u64_nat (a b : Nat) (ha : a < 18446744073709551616) (hb : b < 18446744073709551616) :
  bits .xor .u64 (a : Int) (b : Int) = ((a ^^^ b : Nat) : Int) := by
 have hx : a ^^^ b < 2 ^ 64 := Nat.xor_lt_two_pow (by omega) (by omega)
 have h1 : (BitVec.ofInt 64 (a : Int)).toNat = a := by
  rw [BitVec.ofInt_natCast, BitVec.toNat_ofNat]; exact Nat.mod_eq_of_lt (by omega)
 have h2 : (BitVec.ofInt 64 (b : Int)).toNat = b := by
  rw [BitVec.ofInt_natCast, BitVec.toNat_ofNat]; exact Nat.mod_eq_of_lt (by omega)
 show IntKind.u64.wrap ((BitVec.ofInt 64 (a : Int) ^^^ BitVec.ofInt 64 (b : Int)).toNat : Int) = _;rw [BitVec.toNat_xor, h1, h2, IntKind.wrap_u64];omega
/-- A finite word that is not negative, its sign turned. -/
theorem flip_bits {u : Nat} (h : u ≤ 2047 * 2 ^ 52) : bits .xor .u64 (u : Int) 9223372036854775808 = ((2 ^ 63 + u : Nat) : Int) := by
 have e := bits_xor_u64_nat u 9223372036854775808 (by omega) (by decide);have e2 := neg_major (b := u) (by omega);have hp : (2 : Nat) ^ 63 = 9223372036854775808 := (by decide);rw [hp] at e2 ⊢;rw [e2] at e;exact e
theorem fromI_ev {v : Int} (h1 : -9223372036854775808 ≤ v) (h2 : v ≤ 9223372036854775807) : ∃ r : Nat, Ev (fun k => spec_l01FromInt.f k v) (r : Int) := by
 by_cases h0 : v = -9223372036854775808
 ·refine ⟨14114281232179134464, Ev.congr (fun k => ?_) (Ev.now _)⟩;unfold spec_l01FromInt.f;rw [if_pos h0];rfl
 ·obtain ⟨N, hN⟩ : ∃ N : Nat, v.natAbs = N := ⟨_, rfl⟩;have hNl : N < 9223372036854775808 := (by omega);have hfin : word N 1 < 2047 * 2 ^ 52 := fin_int (Nat.lt_trans hNl (by decide));have hof := of_ev hNl;have hw := word_ev (n := N) (d := 1) (C := 64) (e := 0) (by decide) (by decide) (Nat.lt_trans hNl (by decide)) (by decide) (by decide) (by decide);rw [dig_one, word2_zero] at hw;by_cases hneg : v < 0
  ·refine ⟨2 ^ 63 + word N 1, Ev.congr (fun k => ?_) (Ev.bind (f := fun k t223 => ((spec_l01Word.f k t223 (([1] : List Int)) 0).bind fun t229 => (some (IntKind.u64.wrap (9223372036854775808 + t229))))) hof (Ev.bind (f := fun k t229 => some (IntKind.u64.wrap (9223372036854775808 + t229))) hw ?_))⟩
   ·show spec_l01FromInt.f k v = _;unfold spec_l01FromInt.f;rw [if_neg h0, if_pos hneg, wrap64_of (by omega) (by omega), show -v = (N : Int) by omega]
   ·have e : IntKind.u64.wrap (9223372036854775808 + ((word N 1 : Nat) : Int)) = ((2 ^ 63 + word N 1 : Nat) : Int) := (by rw [IntKind.wrap_u64]; omega);rw [e];exact Ev.now _
  ·refine ⟨word N 1, Ev.congr (fun k => ?_) (Ev.bind (f := fun k t230 => ((spec_l01Word.f k t230 (([1] : List Int)) 0).bind fun t236 => (some t236))) hof (Ev.bind (f := fun k t236 => some t236) hw (Ev.now _)))⟩;show spec_l01FromInt.f k v = _;unfold spec_l01FromInt.f;rw [if_neg h0, if_neg hneg, show v = (N : Int) by omega]
/-- A number with its sign turned. -/
def negR (isF : Bool) (i : Int) (u : Nat) : Bool × Int × Int := if isF = true then (true, 0, ((2 ^ 63 + u : Nat) : Int)) else (false, wrap64 (-i), 0)
/-- A number that ParseNumber gives. -/
def NumOk (isF : Bool) (i : Int) (u : Nat) : Prop := (isF = true ∧ i = 0 ∧ u ≤ 2047 * 2 ^ 52) ∨ (isF = false ∧ u = 0 ∧ -9223372036854775808 ≤ i ∧ i ≤ 9223372036854775807)
theorem float_f' {u : Nat} (h : u ≤ 2047 * 2 ^ 52) : spec_l01Float.f (u : Int) = some (true, 0, (u : Int)) := by
 unfold spec_l01Float.f spec_l01IsNan.f
 have e : Int.tmod (u : Int) 9223372036854775808 = u := by
  rw [Int.tmod_eq_emod_of_nonneg (by omega)];omega
 rw [e, decide_eq_false (by omega), Option.bind_some, if_neg (by decide)]
theorem arith_ev {isF : Bool} {i : Int} {u : Nat} (h : NumOk isF i u) : Ev (fun k => (spec_L01Arith.f k 13 isF i (u : Int) isF i (u : Int)).bind fun b => (some (b.1, b.2.1, b.2.2.1))) (negR isF i u) := by
 rcases h with ⟨rfl, rfl, hu⟩ | ⟨rfl, rfl, hi⟩
 ·refine Ev.congr (fun k => ?_) (Ev.now _);unfold spec_L01Arith.f spec_l01AsFloat.f;rw [if_pos ⟨rfl, rfl, rfl, rfl⟩, if_pos rfl, float_f' hu];simp only [Option.bind_some];rw [if_pos trivial, flip_bits hu];unfold spec_l01Float.f spec_l01IsNan.f
  have e : Int.tmod ((2 ^ 63 + u : Nat) : Int) 9223372036854775808 = u := by
   have : Int.tmod ((2 ^ 63 + u : Nat) : Int) 9223372036854775808 = (((2 ^ 63 + u) % 9223372036854775808 : Nat) : Int) := tmod_nat (2 ^ 63 + u) 9223372036854775808;rw [this];omega
  rw [e, decide_eq_false (by omega), Option.bind_some, if_neg (by decide)];rfl
 ·obtain ⟨r, hr⟩ := fromI_ev hi.1 hi.2;refine Ev.congr (f := fun k => (spec_l01FromInt.f k i).bind fun _ => some (negR false i 0)) (fun k => ?_) (Ev.bind (f := fun _ _ => some (negR false i 0)) hr (Ev.now _));unfold spec_L01Arith.f spec_l01AsFloat.f;rw [if_pos ⟨rfl, rfl, rfl, rfl⟩, if_neg (by decide)]
  cases spec_l01FromInt.f k i with
  | none => rfl
  | some x => rfl
/-- The text is the digits of 2^63, zeros ahead or none. -/
def IsMin (d : ByteArray) : Prop := (∀ k, k < d.size → isD (NR.bt d k)) ∧ fdig d d.size = 9223372036854775808
/-- The zeros at the head are struck. -/
theorem strip_ev (isF : Bool) (i u : Int) : ∀ (n : Nat) (x : ByteArray), x.size = n + 1 → x.size ≤ 1000 →
  ∃ (q : Nat) (z : ByteArray), View z x q ∧ q < x.size ∧ (∀ k, k < q → NR.bt x k = 48) ∧ (NR.bt x q ≠ 48 ∨ q + 1 = x.size) ∧
   ∀ R, Ev (fun k => spec_l01Negated.j2 k z isF i u) R → Ev (fun k => spec_l01Negated.l1 k x true isF i u) R := by
 intro n
 induction n with
 | zero =>
  intro x hx _;refine ⟨0, x, View.refl x, by omega, fun k hk => absurd hk (by omega), Or.inr (by omega), fun R h => Ev.step (fun k => ?_) h⟩;simp only [spec_l01Negated.l1];rw [if_pos trivial, if_neg (by omega)]
 | succ n ih =>
  intro x hx hsz;have hb : bt x 0 = (NR.bt x 0 : Int) := bt_nr x 0;by_cases h48 : NR.bt x 0 = 48
  ·have hv := (View.refl x).cut (n := 1) (by omega);have hs := hv.size;obtain ⟨y, hy⟩ : ∃ y, x.extract 1 x.size = y := ⟨_, rfl⟩;rw [hy] at hv hs;obtain ⟨q, z, hz, hq, hk, hl, hR⟩ := ih y (by omega) (by omega);have hat := hv.at_;refine ⟨q + 1, z, ⟨by omega, by have := hz.size; omega, fun i => ?_⟩, by omega, fun k hk' => ?_, ?_, fun R h => Ev.step (fun k => ?_) (hR R h)⟩
   ·rw [hz.at_, hat];congr 1;omega
   ·by_cases h0 : k = 0
    ·rw [h0]; exact h48
    ·have := hk (k - 1) (by omega);rw [hat] at this;rw [show 0 + 1 + (k - 1) = k by omega] at this;exact this
   ·rw [hat, show 0 + 1 + q = q + 1 by omega] at hl
    rcases hl with hl | hl
    ·exact Or.inl hl
    ·exact Or.inr (by omega)
   ·simp only [spec_l01Negated.l1];rw [if_pos trivial, if_pos (by omega), if_pos (by omega), hb, if_pos (by omega), if_pos (by omega), hy]
  ·refine ⟨0, x, View.refl x, by omega, fun k hk => absurd hk (by omega), Or.inl h48, fun R h => Ev.step (fun k => ?_) h⟩;simp only [spec_l01Negated.l1];rw [if_pos trivial, if_pos (by omega), if_pos (by omega), hb, if_neg (by omega)]
/-- The digits of 2^63. -/
abbrev min19 : List UInt8 := [57, 50, 50, 51, 51, 55, 50, 48, 51, 54, 56, 53, 52, 55, 55, 53, 56, 48, 56]
theorem fdig_view {x d : ByteArray} {q : Nat} (hv : View x d q) (hd : ∀ k, k < d.size → isD (NR.bt d k)) (h0 : ∀ k, k < q → NR.bt d k = 48) (hq : q < d.size) : ∀ j, q + j ≤ d.size → fdig d (q + j) = fdig x j
 | 0, _ => by
  have : ∀ k, k ≤ q → fdig d k = 0 := by
   intro k
   induction k with
   | zero => intro _; rfl
   | succ k ih =>
    intro hk;have ih := ih (by omega);have h48 := h0 k (by omega);show (if NR.bt d k = 46 then fdig d k else fdig d k * 10 + (NR.bt d k - 48)) = 0;rw [ih, h48];rfl
  exact this q (Nat.le_refl _)
 | j + 1, hj => by
  have ih := fdig_view hv hd h0 hq j (by omega);show (if NR.bt d (q + j) = 46 then fdig d (q + j) else fdig d (q + j) * 10 + (NR.bt d (q + j) - 48)) = (if NR.bt x j = 46 then fdig x j else fdig x j * 10 + (NR.bt x j - 48));rw [ih, hv.at_]
theorem fdig_step {z : ByteArray} {j : Nat} (h : isD (NR.bt z j)) : fdig z (j + 1) = fdig z j * 10 + (NR.bt z j - 48) := by
 unfold isD at h;show (if NR.bt z j = 46 then fdig z j else fdig z j * 10 + (NR.bt z j - 48)) = _;rw [if_neg (by omega)]
/-- Digits of one length and one value are the same. -/
theorem fdig_same {x y : ByteArray} : ∀ j, (∀ k, k < j → isD (NR.bt x k)) → (∀ k, k < j → isD (NR.bt y k)) → fdig x j = fdig y j → ∀ k, k < j → NR.bt x k = NR.bt y k
 | 0, _, _, _, k, hk => absurd hk (by omega)
 | j + 1, hx, hy, h, k, hk => by
  have dx := hx j (by omega);have dy := hy j (by omega);rw [fdig_step dx, fdig_step dy] at h;unfold isD at dx dy;by_cases e : k = j
  ·subst e;omega
  ·exact fdig_same j (fun k hk => hx k (by omega)) (fun k hk => hy k (by omega)) (by omega) k (by omega)
theorem fdig_size {z : ByteArray} (h48 : NR.bt z 0 ≠ 48) : ∀ j, (∀ k, k < j + 1 → isD (NR.bt z k)) → 10 ^ j ≤ fdig z (j + 1) ∧ fdig z (j + 1) < 10 ^ (j + 1)
 | 0, h => by
  have h0 := h 0 (by omega);rw [fdig_step h0];unfold isD at h0;show 10 ^ 0 ≤ 0 * 10 + (NR.bt z 0 - 48) ∧ 0 * 10 + (NR.bt z 0 - 48) < 10 ^ 1;omega
 | j + 1, h => by
  obtain ⟨h1, h2⟩ := fdig_size h48 j (fun k hk => h k (by omega));have h0 := h (j + 1) (by omega);rw [fdig_step h0, Nat.pow_succ 10 (j + 1), Nat.pow_succ 10 j];unfold isD at h0;rw [Nat.pow_succ] at h2;omega
def yMin : ByteArray := ⟨min19.toArray⟩
theorem yMin_val : fdig yMin 19 = 9223372036854775808 ∧ yMin.size = 19 ∧ ∀ k : Fin 19, isD (NR.bt yMin k.val) := by
 refine ⟨by decide +kernel, rfl, ?_⟩;unfold isD;decide +kernel
theorem bytes_same {x y : ByteArray} (hs : x.size = y.size) (h : ∀ k, k < x.size → NR.bt x k = NR.bt y k) : x = y := by
 apply Go.WideShapes.bytes_inj;have hx : x.data.toList.length = x.size := Array.length_toList;have hy : y.data.toList.length = y.size := Array.length_toList;apply List.ext_getElem (by omega);intro k h1 h2;have h3 := h k (by omega);rw [NR.bt_of_lt (by omega), NR.bt_of_lt (by omega)] at h3;exact UInt8.toNat_inj.1 h3
theorem min_iff {z : ByteArray} (hd : ∀ k, k < z.size → isD (NR.bt z k)) (h0 : 0 < z.size) (h48 : NR.bt z 0 ≠ 48 ∨ z.size = 1) : z.toList = min19 ↔ fdig z z.size = 9223372036854775808 := by
 obtain ⟨y1, y2, y3⟩ := yMin_val;rw [ByteArray.toList_eq];constructor
 ·intro h;have : z = yMin := Go.WideShapes.bytes_inj h;rw [this, y2];exact y1
 ·intro h
  have hn48 : NR.bt z 0 ≠ 48 := by
   rcases h48 with h48 | h1
   ·exact h48
   ·intro h48;rw [h1, fdig_step (hd 0 (by omega)), h48] at h;have e0 : fdig z 0 = 0 := rfl;rw [e0] at h;omega
  obtain ⟨n, hn⟩ : ∃ n, z.size = n + 1 := ⟨z.size - 1, by omega⟩;have hb := fdig_size hn48 n (fun k hk => hd k (by omega));rw [hn] at h;rw [h] at hb
  have hn18 : n = 18 := by
   have a1 : 10 ^ n < 10 ^ 19 := Nat.lt_of_le_of_lt hb.1 (by decide);have a2 : 10 ^ 18 < 10 ^ (n + 1) := Nat.lt_of_lt_of_le (by decide) (Nat.le_of_lt hb.2);have b1 := (Nat.pow_lt_pow_iff_right (by decide : 1 < 10)).1 a1;have b2 := (Nat.pow_lt_pow_iff_right (by decide : 1 < 10)).1 a2;omega
  subst hn18;have hsame := fdig_same 19 (fun k hk => hd k (by omega)) (fun k hk => y3 ⟨k, hk⟩) (h.trans y1.symm);have : z = yMin := bytes_same (by omega) (fun k hk => hsame k (by omega));rw [this];rfl
theorem negated_l0 (d : ByteArray) (hs : d.size ≤ 1000) (isF : Bool) (i u : Int) {R : Bool × Int × Int} {b : Bool} (hb : b = decide (∀ k, k < d.size → 48 ≤ NR.bt d k ∧ NR.bt d k ≤ 57)) (h : Ev (fun k => spec_l01Negated.l1 k d b isF i u) R) :
  ∀ n j, j + n = d.size → Ev (fun k => spec_l01Negated.l0 k d (decide (∀ k, k < j → 48 ≤ NR.bt d k ∧ NR.bt d k ≤ 57)) (j : Int) isF i u) R := by
 intro n
 induction n with
 | zero =>
  intro j hj;have : j = d.size := (by omega);subst this;rw [← hb];refine Ev.step (fun k => ?_) h;simp only [spec_l01Negated.l0];rw [if_neg (by omega)]
 | succ n ih =>
  intro j hj;have h2 := ih (j + 1) (by omega);refine Ev.step (fun k => ?_) h2;simp only [spec_l01Negated.l0];rw [if_pos (by omega), wrap64_of (x := (j : Int) + 1) (by omega) (by omega)];by_cases hall : ∀ k, k < j → 48 ≤ NR.bt d k ∧ NR.bt d k ≤ 57
  ·rw [decide_eq_true hall, if_pos rfl, if_pos (by omega), bt_nr, digit_f, Option.bind_some];congr 1;by_cases hc : 48 ≤ NR.bt d j ∧ NR.bt d j ≤ 57
   ·rw [decide_eq_true hc, decide_eq_true (fun k hk => by
     by_cases e : k = j
     ·rw [e]; exact hc
     ·exact hall k (by omega))]
   ·rw [decide_eq_false hc, decide_eq_false (fun h => hc (h j (by omega)))]
  ·rw [decide_eq_false hall, if_neg (by decide), decide_eq_false (fun h => hall (fun k hk => h k (by omega)))];rfl
theorem negated_ev {d : ByteArray} (h0 : 0 < d.size) (hs : d.size ≤ 100) {isF : Bool} {i : Int} {u : Nat} (hn : NumOk isF i u) :
  (IsMin d ∧ Ev (fun k => spec_l01Negated.f k d isF i (u : Int)) (false, -9223372036854775808, 0)) ∨ (¬ IsMin d ∧ Ev (fun k => spec_l01Negated.f k d isF i (u : Int)) (negR isF i u)) := by
 have start : ∀ b R, b = decide (∀ k, k < d.size → 48 ≤ NR.bt d k ∧ NR.bt d k ≤ 57) → Ev (fun k => spec_l01Negated.l1 k d b isF i (u : Int)) R → Ev (fun k => spec_l01Negated.f k d isF i (u : Int)) R := fun b R hb h => by
  have := negated_l0 d (by omega) isF i u hb h d.size 0 (by omega);rw [decide_eq_true (fun k hk => absurd hk (by omega))] at this;exact this
 have hj2 : ∀ z : ByteArray, (z.toList = min19 → Ev (fun k => spec_l01Negated.j2 k z isF i (u : Int)) (false, -9223372036854775808, 0)) ∧ (z.toList ≠ min19 → Ev (fun k => spec_l01Negated.j2 k z isF i (u : Int)) (negR isF i u)) := fun z => by
  refine ⟨fun h => ?_, fun h => ?_⟩
  ·refine Ev.step (f := fun _ => some (false, -9223372036854775808, 0)) (fun k => ?_) (Ev.now _);simp only [spec_l01Negated.j2];rw [if_pos h];rfl
  ·refine Ev.step (fun k => ?_) (arith_ev hn);simp only [spec_l01Negated.j2];rw [if_neg h]
 by_cases hall : ∀ k, k < d.size → 48 ≤ NR.bt d k ∧ NR.bt d k ≤ 57
 ·obtain ⟨q, z, hz, hq, hk, hl, hR⟩ := strip_ev isF i u (d.size - 1) d (by omega) (by omega);have hzs := hz.size;have hv := fdig_view hz hall hk hq z.size (by omega);rw [show q + z.size = d.size by omega] at hv;have hzd : ∀ k, k < z.size → isD (NR.bt z k) := fun k hk => by rw [hz.at_]; exact hall (q + k) (by omega)
  have hz48 : NR.bt z 0 ≠ 48 ∨ z.size = 1 := by
   rcases hl with hl | hl
   ·left;rw [hz.at_];exact hl
   ·right;omega
  have hiff := min_iff hzd (by omega) hz48;rw [← hv] at hiff;by_cases hm : z.toList = min19
  ·exact Or.inl ⟨⟨hall, hiff.1 hm⟩, start true _ (decide_eq_true hall).symm (hR _ ((hj2 z).1 hm))⟩
  ·exact Or.inr ⟨fun h => hm (hiff.2 h.2), start true _ (decide_eq_true hall).symm (hR _ ((hj2 z).2 hm))⟩
 ·refine Or.inr ⟨fun h => hall h.1, start false _ (decide_eq_false hall).symm ?_⟩
  have hne : d.toList ≠ min19 := fun h => by
   apply hall;rw [ByteArray.toList_eq] at h;have : d = yMin := Go.WideShapes.bytes_inj h;rw [this];intro k hk;exact yMin_val.2.2 ⟨k, hk⟩
  refine Ev.step (fun k => ?_) ((hj2 d).2 hne);simp only [spec_l01Negated.l1];rw [if_neg (by decide)]
end Go.Proofs.YtlblkajnmdhmdaaGreatDoor.NB
namespace Go.Proofs.YtlblkajnmdhmdaaGreatDoor.NB
set_option linter.unusedVariables false
open Go Go.RowKit Go.Proofs.YtlblkajnmdhmdaaGreatDoor.PFormatNumber Go.Proofs.YtlblkajnmdhmdaaGreatDoorW.PrintWords Go.Proofs.YtlblkajnmdhmdaaGreatDoorW.PrintLast Go.Proofs.YtlblkajnmdhmdaaGreatDoorW.PrintMore Go.Proofs.YtlblkajnmdhmdaaGreatDoor.NU
open NR (isD evs expI HasExp Digs scan dpt)
/-- A number's text behind its sign: inf, or a numeral. -/
def opD (d : ByteArray) (o : Option (Bool × Int × Nat)) : Option (Bool × Int × Nat) := if d.toList = [105, 110, 102] then some (true, 0, 2047 * 2 ^ 52) else o
/-- A number with a minus ahead. -/
def negO (m : Prop) [Decidable m] : Option (Bool × Int × Nat) → Option (Bool × Int × Nat)
 | some (f, i, u) => if m then some (false, -9223372036854775808, 0) else if f = true then some (true, 0, 2 ^ 63 + u) else some (false, wrap64 (-i), 0)
 | none => none
instance (d : ByteArray) : Decidable (IsMin d) := by unfold IsMin isD; exact inferInstanceAs (Decidable (_ ∧ _))
/-- What the operand is at a text. -/
def Opd (s : ByteArray) (q : Option (Bool × Int × Nat)) : Prop :=
 (s.toList = [110, 97, 110] ∧ q = some (true, 0, 9221120237041090560)) ∨
 (s.toList ≠ [110, 97, 110] ∧ ((0 < s.size ∧ NR.bt s 0 = 45 ∧ ∃ o, Ans (s.extract 1 s.size) o ∧ q = negO (IsMin (s.extract 1 s.size)) (opD (s.extract 1 s.size) o)) ∨
  (¬ (0 < s.size ∧ NR.bt s 0 = 45) ∧ ∃ o, Ans s o ∧ q = opD s o)))
theorem wrap64_in (v : Int) : -9223372036854775808 ≤ wrap64 v ∧ wrap64 v ≤ 9223372036854775807 := by
 unfold wrap64;omega
theorem ans_ok {d : ByteArray} {o : Option (Bool × Int × Nat)} (h : Ans d o) : ∀ f i u, o = some (f, i, u) → 0 < d.size ∧ d.size ≤ 100 ∧ NumOk f i u := by
 intro f i u ho;subst ho;have hw : ∀ v, -9223372036854775808 ≤ wrap64 v ∧ wrap64 v ≤ 9223372036854775807 := wrap64_in
 rcases h with ⟨_, h⟩ | ⟨h1, h2, h⟩ | ⟨h1, _, ⟨P, E, h2, h⟩ | ⟨_, h⟩⟩
 ·cases h
 ·unfold hexAns at h;split at h
  ·rename_i hx
   cases h;have := hx.1;rw [ByteArray.size_extract] at this;exact ⟨by omega, h1, Or.inr ⟨rfl, rfl, hw _⟩⟩
  ·cases h
 ·have hp : 0 < d.size := by
   have := h2.1.1;have := h2.1.2.1;omega
  refine ⟨hp, h1, ?_⟩;unfold decAns at h;split at h
  ·rename_i v hv
   cases h;unfold decI at hv;split at hv
   ·cases hv;exact Or.inr ⟨rfl, rfl, by omega, by omega⟩
   ·cases hv
  ·split at h
   ·cases h;exact Or.inl ⟨rfl, rfl, by omega⟩
   ·cases h
 ·cases h
theorem opd_ok {d : ByteArray} {o : Option (Bool × Int × Nat)} (h : Ans d o) : ∀ f i u, opD d o = some (f, i, u) → 0 < d.size ∧ d.size ≤ 100 ∧ NumOk f i u := by
 intro f i u ho;unfold opD at ho;split at ho
 ·rename_i h3
  cases ho;have : d.data.toList.length = 3 := (by rw [← ByteArray.toList_eq, h3]; rfl);rw [Array.length_toList] at this;have hs : d.size = 3 := this;exact ⟨by omega, by omega, Or.inl ⟨rfl, rfl, Nat.le_refl _⟩⟩
 ·exact ans_ok h f i u ho
theorem j1_ev {d : ByteArray} {o : Option (Bool × Int × Nat)} (b : Bool) (h : Ans d o) (hp : Ev (fun k => spec_ParseNumber.f k d) (pnAns o)) :
  Ev (fun k => spec_L01Operand.j1 k b d) (pnAns (if b = true then negO (IsMin d) (opD d o) else opD d o)) := by
 have hj2 : Ev (fun k => spec_L01Operand.j2 k b d (pnAns (opD d o)).2.2.2 (pnAns (opD d o)).1 (pnAns (opD d o)).2.1 (pnAns (opD d o)).2.2.1) (pnAns (if b = true then negO (IsMin d) (opD d o) else opD d o)) := by
  have hok := opd_ok h;generalize opD d o = q at hok ⊢
  match q, hok with
  | none, _ =>
   have e : (if b = true then negO (IsMin d) none else none) = (none : Option (Bool × Int × Nat)) := (by cases b <;> rfl);rw [e];refine Ev.step (f := fun _ => some (false, 0, 0, false)) (fun k => ?_) (Ev.now _);simp only [spec_L01Operand.j2];rfl
  | some (f, i, u), hok =>
   obtain ⟨h0, h1, hn⟩ := hok f i u rfl
   have hpn : pnAns (some (f, i, u)) = (f, i, (u : Int), true) := by
    rcases hn with ⟨rfl, rfl, _⟩ | ⟨rfl, rfl, _⟩ <;> rfl
   rw [hpn]
   cases b with
   | false =>
    rw [if_neg (by decide), hpn];refine Ev.step (f := fun _ => some (f, i, (u : Int), true)) (fun k => ?_) (Ev.now _);simp only [spec_L01Operand.j2];rfl
   | true =>
    rw [if_pos rfl]
    have key : ∀ r : Bool × Int × Int, Ev (fun k => spec_l01Negated.f k d f i (u : Int)) r → Ev (fun k => spec_L01Operand.j2 k true d true f i (u : Int)) (r.1, r.2.1, r.2.2, true) := fun r hr => by
     refine Ev.step (fun k => ?_) (Ev.bind (f := fun k bt618 => some (bt618.1, bt618.2.1, bt618.2.2, true)) hr (Ev.now _));simp only [spec_L01Operand.j2];rfl
    rcases negated_ev h0 h1 hn with ⟨hm, hr⟩ | ⟨hm, hr⟩
    ·have e : negO (IsMin d) (some (f, i, u)) = some (false, -9223372036854775808, 0) := if_pos hm;rw [e];exact key _ hr
    ·have e : negO (IsMin d) (some (f, i, u)) = if f = true then some (true, 0, 2 ^ 63 + u) else some (false, wrap64 (-i), 0) := if_neg hm;rw [e];have := key _ hr;unfold negR at this;cases f <;> exact this
 refine Ev.step (fun k => ?_) (Ev.bind (f := fun k bt610 => (if d.toList = ([105, 110, 102] : List UInt8) then ((spec_l01Float.f 9218868437227405312).bind fun bt615 => (spec_L01Operand.j2 k b d true bt615.1 bt615.2.1 bt615.2.2)) else (spec_L01Operand.j2 k b d bt610.2.2.2 bt610.1 bt610.2.1 bt610.2.2.1))) hp (Ev.congr (fun k => ?_) hj2))
 ·simp only [spec_L01Operand.j1]
 ·unfold opD;by_cases hd : d.toList = [105, 110, 102]
  ·rw [if_pos hd, if_pos hd];rfl
  ·rw [if_neg hd, if_neg hd]
theorem operand_ev (s : ByteArray) : ∃ q, Opd s q ∧ Ev (fun k => spec_L01Operand.f k s) (pnAns q) := by
 by_cases hn : s.toList = [110, 97, 110]
 ·refine ⟨_, Or.inl ⟨hn, rfl⟩, Ev.congr (fun k => ?_) (Ev.now _)⟩;unfold spec_L01Operand.f;rw [if_pos hn];rfl
 ·by_cases hm : 0 < s.size ∧ NR.bt s 0 = 45
  ·obtain ⟨o, ho, hev⟩ := parse_ev (s.extract 1 s.size);have hb : bt s 0 = 45 := (by have := bt_nr s 0; rw [hm.2] at this; exact this);refine ⟨_, Or.inr ⟨hn, Or.inl ⟨hm.1, hm.2, o, ho, rfl⟩⟩, ?_⟩;have hj := j1_ev true ho hev;rw [if_pos rfl] at hj;refine Ev.congr (fun k => ?_) (Ev.step (f := fun k => spec_L01Operand.j1 k true (s.extract 1 s.size)) (g := fun k => spec_L01Operand.j0 k s true) (fun k => ?_) hj)
   ·unfold spec_L01Operand.f;rw [if_neg hn, if_pos (by omega), if_pos (by omega), hb];rfl
   ·simp only [spec_L01Operand.j0];rw [if_pos trivial, if_pos (by omega)]
  ·obtain ⟨o, ho, hev⟩ := parse_ev s;refine ⟨_, Or.inr ⟨hn, Or.inr ⟨hm, o, ho, rfl⟩⟩, ?_⟩;have hj := j1_ev false ho hev;rw [if_neg (by decide)] at hj;refine Ev.congr (fun k => ?_) (Ev.step (f := fun k => spec_L01Operand.j1 k false s) (g := fun k => spec_L01Operand.j0 k s false) (fun k => ?_) hj)
   ·unfold spec_L01Operand.f;rw [if_neg hn];by_cases h0 : 0 < s.size
    ·rw [if_pos (by omega), if_pos (by omega)];congr 1;have hb : bt s 0 = (NR.bt s 0 : Int) := bt_nr s 0;simp only [beq_eq_false_iff_ne, ne_eq];omega
    ·rw [if_neg (by omega)]
   ·simp only [spec_L01Operand.j0];rw [if_neg (by decide)]
/-- What ToInteger answers at an operand. -/
def tiN : Option Int → ByteArray × Int
 | none => (⟨#[]⟩, 5)
 | some v => (strOfNums (itext v), 0)
/-- .. -/
def tiAns : Option (Bool × Int × Nat) → ByteArray × Int
 | none => (⟨#[]⟩, 1)
 | some (f, i, u) => tiN (numI f i u)
/-- An operand's form. -/
def OpdOk : Option (Bool × Int × Nat) → Prop
 | none => True
 | some (f, i, u) => (f = true ∧ i = 0 ∧ u < 2 ^ 64) ∨ (f = false ∧ u = 0 ∧ -9223372036854775808 ≤ i ∧ i ≤ 9223372036854775807)
theorem opdok_f {u : Nat} (h : u < 2 ^ 64) : OpdOk (some (true, 0, u)) := Or.inl ⟨rfl, rfl, h⟩
theorem opdok_i {i : Int} (h : -9223372036854775808 ≤ i ∧ i ≤ 9223372036854775807) : OpdOk (some (false, i, 0)) := Or.inr ⟨rfl, rfl, h⟩
theorem opdok_neg {f : Bool} {i : Int} {u : Nat} (m : Prop) [Decidable m] (hn : NumOk f i u) : OpdOk (negO m (some (f, i, u))) := by
 show OpdOk (if m then some (false, -9223372036854775808, 0) else if f = true then some (true, 0, 2 ^ 63 + u) else some (false, wrap64 (-i), 0));by_cases hm : m
 ·rw [if_pos hm];exact opdok_i (by decide)
 ·rw [if_neg hm]
  rcases hn with ⟨rfl, rfl, hu⟩ | ⟨rfl, rfl, hi⟩
  ·rw [if_pos rfl];exact opdok_f (by omega)
  ·rw [if_neg (by decide)];exact opdok_i (wrap64_in _)
theorem opdok_of {s : ByteArray} {q : Option (Bool × Int × Nat)} (h : Opd s q) : OpdOk q := by
 rcases h with ⟨_, rfl⟩ | ⟨_, ⟨_, _, o, ho, rfl⟩ | ⟨_, o, ho, rfl⟩⟩
 ·exact opdok_f (by decide)
 ·have hok := opd_ok ho;generalize opD (s.extract 1 s.size) o = q at hok ⊢
  match q, hok with
  | none, _ => trivial
  | some (f, i, u), hok => exact opdok_neg _ (hok f i u rfl).2.2
 ·have hok := opd_ok ho;generalize opD s o = q at hok ⊢
  match q, hok with
  | none, _ => trivial
  | some (f, i, u), hok =>
   obtain ⟨_, _, hn⟩ := hok f i u rfl
   rcases hn with ⟨rfl, rfl, hu⟩ | ⟨rfl, rfl, hi⟩
   ·exact opdok_f (by omega)
   ·exact opdok_i hi
theorem wordI_range {u : Nat} {v : Int} (h : wordI u = some v) : -9223372036854775808 ≤ v ∧ v ≤ 9223372036854775807 := by
 unfold wordI at h;split at h
 ·cases h
 ·split at h
  ·split at h
   ·cases h;omega
   ·cases h
  ·split at h
   ·cases h;omega
   ·cases h
theorem toint_ev (s : ByteArray) : ∃ q, Opd s q ∧ Ev (fun k => spec_ToInteger.f k s) (tiAns q) := by
 obtain ⟨q, hq, hev⟩ := operand_ev s;refine ⟨q, hq, ?_⟩;have hok := opdok_of hq;unfold spec_ToInteger.f;refine Ev.bind (f := fun k bt636 => (if bt636.2.2.2 = true then ((spec_L01AsInt.f k bt636.1 bt636.2.1 bt636.2.2.1).bind fun bt641 => (if bt641.2 = true then ((spec_l01Dec.f k bt641.1).bind fun t643 => (some (t643, (0 : Int)))) else (some ((⟨#[]⟩ : ByteArray), 5)))) else (some ((⟨#[]⟩ : ByteArray), 1)))) hev ?_
 match q, hok with
 | none, _ =>
  exact Ev.now _
 | some (f, i, u), hok =>
  have hpn : pnAns (some (f, i, u)) = (f, i, (u : Int), true) := by
   rcases hok with ⟨rfl, rfl, _⟩ | ⟨rfl, rfl, _⟩ <;> rfl
  have hr : ∀ v, numI f i u = some v → -9223372036854775808 ≤ v ∧ v ≤ 9223372036854775807 := fun v hv => by
   rcases hok with ⟨rfl, rfl, _⟩ | ⟨rfl, rfl, hi⟩
   ·exact wordI_range hv
   ·cases hv;exact hi
  have hu : u < 2 ^ 64 := by
   rcases hok with ⟨_, _, hu⟩ | ⟨_, rfl, _⟩
   ·exact hu
   ·decide
  rw [hpn];simp only [if_true];refine Ev.bind (f := fun k bt641 => (if bt641.2 = true then ((spec_l01Dec.f k bt641.1).bind fun t643 => (some (t643, (0 : Int)))) else (some ((⟨#[]⟩ : ByteArray), 5)))) (asint_ev hu) ?_;show Ev _ (tiN (numI f i u))
  cases hv : numI f i u with
  | none => exact Ev.now _
  | some v =>
   obtain ⟨r1, r2⟩ := hr v hv;exact Ev.congr (fun k => if_pos rfl) (Ev.bind (f := fun k t643 => some (t643, (0 : Int))) (dec_ev r1 r2) (Ev.now _))
end Go.Proofs.YtlblkajnmdhmdaaGreatDoor.NB
namespace Go.Proofs.YtlblkajnmdhmdaaGreatDoor.NB
set_option linter.unusedVariables false
open Ieee Go.Proofs.YtlblkajnmdhmdaaGreatDoor.NU
/-- A word's magnitude cut towards zero. -/
def trn (m : Nat) : Nat := if 1074 ≤ wE m then wM m * 2 ^ (wE m - 1074) else wM m / 2 ^ (1074 - wE m)
theorem trn_up {m : Nat} (hf : m < 2047 * 2 ^ 52) (h : 1074 ≤ wE m) : isV m (trn m) 1 := by
 refine ⟨hf, by decide, ?_⟩;unfold trn wU;rw [if_pos h, one74_eq, Nat.mul_one, Nat.mul_assoc, ← Nat.pow_add];exact congrArg (fun z => wM m * 2 ^ z) (by rw [e74_eq]; omega)
theorem trn_lt {m : Nat} (h : ¬ 1074 ≤ wE m) : trn m < 2 ^ 53 := by
 unfold trn;rw [if_neg h];exact Nat.lt_of_le_of_lt (Nat.div_le_self _ _) (wM_lt m)
theorem trn_fin {m : Nat} (hf : m < 2047 * 2 ^ 52) : isV (word (trn m) 1) (trn m) 1 := by
 by_cases h : 1074 ≤ wE m
 ·have hv := trn_up hf h;rw [isV_word hv];exact hv
 ·exact int_exact (trn_lt h)
theorem trn_iff {m : Nat} (hf : m < 2047 * 2 ^ 52) : magI m = if m = word (trn m) 1 then some (trn m) else none := by
 unfold magI;rw [if_pos hf];by_cases h : 1074 ≤ wE m
 ·rw [if_pos h, if_pos (isV_word (trn_up hf h)).symm];unfold trn;rw [if_pos h]
 ·rw [if_neg h];have hv := trn_fin hf;obtain ⟨e, he⟩ : ∃ e, 1074 - wE m = e := ⟨_, rfl⟩;have e0 : trn m = wM m / 2 ^ e := (by unfold trn; rw [if_neg h, he]);have e1 : one74 = 2 ^ e * 2 ^ wE m := (by rw [one74_eq, ← Nat.pow_add]; exact congrArg (fun z => 2 ^ z) (by rw [e74_eq]; omega));rw [he, ← e0];by_cases hr : wM m % 2 ^ e = 0
  ·have hx : trn m * 2 ^ e = wM m := (by rw [e0]; exact Nat.div_mul_cancel (Nat.dvd_of_mod_eq_zero hr));have hm : isV m (trn m) 1 := ⟨hf, by decide, by unfold wU; rw [e1, ← hx, Nat.mul_one, Nat.mul_assoc]⟩;rw [if_pos hr, if_pos (isV_word hm).symm]
  ·rw [if_neg hr, if_neg];intro hm;apply hr;have h3 := hv.2.2;rw [← hm, e1, Nat.mul_one, ← Nat.mul_assoc] at h3;unfold wU at h3;have h4 := Nat.eq_of_mul_eq_mul_right (Nat.two_pow_pos _) h3;rw [h4];exact Nat.mul_mod_left _ _
theorem mag_isV {m t : Nat} (h : magI m = some t) : isV m t 1 := by
 have hf : m < 2047 * 2 ^ 52 := by
  unfold magI at h;split at h
  ·assumption
  ·cases h
 rw [trn_iff hf] at h;split at h
 ·rename_i hm
  cases h;have := trn_fin hf;rw [← hm] at this;exact this
 ·cases h
theorem c63 : isV 4890909195324358656 9223372036854775808 1 := by
 refine ⟨by decide, by decide, ?_⟩;obtain ⟨E, hE, hE2⟩ : ∃ E, wE 4890909195324358656 = E ∧ E = 1085 := ⟨_, rfl, by decide⟩;unfold wU;rw [show wM 4890909195324358656 = 2 ^ 52 by decide, hE, one74_eq, Nat.mul_one, show (9223372036854775808 : Nat) = 2 ^ 63 by decide, ← Nat.pow_add, ← Nat.pow_add];exact congrArg (fun z => 2 ^ z) (by rw [e74_eq]; omega)
theorem le_c63 {m t : Nat} (h : isV m t 1) : (m ≤ 4890909195324358656 ↔ t ≤ 9223372036854775808) ∧ (m < 4890909195324358656 ↔ t < 9223372036854775808) := by
 have h1 := h.2.2;have h2 := c63.2.2;rw [Nat.mul_one] at h1 h2;have hp := one74_pos
 rcases Nat.lt_trichotomy m 4890909195324358656 with hm | hm | hm
 ·have := wU_lt hm;rw [h1, h2] at this;have := Nat.lt_of_mul_lt_mul_right this;omega
 ·rw [hm, h2] at h1;have := Nat.eq_of_mul_eq_mul_right hp h1;omega
 ·have := wU_lt hm;rw [h1, h2] at this;have := Nat.lt_of_mul_lt_mul_right this;omega
theorem signed_neg (m k : Nat) : signed true m k = -((m * 2 ^ k : Nat) : Int) := by
 unfold signed;rw [if_pos rfl, Nat.shiftLeft_eq]
theorem read_neg {x : Nat} (hx : x < 2047 * 2 ^ 52) : double.read (2 ^ 63 + x) = .number true (wM x) ((wE x : Int) - 1074) := by
 rw [read_any (by omega), show (2 ^ 63 + x) % 2 ^ 63 = x by omega, if_pos hx, decide_eq_true (by omega)]
theorem cmp_eq (a b : Int) : compare a b = if a < b then .lt else if a = b then .eq else .gt := by
 by_cases h : a < b
 ·rw [if_pos h, Int.compare_eq_lt.2 h]
 ·by_cases h2 : a = b
  ·rw [if_neg h, if_pos h2, Int.compare_eq_eq.2 h2]
  ·rw [if_neg h, if_neg h2, Int.compare_eq_gt.2 (by omega)]
theorem cmp_nat (a b : Nat) : compare a b = if a < b then .lt else if a = b then .eq else .gt := by
 by_cases h : a < b
 ·rw [if_pos h, Nat.compare_eq_lt.2 h]
 ·by_cases h2 : a = b
  ·rw [if_neg h, if_pos h2, Nat.compare_eq_eq.2 h2]
  ·rw [if_neg h, if_neg h2, Nat.compare_eq_gt.2 (by omega)]
theorem order_neg {x y : Nat} (hx : x < 2047 * 2 ^ 52) (hy : y < 2047 * 2 ^ 52) : double.order (2 ^ 63 + x) (2 ^ 63 + y) = some (compare y x) := by
 have h := order_word hx hy;unfold Format.order at h ⊢;rw [read_word hx, read_word hy] at h;rw [read_neg hx, read_neg hy];replace h : some (compare (signed false (wM x) _) (signed false (wM y) _)) = _ := h;show some (compare (signed true (wM x) _) (signed true (wM y) _)) = _;rw [signed_pos, signed_pos] at h;rw [signed_neg, signed_neg];have h := Option.some.inj h;refine congrArg some ?_;rw [cmp_eq, cmp_nat] at h ⊢;generalize wM x * 2 ^ _ = p at h ⊢;generalize wM y * 2 ^ _ = q at h ⊢;by_cases h1 : x < y
 ·rw [if_pos h1] at h;rw [if_neg (show ¬ y < x by omega), if_neg (show ¬ y = x by omega)];by_cases h2 : (p : Int) < (q : Int)
  ·rw [if_neg (by omega), if_neg (by omega)]
  ·rw [if_neg h2] at h;split at h <;> cases h
 ·rw [if_neg h1] at h;by_cases h2 : x = y
  ·rw [if_pos h2] at h;rw [if_neg (show ¬ y < x by omega), if_pos h2.symm];by_cases h3 : (p : Int) < (q : Int)
   ·rw [if_pos h3] at h;cases h
   ·rw [if_neg h3] at h;by_cases h4 : (p : Int) = (q : Int)
    ·rw [if_neg (by omega), if_pos (by omega)]
    ·rw [if_neg h4] at h;cases h
  ·rw [if_neg h2] at h;rw [if_pos (show y < x by omega)];by_cases h3 : (p : Int) < (q : Int)
   ·rw [if_pos h3] at h;cases h
   ·rw [if_neg h3] at h;by_cases h4 : (p : Int) = (q : Int)
    ·rw [if_pos h4] at h;cases h
    ·rw [if_pos (by omega)]
/-- A number that is not negative beside a negative one. -/
theorem order_pn {x y : Nat} (hx : x < 2047 * 2 ^ 52) (hy : y < 2047 * 2 ^ 52) (hy0 : 0 < wM y) : double.order x (2 ^ 63 + y) = some .gt := by
 unfold Format.order;rw [read_word hx, read_neg hy];show some (compare (signed false (wM x) _) (signed true (wM y) _)) = _;rw [signed_pos, signed_neg, Int.compare_eq_gt.2];have h2 := Nat.mul_pos hy0 (Nat.two_pow_pos ((wE y : Int) - 1074 - min ((wE x : Int) - 1074) ((wE y : Int) - 1074)).toNat);generalize wM x * 2 ^ _ = p;generalize wM y * 2 ^ _ = q at h2 ⊢;omega
theorem order_np {x y : Nat} (hx : x < 2047 * 2 ^ 52) (hy : y < 2047 * 2 ^ 52) (hy0 : 0 < wM y) : double.order (2 ^ 63 + x) y = some .lt := by
 unfold Format.order;rw [read_neg hx, read_word hy];show some (compare (signed true (wM x) _) (signed false (wM y) _)) = _;rw [signed_pos, signed_neg, Int.compare_eq_lt.2];have h2 := Nat.mul_pos hy0 (Nat.two_pow_pos ((wE y : Int) - 1074 - min ((wE x : Int) - 1074) ((wE y : Int) - 1074)).toNat);generalize wM x * 2 ^ _ = p;generalize wM y * 2 ^ _ = q at h2 ⊢;omega
/-- The magnitude cut towards zero, as the model does it. -/
theorem cut_trn (s : Bool) (m : Nat) : Toward.zero.cut s (wM m <<< ((wE m : Int) - 1074).toNat) (-((wE m : Int) - 1074)).toNat = trn m := by
 unfold Toward.cut;show wM m <<< ((wE m : Int) - 1074).toNat / (1 <<< min (-((wE m : Int) - 1074)).toNat ((wM m <<< ((wE m : Int) - 1074).toNat).log2 + 2)) + 0 = trn m;rw [Nat.add_zero, Nat.shiftLeft_eq, Nat.shiftLeft_eq, Nat.one_mul];unfold trn;by_cases h : 1074 ≤ wE m
 ·rw [if_pos h, show (-((wE m : Int) - 1074)).toNat = 0 by omega, Nat.zero_min, Nat.pow_zero, Nat.div_one, show ((wE m : Int) - 1074).toNat = wE m - 1074 by omega]
 ·rw [if_neg h, show ((wE m : Int) - 1074).toNat = 0 by omega, Nat.pow_zero, Nat.mul_one, show (-((wE m : Int) - 1074)).toNat = 1074 - wE m by omega];by_cases h2 : 1074 - wE m ≤ (wM m).log2 + 2
  ·rw [Nat.min_eq_left h2]
  ·rw [Nat.min_eq_right (by omega)];have h3 : wM m < 2 ^ ((wM m).log2 + 1) := Nat.lt_log2_self;rw [Nat.div_eq_of_lt (Nat.lt_of_lt_of_le h3 (Nat.pow_le_pow_right (by decide) (by omega))), Nat.div_eq_of_lt (Nat.lt_of_lt_of_le h3 (Nat.pow_le_pow_right (by decide) (by omega)))]
theorem word_true (r : Nat) : double.word true r = 2 ^ 63 + double.word false r := by
 have hs : double.signWeight = 2 ^ 63 := rfl;unfold Format.word;rw [if_pos rfl, if_neg (by decide), hs]
theorem nearest_neg (t : Nat) : double.nearest true t 0 = 2 ^ 63 + double.nearest false t 0 := by
 have hc : ∀ n d, Toward.even.cut true n d = Toward.even.cut false n d := fun n d => rfl;unfold Format.nearest;by_cases h : t = 0
 ·rw [if_pos h, if_pos h];exact word_true 0
 ·rw [if_neg h, if_neg h];dsimp only;rw [hc];exact word_true _
/-- What the program asks of a float. -/
theorem whole_cases {u : Nat} (hu : u < 2 ^ 64) :
  ((double.order u 14114281232179134464 == some .gt || double.order u 14114281232179134464 == some .eq) = false ∧ wordI u = none) ∨
  ((double.order u 14114281232179134464 == some .gt || double.order u 14114281232179134464 == some .eq) = true ∧ (double.order u 4890909195324358656 == some .lt) = false ∧ wordI u = none) ∨
  ((double.order u 14114281232179134464 == some .gt || double.order u 14114281232179134464 == some .eq) = true ∧ (double.order u 4890909195324358656 == some .lt) = true ∧
   ∃ s a b, double.read u = .number s a b ∧ (double.order u (double.write ((Datum.number s a b).integral .zero)) == some .eq) = (wordI u).isSome ∧
    ∀ v, wordI u = some v → (Datum.number s a b).toInt .zero = some v) := by
 have hp : (2 : Nat) ^ 63 = 9223372036854775808 := (by decide);have hC : (14114281232179134464 : Nat) = 2 ^ 63 + 4890909195324358656 := (by decide);have hCf : (4890909195324358656 : Nat) < 2047 * 2 ^ 52 := (by decide);have hC0 : 0 < wM 4890909195324358656 := (by decide);obtain ⟨m, hm⟩ : ∃ m, u % 2 ^ 63 = m := ⟨_, rfl⟩;by_cases hf : m < 2047 * 2 ^ 52
 ·have hmi := trn_iff hf
  have hint : ∀ s, (Datum.number s (wM m) ((wE m : Int) - 1074)).integral .zero = .number s (trn m) 0 := fun s => by
   unfold Datum.integral;dsimp only;rw [cut_trn]
  have htf := trn_fin hf;by_cases hs : 2 ^ 63 ≤ u
  ·obtain rfl : u = 2 ^ 63 + m := (by omega);rw [hC, order_neg hf hCf, order_np hf hCf hC0, cmp_nat]
   have hwI : wordI (2 ^ 63 + m) = (match magI m with | none => none | some v => if v ≤ 9223372036854775808 then some (-(v : Int)) else none) := by
    unfold wordI;rw [hm]
    cases magI m with
    | none => rfl
    | some v => exact if_pos (by omega)
   by_cases hle : m ≤ 4890909195324358656
   ·refine Or.inr (Or.inr ⟨?_, rfl, true, wM m, (wE m : Int) - 1074, read_neg hf, ?_⟩)
    ·by_cases h : 4890909195324358656 = m
     ·rw [if_neg (by omega), if_pos h]; rfl
     ·rw [if_neg (by omega), if_neg h]; rfl
    ·rw [hint, show double.write (.number true (trn m) 0) = double.nearest true (trn m) 0 from rfl, nearest_neg, int_word, order_neg hf htf.1, hwI, hmi, cmp_nat];by_cases he : m = word (trn m) 1
     ·rw [if_pos he, if_neg (by omega), if_pos he.symm];have ht : trn m ≤ 9223372036854775808 := ((le_c63 (by rw [← he] at htf; exact htf)).1).1 hle;refine ⟨by dsimp only; rw [if_pos ht]; rfl, fun v hv => ?_⟩;dsimp only at hv;rw [if_pos ht] at hv;cases hv;unfold Datum.toInt;rw [hint];show some (signed true (trn m) 0) = _;rw [signed_neg, Nat.pow_zero, Nat.mul_one]
     ·rw [if_neg he];refine ⟨?_, fun v hv => by cases hv⟩;by_cases h2 : word (trn m) 1 < m
      ·rw [if_pos h2]; rfl
      ·rw [if_neg h2, if_neg (fun h => he h.symm)]; rfl
   ·refine Or.inl ⟨?_, ?_⟩
    ·rw [if_pos (by omega)]; rfl
    ·rw [hwI]
     cases hg : magI m with
     | none => rfl
     | some t =>
      have := (le_c63 (mag_isV hg)).1;exact if_neg (by omega)
  ·obtain rfl : u = m := (by omega);rw [hC, order_pn hf hCf hC0, order_word hf hCf, cmp_nat]
   have hwI : wordI u = (match magI u with | none => none | some v => if v < 9223372036854775808 then some (v : Int) else none) := by
    unfold wordI;rw [hm]
    cases magI u with
    | none => rfl
    | some v => exact if_neg (by omega)
   by_cases hle : u < 4890909195324358656
   ·refine Or.inr (Or.inr ⟨rfl, by rw [if_pos hle]; rfl, false, wM u, (wE u : Int) - 1074, read_word hf, ?_⟩);rw [hint, show double.write (.number false (trn u) 0) = double.nearest false (trn u) 0 from rfl, int_word, order_word hf htf.1, hwI, hmi, cmp_nat];by_cases he : u = word (trn u) 1
    ·rw [if_pos he, if_neg (by omega), if_pos he];have ht : trn u < 9223372036854775808 := ((le_c63 (by rw [← he] at htf; exact htf)).2).1 hle;refine ⟨by dsimp only; rw [if_pos ht]; rfl, fun v hv => ?_⟩;dsimp only at hv;rw [if_pos ht] at hv;cases hv;unfold Datum.toInt;rw [hint];show some (signed false (trn u) 0) = _;rw [signed_pos, Nat.pow_zero, Nat.mul_one]
    ·rw [if_neg he, if_neg he];refine ⟨?_, fun v hv => by cases hv⟩;by_cases h2 : u < word (trn u) 1
     ·rw [if_pos h2]; rfl
     ·rw [if_neg h2]; rfl
   ·refine Or.inr (Or.inl ⟨rfl, ?_, ?_⟩)
    ·rw [if_neg hle];split <;> rfl
    ·rw [hwI]
     cases hg : magI u with
     | none => rfl
     | some t =>
      have := (le_c63 (mag_isV hg)).2;exact if_neg (by omega)
 ·have hno : wordI u = none := by
   unfold wordI magI;rw [hm, if_neg hf]
  rw [hno];unfold Format.order;rw [read_any hu, hm, if_neg hf, hC, read_neg hCf, read_word hCf];by_cases hi : m = 2047 * 2 ^ 52
  ·rw [if_pos hi];by_cases hs : 2 ^ 63 ≤ u
   ·rw [decide_eq_true hs];exact Or.inl ⟨rfl, rfl⟩
   ·rw [decide_eq_false hs];exact Or.inr (Or.inl ⟨rfl, rfl, rfl⟩)
  ·rw [if_neg hi];exact Or.inl ⟨rfl, rfl⟩
end Go.Proofs.YtlblkajnmdhmdaaGreatDoor.NB
