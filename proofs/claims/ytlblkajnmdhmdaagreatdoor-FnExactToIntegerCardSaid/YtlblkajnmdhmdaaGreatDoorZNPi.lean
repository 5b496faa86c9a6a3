/-
  Plain: the text of a float that is not negative is a numeral that reads as that float; the text of a whole number.
  Contract: strconv.ParseInt(s, 10, 64) at a row of digits.
-/
import Derived.Test.YtlblkajnmdhmdaaGreatDoorZNSu
import Derived.Test.YtlblkajnmdhmdaaGreatDoorZShelf
import Derived.Lib.ParseIntBCases
import Derived.Lib.AtoiErrMem
namespace Go.Proofs.YtlblkajnmdhmdaaGreatDoor
set_option linter.unusedVariables false
open Go.RowKit Lib NR NU NB Go.Proofs.YtlblkajnmdhmdaaGreatDoorW.PrintWords
theorem wordE_shift {n a : Nat} {e : Int} : wordE (n * 10 ^ a) (e - a) = wordE n e := by
 unfold wordE;refine word_eq (Nat.pow_pos (by decide)) (Nat.pow_pos (by decide)) ?_
 have h : 10 ^ a * 10 ^ (e - a).toNat * 10 ^ (-e).toNat = 10 ^ e.toNat * 10 ^ (-(e - a)).toNat := by
  rw [← Nat.pow_add, ← Nat.pow_add, ← Nat.pow_add]
  exact congrArg (10 ^ ·) (by omega)
 rw [Nat.mul_assoc n, Nat.mul_assoc n, h, Nat.mul_assoc n]
end Go.Proofs.YtlblkajnmdhmdaaGreatDoor
namespace Go.Proofs.YtlblkajnmdhmdaaGreatDoor
set_option linter.unusedVariables false
open Go.RowKit Lib NR
theorem valS_ge : ∀ (l : List UInt8) (m : Nat), m ≤ valS m l
 | [], m => Nat.le_refl m
 | b :: l, m => Nat.le_trans (by omega) (valS_ge l (m * 10 + (b.toNat - 48)))
theorem parse_digits : ∀ (l : List UInt8) (m : Nat), (∀ b ∈ l, isD b.toNat) → m < 18446744073709551616 → Lib.parseUint10 m l = if valS m l < 18446744073709551616 then .ok (valS m l) else .range
 | [], m, _, h => by
  show NumEnd.ok m = if m < _ then NumEnd.ok m else .range;rw [if_pos h]
 | b :: l, m, hd, h => by
  have hb := hd b (List.mem_cons_self ..);unfold isD at hb;have hg := valS_ge l (m * 10 + (b.toNat - 48));have he : valS m (b :: l) = valS (m * 10 + (b.toNat - 48)) l := rfl;unfold Lib.parseUint10;rw [if_pos hb, he];split
  ·rw [if_neg (by omega)]
  ·split
   ·rw [if_neg (by omega)]
   ·exact parse_digits l _ (fun c hc => hd c (List.mem_cons_of_mem _ hc)) (by omega)
/-- What ParseInt makes of digits. -/
def intVal (l : List UInt8) : Option Int := if valS 0 l < 9223372036854775808 then some (valS 0 l : Int) else none
theorem parseInt_digits {l : List UInt8} (hd : ∀ b ∈ l, isD b.toNat) (h0 : l ≠ []) : Lib.parseIntB 64 l = if valS 0 l < 9223372036854775808 then .ok (valS 0 l : Int) else .range := by
 cases l with
 | nil => exact absurd rfl h0
 | cons c r =>
  have hc := hd c (List.mem_cons_self ..);unfold isD at hc;rw [Lib.parseIntB_plain 64 c r (by omega) (by omega), Lib.parseUintB_64];unfold Lib.parseMag;rw [if_neg (by simp), parse_digits _ _ hd (by decide)];obtain ⟨v, hv⟩ : ∃ v, valS 0 (c :: r) = v := ⟨_, rfl⟩;rw [hv];by_cases h : v < 18446744073709551616
  ·rw [if_pos h];show (if 2 ^ (64 - 1) ≤ v then NumEnd.range else .ok (v : Int)) = _;by_cases h2 : v < 9223372036854775808
   ·rw [if_neg (by omega), if_pos h2]
   ·rw [if_pos (by omega), if_neg h2]
  ·rw [if_neg h, if_neg (by omega)];rfl
theorem parseInt_any {l : List UInt8} (hd : ∀ b ∈ l, isD b.toNat) (h0 : l ≠ []) (hl : l.length ≤ 100) (w : World) (hr : ∃ ev, w.cell? ⟨2, 0, none⟩ = some ev ∧ (ev = .nilIface ∨ ∃ te pe, ev = .iface te pe)) :
  Calls Tryz.prog 48 #[.string ⟨l.toArray⟩, .int .i64 10, .int .i64 64] w fun r w2 => (∃ v er, r = .returned (.tuple #[.int .i64 v, er]) ∧ ((er = .nilIface ∧ intVal l = some v) ∨ ((∃ t p, er = .iface t p) ∧ intVal l = none))) ∧ Below w.heap.size w w2 := by
 have hs : (⟨l.toArray⟩ : ByteArray).size = l.length := rfl;have hp := parseInt_digits hd h0;unfold intVal;by_cases h : valS 0 l < 9223372036854775808
 ·rw [if_pos h] at hp;rw [if_pos h];refine (Tryz.strconv_ParseInt_10_at64_ok ⟨l.toArray⟩ (by omega) _ hp w).mono ?_;rintro r w' ⟨rfl, hw⟩;refine ⟨⟨_, _, rfl, Or.inl ⟨rfl, rfl⟩⟩, ?_⟩
  rcases hw with rfl | ⟨t, rfl⟩
  ·exact Below.refl _ _
  ·exact Lib.bytesWorld_below _ _ _
 ·rw [if_neg h] at hp;rw [if_neg h];obtain ⟨ev, hv, hev⟩ := hr;refine (Tryz.strconv_ParseInt_10_at64_range ⟨l.toArray⟩ (by omega) hp ev w hv hev).mono ?_;rintro r w' ⟨N, rfl, _, _, hb⟩;exact ⟨⟨_, _, rfl, Or.inr ⟨⟨_, _, rfl⟩, rfl⟩⟩, hb⟩
end Go.Proofs.YtlblkajnmdhmdaaGreatDoor
