/-
  The library's fixedWidthFloat at a word gives the word's value rounded to n digits.
-/
import Derived.Test.YtlblkajnmdhmdaaGreatDoorZNFw
import Derived.Test.YtlblkajnmdhmdaaGreatDoorZNSpec
import Derived.Lib.BitFns
import Derived.Lib.ItoaNum
namespace Go.Proofs.YtlblkajnmdhmdaaGreatDoor
set_option linter.unusedVariables false
open Go.RowKit Lib
theorem bitLenAux_at : ∀ (f x : Nat), x < 2 ^ f → 0 < x → 1 ≤ bitLenAux f x ∧ bitLenAux f x ≤ f ∧ 2 ^ (bitLenAux f x - 1) ≤ x ∧ x < 2 ^ bitLenAux f x := by
 intro f
 induction f with
 | zero => intro x h h0; simp at h; omega
 | succ f ih =>
  intro x h h0;rw [Nat.pow_succ] at h;by_cases h1 : x = 1
  ·subst h1
   have : bitLenAux (f + 1) 1 = 1 := by
    unfold bitLenAux;rw [if_neg (by decide), show 1 / 2 = 0 by decide];cases f <;> simp [bitLenAux]
   rw [this];exact ⟨by omega, by omega, by decide, by decide⟩
  ·obtain ⟨a1, a2, a3, a4⟩ := ih (x / 2) (by omega) (by omega)
   have e : bitLenAux (f + 1) x = 1 + bitLenAux f (x / 2) := by
    conv => lhs; unfold bitLenAux
    rw [if_neg (by omega)]
   rw [e];obtain ⟨c, hc⟩ : ∃ c, bitLenAux f (x / 2) = c + 1 := ⟨bitLenAux f (x / 2) - 1, by omega⟩;rw [hc] at a2 a3 a4 ⊢;rw [Nat.add_sub_cancel] at a3;rw [show 1 + (c + 1) - 1 = c + 1 by omega, show 1 + (c + 1) = c + 1 + 1 by omega, Nat.pow_succ, Nat.pow_succ];rw [Nat.pow_succ] at a4;refine ⟨by omega, by omega, by omega, by omega⟩
theorem bitLen_at {x : Nat} (h0 : 0 < x) (h : x < 2 ^ 64) : 1 ≤ Lib.bitLen x ∧ Lib.bitLen x ≤ 64 ∧ 2 ^ (Lib.bitLen x - 1) ≤ x ∧ x < 2 ^ Lib.bitLen x := bitLenAux_at 64 x h h0
end Go.Proofs.YtlblkajnmdhmdaaGreatDoor
