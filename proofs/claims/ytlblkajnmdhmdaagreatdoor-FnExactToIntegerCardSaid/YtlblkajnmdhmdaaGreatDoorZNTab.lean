/-
  Plain law, no walk: the library's table of powers of ten holds the mantissas hiI, loI.
-/
import GoSem.PinnedTables
import Derived.Test.YtlblkajnmdhmdaaGreatDoorZNParse
namespace Go.Proofs.YtlblkajnmdhmdaaGreatDoor.NU
theorem tab_len : Go.Pinned.pow10Rows.length = 696 := by decide +kernel
def tabOk : Nat → List (Nat × Nat) → Bool
 | _, [] => true
 | i, x :: l => decide (x.1 = hiI i) && decide (x.2 = loI i) && decide (hiI i < 2 ^ 64) && decide (loI i < 2 ^ 64) && tabOk (i + 1) l
theorem tab_ok : tabOk 0 Go.Pinned.pow10Rows = true := by decide +kernel
theorem tabOk_at : ∀ {l : List (Nat × Nat)} {i j : Nat}, tabOk i l = true → j < l.length → l[j]? = some (hiI (i + j), loI (i + j)) ∧ hiI (i + j) < 2 ^ 64 ∧ loI (i + j) < 2 ^ 64 := by
 intro l
 induction l with
 | nil => intro i j _ hj; simp at hj
 | cons x l ih =>
  intro i j h hj;unfold tabOk at h;simp only [Bool.and_eq_true, decide_eq_true_eq] at h;obtain ⟨⟨⟨⟨h1, h2⟩, h3⟩, h4⟩, h5⟩ := h
  cases j with
  | zero => exact ⟨by rw [List.getElem?_cons_zero, Nat.add_zero, ← h1, ← h2], h3, h4⟩
  | succ j =>
   have := ih h5 (j := j) (by simpa using hj);rw [show i + 1 + j = i + (j + 1) by omega] at this;rw [List.getElem?_cons_succ];exact this
/-- Row i of the table: the mantissa of 10^(i - 348). -/
theorem tab_at {i : Nat} (hi : i < 696) : Go.Pinned.pow10Rows[i]? = some (hiI i, loI i) ∧ hiI i < 2 ^ 64 ∧ loI i < 2 ^ 64 := by
 have := tabOk_at tab_ok (j := i) (by rw [tab_len]; exact hi);rw [Nat.zero_add] at this;exact this
end Go.Proofs.YtlblkajnmdhmdaaGreatDoor.NU
