/-
  Plain law: pieces of a text compared as lists of bytes, and the plain words standsAt and bt.
-/
import Derived.Test.YtpinoolagbghnaaDoorZMat
import Derived.Lib.Strings
import Derived.Lib.IndexBytes
namespace Go.Proofs.YtpinoolagbghnaaDoor.Pat
set_option linter.unusedVariables false
open Go.Lib

theorem pieces_iff {s : ByteArray} {a i L : Nat} (ha : a + L ≤ s.size) (hi : i + L ≤ s.size) : ((s.data.toList.drop i).take L = (s.data.toList.drop a).take L) ↔ ∀ j, j < L → bt s (a + j) = bt s (i + j) := by
  constructor
  · intro h j hj
    have h1 := congrArg (fun l : List UInt8 => l[j]?) h
    simp only [List.getElem?_take, hj, if_true, List.getElem?_drop] at h1
    rw [data_getElem? s (i + j) (by omega), data_getElem? s (a + j) (by omega)] at h1
    simp only [Option.some.injEq] at h1
    rw [bt_of_lt (by omega), bt_of_lt (by omega), h1]
  · intro h
    apply List.ext_getElem?
    intro j
    simp only [List.getElem?_take, List.getElem?_drop]
    split
    · rename_i hj
      rw [data_getElem? s (i + j) (by omega), data_getElem? s (a + j) (by omega)]
      have := h j hj
      rw [bt_of_lt (by omega), bt_of_lt (by omega)] at this
      rw [byte_eq_of_toNat this]
    · rfl
theorem standsAt_eq {s : ByteArray} {a b i : Nat} (h1 : a ≤ b) (h2 : b ≤ s.size) (h3 : i + (b - a) ≤ s.size) : ((s.extract i (i + (b - a))).toList == (s.extract a b).toList) = standsAt s a b i := by
  rw [extract_toList, extract_toList, Bool.eq_iff_iff, beq_iff_eq, Nat.add_sub_cancel_left, pieces_iff (by omega) h3]
  unfold standsAt
  rw [decide_eq_true h3]
  simp
theorem standsAt_no {s : ByteArray} {a b i : Nat} (h3 : s.size < i + (b - a)) : standsAt s a b i = false := by
  unfold standsAt
  rw [decide_eq_false (by omega)]
  rfl
end Go.Proofs.YtpinoolagbghnaaDoor.Pat
