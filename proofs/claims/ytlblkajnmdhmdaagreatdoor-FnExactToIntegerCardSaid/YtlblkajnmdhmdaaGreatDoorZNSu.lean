/-
  Plain: what the library's Cut, ReplaceAll, Atoi, Itoa and Repeat make of the text that FormatFloat writes.
  Contracts: the library's Cut, ReplaceAll, Atoi, Itoa and Repeat as num.String calls them.
  Walk: (impl.num).String at a finite float.
  Walk: impl.FormatNumber, every number.
-/
import Derived.Test.YtlblkajnmdhmdaaGreatDoorZNEr
import Derived.Test.YtlblkajnmdhmdaaGreatDoorZNBig8
import Derived.Lib.IndexMore
import Derived.Lib.Replace
import Derived.Lib.Repeat
import Derived.Lib.Atoi
import Derived.Lib.ItoaNum
import Derived.Test.YtlblkajnmdhmdaaGreatDoorZShelf
import Derived.Lib.AtoiErrMem
import Derived.Test.YtlblkajnmdhmdaaGreatDoorZNNs
import Derived.Handy
namespace Go.Proofs.YtlblkajnmdhmdaaGreatDoor
set_option linter.unusedVariables false
open Go.RowKit Lib NR NU NB Go.Proofs.YtlblkajnmdhmdaaGreatDoorW.PrintWords
/-- The bytes of a list of numbers. -/
def toB (l : List Int) : List UInt8 := l.map fun n => UInt8.ofNat n.toNat
theorem toB_append (a b : List Int) : toB (a ++ b) = toB a ++ toB b := List.map_append
theorem strOf_toB (l : List Int) : strOfNums l = ⟨(toB l).toArray⟩ := str_ext (by rw [str_list]; rfl)
theorem decD_decz (u : Nat) : Lib.decDigits u = toB (decz u) := by
 induction u using Nat.strongRecOn with
 | ind u ih =>
  rw [Lib.decDigits];by_cases h : u < 10
  ·rw [dif_pos h, decz_eq, show u / 10 = 0 by omega, decs_zero, show u % 10 = u by omega];rfl
  ·rw [dif_neg h, ih _ (by omega), decz_eq u, toB_append];have : decz (u / 10) = decs (u / 10) := (by unfold decz; rw [if_neg (by omega)]);rw [this];rfl
theorem itoa_itext (n : Int) : Lib.itoa n = toB (itext n) := by
 unfold Lib.itoa itext;by_cases h : n < 0
 ·rw [if_pos h, if_pos h, toB_append, decD_decz];rfl
 ·rw [if_neg h, if_neg h, decD_decz, show n.toNat = n.natAbs by omega];rfl
end Go.Proofs.YtlblkajnmdhmdaaGreatDoor
namespace Go.Proofs.YtlblkajnmdhmdaaGreatDoor
set_option linter.unusedVariables false
open Go.RowKit Lib NR NU NB Go.Sort Go.Proofs.YtlblkajnmdhmdaaGreatDoorW.PrintWords
/-- The library's bound on short searches holds a number. -/
def MaxL (w : World) : Prop := ∃ m, w.cell? ⟨5, 0, none⟩ = some (.int .i64 m)
theorem MaxL.below {w w' : World} (h : MaxL w) (hs : 16 < w.heap.size) (hb : Below w.heap.size w w') : MaxL w' := by
 obtain ⟨m, h1⟩ := h;exact ⟨m, (hb.cell (p := ⟨5, 0, none⟩) (by show 5 < _; omega)).trans h1⟩
theorem below_drew {w : World} (n : Nat) : Below w.heap.size w (w.drewN n) := by
 exact ⟨rfl, rfl, rfl, Nat.le_refl _, fun _ _ => rfl⟩
theorem itoa_w (n : Int) (h0 : -9223372036854775808 ≤ n) (h1 : n ≤ 9223372036854775807) (w : World) (htab : Lib.TabIs Tryz.prog w "internal/strconv.uint64pow10" .u64 Lib.pow10Tab) :
  Calls Tryz.prog 31 #[.int .i64 n] w fun e w' => e = .returned (.string (strOfNums (itext n))) ∧ Below w.heap.size w w' := by
 refine (Tryz.strconv_Itoa n h0 h1 w htab).mono ?_;rintro e w' ⟨rfl, k, os, rfl⟩;refine ⟨by rw [itoa_itext, ← strOf_toB], ?_⟩
 exact ⟨rfl, rfl, rfl, by simp [grow], fun i hi => by
  show ((w.drewN k).heap ++ os)[i]? = _;rw [Array.getElem?_append_left (by show i < w.heap.size; omega)]
  rfl⟩
end Go.Proofs.YtlblkajnmdhmdaaGreatDoor
namespace Go.Proofs.YtlblkajnmdhmdaaGreatDoor
end Go.Proofs.YtlblkajnmdhmdaaGreatDoor
namespace Go.Proofs.YtlblkajnmdhmdaaGreatDoor
set_option linter.unusedVariables false
open Go.RowKit Lib NR NU NB Go.Op Go.Proofs.YtlblkajnmdhmdaaGreatDoorW.PrintWords
theorem WrTabs.below {w w' : World} (h : WrTabs w) (hb : Below w.heap.size w w') : WrTabs w' := by
 have hs := h.size;exact ⟨h.p10.below hs hb, h.t10.below hs hb, Nat.lt_of_lt_of_le hs hb.size, (hb.cell (p := ⟨4, 0, none⟩) (by show 4 < _; omega)).trans h.opt, Lib.tabBelow_of_tabIs h.tab _ hb⟩
/-- The tables that FormatNumber wants. -/
structure FnTabs (w : World) : Prop where
 wr : WrTabs w
 rd : RdTabs w
 mx : MaxL w
theorem FnTabs.below {w w' : World} (h : FnTabs w) (hb : Below w.heap.size w w') : FnTabs w' := ⟨h.wr.below hb, h.rd.below hb, h.mx.below h.wr.size hb⟩
end Go.Proofs.YtlblkajnmdhmdaaGreatDoor
