/-
  Contracts: the library's Cut, ReplaceAll, Atoi, Itoa and Repeat as num.String calls them.
-/
import Derived.Test.YtlblkajnmdhmdaaGreatDoorZNSx
import Derived.Test.YtlblkajnmdhmdaaGreatDoorZShelf
import Derived.Lib.AtoiErrMem
namespace Go.Proofs.YtlblkajnmdhmdaaGreatDoor
set_option linter.unusedVariables false
open Go.RowKit Lib NR NU NB Go.Sort Go.Proofs.YtlblkajnmdhmdaaGreatDoorW.PrintWords
/-- The library's bound on short searches holds a number. -/
def MaxL (w : World) : Prop := ∃ m, w.cell? ⟨5, 0, none⟩ = some (.int .i64 m)
theorem MaxL.below {w w' : World} (h : MaxL w) (hs : 16 < w.heap.size) (hb : Below w.heap.size w w') : MaxL w' := by
  obtain ⟨m, h1⟩ := h
  exact ⟨m, (hb.cell (p := ⟨5, 0, none⟩) (by show 5 < _; omega)).trans h1⟩
theorem below_drew {w : World} (n : Nat) : Below w.heap.size w (w.drewN n) := by
  exact ⟨rfl, rfl, rfl, Nat.le_refl _, fun _ _ => rfl⟩
theorem mant_size {d0 : UInt8} {tl : List UInt8} (h : tl.length ≤ 16) : (mant d0 tl).length ≤ 18 := (mant_len (d0 := d0) rfl h).2.1
theorem text_size {d0 : UInt8} {tl : List UInt8} {X : Int} (h : tl.length ≤ 16) (hX : -999 ≤ X ∧ X ≤ 999) : (eText d0 tl X).length ≤ 40 := by
  have := mant_size (d0 := d0) h
  have := (atoi_expo hX).2
  unfold eText
  rw [List.length_append, List.length_append]
  show _ + 1 + _ ≤ 40
  omega
theorem cut_w {d0 : UInt8} {tl : List UInt8} {X : Int} (h : ∀ b ∈ d0 :: tl, isD b.toNat) (hl : tl.length ≤ 16) (hX : -999 ≤ X ∧ X ≤ 999) (w : World) (hm : MaxL w) :
    Calls Tryz.prog 64 #[.string ⟨(eText d0 tl X).toArray⟩, .string ⟨#[101]⟩] w fun e w' => e = .returned (.tuple #[.string ⟨(mant d0 tl).toArray⟩, .string ⟨(expo X).toArray⟩, .bool true]) ∧ Below w.heap.size w w' := by
  obtain ⟨m, hm⟩ := hm
  have hc := Tryz.strings_Cut ⟨(eText d0 tl X).toArray⟩ ⟨#[101]⟩ m w (by have := text_size (d0 := d0) hl hX; show (eText d0 tl X).length < _; omega) hm
  rw [show Lib.cut (⟨(eText d0 tl X).toArray⟩ : ByteArray).data.toList (⟨#[101]⟩ : ByteArray).data.toList = _ from cut_text h] at hc
  refine hc.mono ?_
  rintro e w' ⟨rfl, n, rfl⟩
  exact ⟨rfl, below_drew n⟩
theorem strip_w {d0 : UInt8} {tl : List UInt8} {dd : List Int} (h : ∀ b ∈ d0 :: tl, isD b.toNat) (hl : tl.length ≤ 16) (hd : d0 :: tl = toB dd) (w : World) (hm : MaxL w) :
    Calls Tryz.prog 65 #[.string ⟨(mant d0 tl).toArray⟩, .string ⟨#[46]⟩, .string ⟨#[]⟩] w fun e w' => e = .returned (.string (strOfNums dd)) ∧ Below w.heap.size w w' := by
  obtain ⟨m, hm⟩ := hm
  have hs : (⟨(mant d0 tl).toArray⟩ : ByteArray).size ≤ 18 := mant_size (d0 := d0) hl
  have hc := Tryz.strings_ReplaceAll ⟨(mant d0 tl).toArray⟩ ⟨#[46]⟩ ⟨#[]⟩ m w (by omega) hm (by decide) (by rw [show (⟨#[]⟩ : ByteArray).size = 0 from rfl]; omega)
  rw [show Lib.replaceAll (⟨(mant d0 tl).toArray⟩ : ByteArray).data.toList (⟨#[46]⟩ : ByteArray).data.toList (⟨#[]⟩ : ByteArray).data.toList = _ from strip_mant h, hd, ← strOf_toB] at hc
  exact hc
theorem atoi_w {X : Int} (hX : -999 ≤ X ∧ X ≤ 999) (w : World) :
    Calls Tryz.prog 66 #[.string ⟨(expo X).toArray⟩] w fun e w' => e = .returned (.tuple #[.int .i64 X, .nilIface]) ∧ Below w.heap.size w w' := by
  obtain ⟨h1, h2⟩ := atoi_expo hX
  refine (Tryz.strconv_Atoi ⟨(expo X).toArray⟩ X h2 h1 w).mono ?_
  rintro e w' ⟨rfl, t, rfl⟩
  exact ⟨rfl, Lib.bytesWorld_below _ _ _⟩
theorem itoa_w (n : Int) (h0 : -9223372036854775808 ≤ n) (h1 : n ≤ 9223372036854775807) (w : World) (htab : Lib.TabIs Tryz.prog w "internal/strconv.uint64pow10" .u64 Lib.pow10Tab) :
    Calls Tryz.prog 31 #[.int .i64 n] w fun e w' => e = .returned (.string (strOfNums (itext n))) ∧ Below w.heap.size w w' := by
  refine (Tryz.strconv_Itoa n h0 h1 w htab).mono ?_
  rintro e w' ⟨rfl, k, os, rfl⟩
  refine ⟨by rw [itoa_itext, ← strOf_toB], ?_⟩
  exact ⟨rfl, rfl, rfl, by simp [grow], fun i hi => by
    show ((w.drewN k).heap ++ os)[i]? = _
    rw [Array.getElem?_append_left (by show i < w.heap.size; omega)]
    rfl⟩
theorem rep_w (c : Nat) (hc : c ≤ 1000) (w : World) :
    Calls Tryz.prog 67 #[.string ⟨#[48]⟩, .int .i64 c] w fun e w' => e = .returned (.string (strOfNums (List.replicate c 48))) ∧ Below w.heap.size w w' := by
  refine (Tryz.strings_Repeat ⟨#[48]⟩ c w (by omega) (by rw [show (⟨#[48]⟩ : ByteArray).size = 1 from rfl]; omega)).mono ?_
  rintro e w' ⟨rfl, hb⟩
  exact ⟨by rw [strOf_toB, ← rep_zeros], hb⟩
theorem rep_wi (n : Int) (h0 : 0 ≤ n) (h1 : n ≤ 1000) (w : World) :
    Calls Tryz.prog 67 #[.string ⟨#[48]⟩, .int .i64 n] w fun e w' => e = .returned (.string (strOfNums (List.replicate n.toNat 48))) ∧ Below w.heap.size w w' := by
  obtain ⟨c, rfl⟩ : ∃ c : Nat, n = c := ⟨n.toNat, by omega⟩
  exact rep_w c (by omega) w
end Go.Proofs.YtlblkajnmdhmdaaGreatDoor
