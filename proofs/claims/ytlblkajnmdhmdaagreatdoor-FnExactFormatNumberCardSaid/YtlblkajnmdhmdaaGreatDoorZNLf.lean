/-
  Walk: the law FnExactFormatNumber returns true.
-/
import Derived.Test.YtlblkajnmdhmdaaGreatDoorZNSu
namespace Go.Proofs.YtlblkajnmdhmdaaGreatDoor
set_option linter.unusedVariables false
open Go.RowKit Lib NR NU NB Go.Op Go.Proofs.YtlblkajnmdhmdaaGreatDoor.PFormatNumber Go.Proofs.YtlblkajnmdhmdaaGreatDoorW.PrintWords
set_option maxRecDepth 100000 in
theorem toNumber_any (isF : Bool) (i : Int) (b : Nat) (w : World) :
    Calls Tryz.prog 13 #[.agg #[.bool isF, .int .i64 i, .int .u64 b]] w fun e w' => e = .returned (.agg #[.bool isF, .int .i64 i, .int .u64 b]) ∧ Below w.heap.size w w' := by
  go_enter Tryz.func13, Tryz.ntmps13
  go_wp2_with fail
  exact bodyPost_ret (v := .agg #[.bool isF, .int .i64 i, .int .u64 b]) (by simp [results, Tryz.results13, go_sem]) rfl ⟨rfl, (((Below.refl _ _).alloc (Nat.le_refl _) _).alloc (by simp) _).alloc (by simp; omega) _⟩
set_option maxRecDepth 100000 in
theorem lawF_any (isF : Bool) (i : Int) (b : Nat) (w : World) (hi : -9223372036854775808 ≤ i ∧ i ≤ 9223372036854775807) (hb : b < 2 ^ 64) (hT : FnTabs w) :
    Calls Tryz.prog 5 #[.agg #[.bool isF, .int .i64 i, .int .u64 b]] w fun e w' => e = .returned (.bool true) ∧ Below w.heap.size w w' := by
  obtain ⟨t, ht, k, hk⟩ := format_ev (isF := isF) hi.1 hi.2 hb
  have HT := hid hT
  have HI := hid hi
  have HB := hid hb
  have HN := hid ht
  have HK := hid hk
  clear hT hi hb ht hk
  go_enter Tryz.func5, Tryz.ntmps5
  go_wp2_with fail
  obtain ⟨w1, hw1⟩ : ∃ w1, w1 = w.alloc (.cells #[.bool isF, .int .i64 i, .int .u64 b] 31) := ⟨_, rfl⟩
  have HB1 : Hid (Below w.heap.size w w1) := hid (by rw [hw1]; exact (Below.refl w.heap.size w).alloc (Nat.le_refl _) _)
  have hsz : w.heap.size < w1.heap.size := by rw [hw1]; simp
  have hc0 : w1.cell? ⟨w.heap.size, 0, none⟩ = some (.bool isF) := by rw [hw1]; simp
  have hc1 : w1.cell? ⟨w.heap.size, 1, none⟩ = some (.int .i64 i) := by rw [hw1]; simp
  have hc2 : w1.cell? ⟨w.heap.size, 2, none⟩ = some (.int .u64 b) := by rw [hw1]; simp
  have HSZ := hid hsz
  have HC0 := hid hc0
  have HC1 := hid hc1
  have HC2 := hid hc2
  rw [← hw1]
  clear hw1 hsz hc0 hc1 hc2
  refine (toNumber_any isF i b w1).mono ?_
  rintro r w2 ⟨rfl, hb2⟩
  have HB2 := hid hb2
  clear hb2
  go_wp2_with fail
  refine (spec_FormatNumber.calls k isF i b _ w2 HK.out).mono ?_
  rintro r w3 ⟨rfl, hb3⟩
  have HB3 : Hid (Below w1.heap.size w1 w3) := hid (HB2.out.trans (hb3.mono HB2.out.size))
  clear hb3
  have c0 := (HB3.out.cell (p := ⟨w.heap.size, 0, none⟩) HSZ.out).trans HC0.out
  have c1 := (HB3.out.cell (p := ⟨w.heap.size, 1, none⟩) HSZ.out).trans HC1.out
  have c2 := (HB3.out.cell (p := ⟨w.heap.size, 2, none⟩) HSZ.out).trans HC2.out
  go_wp2_with fail
  clear c0 c1 c2
  refine (toNumber_any isF i b w3).mono ?_
  rintro r w4 ⟨rfl, hb4⟩
  have HB4 : Hid (Below w.heap.size w w4) := hid (HB1.out.trans ((HB3.out.trans (hb4.mono HB3.out.size)).mono HB1.out.size))
  clear hb4
  go_wp2_with fail
  refine (formatI_any isF i b w4 HI.out HB.out (HT.out.below HB4.out)).mono ?_
  rintro r w5 ⟨⟨t', ht', rfl⟩, hb5⟩
  have HB5 : Hid (Below w.heap.size w w5) := hid (HB4.out.trans (hb5.mono HB4.out.size))
  obtain rfl := NT_unique HN.out ht'
  clear hb5 ht'
  go_wp2_with fail
  go_ret
  exact ⟨rfl, HB5.out⟩
end Go.Proofs.YtlblkajnmdhmdaaGreatDoor
