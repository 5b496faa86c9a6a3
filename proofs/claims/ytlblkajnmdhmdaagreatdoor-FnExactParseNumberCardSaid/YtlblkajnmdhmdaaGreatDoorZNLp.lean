/-
  Walk: the law FnExactParseNumber returns true.
-/
import Derived.Test.YtlblkajnmdhmdaaGreatDoorZNGe
import Derived.Test.YtlblkajnmdhmdaaGreatDoorZNPn
import Derived.Test.YtlblkajnmdhmdaaGreatDoorZDCal
namespace Go.Proofs.YtlblkajnmdhmdaaGreatDoor
set_option linter.unusedVariables false
open Go.RowKit Lib Go.Op Go.Proofs.YtlblkajnmdhmdaaGreatDoor.PFormatNumber Go.Proofs.YtlblkajnmdhmdaaGreatDoorW.PrintWords
set_option maxRecDepth 100000 in
theorem eqNumber_any (f : Bool) (i u : Int) (w : World) :
    Calls Tryz.prog 9 #[.agg #[.bool f, .int .i64 i, .int .u64 u], .agg #[.bool f, .int .i64 i, .int .u64 u]] w fun e w' => e = .returned (.bool true) ∧ Below w.heap.size w w' := by
  have e1 : (f != f) = false := by simp
  have e2 : (i != i) = false := by simp
  have e3 : (u != u) = false := by simp
  go_enter Tryz.func9, Tryz.ntmps9
  go_wp2_with fail
  go_ret
  exact ⟨rfl, ((Below.refl _ _).alloc (Nat.le_refl _) _).alloc (by simp) _⟩
theorem pn_eq (o : Option (Bool × Int × Nat)) : pnEnd o = .returned (.tuple #[.agg #[.bool (NB.pnAns o).1, .int .i64 (NB.pnAns o).2.1, .int .u64 (NB.pnAns o).2.2.1], .bool (NB.pnAns o).2.2.2]) := by
  match o with
  | some (true, i, u) => rfl
  | some (false, i, u) => rfl
  | none => rfl
set_option maxRecDepth 100000 in
theorem lawP_any (s : ByteArray) (w : World) (hI : ∀ o w', NB.Ans s o → Below w.heap.size w w' → Calls Tryz.prog 8 #[.string s] w' fun r w2 => r = pnEnd o ∧ Below w'.heap.size w' w2) :
    Calls Tryz.prog 3 #[.string s] w fun e w' => e = .returned (.bool true) ∧ Below w.heap.size w w' := by
  by_cases hbig : 1048576 < s.size
  · have hd : decide ((1048576 : Int) < (s.size : Int)) = true := decide_eq_true (by omega)
    go_enter Tryz.func3, Tryz.ntmps3
    go_wp2_with fail
    go_ret
    exact ⟨rfl, Below.refl _ _⟩
  · have hd : decide ((1048576 : Int) < (s.size : Int)) = false := decide_eq_false (by omega)
    obtain ⟨o, hA, hev⟩ := NB.parse_ev s
    obtain ⟨k, hk⟩ := hev.rounds
    have hi := hI o
    rw [pn_eq] at hi
    obtain ⟨⟨r1, r2, r3, r4⟩, hr⟩ : ∃ r, NB.pnAns o = r := ⟨_, rfl⟩
    rw [hr] at hk hi
    have HK := hid hk
    have HI := hid (fun w' hb => hi w' hA hb)
    have e4 : (r4 != r4) = false := by simp
    clear hI hi hk hr hA hev
    go_enter Tryz.func3, Tryz.ntmps3
    go_wp2_with fail
    refine (spec_ParseNumber.calls k s r1 r2 r3 r4 w HK.out).mono ?_
    rintro r w1 ⟨rfl, hb1⟩
    have HB1 := hid hb1
    clear hb1
    go_wp2_with fail
    obtain ⟨wa, hwa⟩ : ∃ wa, wa = w1.alloc (.cells #[.bool r1, .int .i64 r2, .int .u64 r3] 24) := ⟨_, rfl⟩
    have HBA : Hid (Below w.heap.size w wa) := hid (by rw [hwa]; exact HB1.out.alloc HB1.out.size _)
    have hsz : w1.heap.size < wa.heap.size := by rw [hwa]; simp
    have hc0 : wa.cell? ⟨w1.heap.size, 0, none⟩ = some (.bool r1) := by rw [hwa]; simp
    have hc1 : wa.cell? ⟨w1.heap.size, 1, none⟩ = some (.int .i64 r2) := by rw [hwa]; simp
    have hc2 : wa.cell? ⟨w1.heap.size, 2, none⟩ = some (.int .u64 r3) := by rw [hwa]; simp
    have HSZ := hid hsz
    have HC0 := hid hc0
    have HC1 := hid hc1
    have HC2 := hid hc2
    rw [← hwa]
    clear hwa hsz hc0 hc1 hc2
    refine (HI.out wa HBA.out).mono ?_
    rintro r w2 ⟨rfl, hb2⟩
    have HB2 : Hid (Below wa.heap.size wa w2) := hid hb2
    clear hb2
    have c0 := (HB2.out.cell (p := ⟨w1.heap.size, 0, none⟩) HSZ.out).trans HC0.out
    have c1 := (HB2.out.cell (p := ⟨w1.heap.size, 1, none⟩) HSZ.out).trans HC1.out
    have c2 := (HB2.out.cell (p := ⟨w1.heap.size, 2, none⟩) HSZ.out).trans HC2.out
    have hlt : w1.heap.size < w2.heap.size := Nat.lt_of_lt_of_le HSZ.out HB2.out.size
    go_wp2_with fail
    refine (eqNumber_any r1 r2 r3 _).mono ?_
    rintro r w3 ⟨rfl, hb3⟩
    have HB3 : Hid (Below w.heap.size w w3) := hid ((HBA.out.trans (HB2.out.mono HBA.out.size)).trans ((((Below.refl w2.heap.size w2).alloc (Nat.le_refl _) _).trans (hb3.mono (by simp))).mono (Nat.le_trans HBA.out.size HB2.out.size)))
    clear hb3 c0 c1 c2 hlt
    go_wp2_with fail
    go_ret
    exact ⟨rfl, HB3.out⟩
end Go.Proofs.YtlblkajnmdhmdaaGreatDoor
