/-
  Walk: the program's inSteps: a panic of too many steps is caught.
  Walk: the program's Find$1 (the search that Find hands to inSteps) and inSteps at it.
  Walk: the program's inSteps at a function that may panic of too many steps.
-/
import Derived.Test.YtpinoolagbghnaaZQF
import Derived.Defers
import Derived.Recover
import Derived.Laws.Pointers
namespace Go.Proofs.Ytpinoolagbghnaa
set_option linter.unusedVariables false
open Go.RowKit Pat

set_option maxHeartbeats 1000000 in
theorem catch_many (b : Nat) (x : Bool) (w : World) (hc : w.cell? ⟨b, 0, none⟩ = some (.bool x)) (hz : w.frozen? ⟨b, 0, none⟩ = false) (hl : b < w.heap.size) :
    CallsD Try.prog 26 #[.pointer (some ⟨b, 0, none⟩)] (.panicking ({ v := manyPanic, recovered := false } :: [])) w fun e u' w' =>
      e = .returned (.tuple #[]) ∧ u' = .panicking ({ v := manyPanic, recovered := true } :: []) ∧ w' = (w.setCell ⟨b, 0, none⟩ (.bool false)).alloc (.cells #[] 72) := by
  have hta : ∀ w : World, (Instr.typeAssert (.iface 72 (.agg #[])) 20 72 true).run Try.prog w = .ok (.tuple #[.agg #[], .bool true]) w := fun w => by kernel_rfl
  have hz0 : ∀ w : World, (zeroValue 72).run Try.prog w = .ok (.agg #[]) w := fun w => by kernel_rfl
  unfold manyPanic
  refine callsD_of_wpS Try.func26 rfl fun c₀ cs hu => ?_
  apply wpS_seq
  apply wpS_region
  simp [wpOpsS, go_sem, recoverD, hu, Try.ntmps26, Exit.thenS]
  refine wpS_of_wp ?_
  go_wp2_with fail
  cases c₀
  simp_all [bodyPostS, results, Try.results26]

theorem catch_none (p : Addr) (w : World) :
    CallsD Try.prog 26 #[.pointer (some p)] .returning w fun e u' w' => e = .returned (.tuple #[]) ∧ u' = .returning ∧ w' = w := by
  refine callsD_of_wpS Try.func26 rfl fun c₀ cs hu => ?_
  apply wpS_seq
  apply wpS_region
  simp [wpOpsS, go_sem, recoverD, hu, Try.ntmps26, Exit.thenS]
  refine wpS_of_wp ?_
  go_wp2_with fail
  cases c₀
  simp_all [bodyPostS, results, Try.results26]
end Go.Proofs.Ytpinoolagbghnaa

namespace Go.Proofs.Ytpinoolagbghnaa
set_option linter.unusedVariables false
open Go.RowKit Pat

/-- What the search that Find hands on leaves: the match in block fv, whether there is one in block bv. -/
def F1Post (lo m pc : Nat) (s : ByteArray) (vi : Value) (P : Pt) (gs : List Nat) (fv bv : Nat) (R : Option (Nat × Option (Nat × Nat × Cap))) (w : World) (e : Ending) (w' : World) : Prop :=
  Keeps w.heap.size [m, fv, bv] w w' ∧
  ((R = none ∧ e = .panicked [{ v := manyPanic, recovered := false }] ∧ w'.heap[fv]? = w.heap[fv]? ∧ w'.heap[bv]? = w.heap[bv]?) ∨
  (∃ st', R = some (st', none) ∧ e = .returned (.tuple #[]) ∧ w'.heap[fv]? = some (.cells #[.int .i64 0, .int .i64 0, .slice none 0 0] 24 (0, 0)) ∧ w'.heap[bv]? = some (.cells #[.bool false] 4 (0, 0))) ∨
  (∃ st' i e2 c cb, R = some (st', some (i, e2, c)) ∧ i ≤ s.size ∧ (e2 : Nat) ≤ s.size ∧ w.heap.size ≤ cb ∧ w'.rowIs cb 55 (P.caps * 3) (capAt c) ∧ e = .returned (.tuple #[]) ∧
    w'.heap[fv]? = some (.cells #[.int .i64 i, .int .i64 e2, .slice (some ⟨cb, 0, none⟩) P.caps P.caps] 24 (0, 0)) ∧ w'.heap[bv]? = some (.cells #[.bool true] 4 (0, 0))))

section
variable {lo m pc st mv iv fv bv : Nat} {s : ByteArray} {vi : Value} {P : Pt} {gs : List Nat} {w : World} {x0 x1 x2 : Value} {xb : Bool}

set_option maxRecDepth 100000 in
set_option maxHeartbeats 2000000 in
theorem find1_any (init : Nat) (R : Option (Nat × Option (Nat × Nat × Cap))) (hF : Calls Try.prog 15 #[.pointer (some ⟨m, 0, none⟩), .int .i64 init] w fun e w' => FromPost lo m pc s vi P gs R w e w')
    (hm : w.cell? ⟨mv, 0, none⟩ = some (.pointer (some ⟨m, 0, none⟩))) (hi : w.cell? ⟨iv, 0, none⟩ = some (.int .i64 init)) (hf : w.heap[fv]? = some (.cells #[x0, x1, x2] 24 (0, 0))) (hb : w.heap[bv]? = some (.cells #[.bool xb] 4 (0, 0))) (hfm : fv ≠ m) (hbm : bv ≠ m) :
    Calls Try.prog 14 #[.pointer (some ⟨mv, 0, none⟩), .pointer (some ⟨iv, 0, none⟩), .pointer (some ⟨fv, 0, none⟩), .pointer (some ⟨bv, 0, none⟩)] w fun e w' => F1Post lo m pc s vi P gs fv bv R w e w' := by
  have hfb : fv ≠ bv := by
    intro e; rw [e, hb] at hf; simp at hf
  have hlf := blk_lt hf
  have hlb := blk_lt hb
  go_enter Try.func14, Try.ntmps14
  go_wp2_with fail
  refine hF.mono ?_
  rintro e w2 ⟨hk, hcase⟩
  have hf2 := hk.blk hf hlf (by simpa using hfm)
  have hb2 := hk.blk hb hlb (by simpa using hbm)
  obtain ⟨r0, r1, r2, q0, q1, q2⟩ := found_facts hf2
  have b0 := blk_cell hb2 0
  have g0 := blk_free hb2 0
  have hk3 : Keeps w.heap.size [m, fv, bv] w w2 := hk.mono (Nat.le_refl _) (by simp)
  rcases hcase with ⟨hR, rfl⟩ | ⟨st', hR, hQ, hs1, rfl⟩ | ⟨st', i, e2, c, cb, hR, hQ, hs1, hi1, he1, hcb, hrow, rfl⟩
  · go_wp2_with fail
    exact ⟨rfl, hk3, Or.inl ⟨hR, rfl, hf2.trans hf.symm, hb2.trans hb.symm⟩⟩
  · have HR := hid hR
    clear hR
    go_wp2_with fail
    go_end0
    exact ⟨((((hk3.setCell (p := ⟨fv, 0, none⟩) (Or.inl (by simp)) _).setCell (p := ⟨fv, 1, none⟩) (Or.inl (by simp)) _).setCell (p := ⟨fv, 2, none⟩) (Or.inl (by simp)) _).setCell (p := ⟨bv, 0, none⟩) (Or.inl (by simp)) _), Or.inr (Or.inl ⟨st', HR.out, rfl, blk_set_other (found_set hf2) (a := ⟨bv, 0, none⟩) hfb _, blk_set (blk_set_other (blk_set_other (blk_set_other hb2 (a := ⟨fv, 0, none⟩) (Ne.symm hfb) _) (a := ⟨fv, 1, none⟩) (Ne.symm hfb) _) (a := ⟨fv, 2, none⟩) (Ne.symm hfb) _) 0 _⟩)⟩
  · have HR := hid hR
    have hlc := hrow.lt
    have HROW := hid hrow
    clear hR
    go_wp2_with fail
    go_end0
    have hcf : cb ≠ fv := by omega
    have hcv : cb ≠ bv := by omega
    exact ⟨((((hk3.setCell (p := ⟨fv, 0, none⟩) (Or.inl (by simp)) _).setCell (p := ⟨fv, 1, none⟩) (Or.inl (by simp)) _).setCell (p := ⟨fv, 2, none⟩) (Or.inl (by simp)) _).setCell (p := ⟨bv, 0, none⟩) (Or.inl (by simp)) _), Or.inr (Or.inr ⟨st', i, e2, c, cb, HR.out, hi1, he1, hcb, (((HROW.out.setOther (a := ⟨fv, 0, none⟩) hcf _).setOther (a := ⟨fv, 1, none⟩) hcf _).setOther (a := ⟨fv, 2, none⟩) hcf _).setOther (a := ⟨bv, 0, none⟩) hcv _, rfl, blk_set_other (found_set hf2) (a := ⟨bv, 0, none⟩) hfb _, blk_set (blk_set_other (blk_set_other (blk_set_other hb2 (a := ⟨fv, 0, none⟩) (Ne.symm hfb) _) (a := ⟨fv, 1, none⟩) (Ne.symm hfb) _) (a := ⟨fv, 2, none⟩) (Ne.symm hfb) _) 0 _⟩)⟩
end
end Go.Proofs.Ytpinoolagbghnaa

namespace Go.Proofs.Ytpinoolagbghnaa
set_option linter.unusedVariables false
open Go.RowKit Pat

set_option maxRecDepth 100000 in
set_option maxHeartbeats 2000000 in
theorem inSteps_any (cargs : Array Value) (w : World) (Pr : Ending → World → Prop)
    (hC : Calls Try.prog 14 cargs (w.alloc (.cells #[.bool false] 4)) Pr)
    (hP : ∀ e w', Pr e w' → (e = .panicked [{ v := manyPanic, recovered := false }] ∨ e = .returned (.tuple #[])) ∧ w'.heap[w.heap.size]? = some (.cells #[.bool false] 4 (0, 0))) :
    Calls Try.prog 13 #[.func (Fn.func 14) #[] cargs] w fun e w' => ∃ w1,
      (Pr (.panicked [{ v := manyPanic, recovered := false }]) w1 ∧ e = .returned (.bool false) ∧ w' = (w1.setCell ⟨w.heap.size, 0, none⟩ (.bool false)).alloc (.cells #[] 72)) ∨
      (Pr (.returned (.tuple #[])) w1 ∧ e = .returned (.bool true) ∧ w' = w1.setCell ⟨w.heap.size, 0, none⟩ (.bool true)) := by
  have hmf : ∀ (fn : Fn) (first cap : Array Value) (w : World), (Instr.makeFunc fn first cap).run Try.prog w = .ok (.func fn first cap) w := fun _ _ _ _ => rfl
  go_enter_defers Try.func13, Try.ntmps13
  go_wp2_with fail
  refine hC.mono ?_
  intro e w1 hPr
  obtain ⟨he, hb⟩ := hP e w1 hPr
  have b0 := blk_cell hb 0
  have g0 := blk_free hb 0
  have hl := blk_lt hb
  rcases he with rfl | rfl
  · go_wp2_with fail
    refine leaves_cons (f := 26) (args := #[.pointer (some ⟨w.heap.size, 0, none⟩)]) (by simp) (by simp [go_sem]) ?_
    refine (catch_many w.heap.size false _ b0 g0 hl).mono ?_
    rintro e u' w'' ⟨rfl, rfl, rfl⟩
    have hc : ((w1.setCell ⟨w.heap.size, 0, none⟩ (.bool false)).alloc (.cells #[] 72)).cell? ⟨w.heap.size, 0, none⟩ = some (.bool false) := blk_cell (blk_alloc (blk_set hb 0 (.bool false)) _) 0
    simp [Leaves, settle, results, Try.results13, go_sem, b0, hl]
    exact ⟨w1, hPr, rfl⟩
  · go_wp2_with fail
    refine leaves_cons (f := 26) (args := #[.pointer (some ⟨w.heap.size, 0, none⟩)]) (by simp) (by simp [go_sem]) ?_
    refine (catch_none ⟨w.heap.size, 0, none⟩ _).mono ?_
    rintro e u' w'' ⟨rfl, rfl, rfl⟩
    have hc : (w1.setCell ⟨w.heap.size, 0, none⟩ (.bool true)).cell? ⟨w.heap.size, 0, none⟩ = some (.bool true) := blk_cell (blk_set hb 0 (.bool true)) 0
    simp [Leaves, settle, results, Try.results13, go_sem, b0]
    exact ⟨w1, hPr, rfl⟩
end Go.Proofs.Ytpinoolagbghnaa
