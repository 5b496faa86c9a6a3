/-
  The program's matcher in memory: its block, the pattern, the row of captures; step, which counts and panics where there are too many.
-/
import Derived.Test.YtpinoolagbghnaaZPatS
import Derived.Test.YtpinoolagbghnaaZTryQ
import Derived.BigRegion
import Derived.BigQuiet
import Derived.Deep.QuietTactic
import Derived.RegionTactic
import Derived.Deep.RegionLaw
import Derived.Deep.CutRange
import Derived.Deep.CutBlock
import Derived.Deep.DeepMust
import Derived.Handy
namespace Go.Proofs.Ytpinoolagbghnaa
set_option linter.unusedVariables false
open Go.RowKit Pat

/-- The cells of the row of captures. -/
def capAt (c : Cap) (j : Nat) : Value := if j % 3 = 0 then .bool (c.pl (j / 3)) else if j % 3 = 1 then .int .i64 (c.frm (j / 3) : Nat) else .int .i64 (c.to (j / 3) : Nat)

/-- A matching of the program's under way. -/
structure QS (lo : Nat) (w : World) (m pc : Nat) (s : ByteArray) (vi : Value) (P : Pt) (gs : List Nat) (cb st : Nat) (c : Cap) : Prop where
  blk : w.heap[m]? = some (.cells #[.pointer (some ⟨pc, 0, none⟩), .string s, .int .i64 st, .slice (some ⟨cb, 0, none⟩) P.caps P.caps] 40 (0, 0))
  pat : PBlk w pc P.start vi P.caps
  it : PItemRow lo w vi P.items.length (pCells P.items gs)
  len : P.items.length = gs.length
  sets : PSetsOk w lo P.items gs
  caps : w.rowIs cb 55 (P.caps * 3) (capAt c)

section
variable {lo m pc cb st : Nat} {s : ByteArray} {vi : Value} {P : Pt} {gs : List Nat} {c : Cap} {w w' : World}
theorem QS.cells (h : QS lo w m pc s vi P gs cb st c) : w.cell? ⟨m, 0, none⟩ = some (.pointer (some ⟨pc, 0, none⟩)) ∧ w.cell? ⟨m, 1, none⟩ = some (.string s) ∧ w.cell? ⟨m, 2, none⟩ = some (.int .i64 st) ∧
    w.cell? ⟨m, 3, none⟩ = some (.slice (some ⟨cb, 0, none⟩) P.caps P.caps) ∧ w.frozen? ⟨m, 2, none⟩ = false := ⟨blk_cell h.blk 0, blk_cell h.blk 1, blk_cell h.blk 2, blk_cell h.blk 3, blk_free h.blk 2⟩

theorem QS.after (h : QS lo w m pc s vi P gs cb st c) {S : List Nat} {st' : Nat} {c' : Cap} (hk : Keeps w.heap.size S w w') (hS : ∀ k ∈ S, k = m ∨ k = cb)
    (hb : w'.heap[m]? = some (.cells #[.pointer (some ⟨pc, 0, none⟩), .string s, .int .i64 st', .slice (some ⟨cb, 0, none⟩) P.caps P.caps] 40 (0, 0))) (hc : w'.rowIs cb 55 (P.caps * 3) (capAt c')) : QS lo w' m pc s vi P gs cb st' c' := by
  obtain ⟨d, hd⟩ := row_blk h.caps
  have hpb : w.heap[pc]? = some (.cells #[.bool P.start, vi, .int .i64 P.caps] 58 (0, 0)) := h.pat
  have hne : ∀ b c0 t z, w.heap[b]? = some (.cells c0 t z) → t ≠ 40 → t ≠ 55 → b ∉ S := fun b c0 t z hb0 h1 h2 hm => by
    rcases hS b hm with e | e
    · subst e; rw [h.blk] at hb0; simp only [Option.some.injEq, Obj.cells.injEq] at hb0; exact h1 hb0.2.1.symm
    · subst e; rw [hd] at hb0; simp only [Option.some.injEq, Obj.cells.injEq] at hb0; exact h2 hb0.2.1.symm
  refine ⟨hb, hk.blk h.pat (blk_lt h.pat) (hne _ _ _ _ hpb (by decide) (by decide)), own_keeps h.it hk (Nat.le_refl _) (fun k h1 h2 => ?_), h.len, h.sets.keeps hk (Nat.le_refl _) (fun g n f h1 h2 => ?_), hc⟩
  · rcases h.it.2 with ⟨rfl, _⟩ | ⟨g', cap', cur, rfl, _, hg', _⟩
    · cases h1
    · simp only [Value.ownBlock, Option.some.injEq] at h1
      exact hne _ _ _ _ (h1 ▸ hg') (by decide) (by decide) h2
  · obtain ⟨c0, hc0⟩ := row_blk h2
    exact hne _ _ _ _ hc0 (by decide) (by decide) h1
theorem QS.ne (h : QS lo w m pc s vi P gs cb st c) : cb ≠ m := row_ne h.caps h.blk (by decide)
theorem QS.keeps (h : QS lo w m pc s vi P gs cb st c) (hk : Keeps w.heap.size [] w w') : QS lo w' m pc s vi P gs cb st c := h.after hk (by simp) (hk.blk h.blk (blk_lt h.blk) (by simp)) (hk.row h.caps h.caps.lt (by simp))
theorem QS.drewN (h : QS lo w m pc s vi P gs cb st c) (n : Nat) : QS lo (w.drewN n) m pc s vi P gs cb st c := h.keeps (keeps_drewN _ _)
theorem QS.setSt (h : QS lo w m pc s vi P gs cb st c) {v : Int} {st' : Nat} (hv : v = st') : QS lo (w.setCell ⟨m, 2, none⟩ (.int .i64 v)) m pc s vi P gs cb st' c := by
  subst hv
  have hk := keeps_set w ⟨m, 2, none⟩ (.int .i64 st')
  exact h.after hk (by simp) (blk_set h.blk 2 _) (hk.row h.caps h.caps.lt (by simpa using h.ne))
/-- A block of another type than the matcher's and the captures' is none of the two. -/
theorem QS.off (h : QS lo w m pc s vi P gs cb st c) {b t : Nat} {z : Nat × Nat} {c0 : Array Value} (hb : w.heap[b]? = some (.cells c0 t z)) (h1 : t ≠ 40) (h2 : t ≠ 55) : b ∉ [m, cb] := by
  have e1 : b ≠ m := by
    intro e; subst e; rw [h.blk] at hb; simp only [Option.some.injEq, Obj.cells.injEq] at hb; exact h1 hb.2.1.symm
  have e2 : b ≠ cb := fun e => row_ne h.caps (e ▸ hb) (Ne.symm h2) rfl
  simp [e1, e2]

/-- The panic of too many steps. -/
def manyPanic : Value := .iface 72 (.agg #[])

theorem step_ok (w : World) (c2 : w.cell? ⟨m, 2, none⟩ = some (.int .i64 st)) (f2 : w.frozen? ⟨m, 2, none⟩ = false) (h : st < 50000) :
    Calls Try.prog 36 #[.pointer (some ⟨m, 0, none⟩)] w fun e w' => e = .returned (.tuple #[]) ∧ w' = w.setCell ⟨m, 2, none⟩ (.int .i64 ((st : Int) + 1)) := by
  have hne : ((st : Int) == 50000) = false := by simp; omega
  go_enter Try.func36, Try.ntmps36
  go_wp2_with fail
  go_end0
  exact ⟨rfl, rfl⟩
theorem step_over (w : World) (c2 : w.cell? ⟨m, 2, none⟩ = some (.int .i64 (50000 : Nat))) :
    Calls Try.prog 36 #[.pointer (some ⟨m, 0, none⟩)] w fun e w' => e = .panicked [{ v := manyPanic, recovered := false }] ∧ w = w' := by
  go_enter Try.func36, Try.ntmps36
  go_wp2_with fail
  exact ⟨rfl, rfl, rfl⟩
theorem fits_any (m bm bt_ g j : Nat) (s : ByteArray) (f : Nat → Bool) (w : World) (hs : s.size ≤ 65536) (hj : j ≤ 200000) (b0 : w.cell? ⟨bm, 0, none⟩ = some (.pointer (some ⟨m, 0, none⟩))) (c1 : w.cell? ⟨m, 1, none⟩ = some (.string s)) (t1 : w.cell? ⟨bt_, 1, none⟩ = some (.pointer (some ⟨g, 0, none⟩))) (hg : BoolRow w g 68 256 f) :
    Calls Try.prog 38 #[.int .i64 j, .pointer (some ⟨bm, 0, none⟩), .pointer (some ⟨bt_, 0, none⟩)] w fun e w' => e = .returned (.bool (has s f j)) ∧ ∃ n, w' = w.drewN n := by
  by_cases h : j < s.size
  · have h1 : decide (j < s.size) = true := decide_eq_true h
    have h1I : decide ((j : Int) < s.size) = true := decide_eq_true (by omega)
    have h2 := bt_of_lt h
    have h3 : (0 : Int) ≤ j ∧ (j : Int) < s.size := ⟨by omega, by omega⟩
    have h5 := s[j].toNat_lt
    have hc := hg.cell (i := s[j].toNat) (by omega)
    have H2 : Hid (has s f j = f s[j].toNat) := hid (by unfold has; rw [h2]; simp [h])
    clear h2
    go_enter Try.func38, Try.ntmps38
    go_wp2_with fail
    go_quiet (fail)
    go_wp2_with fail
    go_ret
    exact ⟨ret_b H2.out.symm, _, rfl⟩
  · have h1 : decide (j < s.size) = false := decide_eq_false h
    have h1I : decide ((j : Int) < s.size) = false := decide_eq_false (by omega)
    have H2 : Hid (has s f j = false) := hid (by unfold has; simp [h])
    go_enter Try.func38, Try.ntmps38
    go_wp2_with fail
    go_quiet (fail)
    go_wp2_with fail
    go_ret
    exact ⟨ret_b H2.out.symm, _, rfl⟩
end
end Go.Proofs.Ytpinoolagbghnaa
