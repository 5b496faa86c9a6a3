/-
  The program's matcher in memory: its block, the pattern, the row of captures; step, which counts and panics where there are too many.
  Walk: the program's matcher: balance: what stands between two bytes that answer each other.
-/
import Derived.Test.YtpinoolagbghnaaDoorZPatS
import Derived.Test.YtpinoolagbghnaaDoorZTryQ
import Derived.BigRegion
import Derived.BigQuiet
import Derived.Deep.QuietTactic
import Derived.RegionTactic
import Derived.Deep.RegionLaw
import Derived.Deep.CutRange
import Derived.Deep.CutBlock
import Derived.Deep.DeepMust
import Derived.Handy
namespace Go.Proofs.YtpinoolagbghnaaDoor
set_option linter.unusedVariables false
open Go.RowKit Pat

/-- The cells of the row of captures. -/
def capAt (c : Cap) (j : Nat) : Value := if j % 3 = 0 then .bool (c.pl (j / 3)) else if j % 3 = 1 then .int .i64 (c.frm (j / 3) : Nat) else .int .i64 (c.to (j / 3) : Nat)

/-- A matching of the program's under way. -/
structure QS (lo : Nat) (w : World) (m pc : Nat) (s : ByteArray) (vi : Value) (P : Pt) (gs : List Nat) (cb st : Nat) (c : Cap) : Prop where
  blk : w.heap[m]? = some (.cells #[.pointer (some ⟨pc, 0, none⟩), .string s, .int .i64 st, .slice (some ⟨cb, 0, none⟩) P.caps P.caps] 52 (0, 0))
  pat : PBlk w pc P.start vi P.caps
  it : PItemRow lo w vi P.items.length (pCells P.items gs)
  len : P.items.length = gs.length
  sets : PSetsOk w lo P.items gs
  caps : w.rowIs cb 69 (P.caps * 3) (capAt c)

section
variable {lo m pc cb st : Nat} {s : ByteArray} {vi : Value} {P : Pt} {gs : List Nat} {c : Cap} {w w' : World}
theorem QS.cells (h : QS lo w m pc s vi P gs cb st c) : w.cell? ⟨m, 0, none⟩ = some (.pointer (some ⟨pc, 0, none⟩)) ∧ w.cell? ⟨m, 1, none⟩ = some (.string s) ∧ w.cell? ⟨m, 2, none⟩ = some (.int .i64 st) ∧
    w.cell? ⟨m, 3, none⟩ = some (.slice (some ⟨cb, 0, none⟩) P.caps P.caps) ∧ w.frozen? ⟨m, 2, none⟩ = false := ⟨blk_cell h.blk 0, blk_cell h.blk 1, blk_cell h.blk 2, blk_cell h.blk 3, blk_free h.blk 2⟩

theorem QS.after (h : QS lo w m pc s vi P gs cb st c) {S : List Nat} {st' : Nat} {c' : Cap} (hk : Keeps w.heap.size S w w') (hS : ∀ k ∈ S, k = m ∨ k = cb)
    (hb : w'.heap[m]? = some (.cells #[.pointer (some ⟨pc, 0, none⟩), .string s, .int .i64 st', .slice (some ⟨cb, 0, none⟩) P.caps P.caps] 52 (0, 0))) (hc : w'.rowIs cb 69 (P.caps * 3) (capAt c')) : QS lo w' m pc s vi P gs cb st' c' := by
  obtain ⟨d, hd⟩ := row_blk h.caps
  have hpb : w.heap[pc]? = some (.cells #[.bool P.start, vi, .int .i64 P.caps] 49 (0, 0)) := h.pat
  have hne : ∀ b c0 t z, w.heap[b]? = some (.cells c0 t z) → t ≠ 52 → t ≠ 69 → b ∉ S := fun b c0 t z hb0 h1 h2 hm => by
    rcases hS b hm with e | e
    · subst e; rw [h.blk] at hb0; simp only [Option.some.injEq, Obj.cells.injEq] at hb0; exact h1 hb0.2.1.symm
    · subst e; rw [hd] at hb0; simp only [Option.some.injEq, Obj.cells.injEq] at hb0; exact h2 hb0.2.1.symm
  refine ⟨hb, hk.blk h.pat (blk_lt h.pat) (hne _ _ _ _ hpb (by decide) (by decide)), own_keeps h.it hk (Nat.le_refl _) (fun k h1 h2 => ?_), h.len, h.sets.keeps hk (Nat.le_refl _) (fun g n f h1 h2 => ?_), hc⟩
  · rcases h.it.2 with ⟨rfl, _⟩ | ⟨g', cap', cur, rfl, _, hg', _⟩
    · cases h1
    · simp only [Value.ownBlock, Option.some.injEq] at h1
      exact hne _ _ _ _ (h1 ▸ hg') (by decide) (by decide) h2
  · obtain ⟨c0, hc0⟩ := row_blk h2
    exact hne _ _ _ _ hc0 (by decide) (by decide) h1
theorem QS.ne (h : QS lo w m pc s vi P gs cb st c) : cb ≠ m := row_ne h.caps h.blk (by decide)
theorem QS.keeps (h : QS lo w m pc s vi P gs cb st c) (hk : Keeps w.heap.size [] w w') : QS lo w' m pc s vi P gs cb st c := h.after hk (by simp) (hk.blk h.blk (blk_lt h.blk) (by simp)) (hk.row h.caps h.caps.lt (by simp))
theorem QS.drewN (h : QS lo w m pc s vi P gs cb st c) (n : Nat) : QS lo (w.drewN n) m pc s vi P gs cb st c := h.keeps (keeps_drewN _ _)
theorem QS.setSt (h : QS lo w m pc s vi P gs cb st c) {v : Int} {st' : Nat} (hv : v = st') : QS lo (w.setCell ⟨m, 2, none⟩ (.int .i64 v)) m pc s vi P gs cb st' c := by
  subst hv
  have hk := keeps_set w ⟨m, 2, none⟩ (.int .i64 st')
  exact h.after hk (by simp) (blk_set h.blk 2 _) (hk.row h.caps h.caps.lt (by simpa using h.ne))
/-- A block of another type than the matcher's and the captures' is none of the two. -/
theorem QS.off (h : QS lo w m pc s vi P gs cb st c) {b t : Nat} {z : Nat × Nat} {c0 : Array Value} (hb : w.heap[b]? = some (.cells c0 t z)) (h1 : t ≠ 52) (h2 : t ≠ 69) : b ∉ [m, cb] := by
  have e1 : b ≠ m := by
    intro e; subst e; rw [h.blk] at hb; simp only [Option.some.injEq, Obj.cells.injEq] at hb; exact h1 hb.2.1.symm
  have e2 : b ≠ cb := fun e => row_ne h.caps (e ▸ hb) (Ne.symm h2) rfl
  simp [e1, e2]

/-- The panic of too many steps. -/
def manyPanic : Value := .iface 86 (.agg #[])

theorem step_ok (w : World) (c2 : w.cell? ⟨m, 2, none⟩ = some (.int .i64 st)) (f2 : w.frozen? ⟨m, 2, none⟩ = false) (h : st < 50000) :
    Calls Tryd.prog 56 #[.pointer (some ⟨m, 0, none⟩)] w fun e w' => e = .returned (.tuple #[]) ∧ w' = w.setCell ⟨m, 2, none⟩ (.int .i64 ((st : Int) + 1)) := by
  have hne : ((st : Int) == 50000) = false := by simp; omega
  go_enter Tryd.func56, Tryd.ntmps56
  go_wp2_with fail
  go_end0
  exact ⟨rfl, rfl⟩
theorem step_over (w : World) (c2 : w.cell? ⟨m, 2, none⟩ = some (.int .i64 (50000 : Nat))) :
    Calls Tryd.prog 56 #[.pointer (some ⟨m, 0, none⟩)] w fun e w' => e = .panicked [{ v := manyPanic, recovered := false }] ∧ w = w' := by
  go_enter Tryd.func56, Tryd.ntmps56
  go_wp2_with fail
  exact ⟨rfl, rfl, rfl⟩
theorem fits_any (m bm bt_ g j : Nat) (s : ByteArray) (f : Nat → Bool) (w : World) (hs : s.size ≤ 65536) (hj : j ≤ 200000) (b0 : w.cell? ⟨bm, 0, none⟩ = some (.pointer (some ⟨m, 0, none⟩))) (c1 : w.cell? ⟨m, 1, none⟩ = some (.string s)) (t1 : w.cell? ⟨bt_, 1, none⟩ = some (.pointer (some ⟨g, 0, none⟩))) (hg : BoolRow w g 82 256 f) :
    Calls Tryd.prog 58 #[.int .i64 j, .pointer (some ⟨bm, 0, none⟩), .pointer (some ⟨bt_, 0, none⟩)] w fun e w' => e = .returned (.bool (has s f j)) ∧ ∃ n, w' = w.drewN n := by
  by_cases h : j < s.size
  · have h1 : decide (j < s.size) = true := decide_eq_true h
    have h1I : decide ((j : Int) < s.size) = true := decide_eq_true (by omega)
    have h2 := bt_of_lt h
    have h3 : (0 : Int) ≤ j ∧ (j : Int) < s.size := ⟨by omega, by omega⟩
    have h5 := s[j].toNat_lt
    have hc := hg.cell (i := s[j].toNat) (by omega)
    have H2 : Hid (has s f j = f s[j].toNat) := hid (by unfold has; rw [h2]; simp [h])
    clear h2
    go_enter Tryd.func58, Tryd.ntmps58
    go_wp2_with fail
    go_quiet (fail)
    go_wp2_with fail
    go_ret
    exact ⟨ret_b H2.out.symm, _, rfl⟩
  · have h1 : decide (j < s.size) = false := decide_eq_false h
    have h1I : decide ((j : Int) < s.size) = false := decide_eq_false (by omega)
    have H2 : Hid (has s f j = false) := hid (by unfold has; simp [h])
    go_enter Tryd.func58, Tryd.ntmps58
    go_wp2_with fail
    go_quiet (fail)
    go_wp2_with fail
    go_ret
    exact ⟨ret_b H2.out.symm, _, rfl⟩
end
end Go.Proofs.YtpinoolagbghnaaDoor

namespace Go.Proofs.YtpinoolagbghnaaDoor
set_option linter.unusedVariables false
open Go.RowKit Pat

namespace Pat
theorem bal_pos {s : ByteArray} {x y n : Int} {g j : Nat} (h : j < s.size) : 1 ≤ (bal s x y (g + 1) j n).1 := by
  by_cases hy : bt s j = y
  · by_cases hn : n = 1
    · rw [bal_close h hy hn]; exact Nat.le_refl _
    · rw [bal_down h hy hn]; simp
  · by_cases hx : bt s j = x
    · rw [bal_up h hy hx]; simp
    · rw [bal_skip h hy hx]; simp
/-- How many bytes are looked at for a pair at a place, and where it ends. -/
def pairB (s : ByteArray) (it : It) (i : Nat) : Nat × Option Nat := if i < s.size ∧ bt s i = it.x then bal s it.x it.y (s.size - i) (i + 1) 1 else (0, none)
end Pat

/-- What balance leaves. -/
def BalPost (lo m pc : Nat) (s : ByteArray) (vi : Value) (P : Pt) (gs : List Nat) (cb st : Nat) (c : Cap) (B : Nat × Option Nat) (w : World) (e : Ending) (w' : World) : Prop :=
  Keeps w.heap.size [m, cb] w w' ∧ ((50000 < st + B.1 ∧ e = .panicked [{ v := manyPanic, recovered := false }]) ∨
    (st + B.1 ≤ 50000 ∧ QS lo w' m pc s vi P gs cb (st + B.1) c ∧ ((∃ j : Nat, B.2 = some j ∧ j ≤ s.size ∧ e = .returned (.int .i64 j)) ∨ (B.2 = none ∧ e = .returned (.int .i64 (-1))))))

section
variable {lo m pc cb st i : Nat} {s : ByteArray} {vi : Value} {P : Pt} {gs : List Nat} {it : It} {c : Cap} {w : World}

set_option maxRecDepth 100000 in
set_option maxHeartbeats 2000000 in
theorem balance_any (hs : s.size ≤ 65536) (hi : i ≤ s.size) (hst : st ≤ 50000) (hQ : QS lo w m pc s vi P gs cb st c) (kv : Int) (pv : Option Addr) :
    Calls Tryd.prog 57 #[.pointer (some ⟨m, 0, none⟩), .agg #[.int .u8 kv, .pointer pv, .int .u8 it.sign, .int .i64 it.n, .int .u8 it.x, .int .u8 it.y], .int .i64 i] w
      fun e w' => BalPost lo m pc s vi P gs cb st c (pairB s it i) w e w' := by
  obtain ⟨W, hW⟩ : ∃ W, W = w.alloc (.cells #[.int .u8 kv, .pointer pv, .int .u8 it.sign, .int .i64 it.n, .int .u8 it.x, .int .u8 it.y] 77) := ⟨_, rfl⟩
  have hWb : W.heap[w.heap.size]? = some (.cells #[.int .u8 kv, .pointer pv, .int .u8 it.sign, .int .i64 it.n, .int .u8 it.x, .int .u8 it.y] 77 (0, 0)) := by rw [hW]; exact blk_new _ _
  have hKW : Keeps w.heap.size [] w W := by rw [hW]; exact (Keeps.refl _ _ _).alloc (Nat.le_refl _) _
  have hQW := hQ.keeps hKW
  obtain ⟨B, hB⟩ : ∃ B, B = pairB s it i := ⟨_, rfl⟩
  rw [← hB]
  have HB0 := hid hB
  clear hB
  go_enter Tryd.func57, Tryd.ntmps57
  go_upto_region 1 with fail
  rw [← hW]
  have b4 := blk_cell hWb 4
  have b5 := blk_cell hWb 5
  have hlW := blk_lt hWb
  obtain ⟨c0, c1, c2, c3, f2⟩ := hQW.cells
  clear hW
  by_cases hlt : i < s.size
  · have h1 : decide (s.size ≤ i) = false := decide_eq_false (by omega)
    have h3 : (0 : Int) ≤ i ∧ (i : Int) < s.size := ⟨by omega, by omega⟩
    by_cases hx : bt s i = it.x
    · have HX := hid hx
      rw [bt_of_lt hlt] at hx
      have hx' : ((s[i].toNat : Int) != it.x) = false := by simp [hx]
      clear hx
      go_quiet (fail)
      go_wp2_with fail
      have HB : Hid (B = bal s it.x it.y (s.size - i) (i + 1) 1) := hid (HB0.out.trans (if_pos ⟨hlt, HX.out⟩))
      clear HB0
      go_loopg [7, 8] (s.size - i) (fun gk v9 v10 wr => ∃ (n : Int) (j u st' : Nat), v9 = .int .i64 n ∧ v10 = .int .i64 j ∧ 1 ≤ n ∧ n ≤ u + 1 ∧ j + gk = s.size + 1 ∧ i + 1 + u = j ∧ st + u ≤ st' ∧ st' ≤ st + u ∧ st' ≤ 50000 ∧ QS lo wr m pc s vi P gs cb st' c ∧ Keeps w.heap.size [m, cb] w wr ∧
        wr.heap[w.heap.size]? = some (.cells #[.int .u8 kv, .pointer pv, .int .u8 it.sign, .int .i64 it.n, .int .u8 it.x, .int .u8 it.y] 77 (0, 0)) ∧ Hid (B = ((bal s it.x it.y gk j n).1 + u, (bal s it.x it.y gk j n).2)))
      case atStart => exact ⟨1, i + 1, 0, st, rfl, by go_num, by omega, by omega, by omega, by omega, by omega, by omega, hst, hQW.drewN _, (hKW.mono (Nat.le_refl _) (by simp)).drewN _, hWb, hid (by simpa using HB.out)⟩
      case round =>
        obtain ⟨n, j, u, st', rfl, rfl, hn1, hnu, hgk, hju, hsa, hsb, hs5, hQr, hkk, hblk, HG⟩ := hrel
        obtain ⟨c0', c1', c2', c3', f2'⟩ := hQr.cells
        have b4' := blk_cell hblk 4
        have b5' := blk_cell hblk 5
        have hlb := blk_lt hblk
        by_cases hjl : j < s.size
        · obtain ⟨gk', rfl⟩ : ∃ x, gk = x + 1 := ⟨gk - 1, by omega⟩
          have hd : decide (j < s.size) = true := decide_eq_true hjl
          have h3' : (0 : Int) ≤ j ∧ (j : Int) < s.size := ⟨by omega, by omega⟩
          have hoff := hQr.off hblk (by decide) (by decide)
          have hne : ¬ w.heap.size = m := by simp at hoff; exact hoff.1
          by_cases hs4 : st' < 50000
          · have hQ1 := hQr.setSt (v := (st' : Int) + 1) (st' := st' + 1) (by omega)
            have hK1 := keeps_set wr ⟨m, 2, none⟩ (.int .i64 ((st' : Int) + 1))
            have hblk1 := hK1.blk hblk hlb (by simp [hne])
            have hkk1 := hkk.setCell (p := ⟨m, 2, none⟩) (Or.inl (by simp)) (.int .i64 ((st' : Int) + 1))
            by_cases hy : bt s j = it.y
            · have hy' : ((s[j].toNat : Int) == it.y) = true := by rw [← bt_of_lt hjl]; simpa using hy
              have HY := hid hy
              clear hy
              by_cases hn : n = 1
              · subst hn
                have HB2 : Hid (B = (u + 1, some (j + 1))) := hid (by rw [HG.out, bal_close hjl HY.out rfl, Nat.add_comm])
                clear HG
                go_wp2_with fail
                refine (step_ok _ c2' f2' hs4).mono ?_
                rintro e w' ⟨rfl, rfl⟩
                go_upto_region 8 with fail
                go_quiet (fail)
                go_wp2_with fail
                go_ret
                refine ⟨hkk1.drewN _, Or.inr ⟨by rw [HB2.out]; dsimp only; omega, ?_, Or.inl ⟨j + 1, by rw [HB2.out], by omega, ret_i (by omega)⟩⟩⟩
                rw [HB2.out]
                obtain rfl : st' = st + u := by omega
                exact hQ1.drewN _
              · have HB2 : Hid (B = ((bal s it.x it.y gk' (j + 1) (n - 1)).1 + (u + 1), (bal s it.x it.y gk' (j + 1) (n - 1)).2)) := hid (by rw [HG.out, bal_down hjl HY.out hn]; simp only [Nat.add_assoc, Nat.add_comm])
                have hn0 : ¬ n - 1 = 0 := by omega
                have hn0' : ((n - 1) == 0) = false := by simpa using hn0
                clear HG
                go_wp2_with fail
                refine (step_ok _ c2' f2' hs4).mono ?_
                rintro e w' ⟨rfl, rfl⟩
                go_upto_region 8 with fail
                go_quiet (fail)
                go_wp2_with fail
                go_roundg gk'
                case measure => omega
                case rel => exact ⟨n - 1, j + 1, u + 1, st' + 1, rfl, by go_num, by omega, by omega, by omega, by omega, by omega, by omega, by omega, hQ1.drewN _, hkk1.drewN _, hblk1, HB2⟩
            · have hy' : ((s[j].toNat : Int) == it.y) = false := by rw [← bt_of_lt hjl]; simpa using hy
              have HY := hid hy
              clear hy
              by_cases hxx : bt s j = it.x
              · have hx2 : ((s[j].toNat : Int) == it.x) = true := by rw [← bt_of_lt hjl]; simpa using hxx
                have HB2 : Hid (B = ((bal s it.x it.y gk' (j + 1) (n + 1)).1 + (u + 1), (bal s it.x it.y gk' (j + 1) (n + 1)).2)) := hid (by rw [HG.out, bal_up hjl HY.out hxx]; simp only [Nat.add_assoc, Nat.add_comm])
                clear HG hxx
                go_wp2_with fail
                refine (step_ok _ c2' f2' hs4).mono ?_
                rintro e w' ⟨rfl, rfl⟩
                go_upto_region 8 with fail
                go_quiet (fail)
                go_upto_region 12 with fail
                go_quiet (fail)
                go_wp2_with fail
                go_roundg gk'
                case measure => omega
                case rel => exact ⟨n + 1, j + 1, u + 1, st' + 1, rfl, by go_num, by omega, by omega, by omega, by omega, by omega, by omega, by omega, hQ1.drewN _, hkk1.drewN _, hblk1, HB2⟩
              · have hx2 : ((s[j].toNat : Int) == it.x) = false := by rw [← bt_of_lt hjl]; simpa using hxx
                have HB2 : Hid (B = ((bal s it.x it.y gk' (j + 1) n).1 + (u + 1), (bal s it.x it.y gk' (j + 1) n).2)) := hid (by rw [HG.out, bal_skip hjl HY.out hxx]; simp only [Nat.add_assoc, Nat.add_comm])
                clear HG hxx
                go_wp2_with fail
                refine (step_ok _ c2' f2' hs4).mono ?_
                rintro e w' ⟨rfl, rfl⟩
                go_upto_region 8 with fail
                go_quiet (fail)
                go_upto_region 12 with fail
                go_quiet (fail)
                go_wp2_with fail
                go_roundg gk'
                case measure => omega
                case rel => exact ⟨n, j + 1, u + 1, st' + 1, rfl, by go_num, by omega, by omega, by omega, by omega, by omega, by omega, by omega, hQ1.drewN _, hkk1.drewN _, hblk1, HB2⟩
          · obtain rfl : st' = 50000 := by omega
            have hbp : 50000 < st + B.1 := by
              have := bal_pos (s := s) (x := it.x) (y := it.y) (n := n) (g := gk') hjl
              rw [HG.out]; dsimp only; omega
            clear HG
            go_wp2_with fail
            refine (step_over _ c2').mono ?_
            rintro e w' ⟨rfl, rfl⟩
            go_wp2_with fail
            exact ⟨rfl, hkk, Or.inl ⟨hbp, rfl⟩⟩
        · have hd : decide (j < s.size) = false := decide_eq_false hjl
          have hjge : s.size ≤ j := by omega
          have HB2 : Hid (B = (u, none)) := hid (by rw [HG.out, bal_end hjge]; simp)
          clear HG
          go_wp2_with fail
          go_ret
          refine ⟨hkk, Or.inr ⟨by rw [HB2.out]; dsimp only; omega, ?_, Or.inr ⟨by rw [HB2.out], rfl⟩⟩⟩
          rw [HB2.out]
          obtain rfl : st' = st + u := by omega
          exact hQr
    · have hx' : ((s[i].toNat : Int) != it.x) = true := by rw [← bt_of_lt hlt]; simpa using hx
      have HB : Hid (B = (0, none)) := hid (HB0.out.trans (if_neg (fun h => hx h.2)))
      clear hx
      go_quiet (fail)
      go_wp2_with fail
      go_ret
      exact ⟨(hKW.mono (Nat.le_refl _) (by simp)).drewN _, Or.inr ⟨by rw [HB.out]; exact hst, by rw [HB.out]; exact hQW.drewN _, Or.inr ⟨by rw [HB.out], rfl⟩⟩⟩
  · have h1 : decide (s.size ≤ i) = true := decide_eq_true (by omega)
    have HB : Hid (B = (0, none)) := hid (HB0.out.trans (if_neg (fun h => hlt h.1)))
    go_quiet (fail)
    go_wp2_with fail
    go_ret
    exact ⟨(hKW.mono (Nat.le_refl _) (by simp)).drewN _, Or.inr ⟨by rw [HB.out]; exact hst, by rw [HB.out]; exact hQW.drewN _, Or.inr ⟨by rw [HB.out], rfl⟩⟩⟩
end
end Go.Proofs.YtpinoolagbghnaaDoor
