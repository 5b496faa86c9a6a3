/-
  Walk: the program's matcher: balance: what stands between two bytes that answer each other.
-/
import Derived.Test.YtpinoolagbghnaaZQM
namespace Go.Proofs.Ytpinoolagbghnaa
set_option linter.unusedVariables false
open Go.RowKit Pat

namespace Pat
theorem bal_pos {s : ByteArray} {x y n : Int} {g j : Nat} (h : j < s.size) : 1 ≤ (bal s x y (g + 1) j n).1 := by
  by_cases hy : bt s j = y
  · by_cases hn : n = 1
    · rw [bal_close h hy hn]; exact Nat.le_refl _
    · rw [bal_down h hy hn]; simp
  · by_cases hx : bt s j = x
    · rw [bal_up h hy hx]; simp
    · rw [bal_skip h hy hx]; simp
/-- How many bytes are looked at for a pair at a place, and where it ends. -/
def pairB (s : ByteArray) (it : It) (i : Nat) : Nat × Option Nat := if i < s.size ∧ bt s i = it.x then bal s it.x it.y (s.size - i) (i + 1) 1 else (0, none)
end Pat

/-- What balance leaves. -/
def BalPost (lo m pc : Nat) (s : ByteArray) (vi : Value) (P : Pt) (gs : List Nat) (cb st : Nat) (c : Cap) (B : Nat × Option Nat) (w : World) (e : Ending) (w' : World) : Prop :=
  Keeps w.heap.size [m, cb] w w' ∧ ((50000 < st + B.1 ∧ e = .panicked [{ v := manyPanic, recovered := false }]) ∨
    (st + B.1 ≤ 50000 ∧ QS lo w' m pc s vi P gs cb (st + B.1) c ∧ ((∃ j : Nat, B.2 = some j ∧ j ≤ s.size ∧ e = .returned (.int .i64 j)) ∨ (B.2 = none ∧ e = .returned (.int .i64 (-1))))))

section
variable {lo m pc cb st i : Nat} {s : ByteArray} {vi : Value} {P : Pt} {gs : List Nat} {it : It} {c : Cap} {w : World}

set_option maxRecDepth 100000 in
set_option maxHeartbeats 2000000 in
theorem balance_any (hs : s.size ≤ 65536) (hi : i ≤ s.size) (hst : st ≤ 50000) (hQ : QS lo w m pc s vi P gs cb st c) (kv : Int) (pv : Option Addr) :
    Calls Try.prog 37 #[.pointer (some ⟨m, 0, none⟩), .agg #[.int .u8 kv, .pointer pv, .int .u8 it.sign, .int .i64 it.n, .int .u8 it.x, .int .u8 it.y], .int .i64 i] w
      fun e w' => BalPost lo m pc s vi P gs cb st c (pairB s it i) w e w' := by
  obtain ⟨W, hW⟩ : ∃ W, W = w.alloc (.cells #[.int .u8 kv, .pointer pv, .int .u8 it.sign, .int .i64 it.n, .int .u8 it.x, .int .u8 it.y] 63) := ⟨_, rfl⟩
  have hWb : W.heap[w.heap.size]? = some (.cells #[.int .u8 kv, .pointer pv, .int .u8 it.sign, .int .i64 it.n, .int .u8 it.x, .int .u8 it.y] 63 (0, 0)) := by rw [hW]; exact blk_new _ _
  have hKW : Keeps w.heap.size [] w W := by rw [hW]; exact (Keeps.refl _ _ _).alloc (Nat.le_refl _) _
  have hQW := hQ.keeps hKW
  obtain ⟨B, hB⟩ : ∃ B, B = pairB s it i := ⟨_, rfl⟩
  rw [← hB]
  have HB0 := hid hB
  clear hB
  go_enter Try.func37, Try.ntmps37
  go_upto_region 1 with fail
  rw [← hW]
  have b4 := blk_cell hWb 4
  have b5 := blk_cell hWb 5
  have hlW := blk_lt hWb
  obtain ⟨c0, c1, c2, c3, f2⟩ := hQW.cells
  clear hW
  by_cases hlt : i < s.size
  · have h1 : decide (s.size ≤ i) = false := decide_eq_false (by omega)
    have h3 : (0 : Int) ≤ i ∧ (i : Int) < s.size := ⟨by omega, by omega⟩
    by_cases hx : bt s i = it.x
    · have HX := hid hx
      rw [bt_of_lt hlt] at hx
      have hx' : ((s[i].toNat : Int) != it.x) = false := by simp [hx]
      clear hx
      go_quiet (fail)
      go_wp2_with fail
      have HB : Hid (B = bal s it.x it.y (s.size - i) (i + 1) 1) := hid (HB0.out.trans (if_pos ⟨hlt, HX.out⟩))
      clear HB0
      go_loopg [7, 8] (s.size - i) (fun gk v9 v10 wr => ∃ (n : Int) (j u st' : Nat), v9 = .int .i64 n ∧ v10 = .int .i64 j ∧ 1 ≤ n ∧ n ≤ u + 1 ∧ j + gk = s.size + 1 ∧ i + 1 + u = j ∧ st + u ≤ st' ∧ st' ≤ st + u ∧ st' ≤ 50000 ∧ QS lo wr m pc s vi P gs cb st' c ∧ Keeps w.heap.size [m, cb] w wr ∧
        wr.heap[w.heap.size]? = some (.cells #[.int .u8 kv, .pointer pv, .int .u8 it.sign, .int .i64 it.n, .int .u8 it.x, .int .u8 it.y] 63 (0, 0)) ∧ Hid (B = ((bal s it.x it.y gk j n).1 + u, (bal s it.x it.y gk j n).2)))
      case atStart => exact ⟨1, i + 1, 0, st, rfl, by go_num, by omega, by omega, by omega, by omega, by omega, by omega, hst, hQW.drewN _, (hKW.mono (Nat.le_refl _) (by simp)).drewN _, hWb, hid (by simpa using HB.out)⟩
      case round =>
        obtain ⟨n, j, u, st', rfl, rfl, hn1, hnu, hgk, hju, hsa, hsb, hs5, hQr, hkk, hblk, HG⟩ := hrel
        obtain ⟨c0', c1', c2', c3', f2'⟩ := hQr.cells
        have b4' := blk_cell hblk 4
        have b5' := blk_cell hblk 5
        have hlb := blk_lt hblk
        by_cases hjl : j < s.size
        · obtain ⟨gk', rfl⟩ : ∃ x, gk = x + 1 := ⟨gk - 1, by omega⟩
          have hd : decide (j < s.size) = true := decide_eq_true hjl
          have h3' : (0 : Int) ≤ j ∧ (j : Int) < s.size := ⟨by omega, by omega⟩
          have hoff := hQr.off hblk (by decide) (by decide)
          have hne : ¬ w.heap.size = m := by simp at hoff; exact hoff.1
          by_cases hs4 : st' < 50000
          · have hQ1 := hQr.setSt (v := (st' : Int) + 1) (st' := st' + 1) (by omega)
            have hK1 := keeps_set wr ⟨m, 2, none⟩ (.int .i64 ((st' : Int) + 1))
            have hblk1 := hK1.blk hblk hlb (by simp [hne])
            have hkk1 := hkk.setCell (p := ⟨m, 2, none⟩) (Or.inl (by simp)) (.int .i64 ((st' : Int) + 1))
            by_cases hy : bt s j = it.y
            · have hy' : ((s[j].toNat : Int) == it.y) = true := by rw [← bt_of_lt hjl]; simpa using hy
              have HY := hid hy
              clear hy
              by_cases hn : n = 1
              · subst hn
                have HB2 : Hid (B = (u + 1, some (j + 1))) := hid (by rw [HG.out, bal_close hjl HY.out rfl, Nat.add_comm])
                clear HG
                go_wp2_with fail
                refine (step_ok _ c2' f2' hs4).mono ?_
                rintro e w' ⟨rfl, rfl⟩
                go_upto_region 8 with fail
                go_quiet (fail)
                go_wp2_with fail
                go_ret
                refine ⟨hkk1.drewN _, Or.inr ⟨by rw [HB2.out]; dsimp only; omega, ?_, Or.inl ⟨j + 1, by rw [HB2.out], by omega, ret_i (by omega)⟩⟩⟩
                rw [HB2.out]
                obtain rfl : st' = st + u := by omega
                exact hQ1.drewN _
              · have HB2 : Hid (B = ((bal s it.x it.y gk' (j + 1) (n - 1)).1 + (u + 1), (bal s it.x it.y gk' (j + 1) (n - 1)).2)) := hid (by rw [HG.out, bal_down hjl HY.out hn]; simp only [Nat.add_assoc, Nat.add_comm])
                have hn0 : ¬ n - 1 = 0 := by omega
                have hn0' : ((n - 1) == 0) = false := by simpa using hn0
                clear HG
                go_wp2_with fail
                refine (step_ok _ c2' f2' hs4).mono ?_
                rintro e w' ⟨rfl, rfl⟩
                go_upto_region 8 with fail
                go_quiet (fail)
                go_wp2_with fail
                go_roundg gk'
                case measure => omega
                case rel => exact ⟨n - 1, j + 1, u + 1, st' + 1, rfl, by go_num, by omega, by omega, by omega, by omega, by omega, by omega, by omega, hQ1.drewN _, hkk1.drewN _, hblk1, HB2⟩
            · have hy' : ((s[j].toNat : Int) == it.y) = false := by rw [← bt_of_lt hjl]; simpa using hy
              have HY := hid hy
              clear hy
              by_cases hxx : bt s j = it.x
              · have hx2 : ((s[j].toNat : Int) == it.x) = true := by rw [← bt_of_lt hjl]; simpa using hxx
                have HB2 : Hid (B = ((bal s it.x it.y gk' (j + 1) (n + 1)).1 + (u + 1), (bal s it.x it.y gk' (j + 1) (n + 1)).2)) := hid (by rw [HG.out, bal_up hjl HY.out hxx]; simp only [Nat.add_assoc, Nat.add_comm])
                clear HG hxx
                go_wp2_with fail
                refine (step_ok _ c2' f2' hs4).mono ?_
                rintro e w' ⟨rfl, rfl⟩
                go_upto_region 8 with fail
                go_quiet (fail)
                go_upto_region 12 with fail
                go_quiet (fail)
                go_wp2_with fail
                go_roundg gk'
                case measure => omega
                case rel => exact ⟨n + 1, j + 1, u + 1, st' + 1, rfl, by go_num, by omega, by omega, by omega, by omega, by omega, by omega, by omega, hQ1.drewN _, hkk1.drewN _, hblk1, HB2⟩
              · have hx2 : ((s[j].toNat : Int) == it.x) = false := by rw [← bt_of_lt hjl]; simpa using hxx
                have HB2 : Hid (B = ((bal s it.x it.y gk' (j + 1) n).1 + (u + 1), (bal s it.x it.y gk' (j + 1) n).2)) := hid (by rw [HG.out, bal_skip hjl HY.out hxx]; simp only [Nat.add_assoc, Nat.add_comm])
                clear HG hxx
                go_wp2_with fail
                refine (step_ok _ c2' f2' hs4).mono ?_
                rintro e w' ⟨rfl, rfl⟩
                go_upto_region 8 with fail
                go_quiet (fail)
                go_upto_region 12 with fail
                go_quiet (fail)
                go_wp2_with fail
                go_roundg gk'
                case measure => omega
                case rel => exact ⟨n, j + 1, u + 1, st' + 1, rfl, by go_num, by omega, by omega, by omega, by omega, by omega, by omega, by omega, hQ1.drewN _, hkk1.drewN _, hblk1, HB2⟩
          · obtain rfl : st' = 50000 := by omega
            have hbp : 50000 < st + B.1 := by
              have := bal_pos (s := s) (x := it.x) (y := it.y) (n := n) (g := gk') hjl
              rw [HG.out]; dsimp only; omega
            clear HG
            go_wp2_with fail
            refine (step_over _ c2').mono ?_
            rintro e w' ⟨rfl, rfl⟩
            go_wp2_with fail
            exact ⟨rfl, hkk, Or.inl ⟨hbp, rfl⟩⟩
        · have hd : decide (j < s.size) = false := decide_eq_false hjl
          have hjge : s.size ≤ j := by omega
          have HB2 : Hid (B = (u, none)) := hid (by rw [HG.out, bal_end hjge]; simp)
          clear HG
          go_wp2_with fail
          go_ret
          refine ⟨hkk, Or.inr ⟨by rw [HB2.out]; dsimp only; omega, ?_, Or.inr ⟨by rw [HB2.out], rfl⟩⟩⟩
          rw [HB2.out]
          obtain rfl : st' = st + u := by omega
          exact hQr
    · have hx' : ((s[i].toNat : Int) != it.x) = true := by rw [← bt_of_lt hlt]; simpa using hx
      have HB : Hid (B = (0, none)) := hid (HB0.out.trans (if_neg (fun h => hx h.2)))
      clear hx
      go_quiet (fail)
      go_wp2_with fail
      go_ret
      exact ⟨(hKW.mono (Nat.le_refl _) (by simp)).drewN _, Or.inr ⟨by rw [HB.out]; exact hst, by rw [HB.out]; exact hQW.drewN _, Or.inr ⟨by rw [HB.out], rfl⟩⟩⟩
  · have h1 : decide (s.size ≤ i) = true := decide_eq_true (by omega)
    have HB : Hid (B = (0, none)) := hid (HB0.out.trans (if_neg (fun h => hlt h.1)))
    go_quiet (fail)
    go_wp2_with fail
    go_ret
    exact ⟨(hKW.mono (Nat.le_refl _) (by simp)).drewN _, Or.inr ⟨by rw [HB.out]; exact hst, by rw [HB.out]; exact hQW.drewN _, Or.inr ⟨by rw [HB.out], rfl⟩⟩⟩
end
end Go.Proofs.Ytpinoolagbghnaa
