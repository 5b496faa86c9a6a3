/-
  Walk: the reference's matcher: pair: what stands between two bytes that answer each other.
-/
import Derived.Test.YtpinoolagbghnaaDoorZTryS
namespace Go.Proofs.YtpinoolagbghnaaDoor
set_option linter.unusedVariables false
open Go.RowKit Pat

namespace Pat
section
variable {s : ByteArray} {x y n : Int} {g j : Nat}
theorem bal_end (h : s.size ≤ j) : bal s x y g j n = (0, none) := by
  cases g with
  | zero => rfl
  | succ g => unfold bal; rw [if_pos h]
theorem bal_close (h : j < s.size) (hy : bt s j = y) (hn : n = 1) : bal s x y (g + 1) j n = (1, some (j + 1)) := by unfold bal; rw [if_neg (by omega), if_pos hy, if_pos hn]
theorem bal_down (h : j < s.size) (hy : bt s j = y) (hn : n ≠ 1) : bal s x y (g + 1) j n = ((bal s x y g (j + 1) (n - 1)).1 + 1, (bal s x y g (j + 1) (n - 1)).2) := by
  conv => lhs; unfold bal
  rw [if_neg (by omega), if_pos hy, if_neg hn]
theorem bal_up (h : j < s.size) (hy : bt s j ≠ y) (hx : bt s j = x) : bal s x y (g + 1) j n = ((bal s x y g (j + 1) (n + 1)).1 + 1, (bal s x y g (j + 1) (n + 1)).2) := by
  conv => lhs; unfold bal
  rw [if_neg (by omega), if_neg hy, if_pos hx]
theorem bal_skip (h : j < s.size) (hy : bt s j ≠ y) (hx : bt s j ≠ x) : bal s x y (g + 1) j n = ((bal s x y g (j + 1) n).1 + 1, (bal s x y g (j + 1) n).2) := by
  conv => lhs; unfold bal
  rw [if_neg (by omega), if_neg hy, if_neg hx]
theorem pair_no {fl : Bool} {pl : Nat → Bool} {it : It} {K : Nat → Nat → Cap → Ans} {i st : Nat} {c : Cap} (k5 : it.kind = 5) (h : ¬ (i < s.size ∧ bt s i = it.x)) : stepIt s fl pl it K i st c = some (st, none) := by
  unfold stepIt; rw [k5]; simp only []; rw [if_neg h]
theorem pair_some {fl : Bool} {pl : Nat → Bool} {it : It} {K : Nat → Nat → Cap → Ans} {i st u j : Nat} {c : Cap} (k5 : it.kind = 5) (h : i < s.size ∧ bt s i = it.x) (hb : bal s it.x it.y (s.size - i) (i + 1) 1 = (u, some j)) :
    stepIt s fl pl it K i st c = if 50000 < st + u then none else K j (st + u) c := by
  unfold stepIt; rw [k5]; simp only []; rw [if_pos h, hb]; rfl
theorem pair_none {fl : Bool} {pl : Nat → Bool} {it : It} {K : Nat → Nat → Cap → Ans} {i st u : Nat} {c : Cap} (k5 : it.kind = 5) (h : i < s.size ∧ bt s i = it.x) (hb : bal s it.x it.y (s.size - i) (i + 1) 1 = (u, none)) :
    stepIt s fl pl it K i st c = if 50000 < st + u then none else some (st + u, none) := by
  unfold stepIt; rw [k5]; simp only []; rw [if_pos h, hb]; rfl
end
end Pat

/-- What pair is called under. -/
structure UnderQ (lo D : Nat) (m : Nat) (s : ByteArray) (vi : Value) (pg : Nat) (P : Pt) (gs : List Nat) (fg tg k : Nat) (K : Nat → Nat → Cap → Ans) (good : Nat → Cap → Prop) (it : It) (i st : Nat) (c : Cap) (w : World) : Prop where
  H : Goes lo D m s vi pg P gs fg tg (k + 1) K good
  hs : s.size ≤ 65536
  hk : k ≤ 1000
  hD : 120000 ≤ D
  hD2 : D ≤ 130000
  mono : ∀ i j c, good i c → i ≤ j → j ≤ s.size → good j c
  k5 : it.kind = 5
  hi : i ≤ s.size
  hst : st ≤ 50000
  hg : good i c
  T : TS lo w m s vi pg P gs fg tg st c

section
variable {lo D m pg fg tg k i st : Nat} {s : ByteArray} {vi vs : Value} {P : Pt} {gs : List Nat} {K : Nat → Nat → Cap → Ans} {good : Nat → Cap → Prop} {it : It} {c : Cap} {w : World}

set_option maxRecDepth 100000 in
set_option maxHeartbeats 2000000 in
theorem pair_call (U : UnderQ lo D m s vi pg P gs fg tg k K good it i st c w) (pl : Nat → Bool) (hvs : vs = .slice none 0 0) :
    Calls Tryd.prog 46 #[.pointer (some ⟨m, 0, none⟩), .agg #[.int .i64 it.kind, vs, .int .u8 it.sign, .int .i64 it.n, .int .u8 it.x, .int .u8 it.y], .int .i64 k, .int .i64 i] w
      fun e w' => TryPost lo (D + 1) m s vi pg P gs fg tg (stepIt s false pl it K i st c) c w e w' := by
  subst hvs
  obtain ⟨W, hW⟩ : ∃ W, W = w.alloc (.cells #[.int .i64 it.kind, .slice none 0 0, .int .u8 it.sign, .int .i64 it.n, .int .u8 it.x, .int .u8 it.y] 94) := ⟨_, rfl⟩
  have hWb : W.heap[w.heap.size]? = some (.cells #[.int .i64 it.kind, .slice none 0 0, .int .u8 it.sign, .int .i64 it.n, .int .u8 it.x, .int .u8 it.y] 94 (0, 0)) := by rw [hW]; exact blk_new _ _
  have hKW : Keeps w.heap.size [] w W := by rw [hW]; exact (Keeps.refl _ _ _).alloc (Nat.le_refl _) _
  have hTW := U.T.keeps hKW
  obtain ⟨A, hA⟩ : ∃ A, A = stepIt s false pl it K i st c := ⟨_, rfl⟩
  rw [← hA]
  have HA := hid hA
  clear hA
  have hi := U.hi
  have hs := U.hs
  have hk := U.hk
  have hD := U.hD
  have hD2 := U.hD2
  have hst := U.hst
  go_enter Tryd.func46, Tryd.ntmps46
  go_upto_region 1 with fail
  rw [← hW]
  have b0 := blk_cell hWb 0
  have b4 := blk_cell hWb 4
  have b5 := blk_cell hWb 5
  have hlW := blk_lt hWb
  obtain ⟨c0, c1, c2, c3, c4, c5, c6, f6⟩ := hTW.blk.cells
  clear hW
  by_cases hlt : i < s.size
  · have h1 : decide (s.size ≤ i) = false := decide_eq_false (by omega)
    have h3 : (0 : Int) ≤ i ∧ (i : Int) < s.size := ⟨by omega, by omega⟩
    by_cases hx : bt s i = it.x
    · have HX := hid hx
      rw [bt_of_lt hlt] at hx
      have hx' : ((s[i].toNat : Int) != it.x) = false := by simp [hx]
      clear hx
      go_quiet (fail)
      go_wp2_with fail
      obtain ⟨B, hB⟩ : ∃ B, bal s it.x it.y (s.size - i) (i + 1) 1 = B := ⟨_, rfl⟩
      have HB := hid hB
      clear hB
      go_loopg [9, 10] (s.size - i) (fun gk v9 v10 wr => ∃ (n : Int) (j u st' : Nat), v9 = .int .i64 n ∧ v10 = .int .i64 j ∧ 1 ≤ n ∧ n ≤ u + 1 ∧ j + gk = s.size + 1 ∧ i + 1 + u = j ∧ st' = st + u ∧ TS lo wr m s vi pg P gs fg tg st' c ∧ Keeps w.heap.size [m, fg, tg] w wr ∧
        wr.heap[w.heap.size]? = some (.cells #[.int .i64 it.kind, .slice none 0 0, .int .u8 it.sign, .int .i64 it.n, .int .u8 it.x, .int .u8 it.y] 94 (0, 0)) ∧ Hid (B = ((bal s it.x it.y gk j n).1 + u, (bal s it.x it.y gk j n).2)))
      case atStart => exact ⟨1, i + 1, 0, st, rfl, by go_num, by omega, by omega, by omega, by omega, by omega, hTW.keeps (keeps_drewN _ _), (hKW.mono (Nat.le_refl _) (by simp)).drewN _, hWb, hid HB.out.symm⟩
      case round =>
        obtain ⟨n, j, u, st', rfl, rfl, hn1, hnu, hgk, hju, hst', hT, hkk, hblk, HG⟩ := hrel
        obtain ⟨c0', c1', c2', c3', c4', c5', c6', f6'⟩ := hT.blk.cells
        have b4' := blk_cell hblk 4
        have b5' := blk_cell hblk 5
        have hlb := blk_lt hblk
        have hs1 : st' ≤ 120000 := by omega
        have hs2 : st + u ≤ st' := by omega
        have hs3 : st' ≤ st + u := by omega
        clear hst'
        by_cases hjl : j < s.size
        · obtain ⟨gk', rfl⟩ : ∃ x, gk = x + 1 := ⟨gk - 1, by omega⟩
          have hd : decide (j < s.size) = true := decide_eq_true hjl
          have h3' : (0 : Int) ≤ j ∧ (j : Int) < s.size := ⟨by omega, by omega⟩
          have hoff := hT.off hblk (by decide) (by decide)
          have hne : ¬ w.heap.size = m := by simp at hoff; exact hoff.1
          have hT1 := hT.setSt (v := (st' : Int) + 1) (st' := st' + 1) (by omega)
          have hK1 := keeps_set wr ⟨m, 6, none⟩ (.int .i64 ((st' : Int) + 1))
          have hblk1 := hK1.blk hblk hlb (by simp [hne])
          have hkk1 := hkk.setCell (p := ⟨m, 6, none⟩) (Or.inl (by simp)) (.int .i64 ((st' : Int) + 1))
          by_cases hy : bt s j = it.y
          · have hy' : ((s[j].toNat : Int) == it.y) = true := by rw [← bt_of_lt hjl]; simpa using hy
            have HY := hid hy
            clear hy
            by_cases hn : n = 1
            · subst hn
              have HB2 : Hid (B = (u + 1, some (j + 1))) := hid (by rw [HG.out, bal_close hjl HY.out rfl, Nat.add_comm])
              clear HG
              go_upto_region 8 with fail
              go_quiet (fail)
              go_wp2_with fail
              have hA2 := HA.out.trans (pair_some U.k5 ⟨hlt, HX.out⟩ (HB.out.trans HB2.out))
              by_cases ho : 50000 < st' + 1
              · have HN : Hid (A = none) := hid (hA2.trans (if_pos (by omega)))
                clear hA2
                refine (spent_yes m (st' + 1) _ (by go_simp) ho).mono ?_
                rintro e w' ⟨rfl, rfl⟩
                go_wp2_with fail
                go_ret
                exact TryPost.spent HN.out (hT1.keeps (keeps_drewN _ _)) (hkk1.drewN _) (by omega) (by omega)
              · have HN : Hid (K (j + 1) (st' + 1) c = A) := hid (by rw [hA2, if_neg (by omega)]; congr 1; omega)
                clear hA2
                refine (spent_no m (st' + 1) _ (by go_simp) (by omega)).mono ?_
                rintro e w' ⟨rfl, rfl⟩
                go_wp2_with fail
                refine (U.H.at (i := j + 1) (st := st' + 1) (c := c) (by omega) (by omega) (by omega) (by omega) (U.mono i (j + 1) c U.hg (by omega) (by omega)) (hT1.keeps (keeps_drewN _ _)) HN.out).mono ?_
                rintro e w2 hpost
                obtain ⟨v, rfl⟩ : ∃ v, e = .returned (.int .i64 v) := hpost.form
                go_wp2_with fail
                go_ret
                exact hpost.up.from_ (hkk1.drewN _)
            · have HB2 : Hid (B = ((bal s it.x it.y gk' (j + 1) (n - 1)).1 + (u + 1), (bal s it.x it.y gk' (j + 1) (n - 1)).2)) := hid (by rw [HG.out, bal_down hjl HY.out hn]; simp only [Nat.add_assoc, Nat.add_comm])
              have hn0 : ¬ n - 1 = 0 := by omega
              have hn0' : ((n - 1) == 0) = false := by simpa using hn0
              clear HG
              go_upto_region 8 with fail
              go_quiet (fail)
              go_wp2_with fail
              go_roundg gk'
              case measure => omega
              case rel => exact ⟨n - 1, j + 1, u + 1, st' + 1, rfl, by go_num, by omega, by omega, by omega, by omega, by omega, hT1.keeps (keeps_drewN _ _), hkk1.drewN _, hblk1, HB2⟩
          · have hy' : ((s[j].toNat : Int) == it.y) = false := by rw [← bt_of_lt hjl]; simpa using hy
            have HY := hid hy
            clear hy
            by_cases hxx : bt s j = it.x
            · have hx2 : ((s[j].toNat : Int) == it.x) = true := by rw [← bt_of_lt hjl]; simpa using hxx
              have HB2 : Hid (B = ((bal s it.x it.y gk' (j + 1) (n + 1)).1 + (u + 1), (bal s it.x it.y gk' (j + 1) (n + 1)).2)) := hid (by rw [HG.out, bal_up hjl HY.out hxx]; simp only [Nat.add_assoc, Nat.add_comm])
              clear HG hxx
              go_upto_region 8 with fail
              go_quiet (fail)
              go_upto_region 14 with fail
              go_quiet (fail)
              go_wp2_with fail
              go_roundg gk'
              case measure => omega
              case rel => exact ⟨n + 1, j + 1, u + 1, st' + 1, rfl, by go_num, by omega, by omega, by omega, by omega, by omega, hT1.keeps (keeps_drewN _ _), hkk1.drewN _, hblk1, HB2⟩
            · have hx2 : ((s[j].toNat : Int) == it.x) = false := by rw [← bt_of_lt hjl]; simpa using hxx
              have HB2 : Hid (B = ((bal s it.x it.y gk' (j + 1) n).1 + (u + 1), (bal s it.x it.y gk' (j + 1) n).2)) := hid (by rw [HG.out, bal_skip hjl HY.out hxx]; simp only [Nat.add_assoc, Nat.add_comm])
              clear HG hxx
              go_upto_region 8 with fail
              go_quiet (fail)
              go_upto_region 14 with fail
              go_quiet (fail)
              go_wp2_with fail
              go_roundg gk'
              case measure => omega
              case rel => exact ⟨n, j + 1, u + 1, st' + 1, rfl, by go_num, by omega, by omega, by omega, by omega, by omega, hT1.keeps (keeps_drewN _ _), hkk1.drewN _, hblk1, HB2⟩
        · have hd : decide (j < s.size) = false := decide_eq_false hjl
          have hjge : s.size ≤ j := by omega
          have HB2 : Hid (B = (u, none)) := hid (by rw [HG.out, bal_end hjge]; simp)
          clear HG
          go_wp2_with fail
          go_ret
          have hA2 := HA.out.trans (pair_none U.k5 ⟨hlt, HX.out⟩ (HB.out.trans HB2.out))
          by_cases ho : 50000 < st + u
          · exact TryPost.spent (hA2.trans (if_pos ho)) hT hkk (by omega) (by omega)
          · obtain rfl : st' = st + u := by omega
            exact TryPost.fail (hA2.trans (if_neg ho)) hT hkk (by omega)
    · have hx' : ((s[i].toNat : Int) != it.x) = true := by rw [← bt_of_lt hlt]; simpa using hx
      have HX := hid hx
      clear hx
      go_quiet (fail)
      go_wp2_with fail
      go_ret
      exact TryPost.fail (HA.out.trans (pair_no U.k5 (fun h => HX.out h.2))) (hTW.keeps (keeps_drewN _ _)) ((hKW.mono (Nat.le_refl _) (by simp)).drewN _) hst
  · have h1 : decide (s.size ≤ i) = true := decide_eq_true (by omega)
    go_quiet (fail)
    go_wp2_with fail
    go_ret
    exact TryPost.fail (HA.out.trans (pair_no U.k5 (fun h => hlt h.1))) (hTW.keeps (keeps_drewN _ _)) ((hKW.mono (Nat.le_refl _) (by simp)).drewN _) hst
end
end Go.Proofs.YtpinoolagbghnaaDoor
