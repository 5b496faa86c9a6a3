/-
  Walk: the reference's matcher: single: a byte of a set with its sign.
-/
import Derived.Test.YtpinoolagbghnaaDoorZTryM
import Derived.Deep.CutBlock
namespace Go.Proofs.YtpinoolagbghnaaDoor
set_option linter.unusedVariables false
open Go.RowKit Pat

namespace Pat
section
variable {s : ByteArray} {f : Nat → Bool} {k : Nat → Nat → Cap → Ans} {c : Cap} {i n st st' g : Nat} {r : Nat × Cap}
theorem up_none (h : k i st c = none) : up s f k c (g + 1) i st = none := by unfold up; rw [h]
theorem up_hit (h : k i st c = some (st', some r)) : up s f k c (g + 1) i st = some (st', some r) := by unfold up; rw [h]
theorem up_stop (h : k i st c = some (st', none)) (hh : has s f i = false) : up s f k c (g + 1) i st = some (st', none) := by unfold up; rw [h]; simp [hh]
theorem up_over (h : k i st c = some (st', none)) (hh : has s f i = true) (hm : 50000 < st' + 1) : up s f k c (g + 1) i st = none := by unfold up; rw [h]; simp only [hh, if_true]; rw [if_pos (by unfold MaxM; omega)]
theorem up_go (h : k i st c = some (st', none)) (hh : has s f i = true) (hm : st' + 1 ≤ 50000) : up s f k c (g + 1) i st = up s f k c g (i + 1) (st' + 1) := by
  conv => lhs; unfold up
  rw [h]; simp only [hh, if_true]; rw [if_neg (by unfold MaxM; omega)]
theorem down_none (h : k (i + n) st c = none) : down k i c (g + 1) n st = none := by unfold down; rw [h]
theorem down_hit (h : k (i + n) st c = some (st', some r)) : down k i c (g + 1) n st = some (st', some r) := by unfold down; rw [h]
theorem down_go (h : k (i + n) st c = some (st', none)) : down k i c (g + 1) n st = down k i c g (n - 1) st' := by
  conv => lhs; unfold down
  rw [h]
theorem has_lt (h : has s f i = true) : i < s.size := by unfold has at h; simp at h; exact h.1
theorem run_stop (h : has s f i = false) : runLen s f g i = 0 := by
  cases g with
  | zero => rfl
  | succ g => unfold runLen; rw [h]; rfl
theorem run_step (h : has s f i = true) : runLen s f (s.size - i) i = runLen s f (s.size - (i + 1)) (i + 1) + 1 := by
  have hl := has_lt h
  obtain ⟨m, hm⟩ : ∃ m, s.size - i = m + 1 := ⟨s.size - i - 1, by omega⟩
  have : s.size - (i + 1) = m := by omega
  rw [hm, this]
  conv => lhs; unfold runLen
  rw [h]; rfl
theorem run_le : ∀ (g i : Nat), runLen s f g i ≤ g := by
  intro g
  induction g with
  | zero => intro i; exact Nat.le_refl _
  | succ g ih => intro i; unfold runLen; have := ih (i + 1); split <;> omega
end
end Pat

/-- What single is called under. -/
structure Under (lo D : Nat) (m : Nat) (s : ByteArray) (vi : Value) (pg : Nat) (P : Pt) (gs : List Nat) (fg tg k : Nat) (K : Nat → Nat → Cap → Ans) (good : Nat → Cap → Prop) (it : It) (g i st : Nat) (c : Cap) (w : World) : Prop where
  H : Goes lo D m s vi pg P gs fg tg (k + 1) K good
  hs : s.size ≤ 65536
  hk : k ≤ 1000
  hD : 120000 ≤ D
  hD2 : D ≤ 130000
  mono : ∀ i j c, good i c → i ≤ j → j ≤ s.size → good j c
  k0 : it.kind = 0
  hi : i ≤ s.size
  hst : st ≤ 50000
  hg : good i c
  T : TS lo w m s vi pg P gs fg tg st c
  set : BoolRow w g 4 256 it.set

section
variable {lo D m pg fg tg k g i st : Nat} {s : ByteArray} {vi : Value} {P : Pt} {gs : List Nat} {K : Nat → Nat → Cap → Ans} {good : Nat → Cap → Prop} {it : It} {c : Cap} {w : World}

theorem TS.off (h : TS lo w m s vi pg P gs fg tg st c) {b t : Nat} {z : Nat × Nat} {c0 : Array Value} (hb : w.heap[b]? = some (.cells c0 t z)) (h1 : t ≠ 39) (h2 : t ≠ 3) : b ∉ [m, fg, tg] := by
  have hm := h.blk
  unfold MBlk at hm
  have e1 : b ≠ m := by
    intro e; subst e; rw [hm] at hb; simp only [Option.some.injEq, Obj.cells.injEq] at hb; exact h1 hb.2.1.symm
  have e2 : b ≠ fg := fun e => row_ne h.fr (e ▸ hb) (Ne.symm h2) rfl
  have e3 : b ≠ tg := fun e => row_ne h.tor (e ▸ hb) (Ne.symm h2) rfl
  simp [e1, e2, e3]
theorem TS.offRow (h : TS lo w m s vi pg P gs fg tg st c) {b t n : Nat} {f : Nat → Value} (hb : w.rowIs b t n f) (h1 : t ≠ 39) (h2 : t ≠ 3) : b ∉ [m, fg, tg] := by
  obtain ⟨c0, hc⟩ := row_blk hb
  exact h.off hc h1 h2
theorem Keeps.then3 {S : List Nat} {a b d : World} (h : Keeps a.heap.size S a b) (k : Keeps b.heap.size S b d) : Keeps a.heap.size S a d := h.andThen k h.size (fun _ h _ => h)

set_option maxRecDepth 100000 in
set_option maxHeartbeats 2000000 in
theorem single0 (U : Under lo D m s vi pg P gs fg tg k K good it g i st c w) (pl : Nat → Bool) (hsg : it.sign = 0) :
    Calls Tryd.prog 45 #[.pointer (some ⟨m, 0, none⟩), .agg #[.int .i64 it.kind, .slice (some ⟨g, 0, none⟩) 256 256, .int .u8 it.sign, .int .i64 it.n, .int .u8 it.x, .int .u8 it.y], .int .i64 k, .int .i64 i] w
      fun e w' => TryPost lo (D + 1) m s vi pg P gs fg tg (stepIt s false pl it K i st c) c w e w' := by
  obtain ⟨W, hW⟩ : ∃ W, W = w.alloc (.cells #[.int .i64 it.kind, .slice (some ⟨g, 0, none⟩) 256 256, .int .u8 it.sign, .int .i64 it.n, .int .u8 it.x, .int .u8 it.y] 94) := ⟨_, rfl⟩
  have hWb : W.heap[w.heap.size]? = some (.cells #[.int .i64 it.kind, .slice (some ⟨g, 0, none⟩) 256 256, .int .u8 it.sign, .int .i64 it.n, .int .u8 it.x, .int .u8 it.y] 94 (0, 0)) := by rw [hW]; exact blk_new _ _
  have hKW : Keeps w.heap.size [] w W := by rw [hW]; exact (Keeps.refl _ _ _).alloc (Nat.le_refl _) _
  have hTW := U.T.keeps hKW
  have hsetW := hKW.row U.set U.set.lt (by simp)
  have hA : stepIt s false pl it K i st c = if has s it.set i then K (i + 1) st c else some (st, none) := by
    unfold stepIt; rw [U.k0]; simp only []; rw [if_pos hsg]
  have HA := hid hA
  clear hA
  have HS := hid hsg
  clear hsg
  have hi := U.hi
  have hs := U.hs
  have hk := U.hk
  go_enter Tryd.func45, Tryd.ntmps45
  go_upto_region 1 with fail
  rw [← hW]
  have b0 := blk_cell hWb 0
  have b1 := blk_cell hWb 1
  have b2 := blk_cell hWb 2
  rw [HS.out] at b2
  obtain ⟨c0, c1, c2, c3, c4, c5, c6, f6⟩ := hTW.blk.cells
  clear hW
  go_wp2_with fail
  refine (has_any m i g s it.set _ U.hs (by omega) (by go_simp) hsetW).mono ?_
  rintro e w' ⟨rfl, rfl⟩
  obtain ⟨hb, hhb⟩ : ∃ hb, hb = has s it.set i := ⟨_, rfl⟩
  rw [← hhb]
  have HB := hid hhb
  clear hhb
  cases hb
  · go_wp2_with fail
    go_ret
    exact TryPost.fail (by rw [HA.out, ← HB.out]; rfl) hTW (hKW.mono (Nat.le_refl _) (by simp)) U.hst
  · have hlt := has_lt HB.out.symm
    go_wp2_with fail
    refine (U.H (i + 1) st c _ hlt U.hst (U.mono i (i + 1) c U.hg (by omega) hlt) hTW).mono ?_
    rintro e w' h
    obtain ⟨v, rfl⟩ : ∃ v, e = .returned (.int .i64 v) := h.form
    go_wp2_with fail
    go_ret
    exact ((h.up).from_ (hKW.mono (Nat.le_refl _) (by simp))).ans (by rw [HA.out, ← HB.out]; rfl)
set_option maxRecDepth 100000 in
set_option maxHeartbeats 2000000 in
theorem singleMinus (U : Under lo D m s vi pg P gs fg tg k K good it g i st c w) (pl : Nat → Bool) (hsg : it.sign = 45) :
    Calls Tryd.prog 45 #[.pointer (some ⟨m, 0, none⟩), .agg #[.int .i64 it.kind, .slice (some ⟨g, 0, none⟩) 256 256, .int .u8 it.sign, .int .i64 it.n, .int .u8 it.x, .int .u8 it.y], .int .i64 k, .int .i64 i] w
      fun e w' => TryPost lo (D + 1) m s vi pg P gs fg tg (stepIt s false pl it K i st c) c w e w' := by
  obtain ⟨W, hW⟩ : ∃ W, W = w.alloc (.cells #[.int .i64 it.kind, .slice (some ⟨g, 0, none⟩) 256 256, .int .u8 it.sign, .int .i64 it.n, .int .u8 it.x, .int .u8 it.y] 94) := ⟨_, rfl⟩
  have hWb : W.heap[w.heap.size]? = some (.cells #[.int .i64 it.kind, .slice (some ⟨g, 0, none⟩) 256 256, .int .u8 it.sign, .int .i64 it.n, .int .u8 it.x, .int .u8 it.y] 94 (0, 0)) := by rw [hW]; exact blk_new _ _
  have hKW : Keeps w.heap.size [] w W := by rw [hW]; exact (Keeps.refl _ _ _).alloc (Nat.le_refl _) _
  have hTW := U.T.keeps hKW
  have hsetW := hKW.row U.set U.set.lt (by simp)
  obtain ⟨A, hA⟩ : ∃ A, A = stepIt s false pl it K i st c := ⟨_, rfl⟩
  have hA2 : A = up s it.set K c (s.size - i + 1) i st := by
    rw [hA]; unfold stepIt; rw [U.k0]; simp only []; rw [if_neg (by omega), if_neg (by omega), if_pos hsg]
  rw [← hA]
  have HA := hid hA2
  clear hA hA2
  have HS := hid hsg
  clear hsg
  have hi := U.hi
  have hs := U.hs
  have hk := U.hk
  have hD := U.hD
  have hD2 := U.hD2
  have hst := U.hst
  go_enter Tryd.func45, Tryd.ntmps45
  go_upto_region 1 with fail
  rw [← hW]
  have b0 := blk_cell hWb 0
  have b1 := blk_cell hWb 1
  have b2 := blk_cell hWb 2
  rw [HS.out] at b2
  have hlW := blk_lt hWb
  clear hW
  go_wp2_with fail
  go_loopg [11] (s.size - i + 1) (fun gk v wr => ∃ n st' c', v = .int .i64 (n : Nat) ∧ n + gk = s.size + 1 ∧ i ≤ n ∧ n ≤ s.size ∧ TS lo wr m s vi pg P gs fg tg st' c' ∧ Keeps W.heap.size [m, fg, tg] W wr ∧ wr.heap[w.heap.size]? = some (.cells #[.int .i64 it.kind, .slice (some ⟨g, 0, none⟩) 256 256, .int .u8 it.sign, .int .i64 it.n, .int .u8 it.x, .int .u8 it.y] 94 (0, 0)) ∧ BoolRow wr g 4 256 it.set ∧
    ((st' ≤ 50000 ∧ c' = c ∧ Hid (A = up s it.set K c gk n st')) ∨ (50000 < st' ∧ st' ≤ D + 1 ∧ Hid (A = none))))
  case atStart => exact ⟨i, st, c, rfl, by omega, Nat.le_refl _, hi, hTW, Keeps.refl _ _ _, hWb, hsetW, Or.inl ⟨hst, rfl, HA⟩⟩
  case round =>
    obtain ⟨n, st', c', rfl, hgk, hin, hns, hT, hkk, hblk, hrow, hcase⟩ := hrel
    obtain ⟨c0, c1, c2, c3, c4, c5, c6, f6⟩ := hT.blk.cells
    have b1 := blk_cell hblk 1
    rcases hcase with ⟨hs1, rfl, HG⟩ | ⟨hs1, hs2, HG⟩
    · obtain ⟨gk', rfl⟩ : ∃ x, gk = x + 1 := ⟨gk - 1, by omega⟩
      go_wp2_with fail
      refine (spent_no m st' _ (by go_simp) hs1).mono ?_
      rintro e w' ⟨rfl, rfl⟩
      go_wp2_with fail
      refine (U.H n st' c' _ hns hs1 (U.mono i n c' U.hg hin hns) hT).mono ?_
      rintro e w2 hpost
      have hlb := blk_lt hblk
      rcases hpost with ⟨hk1, st2, c2, hT2, hK2, hs2, hs3, rfl⟩ | ⟨st2, hk1, hT2, hK2, hs2, rfl⟩ | ⟨st2, e2, c2, hk1, hT2, hK2, hs2, he2, rfl⟩
      · -- spent in there
        have HN : Hid (A = none) := hid (HG.out.trans (up_none hk1))
        have hkk2 := hkk.then3 hK2
        have hblk2 := hK2.blk hblk hlb (hT.off hblk (by decide) (by decide))
        have hrow2 := hK2.row hrow hrow.lt (hT.offRow hrow (by decide) (by decide))
        clear HG HA hk1 hT hkk hblk hrow hK2
        obtain ⟨c0', c1', c2', c3', c4', c5', c6', f6'⟩ := hT2.blk.cells
        have b1' := blk_cell hblk2 1
        go_wp2_with fail
        refine (has_any m n g s it.set _ hs (by omega) (by go_simp) hrow2).mono ?_
        rintro e w' ⟨rfl, rfl⟩
        obtain ⟨hb, hhb⟩ : ∃ hb, hb = has s it.set n := ⟨_, rfl⟩
        rw [← hhb]
        have HB := hid hhb
        clear hhb
        cases hb
        · go_wp2_with fail
          go_ret
          exact TryPost.spent HN.out hT2 ((hKW.mono (Nat.le_refl _) (by simp)).then3 hkk2) hs2 (by omega)
        · have hlt := has_lt HB.out.symm
          have hk3 := keeps_set w2 ⟨m, 6, none⟩ (.int .i64 ((st2 : Int) + 1))
          have hn1 := (hT2.off hblk2 (by decide) (by decide))
          have hn2 := (hT2.offRow hrow2 (by decide) (by decide))
          go_wp2_with fail
          go_roundg gk'
          case measure => omega
          case rel =>
            refine ⟨n + 1, st2 + 1, c2, by go_num, by omega, by omega, by omega, hT2.setSt (by omega), hkk2.setCell (Or.inl (by simp)) _, hk3.blk hblk2 (blk_lt hblk2) ?_, hk3.row hrow2 hrow2.lt ?_, Or.inr ⟨by omega, by omega, HN⟩⟩
            · simp at hn1; simp [hn1]
            · simp at hn2; simp [hn2]
      · have hkk2 := hkk.then3 hK2
        have hblk2 := hK2.blk hblk hlb (hT.off hblk (by decide) (by decide))
        have hrow2 := hK2.row hrow hrow.lt (hT.offRow hrow (by decide) (by decide))
        have HK1 := hid hk1
        clear HA hk1 hT hkk hblk hrow hK2
        obtain ⟨c0', c1', c2', c3', c4', c5', c6', f6'⟩ := hT2.blk.cells
        have b1' := blk_cell hblk2 1
        go_wp2_with fail
        refine (has_any m n g s it.set _ hs (by omega) (by go_simp) hrow2).mono ?_
        rintro e w' ⟨rfl, rfl⟩
        obtain ⟨hb, hhb⟩ : ∃ hb, hb = has s it.set n := ⟨_, rfl⟩
        rw [← hhb]
        have HB := hid hhb
        clear hhb
        cases hb
        · go_wp2_with fail
          go_ret
          exact TryPost.fail (HG.out.trans (up_stop HK1.out HB.out.symm)) hT2 ((hKW.mono (Nat.le_refl _) (by simp)).then3 hkk2) hs2
        · have hlt := has_lt HB.out.symm
          have hk3 := keeps_set w2 ⟨m, 6, none⟩ (.int .i64 ((st2 : Int) + 1))
          have hn1 := (hT2.off hblk2 (by decide) (by decide))
          have hn2 := (hT2.offRow hrow2 (by decide) (by decide))
          have HN : (st2 + 1 ≤ 50000 ∧ c' = c' ∧ Hid (A = up s it.set K c' gk' (n + 1) (st2 + 1))) ∨ (50000 < st2 + 1 ∧ st2 + 1 ≤ D + 1 ∧ Hid (A = none)) := by
            by_cases ho : st2 + 1 ≤ 50000
            · exact Or.inl ⟨ho, rfl, hid (HG.out.trans (up_go HK1.out HB.out.symm ho))⟩
            · exact Or.inr ⟨by omega, by omega, hid (HG.out.trans (up_over HK1.out HB.out.symm (by omega)))⟩
          have HN' := hid HN
          clear HN HG
          go_wp2_with fail
          go_roundg gk'
          case measure => omega
          case rel =>
            refine ⟨n + 1, st2 + 1, c', by go_num, by omega, by omega, by omega, hT2.setSt (by omega), hkk2.setCell (Or.inl (by simp)) _, hk3.blk hblk2 (blk_lt hblk2) ?_, hk3.row hrow2 hrow2.lt ?_, HN'.out.imp (fun h => ⟨h.1, rfl, h.2.2⟩) id⟩
            · simp at hn1; simp [hn1]
            · simp at hn2; simp [hn2]
      · -- it has matched
        go_wp2_with fail
        go_ret
        exact TryPost.hit (HG.out.trans (up_hit hk1)) hT2 ((hKW.mono (Nat.le_refl _) (by simp)).then3 (hkk.then3 hK2)) hs2 he2
    · go_wp2_with fail
      refine (spent_yes m st' _ (by go_simp) hs1).mono ?_
      rintro e w' ⟨rfl, rfl⟩
      go_wp2_with fail
      go_ret
      exact TryPost.spent HG.out hT ((hKW.mono (Nat.le_refl _) (by simp)).then3 hkk) hs1 hs2

theorem has_int (m at_ g : Nat) (s : ByteArray) (f : Nat → Bool) (w : World) (x : Int) (hx : x = at_) (hs : s.size ≤ 65536) (hat : at_ ≤ 200000) (c0 : w.cell? ⟨m, 0, none⟩ = some (.string s)) (hg : BoolRow w g 4 256 f) :
    Calls Tryd.prog 61 #[.pointer (some ⟨m, 0, none⟩), .int .i64 x, .slice (some ⟨g, 0, none⟩) 256 256] w fun e w' => e = .returned (.bool (has s f at_)) ∧ w = w' := by
  subst hx; exact has_any m at_ g s f w hs hat c0 hg
theorem Goes.at {A : Ans} (H : Goes lo D m s vi pg P gs fg tg k K good) {x : Int} {k1 : Int} (hk : k1 = k) (hx : x = i) (hi : i ≤ s.size) (hst : st ≤ 50000) (hg : good i c) (hT : TS lo w m s vi pg P gs fg tg st c) (hA : K i st c = A) :
    Calls Tryd.prog 34 #[.pointer (some ⟨m, 0, none⟩), .int .i64 k1, .int .i64 x] w fun e w' => TryPost lo D m s vi pg P gs fg tg A c w e w' := by
  subst hx; subst hk; subst hA; exact H i st c w hi hst hg hT
theorem Pat.down_one {k : Nat → Nat → Cap → Ans} {i n st : Nat} {c : Cap} : down k i c 1 n st = k (i + n) st c := by
  unfold down
  cases h : k (i + n) st c with
  | none => rfl
  | some x =>
    obtain ⟨a, b⟩ := x
    cases b with
    | none => rfl
    | some r => rfl
theorem Pat.step_q1 {s : ByteArray} {it : It} {K : Nat → Nat → Cap → Ans} {i st : Nat} {c : Cap} {pl : Nat → Bool} (k0 : it.kind = 0) (h : it.sign = 63) (hh : has s it.set i = true) : stepIt s false pl it K i st c = down K i c 2 1 st := by
  unfold stepIt; rw [k0]; simp only []; rw [if_neg (by omega), if_pos h, hh]
  simp only [if_true]
  conv => rhs; unfold down
  cases h : K (i + 1) st c with
  | none => rfl
  | some x =>
    obtain ⟨a, b⟩ := x
    cases b with
    | none => simp only []; rw [Pat.down_one]; rfl
    | some r => rfl
theorem Pat.step_q0 {s : ByteArray} {it : It} {K : Nat → Nat → Cap → Ans} {i st : Nat} {c : Cap} {pl : Nat → Bool} (k0 : it.kind = 0) (h : it.sign = 63) (hh : has s it.set i = false) : stepIt s false pl it K i st c = down K i c 1 0 st := by
  unfold stepIt; rw [k0]; simp only []; rw [if_neg (by omega), if_pos h, hh, Pat.down_one]; rfl
theorem Pat.step_star {s : ByteArray} {it : It} {K : Nat → Nat → Cap → Ans} {i st : Nat} {c : Cap} {pl : Nat → Bool} (k0 : it.kind = 0) (h0 : it.sign ≠ 0) (h : it.sign ≠ 63) (h45 : it.sign ≠ 45) {n l : Nat} (hn : runLen s it.set (s.size - i) i = n) (hl : (if it.sign = 43 then 1 else 0) = l) :
    stepIt s false pl it K i st c = if 50000 < st + n then none else down K i c (n + 1 - l) n (st + n) := by
  unfold stepIt; rw [k0]; simp only []; rw [if_neg h0, if_neg h, if_neg h45, hn, hl]; rfl

/-- What stands ahead of the tries: how many bytes the first takes, how many the last. -/
def LoopSt (lo D m : Nat) (s : ByteArray) (vi : Value) (pg : Nat) (P : Pt) (gs : List Nat) (fg tg i : Nat) (K : Nat → Nat → Cap → Ans) (c : Cap) (A : Ans) (W : World) (v9 v10 : Value) (wx : World) : Prop :=
  ∃ least most st1 : Nat, v9 = .int .i64 least ∧ v10 = .int .i64 most ∧ least ≤ 1 ∧ i + most ≤ s.size ∧ TS lo wx m s vi pg P gs fg tg st1 c ∧ Keeps W.heap.size [m, fg, tg] W wx ∧ st1 ≤ 120000 ∧
    ((st1 ≤ 50000 ∧ A = down K i c (most + 1 - least) most st1) ∨ (50000 < st1 ∧ A = none))

set_option maxRecDepth 100000 in
set_option maxHeartbeats 2000000 in
theorem singleLoop (U : Under lo D m s vi pg P gs fg tg k K good it g i st c w) (pl : Nat → Bool) (h0 : it.sign ≠ 0) (h45 : it.sign ≠ 45) :
    Calls Tryd.prog 45 #[.pointer (some ⟨m, 0, none⟩), .agg #[.int .i64 it.kind, .slice (some ⟨g, 0, none⟩) 256 256, .int .u8 it.sign, .int .i64 it.n, .int .u8 it.x, .int .u8 it.y], .int .i64 k, .int .i64 i] w
      fun e w' => TryPost lo (D + 1) m s vi pg P gs fg tg (stepIt s false pl it K i st c) c w e w' := by
  obtain ⟨W, hW⟩ : ∃ W, W = w.alloc (.cells #[.int .i64 it.kind, .slice (some ⟨g, 0, none⟩) 256 256, .int .u8 it.sign, .int .i64 it.n, .int .u8 it.x, .int .u8 it.y] 94) := ⟨_, rfl⟩
  have hWb : W.heap[w.heap.size]? = some (.cells #[.int .i64 it.kind, .slice (some ⟨g, 0, none⟩) 256 256, .int .u8 it.sign, .int .i64 it.n, .int .u8 it.x, .int .u8 it.y] 94 (0, 0)) := by rw [hW]; exact blk_new _ _
  have hKW : Keeps w.heap.size [] w W := by rw [hW]; exact (Keeps.refl _ _ _).alloc (Nat.le_refl _) _
  have hTW := U.T.keeps hKW
  have hsetW := hKW.row U.set U.set.lt (by simp)
  obtain ⟨A, hA⟩ : ∃ A, A = stepIt s false pl it K i st c := ⟨_, rfl⟩
  rw [← hA]
  have HA := hid hA
  clear hA
  have z0 : (it.sign == 0) = false := beq_eq_false_iff_ne.2 h0
  have z45 : (it.sign == 45) = false := beq_eq_false_iff_ne.2 h45
  have H0 := hid h0
  have H45 := hid h45
  clear h0 h45
  have hi := U.hi
  have hs := U.hs
  have hk := U.hk
  have hD := U.hD
  have hD2 := U.hD2
  have hst := U.hst
  go_enter Tryd.func45, Tryd.ntmps45
  go_upto_region 1 with fail
  rw [← hW]
  have b0 := blk_cell hWb 0
  have b1 := blk_cell hWb 1
  have b2 := blk_cell hWb 2
  have hlW := blk_lt hWb
  clear hW
  go_upto_block 0 with fail
  go_cut [9, 10] from 9 to 87 (fun v9 v10 wx => LoopSt lo D m s vi pg P gs fg tg i K c A W v9 v10 wx)
  case first =>
    obtain ⟨c0, c1, c2, c3, c4, c5, c6, f6⟩ := hTW.blk.cells
    by_cases h63 : it.sign = 63
    · have z63 : (it.sign == 63) = true := beq_iff_eq.2 h63
      have H63 := hid h63
      clear h63
      go_wp2_with fail
      refine (has_any m i g s it.set _ hs (by omega) (by go_simp) hsetW).mono ?_
      rintro e w' ⟨rfl, rfl⟩
      obtain ⟨hb, hhb⟩ : ∃ hb, hb = has s it.set i := ⟨_, rfl⟩
      rw [← hhb]
      have HB := hid hhb
      clear hhb
      cases hb
      · go_wp2_with fail
        go_meet
        exact ⟨0, 0, st, rfl, rfl, by omega, by omega, hTW, Keeps.refl _ _ _, by omega, Or.inl ⟨hst, HA.out.trans (step_q0 U.k0 H63.out HB.out.symm)⟩⟩
      · have hlt := has_lt HB.out.symm
        go_wp2_with fail
        go_meet
        exact ⟨0, 1, st, rfl, rfl, by omega, by omega, hTW, Keeps.refl _ _ _, by omega, Or.inl ⟨hst, HA.out.trans (step_q1 U.k0 H63.out HB.out.symm)⟩⟩
    · have z63 : (it.sign == 63) = false := beq_eq_false_iff_ne.2 h63
      obtain ⟨N, hN⟩ : ∃ N, runLen s it.set (s.size - i) i = N := ⟨_, rfl⟩
      obtain ⟨l, hl⟩ : ∃ l, (if it.sign = 43 then 1 else 0) = l := ⟨_, rfl⟩
      have hA2 := HA.out.trans (step_star U.k0 H0.out h63 H45.out hN hl)
      have hNle : N ≤ s.size - i := hN ▸ run_le _ _
      have HN := hid hN
      have HL := hid hl
      have HA2 := hid hA2
      clear h63 hN hl hA2
      go_wp2_with fail
      go_loop [10] (fun v => ∃ n : Nat, v = .int .i64 n ∧ i + n ≤ s.size ∧ Hid (runLen s it.set (s.size - (i + n)) (i + n) + n = N)) (fun v => s.size - (intOf v).toNat)
      case atStart => exact ⟨0, rfl, by omega, hid (by simpa using HN.out)⟩
      case round =>
        obtain ⟨n, rfl, hin, HG⟩ := hrel
        go_wp2_with fail
        refine (has_int m (i + n) g s it.set _ _ (by omega) hs (by omega) (by go_simp) hsetW).mono ?_
        rintro e w' ⟨rfl, rfl⟩
        obtain ⟨hb, hhb⟩ : ∃ hb, hb = has s it.set (i + n) := ⟨_, rfl⟩
        rw [← hhb]
        have HB := hid hhb
        clear hhb
        cases hb
        · have hnN : n = N := by have := HG.out; rw [run_stop HB.out.symm] at this; omega
          clear HG
          subst hnN
          have hT3 := hTW.setSt (v := (st : Int) + n) (st' := st + n) (by omega)
          have hK3 := keeps_set W ⟨m, 6, none⟩ (.int .i64 ((st : Int) + n))
          have hoff := hTW.off hWb (by decide) (by decide)
          have b2' := blk_cell (hK3.blk hWb hlW (by simp at hoff; simp [hoff])) 2
          have hne : ¬ w.heap.size = m := by simp at hoff; exact hoff.1
          have HC : Hid ((st + n ≤ 50000 ∧ A = down K i c (n + 1 - l) n (st + n)) ∨ (50000 < st + n ∧ A = none)) := by
            by_cases ho : st + n ≤ 50000
            · exact hid (Or.inl ⟨ho, HA2.out.trans (if_neg (by omega))⟩)
            · exact hid (Or.inr ⟨by omega, HA2.out.trans (if_pos (by omega))⟩)
          clear HA2
          by_cases h43 : it.sign = 43
          · have z43 : (it.sign == 43) = true := beq_iff_eq.2 h43
            have hl1 : l = 1 := by have := HL.out; rw [if_pos h43] at this; omega
            clear HL
            subst hl1
            have H43 := hid h43
            clear h43
            go_wp2_with fail
            go_meet
            exact ⟨1, n, st + n, rfl, rfl, by omega, by omega, hT3, hK3.mono (Nat.le_refl _) (by simp), by omega, HC.out⟩
          · have z43 : (it.sign == 43) = false := beq_eq_false_iff_ne.2 h43
            have hl1 : l = 0 := by have := HL.out; rw [if_neg h43] at this; omega
            clear HL
            subst hl1
            have H43 := hid h43
            clear h43
            go_wp2_with fail
            go_meet
            exact ⟨0, n, st + n, rfl, rfl, by omega, by omega, hT3, hK3.mono (Nat.le_refl _) (by simp), by omega, HC.out⟩
        · have hlt := has_lt HB.out.symm
          have HG' : Hid (runLen s it.set (s.size - (i + n + 1)) (i + n + 1) + n + 1 = N) := hid (by have := HG.out; rw [run_step HB.out.symm] at this; omega)
          clear HG
          go_wp2_with fail
          go_round
          case measure => simp [intOf]; omega
          case rel => exact ⟨n + 1, by go_num, by omega, hid (by have := HG'.out; rw [← Nat.add_assoc]; rw [← Nat.add_assoc]; exact this)⟩
  case rest =>
    obtain ⟨least, most, st1, rfl, rfl, hl1, him, hT1, hK1, hs1, hcase⟩ := hcut
    have HCC := hid hcase
    clear hcase HA
    have hK0 : Keeps w.heap.size [m, fg, tg] w wc := (hKW.mono (Nat.le_refl _) (by simp)).then3 hK1
    go_wp2_with fail
    go_loopg [13] (most + 1 - least) (fun gk v wr => ∃ (z : Int) (st' : Nat) (c' : Cap), v = .int .i64 z ∧ z + 1 = least + gk ∧ least + gk ≤ most + 1 ∧ TS lo wr m s vi pg P gs fg tg st' c' ∧ Keeps w.heap.size [m, fg, tg] w wr ∧ st' ≤ D ∧
      Hid ((st' ≤ 50000 ∧ c' = c ∧ A = down K i c gk z.toNat st') ∨ (50000 < st' ∧ A = none)))
    case atStart => exact ⟨most, st1, c, rfl, by omega, by omega, hT1, hK0, by omega, hid (HCC.out.imp (fun h => ⟨h.1, rfl, h.2⟩) id)⟩
    case round =>
      obtain ⟨z, st', c', rfl, hz, hgm, hT, hkk, hsD, HG⟩ := hrel
      obtain ⟨c0, c1, c2, c3, c4, c5, c6, f6⟩ := hT.blk.cells
      by_cases hg0 : gk = 0
      · subst hg0
        have hzl : z < least := by omega
        go_wp2_with fail
        go_ret
        rcases HG.out with ⟨h1, rfl, h3⟩ | ⟨h1, h3⟩
        · exact TryPost.fail (h3.trans rfl) hT hkk h1
        · exact TryPost.spent h3 hT hkk h1 (by omega)
      · obtain ⟨gk', rfl⟩ : ∃ x, gk = x + 1 := ⟨gk - 1, by omega⟩
        obtain ⟨n, rfl⟩ : ∃ n : Nat, z = n := ⟨z.toNat, by omega⟩
        have hnl : least ≤ n := by omega
        have hnm : n ≤ most := by omega
        rcases HG.out with ⟨h1, rfl, h3⟩ | ⟨h1, h3⟩
        · have H3 := hid h3
          clear h3 HG
          go_wp2_with fail
          refine (spent_no m st' _ (by go_simp) h1).mono ?_
          rintro e w' ⟨rfl, rfl⟩
          go_wp2_with fail
          refine (U.H.at (i := i + n) (st := st') (c := c') (by omega) (by omega) (by omega) h1 (U.mono i (i + n) c' U.hg (by omega) (by omega)) hT rfl).mono ?_
          rintro e w2 hpost
          rcases hpost with ⟨hk1, st2, c2', hT2, hK2, hs2, hs3, rfl⟩ | ⟨st2, hk1, hT2, hK2, hs2, rfl⟩ | ⟨st2, e2, c2', hk1, hT2, hK2, hs2, he2, rfl⟩
          · have HN : Hid (A = none) := hid (H3.out.trans (down_none (by simpa using hk1)))
            have hkk2 := hkk.then3 hK2
            clear hk1 hT hkk hK2 H3
            go_wp2_with fail
            go_roundg gk'
            case measure => omega
            case rel => exact ⟨_, st2, c2', rfl, by omega, by omega, hT2, hkk2, by omega, hid (Or.inr ⟨by omega, HN.out⟩)⟩
          · have HN : Hid (A = down K i c' gk' (n - 1) st2) := hid (H3.out.trans (down_go (by simpa using hk1)))
            have hkk2 := hkk.then3 hK2
            clear hk1 hT hkk hK2 H3
            go_wp2_with fail
            go_roundg gk'
            case measure => omega
            case rel => exact ⟨_, st2, c', rfl, by omega, by omega, hT2, hkk2, by omega, hid (Or.inl ⟨by omega, rfl, by rw [HN.out]; congr 1; omega⟩)⟩
          · go_wp2_with fail
            go_ret
            exact TryPost.hit (H3.out.trans (down_hit (by simpa using hk1))) hT2 (hkk.then3 hK2) hs2 he2
        · have H3 := hid h3
          clear h3 HG
          go_wp2_with fail
          refine (spent_yes m st' _ (by go_simp) h1).mono ?_
          rintro e w' ⟨rfl, rfl⟩
          go_wp2_with fail
          go_ret
          exact TryPost.spent H3.out hT hkk h1 (by omega)

theorem single_call (U : Under lo D m s vi pg P gs fg tg k K good it g i st c w) (pl : Nat → Bool) :
    Calls Tryd.prog 45 #[.pointer (some ⟨m, 0, none⟩), .agg #[.int .i64 it.kind, .slice (some ⟨g, 0, none⟩) 256 256, .int .u8 it.sign, .int .i64 it.n, .int .u8 it.x, .int .u8 it.y], .int .i64 k, .int .i64 i] w
      fun e w' => TryPost lo (D + 1) m s vi pg P gs fg tg (stepIt s false pl it K i st c) c w e w' := by
  by_cases h0 : it.sign = 0
  · exact single0 U pl h0
  · by_cases h45 : it.sign = 45
    · exact singleMinus U pl h45
    · exact singleLoop U pl h0 h45
end
end Go.Proofs.YtpinoolagbghnaaDoor
