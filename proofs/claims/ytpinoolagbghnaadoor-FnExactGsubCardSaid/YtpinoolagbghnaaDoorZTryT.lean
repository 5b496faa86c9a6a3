/-
  Walk: the reference's matcher: try at an item, by its kind.
-/
import Derived.Test.YtpinoolagbghnaaDoorZTryQ
namespace Go.Proofs.YtpinoolagbghnaaDoor
set_option linter.unusedVariables false
open Go.RowKit Pat

section
variable {lo D m pg fg tg k g i st : Nat} {s : ByteArray} {vi : Value} {P : Pt} {gs : List Nat} {K : Nat → Nat → Cap → Ans} {good good' : Nat → Cap → Prop} {it : It} {c : Cap} {w : World}

def setV (it : It) (g : Nat) : Value := if it.kind = 0 ∨ it.kind = 6 then .slice (some ⟨g, 0, none⟩) 256 256 else .slice none 0 0
theorem TS.item6 (h : TS lo w m s vi pg P gs fg tg st c) (e1 : P.items[k]? = some it) (e2 : gs[k]? = some g) : ∃ gi cap, vi = .slice (some ⟨gi, 0, none⟩) P.items.length cap ∧ gi ≠ m ∧
    w.cell? ⟨gi, k * 6, none⟩ = some (.int .i64 it.kind) ∧ w.cell? ⟨gi, k * 6 + 1, none⟩ = some (setV it g) ∧ w.cell? ⟨gi, k * 6 + 2, none⟩ = some (.int .u8 it.sign) ∧
    w.cell? ⟨gi, k * 6 + 3, none⟩ = some (.int .i64 it.n) ∧ w.cell? ⟨gi, k * 6 + 4, none⟩ = some (.int .u8 it.x) ∧ w.cell? ⟨gi, k * 6 + 5, none⟩ = some (.int .u8 it.y) := by
  have hk : k < P.items.length := (List.getElem?_eq_some_iff.1 e1).1
  obtain ⟨a, cap, rfl⟩ := own_form h.it
  obtain ⟨gi, rfl⟩ := own_some h.it (by omega)
  have hcl := h.it.cells (g := gi) rfl
  have hcc : ∀ j v, j < 6 → (itemCells it g)[j]? = some v → w.cell? ⟨gi, k * 6 + j, none⟩ = some v := by
    intro j v hj hv
    have := hcl (k * 6 + j) v (by rw [itCells_get j e1 e2 hj]; exact hv)
    rw [own_add] at this
    exact this
  have hne : gi ≠ m := by
    have := own_ne_blk h.it h.blk (by decide)
    intro e
    exact this (by rw [e]; rfl)
  exact ⟨gi, cap, rfl, hne, hcc 0 _ (by omega) rfl, hcc 1 _ (by omega) rfl, hcc 2 _ (by omega) rfl, hcc 3 _ (by omega) rfl, hcc 4 _ (by omega) rfl, hcc 5 _ (by omega) rfl⟩

/-- What try is called under, at item k. -/
structure UnderT (lo D : Nat) (m : Nat) (s : ByteArray) (vi : Value) (pg : Nat) (P : Pt) (gs : List Nat) (fg tg k : Nat) (K : Nat → Nat → Cap → Ans) (good good' : Nat → Cap → Prop) (it : It) (g i st : Nat) (c : Cap) (w : World) : Prop where
  H : Goes lo D m s vi pg P gs fg tg (k + 1) K good'
  hs : s.size ≤ 65536
  hl : P.items.length ≤ 200
  e1 : P.items[k]? = some it
  e2 : gs[k]? = some g
  hD : 120000 ≤ D
  hD2 : D ≤ 129999
  hi : i ≤ s.size
  hst : st ≤ 50000
  hg : good i c
  T : TS lo w m s vi pg P gs fg tg st c

/-- What try comes to at an item. -/
def stepA (s : ByteArray) (pl : Nat → Bool) (it : It) (K : Nat → Nat → Cap → Ans) (i st : Nat) (c : Cap) : Ans := if 50000 < st + 1 then none else stepIt s false pl it K i (st + 1) c

--THEOREMS

set_option maxRecDepth 100000 in
set_option maxHeartbeats 4000000 in
theorem try0 (U : UnderT lo D m s vi pg P gs fg tg k K good good' it g i st c w) (pl : Nat → Bool) (hk0 : it.kind = 0) (hset : BoolRow w g 4 256 it.set) (gd : good' i c) (mono : ∀ i j c, good' i c → i ≤ j → j ≤ s.size → good' j c) :
    Calls Tryd.prog 34 #[.pointer (some ⟨m, 0, none⟩), .int .i64 k, .int .i64 i] w fun e w' => TryPost lo (D + 1) m s vi pg P gs fg tg (stepA s pl it K i st c) c w e w' := by
  obtain ⟨A, hA⟩ : ∃ A, A = stepA s pl it K i st c := ⟨_, rfl⟩
  rw [← hA]
  have HA := hid hA
  clear hA
  have hkl : k < P.items.length := (List.getElem?_eq_some_iff.1 U.e1).1
  have hi := U.hi
  have hs := U.hs
  have hl := U.hl
  have hD := U.hD
  have hD2 := U.hD2
  have hst := U.hst
  obtain ⟨gi, cap, rfl, hgm, m0, m1, m2, m3, m4, m5⟩ := U.T.item6 U.e1 U.e2
  have hsf : setV it g = .slice (some ⟨g, 0, none⟩) 256 256 := if_pos (Or.inl hk0)
  rw [hsf] at m1
  clear hsf
  obtain ⟨c0, c1, c2, c3, c4, c5, c6, f6⟩ := U.T.blk.cells
  have hT1 := U.T.setSt (v := (st : Int) + 1) (st' := st + 1) rfl
  have hK1 := (keeps_set w ⟨m, 6, none⟩ (.int .i64 ((st : Int) + 1))).mono (S := [m, fg, tg]) (Nat.le_refl _) (by simp)
  have HT1 := hid hT1
  have HK1 := hid hK1
  clear hT1 hK1
  have hoffg := U.T.offRow hset (by decide) (by decide)
  have z0 : ((it.kind : Int) == 0) = true := by rw [hk0]; rfl
  have HK0 := hid hk0
  clear hk0
  go_enter Tryd.func34, Tryd.ntmps34
  go_wp2_with fail
  by_cases ho : 50000 < st + 1
  · refine (spent_yes m (st + 1) _ (by go_simp) ho).mono ?_
    rintro e w' ⟨rfl, rfl⟩
    go_wp2_with fail
    go_ret
    exact TryPost.spent (HA.out.trans (if_pos ho)) HT1.out HK1.out (by omega) (by omega)
  · have HA1 : Hid (A = stepIt s false pl it K i (st + 1) c) := hid (HA.out.trans (if_neg ho))
    clear HA
    refine (spent_no m (st + 1) _ (by go_simp) (by omega)).mono ?_
    rintro e w' ⟨rfl, rfl⟩
    go_upto_region 7 with fail
    obtain ⟨W, hW⟩ : ∃ W, W = (w.setCell ⟨m, 6, none⟩ (.int .i64 ((st : Int) + 1))).alloc (.cells #[.int .i64 it.kind, .slice (some ⟨g, 0, none⟩) 256 256, .int .u8 it.sign, .int .i64 it.n, .int .u8 it.x, .int .u8 it.y] 94) := ⟨_, rfl⟩
    have hWb : W.heap[w.heap.size]? = some (.cells #[.int .i64 it.kind, .slice (some ⟨g, 0, none⟩) 256 256, .int .u8 it.sign, .int .i64 it.n, .int .u8 it.x, .int .u8 it.y] 94 (0, 0)) := by rw [hW, ← World.size_setCell (w := w)]; exact blk_new _ _
    have hKa : Keeps (w.setCell ⟨m, 6, none⟩ (.int .i64 ((st : Int) + 1))).heap.size [] (w.setCell ⟨m, 6, none⟩ (.int .i64 ((st : Int) + 1))) W := by rw [hW]; exact (Keeps.refl _ _ _).alloc (Nat.le_refl _) _
    have hT := HT1.out.keeps hKa
    have hKW : Keeps w.heap.size [m, fg, tg] w W := HK1.out.then3 (hKa.mono (Nat.le_refl _) (by simp))
    rw [← hW]
    clear hW hKa m0 m1 m2 m3 m4 m5 c0 c1 c2 c3 c4 c5 c6 f6 HT1 HK1
    obtain ⟨c0, c1, c2, c3, c4, c5, c6, f6⟩ := hT.blk.cells
    have b0 := blk_cell hWb 0
    have b1 := blk_cell hWb 1
    have b2 := blk_cell hWb 2
    have b3 := blk_cell hWb 3
    have b4 := blk_cell hWb 4
    have b5 := blk_cell hWb 5
    go_wp2_with fail
    have hsetW := hKW.row hset hset.lt hoffg
    refine (single_call (lo := lo) (D := D) (it := it) (g := g) ⟨U.H, hs, by omega, hD, by omega, mono, HK0.out, hi, by omega, gd, hT, hsetW⟩ pl).mono ?_
    rintro e w' h
    obtain ⟨v, rfl⟩ := h.form
    go_wp2_with fail
    go_ret
    exact (h.from_ hKW).ans HA1.out.symm

set_option maxRecDepth 100000 in
set_option maxHeartbeats 4000000 in
theorem try5 (U : UnderT lo D m s vi pg P gs fg tg k K good good' it g i st c w) (pl : Nat → Bool) (hk0 : it.kind = 5) (gd : good' i c) (mono : ∀ i j c, good' i c → i ≤ j → j ≤ s.size → good' j c) :
    Calls Tryd.prog 34 #[.pointer (some ⟨m, 0, none⟩), .int .i64 k, .int .i64 i] w fun e w' => TryPost lo (D + 1) m s vi pg P gs fg tg (stepA s pl it K i st c) c w e w' := by
  obtain ⟨A, hA⟩ : ∃ A, A = stepA s pl it K i st c := ⟨_, rfl⟩
  rw [← hA]
  have HA := hid hA
  clear hA
  have hkl : k < P.items.length := (List.getElem?_eq_some_iff.1 U.e1).1
  have hi := U.hi
  have hs := U.hs
  have hl := U.hl
  have hD := U.hD
  have hD2 := U.hD2
  have hst := U.hst
  obtain ⟨gi, cap, rfl, hgm, m0, m1, m2, m3, m4, m5⟩ := U.T.item6 U.e1 U.e2
  have hsf : setV it g = .slice none 0 0 := if_neg (by omega)
  rw [hsf] at m1
  clear hsf
  obtain ⟨c0, c1, c2, c3, c4, c5, c6, f6⟩ := U.T.blk.cells
  have hT1 := U.T.setSt (v := (st : Int) + 1) (st' := st + 1) rfl
  have hK1 := (keeps_set w ⟨m, 6, none⟩ (.int .i64 ((st : Int) + 1))).mono (S := [m, fg, tg]) (Nat.le_refl _) (by simp)
  have HT1 := hid hT1
  have HK1 := hid hK1
  clear hT1 hK1
  have z0 : ((it.kind : Int) == 0) = false := by rw [hk0]; rfl
  have z1 : ((it.kind : Int) == 1) = false := by rw [hk0]; rfl
  have z2 : ((it.kind : Int) == 2) = false := by rw [hk0]; rfl
  have z3 : ((it.kind : Int) == 3) = false := by rw [hk0]; rfl
  have z4 : ((it.kind : Int) == 4) = false := by rw [hk0]; rfl
  have z5 : ((it.kind : Int) == 5) = true := by rw [hk0]; rfl
  have HK0 := hid hk0
  clear hk0
  go_enter Tryd.func34, Tryd.ntmps34
  go_wp2_with fail
  by_cases ho : 50000 < st + 1
  · refine (spent_yes m (st + 1) _ (by go_simp) ho).mono ?_
    rintro e w' ⟨rfl, rfl⟩
    go_wp2_with fail
    go_ret
    exact TryPost.spent (HA.out.trans (if_pos ho)) HT1.out HK1.out (by omega) (by omega)
  · have HA1 : Hid (A = stepIt s false pl it K i (st + 1) c) := hid (HA.out.trans (if_neg ho))
    clear HA
    refine (spent_no m (st + 1) _ (by go_simp) (by omega)).mono ?_
    rintro e w' ⟨rfl, rfl⟩
    go_upto_region 7 with fail
    obtain ⟨W, hW⟩ : ∃ W, W = (w.setCell ⟨m, 6, none⟩ (.int .i64 ((st : Int) + 1))).alloc (.cells #[.int .i64 it.kind, .slice none 0 0, .int .u8 it.sign, .int .i64 it.n, .int .u8 it.x, .int .u8 it.y] 94) := ⟨_, rfl⟩
    have hWb : W.heap[w.heap.size]? = some (.cells #[.int .i64 it.kind, .slice none 0 0, .int .u8 it.sign, .int .i64 it.n, .int .u8 it.x, .int .u8 it.y] 94 (0, 0)) := by rw [hW, ← World.size_setCell (w := w)]; exact blk_new _ _
    have hKa : Keeps (w.setCell ⟨m, 6, none⟩ (.int .i64 ((st : Int) + 1))).heap.size [] (w.setCell ⟨m, 6, none⟩ (.int .i64 ((st : Int) + 1))) W := by rw [hW]; exact (Keeps.refl _ _ _).alloc (Nat.le_refl _) _
    have hT := HT1.out.keeps hKa
    have hKW : Keeps w.heap.size [m, fg, tg] w W := HK1.out.then3 (hKa.mono (Nat.le_refl _) (by simp))
    rw [← hW]
    clear hW hKa m0 m1 m2 m3 m4 m5 c0 c1 c2 c3 c4 c5 c6 f6 HT1 HK1
    obtain ⟨c0, c1, c2, c3, c4, c5, c6, f6⟩ := hT.blk.cells
    have b0 := blk_cell hWb 0
    have b1 := blk_cell hWb 1
    have b2 := blk_cell hWb 2
    have b3 := blk_cell hWb 3
    have b4 := blk_cell hWb 4
    have b5 := blk_cell hWb 5
    go_wp2_with fail
    refine (pair_call (lo := lo) (D := D) (it := it) ⟨U.H, hs, by omega, hD, by omega, mono, HK0.out, hi, by omega, gd, hT⟩ pl rfl).mono ?_
    rintro e w' h
    obtain ⟨v, rfl⟩ := h.form
    go_wp2_with fail
    go_ret
    exact (h.from_ hKW).ans HA1.out.symm

set_option maxRecDepth 100000 in
set_option maxHeartbeats 4000000 in
theorem try6 (U : UnderT lo D m s vi pg P gs fg tg k K good good' it g i st c w) (pl : Nat → Bool) (hk0 : it.kind = 6) (hset : BoolRow w g 4 256 it.set) (gd : good' i c) :
    Calls Tryd.prog 34 #[.pointer (some ⟨m, 0, none⟩), .int .i64 k, .int .i64 i] w fun e w' => TryPost lo (D + 1) m s vi pg P gs fg tg (stepA s pl it K i st c) c w e w' := by
  obtain ⟨A, hA⟩ : ∃ A, A = stepA s pl it K i st c := ⟨_, rfl⟩
  rw [← hA]
  have HA := hid hA
  clear hA
  have hkl : k < P.items.length := (List.getElem?_eq_some_iff.1 U.e1).1
  have hi := U.hi
  have hs := U.hs
  have hl := U.hl
  have hD := U.hD
  have hD2 := U.hD2
  have hst := U.hst
  obtain ⟨gi, cap, rfl, hgm, m0, m1, m2, m3, m4, m5⟩ := U.T.item6 U.e1 U.e2
  have hsf : setV it g = .slice (some ⟨g, 0, none⟩) 256 256 := if_pos (Or.inr hk0)
  rw [hsf] at m1
  clear hsf
  obtain ⟨c0, c1, c2, c3, c4, c5, c6, f6⟩ := U.T.blk.cells
  have hT1 := U.T.setSt (v := (st : Int) + 1) (st' := st + 1) rfl
  have hK1 := (keeps_set w ⟨m, 6, none⟩ (.int .i64 ((st : Int) + 1))).mono (S := [m, fg, tg]) (Nat.le_refl _) (by simp)
  have HT1 := hid hT1
  have HK1 := hid hK1
  clear hT1 hK1
  have hoffg := U.T.offRow hset (by decide) (by decide)
  have z0 : ((it.kind : Int) == 0) = false := by rw [hk0]; rfl
  have z1 : ((it.kind : Int) == 1) = false := by rw [hk0]; rfl
  have z2 : ((it.kind : Int) == 2) = false := by rw [hk0]; rfl
  have z3 : ((it.kind : Int) == 3) = false := by rw [hk0]; rfl
  have z4 : ((it.kind : Int) == 4) = false := by rw [hk0]; rfl
  have z5 : ((it.kind : Int) == 5) = false := by rw [hk0]; rfl
  have z6 : ((it.kind : Int) == 6) = true := by rw [hk0]; rfl
  have HK0 := hid hk0
  clear hk0
  go_enter Tryd.func34, Tryd.ntmps34
  go_wp2_with fail
  by_cases ho : 50000 < st + 1
  · refine (spent_yes m (st + 1) _ (by go_simp) ho).mono ?_
    rintro e w' ⟨rfl, rfl⟩
    go_wp2_with fail
    go_ret
    exact TryPost.spent (HA.out.trans (if_pos ho)) HT1.out HK1.out (by omega) (by omega)
  · have HA1 : Hid (A = stepIt s false pl it K i (st + 1) c) := hid (HA.out.trans (if_neg ho))
    clear HA
    refine (spent_no m (st + 1) _ (by go_simp) (by omega)).mono ?_
    rintro e w' ⟨rfl, rfl⟩
    go_upto_region 7 with fail
    obtain ⟨W, hW⟩ : ∃ W, W = (w.setCell ⟨m, 6, none⟩ (.int .i64 ((st : Int) + 1))).alloc (.cells #[.int .i64 it.kind, .slice (some ⟨g, 0, none⟩) 256 256, .int .u8 it.sign, .int .i64 it.n, .int .u8 it.x, .int .u8 it.y] 94) := ⟨_, rfl⟩
    have hWb : W.heap[w.heap.size]? = some (.cells #[.int .i64 it.kind, .slice (some ⟨g, 0, none⟩) 256 256, .int .u8 it.sign, .int .i64 it.n, .int .u8 it.x, .int .u8 it.y] 94 (0, 0)) := by rw [hW, ← World.size_setCell (w := w)]; exact blk_new _ _
    have hKa : Keeps (w.setCell ⟨m, 6, none⟩ (.int .i64 ((st : Int) + 1))).heap.size [] (w.setCell ⟨m, 6, none⟩ (.int .i64 ((st : Int) + 1))) W := by rw [hW]; exact (Keeps.refl _ _ _).alloc (Nat.le_refl _) _
    have hT := HT1.out.keeps hKa
    have hKW : Keeps w.heap.size [m, fg, tg] w W := HK1.out.then3 (hKa.mono (Nat.le_refl _) (by simp))
    rw [← hW]
    clear hW hKa m0 m1 m2 m3 m4 m5 c0 c1 c2 c3 c4 c5 c6 f6 HT1 HK1
    obtain ⟨c0, c1, c2, c3, c4, c5, c6, f6⟩ := hT.blk.cells
    have b0 := blk_cell hWb 0
    have b1 := blk_cell hWb 1
    have b2 := blk_cell hWb 2
    have b3 := blk_cell hWb 3
    have b4 := blk_cell hWb 4
    have b5 := blk_cell hWb 5
    have hsetW := hKW.row hset hset.lt hoffg
    have hA2 : A = if it.set (if 0 < i then bt s (i - 1) else 0).toNat = true ∨ it.set (bt s i).toNat = false then some (st + 1, none) else K i (st + 1) c := by
      rw [HA1.out]; unfold stepIt; rw [HK0.out]; rfl
    have HA2 := hid hA2
    clear hA2 HA1
    have hx1 : ∃ xb : Nat, xb < 256 ∧ (if 0 < i then bt s (i - 1) else 0).toNat = xb := ⟨_, by have := bt_le s (i - 1); split <;> omega, rfl⟩
    have hx2 : ∃ xh : Nat, xh < 256 ∧ (bt s i).toNat = xh := ⟨_, by have := bt_le s i; omega, rfl⟩
    obtain ⟨xb, hxb1, hxb⟩ := hx1
    obtain ⟨xh, hxh1, hxh⟩ := hx2
    have q1 := hsetW.cell hxb1
    have q2 := hsetW.cell hxh1
    obtain ⟨sb, hsb⟩ : ∃ sb, it.set xb = sb := ⟨_, rfl⟩
    obtain ⟨sh, hsh⟩ : ∃ sh, it.set xh = sh := ⟨_, rfl⟩
    rw [hsb] at q1
    rw [hsh] at q2
    have HA3 : Hid (A = if sb = true ∨ sh = false then some (st + 1, none) else K i (st + 1) c) := hid (by rw [HA2.out, hxb, hxh, hsb, hsh])
    clear HA2 hsb hsh
    have f1 : 0 < i → ∃ h : i - 1 < s.size, s[i - 1].toNat = xb := fun h => ⟨by omega, by rw [← hxb, if_pos h, bt_of_lt (by omega)]; omega⟩
    have f2 : ¬ 0 < i → xb = 0 := fun h => by rw [← hxb, if_neg h]; rfl
    have f3 : i < s.size → ∃ h : i < s.size, s[i].toNat = xh := fun h => ⟨h, by rw [← hxh, bt_of_lt h]; omega⟩
    have f4 : ¬ i < s.size → xh = 0 := fun h => by rw [← hxh, bt_of_ge (by omega)]; rfl
    clear hxb hxh hset hsetW
    have hfin : ∀ w' , TS lo w' m s (.slice (some ⟨gi, 0, none⟩) P.items.length cap) pg P gs fg tg (st + 1) c → Keeps w.heap.size [m, fg, tg] w w' → (sb = true ∨ sh = false) → TryPost lo (D + 1) m s (.slice (some ⟨gi, 0, none⟩) P.items.length cap) pg P gs fg tg A c w (.returned (.int .i64 (-1))) w' :=
      fun w' a b d => TryPost.fail (HA3.out.trans (if_pos d)) a b (by omega)
    have hgo : ¬ (sb = true ∨ sh = false) → Hid (K i (st + 1) c = A) := fun d => hid (by rw [HA3.out, if_neg d])
    by_cases hi0 : 0 < i
    · obtain ⟨h1, g1⟩ := f1 hi0
      clear f1 f2
      obtain ⟨i', rfl⟩ : ∃ x, i = x + 1 := ⟨i - 1, by omega⟩
      simp only [Nat.add_sub_cancel] at g1 h1
      by_cases hin : i' + 1 < s.size
      · obtain ⟨h2, g2⟩ := f3 hin
        clear f3 f4
        have hd1 : decide (i' + 1 < s.size) = true := decide_eq_true hin
        cases sb
        all_goals cases sh
        all_goals go_wp2_with fail
        all_goals first
          | (go_ret; exact hfin _ hT hKW (by simp))
          | (refine (U.H.at (i := i' + 1) (by omega) (by simp) (by omega) (by omega) gd hT (hgo (by simp)).out).mono ?_; rintro e w2 hpost; obtain ⟨v, rfl⟩ : ∃ v, e = .returned (.int .i64 v) := hpost.form; go_wp2_with fail; go_ret; exact hpost.up.from_ hKW)
      · have g2 := f4 hin
        subst g2
        clear f3 f4
        have hd1 : decide (i' + 1 < s.size) = false := decide_eq_false hin
        cases sb
        all_goals cases sh
        all_goals go_wp2_with fail
        all_goals first
          | (go_ret; exact hfin _ hT hKW (by simp))
          | (refine (U.H.at (i := i' + 1) (by omega) (by simp) (by omega) (by omega) gd hT (hgo (by simp)).out).mono ?_; rintro e w2 hpost; obtain ⟨v, rfl⟩ : ∃ v, e = .returned (.int .i64 v) := hpost.form; go_wp2_with fail; go_ret; exact hpost.up.from_ hKW)
    · have g1 := f2 hi0
      subst g1
      obtain rfl : i = 0 := by omega
      clear f1 f2
      by_cases hin : 0 < s.size
      · obtain ⟨h2, g2⟩ := f3 hin
        clear f3 f4
        have hd1 : decide (0 < s.size) = true := decide_eq_true hin
        cases sb
        all_goals cases sh
        all_goals go_wp2_with fail
        all_goals first
          | (go_ret; exact hfin _ hT hKW (by simp))
          | (refine (U.H.at (i := 0) (by omega) (by simp) (by omega) (by omega) gd hT (hgo (by simp)).out).mono ?_; rintro e w2 hpost; obtain ⟨v, rfl⟩ : ∃ v, e = .returned (.int .i64 v) := hpost.form; go_wp2_with fail; go_ret; exact hpost.up.from_ hKW)
      · have g2 := f4 hin
        subst g2
        clear f3 f4
        have hd1 : decide (0 < s.size) = false := decide_eq_false hin
        cases sb
        all_goals cases sh
        all_goals first
          | (exfalso; rw [q1] at q2; simp at q2; done)
          | skip
        all_goals go_wp2_with fail
        all_goals first
          | (go_ret; exact hfin _ hT hKW (by simp))
          | (refine (U.H.at (i := 0) (by omega) (by simp) (by omega) (by omega) gd hT (hgo (by simp)).out).mono ?_; rintro e w2 hpost; obtain ⟨v, rfl⟩ : ∃ v, e = .returned (.int .i64 v) := hpost.form; go_wp2_with fail; go_ret; exact hpost.up.from_ hKW)

set_option maxRecDepth 100000 in
set_option maxHeartbeats 4000000 in
theorem try7 (U : UnderT lo D m s vi pg P gs fg tg k K good good' it g i st c w) (pl : Nat → Bool) (hk0 : it.kind = 7) (gd : good' i c) :
    Calls Tryd.prog 34 #[.pointer (some ⟨m, 0, none⟩), .int .i64 k, .int .i64 i] w fun e w' => TryPost lo (D + 1) m s vi pg P gs fg tg (stepA s pl it K i st c) c w e w' := by
  obtain ⟨A, hA⟩ : ∃ A, A = stepA s pl it K i st c := ⟨_, rfl⟩
  rw [← hA]
  have HA := hid hA
  clear hA
  have hkl : k < P.items.length := (List.getElem?_eq_some_iff.1 U.e1).1
  have hi := U.hi
  have hs := U.hs
  have hl := U.hl
  have hD := U.hD
  have hD2 := U.hD2
  have hst := U.hst
  obtain ⟨gi, cap, rfl, hgm, m0, m1, m2, m3, m4, m5⟩ := U.T.item6 U.e1 U.e2
  have hsf : setV it g = .slice none 0 0 := if_neg (by omega)
  rw [hsf] at m1
  clear hsf
  obtain ⟨c0, c1, c2, c3, c4, c5, c6, f6⟩ := U.T.blk.cells
  have hT1 := U.T.setSt (v := (st : Int) + 1) (st' := st + 1) rfl
  have hK1 := (keeps_set w ⟨m, 6, none⟩ (.int .i64 ((st : Int) + 1))).mono (S := [m, fg, tg]) (Nat.le_refl _) (by simp)
  have HT1 := hid hT1
  have HK1 := hid hK1
  clear hT1 hK1
  have z0 : ((it.kind : Int) == 0) = false := by rw [hk0]; rfl
  have z1 : ((it.kind : Int) == 1) = false := by rw [hk0]; rfl
  have z2 : ((it.kind : Int) == 2) = false := by rw [hk0]; rfl
  have z3 : ((it.kind : Int) == 3) = false := by rw [hk0]; rfl
  have z4 : ((it.kind : Int) == 4) = false := by rw [hk0]; rfl
  have z5 : ((it.kind : Int) == 5) = false := by rw [hk0]; rfl
  have z6 : ((it.kind : Int) == 6) = false := by rw [hk0]; rfl
  have HK0 := hid hk0
  clear hk0
  go_enter Tryd.func34, Tryd.ntmps34
  go_wp2_with fail
  by_cases ho : 50000 < st + 1
  · refine (spent_yes m (st + 1) _ (by go_simp) ho).mono ?_
    rintro e w' ⟨rfl, rfl⟩
    go_wp2_with fail
    go_ret
    exact TryPost.spent (HA.out.trans (if_pos ho)) HT1.out HK1.out (by omega) (by omega)
  · have HA1 : Hid (A = stepIt s false pl it K i (st + 1) c) := hid (HA.out.trans (if_neg ho))
    clear HA
    refine (spent_no m (st + 1) _ (by go_simp) (by omega)).mono ?_
    rintro e w' ⟨rfl, rfl⟩
    go_upto_region 7 with fail
    obtain ⟨W, hW⟩ : ∃ W, W = (w.setCell ⟨m, 6, none⟩ (.int .i64 ((st : Int) + 1))).alloc (.cells #[.int .i64 it.kind, .slice none 0 0, .int .u8 it.sign, .int .i64 it.n, .int .u8 it.x, .int .u8 it.y] 94) := ⟨_, rfl⟩
    have hWb : W.heap[w.heap.size]? = some (.cells #[.int .i64 it.kind, .slice none 0 0, .int .u8 it.sign, .int .i64 it.n, .int .u8 it.x, .int .u8 it.y] 94 (0, 0)) := by rw [hW, ← World.size_setCell (w := w)]; exact blk_new _ _
    have hKa : Keeps (w.setCell ⟨m, 6, none⟩ (.int .i64 ((st : Int) + 1))).heap.size [] (w.setCell ⟨m, 6, none⟩ (.int .i64 ((st : Int) + 1))) W := by rw [hW]; exact (Keeps.refl _ _ _).alloc (Nat.le_refl _) _
    have hT := HT1.out.keeps hKa
    have hKW : Keeps w.heap.size [m, fg, tg] w W := HK1.out.then3 (hKa.mono (Nat.le_refl _) (by simp))
    rw [← hW]
    clear hW hKa m0 m1 m2 m3 m4 m5 c0 c1 c2 c3 c4 c5 c6 f6 HT1 HK1
    obtain ⟨c0, c1, c2, c3, c4, c5, c6, f6⟩ := hT.blk.cells
    have b0 := blk_cell hWb 0
    have b1 := blk_cell hWb 1
    have b2 := blk_cell hWb 2
    have b3 := blk_cell hWb 3
    have b4 := blk_cell hWb 4
    have b5 := blk_cell hWb 5
    by_cases hin : i = s.size
    · have hd1 : ((i : Int) != s.size) = false := by simp; omega
      have HG : Hid (K i (st + 1) c = A) := hid (by rw [HA1.out]; unfold stepIt; rw [HK0.out]; exact (if_pos hin).symm)
      have HIN := hid hin
      clear hin
      go_wp2_with fail
      refine (U.H.at (by omega) rfl (by omega) (by omega) gd hT HG.out).mono ?_
      rintro e w2 hpost
      obtain ⟨v, rfl⟩ : ∃ v, e = .returned (.int .i64 v) := hpost.form
      go_wp2_with fail
      go_ret
      exact hpost.up.from_ hKW
    · have hd1 : ((i : Int) != s.size) = true := by simp; omega
      have HG : Hid (A = some (st + 1, none)) := hid (by rw [HA1.out]; unfold stepIt; rw [HK0.out]; exact (if_neg hin))
      clear hin
      go_wp2_with fail
      go_ret
      exact TryPost.fail HG.out hT hKW (by omega)
end
end Go.Proofs.YtpinoolagbghnaaDoor
