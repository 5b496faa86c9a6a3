/-
  Walk: the reference's matcher: try at an item that touches captures.
-/
import Derived.Test.YtpinoolagbghnaaDoorZTryT
namespace Go.Proofs.YtpinoolagbghnaaDoor
set_option linter.unusedVariables false
open Go.RowKit Pat

section
variable {lo D m pg fg tg k g i st : Nat} {s : ByteArray} {vi : Value} {P : Pt} {gs : List Nat} {K : Nat → Nat → Cap → Ans} {good good' : Nat → Cap → Prop} {it : It} {c : Cap} {w : World}

theorem TS.drewK (h : TS lo w m s vi pg P gs fg tg st c) : TS lo w.drew m s vi pg P gs fg tg st c := h.keeps (Keeps.refl _ _ _).drew

--THEOREMS

set_option maxRecDepth 100000 in
set_option maxHeartbeats 4000000 in
theorem try1 (U : UnderT lo D m s vi pg P gs fg tg k K good good' it g i st c w) (pl : Nat → Bool) (hk0 : it.kind = 1) (hnc : it.n < P.caps) (hcp : P.caps ≤ 16) (gd : good' i ⟨c.pl, upd c.frm it.n i, c.to⟩) :
    Calls Tryd.prog 34 #[.pointer (some ⟨m, 0, none⟩), .int .i64 k, .int .i64 i] w fun e w' => TryPost lo (D + 1) m s vi pg P gs fg tg (stepA s pl it K i st c) c w e w' := by
  obtain ⟨A, hA⟩ : ∃ A, A = stepA s pl it K i st c := ⟨_, rfl⟩
  rw [← hA]
  have HA := hid hA
  clear hA
  have hkl : k < P.items.length := (List.getElem?_eq_some_iff.1 U.e1).1
  have hi := U.hi
  have hs := U.hs
  have hl := U.hl
  have hD := U.hD
  have hD2 := U.hD2
  have hst := U.hst
  obtain ⟨gi, cap, rfl, hgm, m0, m1, m2, m3, m4, m5⟩ := U.T.item6 U.e1 U.e2
  have hsf : setV it g = .slice none 0 0 := if_neg (by omega)
  rw [hsf] at m1
  clear hsf
  obtain ⟨c0, c1, c2, c3, c4, c5, c6, f6⟩ := U.T.blk.cells
  have hT1 := U.T.setSt (v := (st : Int) + 1) (st' := st + 1) rfl
  have hK1 := (keeps_set w ⟨m, 6, none⟩ (.int .i64 ((st : Int) + 1))).mono (S := [m, fg, tg]) (Nat.le_refl _) (by simp)
  have HT1 := hid hT1
  have HK1 := hid hK1
  clear hT1 hK1
  have z0 : ((it.kind : Int) == 0) = false := by rw [hk0]; rfl
  have z1 : ((it.kind : Int) == 1) = true := by rw [hk0]; rfl
  have HK0 := hid hk0
  clear hk0
  go_enter Tryd.func34, Tryd.ntmps34
  go_wp2_with fail
  by_cases ho : 50000 < st + 1
  · refine (spent_yes m (st + 1) _ (by go_simp) ho).mono ?_
    rintro e w' ⟨rfl, rfl⟩
    go_wp2_with fail
    go_ret
    exact TryPost.spent (HA.out.trans (if_pos ho)) HT1.out HK1.out (by omega) (by omega)
  · have HA1 : Hid (A = stepIt s false pl it K i (st + 1) c) := hid (HA.out.trans (if_neg ho))
    clear HA
    refine (spent_no m (st + 1) _ (by go_simp) (by omega)).mono ?_
    rintro e w' ⟨rfl, rfl⟩
    go_upto_region 7 with fail
    obtain ⟨W, hW⟩ : ∃ W, W = (w.setCell ⟨m, 6, none⟩ (.int .i64 ((st : Int) + 1))).alloc (.cells #[.int .i64 it.kind, .slice none 0 0, .int .u8 it.sign, .int .i64 it.n, .int .u8 it.x, .int .u8 it.y] 94) := ⟨_, rfl⟩
    have hWb : W.heap[w.heap.size]? = some (.cells #[.int .i64 it.kind, .slice none 0 0, .int .u8 it.sign, .int .i64 it.n, .int .u8 it.x, .int .u8 it.y] 94 (0, 0)) := by rw [hW, ← World.size_setCell (w := w)]; exact blk_new _ _
    have hKa : Keeps (w.setCell ⟨m, 6, none⟩ (.int .i64 ((st : Int) + 1))).heap.size [] (w.setCell ⟨m, 6, none⟩ (.int .i64 ((st : Int) + 1))) W := by rw [hW]; exact (Keeps.refl _ _ _).alloc (Nat.le_refl _) _
    have hT := HT1.out.keeps hKa
    have hKW : Keeps w.heap.size [m, fg, tg] w W := HK1.out.then3 (hKa.mono (Nat.le_refl _) (by simp))
    rw [← hW]
    clear hW hKa m0 m1 m2 m3 m4 m5 c0 c1 c2 c3 c4 c5 c6 f6 HT1 HK1
    obtain ⟨c0, c1, c2, c3, c4, c5, c6, f6⟩ := hT.blk.cells
    have b0 := blk_cell hWb 0
    have b1 := blk_cell hWb 1
    have b2 := blk_cell hWb 2
    have b3 := blk_cell hWb 3
    have b4 := blk_cell hWb 4
    have b5 := blk_cell hWb 5
    have HG : Hid (A = match K i (st + 1) ⟨c.pl, upd c.frm it.n i, c.to⟩ with | none => none | some (st', some r) => some (st', some r) | some (st', none) => some (st', none)) := hid (by rw [HA1.out]; unfold stepIt; rw [HK0.out]; rfl)
    have r1 := hT.fr.cell hnc
    have r2 := hT.fr.frozen it.n
    obtain ⟨n1, n2, n3, n4, n5, n6, n7, n8⟩ := hT.ms
    have hoff := hT.off hWb (by decide) (by decide)
    have n9 : ¬ w.heap.size = fg := by simp at hoff; exact hoff.2.1
    have hnc' : (0 : Int) ≤ it.n ∧ (it.n : Int) < P.caps := ⟨by omega, by omega⟩
    go_upto_region 12 with fail
    go_quiet (fail)
    go_upto_region 13 with fail
    go_region
    go_wp2_with fail
    have hTx : ∀ n, TS lo ((W.drewN n).setCell ⟨fg, it.n, none⟩ (.int .i64 i)) m s (.slice (some ⟨gi, 0, none⟩) P.items.length cap) pg P gs fg tg (st + 1) ⟨c.pl, upd c.frm it.n i, c.to⟩ := fun n => ((hT.keeps (keeps_drewN W n)).setFrm it.n i)
    have hkx : ∀ n, Keeps W.heap.size [m, fg, tg] W ((W.drewN n).setCell ⟨fg, it.n, none⟩ (.int .i64 i)) := fun n => ((Keeps.refl _ _ _).drewN n).setCell (Or.inl (by simp)) _
    have hbx := fun n => (hkx n).blk hWb (blk_lt hWb) hoff
    have hlx := fun n => blk_lt (hbx n)
    refine (U.H.at (i := i) (c := ⟨c.pl, upd c.frm it.n i, c.to⟩) (by omega) rfl hi (by omega) gd (hTx _) rfl).mono ?_
    rintro e w2 hpost
    clear r1 r2 c0 c1 c2 c3 c4 c5 c6 f6 b0 b1 b2 b3 b4 b5
    rcases hpost with ⟨hk1, st2, c2', hT2, hK2, hs2, hs3, rfl⟩ | ⟨st2, hk1, hT2, hK2, hs2, rfl⟩ | ⟨st2, e2, c2', hk1, hT2, hK2, hs2, he2, rfl⟩
    · have HN : Hid (A = none) := hid (by rw [HG.out, hk1])
      have hb2 := hK2.blk (hbx _) (hlx _) hoff
      have hkk2 := hKW.then3 ((hkx _).then3 hK2)
      clear hk1 hK2 HG hbx hlx hkx hTx
      obtain ⟨c0, c1, c2, c3, c4, c5, c6, f6⟩ := hT2.blk.cells
      have r1 := hT2.fr.cell hnc
      have r2 := hT2.fr.frozen it.n
      have b3 := blk_cell hb2 3
      go_upto_region 16 with fail
      go_region
      go_wp2_with fail
      go_ret
      have hTb := (hT2.setFrm it.n (c.frm it.n))
      exact TryPost.spent (st' := st2) HN.out hTb.drewK (hkk2.then3 ((keeps_set w2 ⟨fg, it.n, none⟩ (.int .i64 (c.frm it.n))).mono (Nat.le_refl _) (by simp)).drew) hs2 (by omega)
    · have HN : Hid (A = some (st2, none)) := hid (by rw [HG.out, hk1])
      have hb2 := hK2.blk (hbx _) (hlx _) hoff
      have hkk2 := hKW.then3 ((hkx _).then3 hK2)
      clear hk1 hK2 HG hbx hlx hkx hTx
      obtain ⟨c0, c1, c2, c3, c4, c5, c6, f6⟩ := hT2.blk.cells
      have r1 := hT2.fr.cell hnc
      have r2 := hT2.fr.frozen it.n
      have b3 := blk_cell hb2 3
      go_upto_region 16 with fail
      go_region
      go_wp2_with fail
      go_ret
      have hTb := (hT2.setFrm it.n (c.frm it.n))
      have hback : ∀ f : Nat → Nat, upd (upd f it.n i) it.n (f it.n) = f := fun f => by funext j; unfold upd; split <;> simp_all
      simp only [hback] at hTb
      exact TryPost.fail (st' := st2) HN.out hTb.drewK (hkk2.then3 ((keeps_set w2 ⟨fg, it.n, none⟩ (.int .i64 (c.frm it.n))).mono (Nat.le_refl _) (by simp)).drew) hs2
    · have hkk2 := hKW.then3 ((hkx _).then3 hK2)
      go_wp2_with fail
      go_ret
      exact TryPost.hit (by rw [HG.out, hk1]) hT2 hkk2 hs2 he2

set_option maxRecDepth 100000 in
set_option maxHeartbeats 4000000 in
theorem try2 (U : UnderT lo D m s vi pg P gs fg tg k K good good' it g i st c w) (pl : Nat → Bool) (hk0 : it.kind = 2) (hnc : it.n < P.caps) (hcp : P.caps ≤ 16) (gd : good' i ⟨c.pl, upd c.frm it.n i, c.to⟩) :
    Calls Tryd.prog 34 #[.pointer (some ⟨m, 0, none⟩), .int .i64 k, .int .i64 i] w fun e w' => TryPost lo (D + 1) m s vi pg P gs fg tg (stepA s pl it K i st c) c w e w' := by
  obtain ⟨A, hA⟩ : ∃ A, A = stepA s pl it K i st c := ⟨_, rfl⟩
  rw [← hA]
  have HA := hid hA
  clear hA
  have hkl : k < P.items.length := (List.getElem?_eq_some_iff.1 U.e1).1
  have hi := U.hi
  have hs := U.hs
  have hl := U.hl
  have hD := U.hD
  have hD2 := U.hD2
  have hst := U.hst
  obtain ⟨gi, cap, rfl, hgm, m0, m1, m2, m3, m4, m5⟩ := U.T.item6 U.e1 U.e2
  have hsf : setV it g = .slice none 0 0 := if_neg (by omega)
  rw [hsf] at m1
  clear hsf
  obtain ⟨c0, c1, c2, c3, c4, c5, c6, f6⟩ := U.T.blk.cells
  have hT1 := U.T.setSt (v := (st : Int) + 1) (st' := st + 1) rfl
  have hK1 := (keeps_set w ⟨m, 6, none⟩ (.int .i64 ((st : Int) + 1))).mono (S := [m, fg, tg]) (Nat.le_refl _) (by simp)
  have HT1 := hid hT1
  have HK1 := hid hK1
  clear hT1 hK1
  have z0 : ((it.kind : Int) == 0) = false := by rw [hk0]; rfl
  have z1 : ((it.kind : Int) == 1) = false := by rw [hk0]; rfl
  have z2 : ((it.kind : Int) == 2) = true := by rw [hk0]; rfl
  have HK0 := hid hk0
  clear hk0
  go_enter Tryd.func34, Tryd.ntmps34
  go_wp2_with fail
  by_cases ho : 50000 < st + 1
  · refine (spent_yes m (st + 1) _ (by go_simp) ho).mono ?_
    rintro e w' ⟨rfl, rfl⟩
    go_wp2_with fail
    go_ret
    exact TryPost.spent (HA.out.trans (if_pos ho)) HT1.out HK1.out (by omega) (by omega)
  · have HA1 : Hid (A = stepIt s false pl it K i (st + 1) c) := hid (HA.out.trans (if_neg ho))
    clear HA
    refine (spent_no m (st + 1) _ (by go_simp) (by omega)).mono ?_
    rintro e w' ⟨rfl, rfl⟩
    go_upto_region 7 with fail
    obtain ⟨W, hW⟩ : ∃ W, W = (w.setCell ⟨m, 6, none⟩ (.int .i64 ((st : Int) + 1))).alloc (.cells #[.int .i64 it.kind, .slice none 0 0, .int .u8 it.sign, .int .i64 it.n, .int .u8 it.x, .int .u8 it.y] 94) := ⟨_, rfl⟩
    have hWb : W.heap[w.heap.size]? = some (.cells #[.int .i64 it.kind, .slice none 0 0, .int .u8 it.sign, .int .i64 it.n, .int .u8 it.x, .int .u8 it.y] 94 (0, 0)) := by rw [hW, ← World.size_setCell (w := w)]; exact blk_new _ _
    have hKa : Keeps (w.setCell ⟨m, 6, none⟩ (.int .i64 ((st : Int) + 1))).heap.size [] (w.setCell ⟨m, 6, none⟩ (.int .i64 ((st : Int) + 1))) W := by rw [hW]; exact (Keeps.refl _ _ _).alloc (Nat.le_refl _) _
    have hT := HT1.out.keeps hKa
    have hKW : Keeps w.heap.size [m, fg, tg] w W := HK1.out.then3 (hKa.mono (Nat.le_refl _) (by simp))
    rw [← hW]
    clear hW hKa m0 m1 m2 m3 m4 m5 c0 c1 c2 c3 c4 c5 c6 f6 HT1 HK1
    obtain ⟨c0, c1, c2, c3, c4, c5, c6, f6⟩ := hT.blk.cells
    have b0 := blk_cell hWb 0
    have b1 := blk_cell hWb 1
    have b2 := blk_cell hWb 2
    have b3 := blk_cell hWb 3
    have b4 := blk_cell hWb 4
    have b5 := blk_cell hWb 5
    have HG : Hid (A = match K i (st + 1) ⟨c.pl, upd c.frm it.n i, c.to⟩ with | none => none | some (st', some r) => some (st', some r) | some (st', none) => some (st', none)) := hid (by rw [HA1.out]; unfold stepIt; rw [HK0.out]; rfl)
    have r1 := hT.fr.cell hnc
    have r2 := hT.fr.frozen it.n
    obtain ⟨n1, n2, n3, n4, n5, n6, n7, n8⟩ := hT.ms
    have hoff := hT.off hWb (by decide) (by decide)
    have n9 : ¬ w.heap.size = fg := by simp at hoff; exact hoff.2.1
    have hnc' : (0 : Int) ≤ it.n ∧ (it.n : Int) < P.caps := ⟨by omega, by omega⟩
    go_upto_region 12 with fail
    go_quiet (fail)
    go_upto_region 13 with fail
    go_region
    go_wp2_with fail
    have hTx : ∀ n, TS lo ((W.drewN n).setCell ⟨fg, it.n, none⟩ (.int .i64 i)) m s (.slice (some ⟨gi, 0, none⟩) P.items.length cap) pg P gs fg tg (st + 1) ⟨c.pl, upd c.frm it.n i, c.to⟩ := fun n => ((hT.keeps (keeps_drewN W n)).setFrm it.n i)
    have hkx : ∀ n, Keeps W.heap.size [m, fg, tg] W ((W.drewN n).setCell ⟨fg, it.n, none⟩ (.int .i64 i)) := fun n => ((Keeps.refl _ _ _).drewN n).setCell (Or.inl (by simp)) _
    have hbx := fun n => (hkx n).blk hWb (blk_lt hWb) hoff
    have hlx := fun n => blk_lt (hbx n)
    refine (U.H.at (i := i) (c := ⟨c.pl, upd c.frm it.n i, c.to⟩) (by omega) rfl hi (by omega) gd (hTx _) rfl).mono ?_
    rintro e w2 hpost
    clear r1 r2 c0 c1 c2 c3 c4 c5 c6 f6 b0 b1 b2 b3 b4 b5
    rcases hpost with ⟨hk1, st2, c2', hT2, hK2, hs2, hs3, rfl⟩ | ⟨st2, hk1, hT2, hK2, hs2, rfl⟩ | ⟨st2, e2, c2', hk1, hT2, hK2, hs2, he2, rfl⟩
    · have HN : Hid (A = none) := hid (by rw [HG.out, hk1])
      have hb2 := hK2.blk (hbx _) (hlx _) hoff
      have hkk2 := hKW.then3 ((hkx _).then3 hK2)
      clear hk1 hK2 HG hbx hlx hkx hTx
      obtain ⟨c0, c1, c2, c3, c4, c5, c6, f6⟩ := hT2.blk.cells
      have r1 := hT2.fr.cell hnc
      have r2 := hT2.fr.frozen it.n
      have b3 := blk_cell hb2 3
      go_upto_region 16 with fail
      go_region
      go_wp2_with fail
      go_ret
      have hTb := (hT2.setFrm it.n (c.frm it.n))
      exact TryPost.spent (st' := st2) HN.out hTb.drewK (hkk2.then3 ((keeps_set w2 ⟨fg, it.n, none⟩ (.int .i64 (c.frm it.n))).mono (Nat.le_refl _) (by simp)).drew) hs2 (by omega)
    · have HN : Hid (A = some (st2, none)) := hid (by rw [HG.out, hk1])
      have hb2 := hK2.blk (hbx _) (hlx _) hoff
      have hkk2 := hKW.then3 ((hkx _).then3 hK2)
      clear hk1 hK2 HG hbx hlx hkx hTx
      obtain ⟨c0, c1, c2, c3, c4, c5, c6, f6⟩ := hT2.blk.cells
      have r1 := hT2.fr.cell hnc
      have r2 := hT2.fr.frozen it.n
      have b3 := blk_cell hb2 3
      go_upto_region 16 with fail
      go_region
      go_wp2_with fail
      go_ret
      have hTb := (hT2.setFrm it.n (c.frm it.n))
      have hback : ∀ f : Nat → Nat, upd (upd f it.n i) it.n (f it.n) = f := fun f => by funext j; unfold upd; split <;> simp_all
      simp only [hback] at hTb
      exact TryPost.fail (st' := st2) HN.out hTb.drewK (hkk2.then3 ((keeps_set w2 ⟨fg, it.n, none⟩ (.int .i64 (c.frm it.n))).mono (Nat.le_refl _) (by simp)).drew) hs2
    · have hkk2 := hKW.then3 ((hkx _).then3 hK2)
      go_wp2_with fail
      go_ret
      exact TryPost.hit (by rw [HG.out, hk1]) hT2 hkk2 hs2 he2

set_option maxRecDepth 100000 in
set_option maxHeartbeats 4000000 in
theorem try3 (U : UnderT lo D m s vi pg P gs fg tg k K good good' it g i st c w) (pl : Nat → Bool) (hk0 : it.kind = 3) (hnc : it.n < P.caps) (hcp : P.caps ≤ 16) (gd : good' i ⟨c.pl, c.frm, upd c.to it.n i⟩) :
    Calls Tryd.prog 34 #[.pointer (some ⟨m, 0, none⟩), .int .i64 k, .int .i64 i] w fun e w' => TryPost lo (D + 1) m s vi pg P gs fg tg (stepA s pl it K i st c) c w e w' := by
  obtain ⟨A, hA⟩ : ∃ A, A = stepA s pl it K i st c := ⟨_, rfl⟩
  rw [← hA]
  have HA := hid hA
  clear hA
  have hkl : k < P.items.length := (List.getElem?_eq_some_iff.1 U.e1).1
  have hi := U.hi
  have hs := U.hs
  have hl := U.hl
  have hD := U.hD
  have hD2 := U.hD2
  have hst := U.hst
  obtain ⟨gi, cap, rfl, hgm, m0, m1, m2, m3, m4, m5⟩ := U.T.item6 U.e1 U.e2
  have hsf : setV it g = .slice none 0 0 := if_neg (by omega)
  rw [hsf] at m1
  clear hsf
  obtain ⟨c0, c1, c2, c3, c4, c5, c6, f6⟩ := U.T.blk.cells
  have hT1 := U.T.setSt (v := (st : Int) + 1) (st' := st + 1) rfl
  have hK1 := (keeps_set w ⟨m, 6, none⟩ (.int .i64 ((st : Int) + 1))).mono (S := [m, fg, tg]) (Nat.le_refl _) (by simp)
  have HT1 := hid hT1
  have HK1 := hid hK1
  clear hT1 hK1
  have z0 : ((it.kind : Int) == 0) = false := by rw [hk0]; rfl
  have z1 : ((it.kind : Int) == 1) = false := by rw [hk0]; rfl
  have z2 : ((it.kind : Int) == 2) = false := by rw [hk0]; rfl
  have z3 : ((it.kind : Int) == 3) = true := by rw [hk0]; rfl
  have HK0 := hid hk0
  clear hk0
  go_enter Tryd.func34, Tryd.ntmps34
  go_wp2_with fail
  by_cases ho : 50000 < st + 1
  · refine (spent_yes m (st + 1) _ (by go_simp) ho).mono ?_
    rintro e w' ⟨rfl, rfl⟩
    go_wp2_with fail
    go_ret
    exact TryPost.spent (HA.out.trans (if_pos ho)) HT1.out HK1.out (by omega) (by omega)
  · have HA1 : Hid (A = stepIt s false pl it K i (st + 1) c) := hid (HA.out.trans (if_neg ho))
    clear HA
    refine (spent_no m (st + 1) _ (by go_simp) (by omega)).mono ?_
    rintro e w' ⟨rfl, rfl⟩
    go_upto_region 7 with fail
    obtain ⟨W, hW⟩ : ∃ W, W = (w.setCell ⟨m, 6, none⟩ (.int .i64 ((st : Int) + 1))).alloc (.cells #[.int .i64 it.kind, .slice none 0 0, .int .u8 it.sign, .int .i64 it.n, .int .u8 it.x, .int .u8 it.y] 94) := ⟨_, rfl⟩
    have hWb : W.heap[w.heap.size]? = some (.cells #[.int .i64 it.kind, .slice none 0 0, .int .u8 it.sign, .int .i64 it.n, .int .u8 it.x, .int .u8 it.y] 94 (0, 0)) := by rw [hW, ← World.size_setCell (w := w)]; exact blk_new _ _
    have hKa : Keeps (w.setCell ⟨m, 6, none⟩ (.int .i64 ((st : Int) + 1))).heap.size [] (w.setCell ⟨m, 6, none⟩ (.int .i64 ((st : Int) + 1))) W := by rw [hW]; exact (Keeps.refl _ _ _).alloc (Nat.le_refl _) _
    have hT := HT1.out.keeps hKa
    have hKW : Keeps w.heap.size [m, fg, tg] w W := HK1.out.then3 (hKa.mono (Nat.le_refl _) (by simp))
    rw [← hW]
    clear hW hKa m0 m1 m2 m3 m4 m5 c0 c1 c2 c3 c4 c5 c6 f6 HT1 HK1
    obtain ⟨c0, c1, c2, c3, c4, c5, c6, f6⟩ := hT.blk.cells
    have b0 := blk_cell hWb 0
    have b1 := blk_cell hWb 1
    have b2 := blk_cell hWb 2
    have b3 := blk_cell hWb 3
    have b4 := blk_cell hWb 4
    have b5 := blk_cell hWb 5
    have HG : Hid (A = match K i (st + 1) ⟨c.pl, c.frm, upd c.to it.n i⟩ with | none => none | some (st', some r) => some (st', some r) | some (st', none) => some (st', none)) := hid (by rw [HA1.out]; unfold stepIt; rw [HK0.out]; rfl)
    have r1 := hT.tor.cell hnc
    have r2 := hT.tor.frozen it.n
    obtain ⟨n1, n2, n3, n4, n5, n6, n7, n8⟩ := hT.ms
    have hoff := hT.off hWb (by decide) (by decide)
    have n9 : ¬ w.heap.size = tg := by simp at hoff; exact hoff.2.2
    have hnc' : (0 : Int) ≤ it.n ∧ (it.n : Int) < P.caps := ⟨by omega, by omega⟩
    go_upto_region 19 with fail
    go_quiet (fail)
    go_upto_region 20 with fail
    go_region
    go_wp2_with fail
    have hTx : ∀ n, TS lo ((W.drewN n).setCell ⟨tg, it.n, none⟩ (.int .i64 i)) m s (.slice (some ⟨gi, 0, none⟩) P.items.length cap) pg P gs fg tg (st + 1) ⟨c.pl, c.frm, upd c.to it.n i⟩ := fun n => ((hT.keeps (keeps_drewN W n)).setTo it.n i)
    have hkx : ∀ n, Keeps W.heap.size [m, fg, tg] W ((W.drewN n).setCell ⟨tg, it.n, none⟩ (.int .i64 i)) := fun n => ((Keeps.refl _ _ _).drewN n).setCell (Or.inl (by simp)) _
    have hbx := fun n => (hkx n).blk hWb (blk_lt hWb) hoff
    have hlx := fun n => blk_lt (hbx n)
    refine (U.H.at (i := i) (c := ⟨c.pl, c.frm, upd c.to it.n i⟩) (by omega) rfl hi (by omega) gd (hTx _) rfl).mono ?_
    rintro e w2 hpost
    clear r1 r2 c0 c1 c2 c3 c4 c5 c6 f6 b0 b1 b2 b3 b4 b5
    rcases hpost with ⟨hk1, st2, c2', hT2, hK2, hs2, hs3, rfl⟩ | ⟨st2, hk1, hT2, hK2, hs2, rfl⟩ | ⟨st2, e2, c2', hk1, hT2, hK2, hs2, he2, rfl⟩
    · have HN : Hid (A = none) := hid (by rw [HG.out, hk1])
      have hb2 := hK2.blk (hbx _) (hlx _) hoff
      have hkk2 := hKW.then3 ((hkx _).then3 hK2)
      clear hk1 hK2 HG hbx hlx hkx hTx
      obtain ⟨c0, c1, c2, c3, c4, c5, c6, f6⟩ := hT2.blk.cells
      have r1 := hT2.tor.cell hnc
      have r2 := hT2.tor.frozen it.n
      have b3 := blk_cell hb2 3
      go_upto_region 23 with fail
      go_region
      go_wp2_with fail
      go_ret
      have hTb := (hT2.setTo it.n (c.to it.n))
      exact TryPost.spent (st' := st2) HN.out hTb.drewK (hkk2.then3 ((keeps_set w2 ⟨tg, it.n, none⟩ (.int .i64 (c.to it.n))).mono (Nat.le_refl _) (by simp)).drew) hs2 (by omega)
    · have HN : Hid (A = some (st2, none)) := hid (by rw [HG.out, hk1])
      have hb2 := hK2.blk (hbx _) (hlx _) hoff
      have hkk2 := hKW.then3 ((hkx _).then3 hK2)
      clear hk1 hK2 HG hbx hlx hkx hTx
      obtain ⟨c0, c1, c2, c3, c4, c5, c6, f6⟩ := hT2.blk.cells
      have r1 := hT2.tor.cell hnc
      have r2 := hT2.tor.frozen it.n
      have b3 := blk_cell hb2 3
      go_upto_region 23 with fail
      go_region
      go_wp2_with fail
      go_ret
      have hTb := (hT2.setTo it.n (c.to it.n))
      have hback : ∀ f : Nat → Nat, upd (upd f it.n i) it.n (f it.n) = f := fun f => by funext j; unfold upd; split <;> simp_all
      simp only [hback] at hTb
      exact TryPost.fail (st' := st2) HN.out hTb.drewK (hkk2.then3 ((keeps_set w2 ⟨tg, it.n, none⟩ (.int .i64 (c.to it.n))).mono (Nat.le_refl _) (by simp)).drew) hs2
    · have hkk2 := hKW.then3 ((hkx _).then3 hK2)
      go_wp2_with fail
      go_ret
      exact TryPost.hit (by rw [HG.out, hk1]) hT2 hkk2 hs2 he2
end
end Go.Proofs.YtpinoolagbghnaaDoor
