/-
  Walk: the reference's matcher: try at an item that stands for a capture.
  Walk: the reference's matcher: try comes to the plain word tryP at every item of a well formed pattern.
-/
import Derived.Test.YtpinoolagbghnaaDoorZTryU
import Derived.Test.YtpinoolagbghnaaDoorZExt
namespace Go.Proofs.YtpinoolagbghnaaDoor
set_option linter.unusedVariables false
open Go.RowKit Pat

section
variable {lo D m pg fg tg k g i st : Nat} {s : ByteArray} {vi : Value} {P : Pt} {gs : List Nat} {K : Nat → Nat → Cap → Ans} {good good' : Nat → Cap → Prop} {it : It} {c : Cap} {w : World}


--THEOREMS

set_option maxRecDepth 100000 in
set_option maxHeartbeats 4000000 in
theorem try4 (U : UnderT lo D m s vi pg P gs fg tg k K good good' it g i st c w) (pl : Nat → Bool) (hk0 : it.kind = 4) (hpl : pl = placesOf P.items) (hnc : it.n < P.caps) (hcp : P.caps ≤ 16) (hok : placesOf P.items it.n = false → c.frm it.n ≤ c.to it.n ∧ c.to it.n ≤ s.size) (gd : good' i c) (mono : ∀ i j c, good' i c → i ≤ j → j ≤ s.size → good' j c) :
    Calls Tryd.prog 34 #[.pointer (some ⟨m, 0, none⟩), .int .i64 k, .int .i64 i] w fun e w' => TryPost lo (D + 1) m s vi pg P gs fg tg (stepA s pl it K i st c) c w e w' := by
  obtain ⟨A, hA⟩ : ∃ A, A = stepA s pl it K i st c := ⟨_, rfl⟩
  rw [← hA]
  have HA := hid hA
  clear hA
  have hkl : k < P.items.length := (List.getElem?_eq_some_iff.1 U.e1).1
  have hi := U.hi
  have hs := U.hs
  have hl := U.hl
  have hD := U.hD
  have hD2 := U.hD2
  have hst := U.hst
  obtain ⟨gi, cap, rfl, hgm, m0, m1, m2, m3, m4, m5⟩ := U.T.item6 U.e1 U.e2
  have hsf : setV it g = .slice none 0 0 := if_neg (by omega)
  rw [hsf] at m1
  clear hsf
  obtain ⟨c0, c1, c2, c3, c4, c5, c6, f6⟩ := U.T.blk.cells
  have hT1 := U.T.setSt (v := (st : Int) + 1) (st' := st + 1) rfl
  have hK1 := (keeps_set w ⟨m, 6, none⟩ (.int .i64 ((st : Int) + 1))).mono (S := [m, fg, tg]) (Nat.le_refl _) (by simp)
  have HT1 := hid hT1
  have HK1 := hid hK1
  clear hT1 hK1
  have z0 : ((it.kind : Int) == 0) = false := by rw [hk0]; rfl
  have z1 : ((it.kind : Int) == 1) = false := by rw [hk0]; rfl
  have z2 : ((it.kind : Int) == 2) = false := by rw [hk0]; rfl
  have z3 : ((it.kind : Int) == 3) = false := by rw [hk0]; rfl
  have z4 : ((it.kind : Int) == 4) = true := by rw [hk0]; rfl
  have HK0 := hid hk0
  clear hk0
  go_enter Tryd.func34, Tryd.ntmps34
  go_wp2_with fail
  by_cases ho : 50000 < st + 1
  · refine (spent_yes m (st + 1) _ (by go_simp) ho).mono ?_
    rintro e w' ⟨rfl, rfl⟩
    go_wp2_with fail
    go_ret
    exact TryPost.spent (HA.out.trans (if_pos ho)) HT1.out HK1.out (by omega) (by omega)
  · have HA1 : Hid (A = stepIt s false pl it K i (st + 1) c) := hid (HA.out.trans (if_neg ho))
    clear HA
    refine (spent_no m (st + 1) _ (by go_simp) (by omega)).mono ?_
    rintro e w' ⟨rfl, rfl⟩
    go_upto_region 7 with fail
    obtain ⟨W, hW⟩ : ∃ W, W = (w.setCell ⟨m, 6, none⟩ (.int .i64 ((st : Int) + 1))).alloc (.cells #[.int .i64 it.kind, .slice none 0 0, .int .u8 it.sign, .int .i64 it.n, .int .u8 it.x, .int .u8 it.y] 94) := ⟨_, rfl⟩
    have hWb : W.heap[w.heap.size]? = some (.cells #[.int .i64 it.kind, .slice none 0 0, .int .u8 it.sign, .int .i64 it.n, .int .u8 it.x, .int .u8 it.y] 94 (0, 0)) := by rw [hW, ← World.size_setCell (w := w)]; exact blk_new _ _
    have hKa : Keeps (w.setCell ⟨m, 6, none⟩ (.int .i64 ((st : Int) + 1))).heap.size [] (w.setCell ⟨m, 6, none⟩ (.int .i64 ((st : Int) + 1))) W := by rw [hW]; exact (Keeps.refl _ _ _).alloc (Nat.le_refl _) _
    have hT := HT1.out.keeps hKa
    have hKW : Keeps w.heap.size [m, fg, tg] w W := HK1.out.then3 (hKa.mono (Nat.le_refl _) (by simp))
    rw [← hW]
    clear hW hKa m0 m1 m2 m3 m4 m5 c0 c1 c2 c3 c4 c5 c6 f6 HT1 HK1
    obtain ⟨c0, c1, c2, c3, c4, c5, c6, f6⟩ := hT.blk.cells
    have b0 := blk_cell hWb 0
    have b1 := blk_cell hWb 1
    have b2 := blk_cell hWb 2
    have b3 := blk_cell hWb 3
    have b4 := blk_cell hWb 4
    have b5 := blk_cell hWb 5
    have r1 := hT.fr.cell hnc
    have r2 := hT.tor.cell hnc
    have r3 := hT.pl.cell hnc
    have hnc' : (0 : Int) ≤ it.n ∧ (it.n : Int) < P.caps := ⟨by omega, by omega⟩
    obtain ⟨pb, hpb⟩ : ∃ pb, placesOf P.items it.n = pb := ⟨_, rfl⟩
    rw [hpb] at r3 hok
    subst hpl
    cases pb
    · obtain ⟨a1, a2⟩ := hok rfl
      clear hok
      go_upto_region 26 with fail
      go_quiet (fail)
      go_upto_region 28 with fail
      go_quiet (fail)
      obtain ⟨L, hL⟩ : ∃ L, c.to it.n - c.frm it.n = L := ⟨_, rfl⟩
      by_cases hlt : s.size < i + L
      · have hd1 : decide ((s.size : Int) < i + L) = true := decide_eq_true (by omega)
        have HN : Hid (A = some (st + 1, none)) := hid (by rw [HA1.out]; unfold stepIt; rw [HK0.out]; simp [hpb, standsAt, hL]; omega)
        clear hpb
        go_wp2_with fail
        go_ret
        exact TryPost.fail HN.out (hT.keeps (keeps_drewN _ _)) (hKW.drewN _) (by omega)
      · have hd1 : decide ((s.size : Int) < i + L) = false := decide_eq_false (by omega)
        obtain ⟨q, hq⟩ : ∃ q, q = ((s.extract i (i + L)).toList == (s.extract (c.frm it.n) (c.to it.n)).toList) := ⟨_, rfl⟩
        have hq2 := hq
        rw [← hL] at hq2
        rw [standsAt_eq a1 a2 (by omega)] at hq2
        have HN : Hid (A = if q then K (i + L) (st + 1) c else some (st + 1, none)) := hid (by rw [HA1.out, hq2]; unfold stepIt; rw [HK0.out]; simp [hpb, hL])
        clear hpb hq2 HA1
        cases q
        · have hq3 : (!(s.extract i (i + L)).toList == (s.extract (c.frm it.n) (c.to it.n)).toList) = true := by rw [← hq]; rfl
          clear hq
          go_wp2_with fail
          go_ret
          exact TryPost.fail (HN.out.trans rfl) (hT.keeps (keeps_drewN _ _)) (hKW.drewN _) (by omega)
        · have hq3 : (!(s.extract i (i + L)).toList == (s.extract (c.frm it.n) (c.to it.n)).toList) = false := by rw [← hq]; rfl
          clear hq
          go_wp2_with fail
          refine (U.H.at (i := i + L) (by omega) (by simp) (by omega) (by omega) (mono i (i + L) c gd (by omega) (by omega)) (hT.keeps (keeps_drewN _ _)) (HN.out.trans rfl).symm).mono ?_
          rintro e w2 hpost
          obtain ⟨v, rfl⟩ : ∃ v, e = .returned (.int .i64 v) := hpost.form
          go_wp2_with fail
          go_ret
          exact hpost.up.from_ (hKW.drewN _)
    · have HN : Hid (A = some (st + 1, none)) := hid (by rw [HA1.out]; unfold stepIt; rw [HK0.out]; simp [hpb])
      clear hok hpb
      go_upto_region 26 with fail
      go_quiet (fail)
      go_wp2_with fail
      go_ret
      exact TryPost.fail HN.out (hT.keeps (keeps_drewN _ _)) (hKW.drewN _) (by omega)
end
end Go.Proofs.YtpinoolagbghnaaDoor

namespace Go.Proofs.YtpinoolagbghnaaDoor
set_option linter.unusedVariables false
open Go.RowKit Pat

namespace Pat
/-- What is known of the captures while a pattern is matched: those that are done lie in the text, those that are open begin at or ahead of the place. -/
structure CapOk (s : ByteArray) (places : Nat → Bool) (dn : List Bool) (op : List Nat) (i : Nat) (c : Cap) : Prop where
  done : ∀ n, dn.getD n false = true → places n = false → c.frm n ≤ c.to n ∧ c.to n ≤ s.size
  opn : ∀ n ∈ op, c.frm n ≤ i
theorem CapOk.mono {s : ByteArray} {places : Nat → Bool} {dn : List Bool} {op : List Nat} {i j : Nat} {c : Cap} (h : CapOk s places dn op i c) (hij : i ≤ j) : CapOk s places dn op j c := ⟨h.done, fun n hn => Nat.le_trans (h.opn n hn) hij⟩
theorem CapOk.zero (s : ByteArray) (places : Nat → Bool) (i : Nat) : CapOk s places [] [] i Cap.zero := ⟨fun n h => by simp at h, fun n h => by simp at h⟩
theorem Wf.le {dn dn2 : List Bool} {op op2 : List Nat} {l : List It} (h : Wf dn op l dn2 op2) : dn.length ≤ dn2.length := by
  induction h with
  | nil => exact Nat.le_refl _
  | cons h t ih => exact Nat.le_trans h.le ih
theorem WfIt.n_lt {dn dn' : List Bool} {op op' : List Nat} {it : It} (h : WfIt dn op it dn' op') (hm : ∀ n ∈ op, n < dn.length) (h1 : 1 ≤ it.kind) (h4 : it.kind ≤ 4) : it.n < dn'.length := by
  cases h with
  | place hk hn => simp; omega
  | opn hk hn => simp; omega
  | shut hk => simpa using hm _ (by simp)
  | back hk hd => exact getD_lt hd
  | other hk h7 => omega
theorem WfIt.kind_le {dn dn' : List Bool} {op op' : List Nat} {it : It} (h : WfIt dn op it dn' op') : it.kind ≤ 7 := by cases h <;> omega
section
variable {s : ByteArray} {places : Nat → Bool} {dn dn' dn2 : List Bool} {op op' op2 : List Nat} {it : It} {l : List It} {i : Nat} {c : Cap}
theorem CapOk.place (h : CapOk s places dn op i c) (hx : Ctx places dn op (it :: l)) (hk : it.kind = 1) (hn : it.n = dn.length) : CapOk s places (dn ++ [true]) op i ⟨c.pl, upd c.frm it.n i, c.to⟩ := by
  have hp : places it.n = true := by
    rw [hx.rest _ (by omega)]; unfold placesOf; rw [List.any_cons, decide_eq_true hk, decide_eq_true rfl]; rfl
  refine ⟨fun n h1 h2 => ?_, fun n h1 => ?_⟩
  · by_cases hnn : n = it.n
    · rw [hnn, hp] at h2; cases h2
    · rw [getD_push (by omega)] at h1
      simp only [upd_ne _ _ hnn]
      exact h.done n h1 h2
  · have hnn : n ≠ it.n := by have := (hx.mem n h1).1; omega
    simp only [upd_ne _ _ hnn]
    exact h.opn n h1
theorem CapOk.open_ (h : CapOk s places dn op i c) (hx : Ctx places dn op (it :: l)) (hn : it.n = dn.length) : CapOk s places (dn ++ [false]) (dn.length :: op) i ⟨c.pl, upd c.frm it.n i, c.to⟩ := by
  refine ⟨fun n h1 h2 => ?_, fun n h1 => ?_⟩
  · by_cases hnn : n = it.n
    · rw [hnn, hn, getD_pushed] at h1; cases h1
    · rw [getD_push (by omega)] at h1
      simp only [upd_ne _ _ hnn]
      exact h.done n h1 h2
  · by_cases hnn : n = it.n
    · dsimp only; rw [hnn, upd_self]; exact Nat.le_refl _
    · simp only [upd_ne _ _ hnn]
      simp only [List.mem_cons] at h1
      rcases h1 with h1 | h1
      · exact absurd (h1.trans hn.symm) hnn
      · exact h.opn n h1
theorem CapOk.shut (h : CapOk s places dn (it.n :: op) i c) (hi : i ≤ s.size) : CapOk s places (dn.set it.n true) op i ⟨c.pl, c.frm, upd c.to it.n i⟩ := by
  refine ⟨fun n h1 h2 => ?_, fun n h1 => h.opn n (by simp [h1])⟩
  by_cases hnn : n = it.n
  · dsimp only; rw [hnn, upd_self]
    exact ⟨h.opn _ (by simp), hi⟩
  · rw [getD_set hnn] at h1
    simp only [upd_ne _ _ hnn]
    exact h.done n h1 h2
end
end Pat

section
variable {lo m pg fg tg k g i st : Nat} {s : ByteArray} {vi : Value} {P : Pt} {gs : List Nat} {it : It} {c : Cap} {w : World}

set_option maxRecDepth 100000 in
set_option maxHeartbeats 1000000 in
theorem try_end (D : Nat) (hl : P.items.length ≤ 200) (good : Nat → Cap → Prop) : Goes lo D m s vi pg P gs fg tg P.items.length (tryP s false (placesOf P.items) []) good := by
  intro i st c w hi hst hg hT
  obtain ⟨a, cap, hv⟩ := own_form hT.it
  subst hv
  obtain ⟨c0, c1, c2, c3, c4, c5, c6, f6⟩ := hT.blk.cells
  go_enter Tryd.func34, Tryd.ntmps34
  go_wp2_with fail
  go_ret
  exact TryPost.hit rfl hT (Keeps.refl _ _ _) hst hi

theorem goes_all (hs : s.size ≤ 65536) (hl : P.items.length ≤ 200) (hcp : P.caps ≤ 16) (hgs : P.items.length = gs.length) {dn2 : List Bool} (hdn : dn2.length = P.caps) :
    ∀ d k dn op, P.items.length - k = d → k ≤ P.items.length → Wf dn op (P.items.drop k) dn2 [] → Ctx (placesOf P.items) dn op (P.items.drop k) →
      Goes lo (120000 + d) m s vi pg P gs fg tg k (tryP s false (placesOf P.items) (P.items.drop k)) (CapOk s (placesOf P.items) dn op) := by
  intro d
  induction d with
  | zero =>
    intro k dn op hd hk hw hx
    obtain rfl : k = P.items.length := by omega
    rw [List.drop_length]
    exact try_end _ hl _
  | succ d ih =>
    intro k dn op hd hk hw hx
    have hkl : k < P.items.length := by omega
    have e1 : P.items[k]? = some P.items[k] := List.getElem?_eq_getElem hkl
    have e2 : gs[k]? = some (gs[k]'(by omega)) := List.getElem?_eq_getElem _
    have hdrop : P.items.drop k = P.items[k] :: P.items.drop (k + 1) := List.drop_eq_getElem_cons hkl
    rw [hdrop] at hw hx ⊢
    generalize P.items[k] = it at *
    cases hw with
    | cons h t =>
      rename_i dn' op'
      have hx' := hx.next h t
      have H := ih (k + 1) dn' op' (by omega) (by omega) t hx'
      intro i st c w hi hst hg hT
      have hk7 := h.kind_le
      have hnlt : 1 ≤ it.kind → it.kind ≤ 4 → it.n < P.caps := fun h1 h4 => by
        have := h.n_lt (fun n hn => (hx.mem n hn).1) h1 h4
        have := t.le
        omega
      have mono : ∀ i j c, CapOk s (placesOf P.items) dn' op' i c → i ≤ j → j ≤ s.size → CapOk s (placesOf P.items) dn' op' j c := fun i j c h hij _ => h.mono hij
      have U : UnderT lo (120000 + d) m s vi pg P gs fg tg k (tryP s false (placesOf P.items) (P.items.drop (k + 1))) (CapOk s (placesOf P.items) dn op) (CapOk s (placesOf P.items) dn' op') it (gs[k]'(by omega)) i st c w :=
        ⟨H, hs, hl, e1, e2, by omega, by omega, hi, hst, hg, hT⟩
      have hsets := fun h => (hT.sets k it _ e1 e2 h).2.1
      show Calls Tryd.prog 34 #[.pointer (some ⟨m, 0, none⟩), .int .i64 k, .int .i64 i] w fun e w' => TryPost lo (120000 + d + 1) m s vi pg P gs fg tg (stepA s (placesOf P.items) it (tryP s false (placesOf P.items) (P.items.drop (k + 1))) i st c) c w e w'
      cases h with
      | place hk hn => exact try1 U (placesOf P.items) hk (hnlt (by omega) (by omega)) hcp (hg.place hx hk hn)
      | opn hk hn => exact try2 U (placesOf P.items) hk (hnlt (by omega) (by omega)) hcp (hg.open_ hx hn)
      | shut hk => exact try3 U (placesOf P.items) hk (hnlt (by omega) (by omega)) hcp (hg.shut hi)
      | back hk hd => exact try4 U (placesOf P.items) hk rfl (hnlt (by omega) (by omega)) hcp (hg.done _ hd) hg mono
      | other hk h7 =>
        by_cases k0 : it.kind = 0
        · exact try0 U (placesOf P.items) k0 (hsets (Or.inl k0)) hg mono
        · by_cases k5 : it.kind = 5
          · exact try5 U (placesOf P.items) k5 hg mono
          · by_cases k6 : it.kind = 6
            · exact try6 U (placesOf P.items) k6 (hsets (Or.inr k6)) hg
            · exact try7 U (placesOf P.items) (by omega) hg
end
end Go.Proofs.YtpinoolagbghnaaDoor
