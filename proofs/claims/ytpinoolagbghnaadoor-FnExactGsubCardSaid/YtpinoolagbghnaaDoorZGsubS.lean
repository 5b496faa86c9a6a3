/-
  Walk: the reference's Gsub comes to the plain word gsubP.
-/
import Derived.Test.YtpinoolagbghnaaDoorZAllS
namespace Go.Proofs.YtpinoolagbghnaaDoor
set_option linter.unusedVariables false
open Go.RowKit Pat

/-- What a Gsub returns. -/
def gEnd (x : List UInt8 × Nat × Nat) : Ending := .returned (.tuple #[.string ⟨x.1.toArray⟩, .int .i64 x.2.1, .int .i64 x.2.2])
theorem gEnd_of {x : List UInt8 × Nat × Nat} {t : List UInt8} {n c : Nat} (h : x = (t, n, c)) : gEnd x = .returned (.tuple #[.string ⟨t.toArray⟩, .int .i64 n, .int .i64 c]) := by subst h; rfl

theorem fCells_len (l : List FEnt) : (fCells l).length = l.length * 3 := by
  induction l with
  | nil => rfl
  | cons x l ih =>
    have : fCells (x :: l) = [.int .i64 x.1.a, .int .i64 x.1.e, .slice x.2.1 x.1.caps.length x.2.2] ++ fCells l := by simp [fCells]
    rw [this, List.length_append, ih]; simp; omega
theorem fCells_at {l : List FEnt} {j : Nat} {x : FEnt} (h : l[j]? = some x) : (fCells l)[j * 3]? = some (.int .i64 x.1.a) ∧ (fCells l)[j * 3 + 1]? = some (.int .i64 x.1.e) ∧ (fCells l)[j * 3 + 2]? = some (.slice x.2.1 x.1.caps.length x.2.2) := by
  induction l generalizing j with
  | nil => simp at h
  | cons y l ih =>
    have hc : fCells (y :: l) = [.int .i64 y.1.a, .int .i64 y.1.e, .slice y.2.1 y.1.caps.length y.2.2] ++ fCells l := by simp [fCells]
    cases j with
    | zero =>
      simp only [List.getElem?_cons_zero, Option.some.injEq] at h
      subst h
      rw [hc]
      exact ⟨rfl, rfl, rfl⟩
    | succ j =>
      rw [List.getElem?_cons_succ] at h
      obtain ⟨a, b, c⟩ := ih h
      rw [hc]
      refine ⟨?_, ?_, ?_⟩
      · rw [List.getElem?_append_right (by simp; omega), ← a]; congr 1; simp; omega
      · rw [List.getElem?_append_right (by simp; omega), ← b]; congr 1; simp; omega
      · rw [List.getElem?_append_right (by simp; omega), ← c]; congr 1; simp; omega
/-- The cells of one match in the row of matches. -/
theorem fRow_at {w : World} {lo n cap j : Nat} {ao : Option Addr} {l : List FEnt} {x : FEnt} (h : w.ownsRow lo 32 3 (.slice ao n cap) n (fCells l)) (hx : l[j]? = some x) :
    ∃ g, ao = some ⟨g, 0, none⟩ ∧ lo ≤ g ∧ g < w.heap.size ∧ w.cell? ⟨g, j * 3, none⟩ = some (.int .i64 x.1.a) ∧ w.cell? ⟨g, j * 3 + 1, none⟩ = some (.int .i64 x.1.e) ∧ w.cell? ⟨g, j * 3 + 2, none⟩ = some (.slice x.2.1 x.1.caps.length x.2.2) := by
  have hlen := fCells_len l
  have hj := (List.getElem?_eq_some_iff.1 hx).1
  rcases h.2 with ⟨_, h2⟩ | ⟨g, cap', cur, h1, hg, _⟩
  · have := h.1; omega
  · simp only [Value.slice.injEq] at h1
    obtain ⟨rfl, _, rfl⟩ := h1
    have hc := h.cells (g := g) rfl
    have hadd : ∀ j, (⟨g, 0, none⟩ : Addr).add j = ⟨g, j, none⟩ := fun j => by unfold Addr.add; split <;> simp_all
    obtain ⟨a, b, c⟩ := fCells_at hx
    exact ⟨g, rfl, hg, (h.lt g rfl).2, hadd _ ▸ hc _ _ a, hadd _ ▸ hc _ _ b, hadd _ ▸ hc _ _ c⟩

section
variable {s p r : ByteArray} {w : World}
theorem gs_large {most : Int} (h : 65536 < s.size) : gsubP s p r most = ([], 0, 1) := by unfold gsubP; rw [if_pos h]
theorem gs_bad {most : Int} (h : s.size ≤ 65536) (hp : parse p = none) : gsubP s p r most = ([], 0, 2) := by unfold gsubP; rw [if_neg (by omega), hp]
theorem gs_repl {most : Int} {P : Pt} (h : s.size ≤ 65536) (hp : parse p = some P) (ho : okP r P.caps (r.size + 1) 0 = false) : gsubP s p r most = ([], 0, 5) := by unfold gsubP; rw [if_neg (by omega), hp]; simp only []; rw [if_pos ho]
theorem gs_steps {most : Int} {P : Pt} (h : s.size ≤ 65536) (hp : parse p = some P) (ho : okP r P.caps (r.size + 1) 0 = true) (ha : allP s P (s.size + 1) 0 most 0 = none) : gsubP s p r most = ([], 0, 4) := by unfold gsubP; rw [if_neg (by omega), hp]; simp only []; rw [if_neg (by rw [ho]; simp), ha]
theorem gs_long {most : Int} {P : Pt} {st : Nat} {l : List Mt} (h : s.size ≤ 65536) (hp : parse p = some P) (ho : okP r P.caps (r.size + 1) 0 = true) (ha : allP s P (s.size + 1) 0 most 0 = some (st, l)) (hl : 65536 < (fullP s r P.caps 0 l).length) : gsubP s p r most = ([], 0, 6) := by unfold gsubP; rw [if_neg (by omega), hp]; simp only []; rw [if_neg (by rw [ho]; simp), ha]; simp only []; rw [if_pos hl]
theorem gs_done {most : Int} {P : Pt} {st : Nat} {l : List Mt} (h : s.size ≤ 65536) (hp : parse p = some P) (ho : okP r P.caps (r.size + 1) 0 = true) (ha : allP s P (s.size + 1) 0 most 0 = some (st, l)) (hl : (fullP s r P.caps 0 l).length ≤ 65536) : gsubP s p r most = (fullP s r P.caps 0 l, l.length, 0) := by unfold gsubP; rw [if_neg (by omega), hp]; simp only []; rw [if_neg (by rw [ho]; simp), ha]; simp only []; rw [if_neg (by omega)]

set_option maxRecDepth 100000 in
set_option maxHeartbeats 8000000 in
theorem gsubS_any (most : Int) (hmost : most ≤ 9223372036854775807 ∧ -9223372036854775808 ≤ most) (hr : r.size ≤ 1048576) :
    Calls Tryd.prog 4 #[.string s, .string p, .string r, .int .i64 most] w fun e w' => e = gEnd (gsubP s p r most) ∧ Keeps w.heap.size [] w w' := by
  obtain ⟨G, hG⟩ : ∃ G, gsubP s p r most = G := ⟨_, rfl⟩
  rw [hG]
  have HG := hid hG
  have HMOST := hid hmost
  clear hG hmost
  go_enter Tryd.func4, Tryd.ntmps4
  go_wp2_with fail
  refine (check_any s p _).mono ?_
  rintro e w1 ⟨hk1, h1, h2, h3⟩
  by_cases hs : 65536 < s.size
  · have he := h1 hs
    subst he
    have HE := hid (gEnd_of (HG.out.symm.trans (gs_large hs)))
    clear h1 h2 h3
    go_wp2_with fail
    refine bodyPost_ret (by simp [results, Tryd.results4, go_sem]) rfl ⟨HE.out.symm, hk1⟩
  cases hp : parse p with
  | none =>
    have he := h2 (by omega) hp
    subst he
    have HE := hid (gEnd_of (HG.out.symm.trans (gs_bad (by omega) hp)))
    clear h1 h2 h3 hp
    go_wp2_with fail
    refine bodyPost_ret (by simp [results, Tryd.results4, go_sem]) rfl ⟨HE.out.symm, hk1⟩
  | some P =>
    obtain ⟨m, vi, pg, gs, he, hlm, hM⟩ := h3 (by omega) P hp
    subst he
    have HP := hid hp
    obtain ⟨dn2, hwf, hdn, hcp, hst, hil, hps⟩ := parse_wf hp
    clear h1 h2 h3 hp hdn hst hwf
    have hs' : s.size ≤ 65536 := by omega
    obtain ⟨_, _, _, _, _, _, hmb⟩ := hM.blk
    have c2 := blk_cell hmb 2
    have hml := blk_lt hmb
    have hm0 : MtOk s 0 ⟨0, 0, []⟩ := ⟨Nat.le_refl _, Nat.zero_le _, rfl, fun k b f t h => by simp at h, fun k b f t h => by simp at h⟩
    have HMB := hid hmb
    have hfill : ∀ w, Calls Tryd.prog 7 #[.string s, .string r, .agg #[.int .i64 0, .int .i64 0, .slice none 0 0], .int .i64 P.caps] w fun e w' => FillPost (fillP s r P.caps ⟨0, 0, []⟩ (r.size + 1) 0) (okP r P.caps (r.size + 1) 0) w e w' :=
      fun w => fillS_any (m := ⟨0, 0, []⟩) (ca := 0) (aa := none) (w := w) hs' hr hcp (by simp) hm0 (fun k b f t h => by simp at h)
    have HFILL := hid hfill
    have HM := hid hM
    clear hmb hfill hM
    go_wp2_with fail
    refine (HFILL.out _).mono ?_
    rintro e w2 ⟨hk2, ⟨hok, rfl⟩ | ⟨hok, rfl⟩⟩
    rotate_left
    · have HE := hid (gEnd_of (HG.out.symm.trans (gs_repl hs' HP.out hok)))
      have HK2 := hid (hk1.andThen hk2 hk1.size (by simp))
      clear hok hk2
      go_wp2_with fail
      refine bodyPost_ret (by simp [results, Tryd.results4, go_sem]) rfl ⟨HE.out.symm, HK2.out⟩
    have HOK := hid hok
    have hM2 := HM.out.off hk2 (by simp)
    have HK2 := hid (hk1.andThen hk2 hk1.size (by simp))
    have hall := all_any (w := w2) most HMOST.out HP.out hs' (Nat.zero_le _) hM2
    obtain ⟨R, hR⟩ : ∃ R, allP s P (s.size + 1) 0 most 0 = R := ⟨_, rfl⟩
    rw [hR] at hall
    have HR := hid hR
    have HALL := hid hall
    clear hok hk2 hM2 hR hall c2
    go_wp2_with fail
    refine HALL.out.mono ?_
    rintro e w3 ⟨hk3, fs, ao, cap, st3, rfl, hM3, hst3, hlen3, hrow3, hmts3, hcase⟩
    obtain ⟨_, _, _, _, _, _, hmb3⟩ := hM3.blk
    have c6 := blk_cell hmb3 6
    have c2 := blk_cell hmb3 2
    have hml3 := blk_lt hmb3
    have hmw : w.heap.size ≤ m := hlm
    have HK3 := hid (HK2.out.andThen hk3 HK2.out.size (fun k hk hlt => by simp only [List.mem_singleton] at hk; omega))
    have HM3 := hid hM3
    have HROW3 := hid hrow3
    have HMTS3 := hid hmts3
    clear hk3 hM3 hrow3 hmts3 hmb3
    rcases hcase with ⟨hRn, hsp⟩ | ⟨hsp, hRs⟩
    · have HE := hid (gEnd_of (HG.out.symm.trans (gs_steps hs' HP.out HOK.out (HR.out.trans hRn))))
      clear hRn
      go_wp2_with fail
      refine (spent_yes m st3 _ (by go_simp) hsp).mono ?_
      rintro e w' ⟨rfl, rfl⟩
      go_wp2_with fail
      refine bodyPost_ret (by simp [results, Tryd.results4, go_sem]) rfl ⟨HE.out.symm, HK3.out⟩
    have HRS := hid hRs
    clear hRs
    go_wp2_with fail
    refine (spent_no m st3 _ (by go_simp) hsp).mono ?_
    rintro e w' ⟨rfl, rfl⟩
    clear c6
    go_wp2_with fail
    obtain ⟨F, hF⟩ : ∃ F, fullP s r P.caps 0 (fs.map Prod.fst) = F := ⟨_, rfl⟩
    have HF := hid hF
    have HCH := hid (al_chain HP.out _ _ _ _ _ _ (HR.out.trans HRS.out))
    clear hF
    go_loopw [16, 17, 54] (fun vo va vi wr => ∃ (j : Nat) (acc : List UInt8) (bo : Option Addr) (n cb at_ : Nat), vi = .int .i64 j ∧ j ≤ fs.length ∧ vo = .slice bo n cb ∧ n = acc.length ∧ ByteOwn wr w3.heap.size (.slice bo n cb) acc ∧ va = .int .i64 at_ ∧ at_ ≤ s.size ∧
      Keeps w3.heap.size [] w3 wr ∧ n ≤ 131072 ∧ Hid (acc ++ fullP s r P.caps at_ ((fs.drop j).map Prod.fst) = F ∧ chainP at_ ((fs.drop j).map Prod.fst))) (fun _ _ vi _ => fs.length - (intOf vi).toNat)
    case atStart =>
      refine ⟨0, [], _, _, _, 0, rfl, Nat.zero_le _, rfl, rfl, ?_, rfl, Nat.zero_le _, (Keeps.refl _ _ _).alloc (Nat.le_refl _) _, Nat.zero_le _, hid ⟨by simpa using HF.out, by simpa using HCH.out⟩⟩
      have := World.ownsRow_lit (base := w3.heap.size) (e := 5) (size := 1) w3 #[] 0 (Nat.le_refl _) (by unfold maxLen; omega) rfl
      exact this
    case round =>
      obtain ⟨j, acc, bo, n, cb, at_, rfl, hj, rfl, hn, hown, rfl, hat, hk, hn2, HG2⟩ := hrel
      have HNL := hid hn
      have HO := hid hown
      have HK := hid hk
      have hbl := hk.size
      clear hn hown hk
      by_cases hlt : j < fs.length
      · obtain ⟨x, hx⟩ : ∃ x, fs[j]? = some x := ⟨fs[j], by simp [hlt]⟩
        have hdrop : fs.drop j = x :: fs.drop (j + 1) := by
          rw [List.drop_eq_getElem_cons hlt]
          congr 1
          exact (List.getElem?_eq_some_iff.1 hx).2
        obtain ⟨⟨a, e2, cl⟩, aa, ca⟩ := x
        have hmx := HMTS3.out _ (List.mem_of_getElem? hx)
        dsimp only at hmx
        have hmok := hmx.2
        have hae := hmok.ae
        have hes := hmok.es
        have hcl := hmok.len
        dsimp only at hae hes hcl
        have hata : at_ ≤ a := by have := HG2.out.2; rw [hdrop] at this; exact this.1
        obtain ⟨g, rfl, hglo, hgl, g0, g1, g2⟩ := fRow_at HROW3.out hx
        have y0 := (HK.out.cell (p := ⟨g, j * 3, none⟩) hgl (by simp)).trans g0
        have y1 := (HK.out.cell (p := ⟨g, j * 3 + 1, none⟩) hgl (by simp)).trans g1
        have y2 := (HK.out.cell (p := ⟨g, j * 3 + 2, none⟩) hgl (by simp)).trans g2
        have e2c := (HK.out.cell (p := ⟨m, 2, none⟩) hml3 (by simp)).trans c2
        have HG3 : Hid (acc ++ (sub s at_ a ++ fillP s r P.caps ⟨a, e2, cl⟩ (r.size + 1) 0 ++ fullP s r P.caps e2 ((fs.drop (j + 1)).map Prod.fst)) = F ∧ chainP e2 ((fs.drop (j + 1)).map Prod.fst)) := hid (by
          obtain ⟨b1, b2⟩ := HG2.out
          rw [hdrop] at b1 b2
          exact ⟨b1, b2.2⟩)
        have HMT := hid hmx.1
        have HMOK := hid hmok
        have hjI : (0 : Int) ≤ j ∧ (j : Int) < fs.length := ⟨by omega, by omega⟩
        have hmw2 : m < wr.heap.size := by omega
        dsimp only at y0 y1 y2
        rw [hcl] at y2
        have HCL := hid hcl
        clear g0 g1 g2 HG2 hx hdrop hmx hmok c2 hcl
        obtain ⟨W, hW⟩ : ∃ W, W = wr.alloc (.cells #[.int .i64 a, .int .i64 e2, .slice aa P.caps ca] 32) := ⟨_, rfl⟩
        have hkW : Keeps wr.heap.size [] wr W := by rw [hW]; exact (Keeps.refl _ _ _).alloc (Nat.le_refl _) _
        have hbW : W.heap[wr.heap.size]? = some (.cells #[.int .i64 a, .int .i64 e2, .slice aa P.caps ca] 32 (0, 0)) := by rw [hW]; exact blk_new _ _
        have HMTW := hid ((HMT.out.keeps (lo' := 0) HK.out (Nat.le_refl _) (by simp) (Nat.zero_le _)).keeps (lo' := 0) hkW (Nat.le_refl _) (by simp) (Nat.zero_le _))
        have HOW := hid (own_keeps HO.out hkW (Nat.le_refl _) (by simp))
        have HKW := hid (HK.out.andThen hkW HK.out.size (by simp))
        have e2d := (hkW.cell (p := ⟨m, 2, none⟩) hmw2 (by simp)).trans e2c
        have hWs := hkW.size
        have HW := hid hW
        clear hW HMT
        go_upto_region 15 with fail
        rw [← HW.out]
        obtain ⟨f0, f1, f2⟩ := box_facts hbW
        clear hkW e2c y0 y1 y2
        have hfl := fun w hwm => fillS_any (m := ⟨a, e2, cl⟩) (caps := P.caps) (ca := ca) (aa := aa) (w := w) hs' hr hcp (by dsimp only; rw [HCL.out]; omega) (by dsimp only; rw [HCL.out]; exact HMOK.out) hwm
        dsimp only at hfl
        rw [HCL.out] at hfl
        obtain ⟨t, ht⟩ : ∃ t, fillP s r P.caps ⟨a, e2, cl⟩ (r.size + 1) 0 = t := ⟨_, rfl⟩
        have HT := hid ht
        have hfl2 : ∀ n, Calls Tryd.prog 7 #[.string s, .string r, .agg #[.int .i64 a, .int .i64 e2, .slice aa P.caps ca], .int .i64 P.caps] (W.drewN n) fun e w' => e = .returned (.tuple #[.string ⟨t.toArray⟩, .bool true]) ∧ Keeps W.heap.size [] W w' := fun n =>
          (hfl (W.drewN n) (fun k b f t h => HMTW.out.at_ k b f t h)).mono fun e w' h => by
            rw [ht, HOK.out] at h
            rcases h.2 with ⟨_, h2⟩ | ⟨h2, _⟩
            · exact ⟨h2, ⟨h.1.os, h.1.tape, h.1.output, h.1.size, h.1.block⟩⟩
            · cases h2
        have HFL1 : Hid (Calls Tryd.prog 7 #[.string s, .string r, .agg #[.int .i64 a, .int .i64 e2, .slice aa P.caps ca], .int .i64 P.caps] W.drew fun e w' => e = .returned (.tuple #[.string ⟨t.toArray⟩, .bool true]) ∧ Keeps W.heap.size [] W w') := hid (hfl2 1)
        clear hfl hfl2 ht
        go_cut [20, 21] from 58 to 71 (fun v20 v21 wx => v20 = .string ⟨t.toArray⟩ ∧ v21 = .bool true ∧ Keeps W.heap.size [] W wx)
        case first =>
          go_region_with (refine HFL1.out.mono ?_; rintro e w4 ⟨rfl, hk4⟩)
          all_goals
            go_wp2_with fail
            go_meet
          all_goals exact ⟨rfl, rfl, hk4⟩
        case rest =>
        obtain ⟨rfl, rfl, hk4⟩ := hcut
        have hb4 := hk4.blk hbW (blk_lt hbW) (by simp)
        have HO4 := hid (own_keeps HOW.out hk4 (Nat.le_refl _) (by simp))
        have HK4 := hid (HKW.out.andThen hk4 HKW.out.size (by simp))
        have hs4 := HK4.out.size
        clear hk4 f0 f1 f2 hbW HOW HKW HMTW e2d
        obtain ⟨f0, f1, f2⟩ := box_facts hb4
        have hata2 : (0 : Int) ≤ at_ ∧ (at_ : Int) ≤ a ∧ (a : Int) ≤ s.size := by omega
        have hse : (s.extract at_ a).data.toList = sub s at_ a := rfl
        have hsl := sub_len (s := s) at_ a
        have hsz : (s.extract at_ a).size ≤ s.size := by rw [ByteArray.size_extract]; omega
        go_wp2_with (at_builtin; go_must (refine append_str rfl (.tmp 71) (.tmp 76) rfl w3.heap.size _ acc rfl HO4.out (s.extract at_ a) _ hse rfl (by have := HNL.out; omega) (by omega) ?_))
        intro ao5 cap5 w5 ho5 hg5
        have HO5 := hid ho5
        have hrow : ∀ k, (Value.slice bo n cb).ownBlock = some k → w3.heap.size ≤ k ∧ k ≠ wr.heap.size := fun k hk => ⟨(HO4.out.lt k hk).1, fun e => own_ne_blk HO4.out hb4 (by decide) (e ▸ hk)⟩
        have hb5 : w5.heap[wr.heap.size]? = some (.cells #[.int .i64 a, .int .i64 e2, .slice aa P.caps ca] 32 (0, 0)) := (hg5.block _ (blk_lt hb4) (fun e => (hrow _ e.symm).2 rfl)).trans hb4
        have HK5 := hid (HK4.out.grown hg5 hs4 (fun k hk => Or.inr (hrow k hk).1))
        have hs5 := HK5.out.size
        clear ho5 hg5 hrow f0 f1 f2 hb4 HO4 HK4
        obtain ⟨f0, f1, f2⟩ := box_facts hb5
        have htl0 := fill_len (s := s) (r := r) (caps := P.caps) (m := ⟨a, e2, cl⟩) hs' HMOK.out (r.size + 1) 0
        rw [HT.out] at htl0
        have htl : (0 : Int) ≤ t.length ∧ (t.length : Int) ≤ 68744642560 := by omega
        have hnl : (0 : Int) ≤ acc.length ∧ (acc.length : Int) ≤ 131072 := by have := HNL.out; omega
        have hql : (0 : Int) ≤ (sub s at_ a).length ∧ ((sub s at_ a).length : Int) ≤ 65536 := by omega
        have htz : (⟨t.toArray⟩ : ByteArray).size = t.length := by show t.toArray.size = _; simp
        have HTZ := hid htz
        have HG4 : Hid (acc ++ sub s at_ a ++ t ++ fullP s r P.caps e2 ((fs.drop (j + 1)).map Prod.fst) = F) := hid (by
          rw [← HG3.out.1, HT.out]; simp)
        clear htl0 htz hsl hse hsz hn2
        go_upto_region 17 with fail
        by_cases hbig : (131072 : Int) < (acc.length : Int) + (sub s at_ a).length + t.length
        · have d17 : decide ((131072 : Int) < (acc.length : Int) + (sub s at_ a).length + t.length) = true := decide_eq_true hbig
          have HE := hid (gEnd_of (HG.out.symm.trans (gs_long hs' HP.out HOK.out (HR.out.trans HRS.out) (by
            rw [HF.out, ← HG4.out]; simp only [List.length_append]; omega))))
          have HKF := hid (HK3.out.andThen HK5.out (by have := HK3.out.size; omega) (by simp))
          clear hbig
          go_wp2_with fail
          refine bodyPost_ret (by simp [results, Tryd.results4, go_sem]) rfl ⟨HE.out.symm, HKF.out⟩
        · have d17 : decide ((131072 : Int) < (acc.length : Int) + (sub s at_ a).length + t.length) = false := decide_eq_false hbig
          have HNB := hid hbig
          have HO5b : Hid (ByteOwn w5 w3.heap.size (.slice ao5 (acc.length + (sub s at_ a).length) cap5) (acc ++ sub s at_ a)) := hid (by
            exact HO5.out)
          clear hbig
          go_wp2_with (at_builtin; go_must (refine append_str rfl (.tmp 84) (.tmp 85) rfl w3.heap.size _ (acc ++ sub s at_ a) rfl HO5b.out ⟨t.toArray⟩ t rfl rfl (by have := HTZ.out; have := HNB.out; simp only [List.length_append]; omega) (by omega) ?_))
          intro ao6 cap6 w6 ho6 hg6
          have HO6 := hid ho6
          have hrow : ∀ k, (Value.slice ao5 (acc.length + (sub s at_ a).length) cap5).ownBlock = some k → w3.heap.size ≤ k ∧ k ≠ wr.heap.size := fun k hk => ⟨(HO5b.out.lt k hk).1, fun e => own_ne_blk HO5b.out hb5 (by decide) (e ▸ hk)⟩
          have hb6 : w6.heap[wr.heap.size]? = some (.cells #[.int .i64 a, .int .i64 e2, .slice aa P.caps ca] 32 (0, 0)) := (hg6.block _ (blk_lt hb5) (fun e => (hrow _ e.symm).2 rfl)).trans hb5
          have HK6 := hid (HK5.out.grown hg6 hs5 (fun k hk => Or.inr (hrow k hk).1))
          clear ho6 hg6 hrow f0 f1 f2 hb5 HO5 HO5b HK5
          obtain ⟨f0, f1, f2⟩ := box_facts hb6
          go_wp2_with fail
          go_roundw
          case rel => exact ⟨j + 1, acc ++ (sub s at_ a ++ t), ao6, _, cap6, e2, by go_num, by omega, rfl, by simp, HO6.out, rfl, hes, HK6.out, by have := HNB.out; omega, hid ⟨by rw [← HG4.out]; simp, HG3.out.2⟩⟩
          case measure => simp [intOf]; omega
      · have hjI : ¬ ((j : Int) < fs.length) := by omega
        have hjl : j = fs.length := by omega
        have HG5 : Hid (acc ++ sub s at_ s.size = F) := hid (by
          have h := HG2.out.1
          rw [hjl, List.drop_length] at h
          exact h)
        clear hjl HG2
        have hata2 : (0 : Int) ≤ at_ ∧ (at_ : Int) ≤ s.size := by omega
        have hse : (s.extract at_ s.size).data.toList = sub s at_ s.size := rfl
        have hsl := sub_len (s := s) at_ s.size
        have hsz : (s.extract at_ s.size).size ≤ s.size := by rw [ByteArray.size_extract]; omega
        go_wp2_with (at_builtin; go_must (refine append_str rfl (.tmp 90) (.tmp 93) rfl w3.heap.size _ acc rfl HO.out (s.extract at_ s.size) _ hse rfl (by have := HNL.out; omega) (by omega) ?_))
        intro ao5 cap5 w5 ho5 hg5
        have HO5 := hid ho5
        have HK5 := hid (HK.out.grown hg5 hbl (fun k hk => Or.inr (HO.out.lt k hk).1))
        have HKF := hid (HK3.out.andThen HK5.out (by have := HK3.out.size; omega) (by simp))
        clear ho5 hg5
        have hnl : (0 : Int) ≤ acc.length ∧ (acc.length : Int) ≤ 131072 := by have := HNL.out; omega
        have hql : (0 : Int) ≤ (sub s at_ s.size).length ∧ ((sub s at_ s.size).length : Int) ≤ 65536 := by omega
        have hFl : F.length = acc.length + (sub s at_ s.size).length := by rw [← HG5.out, List.length_append]
        clear hsl hse hsz
        by_cases hbig : (65536 : Int) < (acc.length : Int) + (sub s at_ s.size).length
        · have d17 : decide ((65536 : Int) < (acc.length : Int) + (sub s at_ s.size).length) = true := decide_eq_true hbig
          have d17n : decide (65536 < acc.length + (sub s at_ s.size).length) = true := decide_eq_true (by omega)
          have HE := hid (gEnd_of (HG.out.symm.trans (gs_long hs' HP.out HOK.out (HR.out.trans HRS.out) (by rw [HF.out]; omega))))
          clear hbig hFl
          go_wp2_with fail
          refine bodyPost_ret (by simp [results, Tryd.results4, go_sem]) rfl ⟨HE.out.symm, HKF.out⟩
        · have d17 : decide ((65536 : Int) < (acc.length : Int) + (sub s at_ s.size).length) = false := decide_eq_false hbig
          have d17n : decide (65536 < acc.length + (sub s at_ s.size).length) = false := decide_eq_false (by omega)
          have HE := hid (gEnd_of (HG.out.symm.trans (gs_done hs' HP.out HOK.out (HR.out.trans HRS.out) (by rw [HF.out]; omega))))
          have hcv := byteOwn_string HO5.out
          have HEE : Hid (gEnd G = .returned (.tuple #[.string ⟨(acc ++ sub s at_ s.size).toArray⟩, .int .i64 fs.length, .int .i64 0])) := hid (by
            rw [HE.out, HF.out, HG5.out, List.length_map]; rfl)
          clear hbig hFl HE
          go_wp2_with fail
          refine bodyPost_ret (by simp [results, Tryd.results4, go_sem]) rfl ⟨HEE.out.symm, HKF.out⟩
end
end Go.Proofs.YtpinoolagbghnaaDoor
