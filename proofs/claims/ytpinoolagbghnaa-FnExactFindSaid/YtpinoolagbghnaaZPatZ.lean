/-
  Walk: the program's reader of patterns: pattern reads just the pattern that the plain word parse tells.
-/
import Derived.Test.YtpinoolagbghnaaZPatY
namespace Go.Proofs.Ytpinoolagbghnaa
set_option linter.unusedVariables false
open Go.RowKit Go.Maps Pat

/-- What the program's reader of patterns answers. -/
def PatPost (p : ByteArray) (w : World) (e : Ending) (w' : World) : Prop :=
  Keeps w.heap.size [] w w' ∧ (parse p = none → e = .returned (.pointer none)) ∧
  (∀ P, parse p = some P → ∃ pc vi gs, e = .returned (.pointer (some ⟨pc, 0, none⟩)) ∧ w.heap.size ≤ pc ∧ PBlk w' pc P.start vi P.caps ∧ PItemRow w.heap.size w' vi P.items.length (pCells P.items gs) ∧ P.items.length = gs.length ∧ PSetsOk w' w.heap.size P.items gs)
theorem PatPost.no {p : ByteArray} {w w' : World} (h : parse p = none) (hk : Keeps w.heap.size [] w w') : PatPost p w (.returned (.pointer none)) w' := ⟨hk, fun _ => rfl, fun P h' => (by rw [h] at h'; cases h')⟩

theorem start_pre (p : ByteArray) : Go.Lib.hasPrefix p.data.toList (ByteArray.mk #[94]).data.toList = startOf p := by
  have h := rest_prefix p (ByteArray.mk #[94]) 0
  rw [Go.Lib.extract_to_end, List.drop_zero] at h
  rw [Bool.eq_iff_iff, h]
  unfold startOf
  simp only [Bool.and_eq_true, decide_eq_true_eq]
  constructor
  · intro h
    have := h 0 (by simp)
    exact ⟨by omega, by simpa using this.2⟩
  · rintro ⟨h1, h2⟩ j hj
    match j, hj with
    | 0, _ => exact ⟨by omega, by simpa using h2⟩
    | j + 1, hj => exact absurd (show j + 1 < 1 from hj) (by omega)

theorem pr_start {p : ByteArray} {x : Nat} (w : World) (b : Bool) : PR w.heap.size p w.heap.size (w.heap.size + 1) b ⟨x, [], []⟩ [] [] (.slice none 0 0) (.slice none 0 0) ((w.alloc (.cells #[.bool b, .slice none 0 0, .int .i64 0] 58)).alloc (.map #[] 0)) := by
  refine ⟨blk_alloc (blk_new w _) _, World.ownsRow_nil _ _ _ _, World.ownsRow_nil _ _ _ _, ⟨0, Nat.le_refl _, ?_⟩, rfl, fun j it g h1 h2 h3 => by simp at h1, by simp, by simp, by simp, by simp, Nat.le_refl _, by omega⟩
  have := DoneMap.made (w.alloc (.cells #[.bool b, .slice none 0 0, .int .i64 0] 58))
  rw [World.size_alloc] at this
  exact this

set_option maxRecDepth 1000000 in
set_option maxHeartbeats 8000000 in
theorem pattern_any (p : ByteArray) (w : World) : Calls Try.prog 12 #[.string p] w fun e w' => PatPost p w e w' := by
  by_cases hp : 200 < p.size
  · have hd : decide ((200 : Int) < p.size) = true := decide_eq_true (by omega)
    have HN := hid (show parse p = none by unfold parse; rw [if_pos hp])
    go_enter Try.func12, Try.ntmps12
    go_wp2_with fail
    go_ret
    exact PatPost.no HN.out (Keeps.refl _ _ _)
  · have hd : decide ((200 : Int) < p.size) = false := decide_eq_false (by omega)
    obtain ⟨sb, hsb⟩ : ∃ sb, sb = startOf p := ⟨_, rfl⟩
    obtain ⟨R, hR⟩ : ∃ R, R = itemsGo p p.size { i := if startOf p then 1 else 0, done := [], opened := [] } [] := ⟨_, rfl⟩
    have hpre := start_pre p
    rw [← hsb] at hpre hR
    have hpar : parse p = R.bind fun x => if x.2.opened ≠ [] ∨ 16 < x.2.done.length then none else some { start := sb, items := x.1, caps := x.2.done.length } := by
      rw [hR, hsb]
      unfold parse
      rw [if_neg hp]
      cases itemsGo p p.size { i := if startOf p then 1 else 0, done := [], opened := [] } [] with
      | none => rfl
      | some x => rfl
    have HPAR := hid hpar
    have HSB := hid hsb
    have HPRE := hid hpre
    have HR := hid hR
    clear hsb hpre hR hpar
    have hmm := @run_makeMap Try.prog
    go_enter Try.func12, Try.ntmps12
    go_wp2_with fail
    refine (pre_any _ _ _).mono ?_
    rintro e w' ⟨rfl, rfl⟩
    rw [HPRE.out]
    have hret : ∀ w' : World, R = none → Keeps w.heap.size [] w w' → PatPost p w (.returned (.pointer none)) w' := fun w' h hk => PatPost.no (by rw [HPAR.out, h, Option.bind_none]) hk
    have HRET := hid hret
    clear hret
    cases sb
    · go_wp2_with fail
      refine wp_loop (PI p w.heap.size w.heap.size (w.heap.size + 1) false R w) (fun a _ => PMu p a) ?_ (fun a w'' hI => pat_round (by omega) HRET.out ?_ a w'' hI)
      · refine PI_mk (i := 0) ⟨⟨0, [], []⟩, [], [], .slice none 0 0, p.size, rfl, ?_, by simp, by simp, HR.out, ((Keeps.refl _ _ _).alloc (Nat.le_refl _) _).alloc (by simp) _⟩ rfl
        exact pr_start w false
      · intros
        rename_i w3 h3
        obtain ⟨r, its, gs, vi, rfl, hPR, hlp, hRR, hkk⟩ := h3
        obtain ⟨ri, done, opened⟩ := r
        have hb := hPR.blk
        have hop := hPR.op
        dsimp only at hb hop
        obtain ⟨ov, oc, rfl⟩ := own_form hop
        obtain ⟨c0, c1, c2, f0, f1, f2⟩ := hb.cells
        have HPR := hid hPR
        have HRR := hid hRR
        clear hPR hRR hop hb
        by_cases ho : opened = []
        · have hol : opened.length = 0 := by rw [ho]; rfl
          have HO := hid ho
          clear ho
          by_cases hc : 16 < done.length
          · have hd2 : decide ((16 : Int) < done.length) = true := decide_eq_true (by omega)
            go_wp2_with fail
            go_ret
            exact PatPost.no (by rw [HPAR.out, HRR.out, Option.bind_some]; rw [if_pos (Or.inr hc)]) hkk
          · have hd2 : decide ((16 : Int) < done.length) = false := decide_eq_false (by omega)
            go_wp2_with fail
            go_ret
            refine ⟨hkk, fun h => ?_, fun P hP => ?_⟩
            · rw [HPAR.out, HRR.out, Option.bind_some] at h
              rw [if_neg (by rw [not_or]; exact ⟨by simp [HO.out], hc⟩)] at h
              cases h
            · rw [HPAR.out, HRR.out, Option.bind_some] at hP
              rw [if_neg (by rw [not_or]; exact ⟨by simp [HO.out], hc⟩)] at hP
              simp only [Option.some.injEq] at hP
              subst hP
              exact ⟨w.heap.size, _, _, rfl, Nat.le_refl _, HPR.out.blk, HPR.out.it, HPR.out.len, HPR.out.sets⟩
        · have hol : 0 < opened.length := List.length_pos_iff.2 ho
          have hd1 : decide ((0 : Int) < opened.length) = true := decide_eq_true (by omega)
          have HO := hid ho
          clear ho
          go_wp2_with fail
          go_ret
          exact PatPost.no (by rw [HPAR.out, HRR.out, Option.bind_some]; rw [if_pos (Or.inl HO.out)]) hkk
    · go_wp2_with fail
      refine wp_loop (PI p w.heap.size w.heap.size (w.heap.size + 1) true R w) (fun a _ => PMu p a) ?_ (fun a w'' hI => pat_round (by omega) HRET.out ?_ a w'' hI)
      · refine PI_mk (i := 1) ⟨⟨1, [], []⟩, [], [], .slice none 0 0, p.size, rfl, ?_, by simp, by simp, HR.out, ((Keeps.refl _ _ _).alloc (Nat.le_refl _) _).alloc (by simp) _⟩ rfl
        exact pr_start w true
      · intros
        rename_i w3 h3
        obtain ⟨r, its, gs, vi, rfl, hPR, hlp, hRR, hkk⟩ := h3
        obtain ⟨ri, done, opened⟩ := r
        have hb := hPR.blk
        have hop := hPR.op
        dsimp only at hb hop
        obtain ⟨ov, oc, rfl⟩ := own_form hop
        obtain ⟨c0, c1, c2, f0, f1, f2⟩ := hb.cells
        have HPR := hid hPR
        have HRR := hid hRR
        clear hPR hRR hop hb
        by_cases ho : opened = []
        · have hol : opened.length = 0 := by rw [ho]; rfl
          have HO := hid ho
          clear ho
          by_cases hc : 16 < done.length
          · have hd2 : decide ((16 : Int) < done.length) = true := decide_eq_true (by omega)
            go_wp2_with fail
            go_ret
            exact PatPost.no (by rw [HPAR.out, HRR.out, Option.bind_some]; rw [if_pos (Or.inr hc)]) hkk
          · have hd2 : decide ((16 : Int) < done.length) = false := decide_eq_false (by omega)
            go_wp2_with fail
            go_ret
            refine ⟨hkk, fun h => ?_, fun P hP => ?_⟩
            · rw [HPAR.out, HRR.out, Option.bind_some] at h
              rw [if_neg (by rw [not_or]; exact ⟨by simp [HO.out], hc⟩)] at h
              cases h
            · rw [HPAR.out, HRR.out, Option.bind_some] at hP
              rw [if_neg (by rw [not_or]; exact ⟨by simp [HO.out], hc⟩)] at hP
              simp only [Option.some.injEq] at hP
              subst hP
              exact ⟨w.heap.size, _, _, rfl, Nat.le_refl _, HPR.out.blk, HPR.out.it, HPR.out.len, HPR.out.sets⟩
        · have hol : 0 < opened.length := List.length_pos_iff.2 ho
          have hd1 : decide ((0 : Int) < opened.length) = true := decide_eq_true (by omega)
          have HO := hid ho
          clear ho
          go_wp2_with fail
          go_ret
          exact PatPost.no (by rw [HPAR.out, HRR.out, Option.bind_some]; rw [if_pos (Or.inl HO.out)]) hkk
end Go.Proofs.Ytpinoolagbghnaa
