/-
  Walk: the program's Find comes to the plain words parse and searchP (the program's way).
-/
import Derived.Test.YtpinoolagbghnaaZQK
import Derived.Test.YtpinoolagbghnaaZPatZ
namespace Go.Proofs.Ytpinoolagbghnaa
set_option linter.unusedVariables false
open Go.RowKit Pat

namespace Pat
theorem itemAt_sgn {p : ByteArray} {r r' : Rd} {it : It} (h : itemAt p r = some (it, r')) (hk : it.kind = 0) : it.sign = 0 ∨ it.sign = 42 ∨ it.sign = 43 ∨ it.sign = 45 ∨ it.sign = 63 := by
  unfold itemAt at h
  simp only [] at h
  split at h
  · split at h
    all_goals
      simp only [Option.some.injEq, Prod.mk.injEq] at h
      obtain ⟨rfl, rfl⟩ := h
      cases hk
  · split at h
    · split at h
      · cases h
      · simp only [Option.some.injEq, Prod.mk.injEq] at h
        obtain ⟨rfl, rfl⟩ := h
        cases hk
    · split at h
      · split at h
        · cases h
        · simp only [Option.some.injEq, Prod.mk.injEq] at h
          obtain ⟨rfl, rfl⟩ := h
          cases hk
      · split at h
        · split at h
          · simp only [Option.some.injEq, Prod.mk.injEq] at h
            obtain ⟨rfl, rfl⟩ := h
            cases hk
          · cases h
        · split at h
          · split at h
            · split at h
              · cases h
              · simp only [Option.some.injEq, Prod.mk.injEq] at h
                obtain ⟨rfl, rfl⟩ := h
                cases hk
            · cases h
          · split at h
            · simp only [Option.some.injEq, Prod.mk.injEq] at h
              obtain ⟨rfl, rfl⟩ := h
              cases hk
            · split at h
              · cases h
              · rename_i f j hs
                split at h
                · rename_i hsg
                  simp only [Option.some.injEq, Prod.mk.injEq] at h
                  obtain ⟨rfl, rfl⟩ := h
                  unfold signAt at hsg
                  simp at hsg
                  have := hsg.2
                  dsimp only
                  omega
                · simp only [Option.some.injEq, Prod.mk.injEq] at h
                  obtain ⟨rfl, rfl⟩ := h
                  exact Or.inl rfl
theorem parse_sgn {p : ByteArray} {P : Pt} (h : parse p = some P) : SgnOk P.items := by
  unfold parse at h
  split at h
  · cases h
  · split at h
    · cases h
    · rename_i l r hg
      split at h
      · cases h
      · simp only [Option.some.injEq] at h
        subst h
        exact itemsGo_ind (fun r l => SgnOk l) (fun r l it r' h1 h2 h3 => by
          intro x hx hk
          simp only [List.mem_append, List.mem_singleton] at hx
          rcases hx with hx | rfl
          · exact h1 x hx hk
          · exact itemAt_sgn h3 hk) (by intro x hx; simp at hx) hg
end Pat

/-- What the program's Find answers. -/
def FindIPost (s p : ByteArray) (init : Int) (w : World) (e : Ending) (w' : World) : Prop :=
  Keeps w.heap.size [] w w' ∧
  ((65536 < s.size ∧ e = .returned (.tuple #[.agg #[.int .i64 0, .int .i64 0, .slice none 0 0], .bool false, .int .i64 1])) ∨
  (s.size ≤ 65536 ∧ parse p = none ∧ e = .returned (.tuple #[.agg #[.int .i64 0, .int .i64 0, .slice none 0 0], .bool false, .int .i64 2])) ∨
  (s.size ≤ 65536 ∧ (∃ P, parse p = some P) ∧ ¬ (0 ≤ init ∧ init ≤ s.size) ∧ e = .returned (.tuple #[.agg #[.int .i64 0, .int .i64 0, .slice none 0 0], .bool false, .int .i64 3])) ∨
  (∃ P, ∃ i0 : Nat, s.size ≤ 65536 ∧ parse p = some P ∧ init = i0 ∧ i0 ≤ s.size ∧
    ((searchP s true P.start (fun _ => false) P.items (s.size + 1 - i0) i0 0 = none ∧ e = .returned (.tuple #[.agg #[.int .i64 0, .int .i64 0, .slice none 0 0], .bool false, .int .i64 4])) ∨
    (∃ st', searchP s true P.start (fun _ => false) P.items (s.size + 1 - i0) i0 0 = some (st', none) ∧ e = .returned (.tuple #[.agg #[.int .i64 0, .int .i64 0, .slice none 0 0], .bool false, .int .i64 0])) ∨
    (∃ st' i e2 c cb, searchP s true P.start (fun _ => false) P.items (s.size + 1 - i0) i0 0 = some (st', some (i, e2, c)) ∧ i ≤ s.size ∧ e2 ≤ s.size ∧ w.heap.size ≤ cb ∧ w'.rowIs cb 55 (P.caps * 3) (capAt c) ∧
      e = .returned (.tuple #[.agg #[.int .i64 i, .int .i64 e2, .slice (some ⟨cb, 0, none⟩) P.caps P.caps], .bool true, .int .i64 0])))))

theorem res_findI {W : World} {b d : Nat} {x y z v : Value} {u : Bool} {tmps : Array Value} (h : W.heap[b]? = some (.cells #[x, y, z] 24 (0, 0))) (hd : W.heap[d]? = some (.cells #[.bool u] 4 (0, 0))) (h2 : tmps[6]? = some (.pointer (some ⟨b, 0, none⟩))) (h3 : tmps[7]? = some (.pointer (some ⟨d, 0, none⟩))) (h4 : tmps[8]? = some v) :
    (results Try.f5 tmps).run Try.prog W = .ok (.tuple #[.agg #[x, y, z], .bool u, v]) W := by
  have q0 := blk_cell h 0
  have q1 := blk_cell h 1
  have q2 := blk_cell h 2
  have q3 := blk_cell hd 0
  simp at q0 q1 q2 q3
  simp [results, Try.results5, go_sem, h2, h3, h4, q0, q1, q2, q3]

set_option maxRecDepth 100000 in
set_option maxHeartbeats 4000000 in
theorem findI_any (s p : ByteArray) (init : Int) (w : World) :
    Calls Try.prog 5 #[.string s, .string p, .int .i64 init] w fun e w' => FindIPost s p init w e w' := by
  have hmf : ∀ (fn : Fn) (first cap : Array Value) (w : World), (Instr.makeFunc fn first cap).run Try.prog w = .ok (.func fn first cap) w := fun _ _ _ _ => rfl
  obtain ⟨W0, hW0⟩ : ∃ W0, W0 = ((w.alloc (.cells #[.int .i64 init] 3)).alloc (.cells #[.int .i64 0, .int .i64 0, .slice none 0 0] 24)).alloc (.cells #[.bool false] 4) := ⟨_, rfl⟩
  have hk0 : Keeps w.heap.size [] w W0 := by rw [hW0]; exact (((Keeps.refl _ _ _).alloc (Nat.le_refl _) _).alloc (by simp) _).alloc (by simp; omega) _
  have hi0 : W0.heap[w.heap.size]? = some (.cells #[.int .i64 init] 3 (0, 0)) := by rw [hW0]; exact blk_alloc (blk_alloc (blk_new w _) _) _
  have hf0 : W0.heap[w.heap.size + 1]? = some (.cells #[.int .i64 0, .int .i64 0, .slice none 0 0] 24 (0, 0)) := by
    rw [hW0]
    have := blk_new (w.alloc (.cells #[.int .i64 init] 3)) (.cells #[.int .i64 0, .int .i64 0, .slice none 0 0] 24)
    rw [World.size_alloc] at this
    exact blk_alloc this _
  have hb0 : W0.heap[w.heap.size + 2]? = some (.cells #[.bool false] 4 (0, 0)) := by
    rw [hW0]
    have := blk_new ((w.alloc (.cells #[.int .i64 init] 3)).alloc (.cells #[.int .i64 0, .int .i64 0, .slice none 0 0] 24)) (.cells #[.bool false] 4)
    rw [World.size_alloc, World.size_alloc] at this
    exact this
  have HW0 := hid hW0
  clear hW0
  have hl0 := blk_lt hb0
  by_cases hs : 65536 < s.size
  · have hd : decide ((65536 : Int) < s.size) = true := decide_eq_true (by omega)
    go_enter Try.func5, Try.ntmps5
    go_upto_region 1 with fail
    rw [← HW0.out]
    obtain ⟨r0, r1, r2, q0, q1, q2⟩ := found_facts hf0
    have b0 := blk_cell hb0 0
    have g0 := blk_free hb0 0
    go_wp2_with fail
    refine bodyPost_ret (res_findI (blk_set_other (found_set hf0) (a := ⟨w.heap.size + 2, 0, none⟩) (by simp) _) (blk_set (blk_set_other (blk_set_other (blk_set_other hb0 (a := ⟨w.heap.size + 1, 0, none⟩) (by simp) _) (a := ⟨w.heap.size + 1, 1, none⟩) (by simp) _) (a := ⟨w.heap.size + 1, 2, none⟩) (by simp) _) 0 _) rfl rfl rfl) rfl ?_
    exact ⟨by repeat (first | exact hk0 | (refine Keeps.setCell ?_ (Or.inr (by dsimp only; omega)) _)), Or.inl ⟨hs, rfl⟩⟩
  · have hd : decide ((65536 : Int) < s.size) = false := decide_eq_false (by omega)
    have hs' : s.size ≤ 65536 := by omega
    go_enter Try.func5, Try.ntmps5
    go_upto_region 1 with fail
    rw [← HW0.out]
    go_wp2_with fail
    refine (pattern_any p _).mono ?_
    rintro e w1 ⟨hk1, hno, hyes⟩
    have hi1 := hk1.blk hi0 (blk_lt hi0) (by simp)
    have hf1 := hk1.blk hf0 (blk_lt hf0) (by simp)
    have hb1 := hk1.blk hb0 hl0 (by simp)
    have hk01 := hk0.andThen hk1 hk0.size (by simp)
    have hl1 := blk_lt hb1
    have i1 := blk_cell hi1 0
    cases hp : parse p with
    | none =>
      have he := hno hp
      subst he
      have HP := hid hp
      clear hno hyes hp
      obtain ⟨r0, r1, r2, q0, q1, q2⟩ := found_facts hf1
      have b0 := blk_cell hb1 0
      have g0 := blk_free hb1 0
      go_wp2_with fail
      refine bodyPost_ret (res_findI (blk_set_other (found_set hf1) (a := ⟨w.heap.size + 2, 0, none⟩) (by simp) _) (blk_set (blk_set_other (blk_set_other (blk_set_other hb1 (a := ⟨w.heap.size + 1, 0, none⟩) (by simp) _) (a := ⟨w.heap.size + 1, 1, none⟩) (by simp) _) (a := ⟨w.heap.size + 1, 2, none⟩) (by simp) _) 0 _) rfl rfl rfl) rfl ?_
      exact ⟨by repeat (first | exact hk01 | (refine Keeps.setCell ?_ (Or.inr (by dsimp only; omega)) _)), Or.inr (Or.inl ⟨hs', HP.out, rfl⟩)⟩
    | some P =>
      obtain ⟨pc, vi, gs, he, hpc, hpb, hit, hlen, hsets⟩ := hyes P hp
      subst he
      have HP := hid hp
      clear hno hyes hp
      obtain ⟨r0, r1, r2, q0, q1, q2⟩ := found_facts hf1
      have b0 := blk_cell hb1 0
      have g0 := blk_free hb1 0
      by_cases hin : 0 ≤ init ∧ init ≤ s.size
      · obtain ⟨i0, rfl⟩ : ∃ i0 : Nat, init = i0 := ⟨init.toNat, by omega⟩
        have hi0' : i0 ≤ s.size := by omega
        have hd1 : decide ((i0 : Int) < 0) = false := decide_eq_false (by omega)
        have hd2 : decide ((s.size : Int) < i0) = false := decide_eq_false (by omega)
        have hd2' : decide (s.size < i0) = false := decide_eq_false (by omega)
        obtain ⟨W2, hW2⟩ : ∃ W2, W2 = (w1.alloc (.cells #[.pointer (some ⟨pc, 0, none⟩), .string s, .int .i64 0, .slice none 0 0] 40)).alloc (.cells #[.pointer (some ⟨w1.heap.size, 0, none⟩)] 38) := ⟨_, rfl⟩
        have hk2 : Keeps w1.heap.size [] w1 W2 := by rw [hW2]; exact ((Keeps.refl _ _ _).alloc (Nat.le_refl _) _).alloc (by simp) _
        have hm2 : W2.heap[w1.heap.size]? = some (.cells #[.pointer (some ⟨pc, 0, none⟩), .string s, .int .i64 0, .slice none 0 0] 40 (0, 0)) := by rw [hW2]; exact blk_alloc (blk_new w1 _) _
        have hv2 : W2.heap[w1.heap.size + 1]? = some (.cells #[.pointer (some ⟨w1.heap.size, 0, none⟩)] 38 (0, 0)) := by
          rw [hW2]
          have := blk_new (w1.alloc (.cells #[.pointer (some ⟨pc, 0, none⟩), .string s, .int .i64 0, .slice none 0 0] 40)) (.cells #[.pointer (some ⟨w1.heap.size, 0, none⟩)] 38)
          rw [World.size_alloc] at this
          exact this
        have HW2 := hid hW2
        clear hW2
        go_upto_region 9 with fail
        rw [← HW2.out]
        obtain ⟨dn2, hwf, hdn, hcp, hst, hil, hps⟩ := parse_wf HP.out
        have hkW3 : Keeps w1.heap.size [] w1 (W2.alloc (.cells #[.bool false] 4)) := hk2.alloc hk2.size _
        have hQ3 : Q0 W0.heap.size (W2.alloc (.cells #[.bool false] 4)) w1.heap.size pc s vi P gs 0 :=
          ⟨⟨_, _, _, blk_alloc hm2 _⟩, hkW3.blk hpb (blk_lt hpb) (by simp), own_keeps hit hkW3 (Nat.le_refl _) (fun _ _ => by simp), hlen, hsets.keeps hkW3 (Nat.le_refl _) (fun _ _ _ h => by simp at h)⟩
        obtain ⟨R, hR⟩ : ∃ R, searchP s true P.start (fun _ => false) P.items (s.size + 1 - i0) i0 0 = R := ⟨_, rfl⟩
        have hF := from_any i0 hs' (by omega) hcp hdn hwf (parse_sgn HP.out) hi0' (by omega) hQ3
        rw [hR] at hF
        have HR := hid hR
        have hC := find1_any (mv := w1.heap.size + 1) (iv := w.heap.size) (fv := w.heap.size + 1) (bv := w.heap.size + 2) i0 R hF (blk_cell (blk_alloc hv2 _) 0) (blk_cell (blk_alloc (hk2.blk hi1 (blk_lt hi1) (by simp)) _) 0) (blk_alloc (hk2.blk hf1 (blk_lt hf1) (by simp)) _) (blk_alloc (hk2.blk hb1 hl1 (by simp)) _) (by omega) (by omega)
        clear hR hdn
        have hl2 := hk2.size
        have hP : ∀ e w', F1Post W0.heap.size w1.heap.size pc s vi P gs (w.heap.size + 1) (w.heap.size + 2) R (W2.alloc (.cells #[.bool false] 4)) e w' → (e = .panicked [{ v := manyPanic, recovered := false }] ∨ e = .returned (.tuple #[])) ∧ w'.heap[W2.heap.size]? = some (.cells #[.bool false] 4 (0, 0)) := by
          rintro e w' ⟨hk, h⟩
          refine ⟨?_, hk.blk (blk_new W2 _) (by simp) ?_⟩
          · rcases h with ⟨_, h, _⟩ | ⟨_, _, h, _⟩ | ⟨_, _, _, _, _, _, _, _, _, _, h, _⟩
            · exact Or.inl h
            · exact Or.inr h
            · exact Or.inr h
          · have := blk_lt hv2
            simp only [List.mem_cons, List.not_mem_nil, or_false]
            omega
        go_wp2_with fail
        refine (inSteps_any _ W2 _ hC hP).mono ?_
        rintro e w4 ⟨w5, ⟨hp1, rfl, rfl⟩ | ⟨hp1, rfl, rfl⟩⟩
        · obtain ⟨hk5, ⟨hRn, _, hf5, hb5⟩ | ⟨_, _, h, _⟩ | ⟨_, _, _, _, _, _, _, _, _, _, h, _⟩⟩ := hp1
          · have hf3 := blk_alloc (hk2.blk hf1 (blk_lt hf1) (by simp)) (.cells #[.bool false] 4)
            have hb3 := blk_alloc (hk2.blk hb1 hl1 (by simp)) (.cells #[.bool false] 4)
            rw [hf3] at hf5
            rw [hb3] at hb5
            have hs5 := hk5.size
            rw [World.size_alloc] at hs5
            have hk05 : Keeps w.heap.size [] w w5 := ((hk01.andThen hk2 hk01.size (by simp)).alloc (Nat.le_trans hk01.size hl2) _).andThen hk5 (by rw [World.size_alloc]; have := hk01.size; omega) (by simp only [List.mem_cons, List.not_mem_nil, or_false]; have := hk01.size; intro k; omega)
            have hf6 := blk_alloc (blk_set_other hf5 (a := ⟨W2.heap.size, 0, none⟩) (by dsimp only; omega) (.bool false)) (.cells #[] 72)
            have hb6 := blk_alloc (blk_set_other hb5 (a := ⟨W2.heap.size, 0, none⟩) (by dsimp only; omega) (.bool false)) (.cells #[] 72)
            have hk06 : Keeps w.heap.size [] w ((w5.setCell ⟨W2.heap.size, 0, none⟩ (.bool false)).alloc (.cells #[] 72)) := (hk05.setCell (Or.inr (by have := hk01.size; dsimp only; omega)) _).alloc (by rw [World.size_setCell]; exact hk05.size) _
            obtain ⟨W6, hW6⟩ : ∃ W6, W6 = (w5.setCell ⟨W2.heap.size, 0, none⟩ (.bool false)).alloc (.cells #[] 72) := ⟨_, rfl⟩
            rw [← hW6] at hf6 hb6 hk06 ⊢
            clear hW6
            obtain ⟨r0, r1, r2, q0, q1, q2⟩ := found_facts hf6
            have b0 := blk_cell hb6 0
            have g0 := blk_free hb6 0
            go_wp2_with fail
            refine bodyPost_ret (res_findI (blk_set_other (found_set hf6) (a := ⟨w.heap.size + 2, 0, none⟩) (by simp) _) (blk_set (blk_set_other (blk_set_other (blk_set_other hb6 (a := ⟨w.heap.size + 1, 0, none⟩) (by simp) _) (a := ⟨w.heap.size + 1, 1, none⟩) (by simp) _) (a := ⟨w.heap.size + 1, 2, none⟩) (by simp) _) 0 _) rfl rfl rfl) rfl ?_
            exact ⟨by repeat (first | exact hk06 | (refine Keeps.setCell ?_ (Or.inr (by dsimp only; omega)) _)), Or.inr (Or.inr (Or.inr ⟨P, i0, hs', HP.out, rfl, hi0', Or.inl ⟨HR.out.trans hRn, rfl⟩⟩))⟩
          · cases h
          · cases h
        · obtain ⟨hk5, ⟨_, h, _⟩ | ⟨st', hRs, _, hf5, hb5⟩ | ⟨st', i, e2, c, cb, hRs, hi1, he1, hcb, hrow, _, hf5, hb5⟩⟩ := hp1
          · cases h
          · have hs5 := hk5.size
            rw [World.size_alloc] at hs5
            have hk05 : Keeps w.heap.size [] w w5 := ((hk01.andThen hk2 hk01.size (by simp)).alloc (Nat.le_trans hk01.size hl2) _).andThen hk5 (by rw [World.size_alloc]; have := hk01.size; omega) (by simp only [List.mem_cons, List.not_mem_nil, or_false]; have := hk01.size; intro k; omega)
            have hf6 := blk_set_other hf5 (a := ⟨W2.heap.size, 0, none⟩) (by dsimp only; omega) (.bool true)
            have hb6 := blk_set_other hb5 (a := ⟨W2.heap.size, 0, none⟩) (by dsimp only; omega) (.bool true)
            have hk06 : Keeps w.heap.size [] w (w5.setCell ⟨W2.heap.size, 0, none⟩ (.bool true)) := hk05.setCell (Or.inr (by have := hk01.size; dsimp only; omega)) _
            obtain ⟨W6, hW6⟩ : ∃ W6, W6 = w5.setCell ⟨W2.heap.size, 0, none⟩ (.bool true) := ⟨_, rfl⟩
            rw [← hW6] at hf6 hb6 hk06 ⊢
            clear hW6
            obtain ⟨r0, r1, r2, q0, q1, q2⟩ := found_facts hf6
            have b0 := blk_cell hb6 0
            have g0 := blk_free hb6 0
            go_upto_region 11 with fail
            go_cut [8] from 36 to 38 (fun v wx => v = .int .i64 0 ∧ wx.heap[w.heap.size + 1]? = some (.cells #[.int .i64 0, .int .i64 0, .slice none 0 0] 24 (0, 0)) ∧ wx.heap[w.heap.size + 2]? = some (.cells #[.bool false] 4 (0, 0)) ∧ Keeps w.heap.size [] w wx)
            case first =>
              go_region
              all_goals
                go_wp2_with fail
                go_meet
              all_goals
                refine ⟨rfl, blk_set_other (found_set hf6) (a := ⟨w.heap.size + 2, 0, none⟩) (by simp) (.bool false), blk_set (blk_set_other (blk_set_other (blk_set_other hb6 (a := ⟨w.heap.size + 1, 0, none⟩) (by simp) (.int .i64 0)) (a := ⟨w.heap.size + 1, 1, none⟩) (by simp) (.int .i64 0)) (a := ⟨w.heap.size + 1, 2, none⟩) (by simp) (.slice none 0 0)) 0 (.bool false), ?_⟩
                exact Keeps.drew (by repeat (first | exact hk06 | (refine Keeps.setCell ?_ (Or.inr (by dsimp only; omega)) _)))
            case rest =>
              obtain ⟨rfl, hf7, hb7, hk7⟩ := hcut
              go_wp2_with fail
              refine bodyPost_ret (res_findI hf7 hb7 rfl rfl rfl) rfl ?_
              exact ⟨hk7, Or.inr (Or.inr (Or.inr ⟨P, i0, hs', HP.out, rfl, hi0', Or.inr (Or.inl ⟨st', HR.out.trans hRs, rfl⟩)⟩))⟩
          · have hs5 := hk5.size
            rw [World.size_alloc] at hs5 hcb
            have hk05 : Keeps w.heap.size [] w w5 := ((hk01.andThen hk2 hk01.size (by simp)).alloc (Nat.le_trans hk01.size hl2) _).andThen hk5 (by rw [World.size_alloc]; have := hk01.size; omega) (by simp only [List.mem_cons, List.not_mem_nil, or_false]; have := hk01.size; intro k; omega)
            have hf6 := blk_set_other hf5 (a := ⟨W2.heap.size, 0, none⟩) (by dsimp only; omega) (.bool true)
            have hb6 := blk_set_other hb5 (a := ⟨W2.heap.size, 0, none⟩) (by dsimp only; omega) (.bool true)
            have hr6 := hrow.setOther (a := ⟨W2.heap.size, 0, none⟩) (by dsimp only; omega) (.bool true)
            have hk06 : Keeps w.heap.size [] w (w5.setCell ⟨W2.heap.size, 0, none⟩ (.bool true)) := hk05.setCell (Or.inr (by have := hk01.size; dsimp only; omega)) _
            obtain ⟨W6, hW6⟩ : ∃ W6, W6 = w5.setCell ⟨W2.heap.size, 0, none⟩ (.bool true) := ⟨_, rfl⟩
            rw [← hW6] at hf6 hb6 hk06 hr6 ⊢
            clear hW6
            have hc1 : cb ≠ w.heap.size + 1 := by have := hk01.size; omega
            have hc2 : cb ≠ w.heap.size + 2 := by have := hk01.size; omega
            have hcw : w.heap.size ≤ cb := by have := hk01.size; omega
            have HR6 := hid hr6
            clear hr6 hrow
            obtain ⟨r0, r1, r2, q0, q1, q2⟩ := found_facts hf6
            have b0 := blk_cell hb6 0
            have g0 := blk_free hb6 0
            go_upto_region 11 with fail
            go_cut [8] from 36 to 38 (fun v wx => v = .int .i64 0 ∧ wx.heap[w.heap.size + 1]? = some (.cells #[.int .i64 i, .int .i64 e2, .slice (some ⟨cb, 0, none⟩) P.caps P.caps] 24 (0, 0)) ∧ wx.heap[w.heap.size + 2]? = some (.cells #[.bool true] 4 (0, 0)) ∧ Keeps w.heap.size [] w wx ∧ wx.rowIs cb 55 (P.caps * 3) (capAt c))
            case first =>
              go_region
              all_goals
                go_wp2_with fail
                go_meet
              all_goals
                refine ⟨rfl, blk_set_other (found_set hf6) (a := ⟨w.heap.size + 2, 0, none⟩) (by simp) (.bool true), blk_set (blk_set_other (blk_set_other (blk_set_other hb6 (a := ⟨w.heap.size + 1, 0, none⟩) (by simp) (.int .i64 i)) (a := ⟨w.heap.size + 1, 1, none⟩) (by simp) (.int .i64 e2)) (a := ⟨w.heap.size + 1, 2, none⟩) (by simp) (.slice (some ⟨cb, 0, none⟩) P.caps P.caps)) 0 (.bool true), ?_, (((HR6.out.setOther (a := ⟨w.heap.size + 1, 0, none⟩) hc1 (.int .i64 i)).setOther (a := ⟨w.heap.size + 1, 1, none⟩) hc1 (.int .i64 e2)).setOther (a := ⟨w.heap.size + 1, 2, none⟩) hc1 (.slice (some ⟨cb, 0, none⟩) P.caps P.caps)).setOther (a := ⟨w.heap.size + 2, 0, none⟩) hc2 (.bool true)⟩
                exact Keeps.drew (by repeat (first | exact hk06 | (refine Keeps.setCell ?_ (Or.inr (by dsimp only; omega)) _)))
            case rest =>
              obtain ⟨rfl, hf7, hb7, hk7, hr7⟩ := hcut
              go_wp2_with fail
              refine bodyPost_ret (res_findI hf7 hb7 rfl rfl rfl) rfl ?_
              exact ⟨hk7, Or.inr (Or.inr (Or.inr ⟨P, i0, hs', HP.out, rfl, hi0', Or.inr (Or.inr ⟨st', i, e2, c, cb, HR.out.trans hRs, hi1, he1, hcw, hr7, rfl⟩)⟩))⟩
      · by_cases hneg : init < 0
        · have hd1 : decide (init < 0) = true := decide_eq_true hneg
          go_wp2_with fail
          refine bodyPost_ret (res_findI (blk_set_other (found_set hf1) (a := ⟨w.heap.size + 2, 0, none⟩) (by simp) _) (blk_set (blk_set_other (blk_set_other (blk_set_other hb1 (a := ⟨w.heap.size + 1, 0, none⟩) (by simp) _) (a := ⟨w.heap.size + 1, 1, none⟩) (by simp) _) (a := ⟨w.heap.size + 1, 2, none⟩) (by simp) _) 0 _) rfl rfl rfl) rfl ?_
          exact ⟨by repeat (first | exact hk01 | (refine Keeps.setCell ?_ (Or.inr (by dsimp only; omega)) _)), Or.inr (Or.inr (Or.inl ⟨hs', ⟨P, HP.out⟩, hin, rfl⟩))⟩
        · have hd1 : decide (init < 0) = false := decide_eq_false hneg
          have hd2 : decide ((s.size : Int) < init) = true := decide_eq_true (by omega)
          go_wp2_with fail
          refine bodyPost_ret (res_findI (blk_set_other (found_set hf1) (a := ⟨w.heap.size + 2, 0, none⟩) (by simp) _) (blk_set (blk_set_other (blk_set_other (blk_set_other hb1 (a := ⟨w.heap.size + 1, 0, none⟩) (by simp) _) (a := ⟨w.heap.size + 1, 1, none⟩) (by simp) _) (a := ⟨w.heap.size + 1, 2, none⟩) (by simp) _) 0 _) rfl rfl rfl) rfl ?_
          exact ⟨by repeat (first | exact hk01 | (refine Keeps.setCell ?_ (Or.inr (by dsimp only; omega)) _)), Or.inr (Or.inr (Or.inl ⟨hs', ⟨P, HP.out⟩, hin, rfl⟩))⟩
end Go.Proofs.Ytpinoolagbghnaa
