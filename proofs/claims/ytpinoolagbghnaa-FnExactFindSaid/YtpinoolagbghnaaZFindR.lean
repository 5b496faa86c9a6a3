/-
  Walk: the reference's l10Check and Find come to the plain words parse and searchP.
-/
import Derived.Test.YtpinoolagbghnaaZSrch
namespace Go.Proofs.Ytpinoolagbghnaa
set_option linter.unusedVariables false
open Go.RowKit Pat

namespace Pat
/-- What Find is to answer: none: too many steps; else the match. -/
abbrev SrchAns := Option (Nat × Option (Nat × Nat × Cap))
end Pat

/-- What l10Check answers. -/
def ChkPost (s p : ByteArray) (w : World) (e : Ending) (w' : World) : Prop :=
  Keeps w.heap.size [] w w' ∧
  (65536 < s.size → e = .returned (.tuple #[.pointer none, .int .i64 1])) ∧
  (s.size ≤ 65536 → parse p = none → e = .returned (.tuple #[.pointer none, .int .i64 2])) ∧
  (s.size ≤ 65536 → ∀ P, parse p = some P → ∃ m vi pg gs, e = .returned (.tuple #[.pointer (some ⟨m, 0, none⟩), .int .i64 0]) ∧ w.heap.size ≤ m ∧ MS w.heap.size w' m s vi pg P gs 0)

set_option maxRecDepth 100000 in
set_option maxHeartbeats 2000000 in
theorem check_any (s p : ByteArray) (w : World) :
    Calls Try.prog 9 #[.string s, .string p] w fun e w' => ChkPost s p w e w' := by
  by_cases hs : 65536 < s.size
  · have hd : decide ((65536 : Int) < s.size) = true := decide_eq_true (by omega)
    go_enter Try.func9, Try.ntmps9
    go_wp2_with fail
    go_ret2
    exact ⟨Keeps.refl _ _ _, fun _ => rfl, fun h => by omega, fun h => by omega⟩
  · have hd : decide ((65536 : Int) < s.size) = false := decide_eq_false (by omega)
    go_enter Try.func9, Try.ntmps9
    go_wp2_with fail
    refine (read_any p _).mono ?_
    rintro e w1 ⟨hk, hno, hyes⟩
    cases hp : parse p with
    | none =>
      have he := hno hp
      subst he
      have HP := hid hp
      clear hno hyes hp
      go_wp2_with fail
      go_ret2
      exact ⟨hk.alloc hk.size _, fun h => by omega, fun _ _ => rfl, fun _ P hP => by rw [HP.out] at hP; cases hP⟩
    | some P =>
      obtain ⟨vi, g, gs, he, hg, hit, hlen, hsets, hrow⟩ := hyes P hp
      subst he
      have HP := hid hp
      have HIT := hid hit
      obtain ⟨ai, ci, rfl⟩ := own_form hit
      have HLEN := hid hlen
      clear hno hyes hp hit hlen
      go_wp2_with fail
      go_ret2
      have hk1 : Keeps w1.heap.size [] w1 ((w1.alloc (.cells #[.slice ai P.items.length ci, .slice (some ⟨g, 0, none⟩) P.caps P.caps, .bool P.start] 47)).alloc (.cells #[.string s, .slice ai P.items.length ci, .slice (some ⟨g, 0, none⟩) P.caps P.caps, .bool P.start, .slice none 0 0, .slice none 0 0, .int .i64 0] 52)) :=
        ((Keeps.refl _ _ _).alloc (Nat.le_refl _) _).alloc (by simp) _
      refine ⟨hk.andThen hk1 hk.size (by simp), ?_, ?_, ?_⟩
      · intro h
        omega
      · intro _ h
        rw [HP.out] at h
        cases h
      intro _ P' hP'
      rw [HP.out] at hP'
      simp only [Option.some.injEq] at hP'
      subst hP'
      have hb := blk_new (w1.alloc (.cells #[.slice ai P.items.length ci, .slice (some ⟨g, 0, none⟩) P.caps P.caps, .bool P.start] 47)) (.cells #[.string s, .slice ai P.items.length ci, .slice (some ⟨g, 0, none⟩) P.caps P.caps, .bool P.start, .slice none 0 0, .slice none 0 0, .int .i64 0] 52)
      rw [World.size_alloc] at hb
      refine ⟨w1.heap.size + 1, _, g, gs, rfl, by have := hk.size; omega, ⟨⟨_, _, _, _, _, _, hb⟩, own_keeps HIT.out hk1 (Nat.le_refl _) (fun _ _ => by simp), HLEN.out, hsets.keeps hk1 (Nat.le_refl _) (fun j it g a b c => ⟨by simp, by simp [Value.ownBlock]⟩), hk1.row hrow hrow.lt (by simp)⟩⟩

/-- The cells of a match in memory: the number of captures, and the row that bears them. -/
def CapRow (w : World) (lo : Nat) (v : Value) (n : Nat) (pl : Nat → Bool) (c : Cap) : Prop := w.ownsRow lo 55 3 v n (capCells pl c n)

/-- What the reference's Find answers. -/
def FindPost (s p : ByteArray) (init : Int) (w : World) (e : Ending) (w' : World) : Prop :=
  Keeps w.heap.size [] w w' ∧
  ((65536 < s.size ∧ e = .returned (.tuple #[.agg #[.int .i64 0, .int .i64 0, .slice none 0 0], .bool false, .int .i64 1])) ∨
  (s.size ≤ 65536 ∧ parse p = none ∧ e = .returned (.tuple #[.agg #[.int .i64 0, .int .i64 0, .slice none 0 0], .bool false, .int .i64 2])) ∨
  (s.size ≤ 65536 ∧ (∃ P, parse p = some P) ∧ ¬ (0 ≤ init ∧ init ≤ s.size) ∧ e = .returned (.tuple #[.agg #[.int .i64 0, .int .i64 0, .slice none 0 0], .bool false, .int .i64 3])) ∨
  (∃ P, ∃ i0 : Nat, s.size ≤ 65536 ∧ parse p = some P ∧ init = i0 ∧ i0 ≤ s.size ∧
    ((searchP s false P.start (placesOf P.items) P.items (s.size + 1 - i0) i0 0 = none ∧ e = .returned (.tuple #[.agg #[.int .i64 0, .int .i64 0, .slice none 0 0], .bool false, .int .i64 4])) ∨
    (∃ st', searchP s false P.start (placesOf P.items) P.items (s.size + 1 - i0) i0 0 = some (st', none) ∧ e = .returned (.tuple #[.agg #[.int .i64 0, .int .i64 0, .slice none 0 0], .bool false, .int .i64 0])) ∨
    (∃ st' i e2 c v, searchP s false P.start (placesOf P.items) P.items (s.size + 1 - i0) i0 0 = some (st', some (i, e2, c)) ∧ i ≤ s.size ∧ e2 ≤ s.size ∧ CapRow w' w.heap.size v P.caps (placesOf P.items) c ∧
      e = .returned (.tuple #[.agg #[.int .i64 i, .int .i64 e2, v], .bool true, .int .i64 0])))))

theorem res_find {W : World} {b : Nat} {c : Array Value} {x y z u v : Value} {tmps : Array Value} (h : W.heap[b]? = some (.cells c 24 (0, 0))) (hc : c = #[x, y, z]) (h2 : tmps[6]? = some (.pointer (some ⟨b, 0, none⟩))) (h3 : tmps[7]? = some u) (h4 : tmps[8]? = some v) :
    (results Try.f4 tmps).run Try.prog W = .ok (.tuple #[.agg #[x, y, z], u, v]) W := by
  subst hc
  have q0 := blk_cell h 0
  have q1 := blk_cell h 1
  have q2 := blk_cell h 2
  simp at q0 q1 q2
  simp [results, Try.results4, go_sem, h2, h3, h4, q0, q1, q2]

set_option maxRecDepth 100000 in
set_option maxHeartbeats 4000000 in
theorem find_any (s p : ByteArray) (init : Int) (w : World) :
    Calls Try.prog 4 #[.string s, .string p, .int .i64 init] w fun e w' => FindPost s p init w e w' := by
  obtain ⟨W0, hW0⟩ : ∃ W0, W0 = w.alloc (.cells #[.int .i64 0, .int .i64 0, .slice none 0 0] 24) := ⟨_, rfl⟩
  have hk0 : Keeps w.heap.size [] w W0 := by rw [hW0]; exact (Keeps.refl _ _ _).alloc (Nat.le_refl _) _
  have hb0 : W0.heap[w.heap.size]? = some (.cells #[.int .i64 0, .int .i64 0, .slice none 0 0] 24 (0, 0)) := by rw [hW0]; exact blk_new _ _
  have hl0 := blk_lt hb0
  have HW0 := hid hW0
  go_enter Try.func4, Try.ntmps4
  go_upto_region 1 with fail
  rw [← hW0]
  clear hW0
  go_wp2_with fail
  refine (check_any s p _).mono ?_
  rintro e w1 ⟨hk1, h1, h2, h3⟩
  have hb1 := hk1.blk hb0 hl0 (by simp)
  have hk01 := hk0.andThen hk1 hk0.size (by simp)
  obtain ⟨r0, r1, r2, q0, q1, q2⟩ := found_facts hb1
  have hl1 := blk_lt hb1
  by_cases hs : 65536 < s.size
  · have he := h1 hs
    subst he
    clear h1 h2 h3
    go_wp2_with fail
    refine bodyPost_ret (res_find (found_set hb1) rfl rfl rfl rfl) rfl ?_
    exact ⟨hk01.thenNew (found_keeps _ _ _ _ _) (Nat.le_refl _) hk01.size, Or.inl ⟨hs, rfl⟩⟩
  · cases hp : parse p with
    | none =>
      have he := h2 (by omega) hp
      subst he
      have HP := hid hp
      clear h1 h2 h3 hp
      go_wp2_with fail
      refine bodyPost_ret (res_find (found_set hb1) rfl rfl rfl rfl) rfl ?_
      exact ⟨hk01.thenNew (found_keeps _ _ _ _ _) (Nat.le_refl _) hk01.size, Or.inr (Or.inl ⟨by omega, HP.out, rfl⟩)⟩
    | some P =>
      obtain ⟨m, vi, pg, gs, he, hlm, hM⟩ := h3 (by omega) P hp
      subst he
      have HP := hid hp
      obtain ⟨dn2, hwf, hdn, hcp, hst, hil, hps⟩ := parse_wf hp
      clear h1 h2 h3 hp hdn hst
      have hs' : s.size ≤ 65536 := by omega
      by_cases hin : 0 ≤ init ∧ init ≤ s.size
      · obtain ⟨i0, rfl⟩ : ∃ i0 : Nat, init = i0 := ⟨init.toNat, by omega⟩
        have hi0 : i0 ≤ s.size := by omega
        have hd1 : decide ((i0 : Int) < 0) = false := decide_eq_false (by omega)
        have hd2 : decide ((s.size : Int) < i0) = false := decide_eq_false (by omega)
        have hd2' : decide (s.size < i0) = false := decide_eq_false (by omega)
        obtain ⟨dn2', hwf', hdn', _⟩ := parse_wf HP.out
        have hsr := search_any (w := w1) (lo := W0.heap.size) (m := m) (vi := vi) (pg := pg) (gs := gs) (P := P) i0 hs' (by omega) hcp hM.len hdn' hwf' hi0 (by omega) hM
        obtain ⟨R, hR⟩ : ∃ R, searchP s false P.start (placesOf P.items) P.items (s.size + 1 - i0) i0 0 = R := ⟨_, rfl⟩
        rw [hR] at hsr
        have HR := hid hR
        have HDN := hid hdn'
        clear hR hdn'
        go_wp2_with fail
        refine hsr.mono ?_
        rintro e w2 ⟨hk2, hcases⟩
        have hmw : w.heap.size ∉ [m] := by simp; omega
        have hb2 := hk2.blk hb1 hl1 hmw
        have hk02 : Keeps w.heap.size [] w w2 := hk01.andThen hk2 hk01.size (fun k hk hlt => by simp only [List.mem_singleton] at hk; omega)
        obtain ⟨g0, g1, g2, g3, g4, g5⟩ := found_facts hb2
        have hl2 := blk_lt hb2
        clear r0 r1 r2 q0 q1 q2
        rcases hcases with ⟨rfl, st', hM2, hs1, hs2, rfl⟩ | ⟨st', rfl, hM2, hs1, rfl⟩ | ⟨st', i, e2, c, v, rfl, hM2, hs1, hi1, he1, hrow, rfl⟩
        · obtain ⟨_, _, _, _, _, _, hm⟩ := hM2.blk
          have hlm2 := blk_lt hm
          have c6 := blk_cell hm 6
          go_wp2_with fail
          refine (spent_yes m st' _ (by go_simp) hs1).mono ?_
          rintro e w' ⟨rfl, rfl⟩
          go_wp2_with fail
          refine bodyPost_ret (res_find (blk_alloc (found_set hb2) _) rfl rfl rfl rfl) rfl ?_
          exact ⟨(hk02.thenNew (found_keeps _ _ _ _ _) (Nat.le_refl _) hk02.size).alloc (by simpa using hk02.size) _, Or.inr (Or.inr (Or.inr ⟨P, i0, hs', HP.out, rfl, hi0, Or.inl ⟨HR.out, rfl⟩⟩))⟩
        · obtain ⟨_, _, _, _, _, _, hm⟩ := hM2.blk
          have hlm2 := blk_lt hm
          have c6 := blk_cell hm 6
          go_wp2_with fail
          refine (spent_no m st' _ (by go_simp) hs1).mono ?_
          rintro e w' ⟨rfl, rfl⟩
          go_wp2_with fail
          refine bodyPost_ret (res_find (blk_alloc (found_set hb2) _) rfl rfl rfl rfl) rfl ?_
          exact ⟨(hk02.thenNew (found_keeps _ _ _ _ _) (Nat.le_refl _) hk02.size).alloc (by simpa using hk02.size) _, Or.inr (Or.inr (Or.inr ⟨P, i0, hs', HP.out, rfl, hi0, Or.inr (Or.inl ⟨st', HR.out, rfl⟩)⟩))⟩
        · obtain ⟨_, _, _, _, _, _, hm⟩ := hM2.blk
          have hlm2 := blk_lt hm
          have c6 := blk_cell hm 6
          have hov : v.ownBlock ≠ some w.heap.size := fun h => by have := (hrow.lt _ h).1; omega
          obtain ⟨av, cv, rfl⟩ := own_form hrow
          have HROW := hid hrow
          clear hrow
          go_wp2_with fail
          refine (spent_no m st' _ (by go_simp) hs1).mono ?_
          rintro e w' ⟨rfl, rfl⟩
          go_wp2_with fail
          refine bodyPost_ret (res_find (blk_alloc (found_set hb2) _) rfl rfl rfl rfl) rfl ?_
          refine ⟨(hk02.thenNew (found_keeps _ _ _ _ _) (Nat.le_refl _) hk02.size).alloc (by simpa using hk02.size) _, Or.inr (Or.inr (Or.inr ⟨P, i0, hs', HP.out, rfl, hi0, Or.inr (Or.inr ⟨st', i, e2, c, _, HR.out, hi1, he1, ?_, rfl⟩)⟩))⟩
          exact own_lower ((own_keeps HROW.out (found_keeps _ _ _ _ _) (Nat.le_refl _) (fun k h1 h2 => by simp only [List.mem_singleton] at h2; exact hov (h2 ▸ h1))).alloc _) (Nat.le_trans hk0.size hk1.size)
      · by_cases hneg : init < 0
        · have hd1 : decide (init < 0) = true := decide_eq_true hneg
          go_wp2_with fail
          refine bodyPost_ret (res_find (found_set hb1) rfl rfl rfl rfl) rfl ?_
          exact ⟨hk01.thenNew (found_keeps _ _ _ _ _) (Nat.le_refl _) hk01.size, Or.inr (Or.inr (Or.inl ⟨hs', ⟨P, HP.out⟩, hin, rfl⟩))⟩
        · have hd1 : decide (init < 0) = false := decide_eq_false hneg
          have hd2 : decide ((s.size : Int) < init) = true := decide_eq_true (by omega)
          go_wp2_with fail
          refine bodyPost_ret (res_find (found_set hb1) rfl rfl rfl rfl) rfl ?_
          exact ⟨hk01.thenNew (found_keeps _ _ _ _ _) (Nat.le_refl _) hk01.size, Or.inr (Or.inr (Or.inl ⟨hs', ⟨P, HP.out⟩, hin, rfl⟩))⟩
end Go.Proofs.Ytpinoolagbghnaa
