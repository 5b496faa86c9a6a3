/-
  Walk: the program's matcher: from comes to the plain word searchP (the program's way).
-/
import Derived.Test.YtpinoolagbghnaaDoorZMatK
import Derived.Test.YtpinoolagbghnaaDoorZChk
namespace Go.Proofs.YtpinoolagbghnaaDoor
set_option linter.unusedVariables false
open Go.RowKit Pat

/-- A matching of the program's ahead of a search. -/
structure Q0 (lo : Nat) (w : World) (m pc : Nat) (s : ByteArray) (vi : Value) (P : Pt) (gs : List Nat) (st : Nat) : Prop where
  blk : ∃ a n k, w.heap[m]? = some (.cells #[.pointer (some ⟨pc, 0, none⟩), .string s, .int .i64 st, .slice a n k] 52 (0, 0))
  pat : PBlk w pc P.start vi P.caps
  it : PItemRow lo w vi P.items.length (pCells P.items gs)
  len : P.items.length = gs.length
  sets : PSetsOk w lo P.items gs

theorem run_make_caps (n : Nat) (hn : n ≤ 1000) (w : World) : (Instr.makeSlice 30 (.int .i64 (n : Int)) (.int .i64 (n : Int))).run Tryd.prog w = .ok (.slice (some ⟨w.heap.size, 0, none⟩) n n) (w.alloc (.cells (madeCells #[.bool false, .int .i64 0, .int .i64 0] (n * 3)) 69)) := by
  obtain ⟨i, hi, hz, hs, hb⟩ := info_parts info_cap
  have hr := run_makeSlice (P := Tryd.prog) (w := w) 30 69 i _ Tryd.underlying30 hi hz .i64 .i64 n n (by omega) (Int.le_refl _) (by rw [hs]; simp; omega) (by rw [hb]; omega) (by omega)
  simp only [Int.toNat_natCast, hs] at hr
  exact hr
theorem caps_made (w : World) (n : Nat) : (w.alloc (.cells (madeCells #[.bool false, .int .i64 0, .int .i64 0] (n * 3)) 69)).rowIs w.heap.size 69 (n * 3) (capAt Cap.zero) := by
  have h := World.rowIs_alloc w (madeCells #[.bool false, .int .i64 0, .int .i64 0] (n * 3)) 69 (capAt Cap.zero) (fun i hi => by
    rw [size_madeCells] at hi
    unfold madeCells
    rw [Array.getElem?_map, Array.getElem?_range, if_pos hi]
    simp only [Option.map_some, Option.some.injEq]
    unfold capAt Cap.zero
    have h3 : i % 3 = 0 ∨ i % 3 = 1 ∨ i % 3 = 2 := by omega
    rcases h3 with h3 | h3 | h3 <;> simp [h3])
  rw [size_madeCells] at h
  exact h
section
variable {lo m pc st : Nat} {s : ByteArray} {vi : Value} {P : Pt} {gs : List Nat} {w w' : World}
theorem QS.toQ0 {cb : Nat} {c : Cap} (h : QS lo w m pc s vi P gs cb st c) : Q0 lo w m pc s vi P gs st := ⟨⟨_, _, _, h.blk⟩, h.pat, h.it, h.len, h.sets⟩
theorem Q0.fresh (h : Q0 lo w m pc s vi P gs st) (hW : w' = (w.setCell ⟨m, 3, none⟩ (.slice (some ⟨w.heap.size, 0, none⟩) P.caps P.caps)).alloc (.cells (madeCells #[.bool false, .int .i64 0, .int .i64 0] (P.caps * 3)) 69)) :
    QS lo w' m pc s vi P gs w.heap.size st Cap.zero ∧ Keeps w.heap.size [m] w w' := by
  obtain ⟨a, n, k, hm⟩ := h.blk
  have hk : Keeps w.heap.size [m] w w' := by
    rw [hW]
    exact ((Keeps.refl _ _ _).setCell (Or.inl (by simp)) _).alloc (by simp) _
  have hpb : w.heap[pc]? = some (.cells #[.bool P.start, vi, .int .i64 P.caps] 49 (0, 0)) := h.pat
  have hne : ∀ (b : Nat) (c0 : Array Value) (t : TypeId) (z : Nat × Nat), w.heap[b]? = some (.cells c0 t z) → t ≠ 52 → b ∉ [m] := fun b c0 t z hb0 h1 hm2 => by
    simp only [List.mem_singleton] at hm2
    subst hm2
    rw [hm] at hb0
    simp only [Option.some.injEq, Obj.cells.injEq] at hb0
    exact h1 hb0.2.1.symm
  refine ⟨⟨?_, hk.blk h.pat (blk_lt h.pat) (hne _ _ _ _ hpb (by decide)), own_keeps h.it hk (Nat.le_refl _) (fun k h1 h2 => ?_), h.len, h.sets.keeps hk (Nat.le_refl _) (fun g n f h1 h2 => ?_), ?_⟩, hk⟩
  · rw [hW]; exact blk_alloc (blk_set hm 3 _) _
  · rcases h.it.2 with ⟨rfl, _⟩ | ⟨g', cap', cur, rfl, _, hg', _⟩
    · cases h1
    · simp only [Value.ownBlock, Option.some.injEq] at h1
      exact hne _ _ _ _ (h1 ▸ hg') (by decide) h2
  · obtain ⟨c0, hc0⟩ := row_blk h2
    exact hne _ _ _ _ hc0 (by decide) h1
  · rw [hW]
    have := caps_made (w.setCell ⟨m, 3, none⟩ (.slice (some ⟨w.heap.size, 0, none⟩) P.caps P.caps)) P.caps
    rw [World.size_setCell] at this
    exact this

/-- What from leaves. -/
def FromPost (lo m pc : Nat) (s : ByteArray) (vi : Value) (P : Pt) (gs : List Nat) (R : Option (Nat × Option (Nat × Nat × Cap))) (w : World) (e : Ending) (w' : World) : Prop :=
  Keeps w.heap.size [m] w w' ∧
  ((R = none ∧ e = .panicked [{ v := manyPanic, recovered := false }]) ∨
  (∃ st', R = some (st', none) ∧ Q0 lo w' m pc s vi P gs st' ∧ st' ≤ 50000 ∧ e = .returned (.tuple #[.agg #[.int .i64 0, .int .i64 0, .slice none 0 0], .bool false])) ∨
  (∃ st' i e2 c cb, R = some (st', some (i, e2, c)) ∧ Q0 lo w' m pc s vi P gs st' ∧ st' ≤ 50000 ∧ i ≤ s.size ∧ (e2 : Nat) ≤ s.size ∧ w.heap.size ≤ cb ∧ w'.rowIs cb 69 (P.caps * 3) (capAt c) ∧
    e = .returned (.tuple #[.agg #[.int .i64 i, .int .i64 e2, .slice (some ⟨cb, 0, none⟩) P.caps P.caps], .bool true])))

theorem res_from {W : World} {b : Nat} {c : Array Value} {x y z v : Value} {tmps : Array Value} (h : W.heap[b]? = some (.cells c 32 (0, 0))) (hc : c = #[x, y, z]) (h2 : tmps[4]? = some (.pointer (some ⟨b, 0, none⟩))) (h3 : tmps[5]? = some v) :
    (results Tryd.f29 tmps).run Tryd.prog W = .ok (.tuple #[.agg #[x, y, z], v]) W := by
  subst hc
  have q0 := blk_cell h 0
  have q1 := blk_cell h 1
  have q2 := blk_cell h 2
  simp at q0 q1 q2
  simp [results, Tryd.results29, go_sem, h2, h3, q0, q1, q2]
theorem Q0.off (h : Q0 lo w m pc s vi P gs st) {S : List Nat} (hk : Keeps w.heap.size S w w') (hS : ∀ k ∈ S, ∃ c t z, w.heap[k]? = some (.cells c t z) ∧ t ≠ 52 ∧ t ≠ 49 ∧ t ≠ 77 ∧ t ≠ 82) : Q0 lo w' m pc s vi P gs st := by
  obtain ⟨a, n, k, hm⟩ := h.blk
  have hpb : w.heap[pc]? = some (.cells #[.bool P.start, vi, .int .i64 P.caps] 49 (0, 0)) := h.pat
  have key : ∀ (b : Nat) (c0 : Array Value) (t : TypeId) (z : Nat × Nat), w.heap[b]? = some (.cells c0 t z) → (t = 52 ∨ t = 49 ∨ t = 77 ∨ t = 82) → b ∉ S := fun b c0 t z hb ht hmem => by
    obtain ⟨c1, t1, z1, h1, h2, h3, h4, h5⟩ := hS b hmem
    rw [h1] at hb
    simp only [Option.some.injEq, Obj.cells.injEq] at hb
    obtain ⟨_, rfl, _⟩ := hb
    rcases ht with ht | ht | ht | ht
    · exact h2 ht
    · exact h3 ht
    · exact h4 ht
    · exact h5 ht
  refine ⟨⟨a, n, k, hk.blk hm (blk_lt hm) (key _ _ _ _ hm (by simp))⟩, hk.blk h.pat (blk_lt h.pat) (key _ _ _ _ hpb (by simp)), own_keeps h.it hk (Nat.le_refl _) (fun k h1 h2 => ?_), h.len, h.sets.keeps hk (Nat.le_refl _) (fun g n f h1 h2 => ?_)⟩
  · rcases h.it.2 with ⟨rfl, _⟩ | ⟨g', cap', cur, rfl, _, hg', _⟩
    · cases h1
    · simp only [Value.ownBlock, Option.some.injEq] at h1
      exact key _ _ _ _ (h1 ▸ hg') (by simp) h2
  · obtain ⟨c0, hc0⟩ := row_blk h2
    exact key _ _ _ _ hc0 (by simp) h1

set_option maxRecDepth 100000 in
set_option maxHeartbeats 4000000 in
theorem from_any (init : Nat) (hs : s.size ≤ 65536) (hl : P.items.length ≤ 200) (hcp : P.caps ≤ 16) {dn2 : List Bool} (hdn : dn2.length = P.caps) (hw : Wf [] [] P.items dn2 []) (hsgn : SgnOk P.items) (hi : init ≤ s.size) (hst : st ≤ 50000) (hM : Q0 lo w m pc s vi P gs st) :
    Calls Tryd.prog 29 #[.pointer (some ⟨m, 0, none⟩), .int .i64 init] w fun e w' => FromPost lo m pc s vi P gs (searchP s true P.start (fun _ => false) P.items (s.size + 1 - init) init st) w e w' := by
  have hx : Ctx (placesOf P.items) [] [] P.items := ⟨fun n _ => rfl, by simp, List.nodup_nil⟩
  have hgo : ∀ {cb : Nat}, QGoes lo m pc s vi P gs cb 0 (tryP s true (fun _ => false) P.items) (POk s [] []) := fun {cb} =>
    match_all (lo := lo) (m := m) (pc := pc) (cb := cb) (vi := vi) hs hl hcp hdn hM.len hsgn (P.items.length + 1) 0 [] [] (by omega) (by omega) hw hx
  obtain ⟨R, hR⟩ : ∃ R, searchP s true P.start (fun _ => false) P.items (s.size + 1 - init) init st = R := ⟨_, rfl⟩
  rw [hR]
  have HR := hid hR
  clear hR
  have hmk := run_make_caps P.caps (by omega)
  have hM1 : Q0 lo (w.alloc (.cells #[.int .i64 0, .int .i64 0, .slice none 0 0] 32)) m pc s vi P gs st := hM.off (S := []) ((Keeps.refl _ _ _).alloc (Nat.le_refl _) _) (by simp)
  go_enter Tryd.func29, Tryd.ntmps29
  go_wp2_with fail
  go_loopg [1] (s.size + 1 - init) (fun gk v wr => ∃ i st', v = .int .i64 (i : Nat) ∧ i + gk = s.size + 1 ∧ i ≤ s.size ∧ Q0 lo wr m pc s vi P gs st' ∧ Keeps w.heap.size [m] w wr ∧ wr.heap[w.heap.size]? = some (.cells #[.int .i64 0, .int .i64 0, .slice none 0 0] 32 (0, 0)) ∧
    st' ≤ 50000 ∧ Hid (R = searchP s true P.start (fun _ => false) P.items gk i st'))
  case atStart => exact ⟨init, st, rfl, by omega, hi, hM1, (Keeps.refl _ _ _).alloc (Nat.le_refl _) _, blk_new _ _, hst, hid HR.out.symm⟩
  case round =>
    obtain ⟨i, st', rfl, hgk, hil, hM', hkk, hblk, h1, HG⟩ := hrel
    obtain ⟨gk', rfl⟩ : ∃ x, gk = x + 1 := ⟨gk - 1, by omega⟩
    obtain ⟨a4, n4, k4, hm⟩ := hM'.blk
    have c0 := blk_cell hm 0
    have c1 := blk_cell hm 1
    have c2 := blk_cell hm 2
    have c3 := blk_cell hm 3
    have f3 := blk_free hm 3
    have hml := blk_lt hm
    obtain ⟨p0, p1, p2, q0, q1, q2⟩ := hM'.pat.cells
    have hpl := blk_lt hM'.pat
    go_upto_region 2 with fail
    obtain ⟨W, hW⟩ : ∃ W, W = (wr.setCell ⟨m, 3, none⟩ (.slice (some ⟨wr.heap.size, 0, none⟩) P.caps P.caps)).alloc (.cells (madeCells #[.bool false, .int .i64 0, .int .i64 0] (P.caps * 3)) 69) := ⟨_, rfl⟩
    rw [← hW]
    obtain ⟨hT, hKW⟩ := hM'.fresh hW
    have hmb : w.heap.size ≠ m := by
      intro e
      rw [e, hm] at hblk
      simp at hblk
    have hblkW := hKW.blk hblk (blk_lt hblk) (by simpa using hmb)
    clear hW c0 c1 c2 c3 f3 hm p0 p1 p2 q0 q1 q2
    go_wp2_with fail
    refine (hgo.at (k1 := (0 : Int)) (by rfl) rfl hil h1 (POk.zero _ _) hT rfl).mono ?_
    rintro e w2 ⟨hK2, hcase⟩
    have hoff := hT.off hblkW (by decide) (by decide)
    have hblk2 := hK2.blk hblkW (blk_lt hblkW) hoff
    have hkk2 : Keeps w.heap.size [m] w w2 := by
      have hsz := hkk.size
      refine (hkk.andThen hKW hkk.size (fun _ h _ => h)).andThen hK2 (Nat.le_trans hkk.size hKW.size) (fun k hk hlt => ?_)
      simp only [List.mem_cons, List.not_mem_nil, or_false] at hk ⊢
      omega
    obtain ⟨r0, r1, r2, q0, q1, q2⟩ := found_facts hblk2
    have hlb := blk_lt hblk2
    rcases hcase with ⟨hk1, rfl⟩ | ⟨st2, hk1, hT2, hs2, rfl⟩ | ⟨st2, e2, c2', hk1, hT2, hs2, he2, rfl⟩
    · go_wp2_with fail
      exact ⟨rfl, hkk2, Or.inl ⟨by rw [HG.out, sp_none hil hk1], rfl⟩⟩
    · have HK1 := hid hk1
      obtain ⟨d0, d1, d2, d3, g2⟩ := hT2.cells
      obtain ⟨p0, p1, p2, u0, u1, u2⟩ := hT2.pat.cells
      obtain ⟨sb, hsb⟩ : ∃ sb, P.start = sb := ⟨_, rfl⟩
      rw [hsb] at p0
      have hQ2 := hT2.toQ0
      have hoffF : Q0 lo (((w2.setCell ⟨w.heap.size, 0, none⟩ (.int .i64 0)).setCell ⟨w.heap.size, 1, none⟩ (.int .i64 0)).setCell ⟨w.heap.size, 2, none⟩ (.slice none 0 0)) m pc s vi P gs st2 := hQ2.off (found_keeps w2 w.heap.size _ _ _) (fun k hk => by
        simp only [List.mem_singleton] at hk
        subst hk
        exact ⟨_, _, _, hblk2, by decide, by decide, by decide, by decide⟩)
      have HOF := hid hoffF
      have HQ2 := hid hQ2
      clear hoffF hQ2
      cases sb
      · have HS := hid (HG.out.trans (sp_next hil HK1.out hsb))
        clear hsb HG
        by_cases hlt : i < s.size
        · have hd : decide (s.size ≤ i) = false := decide_eq_false (by omega)
          go_wp2_with fail
          go_roundg gk'
          case measure => omega
          case rel => exact ⟨i + 1, st2, by go_num, by omega, by omega, HQ2.out, hkk2, hblk2, hs2, hid HS.out⟩
        · have hd : decide (s.size ≤ i) = true := decide_eq_true (by omega)
          have HN := hid (HS.out.trans (sp_end (by omega)))
          clear HS
          go_wp2_with fail
          refine bodyPost_ret (res_from (found_set hblk2) rfl rfl rfl) rfl ?_
          exact ⟨hkk2.thenNew (found_keeps _ _ _ _ _) (Nat.le_refl _) hkk2.size, Or.inr (Or.inl ⟨st2, HN.out, HOF.out, hs2, rfl⟩)⟩
      · have HN := hid (HG.out.trans (sp_start hil HK1.out hsb))
        clear hsb HG
        go_wp2_with fail
        refine bodyPost_ret (res_from (found_set hblk2) rfl rfl rfl) rfl ?_
        exact ⟨hkk2.thenNew (found_keeps _ _ _ _ _) (Nat.le_refl _) hkk2.size, Or.inr (Or.inl ⟨st2, HN.out, HOF.out, hs2, rfl⟩)⟩
    · have HN : Hid (R = some (st2, some (i, e2, c2'))) := hid (HG.out.trans (sp_hit hil hk1))
      obtain ⟨d0, d1, d2, d3, g2⟩ := hT2.cells
      have he0 : (0 : Int) ≤ e2 := by omega
      go_wp2_with fail
      refine bodyPost_ret (res_from (found_set hblk2) rfl rfl rfl) rfl ?_
      have hfk := found_keeps w2 w.heap.size (.int .i64 i) (.int .i64 e2) (.slice (some ⟨wr.heap.size, 0, none⟩) P.caps P.caps)
      have hoffF := hT2.toQ0.off hfk (fun k hk => by
        simp only [List.mem_singleton] at hk
        subst hk
        exact ⟨_, _, _, hblk2, by decide, by decide, by decide, by decide⟩)
      have hrow := hfk.row hT2.caps hT2.caps.lt (by
        simp only [List.mem_singleton]
        exact row_ne hT2.caps hblk2 (by decide))
      exact ⟨hkk2.thenNew hfk (Nat.le_refl _) hkk2.size, Or.inr (Or.inr ⟨st2, i, e2, c2', wr.heap.size, HN.out, hoffF, hs2, hil, he2, hkk.size, hrow, rfl⟩)⟩
end
end Go.Proofs.YtpinoolagbghnaaDoor
