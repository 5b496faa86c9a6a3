/-
  Walk: the reference's matcher: search comes to the plain word searchP.
  Walk: the reference's l10Check comes to the plain word parse.
-/
import Derived.Test.YtpinoolagbghnaaDoorZTryW
namespace Go.Proofs.YtpinoolagbghnaaDoor
set_option linter.unusedVariables false
open Go.RowKit Pat

namespace Pat
section
variable {s : ByteArray} {fl start : Bool} {places : Nat → Bool} {l : List It} {g i st st' e : Nat} {c : Cap}
theorem sp_end (h : s.size < i) : searchP s fl start places l g i st = some (st, none) := by
  cases g with
  | zero => rfl
  | succ g => unfold searchP; rw [if_pos h]
theorem sp_none (hi : i ≤ s.size) (h : tryP s fl places l i st Cap.zero = none) : searchP s fl start places l (g + 1) i st = none := by unfold searchP; rw [if_neg (by omega), h]
theorem sp_hit (hi : i ≤ s.size) (h : tryP s fl places l i st Cap.zero = some (st', some (e, c))) : searchP s fl start places l (g + 1) i st = some (st', some (i, e, c)) := by unfold searchP; rw [if_neg (by omega), h]
theorem sp_start (hi : i ≤ s.size) (h : tryP s fl places l i st Cap.zero = some (st', none)) (hs : start = true) : searchP s fl start places l (g + 1) i st = some (st', none) := by unfold searchP; rw [if_neg (by omega), h]; simp [hs]
theorem sp_next (hi : i ≤ s.size) (h : tryP s fl places l i st Cap.zero = some (st', none)) (hs : start = false) : searchP s fl start places l (g + 1) i st = searchP s fl start places l g (i + 1) st' := by
  conv => lhs; unfold searchP
  rw [if_neg (by omega), h]; simp [hs]
end
end Pat

/-- A matching ahead of a search: the block, the items with their sets, the places. -/
structure MS (lo : Nat) (w : World) (m : Nat) (s : ByteArray) (vi : Value) (pg : Nat) (P : Pt) (gs : List Nat) (st : Nat) : Prop where
  blk : ∃ a4 n4 k4 a5 n5 k5, w.heap[m]? = some (.cells #[.string s, vi, .slice (some ⟨pg, 0, none⟩) P.caps P.caps, .bool P.start, .slice a4 n4 k4, .slice a5 n5 k5, .int .i64 st] 39 (0, 0))
  it : ItemRow lo w vi P.items.length (itCells P.items gs)
  len : P.items.length = gs.length
  sets : SetsOk w lo (.slice none 0 0) P.items gs
  pl : BoolRow w pg 4 P.caps (placesOf P.items)

/-- The cells of n captures. -/
def capCells (pl : Nat → Bool) (c : Cap) (n : Nat) : List Value := (List.range n).flatMap fun k => [.bool (pl k), .int .i64 (c.frm k), .int .i64 (if pl k then c.frm k else c.to k : Nat)]
theorem capCells_succ (pl : Nat → Bool) (c : Cap) (n : Nat) : capCells pl c (n + 1) = capCells pl c n ++ [.bool (pl n), .int .i64 (c.frm n), .int .i64 (if pl n then c.frm n else c.to n : Nat)] := by
  unfold capCells; rw [List.range_succ, List.flatMap_append]; simp

/-- What a search leaves. -/
def SrchPost (lo : Nat) (m : Nat) (s : ByteArray) (vi : Value) (pg : Nat) (P : Pt) (gs : List Nat) (R : Option (Nat × Option (Nat × Nat × Cap))) (w : World) (e : Ending) (w' : World) : Prop :=
  Keeps w.heap.size [m] w w' ∧
  ((R = none ∧ ∃ st', MS lo w' m s vi pg P gs st' ∧ 50000 < st' ∧ st' ≤ 130000 ∧ e = .returned (.tuple #[.agg #[.int .i64 0, .int .i64 0, .slice none 0 0], .bool false])) ∨
  (∃ st', R = some (st', none) ∧ MS lo w' m s vi pg P gs st' ∧ st' ≤ 50000 ∧ e = .returned (.tuple #[.agg #[.int .i64 0, .int .i64 0, .slice none 0 0], .bool false])) ∨
  (∃ st' i e2 c v, R = some (st', some (i, e2, c)) ∧ MS lo w' m s vi pg P gs st' ∧ st' ≤ 50000 ∧ i ≤ s.size ∧ (e2 : Nat) ≤ s.size ∧ w'.ownsRow w.heap.size 69 3 v P.caps (capCells (placesOf P.items) c P.caps) ∧
    e = .returned (.tuple #[.agg #[.int .i64 i, .int .i64 e2, v], .bool true])))

section
variable {lo m pg fg tg st : Nat} {s : ByteArray} {vi : Value} {P : Pt} {gs : List Nat} {w w' : World} {c : Cap}
theorem TS.toMS (h : TS lo w m s vi pg P gs fg tg st c) : MS lo w m s vi pg P gs st := ⟨⟨_, _, _, _, _, _, h.blk⟩, h.it, h.len, h.sets, h.pl⟩
theorem MS.keeps (h : MS lo w m s vi pg P gs st) {S : List Nat} (hk : Keeps w.heap.size S w w') (hS : ∀ k ∈ S, k = m) (hb : ∃ a4 n4 k4 a5 n5 k5, w'.heap[m]? = some (.cells #[.string s, vi, .slice (some ⟨pg, 0, none⟩) P.caps P.caps, .bool P.start, .slice a4 n4 k4, .slice a5 n5 k5, .int .i64 st] 39 (0, 0))) : MS lo w' m s vi pg P gs st := by
  obtain ⟨_, _, _, _, _, _, hm⟩ := h.blk
  refine ⟨hb, own_keeps h.it hk (Nat.le_refl _) (fun k h1 h2 => ?_), h.len, fun j it g a b d => ?_, hk.row h.pl h.pl.lt (fun h2 => ?_)⟩
  · have := own_ne_blk h.it hm (by decide)
    rw [hS k h2] at h1
    exact this h1
  · obtain ⟨x, y, z⟩ := h.sets j it g a b d
    exact ⟨x, hk.row y y.lt (fun h2 => row_ne y hm (by decide) (hS g h2)), z⟩
  · exact row_ne h.pl hm (by decide) (hS pg h2)
/-- Writes into blocks of other types leave a matching as it was. -/
theorem MS.off (h : MS lo w m s vi pg P gs st) {S : List Nat} (hk : Keeps w.heap.size S w w') (hS : ∀ k ∈ S, ∃ c t z, w.heap[k]? = some (.cells c t z) ∧ t ≠ 39 ∧ t ≠ 94 ∧ t ≠ 4) : MS lo w' m s vi pg P gs st := by
  obtain ⟨_, _, _, _, _, _, hm⟩ := h.blk
  refine ⟨⟨_, _, _, _, _, _, hk.blk hm (blk_lt hm) (fun h2 => ?_)⟩, own_keeps h.it hk (Nat.le_refl _) (fun k h1 h2 => ?_), h.len, fun j it g a b d => ?_, hk.row h.pl h.pl.lt (fun h2 => ?_)⟩
  · obtain ⟨c, t, z, h3, h4, h5, h6⟩ := hS _ h2
    rw [hm] at h3
    simp only [Option.some.injEq, Obj.cells.injEq] at h3
    exact h4 h3.2.1.symm
  · obtain ⟨c, t, z, h3, h4, h5, h6⟩ := hS _ h2
    exact own_ne_blk h.it h3 (Ne.symm h5) h1
  · obtain ⟨x, y, z⟩ := h.sets j it g a b d
    refine ⟨x, hk.row y y.lt (fun h2 => ?_), z⟩
    obtain ⟨c, t, z, h3, h4, h5, h6⟩ := hS _ h2
    exact row_ne y h3 (Ne.symm h6) rfl
  · obtain ⟨c, t, z, h3, h4, h5, h6⟩ := hS _ h2
    exact row_ne h.pl h3 (Ne.symm h6) rfl
/-- The three cells of a found match in their block are stored. -/
theorem found_set {b : Nat} {a x y : Value} {a' x' y' : Value} (h : w.heap[b]? = some (.cells #[a, x, y] 32 (0, 0))) :
    (((w.setCell ⟨b, 0, none⟩ a').setCell ⟨b, 1, none⟩ x').setCell ⟨b, 2, none⟩ y').heap[b]? = some (.cells #[a', x', y'] 32 (0, 0)) := blk_set (blk_set (blk_set h 0 _) 1 _) 2 _
theorem found_keeps (w : World) (b : Nat) (a x y : Value) : Keeps w.heap.size [b] w (((w.setCell ⟨b, 0, none⟩ a).setCell ⟨b, 1, none⟩ x).setCell ⟨b, 2, none⟩ y) :=
  (((Keeps.refl _ _ _).setCell (Or.inl (by simp)) _).setCell (Or.inl (by simp)) _).setCell (Or.inl (by simp)) _
theorem found_facts {b : Nat} {a x y : Value} (h : w.heap[b]? = some (.cells #[a, x, y] 32 (0, 0))) :
    w.cell? ⟨b, 0, none⟩ = some a ∧ w.cell? ⟨b, 1, none⟩ = some x ∧ w.cell? ⟨b, 2, none⟩ = some y ∧ w.frozen? ⟨b, 0, none⟩ = false ∧ w.frozen? ⟨b, 1, none⟩ = false ∧ w.frozen? ⟨b, 2, none⟩ = false :=
  ⟨blk_cell h 0, blk_cell h 1, blk_cell h 2, blk_free h 0, blk_free h 1, blk_free h 2⟩
theorem MS.offFound (h : MS lo w m s vi pg P gs st) {b : Nat} {a x y : Value} (hb : w.heap[b]? = some (.cells #[a, x, y] 32 (0, 0))) (a' x' y' : Value) : MS lo (((w.setCell ⟨b, 0, none⟩ a').setCell ⟨b, 1, none⟩ x').setCell ⟨b, 2, none⟩ y') m s vi pg P gs st :=
  h.off (found_keeps w b a' x' y') (fun k hk => by
    simp only [List.mem_singleton] at hk
    subst hk
    exact ⟨_, _, _, hb, by decide, by decide, by decide⟩)
theorem Keeps.thenNew {B b : Nat} {S : List Nat} {a d : World} (h : Keeps B S a w) (k : Keeps w.heap.size [b] w d) (hb : B ≤ b) (hw : B ≤ w.heap.size) : Keeps B S a d := h.andThen k hw (fun k hk hlt => by simp only [List.mem_singleton] at hk; omega)
theorem MS.fresh (h : MS lo w m s vi pg P gs st) (hW : w' = (((w.setCell ⟨m, 4, none⟩ (.slice (some ⟨w.heap.size, 0, none⟩) P.caps P.caps)).setCell ⟨m, 5, none⟩ (.slice (some ⟨w.heap.size + 1, 0, none⟩) P.caps P.caps)).alloc (.cells (madeCells #[.int .i64 0] P.caps) 3)).alloc (.cells (madeCells #[.int .i64 0] P.caps) 3)) :
    TS lo w' m s vi pg P gs w.heap.size (w.heap.size + 1) st Cap.zero ∧ Keeps w.heap.size [m] w w' := by
  obtain ⟨_, _, _, _, _, _, hm⟩ := h.blk
  have hk : Keeps w.heap.size [m] w w' := by
    rw [hW]
    exact ((((Keeps.refl _ _ _).setCell (Or.inl (by simp)) _).setCell (Or.inl (by simp)) _).alloc (by simp) _).alloc (by simp) _
  have hb : MBlk w' m s vi pg P.caps P.start w.heap.size (w.heap.size + 1) st := by
    rw [hW]
    exact blk_alloc (blk_alloc (blk_set (blk_set hm 4 _) 5 _) _) _
  have hM := h.keeps hk (by simp) ⟨_, _, _, _, _, _, hb⟩
  refine ⟨⟨hb, hM.it, hM.len, hM.sets, hM.pl, ?_, ?_, by omega⟩, hk⟩
  · rw [hW]
    have := (World.rowIs_made ((w.setCell ⟨m, 4, none⟩ (.slice (some ⟨w.heap.size, 0, none⟩) P.caps P.caps)).setCell ⟨m, 5, none⟩ (.slice (some ⟨w.heap.size + 1, 0, none⟩) P.caps P.caps)) (.int .i64 0) P.caps 3).alloc (.cells (madeCells #[.int .i64 0] P.caps) 3)
    rw [World.size_setCell, World.size_setCell] at this
    exact this
  · rw [hW]
    have := (World.rowIs_made (((w.setCell ⟨m, 4, none⟩ (.slice (some ⟨w.heap.size, 0, none⟩) P.caps P.caps)).setCell ⟨m, 5, none⟩ (.slice (some ⟨w.heap.size + 1, 0, none⟩) P.caps P.caps)).alloc (.cells (madeCells #[.int .i64 0] P.caps) 3)) (.int .i64 0) P.caps 3)
    rw [World.size_alloc, World.size_setCell, World.size_setCell] at this
    exact this
end

theorem info_cap : (Tryd.prog.info? 69).map (fun i => (i.zero, i.size, i.bytes)) = some (some (.agg #[.bool false, .int .i64 0, .int .i64 0]), 3, 24) := by kernel_rfl

theorem res_search {W : World} {b : Nat} {c : Array Value} {x y z v : Value} {tmps : Array Value} (h : W.heap[b]? = some (.cells c 32 (0, 0))) (hc : c = #[x, y, z]) (h2 : tmps[4]? = some (.pointer (some ⟨b, 0, none⟩))) (h3 : tmps[5]? = some v) :
    (results Tryd.f22 tmps).run Tryd.prog W = .ok (.tuple #[.agg #[x, y, z], v]) W := by
  subst hc
  have q0 := blk_cell h 0
  have q1 := blk_cell h 1
  have q2 := blk_cell h 2
  simp at q0 q1 q2
  simp [results, Tryd.results22, go_sem, h2, h3, q0, q1, q2]

section
variable {lo m pg st : Nat} {s : ByteArray} {vi : Value} {P : Pt} {gs : List Nat} {w : World}

set_option maxRecDepth 100000 in
set_option maxHeartbeats 4000000 in
theorem search_any (init : Nat) (hs : s.size ≤ 65536) (hl : P.items.length ≤ 200) (hcp : P.caps ≤ 16) (hgs : P.items.length = gs.length) {dn2 : List Bool} (hdn : dn2.length = P.caps) (hw : Wf [] [] P.items dn2 []) (hi : init ≤ s.size) (hst : st ≤ 50000) (hM : MS lo w m s vi pg P gs st) :
    Calls Tryd.prog 22 #[.pointer (some ⟨m, 0, none⟩), .int .i64 init] w fun e w' => SrchPost lo m s vi pg P gs (searchP s false P.start (placesOf P.items) P.items (s.size + 1 - init) init st) w e w' := by
  have hx : Ctx (placesOf P.items) [] [] P.items := ⟨fun n _ => rfl, by simp, List.nodup_nil⟩
  have hgo : ∀ {fg tg : Nat}, Goes lo (120000 + P.items.length) m s vi pg P gs fg tg 0 (tryP s false (placesOf P.items) P.items) (CapOk s (placesOf P.items) [] []) := fun {fg tg} => by
    have := goes_all (lo := lo) (m := m) (vi := vi) (pg := pg) (fg := fg) (tg := tg) hs hl hcp hgs hdn P.items.length 0 [] [] (by omega) (by omega) hw hx
    exact this
  obtain ⟨R, hR⟩ : ∃ R, searchP s false P.start (placesOf P.items) P.items (s.size + 1 - init) init st = R := ⟨_, rfl⟩
  rw [hR]
  have HR := hid hR
  clear hR
  have hMb : ∃ a4 n4 k4 a5 n5 k5, (w.alloc (.cells #[.int .i64 0, .int .i64 0, .slice none 0 0] 32)).heap[m]? = some (.cells #[.string s, vi, .slice (some ⟨pg, 0, none⟩) P.caps P.caps, .bool P.start, .slice a4 n4 k4, .slice a5 n5 k5, .int .i64 st] 39 (0, 0)) := by
    obtain ⟨_, _, _, _, _, _, hm⟩ := hM.blk
    exact ⟨_, _, _, _, _, _, blk_alloc hm _⟩
  have hmk := run_make_row' (P := Tryd.prog) 37 3 (.int .i64 0) 8 Tryd.underlying37 info_int rfl .i64 .i64 P.caps (by omega) (by omega)
  go_enter Tryd.func22, Tryd.ntmps22
  go_wp2_with fail
  go_loopg [6] (s.size + 1 - init) (fun gk v wr => ∃ i st', v = .int .i64 (i : Nat) ∧ i + gk = s.size + 1 ∧ MS lo wr m s vi pg P gs st' ∧ Keeps w.heap.size [m] w wr ∧ wr.heap[w.heap.size]? = some (.cells #[.int .i64 0, .int .i64 0, .slice none 0 0] 32 (0, 0)) ∧
    Hid ((st' ≤ 50000 ∧ R = searchP s false P.start (placesOf P.items) P.items gk i st') ∨ (50000 < st' ∧ st' ≤ 130000 ∧ R = none)))
  case atStart =>
    exact ⟨init, st, rfl, by omega, hM.keeps (S := []) ((Keeps.refl _ _ _).alloc (Nat.le_refl _) _) (by simp) hMb, (Keeps.refl _ _ _).alloc (Nat.le_refl _) _, blk_new _ _, hid (Or.inl ⟨hst, HR.out.symm⟩)⟩
  case round =>
    obtain ⟨i, st', rfl, hgk, hM', hkk, hblk, HG⟩ := hrel
    obtain ⟨a4, n4, k4, a5, n5, k5, hm⟩ := hM'.blk
    have c0 := blk_cell hm 0
    have c1 := blk_cell hm 1
    have c2 := blk_cell hm 2
    have c3 := blk_cell hm 3
    have c4 := blk_cell hm 4
    have c5 := blk_cell hm 5
    have c6 := blk_cell hm 6
    have f4 := blk_free hm 4
    have f5 := blk_free hm 5
    have hml := blk_lt hm
    by_cases hil : i ≤ s.size
    · have hd : decide (i ≤ s.size) = true := decide_eq_true hil
      rcases HG.out with ⟨h1, h2⟩ | ⟨h1, h2, h3⟩
      · have H2 := hid h2
        clear h2 HG
        go_wp2_with fail
        refine (spent_no m st' _ (by go_simp) h1).mono ?_
        rintro e w' ⟨rfl, rfl⟩
        go_upto_region 6 with fail
        obtain ⟨W, hW⟩ : ∃ W, W = (((wr.setCell ⟨m, 4, none⟩ (.slice (some ⟨wr.heap.size, 0, none⟩) P.caps P.caps)).setCell ⟨m, 5, none⟩ (.slice (some ⟨wr.heap.size + 1, 0, none⟩) P.caps P.caps)).alloc (.cells (madeCells #[.int .i64 0] P.caps) 3)).alloc (.cells (madeCells #[.int .i64 0] P.caps) 3) := ⟨_, rfl⟩
        rw [← hW]
        obtain ⟨hT, hKW⟩ := hM'.fresh hW
        have hmb : w.heap.size ≠ m := by
          intro e
          rw [e, hm] at hblk
          simp at hblk
        have hblkW := hKW.blk hblk (blk_lt hblk) (by simpa using hmb)
        clear hW c0 c1 c2 c3 c4 c5 c6 f4 f5 hm
        go_wp2_with fail
        refine (hgo.at (by rfl) rfl hil h1 (CapOk.zero _ _ _) hT rfl).mono ?_
        rintro e w2 hpost
        have hoff := hT.off hblkW (by decide) (by decide)
        have hkkF : ∀ w2, Keeps W.heap.size [m, wr.heap.size, wr.heap.size + 1] W w2 → Keeps w.heap.size [m] w w2 := fun w2 h => by
          have hsz := hkk.size
          refine (hkk.andThen hKW hkk.size (fun _ h _ => h)).andThen h (Nat.le_trans hkk.size hKW.size) (fun k hk hlt => ?_)
          simp only [List.mem_cons, List.not_mem_nil, or_false] at hk ⊢
          omega
        rcases hpost with ⟨hk1, st2, c2', hT2, hK2, hs2, hs3, rfl⟩ | ⟨st2, hk1, hT2, hK2, hs2, rfl⟩ | ⟨st2, e2, c2', hk1, hT2, hK2, hs2, he2, rfl⟩
        · have HN : Hid (R = none) := hid (by
            obtain ⟨gk', rfl⟩ : ∃ x, gk = x + 1 := ⟨gk - 1, by omega⟩
            rw [H2.out, sp_none hil hk1])
          have hblk2 := hK2.blk hblkW (blk_lt hblkW) hoff
          have hkk2 := hkkF w2 hK2
          clear hk1 H2 hT hK2 hblkW hKW hoff hM' hkk hblk
          obtain ⟨c0, c1, c2, c3, c4, c5, c6, f6⟩ := hT2.blk.cells
          obtain ⟨sb, hsb⟩ : ∃ sb, P.start = sb := ⟨_, rfl⟩
          rw [hsb] at c3
          have HSB := hid hsb
          clear hsb
          cases sb
          · go_wp2_with fail
            go_roundg (gk - 1)
            case measure => omega
            case rel => exact ⟨i + 1, st2, by go_num, by omega, hT2.toMS, hkk2, hblk2, hid (Or.inr ⟨hs2, by omega, HN.out⟩)⟩
          · obtain ⟨r0, r1, r2, q0, q1, q2⟩ := found_facts hblk2
            have hlb := blk_lt hblk2
            go_wp2_with fail
            refine bodyPost_ret (res_search (found_set hblk2) rfl rfl rfl) rfl ?_
            exact ⟨hkk2.thenNew (found_keeps _ _ _ _ _) (Nat.le_refl _) hkk2.size, Or.inl ⟨HN.out, st2, hT2.toMS.offFound hblk2 _ _ _, hs2, by omega, rfl⟩⟩
        · have hblk2 := hK2.blk hblkW (blk_lt hblkW) hoff
          have hkk2 := hkkF w2 hK2
          have HK1 := hid hk1
          clear hk1 hT hK2 hblkW hKW hoff hM' hkk hblk
          obtain ⟨c0, c1, c2, c3, c4, c5, c6, f6⟩ := hT2.blk.cells
          obtain ⟨sb, hsb⟩ : ∃ sb, P.start = sb := ⟨_, rfl⟩
          rw [hsb] at c3
          obtain ⟨gk', rfl⟩ : ∃ x, gk = x + 1 := ⟨gk - 1, by omega⟩
          cases sb
          · have HN : Hid (R = searchP s false P.start (placesOf P.items) P.items gk' (i + 1) st2) := hid (H2.out.trans (sp_next hil HK1.out hsb))
            clear hsb H2
            go_wp2_with fail
            go_roundg gk'
            case measure => omega
            case rel => exact ⟨i + 1, st2, by go_num, by omega, hT2.toMS, hkk2, hblk2, hid (Or.inl ⟨hs2, HN.out⟩)⟩
          · have HN : Hid (R = some (st2, none)) := hid (H2.out.trans (sp_start hil HK1.out hsb))
            clear hsb H2
            obtain ⟨r0, r1, r2, q0, q1, q2⟩ := found_facts hblk2
            have hlb := blk_lt hblk2
            go_wp2_with fail
            refine bodyPost_ret (res_search (found_set hblk2) rfl rfl rfl) rfl ?_
            exact ⟨hkk2.thenNew (found_keeps _ _ _ _ _) (Nat.le_refl _) hkk2.size, Or.inr (Or.inl ⟨st2, HN.out, hT2.toMS.offFound hblk2 _ _ _, hs2, rfl⟩)⟩
        · have HN : Hid (R = some (st2, some (i, e2, c2'))) := hid (by
            obtain ⟨gk', rfl⟩ : ∃ x, gk = x + 1 := ⟨gk - 1, by omega⟩
            rw [H2.out, sp_hit hil hk1])
          have hblk2 := hK2.blk hblkW (blk_lt hblkW) hoff
          have hkk2 := hkkF w2 hK2
          clear hk1 H2 hT hK2 hblkW hKW hoff hM' hkk hblk hkkF
          obtain ⟨c0, c1, c2, c3, c4, c5, c6, f6⟩ := hT2.blk.cells
          have hml2 := blk_lt hT2.blk
          have hlb2 := blk_lt hblk2
          go_wp2_with fail
          refine (spent_no m st2 _ (by go_simp) hs2).mono ?_
          rintro e w' ⟨rfl, rfl⟩
          go_wp2_with fail
          clear c0 c1 c2 c3 c4 c5 c6 f6
          obtain ⟨wo, hwo⟩ : ∃ wo : World, wo = wr := ⟨_, rfl⟩
          subst hwo
          go_loopg [66] P.caps (fun gk2 x wx => ∃ n v, x = .int .i64 (n : Nat) ∧ n + gk2 = P.caps ∧ Keeps w2.heap.size [] w2 wx ∧ wx.heap[w2.heap.size]? = some (.cells #[.int .i64 i, .int .i64 e2, v] 32 (0, 0)) ∧
            wx.ownsRow w2.heap.size 69 3 v n (capCells (placesOf P.items) c2' n))
          case atStart => exact ⟨0, _, rfl, by omega, (Keeps.refl _ _ _).alloc (Nat.le_refl _) _, blk_new _ _, World.ownsRow_nil _ _ _ _⟩
          case round =>
            obtain ⟨n, v, rfl, hng, hk3, hb3, ho3⟩ := hrel
            have hT3 := hT2.keeps hk3
            obtain ⟨c0, c1, c2, c3, c4, c5, c6, f6⟩ := hT3.blk.cells
            have hml3 := blk_lt hT3.blk
            have hlb3 := blk_lt hb3
            by_cases hn : n < P.caps
            · have r1 := hT3.pl.cell hn
              have r2 := hT3.fr.cell hn
              have r3 := hT3.tor.cell hn
              have l1 := hT3.pl.lt
              have l2 := hT3.fr.lt
              have l3 := hT3.tor.lt
              have hn' : (0 : Int) ≤ n ∧ (n : Int) < P.caps := ⟨by omega, by omega⟩
              obtain ⟨pb, hpb⟩ : ∃ pb, placesOf P.items n = pb := ⟨_, rfl⟩
              rw [hpb] at r1
              have HPB := hid hpb
              clear hpb
              obtain ⟨av, cv, rfl⟩ := own_form ho3
              obtain ⟨d0, d1, d2, d3, d4, d5⟩ := found_facts hb3
              have HO3 := hid ho3
              clear ho3
              cases pb
              · have hX : capCells (placesOf P.items) c2' (n + 1) = capCells (placesOf P.items) c2' n ++ [.bool false, .int .i64 (c2'.frm n), .int .i64 (c2'.to n : Nat)] := by rw [capCells_succ, HPB.out]; rfl
                have HX := hid hX
                clear hX HPB
                go_upto_region 12 with fail
                go_region
                go_upto_region 15 with fail
                obtain ⟨W3, hW3⟩ : ∃ W3, W3 = (wr.alloc (.cells #[.bool false, .int .i64 (c2'.frm n), .int .i64 (c2'.to n : Nat)] 69)).drew := ⟨_, rfl⟩
                rw [← hW3]
                have hk4 : Keeps wr.heap.size [] wr W3 := by rw [hW3]; exact ((Keeps.refl _ _ _).alloc (Nat.le_refl _) _).drew
                have hb4 : W3.heap[wr.heap.size]? = some (.cells #[.bool false, .int .i64 (c2'.frm n), .int .i64 (c2'.to n : Nat)] 69 (0, 0)) := by rw [hW3]; exact blk_new wr _
                clear hW3 d0 d1 d2 d3 d4 d5
                have hb5 := hk4.blk hb3 hlb3 (by simp)
                obtain ⟨d0, d1, d2, d3, d4, d5⟩ := found_facts hb5
                have g0 := blk_cell hb4 0
                have g1 := blk_cell hb4 1
                have g2 := blk_cell hb4 2
                have ho5 := own_keeps HO3.out hk4 (Nat.le_refl _) (fun _ _ => by simp)
                have HO5 := hid ho5
                have HK5 := hid ((hk3.andThen hk4 hk3.size (by simp)) : Keeps w2.heap.size [] w2 W3)
                have hl4 := blk_lt hb4
                have hl5 := blk_lt hb5
                have HB5 := hid hb5
                have hle5 : w2.heap.size ≤ W3.heap.size := by omega
                clear ho5 hb3 hk3 hT3 hk4 hb4 hb5 c0 c1 c2 c3 c4 c5 c6 f6 r1 r2 r3 HO3
                go_wp2_with (at_builtin; go_must (refine append_newS (us := [.bool false, .int .i64 (c2'.frm n), .int .i64 (c2'.to n : Nat)]) rfl _ _ 30 rfl 69 rfl (.agg #[.bool false, .int .i64 0, .int .i64 0]) 3 24 Tryd.underlying30 info_cap rfl (by decide) w2.heap.size (.slice av n cv) n (capCells (placesOf P.items) c2' n) rfl HO5.out _ rfl rfl rfl (by simp [Value.oneCell']) (by unfold maxLen; omega) (by omega) hle5 ?_))
                intro ao cap w4 ho6 hg6 hn6
                have hbo : (Value.slice av n cv).ownBlock ≠ some w2.heap.size := own_ne_blk HO5.out HB5.out (by decide)
                have hb6 : w4.heap[w2.heap.size]? = some (.cells #[.int .i64 i, .int .i64 e2, .slice av n cv] 32 (0, 0)) := (hg6.block w2.heap.size hl5 (Ne.symm hbo)).trans HB5.out
                have hk6 : Keeps w2.heap.size [] w2 w4 := HK5.out.grow hg6 hle5 (fun k hk => Or.inr (HO5.out.lt k hk).1)
                have ho7 : (w4.setCell ⟨w2.heap.size, 2, none⟩ (.slice ao (n + 1) cap)).ownsRow w2.heap.size 69 3 (.slice ao (n + 1) cap) (n + 1) (capCells (placesOf P.items) c2' (n + 1)) := by
                  rw [HX.out]
                  exact ownsRow_setCell_other (a := ⟨w2.heap.size, 2, none⟩) ho6 (own_ne_blk ho6 hb6 (by decide)) _
                have HO7 := hid ho7
                have HK7 := hid (hk6.setCell (p := ⟨w2.heap.size, 2, none⟩) (Or.inr (Nat.le_refl _)) (.slice ao (n + 1) cap))
                have HB7 : Hid ((w4.setCell ⟨w2.heap.size, 2, none⟩ (.slice ao (n + 1) cap)).heap[w2.heap.size]? = some (.cells #[.int .i64 i, .int .i64 e2, .slice ao (n + 1) cap] 32 (0, 0))) := hid (blk_set hb6 2 _)
                obtain ⟨e0, e1, e22, e3, e4, e5⟩ := found_facts hb6
                clear ho6 hg6 hn6 hbo hb6 hk6 ho7 d0 d1 d2 d3 d4 d5 g0 g1 g2
                go_wp2_with fail
                go_roundg (P.caps - (n + 1))
                case measure => omega
                case rel => exact ⟨n + 1, _, by go_num, by omega, HK7.out, HB7.out, HO7.out⟩
              · have hX : capCells (placesOf P.items) c2' (n + 1) = capCells (placesOf P.items) c2' n ++ [.bool true, .int .i64 (c2'.frm n), .int .i64 (c2'.frm n : Nat)] := by rw [capCells_succ, HPB.out]; rfl
                have HX := hid hX
                clear hX HPB
                go_upto_region 12 with fail
                go_region
                go_upto_region 15 with fail
                obtain ⟨W3, hW3⟩ : ∃ W3, W3 = (wr.alloc (.cells #[.bool true, .int .i64 (c2'.frm n), .int .i64 (c2'.frm n : Nat)] 69)).drew := ⟨_, rfl⟩
                rw [← hW3]
                have hk4 : Keeps wr.heap.size [] wr W3 := by rw [hW3]; exact ((Keeps.refl _ _ _).alloc (Nat.le_refl _) _).drew
                have hb4 : W3.heap[wr.heap.size]? = some (.cells #[.bool true, .int .i64 (c2'.frm n), .int .i64 (c2'.frm n : Nat)] 69 (0, 0)) := by rw [hW3]; exact blk_new wr _
                clear hW3 d0 d1 d2 d3 d4 d5
                have hb5 := hk4.blk hb3 hlb3 (by simp)
                obtain ⟨d0, d1, d2, d3, d4, d5⟩ := found_facts hb5
                have g0 := blk_cell hb4 0
                have g1 := blk_cell hb4 1
                have g2 := blk_cell hb4 2
                have ho5 := own_keeps HO3.out hk4 (Nat.le_refl _) (fun _ _ => by simp)
                have HO5 := hid ho5
                have HK5 := hid ((hk3.andThen hk4 hk3.size (by simp)) : Keeps w2.heap.size [] w2 W3)
                have hl4 := blk_lt hb4
                have hl5 := blk_lt hb5
                have HB5 := hid hb5
                have hle5 : w2.heap.size ≤ W3.heap.size := by omega
                clear ho5 hb3 hk3 hT3 hk4 hb4 hb5 c0 c1 c2 c3 c4 c5 c6 f6 r1 r2 r3 HO3
                go_wp2_with (at_builtin; go_must (refine append_newS (us := [.bool true, .int .i64 (c2'.frm n), .int .i64 (c2'.frm n : Nat)]) rfl _ _ 30 rfl 69 rfl (.agg #[.bool false, .int .i64 0, .int .i64 0]) 3 24 Tryd.underlying30 info_cap rfl (by decide) w2.heap.size (.slice av n cv) n (capCells (placesOf P.items) c2' n) rfl HO5.out _ rfl rfl rfl (by simp [Value.oneCell']) (by unfold maxLen; omega) (by omega) hle5 ?_))
                intro ao cap w4 ho6 hg6 hn6
                have hbo : (Value.slice av n cv).ownBlock ≠ some w2.heap.size := own_ne_blk HO5.out HB5.out (by decide)
                have hb6 : w4.heap[w2.heap.size]? = some (.cells #[.int .i64 i, .int .i64 e2, .slice av n cv] 32 (0, 0)) := (hg6.block w2.heap.size hl5 (Ne.symm hbo)).trans HB5.out
                have hk6 : Keeps w2.heap.size [] w2 w4 := HK5.out.grow hg6 hle5 (fun k hk => Or.inr (HO5.out.lt k hk).1)
                have ho7 : (w4.setCell ⟨w2.heap.size, 2, none⟩ (.slice ao (n + 1) cap)).ownsRow w2.heap.size 69 3 (.slice ao (n + 1) cap) (n + 1) (capCells (placesOf P.items) c2' (n + 1)) := by
                  rw [HX.out]
                  exact ownsRow_setCell_other (a := ⟨w2.heap.size, 2, none⟩) ho6 (own_ne_blk ho6 hb6 (by decide)) _
                have HO7 := hid ho7
                have HK7 := hid (hk6.setCell (p := ⟨w2.heap.size, 2, none⟩) (Or.inr (Nat.le_refl _)) (.slice ao (n + 1) cap))
                have HB7 : Hid ((w4.setCell ⟨w2.heap.size, 2, none⟩ (.slice ao (n + 1) cap)).heap[w2.heap.size]? = some (.cells #[.int .i64 i, .int .i64 e2, .slice ao (n + 1) cap] 32 (0, 0))) := hid (blk_set hb6 2 _)
                obtain ⟨e0, e1, e22, e3, e4, e5⟩ := found_facts hb6
                clear ho6 hg6 hn6 hbo hb6 hk6 ho7 d0 d1 d2 d3 d4 d5 g0 g1 g2
                go_wp2_with fail
                go_roundg (P.caps - (n + 1))
                case measure => omega
                case rel => exact ⟨n + 1, _, by go_num, by omega, HK7.out, HB7.out, HO7.out⟩
            · obtain rfl : n = P.caps := by omega
              obtain ⟨d0, d1, d2, d3, d4, d5⟩ := found_facts hb3
              have hb4 := hk3.blk hblk2 hlb2 (by simp)
              obtain ⟨r0, r1, r2, q0, q1, q2⟩ := found_facts hb4
              have hlb4 := blk_lt hb4
              have hne : ¬ w.heap.size = w2.heap.size := by omega
              have hkk4 := hkk2.andThen hk3 hkk2.size (by simp)
              have hov : v.ownBlock ≠ some w.heap.size := fun h => by have := (ho3.lt _ h).1; omega
              obtain ⟨av, cv, rfl⟩ := own_form ho3
              have HO3 := hid ho3
              clear ho3
              go_wp2_with fail
              refine bodyPost_ret (res_search (found_set hb4) rfl rfl rfl) rfl ?_
              refine ⟨hkk4.thenNew (found_keeps _ _ _ _ _) (Nat.le_refl _) hkk4.size, Or.inr (Or.inr ⟨st2, i, e2, c2', _, HN.out, hT3.toMS.offFound hb4 _ _ _, hs2, hil, he2, ?_, rfl⟩)⟩
              exact own_lower (own_keeps HO3.out (found_keeps _ _ _ _ _) (Nat.le_refl _) (fun k h1 h2 => by simp only [List.mem_singleton] at h2; exact hov (h2 ▸ h1))) hkk2.size
      · have H3 := hid h3
        clear h3 HG
        obtain ⟨r0, r1, r2, q0, q1, q2⟩ := found_facts hblk
        have hlb := blk_lt hblk
        go_wp2_with fail
        refine (spent_yes m st' _ (by go_simp) h1).mono ?_
        rintro e w' ⟨rfl, rfl⟩
        go_wp2_with fail
        refine bodyPost_ret (res_search (found_set hblk) rfl rfl rfl) rfl ?_
        exact ⟨hkk.thenNew (found_keeps _ _ _ _ _) (Nat.le_refl _) hkk.size, Or.inl ⟨H3.out, st', hM'.offFound hblk _ _ _, h1, h2, rfl⟩⟩
    · have hd : decide (i ≤ s.size) = false := decide_eq_false hil
      obtain ⟨r0, r1, r2, q0, q1, q2⟩ := found_facts hblk
      have hlb := blk_lt hblk
      go_wp2_with fail
      refine bodyPost_ret (res_search (found_set hblk) rfl rfl rfl) rfl ?_
      refine ⟨hkk.thenNew (found_keeps _ _ _ _ _) (Nat.le_refl _) hkk.size, ?_⟩
      rcases HG.out with ⟨h1, h2⟩ | ⟨h1, h2, h3⟩
      · exact Or.inr (Or.inl ⟨st', h2.trans (sp_end (by omega)), hM'.offFound hblk _ _ _, h1, rfl⟩)
      · exact Or.inl ⟨h3, st', hM'.offFound hblk _ _ _, h1, h2, rfl⟩
end
end Go.Proofs.YtpinoolagbghnaaDoor

namespace Go.Proofs.YtpinoolagbghnaaDoor
set_option linter.unusedVariables false
open Go.RowKit Pat

/-- What l10Check answers. -/
def ChkPost (s p : ByteArray) (w : World) (e : Ending) (w' : World) : Prop :=
  Keeps w.heap.size [] w w' ∧
  (65536 < s.size → e = .returned (.tuple #[.pointer none, .int .i64 1])) ∧
  (s.size ≤ 65536 → parse p = none → e = .returned (.tuple #[.pointer none, .int .i64 2])) ∧
  (s.size ≤ 65536 → ∀ P, parse p = some P → ∃ m vi pg gs, e = .returned (.tuple #[.pointer (some ⟨m, 0, none⟩), .int .i64 0]) ∧ w.heap.size ≤ m ∧ MS w.heap.size w' m s vi pg P gs 0)

set_option maxRecDepth 100000 in
set_option maxHeartbeats 2000000 in
theorem check_any (s p : ByteArray) (w : World) :
    Calls Tryd.prog 6 #[.string s, .string p] w fun e w' => ChkPost s p w e w' := by
  by_cases hs : 65536 < s.size
  · have hd : decide ((65536 : Int) < s.size) = true := decide_eq_true (by omega)
    go_enter Tryd.func6, Tryd.ntmps6
    go_wp2_with fail
    go_ret2
    exact ⟨Keeps.refl _ _ _, fun _ => rfl, fun h => by omega, fun h => by omega⟩
  · have hd : decide ((65536 : Int) < s.size) = false := decide_eq_false (by omega)
    go_enter Tryd.func6, Tryd.ntmps6
    go_wp2_with fail
    refine (read_any p _).mono ?_
    rintro e w1 ⟨hk, hno, hyes⟩
    cases hp : parse p with
    | none =>
      have he := hno hp
      subst he
      have HP := hid hp
      clear hno hyes hp
      go_wp2_with fail
      go_ret2
      exact ⟨hk.alloc hk.size _, fun h => by omega, fun _ _ => rfl, fun _ P hP => by rw [HP.out] at hP; cases hP⟩
    | some P =>
      obtain ⟨vi, g, gs, he, hg, hit, hlen, hsets, hrow⟩ := hyes P hp
      subst he
      have HP := hid hp
      have HIT := hid hit
      obtain ⟨ai, ci, rfl⟩ := own_form hit
      have HLEN := hid hlen
      clear hno hyes hp hit hlen
      go_wp2_with fail
      go_ret2
      have hk1 : Keeps w1.heap.size [] w1 ((w1.alloc (.cells #[.slice ai P.items.length ci, .slice (some ⟨g, 0, none⟩) P.caps P.caps, .bool P.start] 36)).alloc (.cells #[.string s, .slice ai P.items.length ci, .slice (some ⟨g, 0, none⟩) P.caps P.caps, .bool P.start, .slice none 0 0, .slice none 0 0, .int .i64 0] 39)) :=
        ((Keeps.refl _ _ _).alloc (Nat.le_refl _) _).alloc (by simp) _
      refine ⟨hk.andThen hk1 hk.size (by simp), ?_, ?_, ?_⟩
      · intro h
        omega
      · intro _ h
        rw [HP.out] at h
        cases h
      intro _ P' hP'
      rw [HP.out] at hP'
      simp only [Option.some.injEq] at hP'
      subst hP'
      have hb := blk_new (w1.alloc (.cells #[.slice ai P.items.length ci, .slice (some ⟨g, 0, none⟩) P.caps P.caps, .bool P.start] 36)) (.cells #[.string s, .slice ai P.items.length ci, .slice (some ⟨g, 0, none⟩) P.caps P.caps, .bool P.start, .slice none 0 0, .slice none 0 0, .int .i64 0] 39)
      rw [World.size_alloc] at hb
      refine ⟨w1.heap.size + 1, _, g, gs, rfl, by have := hk.size; omega, ⟨⟨_, _, _, _, _, _, hb⟩, own_keeps HIT.out hk1 (Nat.le_refl _) (fun _ _ => by simp), HLEN.out, hsets.keeps hk1 (Nat.le_refl _) (fun j it g a b c => ⟨by simp, by simp [Value.ownBlock]⟩), hk1.row hrow hrow.lt (by simp)⟩⟩

end Go.Proofs.YtpinoolagbghnaaDoor
