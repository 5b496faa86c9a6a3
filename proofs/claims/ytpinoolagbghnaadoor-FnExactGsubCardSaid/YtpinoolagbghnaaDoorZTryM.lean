/-
  The reference's matcher in memory: its block, its rows; has and spent; what stores leave of it; what a call of try is to leave.
-/
import Derived.Test.YtpinoolagbghnaaDoorZRead
import Derived.Test.YtpinoolagbghnaaDoorZRel
import Derived.BigRegion
import Derived.BigQuiet
import Derived.Deep.QuietTactic
import Derived.RegionTactic
import Derived.Deep.RegionLaw
import Derived.Deep.CutRange
import Derived.Deep.DeepMust
import Derived.Handy
namespace Go.Proofs.YtpinoolagbghnaaDoor
set_option linter.unusedVariables false
open Go.RowKit Pat

/-- The block of a matching under way. -/
def MBlk (w : World) (m : Nat) (s : ByteArray) (vi : Value) (pg caps : Nat) (start : Bool) (fg tg st : Nat) : Prop :=
  w.heap[m]? = some (.cells #[.string s, vi, .slice (some ⟨pg, 0, none⟩) caps caps, .bool start, .slice (some ⟨fg, 0, none⟩) caps caps, .slice (some ⟨tg, 0, none⟩) caps caps, .int .i64 st] 39 (0, 0))

theorem MBlk.cells {w : World} {m : Nat} {s : ByteArray} {vi : Value} {pg caps : Nat} {start : Bool} {fg tg st : Nat} (h : MBlk w m s vi pg caps start fg tg st) :
    w.cell? ⟨m, 0, none⟩ = some (.string s) ∧ w.cell? ⟨m, 1, none⟩ = some vi ∧ w.cell? ⟨m, 2, none⟩ = some (.slice (some ⟨pg, 0, none⟩) caps caps) ∧ w.cell? ⟨m, 3, none⟩ = some (.bool start) ∧
    w.cell? ⟨m, 4, none⟩ = some (.slice (some ⟨fg, 0, none⟩) caps caps) ∧ w.cell? ⟨m, 5, none⟩ = some (.slice (some ⟨tg, 0, none⟩) caps caps) ∧ w.cell? ⟨m, 6, none⟩ = some (.int .i64 st) ∧ w.frozen? ⟨m, 6, none⟩ = false :=
  ⟨blk_cell h 0, blk_cell h 1, blk_cell h 2, blk_cell h 3, blk_cell h 4, blk_cell h 5, blk_cell h 6, blk_free h 6⟩
theorem MBlk.setSt {w : World} {m : Nat} {s : ByteArray} {vi : Value} {pg caps : Nat} {start : Bool} {fg tg st : Nat} (h : MBlk w m s vi pg caps start fg tg st) {v : Int} {st' : Nat} (hv : v = st') :
    MBlk (w.setCell ⟨m, 6, none⟩ (.int .i64 v)) m s vi pg caps start fg tg st' := by subst hv; exact blk_set h 6 _

/-- A matching under way: the block, the items with their sets, the places, the two rows of captures. -/
structure TS (lo : Nat) (w : World) (m : Nat) (s : ByteArray) (vi : Value) (pg : Nat) (P : Pt) (gs : List Nat) (fg tg st : Nat) (c : Cap) : Prop where
  blk : MBlk w m s vi pg P.caps P.start fg tg st
  it : ItemRow lo w vi P.items.length (itCells P.items gs)
  len : P.items.length = gs.length
  sets : SetsOk w lo (.slice none 0 0) P.items gs
  pl : BoolRow w pg 4 P.caps (placesOf P.items)
  fr : IntRow w fg 3 P.caps (fun n => (c.frm n : Int))
  tor : IntRow w tg 3 P.caps (fun n => (c.to n : Int))
  ne : fg ≠ tg

theorem row_ne {w : World} {g t n b t' : Nat} {f : Nat → Value} {c : Array Value} {z : Nat × Nat} (h : w.rowIs g t n f) (hb : w.heap[b]? = some (.cells c t' z)) (ht : t ≠ t') : g ≠ b := by
  intro e
  subst e
  obtain ⟨c', h'⟩ := row_blk h
  rw [h'] at hb
  simp only [Option.some.injEq, Obj.cells.injEq] at hb
  exact ht hb.2.1
theorem row_ne_row {w : World} {g t n b t' n' : Nat} {f f' : Nat → Value} (h : w.rowIs g t n f) (hb : w.rowIs b t' n' f') (ht : t ≠ t') : g ≠ b := by
  obtain ⟨c, hc⟩ := row_blk hb
  exact row_ne h hc ht

theorem keeps_drewN (w : World) (n : Nat) : Keeps w.heap.size [] w (w.drewN n) := (Keeps.refl _ _ _).drewN n
theorem keeps_set (w : World) (a : Addr) (v : Value) : Keeps w.heap.size [a.block] w (w.setCell a v) := (Keeps.refl _ _ _).setCell (Or.inl (by simp)) _

section
variable {lo m pg fg tg st : Nat} {s : ByteArray} {vi : Value} {P : Pt} {gs : List Nat} {c : Cap} {w w' : World}

theorem TS.ms (h : TS lo w m s vi pg P gs fg tg st c) : fg ≠ m ∧ tg ≠ m ∧ pg ≠ m ∧ pg ≠ fg ∧ pg ≠ tg ∧ vi.ownBlock ≠ some m ∧ vi.ownBlock ≠ some fg ∧ vi.ownBlock ≠ some tg := by
  obtain ⟨c1, h1⟩ := row_blk h.fr
  obtain ⟨c2, h2⟩ := row_blk h.tor
  exact ⟨row_ne h.fr h.blk (by decide), row_ne h.tor h.blk (by decide), row_ne h.pl h.blk (by decide), row_ne h.pl h1 (by decide), row_ne h.pl h2 (by decide), own_ne_blk h.it h.blk (by decide), own_ne_blk h.it h1 (by decide), own_ne_blk h.it h2 (by decide)⟩
/-- What is left of a matching where only its block and its two rows were written. -/
theorem TS.after (h : TS lo w m s vi pg P gs fg tg st c) {S : List Nat} {st' : Nat} {c' : Cap} (hk : Keeps w.heap.size S w w') (hS : ∀ k ∈ S, k = m ∨ k = fg ∨ k = tg) (hb : MBlk w' m s vi pg P.caps P.start fg tg st')
    (hf : IntRow w' fg 3 P.caps (fun n => (c'.frm n : Int))) (ht : IntRow w' tg 3 P.caps (fun n => (c'.to n : Int))) : TS lo w' m s vi pg P gs fg tg st' c' := by
  obtain ⟨n1, n2, n3, n4, n5, n6, n7, n8⟩ := h.ms
  refine ⟨hb, own_keeps h.it hk (Nat.le_refl _) (fun k h1 h2 => ?_), h.len, fun j it g a b d => ?_, hk.row h.pl h.pl.lt (fun h2 => ?_), hf, ht, h.ne⟩
  · rcases hS k h2 with rfl | rfl | rfl
    · exact n6 h1
    · exact n7 h1
    · exact n8 h1
  · obtain ⟨x, y, z⟩ := h.sets j it g a b d
    refine ⟨x, hk.row y y.lt (fun h2 => ?_), z⟩
    rcases hS g h2 with e | e | e
    · exact row_ne y h.blk (by decide) e
    · exact row_ne_row y h.fr (by decide) e
    · exact row_ne_row y h.tor (by decide) e
  · rcases hS pg h2 with e | e | e
    · exact n3 e
    · exact n4 e
    · exact n5 e
theorem TS.keeps (h : TS lo w m s vi pg P gs fg tg st c) (hk : Keeps w.heap.size [] w w') : TS lo w' m s vi pg P gs fg tg st c :=
  h.after hk (by simp) (hk.blk h.blk (blk_lt h.blk) (by simp)) (hk.row h.fr h.fr.lt (by simp)) (hk.row h.tor h.tor.lt (by simp))
theorem TS.setSt (h : TS lo w m s vi pg P gs fg tg st c) {v : Int} {st' : Nat} (hv : v = st') : TS lo (w.setCell ⟨m, 6, none⟩ (.int .i64 v)) m s vi pg P gs fg tg st' c := by
  have hk := keeps_set w ⟨m, 6, none⟩ (.int .i64 v)
  obtain ⟨n1, n2, _⟩ := h.ms
  exact h.after hk (by simp) (h.blk.setSt hv) (hk.row h.fr h.fr.lt (by simpa using n1)) (hk.row h.tor h.tor.lt (by simpa using n2))
theorem TS.setFrm (h : TS lo w m s vi pg P gs fg tg st c) (n i : Nat) : TS lo (w.setCell ⟨fg, n, none⟩ (.int .i64 i)) m s vi pg P gs fg tg st ⟨c.pl, upd c.frm n i, c.to⟩ := by
  have hk := keeps_set w ⟨fg, n, none⟩ (.int .i64 i)
  obtain ⟨n1, n2, _⟩ := h.ms
  refine h.after hk (by simp) (hk.blk h.blk (blk_lt h.blk) (by simpa using Ne.symm n1)) ((IntRow.set h.fr n i).congr fun j _ => ?_) (hk.row h.tor h.tor.lt (by simpa using Ne.symm h.ne))
  dsimp only
  unfold upd
  split <;> rfl
theorem TS.setTo (h : TS lo w m s vi pg P gs fg tg st c) (n i : Nat) : TS lo (w.setCell ⟨tg, n, none⟩ (.int .i64 i)) m s vi pg P gs fg tg st ⟨c.pl, c.frm, upd c.to n i⟩ := by
  have hk := keeps_set w ⟨tg, n, none⟩ (.int .i64 i)
  obtain ⟨n1, n2, _⟩ := h.ms
  refine h.after hk (by simp) (hk.blk h.blk (blk_lt h.blk) (by simpa using Ne.symm n2)) (hk.row h.fr h.fr.lt (by simpa using h.ne)) ((IntRow.set h.tor n i).congr fun j _ => ?_)
  dsimp only
  unfold upd
  split <;> rfl
end

theorem has_any (m at_ g : Nat) (s : ByteArray) (f : Nat → Bool) (w : World) (hs : s.size ≤ 65536) (hat : at_ ≤ 200000) (c0 : w.cell? ⟨m, 0, none⟩ = some (.string s)) (hg : BoolRow w g 4 256 f) :
    Calls Tryd.prog 61 #[.pointer (some ⟨m, 0, none⟩), .int .i64 at_, .slice (some ⟨g, 0, none⟩) 256 256] w fun e w' => e = .returned (.bool (has s f at_)) ∧ w = w' := by
  by_cases h : at_ < s.size
  · have h1 : decide ((at_ : Int) < s.size) = true := decide_eq_true (by omega)
    have h2 := bt_of_lt h
    have h3 : (0 : Int) ≤ at_ ∧ (at_ : Int) < s.size := ⟨by omega, by omega⟩
    have h5 := s[at_].toNat_lt
    have hc := hg.cell (i := s[at_].toNat) (by omega)
    have H2 : Hid (has s f at_ = f s[at_].toNat) := hid (by unfold has; rw [h2]; simp [h])
    clear h2
    go_enter Tryd.func61, Tryd.ntmps61
    go_wp2_with fail
    go_ret
    exact ⟨ret_b H2.out.symm, rfl⟩
  · have h1 : decide ((at_ : Int) < s.size) = false := decide_eq_false (by omega)
    have H2 : Hid (has s f at_ = false) := hid (by unfold has; simp [h])
    go_enter Tryd.func61, Tryd.ntmps61
    go_wp2_with fail
    go_ret
    exact ⟨ret_b H2.out.symm, rfl⟩

theorem spent_any (m st : Nat) (w : World) (c6 : w.cell? ⟨m, 6, none⟩ = some (.int .i64 st)) :
    Calls Tryd.prog 9 #[.pointer (some ⟨m, 0, none⟩)] w fun e w' => e = .returned (.bool (decide (MaxM < st))) ∧ w = w' := by
  go_enter Tryd.func9, Tryd.ntmps9
  go_wp2_with fail
  go_ret
  refine ⟨ret_b ?_, rfl⟩
  unfold MaxM
  simp
  try omega
theorem spent_no (m st : Nat) (w : World) (c6 : w.cell? ⟨m, 6, none⟩ = some (.int .i64 st)) (h : st ≤ 50000) :
    Calls Tryd.prog 9 #[.pointer (some ⟨m, 0, none⟩)] w fun e w' => e = .returned (.bool false) ∧ w = w' :=
  (spent_any m st w c6).mono fun e w' h' => ⟨h'.1.trans (ret_b (decide_eq_false (by unfold MaxM; omega))), h'.2⟩
theorem spent_yes (m st : Nat) (w : World) (c6 : w.cell? ⟨m, 6, none⟩ = some (.int .i64 st)) (h : 50000 < st) :
    Calls Tryd.prog 9 #[.pointer (some ⟨m, 0, none⟩)] w fun e w' => e = .returned (.bool true) ∧ w = w' :=
  (spent_any m st w c6).mono fun e w' h' => ⟨h'.1.trans (ret_b (decide_eq_true (by unfold MaxM; omega))), h'.2⟩

/-- What a call of the reference's try leaves. -/
def TryPost (lo D : Nat) (m : Nat) (s : ByteArray) (vi : Value) (pg : Nat) (P : Pt) (gs : List Nat) (fg tg : Nat) (A : Ans) (c : Cap) (w : World) (e : Ending) (w' : World) : Prop :=
  (A = none ∧ ∃ st' c', TS lo w' m s vi pg P gs fg tg st' c' ∧ Keeps w.heap.size [m, fg, tg] w w' ∧ 50000 < st' ∧ st' ≤ D ∧ e = .returned (.int .i64 (-1))) ∨
  (∃ st', A = some (st', none) ∧ TS lo w' m s vi pg P gs fg tg st' c ∧ Keeps w.heap.size [m, fg, tg] w w' ∧ st' ≤ 50000 ∧ e = .returned (.int .i64 (-1))) ∨
  (∃ st' e2 c', A = some (st', some (e2, c')) ∧ TS lo w' m s vi pg P gs fg tg st' c' ∧ Keeps w.heap.size [m, fg, tg] w w' ∧ st' ≤ 50000 ∧ (e2 : Nat) ≤ s.size ∧ e = .returned (.int .i64 e2))

section
variable {lo D m pg fg tg st : Nat} {s : ByteArray} {vi : Value} {P : Pt} {gs : List Nat} {A : Ans} {c : Cap} {w w' W : World} {e : Ending}
theorem TryPost.spent {st' : Nat} {c' : Cap} (hA : A = none) (hT : TS lo w' m s vi pg P gs fg tg st' c') (hK : Keeps w.heap.size [m, fg, tg] w w') (h : 50000 < st') (h2 : st' ≤ D) : TryPost lo D m s vi pg P gs fg tg A c w (.returned (.int .i64 (-1))) w' :=
  Or.inl ⟨hA, st', c', hT, hK, h, h2, rfl⟩
theorem TryPost.fail {st' : Nat} (hA : A = some (st', none)) (hT : TS lo w' m s vi pg P gs fg tg st' c) (hK : Keeps w.heap.size [m, fg, tg] w w') (h : st' ≤ 50000) : TryPost lo D m s vi pg P gs fg tg A c w (.returned (.int .i64 (-1))) w' :=
  Or.inr (Or.inl ⟨st', hA, hT, hK, h, rfl⟩)
theorem TryPost.hit {st' e2 : Nat} {c' : Cap} (hA : A = some (st', some (e2, c'))) (hT : TS lo w' m s vi pg P gs fg tg st' c') (hK : Keeps w.heap.size [m, fg, tg] w w') (h : st' ≤ 50000) (h2 : e2 ≤ s.size) : TryPost lo D m s vi pg P gs fg tg A c w (.returned (.int .i64 e2)) w' :=
  Or.inr (Or.inr ⟨st', e2, c', hA, hT, hK, h, h2, rfl⟩)
theorem TryPost.from_ (h : TryPost lo D m s vi pg P gs fg tg A c W e w') (hk : Keeps w.heap.size [m, fg, tg] w W) : TryPost lo D m s vi pg P gs fg tg A c w e w' := by
  rcases h with ⟨h1, st', c', h2, h3, h4⟩ | ⟨st', h1, h2, h3, h4⟩ | ⟨st', e2, c', h1, h2, h3, h4⟩
  · exact Or.inl ⟨h1, st', c', h2, hk.andThen h3 hk.size (fun _ h _ => h), h4⟩
  · exact Or.inr (Or.inl ⟨st', h1, h2, hk.andThen h3 hk.size (fun _ h _ => h), h4⟩)
  · exact Or.inr (Or.inr ⟨st', e2, c', h1, h2, hk.andThen h3 hk.size (fun _ h _ => h), h4⟩)
theorem TryPost.up (h : TryPost lo D m s vi pg P gs fg tg A c w e w') : TryPost lo (D + 1) m s vi pg P gs fg tg A c w e w' := by
  rcases h with ⟨h1, st', c', h2, h3, h4, h5, h6⟩ | h | h
  · exact Or.inl ⟨h1, st', c', h2, h3, h4, by omega, h6⟩
  · exact Or.inr (Or.inl h)
  · exact Or.inr (Or.inr h)
theorem TryPost.form (h : TryPost lo D m s vi pg P gs fg tg A c w e w') : ∃ v, e = .returned (.int .i64 v) := by
  rcases h with ⟨h1, st', c', h2, h3, h4, h5, h6⟩ | ⟨st', h1, h2, h3, h4, h5⟩ | ⟨st', e2, c', h1, h2, h3, h4, h5, h6⟩
  · exact ⟨_, h6⟩
  · exact ⟨_, h5⟩
  · exact ⟨_, h6⟩
theorem TryPost.ans {A' : Ans} (h : TryPost lo D m s vi pg P gs fg tg A c w e w') (hA : A = A') : TryPost lo D m s vi pg P gs fg tg A' c w e w' := hA ▸ h
end

/-- What is known of the matching of the items from k on: try comes to K wherever 'good' holds. -/
def Goes (lo D : Nat) (m : Nat) (s : ByteArray) (vi : Value) (pg : Nat) (P : Pt) (gs : List Nat) (fg tg k : Nat) (K : Nat → Nat → Cap → Ans) (good : Nat → Cap → Prop) : Prop :=
  ∀ i st c w, i ≤ s.size → st ≤ 50000 → good i c → TS lo w m s vi pg P gs fg tg st c →
    Calls Tryd.prog 34 #[.pointer (some ⟨m, 0, none⟩), .int .i64 k, .int .i64 i] w fun e w' => TryPost lo D m s vi pg P gs fg tg (K i st c) c w e w'
end Go.Proofs.YtpinoolagbghnaaDoor
