/-
  Plain words for the reading of a whole pattern: what an item does to the state, the rounds of itemsGo, the cells of many items and their sets in memory.
-/
import Derived.Test.YtpinoolagbghnaaDoorZItemAny
namespace Go.Proofs.YtpinoolagbghnaaDoor
set_option linter.unusedVariables false
open Go.RowKit Pat

namespace Pat
/-- Whether a capture is a place. -/
def placesOf (l : List It) (n : Nat) : Bool := l.any fun it => decide (it.kind = 1) && decide (it.n = n)

theorem itemsGo_end {p : ByteArray} {fuel : Nat} {r : Rd} {l : List It} (h : p.size ≤ r.i) : itemsGo p fuel r l = some (l, r) := by
  cases fuel with
  | zero => show (if p.size ≤ r.i then _ else _) = _; rw [if_pos h]
  | succ n => show (if p.size ≤ r.i then _ else _) = _; rw [if_pos h]
theorem itemsGo_bad {p : ByteArray} {fuel : Nat} {r : Rd} {l : List It} (h : r.i < p.size) (hi : itemAt p r = none) : itemsGo p (fuel + 1) r l = none := by
  show (if p.size ≤ r.i then _ else _) = _
  rw [if_neg (by omega), hi]
  rfl
theorem itemsGo_next {p : ByteArray} {fuel : Nat} {r r' : Rd} {it : It} {l : List It} (h : r.i < p.size) (hi : itemAt p r = some (it, r')) : itemsGo p (fuel + 1) r l = itemsGo p fuel r' (l ++ [it]) := by
  show (if p.size ≤ r.i then _ else _) = _
  rw [if_neg (by omega), hi]
  rfl
theorem singleAt_le {p : ByteArray} {i j : Nat} {g : Nat → Bool} (h : singleAt p i = some (g, j)) : i < j := by
  unfold singleAt at h
  split at h
  · exact (setAt_le h).1
  · split at h
    · simp only [Option.some.injEq, Prod.mk.injEq] at h; omega
    · split at h
      · split at h
        · cases h
        · split at h
          · cases h
          · simp only [Option.some.injEq, Prod.mk.injEq] at h; omega
      · simp only [Option.some.injEq, Prod.mk.injEq] at h; omega
/-- What an item does to the state: the place goes on, at most one capture more, open captures are captures; an item's capture is a capture. -/
structure StepOk (r : Rd) (it : It) (r' : Rd) : Prop where
  i : r.i < r'.i
  done : r'.done.length = r.done.length ∨ r'.done.length = r.done.length + 1
  op : r'.opened.length ≤ r.opened.length + 1
  mem : (∀ m ∈ r.opened, m < r.done.length) → ∀ m ∈ r'.opened, m < r'.done.length
  n : (∀ m ∈ r.opened, m < r.done.length) → 1 ≤ it.kind → it.kind ≤ 4 → it.n < r'.done.length
theorem itemAt_ok {p : ByteArray} {r r' : Rd} {it : It} (h : itemAt p r = some (it, r')) : StepOk r it r' := by
  unfold itemAt at h
  simp only [] at h
  split at h
  · split at h
    all_goals
      simp only [Option.some.injEq, Prod.mk.injEq] at h
      obtain ⟨rfl, rfl⟩ := h
    · refine ⟨by simp, by simp, by simp, fun hm m h => ?_, fun hm _ _ => by simp⟩
      have := hm m h
      simp; omega
    · refine ⟨by simp, by simp, by simp, fun hm m h => ?_, fun hm _ _ => by simp⟩
      simp only [List.mem_cons] at h
      rcases h with rfl | h
      · simp
      · have := hm m h
        simp; omega
  · split at h
    · split at h
      · cases h
      · rename_i n rest ho
        simp only [Option.some.injEq, Prod.mk.injEq] at h
        obtain ⟨rfl, rfl⟩ := h
        refine ⟨by simp, by simp, by rw [ho]; simp; omega, fun hm m h => ?_, fun hm _ _ => ?_⟩
        · have := hm m (by rw [ho]; simp [h])
          simpa using this
        · have := hm n (by rw [ho]; simp)
          simpa using this
    · split at h
      · split at h
        · cases h
        · rename_i hb
          simp only [Option.some.injEq, Prod.mk.injEq] at h
          obtain ⟨rfl, rfl⟩ := h
          refine ⟨by simp, by simp, by simp, fun hm m h => hm m h, fun hm _ _ => ?_⟩
          rw [not_or] at hb
          dsimp only
          apply Nat.lt_of_not_le
          intro hle
          apply hb.2
          rw [List.getD_eq_getElem?_getD, List.getElem?_eq_none hle]
          rfl
      · split at h
        · split at h
          · simp only [Option.some.injEq, Prod.mk.injEq] at h
            obtain ⟨rfl, rfl⟩ := h
            exact ⟨by simp, by simp, by simp, fun hm m h => hm m h, fun hm _ h => by simp at h⟩
          · cases h
        · split at h
          · split at h
            · split at h
              · cases h
              · rename_i f j hs
                simp only [Option.some.injEq, Prod.mk.injEq] at h
                obtain ⟨rfl, rfl⟩ := h
                have := (setAt_le hs).1
                exact ⟨by simp; omega, by simp, by simp, fun hm m h => hm m h, fun hm _ h => by simp at h⟩
            · cases h
          · split at h
            · simp only [Option.some.injEq, Prod.mk.injEq] at h
              obtain ⟨rfl, rfl⟩ := h
              exact ⟨by simp, by simp, by simp, fun hm m h => hm m h, fun hm _ h => by simp at h⟩
            · split at h
              · cases h
              · rename_i f j hs
                have := singleAt_le hs
                split at h
                all_goals
                  simp only [Option.some.injEq, Prod.mk.injEq] at h
                  obtain ⟨rfl, rfl⟩ := h
                  exact ⟨by simp; omega, by simp, by simp, fun hm m h => hm m h, fun hm h _ => by simp at h⟩
/-- What holds at the beginning and is kept by each item holds at the end. -/
theorem itemsGo_ind {p : ByteArray} (I : Rd → List It → Prop) (hI : ∀ r l it r', I r l → r.i < p.size → itemAt p r = some (it, r') → I r' (l ++ [it])) :
    ∀ {fuel : Nat} {r r2 : Rd} {l l2 : List It}, I r l → itemsGo p fuel r l = some (l2, r2) → I r2 l2 := by
  intro fuel
  induction fuel with
  | zero =>
    intro r r2 l l2 h hg
    by_cases h0 : p.size ≤ r.i
    · rw [itemsGo_end h0] at hg
      simp only [Option.some.injEq, Prod.mk.injEq] at hg
      obtain ⟨rfl, rfl⟩ := hg
      exact h
    · have : itemsGo p 0 r l = none := by show (if p.size ≤ r.i then _ else _) = _; rw [if_neg h0]
      rw [this] at hg; cases hg
  | succ n ih =>
    intro r r2 l l2 h hg
    by_cases h0 : p.size ≤ r.i
    · rw [itemsGo_end h0] at hg
      simp only [Option.some.injEq, Prod.mk.injEq] at hg
      obtain ⟨rfl, rfl⟩ := hg
      exact h
    · cases hi : itemAt p r with
      | none => rw [itemsGo_bad (by omega) hi] at hg; cases hg
      | some x =>
        obtain ⟨it, r'⟩ := x
        rw [itemsGo_next (by omega) hi] at hg
        exact ih (hI r l it r' h (by omega) hi) hg
end Pat

/-- The cells of many items whose sets lie in the blocks gs. -/
def itCells (its : List It) (gs : List Nat) : List Value := (its.zip gs).flatMap fun x => itemCells x.1 x.2
theorem itCells_append {its : List It} {gs : List Nat} (h : its.length = gs.length) (it : It) (g : Nat) : itCells (its ++ [it]) (gs ++ [g]) = itCells its gs ++ itemCells it g := by
  unfold itCells
  rw [List.zip_append h, List.flatMap_append]
  simp
theorem itCells_get : ∀ {its : List It} {gs : List Nat} {k : Nat} {it : It} {g : Nat} (j : Nat), its[k]? = some it → gs[k]? = some g → j < 6 → (itCells its gs)[k * 6 + j]? = (itemCells it g)[j]? := by
  intro its
  induction its with
  | nil => intro gs k it g j h1; simp at h1
  | cons x xs ih =>
    intro gs k it g j h1 h2 hj
    cases gs with
    | nil => simp at h2
    | cons y ys =>
      have e : itCells (x :: xs) (y :: ys) = itemCells x y ++ itCells xs ys := by simp [itCells]
      rw [e]
      cases k with
      | zero =>
        simp only [List.getElem?_cons_zero, Option.some.injEq] at h1 h2
        subst h1; subst h2
        rw [Nat.zero_mul, Nat.zero_add, List.getElem?_append_left (by rw [itemCells_length]; omega)]
      | succ k =>
        simp only [List.getElem?_cons_succ] at h1 h2
        rw [List.getElem?_append_right (by rw [itemCells_length]; omega), itemCells_length]
        have : (k + 1) * 6 + j - 6 = k * 6 + j := by omega
        rw [this]
        exact ih j h1 h2 hj

/-- The sets of the items lie in their blocks, from lo on, none of them the row of vd. -/
def SetsOk (w : World) (lo : Nat) (vd : Value) (its : List It) (gs : List Nat) : Prop :=
  ∀ (j : Nat) (it : It) (g : Nat), its[j]? = some it → gs[j]? = some g → (it.kind = 0 ∨ it.kind = 6) → lo ≤ g ∧ BoolRow w g 4 256 it.set ∧ vd.ownBlock ≠ some g
theorem SetsOk.keeps {w w' : World} {lo B : Nat} {S : List Nat} {vd vd' : Value} {its : List It} {gs : List Nat} (h : SetsOk w lo vd its gs) (hk : Keeps B S w w') (hB : w.heap.size ≤ B)
    (hS : ∀ (j : Nat) (it : It) (g : Nat), its[j]? = some it → gs[j]? = some g → (it.kind = 0 ∨ it.kind = 6) → g ∉ S ∧ vd'.ownBlock ≠ some g) : SetsOk w' lo vd' its gs := fun j it g h1 h2 h3 => by
  obtain ⟨a, b, c⟩ := h j it g h1 h2 h3
  exact ⟨a, hk.row b (Nat.lt_of_lt_of_le b.lt hB) (hS j it g h1 h2 h3).1, (hS j it g h1 h2 h3).2⟩
theorem SetsOk.append {w : World} {lo : Nat} {vd : Value} {its : List It} {gs : List Nat} (h : SetsOk w lo vd its gs) (hl : its.length = gs.length) {it : It} {g : Nat}
    (hg : it.kind = 0 ∨ it.kind = 6 → lo ≤ g ∧ BoolRow w g 4 256 it.set ∧ vd.ownBlock ≠ some g) : SetsOk w lo vd (its ++ [it]) (gs ++ [g]) := fun j it' g' h1 h2 h3 => by
  by_cases hj : j < its.length
  · rw [List.getElem?_append_left hj] at h1
    rw [List.getElem?_append_left (by omega)] at h2
    exact h j it' g' h1 h2 h3
  · rw [List.getElem?_append_right (by omega)] at h1
    rw [List.getElem?_append_right (by omega)] at h2
    obtain ⟨rfl, hz⟩ : it = it' ∧ j - its.length = 0 := by
      cases hz : j - its.length with
      | zero => rw [hz] at h1; simpa using h1
      | succ k => rw [hz] at h1; simp at h1
    rw [← hl, hz] at h2
    simp only [List.getElem?_cons_zero, Option.some.injEq] at h2
    subst h2
    exact hg h3
theorem row_blk {w : World} {g t n : Nat} {f : Nat → Value} (h : w.rowIs g t n f) : ∃ c, w.heap[g]? = some (.cells c t (0, 0)) := by
  obtain ⟨c, h1, h2⟩ := h
  exact ⟨c, h1⟩

/-- The state of the reader between two items. -/
structure RdState (B lo : Nat) (p : ByteArray) (b : Nat) (r : Rd) (its : List It) (gs : List Nat) (vi vo vd : Value) (w : World) : Prop where
  blk : RdBlk w b 92 p r.i false vi vo vd
  it : ItemRow B w vi its.length (itCells its gs)
  op : OpenRow B w vo r.opened
  dn : DoneRow B w vd r.done
  len : its.length = gs.length
  sets : SetsOk w lo vd its gs
  mem : ∀ m ∈ r.opened, m < r.done.length
  b1 : its.length ≤ r.i
  b2 : r.done.length ≤ r.i
  b3 : r.opened.length ≤ r.i

theorem RdState.next {B lo : Nat} {p : ByteArray} {b : Nat} {r r' : Rd} {its : List It} {gs : List Nat} {it : It} {vi vo vd : Value} {w w' : World} {e : Ending} (h : RdState B lo p b r its gs vi vo vd w) (hlo : lo ≤ w.heap.size) (hi : itemAt p r = some (it, r'))
    (hp : ItemPost B p b it r' its.length (itCells its gs) vi vo vd w e w') :
    ∃ gs' vi' vo' vd', e = .returned (.tuple #[]) ∧ RdState B lo p b r' (its ++ [it]) gs' vi' vo' vd' w' ∧ Keeps w.heap.size (b :: (obl vi ++ obl vo ++ obl vd)) w w' := by
  obtain ⟨vi', vo', vd', g, rfl, h1, h2, h3, h4, h5, h6, h7⟩ := hp
  have ok := itemAt_ok hi
  have oi := ok.i
  have od := ok.done
  have oo := ok.op
  refine ⟨gs ++ [g], vi', vo', vd', rfl, ⟨h1, ?_, h3, h4, by simp [h.len], ?_, ok.mem h.mem, ?_, ?_, ?_⟩, h5⟩
  · rw [itCells_append h.len, List.length_append]; exact h2
  · refine SetsOk.append (SetsOk.keeps h.sets h5 (Nat.le_refl _) ?_) h.len (fun hk => ⟨by have := (h7 hk).1; omega, (h7 hk).2⟩)
    intro j it' g' e1 e2 e3
    obtain ⟨a1, a2, a3⟩ := h.sets j it' g' e1 e2 e3
    obtain ⟨c, hc⟩ := row_blk a2
    constructor
    · simp only [List.mem_cons, List.mem_append, mem_obl, not_or]
      refine ⟨?_, ⟨own_ne_blk h.it hc (by decide), own_ne_blk h.op hc (by decide)⟩, a3⟩
      intro he
      have := h.blk
      unfold RdBlk at this
      rw [he, this] at hc
      simp at hc
    · intro hv
      rcases h6 _ hv with h8 | h8
      · exact a3 h8
      · have := a2.lt
        omega
  · have := h.b1; simp; omega
  · have := h.b2; omega
  · have := h.b3; omega
end Go.Proofs.YtpinoolagbghnaaDoor
