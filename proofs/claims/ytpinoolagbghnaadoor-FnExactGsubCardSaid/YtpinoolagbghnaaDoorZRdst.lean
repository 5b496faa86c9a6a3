/-
  Plain words for the state of the reference's reader of patterns in memory: its block, its three rows, the cells of an item.
-/
import Derived.Test.YtpinoolagbghnaaDoorZSingle
import Derived.Test.YtpinoolagbghnaaDoorZByteApp
namespace Go.Proofs.YtpinoolagbghnaaDoor
set_option linter.unusedVariables false
open Go.RowKit Pat

/-- The six cells of an item whose set lies in block g. -/
def itemCells (it : It) (g : Nat) : List Value :=
  [.int .i64 it.kind, (if it.kind = 0 ∨ it.kind = 6 then .slice (some ⟨g, 0, none⟩) 256 256 else .slice none 0 0), .int .u8 it.sign, .int .i64 it.n, .int .u8 it.x, .int .u8 it.y]

theorem itemCells_length (it : It) (g : Nat) : (itemCells it g).length = 6 := rfl

/-- The block of a row, as a list. -/
def obl (v : Value) : List Nat := v.ownBlock.toList
theorem mem_obl {v : Value} {k : Nat} : k ∈ obl v ↔ v.ownBlock = some k := by simp [obl, Option.mem_toList]

abbrev ItemRow (B : Nat) (w : World) (v : Value) (n : Nat) (xs : List Value) : Prop := w.ownsRow B 94 6 v n xs
abbrev OpenRow (B : Nat) (w : World) (v : Value) (l : List Nat) : Prop := w.ownsRow B 3 1 v l.length (l.reverse.map fun (n : Nat) => Value.int .i64 (n : Int))
abbrev DoneRow (B : Nat) (w : World) (v : Value) (l : List Bool) : Prop := w.ownsRow B 4 1 v l.length (l.map Value.bool)

theorem info_item : (Tryd.prog.info? 94).map (fun i => (i.zero, i.size, i.bytes)) = some (some (.agg #[.int .i64 0, .slice none 0 0, .int .u8 0, .int .i64 0, .int .u8 0, .int .u8 0]), 6, 56) := by kernel_rfl
theorem info_int : (Tryd.prog.info? 3).map (fun i => (i.zero, i.size, i.bytes)) = some (some (.int .i64 0), 1, 8) := by kernel_rfl

/-- What item leaves where it could read one. -/
def ItemPost (B : Nat) (p : ByteArray) (b : Nat) (it : It) (r : Rd) (n : Nat) (xs : List Value) (vi vo vd : Value) (w : World) (e : Ending) (w' : World) : Prop :=
  ∃ vi' vo' vd' g, e = .returned (.tuple #[]) ∧ RdBlk w' b 92 p r.i false vi' vo' vd' ∧ ItemRow B w' vi' (n + 1) (xs ++ itemCells it g) ∧ OpenRow B w' vo' r.opened ∧ DoneRow B w' vd' r.done ∧
    Keeps w.heap.size (b :: (obl vi ++ obl vo ++ obl vd)) w w' ∧ Near w vd vd' ∧ (it.kind = 0 ∨ it.kind = 6 → w.heap.size ≤ g ∧ BoolRow w' g 4 256 it.set ∧ vd'.ownBlock ≠ some g)

/-- What item leaves where it could not. -/
def ItemBad (B : Nat) (p : ByteArray) (b : Nat) (w : World) (e : Ending) (w' : World) : Prop :=
  ∃ vi' vo' vd' i', e = .returned (.tuple #[]) ∧ RdBlk w' b 92 p i' true vi' vo' vd' ∧ Keeps B [] w w'

theorem Keeps.grow {B : Nat} {S : List Nat} {a w w' : World} {v : Value} (h : Keeps B S a w) (hg : w.grownBy w' v.ownBlock) (hB : B ≤ w.heap.size) (hr : ∀ k, v.ownBlock = some k → k ∈ S ∨ B ≤ k) : Keeps B S a w' := h.grown hg hB hr
/-- What the reader's block is behind an append to a row of another type. -/
theorem RdBlk.grow {w w' : World} {b t : Nat} {p : ByteArray} {i : Nat} {bad : Bool} {vi vo vd : Value} {row : Option Nat} (h : RdBlk w b t p i bad vi vo vd) (hg : w.grownBy w' row) (hr : row ≠ some b) : RdBlk w' b t p i bad vi vo vd :=
  (hg.block b (blk_lt h) (Ne.symm hr)).trans h
theorem own_ne_blk {w : World} {B e size n b t : Nat} {v : Value} {xs : List Value} {c : Array Value} {fz : Nat × Nat} (h : w.ownsRow B e size v n xs) (hb : w.heap[b]? = some (.cells c t fz)) (ht : e ≠ t) : v.ownBlock ≠ some b := by
  intro hv
  rcases h.2 with ⟨rfl, _⟩ | ⟨g, cap, cur, rfl, _, hg, _⟩
  · cases hv
  · simp only [Value.ownBlock, Option.some.injEq] at hv
    subst hv
    rw [hg] at hb
    simp only [Option.some.injEq, Obj.cells.injEq] at hb
    exact ht hb.2.1
theorem own_ne_own {w : World} {B B' e e' size size' n n' : Nat} {v v' : Value} {xs xs' : List Value} (h : w.ownsRow B e size v n xs) (h' : w.ownsRow B' e' size' v' n' xs') (ht : e ≠ e') : v.ownBlock = none ∨ v.ownBlock ≠ v'.ownBlock := by
  cases hv : v.ownBlock with
  | none => exact Or.inl rfl
  | some k =>
    right
    intro he
    rcases h'.2 with ⟨rfl, _⟩ | ⟨g, cap, cur, rfl, _, hg, _⟩
    · cases he
    · simp only [Value.ownBlock, Option.some.injEq] at he
      subst he
      exact own_ne_blk h hg ht hv
theorem RdBlk.items_ {w : World} {b t : Nat} {p : ByteArray} {i : Nat} {bad : Bool} {vi vo vd : Value} (h : RdBlk w b t p i bad vi vo vd) (v : Value) : RdBlk (w.setCell ⟨b, 3, none⟩ v) b t p i bad v vo vd := blk_set h 3 _
theorem RdBlk.open_ {w : World} {b t : Nat} {p : ByteArray} {i : Nat} {bad : Bool} {vi vo vd : Value} (h : RdBlk w b t p i bad vi vo vd) (v : Value) : RdBlk (w.setCell ⟨b, 4, none⟩ v) b t p i bad vi v vd := blk_set h 4 _
theorem RdBlk.done_ {w : World} {b t : Nat} {p : ByteArray} {i : Nat} {bad : Bool} {vi vo vd : Value} (h : RdBlk w b t p i bad vi vo vd) (v : Value) : RdBlk (w.setCell ⟨b, 5, none⟩ v) b t p i bad vi vo v := blk_set h 5 _
/-- A slice value that is stored shows what it is. -/
theorem own_form {w : World} {B e size n : Nat} {v : Value} {xs : List Value} (h : w.ownsRow B e size v n xs) : ∃ a cap, v = .slice a n cap := by
  rcases h.2 with ⟨rfl, rfl⟩ | ⟨g, cap, cur, rfl, _⟩
  · exact ⟨none, 0, rfl⟩
  · exact ⟨_, cap, rfl⟩
theorem cell1_new {W : World} {v : Value} {t : Nat} : ∀ j u, [v][j]? = some u → (W.alloc (.cells #[v] t)).cell? ((⟨W.heap.size, 0, none⟩ : Addr).add j) = some u := by
  intro j u hu
  match j, hu with
  | 0, hu => simp at hu; subst hu; simp [Addr.add]
theorem cell6_new {W : World} {a b c d e f : Value} {t : Nat} : ∀ j u, [a, b, c, d, e, f][j]? = some u → (W.alloc (.cells #[a, b, c, d, e, f] t)).cell? ((⟨W.heap.size, 0, none⟩ : Addr).add j) = some u := by
  intro j u hu
  match j, hu with
  | 0, hu | 1, hu | 2, hu | 3, hu | 4, hu | 5, hu => simp at hu; subst hu; simp [Addr.add]
end Go.Proofs.YtpinoolagbghnaaDoor
