/-
  Plain law on worlds, no program in sight: what a call keeps of memory (Keeps), a block known whole, a row of 256 bools.
-/
import Derived.WalkKit
import Derived.Deep.OwnRows
import Derived.Deep.Draws
namespace Go.Proofs.YtpinoolagbghnaaDoor
set_option linter.unusedVariables false
open Go.RowKit Go.Deep

/-- Below block B, and but for the blocks in S, w' is as w was. -/
structure Keeps (B : Nat) (S : List Nat) (w w' : World) : Prop where
  os : w'.os = w.os
  tape : w'.tape = w.tape
  output : w'.output = w.output
  size : w.heap.size ≤ w'.heap.size
  block : ∀ k, k < B → k ∉ S → w'.heap[k]? = w.heap[k]?

theorem Keeps.refl (B : Nat) (S : List Nat) (w : World) : Keeps B S w w := ⟨rfl, rfl, rfl, Nat.le_refl _, fun _ _ _ => rfl⟩
theorem Keeps.trans {B : Nat} {S : List Nat} {a b c : World} (h : Keeps B S a b) (k : Keeps B S b c) : Keeps B S a c :=
  ⟨k.os.trans h.os, k.tape.trans h.tape, k.output.trans h.output, Nat.le_trans h.size k.size, fun i hi hs => (k.block i hi hs).trans (h.block i hi hs)⟩
theorem Keeps.mono {B B' : Nat} {S S' : List Nat} {w w' : World} (h : Keeps B' S' w w') (hB : B ≤ B') (hS : ∀ k, k ∈ S' → k < B → k ∈ S) : Keeps B S w w' :=
  ⟨h.os, h.tape, h.output, h.size, fun k hk hs => h.block k (Nat.lt_of_lt_of_le hk hB) (fun hm => hs (hS k hm hk))⟩
theorem Keeps.andThen {B B' : Nat} {S S' : List Nat} {a b c : World} (h : Keeps B S a b) (k : Keeps B' S' b c) (hB : B ≤ B') (hS : ∀ k, k ∈ S' → k < B → k ∈ S) : Keeps B S a c :=
  h.trans (k.mono hB hS)
theorem Keeps.drewN {B : Nat} {S : List Nat} {a w : World} (h : Keeps B S a w) (n : Nat) : Keeps B S a (w.drewN n) := ⟨h.os, h.tape, h.output, h.size, h.block⟩
theorem Keeps.drew {B : Nat} {S : List Nat} {a w : World} (h : Keeps B S a w) : Keeps B S a w.drew := ⟨h.os, h.tape, h.output, h.size, h.block⟩
theorem Keeps.alloc {B : Nat} {S : List Nat} {a w : World} (h : Keeps B S a w) (hB : B ≤ w.heap.size) (o : Obj) : Keeps B S a (w.alloc o) :=
  h.trans ⟨rfl, rfl, rfl, by simp, fun k hk _ => Below.heap_alloc _ _ _ (by omega)⟩
theorem Keeps.setCell {B : Nat} {S : List Nat} {a w : World} (h : Keeps B S a w) {p : Addr} (hp : p.block ∈ S ∨ B ≤ p.block) (u : Value) : Keeps B S a (w.setCell p u) :=
  h.trans ⟨rfl, rfl, rfl, by simp [World.setCell], fun k hk hs => Below.heap_setCell _ _ _ _ (fun e => by
    subst e
    rcases hp with hp | hp
    · exact hs hp
    · omega)⟩
theorem Keeps.grown {B : Nat} {S : List Nat} {a w w' : World} {row : Option Nat} (h : Keeps B S a w) (hg : w.grownBy w' row) (hB : B ≤ w.heap.size) (hr : ∀ k, row = some k → k ∈ S ∨ B ≤ k) : Keeps B S a w' :=
  h.trans ⟨hg.os, hg.tape, hg.output, hg.size, fun k hk hs => hg.block k (by omega) (fun e => by
    rcases hr k e.symm with h1 | h1
    · exact hs h1
    · omega)⟩
theorem Keeps.cell {B : Nat} {S : List Nat} {w w' : World} (h : Keeps B S w w') {p : Addr} (hp : p.block < B) (hs : p.block ∉ S) : w'.cell? p = w.cell? p := World.cell?_of_block (w := w) (h.block p.block hp hs)
theorem Keeps.frozen {B : Nat} {S : List Nat} {w w' : World} (h : Keeps B S w w') {p : Addr} (hp : p.block < B) (hs : p.block ∉ S) : w'.frozen? p = w.frozen? p := World.frozen?_of_block (w := w) (h.block p.block hp hs)
theorem Keeps.blk {B : Nat} {S : List Nat} {w w' : World} (h : Keeps B S w w') {b : Nat} {o : Obj} (hb : w.heap[b]? = some o) (hp : b < B) (hs : b ∉ S) : w'.heap[b]? = some o := (h.block b hp hs).trans hb
theorem Keeps.row {B : Nat} {S : List Nat} {w w' : World} (h : Keeps B S w w') {b : Nat} {t : TypeId} {n : Nat} {f : Nat → Value} (hb : w.rowIs b t n f) (hp : b < B) (hs : b ∉ S) : w'.rowIs b t n f := hb.of_block (h.block b hp hs)
theorem Keeps.below {B : Nat} {w w' : World} (h : Keeps B [] w w') : Below B w w' := ⟨h.os, h.tape, h.output, h.size, fun k hk => h.block k hk (by simp)⟩
theorem Keeps.of_below {B : Nat} {S : List Nat} {w w' : World} (h : Below B w w') : Keeps B S w w' := ⟨h.os, h.tape, h.output, h.size, fun k hk _ => h.block k hk⟩

/-- A block known whole: its cells, that none is frozen, a store into it. -/
theorem blk_cell {w : World} {b : Nat} {c : Array Value} {t : TypeId} (h : w.heap[b]? = some (.cells c t (0, 0))) (i : Nat) : w.cell? ⟨b, i, none⟩ = c[i]? := by simp [World.cell?, h]
theorem blk_free {w : World} {b : Nat} {c : Array Value} {t : TypeId} (h : w.heap[b]? = some (.cells c t (0, 0))) (i : Nat) : w.frozen? ⟨b, i, none⟩ = false := by simp [World.frozen?, h]
theorem blk_lt {w : World} {b : Nat} {o : Obj} (h : w.heap[b]? = some o) : b < w.heap.size := lt_of_block h
theorem blk_set {w : World} {b : Nat} {c : Array Value} {t : TypeId} (h : w.heap[b]? = some (.cells c t (0, 0))) (i : Nat) (v : Value) :
    (w.setCell ⟨b, i, none⟩ v).heap[b]? = some (.cells (c.setIfInBounds i v) t (0, 0)) := by
  have hlt := blk_lt h
  have h' : w.heap[b] = .cells c t (0, 0) := by simpa [Array.getElem?_eq_getElem hlt] using h
  show (w.heap.modify b _)[b]? = _
  rw [Array.getElem?_eq_getElem (by simpa using hlt), Array.getElem_modify_self, h']
  rfl
theorem blk_set_other {w : World} {b : Nat} {o : Obj} (h : w.heap[b]? = some o) {a : Addr} (ha : b ≠ a.block) (v : Value) : (w.setCell a v).heap[b]? = some o := by
  rw [Below.heap_setCell _ _ _ _ ha]; exact h
theorem blk_alloc {w : World} {b : Nat} {o : Obj} (h : w.heap[b]? = some o) (o' : Obj) : (w.alloc o').heap[b]? = some o := by
  rw [Below.heap_alloc _ _ _ (blk_lt h)]; exact h
theorem blk_new (w : World) (o : Obj) : (w.alloc o).heap[w.heap.size]? = some o := heap_alloc_new w o

/-- A row of bools, by a function. -/
abbrev BoolRow (w : World) (g t n : Nat) (f : Nat → Bool) : Prop := w.rowIs g t n (fun i => .bool (f i))
theorem BoolRow.set {w : World} {g t n : Nat} {f : Nat → Bool} (h : BoolRow w g t n f) (i : Nat) (v : Bool) : BoolRow (w.setCell ⟨g, i, none⟩ (.bool v)) g t n (fun j => if j = i then v else f j) :=
  (World.rowIs.set h i _).congr fun j _ => by dsimp only; split <;> simp_all
/-- A row of ints, by a function. -/
abbrev IntRow (w : World) (g t n : Nat) (f : Nat → Int) : Prop := w.rowIs g t n (fun i => .int .i64 (f i))
theorem IntRow.set {w : World} {g t n : Nat} {f : Nat → Int} (h : IntRow w g t n f) (i : Nat) (v : Int) : IntRow (w.setCell ⟨g, i, none⟩ (.int .i64 v)) g t n (fun j => if j = i then v else f j) :=
  (World.rowIs.set h i _).congr fun j _ => by dsimp only; split <;> simp_all

theorem hid {p : Prop} (h : p) : Hid p := h
theorem ret_b {a b : Bool} (h : a = b) : Ending.returned (.bool a) = .returned (.bool b) := by rw [h]
theorem ret_bb {a b c d : Bool} (h1 : a = c) (h2 : b = d) : Ending.returned (.tuple #[.bool a, .bool b]) = .returned (.tuple #[.bool c, .bool d]) := by rw [h1, h2]
theorem ret_i {k : IntKind} {a b : Int} (h : a = b) : Ending.returned (.int k a) = .returned (.int k b) := by rw [h]
theorem ret_ib {k : IntKind} {a b : Int} {c d : Bool} (h : a = b) (h2 : c = d) : Ending.returned (.tuple #[.int k a, .bool c]) = .returned (.tuple #[.int k b, .bool d]) := by rw [h, h2]
end Go.Proofs.YtpinoolagbghnaaDoor
