/-
  Plain law on worlds: what the steps of the program's reader of patterns do to its state: an item more, a capture more, a capture closed, a capture opened.
-/
import Derived.Test.YtpinoolagbghnaaDoorZPatI
import Derived.Test.YtpinoolagbghnaaDoorZTryM
namespace Go.Proofs.YtpinoolagbghnaaDoor
set_option linter.unusedVariables false
open Go.RowKit Go.Maps Pat

namespace Pat
theorem mk_toList1 (a : UInt8) : (ByteArray.mk #[a]).toList = [a] := by rw [Go.Lib.toList_data]
theorem rest_dollar {p : ByteArray} {i : Nat} (hi : i < p.size) : ((p.extract i p.size).toList == [36]) = decide (bt p i = 36 ∧ i + 1 = p.size) := by
  have := rest_eq1 (a := 36) hi
  rw [mk_toList1] at this
  exact this
theorem rest_unit {p : ByteArray} {i : Nat} : Go.Lib.hasPrefix (p.extract i p.size).data.toList [40, 41] = decide (i + 1 < p.size ∧ bt p i = 40 ∧ bt p (i + 1) = 41) := rest_prefix2 (a := 40) (b := 41)
theorem rest_pb {p : ByteArray} {i : Nat} : Go.Lib.hasPrefix (p.extract i p.size).data.toList [37, 98] = decide (i + 1 < p.size ∧ bt p i = 37 ∧ bt p (i + 1) = 98) := rest_prefix2 (a := 37) (b := 98)
theorem rest_pf {p : ByteArray} {i : Nat} : Go.Lib.hasPrefix (p.extract i p.size).data.toList [37, 102, 91] = decide (i + 2 < p.size ∧ bt p i = 37 ∧ bt p (i + 1) = 102 ∧ bt p (i + 2) = 91) := rest_prefix3 (a := 37) (b := 102) (c := 91)
end Pat

theorem pre_any (s q : ByteArray) (w : World) : Calls Tryd.prog 23 #[.string s, .string q] w fun e w' => e = .returned (.bool (Go.Lib.hasPrefix s.data.toList q.data.toList)) ∧ w = w' :=
  (Tryd.strings_HasPrefix s q w).mono fun e w' h => ⟨h.1, h.2.symm⟩

theorem ib_all : ∀ n : Fin 256, (n.val = 42 ∨ n.val = 43 ∨ n.val = 45 ∨ n.val = 63 → 0 ≤ Go.Lib.indexByte [42, 43, 45, 63] n.val.toUInt8) ∧ (¬ (n.val = 42 ∨ n.val = 43 ∨ n.val = 45 ∨ n.val = 63) → Go.Lib.indexByte [42, 43, 45, 63] n.val.toUInt8 < 0) := by decide +kernel
theorem ib_yes (c : Int) (h : c = 42 ∨ c = 43 ∨ c = 45 ∨ c = 63) (w : World) : Calls Tryd.prog 27 #[.string ⟨#[42, 43, 45, 63]⟩, .int .u8 c] w fun e w' => ∃ x : Int, 0 ≤ x ∧ e = .returned (.int .i64 x) ∧ w = w' :=
  (Tryd.strings_IndexByte ⟨#[42, 43, 45, 63]⟩ c w).mono fun e w' h' => ⟨_, (ib_all ⟨c.toNat, by omega⟩).1 (by dsimp only; omega), h'.1, h'.2.symm⟩
theorem ib_no (c : Int) (h0 : 0 ≤ c) (h1 : c ≤ 255) (h : ¬ (c = 42 ∨ c = 43 ∨ c = 45 ∨ c = 63)) (w : World) : Calls Tryd.prog 27 #[.string ⟨#[42, 43, 45, 63]⟩, .int .u8 c] w fun e w' => ∃ x : Int, x < 0 ∧ e = .returned (.int .i64 x) ∧ w = w' :=
  (Tryd.strings_IndexByte ⟨#[42, 43, 45, 63]⟩ c w).mono fun e w' h' => ⟨_, (ib_all ⟨c.toNat, by omega⟩).2 (by dsimp only; omega), h'.1, h'.2.symm⟩

/-- The state of the program's reader, between two steps. -/
structure PS (B pc mp : Nat) (anch : Bool) (caps n : Nat) (dn : List Bool) (opened : List Nat) (its : List It) (gs : List Nat) (vi vo : Value) (w : World) : Prop where
  blk : PBlk w pc anch vi caps
  it : PItemRow B w vi its.length (pCells its gs)
  op : OpenRow B w vo opened
  dm : DoneMap w mp n dn
  len : its.length = gs.length
  sets : PSetsOk w B its gs
  Bb : B ≤ pc
  Bm : B ≤ mp

section
variable {B pc mp caps n : Nat} {anch : Bool} {dn : List Bool} {opened : List Nat} {its : List It} {gs : List Nat} {vi vo : Value} {w w' W : World} {p : ByteArray} {r : Rd}
theorem PR.ps (h : PR B p pc mp anch r its gs vi vo w) : ∃ n, n ≤ its.length ∧ PS B pc mp anch r.done.length n r.done r.opened its gs vi vo w := by
  obtain ⟨n, hn, hd⟩ := h.dm
  exact ⟨n, hn, h.blk, h.it, h.op, hd, h.len, h.sets, h.Bb, h.Bm⟩
/-- What is kept where no block of the state was written. -/
theorem PS.keeps (h : PS B pc mp anch caps n dn opened its gs vi vo w) (hk : Keeps w.heap.size [] w w') : PS B pc mp anch caps n dn opened its gs vi vo w' :=
  ⟨hk.blk h.blk (blk_lt h.blk) (by simp), own_keeps h.it hk (Nat.le_refl _) (fun _ _ => by simp), own_keeps h.op hk (Nat.le_refl _) (fun _ _ => by simp), h.dm.keeps hk h.dm.lt (by simp), h.len, h.sets.keeps hk (Nat.le_refl _) (fun _ _ _ h => by simp at h), h.Bb, h.Bm⟩
/-- A capture more. -/
theorem PS.caps_ (h : PS B pc mp anch caps n dn opened its gs vi vo w) {x : Int} {caps' : Nat} (hx : x = caps') : PS B pc mp anch caps' n dn opened its gs vi vo (w.setCell ⟨pc, 2, none⟩ (.int .i64 x)) ∧ Keeps B [] w (w.setCell ⟨pc, 2, none⟩ (.int .i64 x)) := by
  subst hx
  have hk := keeps_set w ⟨pc, 2, none⟩ (.int .i64 caps')
  have hb : w.heap[pc]? = some (.cells #[.bool anch, vi, .int .i64 caps] 49 (0, 0)) := h.blk
  refine ⟨⟨blk_set h.blk 2 _, ownsRow_setCell_other (a := ⟨pc, 2, none⟩) h.it (own_ne_blk h.it hb (by decide)) _, ownsRow_setCell_other (a := ⟨pc, 2, none⟩) h.op (own_ne_blk h.op hb (by decide)) _,
    h.dm.keeps hk h.dm.lt (by simpa using h.dm.ne hb), h.len, h.sets.keeps hk (Nat.le_refl _) (fun g n f h1 h2 => ?_), h.Bb, h.Bm⟩, (Keeps.refl _ _ _).setCell (Or.inr h.Bb) _⟩
  simp only [List.mem_singleton] at h1
  exact row_ne h2 hb (by decide) h1
/-- An item more: the row has grown, and is stored. -/
theorem PS.push (h : PS B pc mp anch caps n dn opened its gs vi vo w) {it : It} {g m : Nat} {ao : Option Addr} {cap : Nat} (hm : m = its.length + 1) (ho : w'.ownsRow B 77 6 (.slice ao m cap) m (pCells its gs ++ pItCells it g)) (hg : w.grownBy w' vi.ownBlock)
    (hs : it.kind = 0 ∨ it.kind = 6 → B ≤ g ∧ BoolRow w g 82 256 it.set) (hB : B ≤ w.heap.size) :
    PS B pc mp anch caps n dn opened (its ++ [it]) (gs ++ [g]) (.slice ao m cap) vo (w'.setCell ⟨pc, 1, none⟩ (.slice ao m cap)) ∧ Keeps B [] w (w'.setCell ⟨pc, 1, none⟩ (.slice ao m cap)) := by
  subst hm
  have hb : w.heap[pc]? = some (.cells #[.bool anch, vi, .int .i64 caps] 49 (0, 0)) := h.blk
  have hib : vi.ownBlock ≠ some pc := own_ne_blk h.it hb (by decide)
  have hb' : w'.heap[pc]? = some (.cells #[.bool anch, vi, .int .i64 caps] 49 (0, 0)) := (hg.block pc (blk_lt hb) (Ne.symm hib)).trans hb
  have hop := World.ownsRow.kept h.op hg (own_ne_own h.op h.it (by decide))
  have him : vi.ownBlock ≠ some mp := by
    intro e
    rcases h.it.2 with ⟨rfl, _⟩ | ⟨g', cap', cur, rfl, _, hg', _⟩
    · cases e
    · simp only [Value.ownBlock, Option.some.injEq] at e
      exact h.dm.ne (e ▸ hg') rfl
  have hdm : DoneMap w' mp n dn := h.dm.of_block (hg.block mp h.dm.lt (Ne.symm him))
  have hsets : PSetsOk w' B its gs := fun j it g h1 h2 h3 => by
    obtain ⟨a, b⟩ := h.sets j it g h1 h2 h3
    obtain ⟨c, hc⟩ := row_blk b
    exact ⟨a, b.of_block (hg.block g (blk_lt hc) (Ne.symm (own_ne_blk h.it hc (by decide))))⟩
  have hset : it.kind = 0 ∨ it.kind = 6 → B ≤ g ∧ BoolRow w' g 82 256 it.set := fun h1 => by
    obtain ⟨a, b⟩ := hs h1
    obtain ⟨c, hc⟩ := row_blk b
    exact ⟨a, World.rowIs.of_block b (hg.block g (blk_lt hc) (Ne.symm (own_ne_blk h.it hc (by decide))))⟩
  have hk := keeps_set w' ⟨pc, 1, none⟩ (.slice ao (its.length + 1) cap)
  have hkw : Keeps B [] w w' := (Keeps.refl _ _ _).grow hg hB (fun k hk => Or.inr (h.it.lt k hk).1)
  refine ⟨⟨blk_set hb' 1 _, ?_, ownsRow_setCell_other (a := ⟨pc, 1, none⟩) hop (own_ne_blk hop hb' (by decide)) _, hdm.keeps hk hdm.lt (by simpa using hdm.ne hb'), by simp [h.len], (hsets.append h.len hset).keeps hk (Nat.le_refl _) (fun g n f h1 h2 => ?_), h.Bb, h.Bm⟩, hkw.setCell (Or.inr h.Bb) _⟩
  · have := ownsRow_setCell_other (a := ⟨pc, 1, none⟩) ho (own_ne_blk ho hb' (by decide)) (.slice ao (its.length + 1) cap)
    rw [pCells_append h.len]
    simpa using this
  · simp only [List.mem_singleton] at h1
    exact row_ne h2 hb' (by decide) h1
/-- A capture is closed in the map. -/
theorem PS.done_ (h : PS B pc mp anch caps n dn opened its gs vi vo w) {dn' : List Bool} {n' : Nat} (hd : DoneMap w' mp n' dn') (hg : w.grownBy w' (some mp)) (hB : B ≤ w.heap.size) : PS B pc mp anch caps n' dn' opened its gs vi vo w' ∧ Keeps B [] w w' := by
  have hb : w.heap[pc]? = some (.cells #[.bool anch, vi, .int .i64 caps] 49 (0, 0)) := h.blk
  have key : ∀ (b : Nat) (c : Array Value) (t : TypeId) (z : Nat × Nat), w.heap[b]? = some (.cells c t z) → w'.heap[b]? = w.heap[b]? := fun b c t z hc => hg.block b (blk_lt hc) (fun e => h.dm.ne hc (by simpa using e.symm))
  have hrow : ∀ {v : Value} {e size k : Nat} {xs : List Value}, w.ownsRow B e size v k xs → w'.ownsRow B e size v k xs := fun {v e size k xs} hr => by
    refine ⟨hr.1, ?_⟩
    rcases hr.2 with hn | ⟨g, cap, cur, rfl, hb, hgg, rest⟩
    · exact .inl hn
    · exact .inr ⟨g, cap, cur, rfl, hb, (key g _ _ _ hgg).trans hgg, rest⟩
  exact ⟨⟨(key pc _ _ _ hb).trans hb, hrow h.it, hrow h.op, hd, h.len, fun j it g h1 h2 h3 => (by
    obtain ⟨a, b⟩ := h.sets j it g h1 h2 h3
    obtain ⟨c, hc⟩ := row_blk b
    exact ⟨a, b.of_block (key g _ _ _ hc)⟩), h.Bb, h.Bm⟩, (Keeps.refl _ _ _).grown hg hB (fun k hk => by cases hk; exact Or.inr h.Bm)⟩
/-- A capture is opened: the row of the open ones has grown. -/
theorem PS.opn (h : PS B pc mp anch caps n dn opened its gs vi vo w) {k m : Nat} {ao : Option Addr} {cap : Nat} (hm : m = opened.length + 1) (ho : w'.ownsRow B 3 1 (.slice ao m cap) m ((opened.reverse.map fun (n : Nat) => Value.int .i64 (n : Int)) ++ [.int .i64 k])) (hg : w.grownBy w' vo.ownBlock) (hB : B ≤ w.heap.size) :
    PS B pc mp anch caps n dn (k :: opened) its gs vi (.slice ao m cap) w' ∧ Keeps B [] w w' := by
  subst hm
  have hb : w.heap[pc]? = some (.cells #[.bool anch, vi, .int .i64 caps] 49 (0, 0)) := h.blk
  have hob : vo.ownBlock ≠ some pc := own_ne_blk h.op hb (by decide)
  have hom : vo.ownBlock ≠ some mp := by
    intro e
    rcases h.op.2 with ⟨rfl, _⟩ | ⟨g', cap', cur, rfl, _, hg', _⟩
    · cases e
    · simp only [Value.ownBlock, Option.some.injEq] at e
      exact h.dm.ne (e ▸ hg') rfl
  refine ⟨⟨(hg.block pc (blk_lt hb) (Ne.symm hob)).trans hb, World.ownsRow.kept h.it hg (own_ne_own h.it h.op (by decide)), ?_, h.dm.of_block (hg.block mp h.dm.lt (Ne.symm hom)), h.len, fun j it g h1 h2 h3 => ?_, h.Bb, h.Bm⟩, (Keeps.refl _ _ _).grow hg hB (fun k hk => Or.inr (h.op.lt k hk).1)⟩
  · simpa [OpenRow] using ho
  · obtain ⟨a, b⟩ := h.sets j it g h1 h2 h3
    obtain ⟨c, hc⟩ := row_blk b
    exact ⟨a, b.of_block (hg.block g (blk_lt hc) (Ne.symm (own_ne_blk h.op hc (by decide))))⟩
/-- The innermost open capture is dropped. -/
theorem PS.pop {m : Nat} {go oc : Nat} (h : PS B pc mp anch caps n dn (m :: opened) its gs vi (.slice (some ⟨go, 0, none⟩) (opened.length + 1) oc) w) : PS B pc mp anch caps n dn opened its gs vi (.slice (some ⟨go, 0, none⟩) opened.length oc) w := by
  refine ⟨h.blk, h.it, ?_, h.dm, h.len, h.sets, h.Bb, h.Bm⟩
  have h' := h.op
  simp only [OpenRow, List.length_cons, List.reverse_cons, List.map_append, List.map_cons, List.map_nil] at h'
  exact own_pop h' (by simp)
theorem PS.pr (h : PS B pc mp anch r.done.length n r.done r.opened its gs vi vo w) (hn : n ≤ its.length) (mem : ∀ m ∈ r.opened, m < r.done.length) (b1 : its.length ≤ r.i) (b2 : r.done.length ≤ r.i) (b3 : r.opened.length ≤ r.i) : PR B p pc mp anch r its gs vi vo w :=
  ⟨h.blk, h.it, h.op, ⟨n, hn, h.dm⟩, h.len, h.sets, mem, b1, b2, b3, h.Bb, h.Bm⟩
theorem PS.drew (h : PS B pc mp anch caps n dn opened its gs vi vo w) : PS B pc mp anch caps n dn opened its gs vi vo w.drew := h.keeps (Keeps.refl _ _ _).drew
theorem PS.lo (h : PS B pc mp anch caps n dn opened its gs vi vo w) : B ≤ w.heap.size := by have := h.Bb; have := blk_lt h.blk; omega
/-- 'closed[k] = true' at the operation. -/
theorem wpList_done {ops : Array Oper} {rest : List Oper} {o : Oper} {a : Act} {Q : Exit → Act → World → Prop} (hg : o.guard = none) (m x v : Operand) (hop : o.op = Op.mapUpdate 74 m x v) (mp n k : Nat) (dn dn' : List Bool)
    (hm : a.eval m = .map (some mp)) (hx : a.eval x = .int .i64 (k : Int)) (hv : a.eval v = .bool true) (hd : DoneMap w mp n dn) (hk : k < 1000) (hn : n < 1000) (h1 : dn'.getD k false = true) (h2 : ∀ j, j ≠ k → dn'.getD j false = dn.getD j false)
    (hK : ∀ w', DoneMap w' mp (n + 1) dn' → w.grownBy w' (some mp) → wpList Tryd.prog ops Q rest (a.put o.dst undef) w') : wpList Tryd.prog ops Q (o :: rest) a w := by
  refine wpList_plain hg fun K' hK' => ?_
  obtain ⟨w', hrun, r1, r2⟩ := hd.update k hk hn h1 h2
  unfold Oper.wp
  simp [execOp, hop, hm, hx, hv, hrun, Result.andThen]
  exact hK' _ _ (hK w' r1 r2)
end
end Go.Proofs.YtpinoolagbghnaaDoor
