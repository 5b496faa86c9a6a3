/-
  Plain words for the state of the program's reader of patterns in memory: its block, its rows, the map of closed captures; what the rest of a text is.
-/
import Derived.Test.YtpinoolagbghnaaDoorZPSet
import Derived.Test.YtpinoolagbghnaaDoorZRel
import Derived.Test.YtpinoolagbghnaaDoorZShelf
import Derived.Test.YtpinoolagbghnaaDoorZExt
import Derived.Maps.OwnOps
import Derived.Maps.Views
import Derived.Maps.OwnSet
namespace Go.Proofs.YtpinoolagbghnaaDoor
set_option linter.unusedVariables false
open Go.RowKit Go.Maps Pat

/-- Block mp is a map from numbers to bools that tells which captures are closed. -/
def DoneMap (w : World) (mp n : Nat) (dn : List Bool) : Prop :=
  ∃ D : DataW Unit, w.ownsMap Tryd.prog 3 (plainElem Tryd.prog 4) mp n D ∧ ∀ k : Nat, k < 1000 → D.atKey (.int .i64 k) (.lit (.bool false)) = .lit (.bool (dn.getD k false))

theorem map_keyed : Keyed Tryd.prog 3 := int_keyed Tryd.underlying3
theorem map_key (k : Nat) (hk : k < 1000) : keyOf Tryd.prog 3 (.int .i64 k) = some (.int .i64 k) := keyOf_int_mk Tryd.underlying3 (WalkArith.wf_i64 (by omega))
theorem zero_bool (w : World) : (zeroValue 4).run Tryd.prog w = .ok (.bool false) w := by kernel_rfl
theorem keyLit (k : Nat) (hk : k < 1000) : WideAt.IsKeyLit (.int .i64 (k : Int)) := map_keyed.key (map_key k hk)
theorem DoneMap.of_block {w w' : World} {mp n : Nat} {dn : List Bool} (h : DoneMap w mp n dn) (e : w'.heap[mp]? = w.heap[mp]?) : DoneMap w' mp n dn := by
  obtain ⟨D, ⟨es, clock, hb, F, hs, hD⟩, h2⟩ := h
  exact ⟨D, ⟨es, clock, e.trans hb, F, hs, hD⟩, h2⟩
theorem DoneMap.lt {w : World} {mp n : Nat} {dn : List Bool} (h : DoneMap w mp n dn) : mp < w.heap.size := by
  obtain ⟨D, h1, h2⟩ := h
  exact h1.lt
theorem DoneMap.keeps {w w' : World} {B : Nat} {S : List Nat} {mp n : Nat} {dn : List Bool} (h : DoneMap w mp n dn) (hk : Keeps B S w w') (hB : mp < B) (hS : mp ∉ S) : DoneMap w' mp n dn := h.of_block (hk.block mp hB hS)
theorem DoneMap.ne {w : World} {mp n b t : Nat} {dn : List Bool} {c : Array Value} {z : Nat × Nat} (h : DoneMap w mp n dn) (hb : w.heap[b]? = some (.cells c t z)) : mp ≠ b := by
  intro e
  subst e
  obtain ⟨D, ⟨es, clock, h1, _⟩, _⟩ := h
  rw [h1] at hb
  cases hb
theorem DoneMap.made (w : World) : DoneMap (w.alloc (.map #[] 0)) w.heap.size 0 [] := ⟨_, World.ownsMap_made _ _ _ _, fun k _ => by simp [DataW.atKey]⟩
theorem DoneMap.open_ {w : World} {mp n : Nat} {dn : List Bool} (h : DoneMap w mp n dn) : DoneMap w mp n (dn ++ [false]) := by
  obtain ⟨D, h1, h2⟩ := h
  refine ⟨D, h1, fun k hk => ?_⟩
  rw [h2 k hk]
  by_cases e : k = dn.length
  · subst e; rw [getD_pushed]; simp [List.getD_eq_getElem?_getD]
  · rw [getD_push e]
set_option maxRecDepth 100000 in
theorem DoneMap.lookup {w : World} {mp n : Nat} {dn : List Bool} (h : DoneMap w mp n dn) (k : Nat) (hk : k < 1000) : (Instr.lookup 74 (.map (some mp)) (.int .i64 k) false).run Tryd.prog w = .ok (.bool (dn.getD k false)) w := by
  obtain ⟨D, h1, h2⟩ := h
  obtain ⟨v, ps, hrun, hv⟩ := h1.lookup map_keyed Tryd.underlying74 (zero_bool w) (plainElem_bool Tryd.underlying4 false) (map_key k hk)
  rw [h2 k hk] at hv
  refine hrun.trans ?_
  unfold plainElem at hv
  rw [Tryd.underlying4] at hv
  cases v <;> simp at hv
  rw [hv.1, List.getD_eq_getElem?_getD]
theorem DoneMap.update {w : World} {mp n : Nat} {dn dn' : List Bool} (h : DoneMap w mp n dn) (k : Nat) (hk : k < 1000) (hn : n < 1000) (h1 : dn'.getD k false = true) (h2 : ∀ j, j ≠ k → dn'.getD j false = dn.getD j false) :
    ∃ w', (Instr.mapUpdate 74 (.map (some mp)) (.int .i64 k) (.bool true)).run Tryd.prog w = .ok () w' ∧ DoneMap w' mp (n + 1) dn' ∧ w.grownBy w' (some mp) := by
  obtain ⟨D, h3, h4⟩ := h
  obtain ⟨w', hrun, h5, h6⟩ := h3.update map_keyed Tryd.underlying74 (by unfold maxLen; omega) (map_key k hk) (plainElem_bool Tryd.underlying4 true)
  refine ⟨w', hrun, ⟨_, h5, fun j hj => ?_⟩, h6⟩
  by_cases e : j = k
  · subst e
    rw [atKey_put_same (h3.isMap) (keyLit j hj), h1]
  · rw [atKey_put_other (by simp; omega), h4 j hj, h2 j e]

/-! ### What the rest of a text is -/
namespace Pat
theorem rest_size (p : ByteArray) (i : Nat) : (p.extract i p.size).size = p.size - i := by simp
theorem rest_at {p : ByteArray} {i j : Nat} (h : j < (p.extract i p.size).size) : (((p.extract i p.size)[j]'h).toNat : Int) = bt p (i + j) := by
  have h1 : i + j < p.size := by simp at h; omega
  have e1 := Go.Lib.data_getElem? (p.extract i p.size) j h
  rw [Go.Lib.extract_to_end, List.getElem?_drop, Go.Lib.data_getElem? p (i + j) h1] at e1
  simp only [Option.some.injEq] at e1
  rw [bt_of_lt h1, e1]
theorem isPrefix_iff {p : ByteArray} : ∀ {l : List UInt8} {i : Nat}, l.isPrefixOf (p.data.toList.drop i) = true ↔ ∀ j (h : j < l.length), i + j < p.size ∧ bt p (i + j) = (l[j].toNat : Int) := by
  intro l
  induction l with
  | nil => intro i; simp
  | cons a l ih =>
    intro i
    by_cases hi : i < p.size
    · have hd : p.data.toList.drop i = p[i] :: p.data.toList.drop (i + 1) := by
        rw [List.drop_eq_getElem_cons (by simpa using hi)]; rfl
      rw [hd, List.isPrefixOf_cons_cons]
      rw [Bool.and_eq_true, ih]
      constructor
      · rintro ⟨h1, h2⟩ j hj
        cases j with
        | zero => rw [beq_iff_eq] at h1; subst h1; exact ⟨by omega, by rw [Nat.add_zero, bt_of_lt hi]; rfl⟩
        | succ j =>
          have := h2 j (by simpa using hj)
          rw [show i + (j + 1) = i + 1 + j by omega]
          exact this
      · intro h
        refine ⟨?_, fun j hj => ?_⟩
        · have := (h 0 (by simp)).2
          rw [Nat.add_zero, bt_of_lt hi] at this
          rw [beq_iff_eq]
          exact (Go.Lib.byte_eq_of_toNat this).symm
        · have := h (j + 1) (by simpa using hj)
          rw [show i + (j + 1) = i + 1 + j by omega] at this
          exact this
    · rw [List.drop_eq_nil_of_le (by simpa using hi)]
      constructor
      · intro h; simp at h
      · intro h; exact absurd (h 0 (by simp)).1 (by omega)
theorem rest_prefix (p q : ByteArray) (i : Nat) : Go.Lib.hasPrefix (p.extract i p.size).data.toList q.data.toList = true ↔ ∀ j (h : j < q.data.toList.length), i + j < p.size ∧ bt p (i + j) = (q.data.toList[j].toNat : Int) := by
  rw [Go.Lib.extract_to_end]
  exact isPrefix_iff
theorem rest_prefix2 {p : ByteArray} {i : Nat} {a b : UInt8} : Go.Lib.hasPrefix (p.extract i p.size).data.toList (ByteArray.mk #[a, b]).data.toList = decide (i + 1 < p.size ∧ bt p i = a.toNat ∧ bt p (i + 1) = b.toNat) := by
  rw [Bool.eq_iff_iff, rest_prefix, decide_eq_true_iff]
  constructor
  · intro h
    have h0 := h 0 (by simp)
    have h1 := h 1 (by simp)
    exact ⟨h1.1, by simpa using h0.2, by simpa using h1.2⟩
  · rintro ⟨h1, h2, h3⟩ j hj
    match j, hj with
    | 0, _ => exact ⟨by omega, by simpa using h2⟩
    | 1, _ => exact ⟨h1, by simpa using h3⟩
    | j + 2, hj => exact absurd (show j + 2 < 2 from hj) (by omega)
theorem rest_prefix3 {p : ByteArray} {i : Nat} {a b c : UInt8} : Go.Lib.hasPrefix (p.extract i p.size).data.toList (ByteArray.mk #[a, b, c]).data.toList = decide (i + 2 < p.size ∧ bt p i = a.toNat ∧ bt p (i + 1) = b.toNat ∧ bt p (i + 2) = c.toNat) := by
  rw [Bool.eq_iff_iff, rest_prefix, decide_eq_true_iff]
  constructor
  · intro h
    have h0 := h 0 (by simp)
    have h1 := h 1 (by simp)
    have h2 := h 2 (by simp)
    exact ⟨h2.1, by simpa using h0.2, by simpa using h1.2, by simpa using h2.2⟩
  · rintro ⟨h1, h2, h3, h4⟩ j hj
    match j, hj with
    | 0, _ => exact ⟨by omega, by simpa using h2⟩
    | 1, _ => exact ⟨by omega, by simpa using h3⟩
    | 2, _ => exact ⟨h1, by simpa using h4⟩
    | j + 3, hj => exact absurd (show j + 3 < 3 from hj) (by omega)
theorem rest_eq1 {p : ByteArray} {i : Nat} {a : UInt8} (hi : i < p.size) : ((p.extract i p.size).toList == (ByteArray.mk #[a]).toList) = decide (bt p i = a.toNat ∧ i + 1 = p.size) := by
  rw [Bool.eq_iff_iff, beq_iff_eq, decide_eq_true_iff, Go.Lib.toList_data, Go.Lib.toList_data, Go.Lib.extract_to_end]
  constructor
  · intro h
    have hl := congrArg List.length h
    simp at hl
    have h0 := congrArg (fun l : List UInt8 => l[0]?) h
    simp only [List.getElem?_drop, Nat.add_zero] at h0
    rw [Go.Lib.data_getElem? p i hi] at h0
    simp at h0
    exact ⟨by rw [bt_of_lt hi, h0], by omega⟩
  · rintro ⟨h1, h2⟩
    have hd : p.data.toList.drop i = p[i] :: p.data.toList.drop (i + 1) := by
      rw [List.drop_eq_getElem_cons (by simpa using hi)]; rfl
    rw [hd, List.drop_eq_nil_of_le (by simp; omega)]
    rw [bt_of_lt hi] at h1
    rw [Go.Lib.byte_eq_of_toNat h1]
end Pat

/-! ### The items of the program's pattern -/
/-- The program's byte for a kind of item. -/
def kb (k : Nat) : Int := if k = 0 then 115 else if k = 1 then 112 else if k = 2 then 40 else if k = 3 then 41 else if k = 4 then 49 else if k = 5 then 98 else if k = 6 then 102 else 36
/-- The six cells of an item of the program's pattern whose set lies in block g. -/
def pItCells (it : It) (g : Nat) : List Value :=
  [.int .u8 (kb it.kind), (if it.kind = 0 ∨ it.kind = 6 then .pointer (some ⟨g, 0, none⟩) else .pointer none), .int .u8 it.sign, .int .i64 it.n, .int .u8 it.x, .int .u8 it.y]
theorem pItCells_length (it : It) (g : Nat) : (pItCells it g).length = 6 := rfl
def pCells (its : List It) (gs : List Nat) : List Value := (its.zip gs).flatMap fun x => pItCells x.1 x.2
theorem pCells_append {its : List It} {gs : List Nat} (h : its.length = gs.length) (it : It) (g : Nat) : pCells (its ++ [it]) (gs ++ [g]) = pCells its gs ++ pItCells it g := by
  unfold pCells
  rw [List.zip_append h, List.flatMap_append]
  simp
theorem pCells_get : ∀ {its : List It} {gs : List Nat} {k : Nat} {it : It} {g : Nat} (j : Nat), its[k]? = some it → gs[k]? = some g → j < 6 → (pCells its gs)[k * 6 + j]? = (pItCells it g)[j]? := by
  intro its
  induction its with
  | nil => intro gs k it g j h1; simp at h1
  | cons x xs ih =>
    intro gs k it g j h1 h2 hj
    cases gs with
    | nil => simp at h2
    | cons y ys =>
      have e : pCells (x :: xs) (y :: ys) = pItCells x y ++ pCells xs ys := by simp [pCells]
      rw [e]
      cases k with
      | zero =>
        simp only [List.getElem?_cons_zero, Option.some.injEq] at h1 h2
        subst h1; subst h2
        rw [Nat.zero_mul, Nat.zero_add, List.getElem?_append_left (by rw [pItCells_length]; omega)]
      | succ k =>
        simp only [List.getElem?_cons_succ] at h1 h2
        rw [List.getElem?_append_right (by rw [pItCells_length]; omega), pItCells_length]
        have : (k + 1) * 6 + j - 6 = k * 6 + j := by omega
        rw [this]
        exact ih j h1 h2 hj
abbrev PItemRow (B : Nat) (w : World) (v : Value) (n : Nat) (xs : List Value) : Prop := w.ownsRow B 77 6 v n xs
theorem info_pitem : (Tryd.prog.info? 77).map (fun i => (i.zero, i.size, i.bytes)) = some (some (.agg #[.int .u8 0, .pointer none, .int .u8 0, .int .i64 0, .int .u8 0, .int .u8 0]), 6, 40) := by kernel_rfl

/-- The sets of the items lie in their blocks, from lo on. -/
def PSetsOk (w : World) (lo : Nat) (its : List It) (gs : List Nat) : Prop :=
  ∀ (j : Nat) (it : It) (g : Nat), its[j]? = some it → gs[j]? = some g → (it.kind = 0 ∨ it.kind = 6) → lo ≤ g ∧ BoolRow w g 82 256 it.set
theorem PSetsOk.keeps {w w' : World} {lo B : Nat} {S : List Nat} {its : List It} {gs : List Nat} (h : PSetsOk w lo its gs) (hk : Keeps B S w w') (hB : w.heap.size ≤ B) (hS : ∀ g n f, g ∈ S → ¬ w.rowIs g 82 n f) : PSetsOk w' lo its gs := fun j it g h1 h2 h3 => by
  obtain ⟨a, b⟩ := h j it g h1 h2 h3
  exact ⟨a, hk.row b (Nat.lt_of_lt_of_le b.lt hB) (fun h => hS g _ _ h b)⟩
theorem PSetsOk.append {w : World} {lo : Nat} {its : List It} {gs : List Nat} (h : PSetsOk w lo its gs) (hl : its.length = gs.length) {it : It} {g : Nat}
    (hg : it.kind = 0 ∨ it.kind = 6 → lo ≤ g ∧ BoolRow w g 82 256 it.set) : PSetsOk w lo (its ++ [it]) (gs ++ [g]) := fun j it' g' h1 h2 h3 => by
  by_cases hj : j < its.length
  · rw [List.getElem?_append_left hj] at h1
    rw [List.getElem?_append_left (by omega)] at h2
    exact h j it' g' h1 h2 h3
  · rw [List.getElem?_append_right (by omega)] at h1
    rw [List.getElem?_append_right (by omega)] at h2
    obtain ⟨rfl, hz⟩ : it = it' ∧ j - its.length = 0 := by
      cases hz : j - its.length with
      | zero => rw [hz] at h1; simpa using h1
      | succ k => rw [hz] at h1; simp at h1
    rw [← hl, hz] at h2
    simp only [List.getElem?_cons_zero, Option.some.injEq] at h2
    subst h2
    exact hg h3

/-- The block of the program's pattern. -/
def PBlk (w : World) (b : Nat) (anch : Bool) (vi : Value) (caps : Nat) : Prop := w.heap[b]? = some (.cells #[.bool anch, vi, .int .i64 caps] 49 (0, 0))
theorem PBlk.cells {w : World} {b : Nat} {anch : Bool} {vi : Value} {caps : Nat} (h : PBlk w b anch vi caps) :
    w.cell? ⟨b, 0, none⟩ = some (.bool anch) ∧ w.cell? ⟨b, 1, none⟩ = some vi ∧ w.cell? ⟨b, 2, none⟩ = some (.int .i64 caps) ∧ w.frozen? ⟨b, 0, none⟩ = false ∧ w.frozen? ⟨b, 1, none⟩ = false ∧ w.frozen? ⟨b, 2, none⟩ = false :=
  ⟨blk_cell h 0, blk_cell h 1, blk_cell h 2, blk_free h 0, blk_free h 1, blk_free h 2⟩

/-- The state of the program's reader between two items. -/
structure PR (B : Nat) (p : ByteArray) (b mp : Nat) (anch : Bool) (r : Rd) (its : List It) (gs : List Nat) (vi vo : Value) (w : World) : Prop where
  blk : PBlk w b anch vi r.done.length
  it : PItemRow B w vi its.length (pCells its gs)
  op : OpenRow B w vo r.opened
  dm : ∃ n, n ≤ its.length ∧ DoneMap w mp n r.done
  len : its.length = gs.length
  sets : PSetsOk w B its gs
  mem : ∀ m ∈ r.opened, m < r.done.length
  b1 : its.length ≤ r.i
  b2 : r.done.length ≤ r.i
  b3 : r.opened.length ≤ r.i
  Bb : B ≤ b
  Bm : B ≤ mp
end Go.Proofs.YtpinoolagbghnaaDoor
