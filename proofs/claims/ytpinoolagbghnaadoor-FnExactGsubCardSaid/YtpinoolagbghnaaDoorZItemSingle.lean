/-
  Walks: the reader of the reference: item at an edge '%f[..]'.
  Walks: the reader of the reference: item at a single, with its sign.
-/
import Derived.Test.YtpinoolagbghnaaDoorZItemPlace
import Derived.BigRegion
import Derived.BigQuiet
import Derived.Deep.QuietTactic
import Derived.RegionTactic
import Derived.Deep.RegionLaw
import Derived.Deep.CutRange
import Derived.Deep.DeepMust
namespace Go.Proofs.YtpinoolagbghnaaDoor
set_option linter.unusedVariables false
open Go.RowKit Pat

/-- What an item that holds a set leaves, whether or not the set could be read. -/
def SetItemPost (R : Option ((Nat → Bool) × Nat)) (B : Nat) (p : ByteArray) (b : Nat) (mk : (Nat → Bool) → It) (done : List Bool) (opened : List Nat) (n : Nat) (xs : List Value) (vi vo vd : Value) (w : World) (e : Ending) (w' : World) : Prop :=
  (∀ f j, R = some (f, j) → ItemPost B p b (mk f) { i := j, done := done, opened := opened } n xs vi vo vd w e w') ∧ (R = none → ItemBad B p b w e w')
theorem own_keeps {W w : World} {B B' e size n : Nat} {S : List Nat} {v : Value} {xs : List Value} (h : W.ownsRow B e size v n xs) (hk : Keeps B' S W w) (hB : W.heap.size ≤ B') (hS : ∀ k, v.ownBlock = some k → k ∉ S) : w.ownsRow B e size v n xs := by
  refine ⟨h.1, ?_⟩
  rcases h.2 with hn | ⟨g, cap, cur, rfl, hb, hgg, rest⟩
  · exact .inl hn
  · exact .inr ⟨g, cap, cur, rfl, hb, hk.blk hgg (Nat.lt_of_lt_of_le (blk_lt hgg) hB) (hS g rfl), rest⟩

theorem own_keeps1 {W w : World} {B b e size n : Nat} {v : Value} {xs : List Value} (h : W.ownsRow B e size v n xs) (hk : Keeps W.heap.size [b] W w) (hb : v.ownBlock ≠ some b) : w.ownsRow B e size v n xs :=
  own_keeps h hk (Nat.le_refl _) (fun k h1 h2 => hb (by simp only [List.mem_singleton] at h2; rw [h1, h2]))
theorem Keeps.undrewP {B : Nat} {S : List Nat} {w w' : World} (h : Keeps B S w.drew w') : Keeps B S w w' := ⟨h.os, h.tape, h.output, h.size, h.block⟩

theorem set_item_end {R : Option ((Nat → Bool) × Nat)} {B n g i0 i' : Nat} {p : ByteArray} {b : Nat} {mk : (Nat → Bool) → It} {done : List Bool} {opened : List Nat} {xs us : List Value} {vi vo vd : Value} {w X w2 W : World} {ao : Option Addr} {co : Nat} {f' : Nat → Bool} {bad' : Bool}
    (hmk : ∀ f, (mk f).set = f) (hcells : ∀ f, us = itemCells (mk f) g) (hB : B ≤ b) (hBw : B ≤ w.heap.size)
    (hblkX : RdBlk X b 92 p i0 false vi vo vd) (hiX : ItemRow B X vi n xs) (hoX : OpenRow B X vo opened) (hdX : DoneRow B X vd done) (hKX : Keeps w.heap.size [b] w X) (hn : Near w vd vd)
    (r1 : X.heap.size ≤ g) (r2 : RdBlk w2 b 92 p i' bad' vi vo vd) (r3 : BoolRow w2 g 4 256 f') (r4 : Keeps X.heap.size [b] X w2)
    (r6 : ∀ f j, R = some (f, j) → bad' = false ∧ i' = j ∧ ∀ n, n < 256 → f' n = f n) (r7 : R = none → bad' = true)
    (hi4 : W.ownsRow B 94 6 (.slice ao (n + 1) co) (n + 1) (xs ++ us)) (hg : w2.grownBy W vi.ownBlock) :
    SetItemPost R B p b mk done opened n xs vi vo vd w (.returned (.tuple #[])) (W.setCell ⟨b, 3, none⟩ (.slice ao (n + 1) co)) := by
  have hbi : vi.ownBlock ≠ some b := own_ne_blk hiX hblkX (by decide)
  have hbo : vo.ownBlock ≠ some b := own_ne_blk hoX hblkX (by decide)
  have hbd : vd.ownBlock ≠ some b := own_ne_blk hdX hblkX (by decide)
  have hi2 := own_keeps1 hiX r4 hbi
  have ho2 := own_keeps1 hoX r4 hbo
  have hd2 := own_keeps1 hdX r4 hbd
  constructor
  · intro f j hR
    obtain ⟨rfl, rfl, hf⟩ := r6 f j hR
    rw [hcells f] at hi4
    refine item_end (g := g) r2 hi2 ho2 hd2 ?_ hn ?_ hi4 hg
    · exact (hKX.mono (Nat.le_refl _) (by simp)).andThen r4 hKX.size (by simp)
    · intro _
      refine ⟨Nat.le_trans hKX.size r1, ?_, ?_⟩
      · rw [hmk]; exact World.rowIs.congr r3 fun k hk => by rw [hf k hk]
      · intro e
        have := (hdX.lt g e).2
        omega
  · intro hR
    obtain rfl := r7 hR
    refine ⟨_, _, _, i', rfl, (RdBlk.grow r2 hg hbi).items_ _, ?_⟩
    have k1 : Keeps B [] w X := hKX.mono hBw (by intro k hk hlt; simp at hk; omega)
    have k2 : Keeps B [] w w2 := k1.andThen r4 (Nat.le_trans hBw hKX.size) (by intro k hk hlt; simp at hk; omega)
    exact (k2.grown hg (Nat.le_trans hBw k2.size) (fun k hk => Or.inr (hi2.lt k hk).1)).setCell (Or.inr hB) _

set_option maxRecDepth 100000 in
set_option maxHeartbeats 2000000 in
theorem item_edge0 (B : Nat) (p : ByteArray) (b i n : Nat) (xs : List Value) (done : List Bool) (opened : List Nat) (vi vo vd : Value) (w : World) (hp : p.size ≤ 200) (hi : i < p.size) (hn : n ≤ 200) (hdn : done.length ≤ 200) (hop : opened.length ≤ 200)
    (hB : B ≤ b) (hblk : RdBlk w b 92 p i false vi vo vd) (hit : ItemRow B w vi n xs) (hopr : OpenRow B w vo opened) (hdr : DoneRow B w vd done)
    (hc : bt p i = 37) (hd : bt p (i + 1) = 102) (hl : ¬ (i + 2 < p.size ∧ bt p (i + 2) = 91)) :
    Calls Tryd.prog 33 #[.pointer (some ⟨b, 0, none⟩)] w fun e w' =>
      ItemBad B p b w e w' := by
  have hbl := blk_lt hblk
  obtain ⟨c0, c1, c2, c3, c4, c5, f1, f2, f3, f4, f5⟩ := hblk.cells
  have hd0 : decide (i < p.size) = true := by simp; omega
  have hb0 := bt_nonneg p (i + 1)
  have hb255 := bt_le p (i + 1)
  have t1 : (bt p i == 37) = true := by simpa using hc
  have t2 : (bt p i == 40) = false := by rw [hc]; rfl
  have t3 : (bt p i == 41) = false := by rw [hc]; rfl
  have t4 : (bt p (i + 1) == 98) = false := by rw [hd]; rfl
  have t9 : (bt p (i + 1) == 102) = true := by rw [hd]; rfl
  have t5 : decide (48 ≤ bt p (i + 1)) = true := by rw [hd]; rfl
  have t6 : decide (bt p (i + 1) ≤ 57) = false := by rw [hd]; rfl
  have hlt1 : i + 1 < p.size := by
    apply Nat.lt_of_not_le
    intro h
    rw [bt_of_ge h] at hd
    omega
  have t7 : decide (i + 1 < p.size) = true := by simpa using hlt1
  have hq : decide (i + 2 < p.size) = false ∨ (decide (i + 2 < p.size) = true ∧ (bt p (i + 2) == 91) = false ∧ (bt p (i + 2) != 91) = true) := by
    by_cases a : i + 2 < p.size
    · right
      have : bt p (i + 2) ≠ 91 := fun h => hl ⟨a, h⟩
      exact ⟨by simpa using a, by simpa using this, by simpa using this⟩
    · left; simpa using a
  clear hc hd hl
  rcases hq with q | ⟨q, q2, q3⟩
  all_goals
    go_enter Tryd.func33, Tryd.ntmps33
    go_wp2_with fail
    refine (here_any p b i 0 _ (by omega) (by omega) (by omega) (by go_simp) (by go_simp)).mono ?_
    rintro e w' ⟨rfl, n1, rfl⟩
    go_wp2_with fail
    refine (here_any p b i 1 _ (by omega) (by omega) (by omega) (by go_simp) (by go_simp)).mono ?_
    rintro e w' ⟨rfl, n2, rfl⟩
    go_wp2_with fail
    refine (here_any p b (i + 2) 0 _ (by omega) (by omega) (by omega) (by go_simp) (by go_simp)).mono ?_
    rintro e w' ⟨rfl, n3, rfl⟩
    go_wp2_with fail
    go_end0
    exact ⟨_, _, _, i + 2, rfl, RdBlk.bad_ (w := ((w.drewN _).setCell ⟨b, 1, none⟩ (.int .i64 ((i : Int) + 2))).drewN _) (RdBlk.at_ (w := w.drewN _) hblk (j := i + 2) rfl) true, ((((Keeps.refl _ _ _).drewN _).setCell (Or.inr hB) _).drewN _).setCell (Or.inr hB) _⟩

set_option maxRecDepth 100000 in
set_option maxHeartbeats 2000000 in
theorem item_edge (B : Nat) (p : ByteArray) (b i n : Nat) (xs : List Value) (done : List Bool) (opened : List Nat) (vi vo vd : Value) (w : World) (hp : p.size ≤ 200) (hi : i < p.size) (hn : n ≤ 200) (hdn : done.length ≤ 200) (hop : opened.length ≤ 200)
    (hB : B ≤ b) (hblk : RdBlk w b 92 p i false vi vo vd) (hit : ItemRow B w vi n xs) (hopr : OpenRow B w vo opened) (hdr : DoneRow B w vd done)
    (hc : bt p i = 37) (hd : bt p (i + 1) = 102) (hl : i + 2 < p.size) (hb : bt p (i + 2) = 91) :
    Calls Tryd.prog 33 #[.pointer (some ⟨b, 0, none⟩)] w fun e w' =>
      SetItemPost (setAt p (i + 2)) B p b (fun f => { kind := 6, set := f }) done opened n xs vi vo vd w e w' := by
  have hbl := blk_lt hblk
  obtain ⟨c0, c1, c2, c3, c4, c5, f1, f2, f3, f4, f5⟩ := hblk.cells
  have hd0 : decide (i < p.size) = true := by simp; omega
  have hb0 := bt_nonneg p (i + 1)
  have hb255 := bt_le p (i + 1)
  have t1 : (bt p i == 37) = true := by simpa using hc
  have t2 : (bt p i == 40) = false := by rw [hc]; rfl
  have t3 : (bt p i == 41) = false := by rw [hc]; rfl
  have t4 : (bt p (i + 1) == 98) = false := by rw [hd]; rfl
  have t9 : (bt p (i + 1) == 102) = true := by rw [hd]; rfl
  have t5 : decide (48 ≤ bt p (i + 1)) = true := by rw [hd]; rfl
  have t6 : decide (bt p (i + 1) ≤ 57) = false := by rw [hd]; rfl
  have hlt1 : i + 1 < p.size := by
    apply Nat.lt_of_not_le
    intro h
    rw [bt_of_ge h] at hd
    omega
  have t7 : decide (i + 1 < p.size) = true := by simpa using hlt1
  have q : decide (i + 2 < p.size) = true := by simpa using hl
  have q2 : (bt p (i + 2) == 91) = true := by simpa using hb
  have q3 : (bt p (i + 2) != 91) = false := by simpa using hb
  have hbd : vd.ownBlock ≠ some b := own_ne_blk hdr hblk (by decide)
  have hbo : vo.ownBlock ≠ some b := own_ne_blk hopr hblk (by decide)
  have hbi : vi.ownBlock ≠ some b := own_ne_blk hit hblk (by decide)
  clear hc hd
  go_enter Tryd.func33, Tryd.ntmps33
  go_wp2_with fail
  refine (here_any p b i 0 _ (by omega) (by omega) (by omega) (by go_simp) (by go_simp)).mono ?_
  rintro e w' ⟨rfl, n1, rfl⟩
  go_wp2_with fail
  refine (here_any p b i 1 _ (by omega) (by omega) (by omega) (by go_simp) (by go_simp)).mono ?_
  rintro e w' ⟨rfl, n2, rfl⟩
  go_wp2_with fail
  refine (here_any p b (i + 2) 0 _ (by omega) (by omega) (by omega) (by go_simp) (by go_simp)).mono ?_
  rintro e w' ⟨rfl, n3, rfl⟩
  go_wp2_with fail
  obtain ⟨X, hX⟩ : ∃ X, X = (((w.drewN (n1 + n2)).setCell ⟨b, 1, none⟩ (.int .i64 ((i : Int) + 2))).drewN n3) := ⟨_, rfl⟩
  rw [← hX]
  have hblkX : RdBlk X b 92 p (i + 2) false vi vo vd := by rw [hX]; exact RdBlk.at_ (w := w.drewN _) hblk (j := i + 2) rfl
  have hiX : ItemRow B X vi n xs := by rw [hX]; exact ownsRow_setCell_other (w := w.drewN _) (a := ⟨b, 1, none⟩) hit hbi _
  have hoX : OpenRow B X vo opened := by rw [hX]; exact ownsRow_setCell_other (w := w.drewN _) (a := ⟨b, 1, none⟩) hopr hbo _
  have hdX : DoneRow B X vd done := by rw [hX]; exact ownsRow_setCell_other (w := w.drewN _) (a := ⟨b, 1, none⟩) hdr hbd _
  have hKX : Keeps w.heap.size [b] w X := by rw [hX]; exact ((((Keeps.refl _ _ _).drewN _).setCell (by simp) _).drewN _)
  have hsX : X.heap.size = w.heap.size := by rw [hX]; simp
  have hm3 : n + 1 ≤ maxLen := by unfold maxLen; omega
  have hm4 : (n + 1) * 56 ≤ 140737488355328 := by omega
  have HiX := hid hiX
  have HoX := hid hoX
  have HdX := hid hdX
  have HKX := hid hKX
  have HblkX := hid hblkX
  have HsX := hid hsX
  have hblX := blk_lt hblkX
  obtain ⟨z0, z1, z2, z3, z4, z5, v1, v2, v3, v4, v5⟩ := hblkX.cells
  clear hX hblkX hiX hoX hdX hKX hsX c0 c1 c2 c3 c4 c5 f1 f2 f3 f4 f5
  go_region_law (first | (go_simp; go_at_call 43; refine (set_any p b 92 (i + 2) vi vo vd _ hp hl (by exact HblkX.out)).mono ?_; rintro e w2 ⟨g, f', bad', i', rfl, r1, r2, r3, r4, r5, r6, r7⟩; have R6 := hid r6; have R7 := hid r7; have R4 := hid r4; have R2 := hid r2; have hbl2 := blk_lt r2; have hi2 : ItemRow B w2 vi n xs := own_keeps1 HiX.out (Keeps.undrewP r4) hbi; have Hi2 := hid hi2; have hB2 : B ≤ w2.heap.size := (by omega); obtain ⟨x0, x1, x2, x3, x4, x5, y1, y2, y3, y4, y5⟩ := r2.cells; clear r6 r7 r4 r2 hi2) | (refine step_append_new (us := [.int .i64 6, .slice (some ⟨g, 0, none⟩) 256 256, .int .u8 0, .int .i64 0, .int .u8 0, .int .u8 0]) rfl (.tmp 347) (.tmp 351) 33 rfl 94 rfl (.agg #[.int .i64 0, .slice none 0 0, .int .u8 0, .int .i64 0, .int .u8 0, .int .u8 0]) 6 56 Tryd.underlying33 info_item rfl (by decide) B vi n xs (by first | simp [Act.eval] | simp [Act.eval, Act.put]) Hi2.out (by first | simp [Act.eval] | simp [Act.eval, Act.put]) rfl (by intro u hu; simp at hu; rcases hu with rfl | rfl | rfl | rfl | rfl | rfl <;> rfl) hm3 hm4 hB2 ?_; intro ao3 co3 w3 hi4 hg3 hn3; have hblk4 := RdBlk.grow (w' := w3) R2.out hg3 hbi; obtain ⟨k0, k1, k2, k3, k4, k5, l1, l2, l3, l4, l5⟩ := hblk4.cells))
  all_goals
    go_wp2_with fail
    go_end0
    exact set_item_end (mk := fun f => { kind := 6, set := f }) (fun _ => rfl) (fun _ => rfl) hB (by omega) HblkX.out HiX.out HoX.out HdX.out HKX.out (fun k hk => Or.inl hk) (by exact r1) R2.out r3 (Keeps.undrewP R4.out) R6.out R7.out hi4 hg3
end Go.Proofs.YtpinoolagbghnaaDoor

namespace Go.Proofs.YtpinoolagbghnaaDoor
set_option linter.unusedVariables false
open Go.RowKit Pat

theorem dig_no {p : ByteArray} {i : Nat} (h : ¬ (bt p i = 37 ∧ i + 1 < p.size ∧ 48 ≤ bt p (i + 1) ∧ bt p (i + 1) ≤ 57)) :
    (bt p i == 37) = false ∨ ((bt p i == 37) = true ∧ decide (i + 1 < p.size) = false) ∨ ((bt p i == 37) = true ∧ decide (i + 1 < p.size) = true ∧ decide (48 ≤ bt p (i + 1)) = false) ∨
      ((bt p i == 37) = true ∧ decide (i + 1 < p.size) = true ∧ decide (48 ≤ bt p (i + 1)) = true ∧ decide (bt p (i + 1) ≤ 57) = false) := by
  by_cases a : bt p i = 37 <;> by_cases b : i + 1 < p.size <;> by_cases c : 48 ≤ bt p (i + 1) <;> by_cases d : bt p (i + 1) ≤ 57 <;> simp_all
theorem let_no {p : ByteArray} {i : Nat} {k : Int} (h : ¬ (bt p i = 37 ∧ i + 1 < p.size ∧ bt p (i + 1) = k)) :
    (bt p i == 37) = false ∨ ((bt p i == 37) = true ∧ decide (i + 1 < p.size) = false) ∨ ((bt p i == 37) = true ∧ decide (i + 1 < p.size) = true ∧ (bt p (i + 1) == k) = false) := by
  by_cases a : bt p i = 37 <;> by_cases b : i + 1 < p.size <;> by_cases c : bt p (i + 1) = k <;> simp_all
theorem fin_no {p : ByteArray} {i : Nat} (h : ¬ (bt p i = 36 ∧ ¬ i + 1 < p.size)) :
    (bt p i == 36) = false ∨ ((bt p i == 36) = true ∧ decide (i + 1 < p.size) = true) := by
  by_cases a : bt p i = 36 <;> by_cases b : i + 1 < p.size <;> simp_all
theorem sign_cases (p : ByteArray) (j : Nat) :
    (decide (j < p.size) = false ∧ signAt p j = false) ∨ (decide (j < p.size) = true ∧ (bt p j == 42) = true ∧ signAt p j = true) ∨
    (decide (j < p.size) = true ∧ (bt p j == 42) = false ∧ (bt p j == 43) = true ∧ signAt p j = true) ∨
    (decide (j < p.size) = true ∧ (bt p j == 42) = false ∧ (bt p j == 43) = false ∧ (bt p j == 45) = true ∧ signAt p j = true) ∨
    (decide (j < p.size) = true ∧ (bt p j == 42) = false ∧ (bt p j == 43) = false ∧ (bt p j == 45) = false ∧ (bt p j == 63) = true ∧ signAt p j = true) ∨
    (decide (j < p.size) = true ∧ (bt p j == 42) = false ∧ (bt p j == 43) = false ∧ (bt p j == 45) = false ∧ (bt p j == 63) = false ∧ signAt p j = false) := by
  unfold signAt
  by_cases a : j < p.size <;> by_cases b : bt p j = 42 <;> by_cases c : bt p j = 43 <;> by_cases d : bt p j = 45 <;> by_cases e : bt p j = 63 <;> simp_all

theorem _root_.Go.World.grownBy.undrewS {W w' : World} {row : Option Nat} (h : W.drew.grownBy w' row) : W.grownBy w' row := ⟨h.os, h.tape, h.output, h.size, h.block⟩
/-- What item leaves at a single. -/
def SglItemPost (B : Nat) (p : ByteArray) (b i : Nat) (done : List Bool) (opened : List Nat) (n : Nat) (xs : List Value) (vi vo vd : Value) (w : World) (e : Ending) (w' : World) : Prop :=
  (∀ f j, singleAt p i = some (f, j) → (signAt p j = true → ItemPost B p b { kind := 0, set := f, sign := bt p j } { i := j + 1, done := done, opened := opened } n xs vi vo vd w e w') ∧
    (signAt p j = false → ItemPost B p b { kind := 0, set := f } { i := j, done := done, opened := opened } n xs vi vo vd w e w')) ∧ (singleAt p i = none → ItemBad B p b w e w')
theorem sgl_item_plain {B : Nat} {p : ByteArray} {b i i' : Nat} {done : List Bool} {opened : List Nat} {n : Nat} {xs : List Value} {vi vo vd : Value} {w w' : World} {e : Ending} {bad' : Bool} {f' : Nat → Bool}
    (h : SetItemPost (singleAt p i) B p b (fun f => { kind := 0, set := f }) done opened n xs vi vo vd w e w') (h6 : ∀ f j, singleAt p i = some (f, j) → bad' = false ∧ i' = j ∧ ∀ n, n < 256 → f' n = f n) (hs : signAt p i' = false) :
    SglItemPost B p b i done opened n xs vi vo vd w e w' := by
  refine ⟨fun f j hR => ?_, h.2⟩
  obtain ⟨_, rfl, _⟩ := h6 f j hR
  exact ⟨(fun h1 => by rw [hs] at h1; cases h1), fun _ => h.1 f _ hR⟩
theorem sgl_item_sign {B : Nat} {p : ByteArray} {b i i' : Nat} {done : List Bool} {opened : List Nat} {n : Nat} {xs : List Value} {vi vo vd : Value} {w w' : World} {e : Ending} {bad' : Bool} {f' : Nat → Bool}
    (h : SetItemPost ((singleAt p i).map fun x => (x.1, x.2 + 1)) B p b (fun f => { kind := 0, set := f, sign := bt p i' }) done opened n xs vi vo vd w e w') (h6 : ∀ f j, singleAt p i = some (f, j) → bad' = false ∧ i' = j ∧ ∀ n, n < 256 → f' n = f n) (hs : signAt p i' = true) :
    SglItemPost B p b i done opened n xs vi vo vd w e w' := by
  refine ⟨fun f j hR => ?_, fun hR => h.2 (by rw [hR]; rfl)⟩
  obtain ⟨_, rfl, _⟩ := h6 f j hR
  exact ⟨fun _ => h.1 f _ (by rw [hR]; rfl), (fun h1 => by rw [hs] at h1; cases h1)⟩

set_option maxRecDepth 100000 in
set_option maxHeartbeats 2000000 in
theorem item_single (B : Nat) (p : ByteArray) (b i n : Nat) (xs : List Value) (done : List Bool) (opened : List Nat) (vi vo vd : Value) (w : World) (hp : p.size ≤ 200) (hi : i < p.size) (hn : n ≤ 200) (hdn : done.length ≤ 200) (hop : opened.length ≤ 200)
    (hB : B ≤ b) (hblk : RdBlk w b 92 p i false vi vo vd) (hit : ItemRow B w vi n xs) (hopr : OpenRow B w vo opened) (hdr : DoneRow B w vd done)
    (h1 : bt p i ≠ 40) (h2 : bt p i ≠ 41) (h3 : ¬ (bt p i = 37 ∧ i + 1 < p.size ∧ 48 ≤ bt p (i + 1) ∧ bt p (i + 1) ≤ 57)) (h4 : ¬ (bt p i = 37 ∧ i + 1 < p.size ∧ bt p (i + 1) = 98)) (h5 : ¬ (bt p i = 37 ∧ i + 1 < p.size ∧ bt p (i + 1) = 102)) (h6 : ¬ (bt p i = 36 ∧ ¬ i + 1 < p.size)) :
    Calls Tryd.prog 33 #[.pointer (some ⟨b, 0, none⟩)] w fun e w' =>
      SglItemPost B p b i done opened n xs vi vo vd w e w' := by
  have hbl := blk_lt hblk
  obtain ⟨c0, c1, c2, c3, c4, c5, f1, f2, f3, f4, f5⟩ := hblk.cells
  have hd0 : decide (i < p.size) = true := by simp; omega
  have hb0 := bt_nonneg p (i + 1)
  have hb255 := bt_le p (i + 1)
  have t2 : (bt p i == 40) = false := by simpa using h1
  have t3 : (bt p i == 41) = false := by simpa using h2
  have c3 := hid (dig_no h3)
  have c4' := hid (let_no h4)
  have c5' := hid (let_no h5)
  have c6 := hid (fin_no h6)
  clear h1 h2 h3 h4 h5 h6
  go_enter Tryd.func33, Tryd.ntmps33
  go_wp2_with fail
  refine (here_any p b i 0 _ (by omega) (by omega) (by omega) (by go_simp) (by go_simp)).mono ?_
  rintro e w' ⟨rfl, n1, rfl⟩
  go_wp2_with fail
  refine (here_any p b i 1 _ (by omega) (by omega) (by omega) (by go_simp) (by go_simp)).mono ?_
  rintro e w' ⟨rfl, n2, rfl⟩
  go_upto_region 26 with fail
  go_cut [209] from 210 to 222 (fun v wx => v = .bool false ∧ wx = w.drewN (n1 + n2))
  case first =>
    rcases c3.out with q | ⟨q, q2⟩ | ⟨q, q2, q3⟩ | ⟨q, q2, q3, q4⟩
    all_goals
      go_wp2_with fail
      go_meet
      exact ⟨rfl, rfl⟩
  case rest =>
  obtain ⟨rfl, rfl⟩ := hcut
  go_upto_region 32 with fail
  go_cut [268] from 269 to 278 (fun v wx => v = .bool false ∧ wx = w.drewN (n1 + n2))
  case first =>
    rcases c4'.out with q | ⟨q, q2⟩ | ⟨q, q2, q3⟩
    all_goals
      go_wp2_with fail
      go_meet
      exact ⟨rfl, rfl⟩
  case rest =>
  obtain ⟨rfl, rfl⟩ := hcut
  go_upto_region 39 with fail
  go_cut [312] from 313 to 321 (fun v wx => v = .bool false ∧ wx = w.drewN (n1 + n2))
  case first =>
    rcases c5'.out with q | ⟨q, q2⟩ | ⟨q, q2, q3⟩
    all_goals
      go_wp2_with fail
      go_meet
      exact ⟨rfl, rfl⟩
  case rest =>
  obtain ⟨rfl, rfl⟩ := hcut
  go_upto_region 45 with fail
  go_cut [355] from 356 to 361 (fun v wx => v = .bool false ∧ wx = w.drewN (n1 + n2))
  case first =>
    rcases c6.out with q | ⟨q, q2⟩
    all_goals
      go_wp2_with fail
      go_meet
      exact ⟨rfl, rfl⟩
  case rest =>
  obtain ⟨rfl, rfl⟩ := hcut
  go_wp2_with fail
  have hbd : vd.ownBlock ≠ some b := own_ne_blk hdr hblk (by decide)
  have hbo : vo.ownBlock ≠ some b := own_ne_blk hopr hblk (by decide)
  have hbi : vi.ownBlock ≠ some b := own_ne_blk hit hblk (by decide)
  refine (single_any p b 92 i vi vo vd _ hp hi (by exact hblk)).mono ?_
  rintro e w2 ⟨g, f', bad', i', rfl, r1, r2, r3, r4, r5, r6, r7⟩
  have R2 := hid r2
  have R3 := hid r3
  have R4 := hid r4
  have R6 := hid r6
  have R7 := hid r7
  have hbl2 := blk_lt r2
  obtain ⟨x0, x1, x2, x3, x4, x5, y1, y2, y3, y4, y5⟩ := r2.cells
  clear r2 r3 r4 r6 r7 c0 c1 c2 c3 c4 c5 f1 f2 f3 f4 f5 c4' c5' c6
  go_wp2_with fail
  refine (here_any p b i' 0 _ (by omega) (by omega) (by omega) (by go_simp) (by go_simp)).mono ?_
  rintro e w' ⟨rfl, n3, rfl⟩
  have hq0 := bt_nonneg p i'
  have hq255 := bt_le p i'
  have SC := hid (sign_cases p i')
  go_upto_region 4 with fail
  go_cut [52, 17] from 31 to 51 (fun v u17 wx => v = .bool (signAt p i') ∧ wx = (w2.alloc (.cells #[.int .i64 0, .slice (some ⟨g, 0, none⟩) 256 256, .int .u8 0, .int .i64 0, .int .u8 0, .int .u8 0] 94)).drewN n3)
  case first =>
    rcases SC.out with ⟨q, s⟩ | ⟨q, q1, s⟩ | ⟨q, q1, q2, s⟩ | ⟨q, q1, q2, q3, s⟩ | ⟨q, q1, q2, q3, q4, s⟩ | ⟨q, q1, q2, q3, q4, s⟩
    all_goals
      go_wp2_with fail
      go_meet
      exact ⟨by rw [s], rfl⟩
  case rest =>
  obtain ⟨rfl, rfl⟩ := hcut
  cases hsg : signAt p i'
  · go_wp2_with fail
    have hi2 : ItemRow B w2 vi n xs := own_keeps1 (W := w.drewN _) hit R4.out hbi
    obtain ⟨X3, hX3⟩ : ∃ X3, X3 = (w2.alloc (.cells #[.int .i64 0, .slice (some ⟨g, 0, none⟩) 256 256, .int .u8 0, .int .i64 0, .int .u8 0, .int .u8 0] 94)).drewN n3 := ⟨_, rfl⟩
    rw [← hX3]
    have hne : ¬ w2.heap.size = b := by omega
    have hbW : b ≠ w2.heap.size := by omega
    have hgl : g < w2.heap.size := R3.out.lt
    have hblkY : RdBlk X3 b 92 p i' bad' vi vo vd := by rw [hX3]; exact RdBlk.alloc R2.out _
    have hitY : X3.heap[w2.heap.size]? = some (.cells #[.int .i64 0, .slice (some ⟨g, 0, none⟩) 256 256, .int .u8 0, .int .i64 0, .int .u8 0, .int .u8 0] 94 (0, 0)) := by rw [hX3]; exact blk_new w2 _
    have hiY : ItemRow B X3 vi n xs := by rw [hX3]; exact World.ownsRow.alloc hi2 _
    have hrY : BoolRow X3 g 4 256 f' := by rw [hX3]; exact World.rowIs.alloc R3.out _
    have hK0 : Keeps w.heap.size [b] w w2 := ((Keeps.refl _ _ w).drewN _).andThen R4.out (by simp) (by simp)
    have hKY : Keeps w.heap.size [b] w X3 := by rw [hX3]; exact (hK0.alloc hK0.size _).drewN _
    have hone6 : ∀ u ∈ ([.int .i64 0, .slice (some ⟨g, 0, none⟩) 256 256, .int .u8 0, .int .i64 0, .int .u8 0, .int .u8 0] : List Value), u.oneCell' = true := by intro u hu; simp at hu; rcases hu with rfl | rfl | rfl | rfl | rfl | rfl <;> rfl
    have hBY : B ≤ X3.heap.size := by have := hKY.size; omega
    have hm3 : n + 1 ≤ maxLen := by unfold maxLen; omega
    have hm4 : (n + 1) * 56 ≤ 140737488355328 := by omega
    have HiY := hid hiY
    have HrY := hid hrY
    have HKY := hid hKY
    have Hone6 := hid hone6
    have HblkY := hid hblkY
    have hblY := blk_lt hblkY
    have Hsg := hid hsg
    obtain ⟨z0, z1, z2, z3, z4, z5, v1, v2, v3, v4, v5⟩ := hblkY.cells
    obtain ⟨s0, s1, s2, s3, s4, s5⟩ : X3.cell? ⟨w2.heap.size, 0, none⟩ = some (.int .i64 0) ∧ X3.cell? ⟨w2.heap.size, 1, none⟩ = some (.slice (some ⟨g, 0, none⟩) 256 256) ∧ X3.cell? ⟨w2.heap.size, 2, none⟩ = some (.int .u8 0) ∧ X3.cell? ⟨w2.heap.size, 3, none⟩ = some (.int .i64 0) ∧ X3.cell? ⟨w2.heap.size, 4, none⟩ = some (.int .u8 0) ∧ X3.cell? ⟨w2.heap.size, 5, none⟩ = some (.int .u8 0) :=
      ⟨blk_cell hitY 0, blk_cell hitY 1, blk_cell hitY 2, blk_cell hitY 3, blk_cell hitY 4, blk_cell hitY 5⟩
    clear hX3 hblkY hitY hiY hrY hKY hK0 hone6 hi2 hsg x0 x1 x2 x3 x4 x5 y1 y2 y3 y4 y5
    go_region_law (first | (refine step_append_new (W := X3.drew) (us := [.int .i64 0, .slice (some ⟨g, 0, none⟩) 256 256, .int .u8 0, .int .i64 0, .int .u8 0, .int .u8 0]) rfl (.tmp 66) (.tmp 68) 33 rfl 94 rfl (.agg #[.int .i64 0, .slice none 0 0, .int .u8 0, .int .i64 0, .int .u8 0, .int .u8 0]) 6 56 Tryd.underlying33 info_item rfl (by decide) B vi n xs (by first | simp [Act.eval] | simp [Act.eval, Act.put]) HiY.out (by first | simp [Act.eval] | simp [Act.eval, Act.put]) rfl Hone6.out hm3 hm4 hBY ?_; intro ao3 co3 w3 hi4 hg3 hn3; have hblk4 := RdBlk.grow (w' := w3) HblkY.out hg3.undrewS hbi; obtain ⟨k0, k1, k2, k3, k4, k5, l1, l2, l3, l4, l5⟩ := hblk4.cells))
    all_goals
      go_wp2_with fail
      go_end0
      have HP := set_item_end (R := (singleAt p i)) (mk := fun f => { kind := 0, set := f }) (fun _ => rfl) (fun _ => rfl) hB (by omega) hblk hit hopr hdr (Keeps.refl _ _ _) (fun k hk => Or.inl hk) (by exact r1) HblkY.out HrY.out HKY.out R6.out R7.out hi4 hg3.undrewS
      exact sgl_item_plain HP R6.out Hsg.out
  · go_wp2_with fail
    have hi2 : ItemRow B w2 vi n xs := own_keeps1 (W := w.drewN _) hit R4.out hbi
    obtain ⟨X3, hX3⟩ : ∃ X3, X3 = (((w2.alloc (.cells #[.int .i64 0, .slice (some ⟨g, 0, none⟩) 256 256, .int .u8 0, .int .i64 0, .int .u8 0, .int .u8 0] 94)).drewN n3).setCell ⟨w2.heap.size, 2, none⟩ (.int .u8 (bt p i'))).setCell ⟨b, 1, none⟩ (.int .i64 ((i' : Int) + 1)) := ⟨_, rfl⟩
    rw [← hX3]
    have hne : ¬ w2.heap.size = b := by omega
    have hbW : b ≠ w2.heap.size := by omega
    have hgl : g < w2.heap.size := R3.out.lt
    have hblkY : RdBlk X3 b 92 p (i' + 1) bad' vi vo vd := by rw [hX3]; exact RdBlk.at_ (RdBlk.other (w := (w2.alloc _).drewN _) (RdBlk.alloc R2.out _) (a := ⟨w2.heap.size, 2, none⟩) hbW _) rfl
    have hitY : X3.heap[w2.heap.size]? = some (.cells #[.int .i64 0, .slice (some ⟨g, 0, none⟩) 256 256, .int .u8 (bt p i'), .int .i64 0, .int .u8 0, .int .u8 0] 94 (0, 0)) := by rw [hX3]; exact blk_set_other (blk_set (w := (w2.alloc _).drewN _) (blk_new w2 _) 2 _) hne _
    have hiY : ItemRow B X3 vi n xs := by rw [hX3]; exact ownsRow_setCell_other (a := ⟨b, 1, none⟩) (ownsRow_setCell_other (w := (w2.alloc _).drewN _) (a := ⟨w2.heap.size, 2, none⟩) (World.ownsRow.alloc hi2 _) (fun h => absurd (hi2.lt _ h).2 (Nat.lt_irrefl _)) _) hbi _
    have hrY : BoolRow X3 g 4 256 f' := by rw [hX3]; exact World.rowIs.setOther (World.rowIs.setOther (w := (w2.alloc _).drewN _) (World.rowIs.alloc R3.out _) (a := ⟨w2.heap.size, 2, none⟩) (by simp; omega) _) (a := ⟨b, 1, none⟩) (by simp only; intro h; have h2 : w2.heap[b]? = _ := R2.out; obtain ⟨c, hc, _⟩ := R3.out; rw [h] at hc; rw [h2] at hc; simp at hc) _
    have hK0 : Keeps w.heap.size [b] w w2 := ((Keeps.refl _ _ w).drewN _).andThen R4.out (by simp) (by simp)
    have hKY : Keeps w.heap.size [b] w X3 := by rw [hX3]; exact (((hK0.alloc hK0.size _).drewN _).setCell (Or.inr hK0.size) _).setCell (by simp) _
    have hone6 : ∀ u ∈ ([.int .i64 0, .slice (some ⟨g, 0, none⟩) 256 256, .int .u8 (bt p i'), .int .i64 0, .int .u8 0, .int .u8 0] : List Value), u.oneCell' = true := by intro u hu; simp at hu; rcases hu with rfl | rfl | rfl | rfl | rfl | rfl <;> rfl
    have hBY : B ≤ X3.heap.size := by have := hKY.size; omega
    have hm3 : n + 1 ≤ maxLen := by unfold maxLen; omega
    have hm4 : (n + 1) * 56 ≤ 140737488355328 := by omega
    have HiY := hid hiY
    have HrY := hid hrY
    have HKY := hid hKY
    have Hone6 := hid hone6
    have HblkY := hid hblkY
    have hblY := blk_lt hblkY
    have Hsg := hid hsg
    obtain ⟨z0, z1, z2, z3, z4, z5, v1, v2, v3, v4, v5⟩ := hblkY.cells
    obtain ⟨s0, s1, s2, s3, s4, s5⟩ : X3.cell? ⟨w2.heap.size, 0, none⟩ = some (.int .i64 0) ∧ X3.cell? ⟨w2.heap.size, 1, none⟩ = some (.slice (some ⟨g, 0, none⟩) 256 256) ∧ X3.cell? ⟨w2.heap.size, 2, none⟩ = some (.int .u8 (bt p i')) ∧ X3.cell? ⟨w2.heap.size, 3, none⟩ = some (.int .i64 0) ∧ X3.cell? ⟨w2.heap.size, 4, none⟩ = some (.int .u8 0) ∧ X3.cell? ⟨w2.heap.size, 5, none⟩ = some (.int .u8 0) :=
      ⟨blk_cell hitY 0, blk_cell hitY 1, blk_cell hitY 2, blk_cell hitY 3, blk_cell hitY 4, blk_cell hitY 5⟩
    clear hX3 hblkY hitY hiY hrY hKY hK0 hone6 hi2 hsg x0 x1 x2 x3 x4 x5 y1 y2 y3 y4 y5
    go_region_law (first | (refine step_append_new (W := X3.drew) (us := [.int .i64 0, .slice (some ⟨g, 0, none⟩) 256 256, .int .u8 (bt p i'), .int .i64 0, .int .u8 0, .int .u8 0]) rfl (.tmp 66) (.tmp 68) 33 rfl 94 rfl (.agg #[.int .i64 0, .slice none 0 0, .int .u8 0, .int .i64 0, .int .u8 0, .int .u8 0]) 6 56 Tryd.underlying33 info_item rfl (by decide) B vi n xs (by first | simp [Act.eval] | simp [Act.eval, Act.put]) HiY.out (by first | simp [Act.eval] | simp [Act.eval, Act.put]) rfl Hone6.out hm3 hm4 hBY ?_; intro ao3 co3 w3 hi4 hg3 hn3; have hblk4 := RdBlk.grow (w' := w3) HblkY.out hg3.undrewS hbi; obtain ⟨k0, k1, k2, k3, k4, k5, l1, l2, l3, l4, l5⟩ := hblk4.cells))
    all_goals
      go_wp2_with fail
      go_end0
      have HP := set_item_end (R := ((singleAt p i).map fun x => (x.1, x.2 + 1))) (mk := fun f => { kind := 0, set := f, sign := bt p i' }) (fun _ => rfl) (fun _ => rfl) hB (by omega) hblk hit hopr hdr (Keeps.refl _ _ _) (fun k hk => Or.inl hk) (by exact r1) HblkY.out HrY.out HKY.out (fun f j h => by obtain ⟨⟨f0, j0⟩, h1, h2⟩ := Option.map_eq_some_iff.1 h; simp only [Prod.mk.injEq] at h2; obtain ⟨rfl, rfl⟩ := h2; obtain ⟨a1, a2, a3⟩ := R6.out _ _ h1; exact ⟨a1, by rw [a2], a3⟩) (fun h => R7.out (by simpa using h)) hi4 hg3.undrewS
      exact sgl_item_sign HP R6.out Hsg.out
end Go.Proofs.YtpinoolagbghnaaDoor
