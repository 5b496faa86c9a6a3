/-
  Plain law on worlds: the last step of item: the items' row has got the new item and is stored.
  Walks: the reader of the reference: item at what closes a capture, a capture again, a pair, the end.
-/
import Derived.Test.YtpinoolagbghnaaDoorZRdst
import Derived.BigRegion
import Derived.RegionTactic
import Derived.Deep.RegionLaw
import Derived.Deep.CutRange
import Derived.Deep.DeepMust
namespace Go.Proofs.YtpinoolagbghnaaDoor
set_option linter.unusedVariables false
open Go.RowKit Pat

/-- As append_new, the new block's number spelt as the frame spells it. -/
theorem append_newS {P : Program} {ops : Array Oper} {rest : List Oper} {o : Oper} {a : Act} {Q : Exit → Act → World → Prop} {W w : World} {us : List Value} (hgd : o.guard = none) (s x : Operand) (t : TypeId)
    (ho : o.op = .call { callee := .builtin .append, args := #[s, x], argTypes := #[t, t] })
    (e : TypeId) (hw : w = W.alloc (.cells us.toArray e)) (z : Value) (size bytes : Nat) (ht : P.underlying t = some (.slice e)) (hinfo : (P.info? e).map (fun i => (i.zero, i.size, i.bytes)) = some (some z, size, bytes))
    (hzs : z.cells.size = size) (hsz : 0 < size) (B : Nat) (v : Value) (n : Nat) (xs : List Value) (hs : a.eval s = v) (hown : W.ownsRow B e size v n xs)
    (k : Nat) (hx : a.eval x = .slice (some ⟨k, 0, none⟩) 1 1) (hk : k = W.heap.size) (hl : us.length = size) (h1 : ∀ u ∈ us, u.oneCell' = true)
    (h63 : n + 1 ≤ maxLen) (hbytes : (n + 1) * bytes ≤ 140737488355328) (hB : B ≤ W.heap.size)
    (h : ∀ ao cap w', w'.ownsRow B e size (.slice ao (n + 1) cap) (n + 1) (xs ++ us) → W.grownBy w' v.ownBlock → Near W v (.slice ao (n + 1) cap) → wpList P ops Q rest (a.put o.dst (.slice ao (n + 1) cap)) w') :
    wpList P ops Q (o :: rest) a w := by
  subst hk
  exact append_new hgd s x t ho e hw z size bytes ht hinfo hzs hsz B v n xs hs hown hx hl h1 h63 hbytes hB h

/-- As step_append_new, the new block's number spelt as the frame spells it. -/
theorem step_append_newS {P : Program} {ops : Array Oper} {o : Oper} {a : Act} {K : Act → World → Prop} {Q : Exit → Act → World → Prop} {E : Prop} {W w : World} {us : List Value} (hgd : o.guard = none) (s x : Operand) (t : TypeId)
    (ho : o.op = .call { callee := .builtin .append, args := #[s, x], argTypes := #[t, t] })
    (e : TypeId) (hw : w = W.alloc (.cells us.toArray e)) (z : Value) (size bytes : Nat) (ht : P.underlying t = some (.slice e)) (hinfo : (P.info? e).map (fun i => (i.zero, i.size, i.bytes)) = some (some z, size, bytes))
    (hzs : z.cells.size = size) (hsz : 0 < size) (B : Nat) (v : Value) (n : Nat) (xs : List Value) (hs : a.eval s = v) (hown : W.ownsRow B e size v n xs)
    (k : Nat) (hx : a.eval x = .slice (some ⟨k, 0, none⟩) 1 1) (hk : k = W.heap.size) (hl : us.length = size) (h1 : ∀ u ∈ us, u.oneCell' = true)
    (h63 : n + 1 ≤ maxLen) (hbytes : (n + 1) * bytes ≤ 140737488355328) (hB : B ≤ W.heap.size)
    (h : ∀ ao cap w', w'.ownsRow B e size (.slice ao (n + 1) cap) (n + 1) (xs ++ us) → W.grownBy w' v.ownBlock → Near W v (.slice ao (n + 1) cap) → K (a.put o.dst (.slice ao (n + 1) cap)) w') :
    if Region.wanted o (yielded ops a.tmps) = true then Oper.wp P o a w K Q else E := by
  subst hk
  exact step_append_new hgd s x t ho e hw z size bytes ht hinfo hzs hsz B v n xs hs hown hx hl h1 h63 hbytes hB h

/-- The last step of an item: the items' row has got it, and is stored. -/
theorem item_end {B n g : Nat} {p : ByteArray} {b : Nat} {it : It} {r : Rd} {xs : List Value} {vi vo vd vo' vd' : Value} {w X W : World} {ao : Option Addr} {co : Nat} (hblk : RdBlk X b 92 p r.i false vi vo' vd') (hi : ItemRow B X vi n xs) (ho : OpenRow B X vo' r.opened) (hd : DoneRow B X vd' r.done)
    (hK : Keeps w.heap.size (b :: (obl vi ++ obl vo ++ obl vd)) w X) (hn : Near w vd vd') (hs : it.kind = 0 ∨ it.kind = 6 → w.heap.size ≤ g ∧ BoolRow X g 4 256 it.set ∧ vd'.ownBlock ≠ some g)
    (h4 : W.ownsRow B 94 6 (.slice ao (n + 1) co) (n + 1) (xs ++ itemCells it g)) (hg : X.grownBy W vi.ownBlock) :
    ItemPost B p b it r n xs vi vo vd w (.returned (.tuple #[])) (W.setCell ⟨b, 3, none⟩ (.slice ao (n + 1) co)) := by
  have hbi : vi.ownBlock ≠ some b := own_ne_blk hi hblk (by decide)
  have hblk4 := RdBlk.grow hblk hg hbi
  have ho4 := World.ownsRow.kept ho hg (own_ne_own ho hi (by decide))
  have hd4 := World.ownsRow.kept hd hg (own_ne_own hd hi (by decide))
  refine ⟨_, _, _, g, rfl, hblk4.items_ _, ownsRow_setCell_other (a := ⟨b, 3, none⟩) h4 (own_ne_blk h4 hblk4 (by decide)) _, ownsRow_setCell_other (a := ⟨b, 3, none⟩) ho4 (own_ne_blk ho4 hblk4 (by decide)) _,
    ownsRow_setCell_other (a := ⟨b, 3, none⟩) hd4 (own_ne_blk hd4 hblk4 (by decide)) _, (hK.grow hg hK.size (fun k hk => Or.inl (by simp [mem_obl, hk]))).setCell (by simp) _, hn, fun h => ?_⟩
  obtain ⟨q1, q2, q3⟩ := hs h
  refine ⟨q1, ?_, q3⟩
  obtain ⟨c, hc, _⟩ := id q2
  have hgi : vi.ownBlock ≠ some g := own_ne_blk hi hc (by decide)
  have q4 : BoolRow W g 4 256 it.set := World.rowIs.of_block q2 (hg.block g (blk_lt hc) (Ne.symm hgi))
  exact q4.setOther (by
    intro e
    simp only at e
    subst e
    have h1 : X.heap[g]? = _ := hc
    have h2 : X.heap[g]? = _ := hblk
    rw [h1] at h2
    simp at h2) _


end Go.Proofs.YtpinoolagbghnaaDoor

namespace Go.Proofs.YtpinoolagbghnaaDoor
set_option linter.unusedVariables false
open Go.RowKit Pat

set_option maxRecDepth 100000 in
set_option maxHeartbeats 2000000 in
theorem item_fin (B : Nat) (p : ByteArray) (b i n : Nat) (xs : List Value) (done : List Bool) (opened : List Nat) (vi vo vd : Value) (w : World) (hp : p.size ≤ 200) (hi : i < p.size) (hn : n ≤ 200) (hdn : done.length ≤ 200) (hop : opened.length ≤ 200)
    (hB : B ≤ b) (hblk : RdBlk w b 92 p i false vi vo vd) (hit : ItemRow B w vi n xs) (hopr : OpenRow B w vo opened) (hdr : DoneRow B w vd done)
    (hc : bt p i = 36) (hl : p.size ≤ i + 1) :
    Calls Tryd.prog 33 #[.pointer (some ⟨b, 0, none⟩)] w fun e w' =>
      ItemPost B p b { kind := 7 } { i := i + 1, done := done, opened := opened } n xs vi vo vd w e w' := by
  have hbl := blk_lt hblk
  obtain ⟨c0, c1, c2, c3, c4, c5, f1, f2, f3, f4, f5⟩ := hblk.cells
  have hd0 : decide (i < p.size) = true := by simp; omega
  have hb0 := bt_nonneg p (i + 1)
  have hb255 := bt_le p (i + 1)
  have t0 : decide (i + 1 < p.size) = false := by simp; omega
  have t1 : (bt p i == 36) = true := by simpa using hc
  have t2 : (bt p i == 40) = false := by rw [hc]; rfl
  have t3 : (bt p i == 41) = false := by rw [hc]; rfl
  have t4 : (bt p i == 37) = false := by rw [hc]; rfl
  have HO6 : Hid (∀ u ∈ itemCells { kind := 7 } 0, u.oneCell' = true) := by intro u hu; simp [itemCells] at hu; rcases hu with rfl | rfl | rfl | rfl | rfl | rfl <;> rfl
  clear hc hl
  go_enter Tryd.func33, Tryd.ntmps33
  go_wp2_with fail
  refine (here_any p b i 0 _ (by omega) (by omega) (by omega) (by go_simp) (by go_simp)).mono ?_
  rintro e w' ⟨rfl, n1, rfl⟩
  go_wp2_with fail
  refine (here_any p b i 1 _ (by omega) (by omega) (by omega) (by go_simp) (by go_simp)).mono ?_
  rintro e w' ⟨rfl, n2, rfl⟩
  have hblkX : RdBlk ((w.drewN (n1 + n2)).setCell ⟨b, 1, none⟩ (.int .i64 ((i : Int) + 1))) b 92 p (i + 1) false vi vo vd := RdBlk.at_ (w := w.drewN _) hblk rfl
  have hbi : vi.ownBlock ≠ some b := own_ne_blk hit hblk (by decide)
  have hbo : vo.ownBlock ≠ some b := own_ne_blk hopr hblk (by decide)
  have hbd : vd.ownBlock ≠ some b := own_ne_blk hdr hblk (by decide)
  have HI : Hid (ItemRow B ((w.drewN (n1 + n2)).setCell ⟨b, 1, none⟩ (.int .i64 ((i : Int) + 1))) vi n xs) := ownsRow_setCell_other (w := w.drewN _) (a := ⟨b, 1, none⟩) hit hbi _
  have HO : Hid (OpenRow B ((w.drewN (n1 + n2)).setCell ⟨b, 1, none⟩ (.int .i64 ((i : Int) + 1))) vo opened) := ownsRow_setCell_other (w := w.drewN _) (a := ⟨b, 1, none⟩) hopr hbo _
  have HD : Hid (DoneRow B ((w.drewN (n1 + n2)).setCell ⟨b, 1, none⟩ (.int .i64 ((i : Int) + 1))) vd done) := ownsRow_setCell_other (w := w.drewN _) (a := ⟨b, 1, none⟩) hdr hbd _
  have HBX : Hid (B ≤ ((w.drewN (n1 + n2)).setCell ⟨b, 1, none⟩ (.int .i64 ((i : Int) + 1))).heap.size) := by show B ≤ _; simp; omega
  have HK : Hid (Keeps w.heap.size (b :: (obl vi ++ obl vo ++ obl vd)) w ((w.drewN (n1 + n2)).setCell ⟨b, 1, none⟩ (.int .i64 ((i : Int) + 1)))) := (by repeat (first | exact Keeps.refl _ _ _ | (refine Keeps.setCell ?_ (by simp) _) | (refine Keeps.drewN ?_ _) | (refine Keeps.drew ?_)))
  have HblkX := hid hblkX
  clear hblkX
  go_wp2_with (at_builtin; go_must (refine append_newS (us := itemCells { kind := 7 } 0) rfl _ _ 33 rfl 94 rfl (.agg #[.int .i64 0, .slice none 0 0, .int .u8 0, .int .i64 0, .int .u8 0, .int .u8 0]) 6 56 Tryd.underlying33 info_item rfl (by decide) B vi n xs rfl HI.out _ rfl (by simp) rfl HO6.out (by unfold maxLen; omega) (by omega) HBX.out ?_))
  intro ao co w3 h4 hg hn3
  have hblk3 := RdBlk.grow HblkX.out hg hbi
  have hbl3 := blk_lt hblk3
  obtain ⟨k0, k1, k2, k3, k4, k5, l1, l2, l3, l4, l5⟩ := hblk3.cells
  go_wp2_with fail
  go_end0
  exact item_end (g := 0) HblkX.out HI.out HO.out HD.out HK.out (fun k hk => Or.inl hk) (fun h => by simp at h) h4 hg

set_option maxRecDepth 100000 in
set_option maxHeartbeats 2000000 in
theorem item_shut_bad (B : Nat) (p : ByteArray) (b i n : Nat) (xs : List Value) (done : List Bool) (opened : List Nat) (vi vo vd : Value) (w : World) (hp : p.size ≤ 200) (hi : i < p.size) (hn : n ≤ 200) (hdn : done.length ≤ 200) (hop : opened.length ≤ 200)
    (hB : B ≤ b) (hblk : RdBlk w b 92 p i false vi vo vd) (hit : ItemRow B w vi n xs) (hopr : OpenRow B w vo opened) (hdr : DoneRow B w vd done)
    (hc : bt p i = 41) (ho : opened = []) :
    Calls Tryd.prog 33 #[.pointer (some ⟨b, 0, none⟩)] w fun e w' =>
      ItemBad B p b w e w' := by
  have hbl := blk_lt hblk
  obtain ⟨c0, c1, c2, c3, c4, c5, f1, f2, f3, f4, f5⟩ := hblk.cells
  have hd0 : decide (i < p.size) = true := by simp; omega
  have hb0 := bt_nonneg p (i + 1)
  have hb255 := bt_le p (i + 1)
  have t1 : (bt p i == 41) = true := by simpa using hc
  have t2 : (bt p i == 40) = false := by rw [hc]; rfl
  have hv : ∃ a0 c0, vo = .slice a0 0 c0 := by obtain ⟨a, c, h⟩ := own_form hopr; exact ⟨a, c, by rw [h, ho]; rfl⟩
  obtain ⟨oa, oc, rfl⟩ := hv
  clear hc ho
  go_enter Tryd.func33, Tryd.ntmps33
  go_wp2_with fail
  refine (here_any p b i 0 _ (by omega) (by omega) (by omega) (by go_simp) (by go_simp)).mono ?_
  rintro e w' ⟨rfl, n1, rfl⟩
  go_wp2_with fail
  refine (here_any p b i 1 _ (by omega) (by omega) (by omega) (by go_simp) (by go_simp)).mono ?_
  rintro e w' ⟨rfl, n2, rfl⟩
  go_wp2_with fail
  go_end0
  exact ⟨_, _, _, i, rfl, RdBlk.bad_ (w := w.drewN _) hblk true, ((Keeps.refl _ _ _).drewN _).setCell (Or.inr hB) _⟩

set_option maxRecDepth 100000 in
set_option maxHeartbeats 2000000 in
theorem item_pair_bad (B : Nat) (p : ByteArray) (b i n : Nat) (xs : List Value) (done : List Bool) (opened : List Nat) (vi vo vd : Value) (w : World) (hp : p.size ≤ 200) (hi : i < p.size) (hn : n ≤ 200) (hdn : done.length ≤ 200) (hop : opened.length ≤ 200)
    (hB : B ≤ b) (hblk : RdBlk w b 92 p i false vi vo vd) (hit : ItemRow B w vi n xs) (hopr : OpenRow B w vo opened) (hdr : DoneRow B w vd done)
    (hc : bt p i = 37) (hd : bt p (i + 1) = 98) (hl : ¬ i + 3 < p.size) :
    Calls Tryd.prog 33 #[.pointer (some ⟨b, 0, none⟩)] w fun e w' =>
      ItemBad B p b w e w' := by
  have hbl := blk_lt hblk
  obtain ⟨c0, c1, c2, c3, c4, c5, f1, f2, f3, f4, f5⟩ := hblk.cells
  have hd0 : decide (i < p.size) = true := by simp; omega
  have hb0 := bt_nonneg p (i + 1)
  have hb255 := bt_le p (i + 1)
  have t1 : (bt p i == 37) = true := by simpa using hc
  have t2 : (bt p i == 40) = false := by rw [hc]; rfl
  have t3 : (bt p i == 41) = false := by rw [hc]; rfl
  have t4 : (bt p (i + 1) == 98) = true := by simpa using hd
  have t5 : decide (48 ≤ bt p (i + 1)) = true := by rw [hd]; rfl
  have t6 : decide (bt p (i + 1) ≤ 57) = false := by rw [hd]; rfl
  have hlt1 : i + 1 < p.size := by
    apply Nat.lt_of_not_le
    intro h
    rw [bt_of_ge h] at hd
    omega
  have t7 : decide (i + 1 < p.size) = true := by simpa using hlt1
  have t8 : decide (i + 3 < p.size) = false := by simpa using hl
  clear hc hd hl
  go_enter Tryd.func33, Tryd.ntmps33
  go_wp2_with fail
  refine (here_any p b i 0 _ (by omega) (by omega) (by omega) (by go_simp) (by go_simp)).mono ?_
  rintro e w' ⟨rfl, n1, rfl⟩
  go_wp2_with fail
  refine (here_any p b i 1 _ (by omega) (by omega) (by omega) (by go_simp) (by go_simp)).mono ?_
  rintro e w' ⟨rfl, n2, rfl⟩
  go_wp2_with fail
  refine (here_any p b i 2 _ (by omega) (by omega) (by omega) (by go_simp) (by go_simp)).mono ?_
  rintro e w' ⟨rfl, n3, rfl⟩
  go_wp2_with fail
  refine (here_any p b i 3 _ (by omega) (by omega) (by omega) (by go_simp) (by go_simp)).mono ?_
  rintro e w' ⟨rfl, n4, rfl⟩
  go_wp2_with fail
  go_end0
  exact ⟨_, _, _, i, rfl, RdBlk.bad_ (w := w.drewN _) hblk true, ((Keeps.refl _ _ _).drewN _).setCell (Or.inr hB) _⟩

set_option maxRecDepth 100000 in
set_option maxHeartbeats 2000000 in
theorem item_pair (B : Nat) (p : ByteArray) (b i n : Nat) (xs : List Value) (done : List Bool) (opened : List Nat) (vi vo vd : Value) (w : World) (hp : p.size ≤ 200) (hi : i < p.size) (hn : n ≤ 200) (hdn : done.length ≤ 200) (hop : opened.length ≤ 200)
    (hB : B ≤ b) (hblk : RdBlk w b 92 p i false vi vo vd) (hit : ItemRow B w vi n xs) (hopr : OpenRow B w vo opened) (hdr : DoneRow B w vd done)
    (hc : bt p i = 37) (hd : bt p (i + 1) = 98) (hl : i + 3 < p.size) :
    Calls Tryd.prog 33 #[.pointer (some ⟨b, 0, none⟩)] w fun e w' =>
      ItemPost B p b { kind := 5, x := bt p (i + 2), y := bt p (i + 3) } { i := i + 4, done := done, opened := opened } n xs vi vo vd w e w' := by
  have hbl := blk_lt hblk
  obtain ⟨c0, c1, c2, c3, c4, c5, f1, f2, f3, f4, f5⟩ := hblk.cells
  have hd0 : decide (i < p.size) = true := by simp; omega
  have hb0 := bt_nonneg p (i + 1)
  have hb255 := bt_le p (i + 1)
  have t1 : (bt p i == 37) = true := by simpa using hc
  have t2 : (bt p i == 40) = false := by rw [hc]; rfl
  have t3 : (bt p i == 41) = false := by rw [hc]; rfl
  have t4 : (bt p (i + 1) == 98) = true := by simpa using hd
  have t5 : decide (48 ≤ bt p (i + 1)) = true := by rw [hd]; rfl
  have t6 : decide (bt p (i + 1) ≤ 57) = false := by rw [hd]; rfl
  have hlt1 : i + 1 < p.size := by
    apply Nat.lt_of_not_le
    intro h
    rw [bt_of_ge h] at hd
    omega
  have t7 : decide (i + 1 < p.size) = true := by simpa using hlt1
  have t8 : decide (i + 3 < p.size) = true := by simpa using hl
  have HO6 : Hid (∀ u ∈ itemCells { kind := 5, x := bt p (i + 2), y := bt p (i + 3) } 0, u.oneCell' = true) := by intro u hu; simp [itemCells] at hu; rcases hu with rfl | rfl | rfl | rfl | rfl | rfl <;> rfl
  clear hc hd hl
  go_enter Tryd.func33, Tryd.ntmps33
  go_wp2_with fail
  refine (here_any p b i 0 _ (by omega) (by omega) (by omega) (by go_simp) (by go_simp)).mono ?_
  rintro e w' ⟨rfl, n1, rfl⟩
  go_wp2_with fail
  refine (here_any p b i 1 _ (by omega) (by omega) (by omega) (by go_simp) (by go_simp)).mono ?_
  rintro e w' ⟨rfl, n2, rfl⟩
  go_wp2_with fail
  refine (here_any p b i 2 _ (by omega) (by omega) (by omega) (by go_simp) (by go_simp)).mono ?_
  rintro e w' ⟨rfl, n3, rfl⟩
  go_wp2_with fail
  refine (here_any p b i 3 _ (by omega) (by omega) (by omega) (by go_simp) (by go_simp)).mono ?_
  rintro e w' ⟨rfl, n4, rfl⟩
  have hblkX : RdBlk ((w.drewN (n1 + n2 + n3 + n4)).setCell ⟨b, 1, none⟩ (.int .i64 ((i : Int) + 4))) b 92 p (i + 4) false vi vo vd := RdBlk.at_ (w := w.drewN _) hblk rfl
  have hbi : vi.ownBlock ≠ some b := own_ne_blk hit hblk (by decide)
  have hbo : vo.ownBlock ≠ some b := own_ne_blk hopr hblk (by decide)
  have hbd : vd.ownBlock ≠ some b := own_ne_blk hdr hblk (by decide)
  have HI : Hid (ItemRow B ((w.drewN (n1 + n2 + n3 + n4)).setCell ⟨b, 1, none⟩ (.int .i64 ((i : Int) + 4))) vi n xs) := ownsRow_setCell_other (w := w.drewN _) (a := ⟨b, 1, none⟩) hit hbi _
  have HO : Hid (OpenRow B ((w.drewN (n1 + n2 + n3 + n4)).setCell ⟨b, 1, none⟩ (.int .i64 ((i : Int) + 4))) vo opened) := ownsRow_setCell_other (w := w.drewN _) (a := ⟨b, 1, none⟩) hopr hbo _
  have HD : Hid (DoneRow B ((w.drewN (n1 + n2 + n3 + n4)).setCell ⟨b, 1, none⟩ (.int .i64 ((i : Int) + 4))) vd done) := ownsRow_setCell_other (w := w.drewN _) (a := ⟨b, 1, none⟩) hdr hbd _
  have HBX : Hid (B ≤ ((w.drewN (n1 + n2 + n3 + n4)).setCell ⟨b, 1, none⟩ (.int .i64 ((i : Int) + 4))).heap.size) := by show B ≤ _; simp; omega
  have HK : Hid (Keeps w.heap.size (b :: (obl vi ++ obl vo ++ obl vd)) w ((w.drewN (n1 + n2 + n3 + n4)).setCell ⟨b, 1, none⟩ (.int .i64 ((i : Int) + 4)))) := (by repeat (first | exact Keeps.refl _ _ _ | (refine Keeps.setCell ?_ (by simp) _) | (refine Keeps.drewN ?_ _) | (refine Keeps.drew ?_)))
  have HblkX := hid hblkX
  clear hblkX
  go_wp2_with (at_builtin; go_must (refine append_newS (us := itemCells { kind := 5, x := bt p (i + 2), y := bt p (i + 3) } 0) rfl _ _ 33 rfl 94 rfl (.agg #[.int .i64 0, .slice none 0 0, .int .u8 0, .int .i64 0, .int .u8 0, .int .u8 0]) 6 56 Tryd.underlying33 info_item rfl (by decide) B vi n xs rfl HI.out _ rfl (by simp) rfl HO6.out (by unfold maxLen; omega) (by omega) HBX.out ?_))
  intro ao co w3 h4 hg hn3
  have hblk3 := RdBlk.grow HblkX.out hg hbi
  have hbl3 := blk_lt hblk3
  obtain ⟨k0, k1, k2, k3, k4, k5, l1, l2, l3, l4, l5⟩ := hblk3.cells
  go_wp2_with fail
  go_end0
  exact item_end (g := 0) HblkX.out HI.out HO.out HD.out HK.out (fun k hk => Or.inl hk) (fun h => by simp at h) h4 hg

set_option maxRecDepth 100000 in
set_option maxHeartbeats 2000000 in
theorem item_back0 (B : Nat) (p : ByteArray) (b i n : Nat) (xs : List Value) (done : List Bool) (opened : List Nat) (vi vo vd : Value) (w : World) (hp : p.size ≤ 200) (hi : i < p.size) (hn : n ≤ 200) (hdn : done.length ≤ 200) (hop : opened.length ≤ 200)
    (hB : B ≤ b) (hblk : RdBlk w b 92 p i false vi vo vd) (hit : ItemRow B w vi n xs) (hopr : OpenRow B w vo opened) (hdr : DoneRow B w vd done)
    (hc : bt p i = 37) (hd1 : 48 ≤ bt p (i + 1)) (hd2 : bt p (i + 1) ≤ 57) (h0 : bt p (i + 1) = 48) :
    Calls Tryd.prog 33 #[.pointer (some ⟨b, 0, none⟩)] w fun e w' =>
      ItemBad B p b w e w' := by
  have hbl := blk_lt hblk
  obtain ⟨c0, c1, c2, c3, c4, c5, f1, f2, f3, f4, f5⟩ := hblk.cells
  have hd0 : decide (i < p.size) = true := by simp; omega
  have hb0 := bt_nonneg p (i + 1)
  have hb255 := bt_le p (i + 1)
  have t1 : (bt p i == 37) = true := by simpa using hc
  have t2 : (bt p i == 40) = false := by rw [hc]; rfl
  have t3 : (bt p i == 41) = false := by rw [hc]; rfl
  have hlt1 : i + 1 < p.size := by
    apply Nat.lt_of_not_le
    intro h
    rw [bt_of_ge h] at hd1
    omega
  have t7 : decide (i + 1 < p.size) = true := by simpa using hlt1
  have t5 : decide (48 ≤ bt p (i + 1)) = true := by simpa using hd1
  have t6 : decide (bt p (i + 1) ≤ 57) = true := by simpa using hd2
  have kw : IntKind.i64.wrap (bt p (i + 1) - 49) = bt p (i + 1) - 49 := IntWalk.i64_in _ (by omega)
  clear hc
  go_enter Tryd.func33, Tryd.ntmps33
  go_wp2_with fail
  refine (here_any p b i 0 _ (by omega) (by omega) (by omega) (by go_simp) (by go_simp)).mono ?_
  rintro e w' ⟨rfl, n1, rfl⟩
  go_wp2_with fail
  refine (here_any p b i 1 _ (by omega) (by omega) (by omega) (by go_simp) (by go_simp)).mono ?_
  rintro e w' ⟨rfl, n2, rfl⟩
  go_wp2_with fail
  go_end0
  exact ⟨_, _, _, i, rfl, RdBlk.bad_ (w := w.drewN _) hblk true, ((Keeps.refl _ _ _).drewN _).setCell (Or.inr hB) _⟩

set_option maxRecDepth 100000 in
set_option maxHeartbeats 2000000 in
theorem item_back1 (B : Nat) (p : ByteArray) (b i n : Nat) (xs : List Value) (done : List Bool) (opened : List Nat) (vi vo vd : Value) (w : World) (hp : p.size ≤ 200) (hi : i < p.size) (hn : n ≤ 200) (hdn : done.length ≤ 200) (hop : opened.length ≤ 200)
    (hB : B ≤ b) (hblk : RdBlk w b 92 p i false vi vo vd) (hit : ItemRow B w vi n xs) (hopr : OpenRow B w vo opened) (hdr : DoneRow B w vd done)
    (hc : bt p i = 37) (hd1 : 48 ≤ bt p (i + 1)) (hd2 : bt p (i + 1) ≤ 57) (h0 : 49 ≤ bt p (i + 1)) (hl : (done.length : Int) ≤ bt p (i + 1) - 49) :
    Calls Tryd.prog 33 #[.pointer (some ⟨b, 0, none⟩)] w fun e w' =>
      ItemBad B p b w e w' := by
  have hbl := blk_lt hblk
  obtain ⟨c0, c1, c2, c3, c4, c5, f1, f2, f3, f4, f5⟩ := hblk.cells
  have hd0 : decide (i < p.size) = true := by simp; omega
  have hb0 := bt_nonneg p (i + 1)
  have hb255 := bt_le p (i + 1)
  have t1 : (bt p i == 37) = true := by simpa using hc
  have t2 : (bt p i == 40) = false := by rw [hc]; rfl
  have t3 : (bt p i == 41) = false := by rw [hc]; rfl
  have hlt1 : i + 1 < p.size := by
    apply Nat.lt_of_not_le
    intro h
    rw [bt_of_ge h] at hd1
    omega
  have t7 : decide (i + 1 < p.size) = true := by simpa using hlt1
  have t5 : decide (48 ≤ bt p (i + 1)) = true := by simpa using hd1
  have t6 : decide (bt p (i + 1) ≤ 57) = true := by simpa using hd2
  have kw : IntKind.i64.wrap (bt p (i + 1) - 49) = bt p (i + 1) - 49 := IntWalk.i64_in _ (by omega)
  have q1 : decide (bt p (i + 1) - 49 < 0) = false := by simp; omega
  have q2 : decide ((done.length : Int) ≤ bt p (i + 1) - 49) = true := by simpa using hl
  obtain ⟨da, dc, rfl⟩ := own_form hdr
  clear hc
  go_enter Tryd.func33, Tryd.ntmps33
  go_wp2_with fail
  refine (here_any p b i 0 _ (by omega) (by omega) (by omega) (by go_simp) (by go_simp)).mono ?_
  rintro e w' ⟨rfl, n1, rfl⟩
  go_wp2_with fail
  refine (here_any p b i 1 _ (by omega) (by omega) (by omega) (by go_simp) (by go_simp)).mono ?_
  rintro e w' ⟨rfl, n2, rfl⟩
  go_wp2_with fail
  go_end0
  exact ⟨_, _, _, i, rfl, RdBlk.bad_ (w := w.drewN _) hblk true, ((Keeps.refl _ _ _).drewN _).setCell (Or.inr hB) _⟩

set_option maxRecDepth 100000 in
set_option maxHeartbeats 2000000 in
theorem item_back2 (B : Nat) (p : ByteArray) (b i n : Nat) (xs : List Value) (done : List Bool) (opened : List Nat) (vi vo vd : Value) (w : World) (hp : p.size ≤ 200) (hi : i < p.size) (hn : n ≤ 200) (hdn : done.length ≤ 200) (hop : opened.length ≤ 200)
    (hB : B ≤ b) (hblk : RdBlk w b 92 p i false vi vo vd) (hit : ItemRow B w vi n xs) (hopr : OpenRow B w vo opened) (hdr : DoneRow B w vd done)
    (hc : bt p i = 37) (hd1 : 48 ≤ bt p (i + 1)) (hd2 : bt p (i + 1) ≤ 57) (h0 : 49 ≤ bt p (i + 1)) (hl : bt p (i + 1) - 49 < (done.length : Int)) (hf : done.getD (bt p (i + 1) - 49).toNat false = false) :
    Calls Tryd.prog 33 #[.pointer (some ⟨b, 0, none⟩)] w fun e w' =>
      ItemBad B p b w e w' := by
  have hbl := blk_lt hblk
  obtain ⟨c0, c1, c2, c3, c4, c5, f1, f2, f3, f4, f5⟩ := hblk.cells
  have hd0 : decide (i < p.size) = true := by simp; omega
  have hb0 := bt_nonneg p (i + 1)
  have hb255 := bt_le p (i + 1)
  have t1 : (bt p i == 37) = true := by simpa using hc
  have t2 : (bt p i == 40) = false := by rw [hc]; rfl
  have t3 : (bt p i == 41) = false := by rw [hc]; rfl
  have hlt1 : i + 1 < p.size := by
    apply Nat.lt_of_not_le
    intro h
    rw [bt_of_ge h] at hd1
    omega
  have t7 : decide (i + 1 < p.size) = true := by simpa using hlt1
  have t5 : decide (48 ≤ bt p (i + 1)) = true := by simpa using hd1
  have t6 : decide (bt p (i + 1) ≤ 57) = true := by simpa using hd2
  have kw : IntKind.i64.wrap (bt p (i + 1) - 49) = bt p (i + 1) - 49 := IntWalk.i64_in _ (by omega)
  have q1 : decide (bt p (i + 1) - 49 < 0) = false := by simp; omega
  have q2 : decide ((done.length : Int) ≤ bt p (i + 1) - 49) = false := by simp; omega
  obtain ⟨gd, dc, rfl⟩ : ∃ gd dc, vd = .slice (some ⟨gd, 0, none⟩) done.length dc := by
    rcases hdr.2 with ⟨rfl, h⟩ | ⟨g, cap, cur, rfl, _⟩
    · omega
    · exact ⟨g, cap, rfl⟩
  have hcell := hdr.cellAt (bt p (i + 1) - 49).toNat (by omega)
  have hcv : (done.map Value.bool)[(bt p (i + 1) - 49).toNat]? = some (.bool (done.getD (bt p (i + 1) - 49).toNat false)) := by
    rw [List.getElem?_map, List.getD_eq_getElem?_getD, List.getElem?_eq_getElem (by omega)]; rfl
  rw [hcv] at hcell
  have q3 : 0 ≤ bt p (i + 1) - 49 ∧ bt p (i + 1) - 49 < (done.length : Int) := ⟨by omega, by omega⟩
  clear hcv
  rw [hf] at hcell
  clear hc hf
  go_enter Tryd.func33, Tryd.ntmps33
  go_wp2_with fail
  refine (here_any p b i 0 _ (by omega) (by omega) (by omega) (by go_simp) (by go_simp)).mono ?_
  rintro e w' ⟨rfl, n1, rfl⟩
  go_wp2_with fail
  refine (here_any p b i 1 _ (by omega) (by omega) (by omega) (by go_simp) (by go_simp)).mono ?_
  rintro e w' ⟨rfl, n2, rfl⟩
  go_wp2_with fail
  go_end0
  exact ⟨_, _, _, i, rfl, RdBlk.bad_ (w := w.drewN _) hblk true, ((Keeps.refl _ _ _).drewN _).setCell (Or.inr hB) _⟩

set_option maxRecDepth 100000 in
set_option maxHeartbeats 2000000 in
theorem item_back (B : Nat) (p : ByteArray) (b i n : Nat) (xs : List Value) (done : List Bool) (opened : List Nat) (vi vo vd : Value) (w : World) (hp : p.size ≤ 200) (hi : i < p.size) (hn : n ≤ 200) (hdn : done.length ≤ 200) (hop : opened.length ≤ 200)
    (hB : B ≤ b) (hblk : RdBlk w b 92 p i false vi vo vd) (hit : ItemRow B w vi n xs) (hopr : OpenRow B w vo opened) (hdr : DoneRow B w vd done)
    (hc : bt p i = 37) (hd1 : 48 ≤ bt p (i + 1)) (hd2 : bt p (i + 1) ≤ 57) (h0 : 49 ≤ bt p (i + 1)) (hl : bt p (i + 1) - 49 < (done.length : Int)) (hf : done.getD (bt p (i + 1) - 49).toNat false = true) :
    Calls Tryd.prog 33 #[.pointer (some ⟨b, 0, none⟩)] w fun e w' =>
      ItemPost B p b { kind := 4, n := (bt p (i + 1) - 49).toNat } { i := i + 2, done := done, opened := opened } n xs vi vo vd w e w' := by
  have hbl := blk_lt hblk
  obtain ⟨c0, c1, c2, c3, c4, c5, f1, f2, f3, f4, f5⟩ := hblk.cells
  have hd0 : decide (i < p.size) = true := by simp; omega
  have hb0 := bt_nonneg p (i + 1)
  have hb255 := bt_le p (i + 1)
  have t1 : (bt p i == 37) = true := by simpa using hc
  have t2 : (bt p i == 40) = false := by rw [hc]; rfl
  have t3 : (bt p i == 41) = false := by rw [hc]; rfl
  have hlt1 : i + 1 < p.size := by
    apply Nat.lt_of_not_le
    intro h
    rw [bt_of_ge h] at hd1
    omega
  have t7 : decide (i + 1 < p.size) = true := by simpa using hlt1
  have t5 : decide (48 ≤ bt p (i + 1)) = true := by simpa using hd1
  have t6 : decide (bt p (i + 1) ≤ 57) = true := by simpa using hd2
  have kw : IntKind.i64.wrap (bt p (i + 1) - 49) = bt p (i + 1) - 49 := IntWalk.i64_in _ (by omega)
  have q1 : decide (bt p (i + 1) - 49 < 0) = false := by simp; omega
  have q2 : decide ((done.length : Int) ≤ bt p (i + 1) - 49) = false := by simp; omega
  obtain ⟨gd, dc, rfl⟩ : ∃ gd dc, vd = .slice (some ⟨gd, 0, none⟩) done.length dc := by
    rcases hdr.2 with ⟨rfl, h⟩ | ⟨g, cap, cur, rfl, _⟩
    · omega
    · exact ⟨g, cap, rfl⟩
  have hcell := hdr.cellAt (bt p (i + 1) - 49).toNat (by omega)
  have hcv : (done.map Value.bool)[(bt p (i + 1) - 49).toNat]? = some (.bool (done.getD (bt p (i + 1) - 49).toNat false)) := by
    rw [List.getElem?_map, List.getD_eq_getElem?_getD, List.getElem?_eq_getElem (by omega)]; rfl
  rw [hcv] at hcell
  have q3 : 0 ≤ bt p (i + 1) - 49 ∧ bt p (i + 1) - 49 < (done.length : Int) := ⟨by omega, by omega⟩
  clear hcv
  rw [hf] at hcell
  have HO6 : Hid (∀ u ∈ itemCells { kind := 4, n := (bt p (i + 1) - 49).toNat } 0, u.oneCell' = true) := by intro u hu; simp [itemCells] at hu; rcases hu with rfl | rfl | rfl | rfl | rfl | rfl <;> rfl
  have kn : (((bt p (i + 1) - 49).toNat : Nat) : Int) = bt p (i + 1) - 49 := by omega
  have KN := hid kn
  clear hc hf kn
  go_enter Tryd.func33, Tryd.ntmps33
  go_wp2_with fail
  refine (here_any p b i 0 _ (by omega) (by omega) (by omega) (by go_simp) (by go_simp)).mono ?_
  rintro e w' ⟨rfl, n1, rfl⟩
  go_wp2_with fail
  refine (here_any p b i 1 _ (by omega) (by omega) (by omega) (by go_simp) (by go_simp)).mono ?_
  rintro e w' ⟨rfl, n2, rfl⟩
  have hblkX : RdBlk ((w.drewN (n1 + n2)).setCell ⟨b, 1, none⟩ (.int .i64 ((i : Int) + 2))) b 92 p (i + 2) false vi vo (Value.slice (some ⟨gd, 0, none⟩) done.length dc) := RdBlk.at_ (w := w.drewN _) hblk rfl
  have hbi : vi.ownBlock ≠ some b := own_ne_blk hit hblk (by decide)
  have hbo : vo.ownBlock ≠ some b := own_ne_blk hopr hblk (by decide)
  have hbd : (Value.slice (some ⟨gd, 0, none⟩) done.length dc).ownBlock ≠ some b := own_ne_blk hdr hblk (by decide)
  have HI : Hid (ItemRow B ((w.drewN (n1 + n2)).setCell ⟨b, 1, none⟩ (.int .i64 ((i : Int) + 2))) vi n xs) := ownsRow_setCell_other (w := w.drewN _) (a := ⟨b, 1, none⟩) hit hbi _
  have HO : Hid (OpenRow B ((w.drewN (n1 + n2)).setCell ⟨b, 1, none⟩ (.int .i64 ((i : Int) + 2))) vo opened) := ownsRow_setCell_other (w := w.drewN _) (a := ⟨b, 1, none⟩) hopr hbo _
  have HD : Hid (DoneRow B ((w.drewN (n1 + n2)).setCell ⟨b, 1, none⟩ (.int .i64 ((i : Int) + 2))) (Value.slice (some ⟨gd, 0, none⟩) done.length dc) done) := ownsRow_setCell_other (w := w.drewN _) (a := ⟨b, 1, none⟩) hdr hbd _
  have HBX : Hid (B ≤ ((w.drewN (n1 + n2)).setCell ⟨b, 1, none⟩ (.int .i64 ((i : Int) + 2))).heap.size) := by show B ≤ _; simp; omega
  have HK : Hid (Keeps w.heap.size (b :: (obl vi ++ obl vo ++ obl (Value.slice (some ⟨gd, 0, none⟩) done.length dc))) w ((w.drewN (n1 + n2)).setCell ⟨b, 1, none⟩ (.int .i64 ((i : Int) + 2)))) := (by repeat (first | exact Keeps.refl _ _ _ | (refine Keeps.setCell ?_ (by simp) _) | (refine Keeps.drewN ?_ _) | (refine Keeps.drew ?_)))
  have HblkX := hid hblkX
  clear hblkX
  go_wp2_with (at_builtin; go_must (refine append_newS (us := [.int .i64 4, .slice none 0 0, .int .u8 0, .int .i64 (bt p (i + 1) - 49), .int .u8 0, .int .u8 0]) rfl _ _ 33 rfl 94 rfl (.agg #[.int .i64 0, .slice none 0 0, .int .u8 0, .int .i64 0, .int .u8 0, .int .u8 0]) 6 56 Tryd.underlying33 info_item rfl (by decide) B vi n xs rfl HI.out _ rfl (by simp) rfl (by have h := HO6.out; simp only [itemCells] at h; rw [KN.out] at h; exact h) (by unfold maxLen; omega) (by omega) HBX.out ?_))
  intro ao co w3 h4 hg hn3
  have hblk3 := RdBlk.grow HblkX.out hg hbi
  have hbl3 := blk_lt hblk3
  obtain ⟨k0, k1, k2, k3, k4, k5, l1, l2, l3, l4, l5⟩ := hblk3.cells
  go_wp2_with fail
  go_end0
  have h5 : w3.ownsRow B 94 6 (.slice ao (n + 1) co) (n + 1) (xs ++ itemCells { kind := 4, n := (bt p (i + 1) - 49).toNat } 0) := by simp only [itemCells]; rw [KN.out]; exact h4
  exact item_end (g := 0) HblkX.out HI.out HO.out HD.out HK.out (fun k hk => Or.inl hk) (fun h => by simp at h) h5 hg
end Go.Proofs.YtpinoolagbghnaaDoor
