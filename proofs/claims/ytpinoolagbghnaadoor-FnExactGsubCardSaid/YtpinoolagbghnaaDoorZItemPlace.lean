/-
  Walk: the reader of the reference: item at an opening bracket.
  Walks: the reader of the reference: item at what closes a capture, a capture again, a pair, the end.
  Walk: the reader of the reference: item at a place '()'.
-/
import Derived.Test.YtpinoolagbghnaaDoorZRdst
import Derived.BigRegion
import Derived.RegionTactic
import Derived.Deep.RegionLaw
import Derived.Deep.CutRange
import Derived.Test.YtpinoolagbghnaaDoorZItemSimple
import Derived.BigQuiet
import Derived.Deep.QuietTactic
import Derived.Deep.DeepMust
namespace Go.Proofs.YtpinoolagbghnaaDoor
set_option linter.unusedVariables false
open Go.RowKit Pat
theorem _root_.Go.World.grownBy.undrew {W w' : World} {row : Option Nat} (h : W.drew.grownBy w' row) : W.grownBy w' row := ⟨h.os, h.tape, h.output, h.size, h.block⟩

set_option maxRecDepth 100000 in
set_option maxHeartbeats 2000000 in
theorem item_open (B : Nat) (p : ByteArray) (b i n : Nat) (xs : List Value) (done : List Bool) (opened : List Nat) (vi vo vd : Value) (w : World) (hp : p.size ≤ 200) (hi : i < p.size) (hn : n ≤ 200) (hdn : done.length ≤ 200) (hop : opened.length ≤ 200)
    (hB : B ≤ b) (hblk : RdBlk w b 92 p i false vi vo vd) (hit : ItemRow B w vi n xs) (hopr : OpenRow B w vo opened) (hdr : DoneRow B w vd done)
    (hc : bt p i = 40) (h2 : decide (i + 1 < p.size) = false ∨ (decide (i + 1 < p.size) = true ∧ (bt p (i + 1) == 41) = false)) :
    Calls Tryd.prog 33 #[.pointer (some ⟨b, 0, none⟩)] w fun e w' =>
      ItemPost B p b { kind := 2, n := done.length } { i := i + 1, done := done ++ [false], opened := done.length :: opened } n xs vi vo vd w e w' := by
  have hbl := blk_lt hblk
  obtain ⟨c0, c1, c2, c3, c4, c5, f1, f2, f3, f4, f5⟩ := hblk.cells
  have hd0 : decide (i < p.size) = true := by simp; omega
  have t1 : (bt p i == 40) = true := by simpa using hc
  have hbd := own_ne_blk hdr hblk (by decide)
  have hbo := own_ne_blk hopr hblk (by decide)
  have hbi := own_ne_blk hit hblk (by decide)
  clear hc
  rcases h2 with t2 | ⟨t2, t3⟩
  all_goals
    go_enter Tryd.func33, Tryd.ntmps33
    go_wp2_with fail
    refine (here_any p b i 0 _ (by omega) (by omega) (by omega) (by go_simp) (by go_simp)).mono ?_
    rintro e w' ⟨rfl, n1, rfl⟩
    go_wp2_with fail
    refine (here_any p b i 1 _ (by omega) (by omega) (by omega) (by go_simp) (by go_simp)).mono ?_
    rintro e w' ⟨rfl, n2, rfl⟩
    go_wp2_with (at_builtin; refine append_new (W := w.drewN _) (us := [.bool false]) rfl _ _ 34 rfl 4 rfl (.bool false) 1 1 Tryd.underlying34 info_bool rfl (by decide) B vd done.length (done.map Value.bool) rfl hdr rfl rfl (by intro u hu; simp at hu; subst hu; rfl) (by unfold maxLen; omega) (by omega) (by simp; omega) ?_)
    intro ad1 cd1 w1 hdr1 hg1 hn1
    have hblk1 : RdBlk w1 b 92 p i false vi vo vd := RdBlk.grow (w := w.drewN _) hblk hg1 hbd
    obtain ⟨d0, d1, d2, d3, d4, d5, e1, e2, e3, e4, e5⟩ := hblk1.cells
    have hbl1 := blk_lt hblk1
    clear c0 c1 c2 c3 c4 c5 f1 f2 f3 f4 f5
    go_wp2_with fail
    have hopr1 : OpenRow B w1 vo opened := World.ownsRow.kept (w := w.drewN _) hopr hg1 (own_ne_own hopr hdr (by decide))
    have kw : IntKind.i64.wrap (done.length : Int) = done.length := IntWalk.i64_in _ (by omega)
    have hboX : vo.ownBlock ≠ some b := own_ne_blk hopr1 hblk1 (by decide)
    obtain ⟨X, hX⟩ : ∃ X, X = (w1.setCell ⟨b, 5, none⟩ (.slice ad1 (done.length + 1) cd1)).alloc (.cells #[.int .i64 2, .slice none 0 0, .int .u8 0, .int .i64 (done.length : Int), .int .u8 0, .int .u8 0] 94) := ⟨_, rfl⟩
    rw [← hX]
    have hblkX : RdBlk X b 92 p i false vi vo (.slice ad1 (done.length + 1) cd1) := by rw [hX]; exact (hblk1.done_ _).alloc _
    have hitX : X.heap[w1.heap.size]? = some (.cells #[.int .i64 2, .slice none 0 0, .int .u8 0, .int .i64 (done.length : Int), .int .u8 0, .int .u8 0] 94 (0, 0)) := by rw [hX]; have := blk_new (w1.setCell ⟨b, 5, none⟩ (.slice ad1 (done.length + 1) cd1)) (.cells #[.int .i64 2, .slice none 0 0, .int .u8 0, .int .i64 (done.length : Int), .int .u8 0, .int .u8 0] 94); rw [World.size_setCell] at this; exact this
    have hszX : X.heap.size = w1.heap.size + 1 := by rw [hX]; simp
    have hoX : X.ownsRow B 3 1 vo opened.length (opened.reverse.map fun (n : Nat) => Value.int .i64 (n : Int)) := by rw [hX]; exact World.ownsRow.alloc (ownsRow_setCell_other (a := ⟨b, 5, none⟩) hopr1 hboX _) _
    have hone : ∀ u ∈ [Value.int .i64 (done.length : Int)], u.oneCell' = true := by intro u hu; simp at hu; subst hu; rfl
    have hBX : B ≤ X.heap.size := by rw [hszX]; omega
    have hm1 : opened.length + 1 ≤ maxLen := by unfold maxLen; omega
    have hm2 : (opened.length + 1) * 8 ≤ 140737488355328 := by omega
    have HX := hid hX
    have HoX := hid hoX
    have HoneX := hid hone
    have HblkX := hid hblkX
    have HboX := hid hboX
    have HitX := hid hitX
    have HszX := hid hszX
    obtain ⟨x0, x1, x2, x3, x4, x5, y1, y2, y3, y4, y5⟩ := hblkX.cells
    have hblX := blk_lt hblkX
    clear hX hoX hone hblkX hboX hitX hszX d0 d1 d2 d3 d4 d5 e1 e2 e3 e4 e5
    go_cut [] from 115 to 129 (fun wx => ∃ w2 ao2 co2, OpenRow B w2 (.slice ao2 (opened.length + 1) co2) (done.length :: opened) ∧ X.grownBy w2 vo.ownBlock ∧ wx = w2.setCell ⟨b, 4, none⟩ (.slice ao2 (opened.length + 1) co2))
    case first =>
      go_region_law (first | (refine step_append_new (W := X.drew) (us := [.int .i64 (done.length : Int)]) rfl (.tmp 119) (.tmp 126) 37 rfl 3 rfl (.int .i64 0) 1 8 Tryd.underlying37 info_int rfl (by decide) B vo opened.length _ (by first | simp [Act.eval] | simp [Act.eval, Act.put]) HoX.out (by first | simp [Act.eval] | simp [Act.eval, Act.put]) rfl HoneX.out hm1 hm2 hBX ?_; intro ao2 co2 w2 hopr2 hg2 hn2; have hblk2 := RdBlk.grow (w' := w2) HblkX.out hg2.undrew HboX.out; obtain ⟨k0, k1, k2, k3, k4, k5, l1, l2, l3, l4, l5⟩ := hblk2.cells))
      all_goals
        go_wp2_with fail
        go_meet
        exact ⟨w2, ao2, co2, by simpa [OpenRow] using hopr2, hg2.undrew, rfl⟩
    case rest =>
      obtain ⟨w2, ao2, co2, hopr2, hg2, rfl⟩ := hcut
      have hblk2 := RdBlk.grow (w' := w2) HblkX.out hg2 HboX.out
      have hblk3 := hblk2.open_ (.slice ao2 (opened.length + 1) co2)
      have hit2 : w2.heap[w1.heap.size]? = some (.cells #[.int .i64 2, .slice none 0 0, .int .u8 0, .int .i64 (done.length : Int), .int .u8 0, .int .u8 0] 94 (0, 0)) :=
        (hg2.block _ (blk_lt HitX.out) (Ne.symm (own_ne_blk HoX.out HitX.out (by decide)))).trans HitX.out
      obtain ⟨x0, x1, x2, x3, x4, x5, y1, y2, y3, y4, y5⟩ := hblk3.cells
      have hiX : ItemRow B w2 vi n xs := World.ownsRow.kept (w := X) (by rw [HX.out]; exact World.ownsRow.alloc (ownsRow_setCell_other (a := ⟨b, 5, none⟩) (World.ownsRow.kept (w := w.drewN _) hit hg1 (own_ne_own hit hdr (by decide))) (by exact hbi) _) _) hg2 (by have h := own_ne_own hit hopr (by decide); exact h)
      have hi3 : ItemRow B (w2.setCell ⟨b, 4, none⟩ (.slice ao2 (opened.length + 1) co2)) vi n xs := ownsRow_setCell_other (a := ⟨b, 4, none⟩) hiX (by exact hbi) _
      have hsz2 : X.heap.size ≤ w2.heap.size := hg2.size
      have hB3 : B ≤ (w2.setCell ⟨b, 4, none⟩ (.slice ao2 (opened.length + 1) co2)).heap.size := by simp; omega
      obtain ⟨m0, m1, m2, m3, m4, m5⟩ : w2.cell? ⟨w1.heap.size, 0, none⟩ = some (.int .i64 2) ∧ w2.cell? ⟨w1.heap.size, 1, none⟩ = some (.slice none 0 0) ∧ w2.cell? ⟨w1.heap.size, 2, none⟩ = some (.int .u8 0) ∧ w2.cell? ⟨w1.heap.size, 3, none⟩ = some (.int .i64 (done.length : Int)) ∧ w2.cell? ⟨w1.heap.size, 4, none⟩ = some (.int .u8 0) ∧ w2.cell? ⟨w1.heap.size, 5, none⟩ = some (.int .u8 0) :=
        ⟨blk_cell hit2 0, blk_cell hit2 1, blk_cell hit2 2, blk_cell hit2 3, blk_cell hit2 4, blk_cell hit2 5⟩
      have hne : ¬ w1.heap.size = b := by omega
      have Hi3 := hid hi3
      clear hi3 hiX
      go_wp2_with fail
      obtain ⟨X3, hX3⟩ : ∃ X3, X3 = (w2.setCell ⟨b, 4, none⟩ (.slice ao2 (opened.length + 1) co2)).setCell ⟨b, 1, none⟩ (.int .i64 ((i : Int) + 1)) := ⟨_, rfl⟩
      rw [← hX3]
      have hblkY : RdBlk X3 b 92 p (i + 1) false vi (.slice ao2 (opened.length + 1) co2) (.slice ad1 (done.length + 1) cd1) := by rw [hX3]; exact hblk3.at_ rfl
      have hitY : X3.heap[w1.heap.size]? = some (.cells (itemCells { kind := 2, n := done.length } 0).toArray 94 (0, 0)) := by rw [hX3]; exact blk_set_other (blk_set_other hit2 hne _) hne _
      have hiY : ItemRow B X3 vi n xs := by rw [hX3]; exact ownsRow_setCell_other (a := ⟨b, 1, none⟩) Hi3.out (by exact hbi) _
      have hone6 : ∀ u ∈ itemCells { kind := 2, n := done.length } 0, u.oneCell' = true := by intro u hu; simp [itemCells] at hu; rcases hu with rfl | rfl | rfl | rfl | rfl | rfl <;> rfl
      have hBY : B ≤ X3.heap.size := by rw [hX3]; simp; omega
      have hm3 : n + 1 ≤ maxLen := by unfold maxLen; omega
      have hm4 : (n + 1) * 56 ≤ 140737488355328 := by omega
      have HX3 := hid hX3
      have HiY := hid hiY
      have Hone6 := hid hone6
      have HblkY := hid hblkY
      have hbiY : vi.ownBlock ≠ some b := hbi
      have HbiY := hid hbiY
      have hblY := blk_lt hblkY
      obtain ⟨z0, z1, z2, z3, z4, z5, v1, v2, v3, v4, v5⟩ := hblkY.cells
      obtain ⟨s0, s1, s2, s3, s4, s5⟩ : X3.cell? ⟨w1.heap.size, 0, none⟩ = some (.int .i64 2) ∧ X3.cell? ⟨w1.heap.size, 1, none⟩ = some (.slice none 0 0) ∧ X3.cell? ⟨w1.heap.size, 2, none⟩ = some (.int .u8 0) ∧ X3.cell? ⟨w1.heap.size, 3, none⟩ = some (.int .i64 (done.length : Int)) ∧ X3.cell? ⟨w1.heap.size, 4, none⟩ = some (.int .u8 0) ∧ X3.cell? ⟨w1.heap.size, 5, none⟩ = some (.int .u8 0) :=
        ⟨blk_cell hitY 0, blk_cell hitY 1, blk_cell hitY 2, blk_cell hitY 3, blk_cell hitY 4, blk_cell hitY 5⟩
      clear hX3 hiY hone6 hblkY hbiY hitY x0 x1 x2 x3 x4 x5 y1 y2 y3 y4 y5 m0 m1 m2 m3 m4 m5
      go_region_law (first | (refine step_append_new (W := X3.drew) (us := itemCells { kind := 2, n := done.length } 0) rfl (.tmp 141) (.tmp 143) 33 rfl 94 rfl (.agg #[.int .i64 0, .slice none 0 0, .int .u8 0, .int .i64 0, .int .u8 0, .int .u8 0]) 6 56 Tryd.underlying33 info_item rfl (by decide) B vi n xs (by first | simp [Act.eval] | simp [Act.eval, Act.put]) HiY.out (by first | simp [Act.eval] | simp [Act.eval, Act.put]) rfl Hone6.out hm3 hm4 hBY ?_; intro ao3 co3 w3 hi4 hg3 hn3; have hblk4 := RdBlk.grow (w' := w3) HblkY.out hg3.undrew HbiY.out; obtain ⟨k0, k1, k2, k3, k4, k5, l1, l2, l3, l4, l5⟩ := hblk4.cells))
      all_goals
        go_wp2_with fail
        go_end0
        have hdX : DoneRow B X (.slice ad1 (done.length + 1) cd1) (done ++ [false]) := by
          rw [HX.out]
          have h : DoneRow B w1 (.slice ad1 (done.length + 1) cd1) (done ++ [false]) := by simpa [DoneRow] using hdr1
          exact World.ownsRow.alloc (ownsRow_setCell_other (a := ⟨b, 5, none⟩) h (own_ne_blk h hblk1 (by decide)) _) _
        have hd2 : DoneRow B w2 (.slice ad1 (done.length + 1) cd1) (done ++ [false]) := World.ownsRow.kept hdX hg2 (own_ne_own hdX HoX.out (by decide))
        have hbd2 := own_ne_blk hd2 hblk2 (by decide)
        have hbo2 := own_ne_blk hopr2 hblk2 (by decide)
        have hd3 : DoneRow B X3 (.slice ad1 (done.length + 1) cd1) (done ++ [false]) := by rw [HX3.out]; exact ownsRow_setCell_other (a := ⟨b, 1, none⟩) (ownsRow_setCell_other (a := ⟨b, 4, none⟩) hd2 hbd2 _) hbd2 _
        have ho3 : OpenRow B X3 (.slice ao2 (opened.length + 1) co2) (done.length :: opened) := by rw [HX3.out]; exact ownsRow_setCell_other (a := ⟨b, 1, none⟩) (ownsRow_setCell_other (a := ⟨b, 4, none⟩) hopr2 hbo2 _) hbo2 _
        have hd4 := World.ownsRow.kept hd3 hg3.undrew (own_ne_own hd3 HiY.out (by decide))
        have ho4 := World.ownsRow.kept ho3 hg3.undrew (own_ne_own ho3 HiY.out (by decide))
        have hblk5 := hblk4.items_ (.slice ao3 (n + 1) co3)
        have hK1 : Keeps w.heap.size (b :: (obl vi ++ obl vo ++ obl vd)) w w1 := ((Keeps.refl _ _ w).drewN _).grow hg1 (by simp) (fun k hk => Or.inl (by simp [mem_obl, hk]))
        have hKX : Keeps w.heap.size (b :: (obl vi ++ obl vo ++ obl vd)) w X := by rw [HX.out]; exact (hK1.setCell (by simp) _).alloc (by simp; exact hK1.size) _
        have hK2 : Keeps w.heap.size (b :: (obl vi ++ obl vo ++ obl vd)) w w2 := hKX.grow hg2 hKX.size (fun k hk => Or.inl (by simp [mem_obl, hk]))
        have hK3 : Keeps w.heap.size (b :: (obl vi ++ obl vo ++ obl vd)) w X3 := by rw [HX3.out]; exact (hK2.setCell (by simp) _).setCell (by simp) _
        have hK4 : Keeps w.heap.size (b :: (obl vi ++ obl vo ++ obl vd)) w w3 := hK3.grow hg3.undrew hK3.size (fun k hk => Or.inl (by simp [mem_obl, hk]))
        exact ⟨_, _, _, 0, rfl, hblk5, ownsRow_setCell_other (a := ⟨b, 3, none⟩) hi4 (own_ne_blk hi4 hblk4 (by decide)) _, ownsRow_setCell_other (a := ⟨b, 3, none⟩) ho4 (own_ne_blk ho4 hblk4 (by decide)) _,
          ownsRow_setCell_other (a := ⟨b, 3, none⟩) hd4 (own_ne_blk hd4 hblk4 (by decide)) _, hK4.setCell (by simp) _, hn1, fun h => by simp at h⟩
end Go.Proofs.YtpinoolagbghnaaDoor

namespace Go.Proofs.YtpinoolagbghnaaDoor
set_option linter.unusedVariables false
open Go.RowKit Pat

/-- An owned row without its last element. -/
theorem own_pop {w : World} {B e n cap : Nat} {ao : Option Addr} {xs : List Value} {u : Value} (h : w.ownsRow B e 1 (.slice ao (n + 1) cap) (n + 1) (xs ++ [u])) (hl : xs.length = n) : w.ownsRow B e 1 (.slice ao n cap) n xs := by
  refine ⟨by omega, ?_⟩
  rcases h.2 with ⟨h', _⟩ | ⟨g, cap', cur, h', hb, hg, hn, hm, hs, ht⟩
  · simp at h'
  · simp only [Value.slice.injEq] at h'
    obtain ⟨rfl, -, rfl⟩ := h'
    refine Or.inr ⟨g, cap, cur, rfl, hb, hg, by omega, hm, hs, ?_⟩
    have h2 := congrArg (List.take n) ht
    rw [List.take_take, List.take_left' hl] at h2
    rw [← h2]
    congr 1
    omega

set_option maxRecDepth 100000 in
set_option maxHeartbeats 2000000 in
theorem item_shut (B : Nat) (p : ByteArray) (b i n : Nat) (xs : List Value) (done : List Bool) (m : Nat) (rest : List Nat) (vi vo vd : Value) (w : World) (hp : p.size ≤ 200) (hi : i < p.size) (hn : n ≤ 200) (hdn : done.length ≤ 200) (hop : (m :: rest).length ≤ 200)
    (hB : B ≤ b) (hblk : RdBlk w b 92 p i false vi vo vd) (hit : ItemRow B w vi n xs) (hopr : OpenRow B w vo (m :: rest)) (hdr : DoneRow B w vd done)
    (hc : bt p i = 41) (hm : m < done.length) :
    Calls Tryd.prog 33 #[.pointer (some ⟨b, 0, none⟩)] w fun e w' =>
      ItemPost B p b { kind := 3, n := m } { i := i + 1, done := done.set m true, opened := rest } n xs vi vo vd w e w' := by
  have hbl := blk_lt hblk
  obtain ⟨c0, c1, c2, c3, c4, c5, f1, f2, f3, f4, f5⟩ := hblk.cells
  have hd0 : decide (i < p.size) = true := by simp; omega
  have hb0 := bt_nonneg p (i + 1)
  have hb255 := bt_le p (i + 1)
  have t1 : (bt p i == 41) = true := by simpa using hc
  have t2 : (bt p i == 40) = false := by rw [hc]; rfl
  have hr : rest.length + 1 ≤ 200 := by simpa using hop
  obtain ⟨go, oc, hoc, rfl⟩ : ∃ go oc, rest.length + 1 ≤ oc ∧ vo = .slice (some ⟨go, 0, none⟩) (rest.length + 1) oc := by
    rcases hopr.2 with ⟨rfl, h⟩ | ⟨g, cap, cur, rfl, _, _, hcap, _⟩
    · simp at h
    · exact ⟨g, cap, hcap, rfl⟩
  have q4 : rest.length ≤ oc := by omega
  obtain ⟨gd, dc, rfl⟩ : ∃ gd dc, vd = .slice (some ⟨gd, 0, none⟩) done.length dc := by
    rcases hdr.2 with ⟨rfl, h⟩ | ⟨g, cap, cur, rfl, _⟩
    · omega
    · exact ⟨g, cap, rfl⟩
  have ho1 : w.ownsRow B 3 1 (.slice (some ⟨go, 0, none⟩) (rest.length + 1) oc) (rest.length + 1) ((rest.reverse.map fun (n : Nat) => Value.int .i64 (n : Int)) ++ [.int .i64 (m : Int)]) := by
    have h := hopr
    simp only [OpenRow, List.length_cons, List.reverse_cons, List.map_append, List.map_cons, List.map_nil] at h
    exact h
  have hcell := ho1.cellAt rest.length (by omega)
  have hcv : ((rest.reverse.map fun (n : Nat) => Value.int .i64 (n : Int)) ++ [Value.int .i64 (m : Int)])[rest.length]? = some (.int .i64 (m : Int)) := by
    rw [List.getElem?_append_right (by simp)]; simp
  rw [hcv] at hcell
  have Ho1 := hid ho1
  have kw : IntKind.i64.wrap (rest.length : Int) = rest.length := IntWalk.i64_in _ (by omega)
  have kw2 : IntKind.i64.wrap ((rest.length : Int) + 1 - 1) = rest.length := by rw [show (rest.length : Int) + 1 - 1 = rest.length by omega]; exact kw
  have q3 : (0 : Int) ≤ rest.length ∧ (rest.length : Int) < (rest.length : Int) + 1 := ⟨by omega, by omega⟩
  clear hc hcv ho1
  go_enter Tryd.func33, Tryd.ntmps33
  go_wp2_with fail
  refine (here_any p b i 0 _ (by omega) (by omega) (by omega) (by go_simp) (by go_simp)).mono ?_
  rintro e w' ⟨rfl, n1, rfl⟩
  go_wp2_with fail
  refine (here_any p b i 1 _ (by omega) (by omega) (by omega) (by go_simp) (by go_simp)).mono ?_
  rintro e w' ⟨rfl, n2, rfl⟩
  go_wp2_with fail
  go_quiet (fail)
  go_wp2_with fail
  go_region
  clear hcell
  have hcell := hdr.cellAt m (by omega)
  have hcv : (done.map Value.bool)[m]? = some (.bool (done.getD m false)) := by
    rw [List.getElem?_map, List.getD_eq_getElem?_getD, List.getElem?_eq_getElem hm]; rfl
  rw [hcv] at hcell
  have hfree := hdr.frozenAt m
  have q5 : (0 : Int) ≤ m ∧ (m : Int) < (done.length : Int) := ⟨by omega, by omega⟩
  have hbi : vi.ownBlock ≠ some b := own_ne_blk hit hblk (by decide)
  have hbo : (Value.slice (some ⟨go, 0, none⟩) (rest.length + 1) oc).ownBlock ≠ some b := own_ne_blk Ho1.out hblk (by decide)
  have hbd : (Value.slice (some ⟨gd, 0, none⟩) done.length dc).ownBlock ≠ some b := own_ne_blk hdr hblk (by decide)
  have hgd : ¬ gd = b := fun h => hbd (by simp [Value.ownBlock, h])
  have hgo : ¬ go = b := fun h => hbo (by simp [Value.ownBlock, h])
  clear hcv
  have hd1 := (hdr.stored m (.bool true)).1
  have hdl : (done.map Value.bool).set m (.bool true) = (done.set m true).map Value.bool := by simp
  rw [hdl] at hd1
  have hoo : w.ownsRow B 3 1 (.slice (some ⟨go, 0, none⟩) rest.length oc) rest.length (rest.reverse.map fun (n : Nat) => Value.int .i64 (n : Int)) := own_pop Ho1.out (by simp)
  have hHD : Hid (DoneRow B ((((w.drewN (n1 + n2 + nq + 1)).setCell ⟨b, 4, none⟩ (.slice (some ⟨go, 0, none⟩) rest.length oc)).setCell ⟨gd, m, none⟩ (.bool true)).setCell ⟨b, 1, none⟩ (.int .i64 ((i : Int) + 1))) (.slice (some ⟨gd, 0, none⟩) done.length dc) (done.set m true)) := by
    have h1 : DoneRow B ((w.drewN (n1 + n2 + nq + 1)).setCell ⟨b, 4, none⟩ (.slice (some ⟨go, 0, none⟩) rest.length oc)) (.slice (some ⟨gd, 0, none⟩) done.length dc) done := ownsRow_setCell_other (w := w.drewN _) (a := ⟨b, 4, none⟩) hdr hbd _
    have h2 := (h1.stored m (.bool true)).1
    rw [hdl] at h2
    have h3 := ownsRow_setCell_other (a := ⟨b, 1, none⟩) h2 hbd (.int .i64 ((i : Int) + 1))
    show World.ownsRow _ _ _ _ _ _ _
    rw [List.length_set]
    exact h3
  have hHO : Hid (OpenRow B ((((w.drewN (n1 + n2 + nq + 1)).setCell ⟨b, 4, none⟩ (.slice (some ⟨go, 0, none⟩) rest.length oc)).setCell ⟨gd, m, none⟩ (.bool true)).setCell ⟨b, 1, none⟩ (.int .i64 ((i : Int) + 1))) (.slice (some ⟨go, 0, none⟩) rest.length oc) rest) := by
    have h1 := ownsRow_setCell_other (w := w.drewN (n1 + n2 + nq + 1)) (a := ⟨b, 4, none⟩) hoo hbo (.slice (some ⟨go, 0, none⟩) rest.length oc)
    have hgg : (Value.slice (some ⟨go, 0, none⟩) rest.length oc).ownBlock ≠ some gd := by
      have h := own_ne_own Ho1.out hdr (by decide)
      simp only [Value.ownBlock] at h ⊢
      rcases h with h | h
      · cases h
      · exact h
    exact ownsRow_setCell_other (a := ⟨b, 1, none⟩) (ownsRow_setCell_other (a := ⟨gd, m, none⟩) h1 hgg _) hbo _
  have HI : Hid (ItemRow B ((((w.drewN (n1 + n2 + nq + 1)).setCell ⟨b, 4, none⟩ (.slice (some ⟨go, 0, none⟩) rest.length oc)).setCell ⟨gd, m, none⟩ (.bool true)).setCell ⟨b, 1, none⟩ (.int .i64 ((i : Int) + 1))) vi n xs) := by
    have hgg : vi.ownBlock ≠ some gd := by
      have h := own_ne_own hit hdr (by decide)
      simp only [Value.ownBlock] at h ⊢
      rcases h with h | h
      · rw [h]; simp
      · exact h
    exact ownsRow_setCell_other (a := ⟨b, 1, none⟩) (ownsRow_setCell_other (a := ⟨gd, m, none⟩) (ownsRow_setCell_other (w := w.drewN _) (a := ⟨b, 4, none⟩) hit hbi _) hgg _) hbi _
  have HBX : Hid (B ≤ ((((w.drewN (n1 + n2 + nq + 1)).setCell ⟨b, 4, none⟩ (.slice (some ⟨go, 0, none⟩) rest.length oc)).setCell ⟨gd, m, none⟩ (.bool true)).setCell ⟨b, 1, none⟩ (.int .i64 ((i : Int) + 1))).heap.size) := by show B ≤ _; simp; omega
  have HblkX : Hid (RdBlk ((((w.drewN (n1 + n2 + nq + 1)).setCell ⟨b, 4, none⟩ (.slice (some ⟨go, 0, none⟩) rest.length oc)).setCell ⟨gd, m, none⟩ (.bool true)).setCell ⟨b, 1, none⟩ (.int .i64 ((i : Int) + 1))) b 92 p (i + 1) false vi (.slice (some ⟨go, 0, none⟩) rest.length oc) (.slice (some ⟨gd, 0, none⟩) done.length dc)) :=
    RdBlk.at_ (RdBlk.other (RdBlk.open_ (w := w.drewN _) hblk _) (a := ⟨gd, m, none⟩) (by simp; omega) _) rfl
  have HK : Hid (Keeps w.heap.size (b :: (obl vi ++ obl (Value.slice (some ⟨go, 0, none⟩) (rest.length + 1) oc) ++ obl (Value.slice (some ⟨gd, 0, none⟩) done.length dc))) w ((((w.drewN (n1 + n2 + nq + 1)).setCell ⟨b, 4, none⟩ (.slice (some ⟨go, 0, none⟩) rest.length oc)).setCell ⟨gd, m, none⟩ (.bool true)).setCell ⟨b, 1, none⟩ (.int .i64 ((i : Int) + 1)))) :=
    ((((Keeps.refl _ _ _).drewN _).setCell (by simp) _).setCell (by simp [obl, Value.ownBlock]) _).setCell (by simp) _
  have HO6 : Hid (∀ u ∈ itemCells { kind := 3, n := m } 0, u.oneCell' = true) := by intro u hu; simp [itemCells] at hu; rcases hu with rfl | rfl | rfl | rfl | rfl | rfl <;> rfl
  have Hd1 := hid hd1
  clear hd1 hdl hoo
  go_wp2_with (at_builtin; go_must (refine append_newS (us := itemCells { kind := 3, n := m } 0) rfl _ _ 33 rfl 94 rfl (.agg #[.int .i64 0, .slice none 0 0, .int .u8 0, .int .i64 0, .int .u8 0, .int .u8 0]) 6 56 Tryd.underlying33 info_item rfl (by decide) B vi n xs rfl HI.out _ rfl (by simp) rfl HO6.out (by unfold maxLen; omega) (by omega) HBX.out ?_))
  intro ao co w3 h4 hg hn3
  have hblk3 := RdBlk.grow HblkX.out hg hbi
  have hbl3 := blk_lt hblk3
  obtain ⟨k0, k1, k2, k3, k4, k5, l1, l2, l3, l4, l5⟩ := hblk3.cells
  go_wp2_with fail
  go_end0
  exact item_end (g := 0) HblkX.out HI.out hHO.out hHD.out HK.out (fun k hk => Or.inl hk) (fun h => by simp at h) h4 hg
end Go.Proofs.YtpinoolagbghnaaDoor

namespace Go.Proofs.YtpinoolagbghnaaDoor
set_option linter.unusedVariables false
open Go.RowKit Pat

theorem _root_.Go.World.grownBy.undrewP {W w' : World} {row : Option Nat} (h : W.drew.grownBy w' row) : W.grownBy w' row := ⟨h.os, h.tape, h.output, h.size, h.block⟩

set_option maxRecDepth 100000 in
set_option maxHeartbeats 2000000 in
theorem item_place (B : Nat) (p : ByteArray) (b i n : Nat) (xs : List Value) (done : List Bool) (opened : List Nat) (vi vo vd : Value) (w : World) (hp : p.size ≤ 200) (hi : i < p.size) (hn : n ≤ 200) (hdn : done.length ≤ 200) (hop : opened.length ≤ 200)
    (hB : B ≤ b) (hblk : RdBlk w b 92 p i false vi vo vd) (hit : ItemRow B w vi n xs) (hopr : OpenRow B w vo opened) (hdr : DoneRow B w vd done)
    (hc : bt p i = 40) (hc2 : bt p (i + 1) = 41) (hl : i + 1 < p.size) :
    Calls Tryd.prog 33 #[.pointer (some ⟨b, 0, none⟩)] w fun e w' =>
      ItemPost B p b { kind := 1, n := done.length } { i := i + 2, done := done ++ [true], opened := opened } n xs vi vo vd w e w' := by
  have hbl := blk_lt hblk
  obtain ⟨c0, c1, c2, c3, c4, c5, f1, f2, f3, f4, f5⟩ := hblk.cells
  have hd0 : decide (i < p.size) = true := by simp; omega
  have hb0 := bt_nonneg p (i + 1)
  have hb255 := bt_le p (i + 1)
  have t1 : (bt p i == 40) = true := by simpa using hc
  have t3 : (bt p (i + 1) == 41) = true := by simpa using hc2
  have t2 : decide (i + 1 < p.size) = true := by simpa using hl
  have hbd : vd.ownBlock ≠ some b := own_ne_blk hdr hblk (by decide)
  have hbo : vo.ownBlock ≠ some b := own_ne_blk hopr hblk (by decide)
  have hbi : vi.ownBlock ≠ some b := own_ne_blk hit hblk (by decide)
  clear hc hc2 hl
  go_enter Tryd.func33, Tryd.ntmps33
  go_wp2_with fail
  refine (here_any p b i 0 _ (by omega) (by omega) (by omega) (by go_simp) (by go_simp)).mono ?_
  rintro e w' ⟨rfl, n1, rfl⟩
  go_wp2_with fail
  refine (here_any p b i 1 _ (by omega) (by omega) (by omega) (by go_simp) (by go_simp)).mono ?_
  rintro e w' ⟨rfl, n2, rfl⟩
  go_wp2_with (at_builtin; refine append_new (W := w.drewN _) (us := [.bool false]) rfl _ _ 34 rfl 4 rfl (.bool false) 1 1 Tryd.underlying34 info_bool rfl (by decide) B vd done.length (done.map Value.bool) rfl hdr rfl rfl (by intro u hu; simp at hu; subst hu; rfl) (by unfold maxLen; omega) (by omega) (by simp; omega) ?_)
  intro ad1 cd1 w1 hdr1 hg1 hn1
  obtain ⟨gd, rfl⟩ : ∃ gd, ad1 = some ⟨gd, 0, none⟩ := by
    rcases hdr1.2 with ⟨h, h0⟩ | ⟨g, cap, cur, h, _⟩
    · omega
    · simp only [Value.slice.injEq] at h; exact ⟨g, h.1⟩
  have hblk1 : RdBlk w1 b 92 p i false vi vo vd := RdBlk.grow (w := w.drewN _) hblk hg1 hbd
  have hopr1 : OpenRow B w1 vo opened := World.ownsRow.kept (w := w.drewN _) hopr hg1 (own_ne_own hopr hdr (by decide))
  have hit1 : ItemRow B w1 vi n xs := World.ownsRow.kept (w := w.drewN _) hit hg1 (own_ne_own hit hdr (by decide))
  have hbd1 : (Value.slice (some ⟨gd, 0, none⟩) (done.length + 1) cd1).ownBlock ≠ some b := own_ne_blk hdr1 hblk1 (by decide)
  have hgd : ¬ gd = b := fun h => hbd1 (by simp [Value.ownBlock, h])
  have hbl1 := blk_lt hblk1
  have hgl1 : gd < w1.heap.size := (hdr1.lt gd rfl).2
  have hw1 := hg1.size
  obtain ⟨d0, d1, d2, d3, d4, d5, e1, e2, e3, e4, e5⟩ := hblk1.cells
  clear c0 c1 c2 c3 c4 c5 f1 f2 f3 f4 f5
  have kw : IntKind.i64.wrap (done.length : Int) = done.length := IntWalk.i64_in _ (by omega)
  have hcell : w1.cell? ⟨gd, done.length, none⟩ = some (.bool false) := by
    have h := hdr1.cellAt done.length (by omega)
    rw [h, List.getElem?_append_right (by simp)]; simp
  have hfree := hdr1.frozenAt done.length
  have q5 : (0 : Int) ≤ done.length ∧ (done.length : Int) < (done.length : Int) + 1 := ⟨by omega, by omega⟩
  go_wp2_with fail
  go_region
  go_wp2_with fail
  obtain ⟨V, hV⟩ : ∃ V, V = (((w1.setCell ⟨b, 5, none⟩ (.slice (some ⟨gd, 0, none⟩) (done.length + 1) cd1)).setCell ⟨gd, done.length, none⟩ (.bool true)).setCell ⟨b, 1, none⟩ (.int .i64 ((i : Int) + 1))).setCell ⟨b, 1, none⟩ (.int .i64 ((i : Int) + 1 + 1)) := ⟨_, rfl⟩
  rw [← hV]
  obtain ⟨X3, hX3⟩ : ∃ X3, X3 = (V.alloc (.cells #[.int .i64 1, .slice none 0 0, .int .u8 0, .int .i64 (done.length : Int), .int .u8 0, .int .u8 0] 94)).drew := ⟨_, rfl⟩
  rw [← hX3]
  have hsV : V.heap.size = w1.heap.size := by rw [hV]; simp
  have hblkV : RdBlk V b 92 p (i + 2) false vi vo (.slice (some ⟨gd, 0, none⟩) (done.length + 1) cd1) := by rw [hV]; exact ((RdBlk.other (hblk1.done_ _) (a := ⟨gd, done.length, none⟩) (by simp; omega) _).at_ (j := i + 1) rfl).at_ (by omega)
  have hblkY : RdBlk X3 b 92 p (i + 2) false vi vo (.slice (some ⟨gd, 0, none⟩) (done.length + 1) cd1) := by rw [hX3]; exact hblkV.alloc _
  have hitY : X3.heap[w1.heap.size]? = some (.cells #[.int .i64 1, .slice none 0 0, .int .u8 0, .int .i64 (done.length : Int), .int .u8 0, .int .u8 0] 94 (0, 0)) := by rw [hX3, ← hsV]; exact blk_new V _
  have hgi : vi.ownBlock ≠ some gd := by
    have h := own_ne_own hit1 hdr1 (by decide)
    simp only [Value.ownBlock] at h ⊢
    rcases h with h | h
    · rw [h]; simp
    · exact h
  have hgo : vo.ownBlock ≠ some gd := by
    have h := own_ne_own hopr1 hdr1 (by decide)
    simp only [Value.ownBlock] at h ⊢
    rcases h with h | h
    · rw [h]; simp
    · exact h
  have hiY : ItemRow B X3 vi n xs := by
    rw [hX3, hV]
    exact World.ownsRow.alloc (ownsRow_setCell_other (a := ⟨b, 1, none⟩) (ownsRow_setCell_other (a := ⟨b, 1, none⟩) (ownsRow_setCell_other (a := ⟨gd, done.length, none⟩) (ownsRow_setCell_other (a := ⟨b, 5, none⟩) hit1 hbi _) hgi _) hbi _) hbi _) _
  have hoY : OpenRow B X3 vo opened := by
    rw [hX3, hV]
    exact World.ownsRow.alloc (ownsRow_setCell_other (a := ⟨b, 1, none⟩) (ownsRow_setCell_other (a := ⟨b, 1, none⟩) (ownsRow_setCell_other (a := ⟨gd, done.length, none⟩) (ownsRow_setCell_other (a := ⟨b, 5, none⟩) hopr1 hbo _) hgo _) hbo _) hbo _) _
  have hdY : DoneRow B X3 (.slice (some ⟨gd, 0, none⟩) (done.length + 1) cd1) (done ++ [true]) := by
    have h1 := ((ownsRow_setCell_other (a := ⟨b, 5, none⟩) hdr1 hbd1 (.slice (some ⟨gd, 0, none⟩) (done.length + 1) cd1)).stored done.length (.bool true)).1
    have hdl : (done.map Value.bool ++ [Value.bool false]).set done.length (.bool true) = (done ++ [true]).map Value.bool := by
      rw [List.set_append_right _ _ (by simp)]; simp
    rw [hdl] at h1
    rw [hX3, hV]
    show World.ownsRow _ _ _ _ _ _ _
    rw [List.length_append]
    exact World.ownsRow.alloc (ownsRow_setCell_other (a := ⟨b, 1, none⟩) (ownsRow_setCell_other (a := ⟨b, 1, none⟩) h1 hbd1 _) hbd1 _) _
  have hK1 : Keeps w.heap.size (b :: (obl vi ++ obl vo ++ obl vd)) w w1 := ((Keeps.refl _ _ w).drewN _).grow hg1 (by simp) (fun k hk => Or.inl (by simp [mem_obl, hk]))
  have hgdin : gd ∈ (b :: (obl vi ++ obl vo ++ obl vd)) ∨ w.heap.size ≤ gd := by
    rcases hn1 gd rfl with h | h
    · left; simp [mem_obl, h]
    · right; exact h
  have hKY : Keeps w.heap.size (b :: (obl vi ++ obl vo ++ obl vd)) w X3 := by
    rw [hX3, hV]
    exact (((((hK1.setCell (by simp) _).setCell hgdin _).setCell (by simp) _).setCell (by simp) _).alloc (by simp; exact hK1.size) _).drew
  have hone6 : ∀ u ∈ itemCells { kind := 1, n := done.length } 0, u.oneCell' = true := by intro u hu; simp [itemCells] at hu; rcases hu with rfl | rfl | rfl | rfl | rfl | rfl <;> rfl
  have hBY : B ≤ X3.heap.size := by rw [hX3]; simp; omega
  have hm3 : n + 1 ≤ maxLen := by unfold maxLen; omega
  have hm4 : (n + 1) * 56 ≤ 140737488355328 := by omega
  have HiY := hid hiY
  have HoY := hid hoY
  have HdY := hid hdY
  have HKY := hid hKY
  have Hone6 := hid hone6
  have HblkY := hid hblkY
  have Hn1 := hid hn1
  have hblY := blk_lt hblkY
  obtain ⟨z0, z1, z2, z3, z4, z5, v1, v2, v3, v4, v5⟩ := hblkY.cells
  obtain ⟨s0, s1, s2, s3, s4, s5⟩ : X3.cell? ⟨w1.heap.size, 0, none⟩ = some (.int .i64 1) ∧ X3.cell? ⟨w1.heap.size, 1, none⟩ = some (.slice none 0 0) ∧ X3.cell? ⟨w1.heap.size, 2, none⟩ = some (.int .u8 0) ∧ X3.cell? ⟨w1.heap.size, 3, none⟩ = some (.int .i64 (done.length : Int)) ∧ X3.cell? ⟨w1.heap.size, 4, none⟩ = some (.int .u8 0) ∧ X3.cell? ⟨w1.heap.size, 5, none⟩ = some (.int .u8 0) :=
    ⟨blk_cell hitY 0, blk_cell hitY 1, blk_cell hitY 2, blk_cell hitY 3, blk_cell hitY 4, blk_cell hitY 5⟩
  clear hV hX3 hsV hblkV hblkY hitY hiY hoY hdY hK1 hgdin hKY hone6 d0 d1 d2 d3 d4 d5 e1 e2 e3 e4 e5 hcell hfree hgi hgo hn1
  go_region_law (first | (refine step_append_new (W := X3.drew) (us := itemCells { kind := 1, n := done.length } 0) rfl (.tmp 141) (.tmp 143) 33 rfl 94 rfl (.agg #[.int .i64 0, .slice none 0 0, .int .u8 0, .int .i64 0, .int .u8 0, .int .u8 0]) 6 56 Tryd.underlying33 info_item rfl (by decide) B vi n xs (by first | simp [Act.eval] | simp [Act.eval, Act.put]) HiY.out (by first | simp [Act.eval] | simp [Act.eval, Act.put]) rfl Hone6.out hm3 hm4 hBY ?_; intro ao3 co3 w3 hi4 hg3 hn3; have hblk4 := RdBlk.grow (w' := w3) HblkY.out hg3.undrewP hbi; obtain ⟨k0, k1, k2, k3, k4, k5, l1, l2, l3, l4, l5⟩ := hblk4.cells))
  all_goals
    go_wp2_with fail
    go_end0
    exact item_end (g := 0) HblkY.out HiY.out HoY.out HdY.out HKY.out Hn1.out (fun h => by simp at h) hi4 hg3.undrewP
end Go.Proofs.YtpinoolagbghnaaDoor
