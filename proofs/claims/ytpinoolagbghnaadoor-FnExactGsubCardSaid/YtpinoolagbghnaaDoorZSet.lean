/-
  Walks: the reader of the reference: here, and set: a set of a pattern is read as the plain word setAt says.
-/
import Derived.Test.YtpinoolagbghnaaDoorZEsc
namespace Go.Proofs.YtpinoolagbghnaaDoor
set_option linter.unusedVariables false
open Go.RowKit Pat

theorem info_bool : (Tryd.prog.info? 4).map (fun i => (i.zero, i.size, i.bytes)) = some (some (.bool false), 1, 1) := by kernel_rfl

theorem make256 (w : World) : (Instr.makeSlice 34 (.int .i64 256) (.int .i64 256)).run Tryd.prog w = .ok (.slice (some ⟨w.heap.size, 0, none⟩) 256 256) (w.alloc (.cells (madeCells #[.bool false] 256) 4)) := by
  obtain ⟨i, hi, hz0, hz1, hz2⟩ := info_parts info_bool
  have := run_make (P := Tryd.prog) w 34 4 i (.bool false) Tryd.underlying34 hi hz0 .i64 .i64 256 256 (by decide) (by decide) (by rw [hz2]; decide) (by decide)
  rw [hz1] at this
  exact this

/-- The reader's block. -/
def RdBlk (w : World) (b t : Nat) (p : ByteArray) (i : Nat) (bad : Bool) (vi vo vd : Value) : Prop :=
  w.heap[b]? = some (.cells #[.string p, .int .i64 i, .bool bad, vi, vo, vd] t (0, 0))

theorem RdBlk.cells {w : World} {b t : Nat} {p : ByteArray} {i : Nat} {bad : Bool} {vi vo vd : Value} (h : RdBlk w b t p i bad vi vo vd) :
    w.cell? ⟨b, 0, none⟩ = some (.string p) ∧ w.cell? ⟨b, 1, none⟩ = some (.int .i64 i) ∧ w.cell? ⟨b, 2, none⟩ = some (.bool bad) ∧
    w.cell? ⟨b, 3, none⟩ = some vi ∧ w.cell? ⟨b, 4, none⟩ = some vo ∧ w.cell? ⟨b, 5, none⟩ = some vd ∧
    w.frozen? ⟨b, 1, none⟩ = false ∧ w.frozen? ⟨b, 2, none⟩ = false ∧ w.frozen? ⟨b, 3, none⟩ = false ∧ w.frozen? ⟨b, 4, none⟩ = false ∧ w.frozen? ⟨b, 5, none⟩ = false :=
  ⟨blk_cell h 0, blk_cell h 1, blk_cell h 2, blk_cell h 3, blk_cell h 4, blk_cell h 5, blk_free h 1, blk_free h 2, blk_free h 3, blk_free h 4, blk_free h 5⟩

theorem here_any (p : ByteArray) (b i d : Nat) (w : World) (hp : p.size ≤ 1000) (hi : i ≤ 1010) (hd : d ≤ 10)
    (c0 : w.cell? ⟨b, 0, none⟩ = some (.string p)) (c1 : w.cell? ⟨b, 1, none⟩ = some (.int .i64 i)) :
    Calls Tryd.prog 42 #[.pointer (some ⟨b, 0, none⟩), .int .i64 d] w fun e w' => e = .returned (.tuple #[.int .u8 (bt p (i + d)), .bool (decide (i + d < p.size))]) ∧ ∃ n, w' = w.drewN n := by
  have k1 : 0 ≤ (i : Int) + d := by omega
  have k2 : ((i : Int) + d).toNat = i + d := by omega
  have k3 : IntKind.i64.wrap ((i : Int) + d) = (i : Int) + d := IntWalk.i64_in _ (by omega)
  by_cases h : i + d < p.size
  · have h1 : decide ((i : Int) + d < p.size) = true := decide_eq_true (by omega)
    have h2 := bt_of_lt h
    have h3 : (0 : Int) ≤ i + d ∧ (i : Int) + d < p.size := ⟨by omega, by omega⟩
    have H2 := hid h2
    clear h2
    go_enter Tryd.func42, Tryd.ntmps42
    go_wp2
    go_quiet (fail)
    go_wp2
    go_quiet (fail)
    go_wp2
    go_ret2
    exact ⟨ret_ib H2.out.symm (by simp [h]), _, World.drewN_drewN _ _ _⟩
  · have h1 : decide ((i : Int) + d < p.size) = false := decide_eq_false (by omega)
    have H2 := hid (bt_of_ge (s := p) (i := i + d) (by omega))
    go_enter Tryd.func42, Tryd.ntmps42
    go_wp2
    go_quiet (fail)
    go_wp2
    go_ret2
    exact ⟨ret_ib H2.out.symm (by simp [h]), _, rfl⟩

/-- What the reader's set leaves. -/
def SetPost (p : ByteArray) (b t i : Nat) (vi vo vd : Value) (w : World) (e : Ending) (w' : World) : Prop :=
  ∃ g f' bad' i', e = .returned (.slice (some ⟨g, 0, none⟩) 256 256) ∧ w.heap.size ≤ g ∧ RdBlk w' b t p i' bad' vi vo vd ∧ BoolRow w' g 4 256 f' ∧ Keeps w.heap.size [b] w w' ∧ i' ≤ p.size + 5 ∧
    (∀ f j, setAt p i = some (f, j) → bad' = false ∧ i' = j ∧ ∀ n, n < 256 → f' n = f n) ∧ (setAt p i = none → bad' = true)

theorem set_bad {p : ByteArray} {b t i g k : Nat} {f : Nat → Bool} {vi vo vd : Value} {w w' : World} (hn : setAt p i = none) (hg : w.heap.size ≤ g) (hr : RdBlk w' b t p k true vi vo vd) (hf : BoolRow w' g 4 256 f)
    (hk : Keeps w.heap.size [b] w w') (hi : k ≤ p.size + 5) : SetPost p b t i vi vo vd w (.returned (.slice (some ⟨g, 0, none⟩) 256 256)) w' :=
  ⟨g, f, true, k, rfl, hg, hr, hf, hk, hi, (fun _ _ h => by rw [hn] at h; cases h), fun _ => rfl⟩
theorem set_good {p : ByteArray} {b t i g k : Nat} {f h : Nat → Bool} {vi vo vd : Value} {w w' : World} (hn : setAt p i = some (h, k)) (hg : w.heap.size ≤ g) (hr : RdBlk w' b t p k false vi vo vd) (hf : BoolRow w' g 4 256 f)
    (hk : Keeps w.heap.size [b] w w') (hh : ∀ n, n < 256 → f n = h n) : SetPost p b t i vi vo vd w (.returned (.slice (some ⟨g, 0, none⟩) 256 256)) w' :=
  ⟨g, f, false, k, rfl, hg, hr, hf, hk, by have := (setAt_le hn).2; omega, fun f' j' h' => by rw [hn] at h'; simp only [Option.some.injEq, Prod.mk.injEq] at h'; obtain ⟨rfl, rfl⟩ := h'; exact ⟨rfl, rfl, hh⟩, fun h' => by rw [hn] at h'; cases h'⟩

theorem Keeps.undrewN {B : Nat} {S : List Nat} {w w' : World} {n : Nat} (h : Keeps B S (w.drewN n) w') : Keeps B S w w' := ⟨h.os, h.tape, h.output, h.size, h.block⟩
theorem RdBlk.at_ {w : World} {b t : Nat} {p : ByteArray} {i : Nat} {bad : Bool} {vi vo vd : Value} (h : RdBlk w b t p i bad vi vo vd) {x : Int} {j : Nat} (hx : x = j) : RdBlk (w.setCell ⟨b, 1, none⟩ (.int .i64 x)) b t p j bad vi vo vd := by
  subst hx; exact blk_set h 1 _
theorem RdBlk.bad_ {w : World} {b t : Nat} {p : ByteArray} {i : Nat} {bad : Bool} {vi vo vd : Value} (h : RdBlk w b t p i bad vi vo vd) (x : Bool) : RdBlk (w.setCell ⟨b, 2, none⟩ (.bool x)) b t p i x vi vo vd := blk_set h 2 _
theorem RdBlk.alloc {w : World} {b t : Nat} {p : ByteArray} {i : Nat} {bad : Bool} {vi vo vd : Value} (h : RdBlk w b t p i bad vi vo vd) (o : Obj) : RdBlk (w.alloc o) b t p i bad vi vo vd := blk_alloc h _
theorem RdBlk.kept {w w' : World} {b t : Nat} {p : ByteArray} {i : Nat} {bad : Bool} {vi vo vd : Value} {B : Nat} {S : List Nat} (h : RdBlk w b t p i bad vi vo vd) (hk : Keeps B S w w') (hB : b < B) (hS : b ∉ S) : RdBlk w' b t p i bad vi vo vd := hk.blk h hB hS
theorem RdBlk.other {w : World} {b t : Nat} {p : ByteArray} {i : Nat} {bad : Bool} {vi vo vd : Value} (h : RdBlk w b t p i bad vi vo vd) {a : Addr} (ha : b ≠ a.block) (v : Value) : RdBlk (w.setCell a v) b t p i bad vi vo vd := blk_set_other h ha v

theorem no_range {p : ByteArray} {k : Nat} (h : ¬ (k + 2 < p.size ∧ bt p (k + 1) = 45 ∧ bt p (k + 2) ≠ 93 ∧ bt p (k + 2) ≠ 37)) :
    decide (k + 2 < p.size) = false ∨ (decide (k + 2 < p.size) = true ∧ (bt p (k + 1) == 45) = false) ∨ (decide (k + 2 < p.size) = true ∧ (bt p (k + 1) == 45) = true ∧ (bt p (k + 2) == 93) = true ∧ (bt p (k + 2) != 93) = false) ∨
      (decide (k + 2 < p.size) = true ∧ (bt p (k + 1) == 45) = true ∧ (bt p (k + 2) == 93) = false ∧ (bt p (k + 2) != 93) = true ∧ (bt p (k + 2) == 37) = true ∧ (bt p (k + 2) != 37) = false) := by
  by_cases a1 : k + 2 < p.size <;> by_cases a2 : bt p (k + 1) = 45 <;> by_cases a3 : bt p (k + 2) = 93 <;> by_cases a4 : bt p (k + 2) = 37 <;> simp_all
theorem one_add {c : Int} (h0 : 0 ≤ c) (f : Nat → Bool) (j : Nat) : (if j = c.toNat then true else f j) = (f j || decide ((j : Int) = c)) := by
  by_cases h1 : (j : Int) = c
  · rw [if_pos (by omega), decide_eq_true h1, Bool.or_true]
  · rw [if_neg (by omega), decide_eq_false h1, Bool.or_false]
theorem no_close {p : ByteArray} {k : Nat} {fb : Bool} (h : ¬ (bt p k = 93 ∧ fb = false)) : (bt p k == 93) = false ∨ ((bt p k == 93) = true ∧ fb = true) := by
  by_cases h1 : bt p k = 93
  · right; exact ⟨by simpa using h1, by cases fb <;> simp_all⟩
  · left; simpa using h1

set_option maxRecDepth 100000 in
set_option maxHeartbeats 8000000 in
theorem set_turned (p : ByteArray) (b t i : Nat) (vi vo vd : Value) (w : World) (hp : p.size ≤ 200) (hi : i < p.size) (hb : RdBlk w b t p i false vi vo vd) (ht : bt p (i + 1) = 94) :
    Calls Tryd.prog 43 #[.pointer (some ⟨b, 0, none⟩)] w fun e w' => SetPost p b t i vi vo vd w e w' := by
  have hlt := blk_lt hb
  have hi1 : i + 1 < p.size := by
    apply Nat.lt_of_not_le
    intro hle
    rw [bt_of_ge hle] at ht
    omega
  have HA := hid (setAt_turned hi1 ht)
  obtain ⟨R, hR⟩ : ∃ R, setGo p (p.size - i) (i + 2) true (fun _ => false) = R := ⟨_, rfl⟩
  rw [hR] at HA
  have HR := hid hR
  clear hR
  obtain ⟨c0, c1, c2, c3, c4, c5, f1, f2, f3, f4, f5⟩ := hb.cells
  have hmk := make256
  go_enter Tryd.func43, Tryd.ntmps43
  go_wp2_with fail
  refine (here_any p b (i + 1) 0 _ (by omega) (by omega) (by omega) (by go_simp) (by go_simp)).mono ?_
  rintro e w' ⟨rfl, n1, rfl⟩
  have ht' : (bt p (i + 1) == 94) = true := by simpa using ht
  go_wp2_with fail
  clear c0 c1 c2 c3 c4 c5 f1 f2 f3 f4 f5 hmk
  have hbs := (((hb.at_ (x := (i : Int) + 1) (j := i + 1) rfl).alloc (.cells (madeCells #[.bool false] 256) 4)).at_ (x := (i : Int) + 1 + 1) (j := i + 2) (by omega))
  have hrs0 := World.rowIs_made (w.setCell ⟨b, 1, none⟩ (.int .i64 ((i : Int) + 1))) (.bool false) 256 4
  rw [World.size_setCell] at hrs0
  have hrs : BoolRow _ w.heap.size 4 256 (fun _ => false) := hrs0.setOther (a := ⟨b, 1, none⟩) (by simp; omega) (.int .i64 ((i : Int) + 1 + 1))
  clear hrs0
  go_loopg [7] (p.size - i) (fun gk first wr => ∃ (k : Nat) (fb : Bool) (f : Nat → Bool), first = .bool fb ∧ RdBlk wr b t p k false vi vo vd ∧ BoolRow wr w.heap.size 4 256 f ∧ Keeps w.heap.size [b] w wr ∧ p.size ≤ k + gk ∧ k ≤ p.size + 3 ∧ Hid (setGo p gk k fb f = R))
  case atStart => exact ⟨i + 2, true, fun _ => false, rfl, hbs, hrs, (by repeat (first | assumption | exact Keeps.refl _ _ _ | (refine Keeps.setCell ?_ (by simp) _) | (refine Keeps.drewN ?_ _) | (refine Keeps.alloc ?_ (by simp) _))), by omega, by omega, HR⟩
  case round =>
    obtain ⟨k, fb, f, rfl, hblk, hrow, hkp, hk1, hk2, HG⟩ := hrel
    have hbl : b < wr.heap.size := by have := hkp.size; omega
    have hgb : ¬ w.heap.size = b := by omega
    have hgl : w.heap.size < wr.heap.size := hrow.lt
    obtain ⟨c0, c1, c2, c3, c4, c5, f1, f2, f3, f4, f5⟩ := hblk.cells
    by_cases h0 : p.size ≤ k
    · have hd0 : decide (k < p.size) = false := by simp; omega
      have HN : Hid (setAt p i = none) := by
        have := HG.out
        rw [setGo_end h0] at this
        have h' := HA.out
        rw [h', ← this]
        rfl
      clear HG HA
      go_wp2_with fail
      refine (here_any p b k 0 _ (by omega) (by omega) (by omega) (by go_simp) (by go_simp)).mono ?_
      rintro e w' ⟨rfl, n1, rfl⟩
      go_wp2_with fail
      go_ret
      exact set_bad HN.out (Nat.le_refl _) (hblk.bad_ true) (hrow.setOther (by simpa using hgb) _) (by repeat (first | assumption | exact Keeps.refl _ _ _ | (refine Keeps.setCell ?_ (by simp) _) | (refine Keeps.drewN ?_ _) | (refine Keeps.alloc ?_ (by simp) _))) (by omega)
    · have hk0 : k < p.size := by omega
      have hd0 : decide (k < p.size) = true := by simp; omega
      obtain ⟨gk', rfl⟩ : ∃ m, gk = m + 1 := ⟨gk - 1, by omega⟩
      by_cases hc : bt p k = 93 ∧ fb = false
      · obtain ⟨hc, rfl⟩ := hc
        have hc' : (bt p k == 93) = true := by simpa using hc
        have HN : Hid (setAt p i = some ((fun b => !f b), k + 1)) := by
          have h1 := HG.out
          rw [setGo_close hk0 hc] at h1
          have h2 := HA.out
          rw [h2, ← h1]
          rfl
        clear HG HA hc
        go_wp2_with fail
        refine (here_any p b k 0 _ (by omega) (by omega) (by omega) (by go_simp) (by go_simp)).mono ?_
        rintro e w' ⟨rfl, n1, rfl⟩
        go_wp2_with fail
        clear c0 c1 c2 c3 c4 c5 f1 f2 f3 f4 f5 hc' hd0
        have hblk2 := (hblk : RdBlk (wr.drewN n1) b t p k false vi vo vd).at_ (x := (k : Int) + 1) (j := k + 1) rfl
        have hrow2 : BoolRow ((wr.drewN n1).setCell ⟨b, 1, none⟩ (.int .i64 ((k : Int) + 1))) w.heap.size 4 256 f := World.rowIs.setOther (w := wr.drewN n1) hrow (by simpa using hgb) _
        have hkp2 : Keeps w.heap.size [b] w ((wr.drewN n1).setCell ⟨b, 1, none⟩ (.int .i64 ((k : Int) + 1))) := (by repeat (first | assumption | exact Keeps.refl _ _ _ | (refine Keeps.setCell ?_ (by simp) _) | (refine Keeps.drewN ?_ _) | (refine Keeps.alloc ?_ (by simp) _)))
        clear hblk hrow hkp
        obtain ⟨wo, hwo⟩ : ∃ wo : World, wo = wr := ⟨_, rfl⟩
        subst hwo
        go_loopw [140] (fun c wr => ∃ n : Nat, n ≤ 256 ∧ c = .int .i64 n ∧ RdBlk wr b t p (k + 1) false vi vo vd ∧ BoolRow wr w.heap.size 4 256 (fun b => if b < n then !f b else f b) ∧ Keeps w.heap.size [b] w wr) (fun c _ => 256 - (intOf c).toNat)
        case atStart => exact ⟨0, by omega, rfl, hblk2, hrow2.congr fun _ _ => by simp, hkp2⟩
        case round =>
          obtain ⟨n, hn, rfl, hblk3, hrow3, hkp3⟩ := hrel
          by_cases hlt : n < 256
          · have hcell := hrow3.cell hlt
            simp only [Nat.lt_irrefl, if_false] at hcell
            have hfree := hrow3.frozen n
            go_wp2_with fail
            go_roundw
            case rel =>
              refine ⟨n + 1, by omega, by go_num, hblk3.other (by simp; omega) _, (hrow3.set n (!f n)).congr fun j hj => ?_, hkp3.setCell (by simp) _⟩
              by_cases h1 : j = n
              · subst h1; simp
              · have : (j < n + 1) ↔ j < n := by omega
                simp [h1, this]
            case measure => simp [intOf]; omega
          · obtain rfl : n = 256 := by omega
            go_wp2_with fail
            go_ret
            exact set_good HN.out (Nat.le_refl _) hblk3 hrow3 hkp3 (fun n hn => by simp [hn])
      · have hb0 := bt_nonneg p k
        have hb255 := bt_le p k
        have hb10 := bt_nonneg p (k + 1)
        have hb1255 := bt_le p (k + 1)
        have hb20 := bt_nonneg p (k + 2)
        have hb2255 := bt_le p (k + 2)
        by_cases hp37 : bt p k = 37
        · have hp37' : (bt p k == 37) = true := by simpa using hp37
          have hc93 : (bt p k == 93) = false := by rw [hp37]; rfl
          have Hp := hid hp37
          clear hp37 hc
          go_wp2_with fail
          refine (here_any p b k 0 _ (by omega) (by omega) (by omega) (by go_simp) (by go_simp)).mono ?_
          rintro e w' ⟨rfl, n1, rfl⟩
          go_wp2_with fail
          refine (here_any p b k 1 _ (by omega) (by omega) (by omega) (by go_simp) (by go_simp)).mono ?_
          rintro e w' ⟨rfl, n2, rfl⟩
          go_wp2_with fail
          refine (here_any p b k 2 _ (by omega) (by omega) (by omega) (by go_simp) (by go_simp)).mono ?_
          rintro e w' ⟨rfl, n3, rfl⟩
          by_cases h1 : p.size ≤ k + 1
          · have hd1 : decide (k + 1 < p.size) = false := by simp; omega
            have HN : Hid (setAt p i = none) := by
              have := HG.out
              rw [setGo_short hk0 Hp.out h1] at this
              have h' := HA.out
              rw [h', ← this]
              rfl
            clear HG HA
            go_wp2_with fail
            go_ret
            exact set_bad HN.out (Nat.le_refl _) (hblk.bad_ true) (hrow.setOther (by simpa using hgb) _) (by repeat (first | assumption | exact Keeps.refl _ _ _ | (refine Keeps.setCell ?_ (by simp) _) | (refine Keeps.drewN ?_ _) | (refine Keeps.alloc ?_ (by simp) _))) (by omega)
          · have hd1 : decide (k + 1 < p.size) = true := by simp; omega
            have hk3 : k + 1 < p.size := by omega
            obtain ⟨E, hE⟩ : ∃ E, esc (bt p (k + 1)) = E := ⟨_, rfl⟩
            have HE := hid hE
            clear hE
            go_wp2_with fail
            refine (esc_any w.heap.size f (bt p (k + 1)) (bt_nonneg _ _) (bt_le _ _) _ (by exact hrow)).mono ?_
            rintro e w2 ⟨rfl, ⟨f2', hrow2, hes⟩, hke⟩
            have hke := hke.undrewN
            rw [HE.out] at hes ⊢
            have hblk2 := hblk.kept hke hbl (by simp; omega)
            have hkp2 : Keeps w.heap.size [b] w w2 := hkp.andThen hke (by simp; omega) (by simp)
            obtain ⟨d0, d1, d2, d3, d4, d5, g1, g2, g3, g4, g5⟩ := hblk2.cells
            clear c0 c1 c2 c3 c4 c5 f1 f2 f3 f4 f5
            cases E with
            | none =>
              have HN : Hid (setAt p i = none) := by
                have := HG.out
                rw [setGo_bad hk0 Hp.out HE.out] at this
                have h' := HA.out
                rw [h', ← this]
                rfl
              clear HG HA
              go_wp2_with fail
              go_ret
              exact set_bad HN.out (Nat.le_refl _) (hblk2.bad_ true) (hrow2.setOther (by simpa using hgb) _) (by repeat (first | assumption | exact Keeps.refl _ _ _ | (refine Keeps.setCell ?_ (by simp) _) | (refine Keeps.drewN ?_ _) | (refine Keeps.alloc ?_ (by simp) _))) (by omega)
            | some h =>
              have HN := HG.out
              rw [setGo_esc hk0 Hp.out hk3 HE.out] at HN
              have HN := hid HN
              have hes := hes h rfl
              clear HG
              go_wp2_with fail
              go_roundg gk'
              case measure => omega
              case rel => exact ⟨k + 2, false, _, rfl, hblk2.at_ (by omega), World.rowIs.setOther (hrow2.congr fun j hj => by first | rw [hes j hj] | (dsimp only; rw [hes j hj])) (by simpa using hgb) _, (by repeat (first | assumption | exact Keeps.refl _ _ _ | (refine Keeps.setCell ?_ (by simp) _) | (refine Keeps.drewN ?_ _) | (refine Keeps.alloc ?_ (by simp) _))), by omega, by omega, HN⟩
        · have hp37' : (bt p k == 37) = false := by simpa using hp37
          have hcc := no_close hc
          by_cases hr : k + 2 < p.size ∧ bt p (k + 1) = 45 ∧ bt p (k + 2) ≠ 93 ∧ bt p (k + 2) ≠ 37
          · have HN := HG.out
            rw [setGo_range hk0 hc hp37 hr] at HN
            have HN := hid HN
            obtain ⟨r1, r2, r3, r4⟩ := hr
            have q1 : decide (k + 2 < p.size) = true := by simp; omega
            have q2 : (bt p (k + 1) == 45) = true := by simpa using r2
            have q3 : (bt p (k + 2) == 93) = false := by simpa using r3
            have q4 : (bt p (k + 2) == 37) = false := by simpa using r4
            have q5 : (bt p (k + 2) != 93) = true := by simpa using r3
            have q6 : (bt p (k + 2) != 37) = true := by simpa using r4
            obtain ⟨cn, hcn⟩ := Int.eq_ofNat_of_zero_le hb0
            have HC := hid hcn
            have hst : BoolRow wr w.heap.size 4 256 (fun b => f b || (decide (cn ≤ b) && decide (b < cn))) := hrow.congr fun j _ => by
              have : (decide (cn ≤ j) && decide (j < cn)) = false := by rw [Bool.and_eq_false_iff]; simp; omega
              dsimp only
              rw [this, Bool.or_false]
            clear hcn r1 r2 r3 r4 HG hc hp37
            rcases hcc with hcc | ⟨hcc, hfb⟩
            all_goals
              go_wp2_with fail
              refine (here_any p b k 0 _ (by omega) (by omega) (by omega) (by go_simp) (by go_simp)).mono ?_
              rintro e w' ⟨rfl, n1, rfl⟩
              go_wp2_with fail
              refine (here_any p b k 1 _ (by omega) (by omega) (by omega) (by go_simp) (by go_simp)).mono ?_
              rintro e w' ⟨rfl, n2, rfl⟩
              go_wp2_with fail
              refine (here_any p b k 2 _ (by omega) (by omega) (by omega) (by go_simp) (by go_simp)).mono ?_
              rintro e w' ⟨rfl, n3, rfl⟩
              go_wp2_with fail
              clear c0 c1 c2 c3 c4 c5 f1 f2 f3 f4 f5 hcc
              obtain ⟨wo, hwo⟩ : ∃ wo : World, wo = wr := ⟨_, rfl⟩
              subst hwo
              go_loopw [14] (fun c wr => ∃ n : Nat, cn ≤ n ∧ (n ≤ cn ∨ (n : Int) ≤ bt p (k + 2) + 1) ∧ c = .int .i64 n ∧ RdBlk wr b t p k false vi vo vd ∧ BoolRow wr w.heap.size 4 256 (fun b => f b || (decide (cn ≤ b) && decide (b < n))) ∧ Keeps w.heap.size [b] w wr) (fun c _ => 256 - (intOf c).toNat)
              case atStart => exact ⟨cn, Nat.le_refl _, Or.inl (Nat.le_refl _), by rw [HC.out], hblk, hst, (by repeat (first | assumption | exact Keeps.refl _ _ _ | (refine Keeps.setCell ?_ (by simp) _) | (refine Keeps.drewN ?_ _) | (refine Keeps.alloc ?_ (by simp) _)))⟩
              case round =>
                obtain ⟨n, hn1, hn2, rfl, hblk3, hrow3, hkp3⟩ := hrel
                have hcb : (cn : Int) ≤ 255 := by rw [← HC.out]; exact hb255
                by_cases hle : (n : Int) ≤ bt p (k + 2)
                · have hn256 : n < 256 := by omega
                  have hcell := hrow3.cell hn256
                  have hfree := hrow3.frozen n
                  go_wp2_with fail
                  go_roundw
                  case rel =>
                    refine ⟨n + 1, by omega, by omega, by go_num, hblk3.other (by simp; omega) _, (hrow3.set n true).congr fun j hj => ?_, hkp3.setCell (by simp) _⟩
                    by_cases h1 : j = n
                    · subst h1; simp; omega
                    · have : (j < n + 1) ↔ j < n := by omega
                      simp [h1, this]
                  case measure => simp [intOf]; omega
                · obtain ⟨d0, d1, d2, d3, d4, d5, g1, g2, g3, g4, g5⟩ := hblk3.cells
                  go_wp2_with fail
                  go_roundg gk'
                  case measure => omega
                  case rel =>
                    refine ⟨k + 3, false, _, rfl, hblk3.at_ (by omega), World.rowIs.setOther (hrow3.congr fun j hj => ?_) (by simpa using hgb) _, (by repeat (first | assumption | exact Keeps.refl _ _ _ | (refine Keeps.setCell ?_ (by simp) _) | (refine Keeps.drewN ?_ _) | (refine Keeps.alloc ?_ (by simp) _))), by omega, by omega, HN⟩
                    have e1 : bt p k = (cn : Int) := HC.out
                    have e2 : (decide (cn ≤ j) && decide (j < n)) = (decide (bt p k ≤ (j : Int)) && decide ((j : Int) ≤ bt p (k + 2))) := by
                      rw [Bool.eq_iff_iff, e1]
                      simp
                      omega
                    dsimp only
                    rw [e2]
          · have HN := HG.out
            rw [setGo_one hk0 hc hp37 hr] at HN
            have HN := hid HN
            have hr' := no_range hr
            have hcell := hrow.cell (i := (bt p k).toNat) (by omega)
            have hfree := hrow.frozen (bt p k).toNat
            clear HG hc hp37 hr
            rcases hcc with hcc | ⟨hcc, hfb⟩
            all_goals
              rcases hr' with q | ⟨q, q2⟩ | ⟨q, q2, q3, q5⟩ | ⟨q, q2, q3, q5, q4, q6⟩
            all_goals
              go_wp2_with fail
              refine (here_any p b k 0 _ (by omega) (by omega) (by omega) (by go_simp) (by go_simp)).mono ?_
              rintro e w' ⟨rfl, n1, rfl⟩
              go_wp2_with fail
              refine (here_any p b k 1 _ (by omega) (by omega) (by omega) (by go_simp) (by go_simp)).mono ?_
              rintro e w' ⟨rfl, n2, rfl⟩
              go_wp2_with fail
              refine (here_any p b k 2 _ (by omega) (by omega) (by omega) (by go_simp) (by go_simp)).mono ?_
              rintro e w' ⟨rfl, n3, rfl⟩
              go_wp2_with fail
              go_roundg gk'
              case measure => omega
              case rel =>
                refine ⟨k + 1, false, _, rfl, RdBlk.at_ (RdBlk.other (w := wr.drewN _) hblk (by simp; omega) _) (by omega), World.rowIs.setOther ((BoolRow.set (w := wr.drewN _) hrow (bt p k).toNat true).congr fun j hj => ?_) (by simpa using hgb) _, (by repeat (first | assumption | exact Keeps.refl _ _ _ | (refine Keeps.setCell ?_ (by simp) _) | (refine Keeps.drewN ?_ _) | (refine Keeps.alloc ?_ (by simp) _))), by omega, by omega, HN⟩
                exact congrArg Value.bool (one_add hb0 f j)

set_option maxRecDepth 100000 in
set_option maxHeartbeats 8000000 in
theorem set_plain (p : ByteArray) (b t i : Nat) (vi vo vd : Value) (w : World) (hp : p.size ≤ 200) (hi : i < p.size) (hb : RdBlk w b t p i false vi vo vd) (ht : bt p (i + 1) ≠ 94) :
    Calls Tryd.prog 43 #[.pointer (some ⟨b, 0, none⟩)] w fun e w' => SetPost p b t i vi vo vd w e w' := by
  have hlt := blk_lt hb
  have HA := hid (setAt_plain (p := p) (i := i) ht)
  obtain ⟨R, hR⟩ : ∃ R, setGo p (p.size - i) (i + 1) true (fun _ => false) = R := ⟨_, rfl⟩
  rw [hR] at HA
  have HR := hid hR
  clear hR
  obtain ⟨c0, c1, c2, c3, c4, c5, f1, f2, f3, f4, f5⟩ := hb.cells
  have hmk := make256
  go_enter Tryd.func43, Tryd.ntmps43
  go_wp2_with fail
  refine (here_any p b (i + 1) 0 _ (by omega) (by omega) (by omega) (by go_simp) (by go_simp)).mono ?_
  rintro e w' ⟨rfl, n1, rfl⟩
  have ht' : (bt p (i + 1) == 94) = false := by simpa using ht
  go_wp2_with fail
  clear c0 c1 c2 c3 c4 c5 f1 f2 f3 f4 f5 hmk
  have hbs := ((hb.at_ (x := (i : Int) + 1) (j := i + 1) rfl).alloc (.cells (madeCells #[.bool false] 256) 4))
  have hrs0 := World.rowIs_made (w.setCell ⟨b, 1, none⟩ (.int .i64 ((i : Int) + 1))) (.bool false) 256 4
  rw [World.size_setCell] at hrs0
  have hrs : BoolRow _ w.heap.size 4 256 (fun _ => false) := hrs0
  clear hrs0
  go_loopg [7] (p.size - i) (fun gk first wr => ∃ (k : Nat) (fb : Bool) (f : Nat → Bool), first = .bool fb ∧ RdBlk wr b t p k false vi vo vd ∧ BoolRow wr w.heap.size 4 256 f ∧ Keeps w.heap.size [b] w wr ∧ p.size ≤ k + gk ∧ k ≤ p.size + 3 ∧ Hid (setGo p gk k fb f = R))
  case atStart => exact ⟨i + 1, true, fun _ => false, rfl, hbs, hrs, (by repeat (first | assumption | exact Keeps.refl _ _ _ | (refine Keeps.setCell ?_ (by simp) _) | (refine Keeps.drewN ?_ _) | (refine Keeps.alloc ?_ (by simp) _))), by omega, by omega, HR⟩
  case round =>
    obtain ⟨k, fb, f, rfl, hblk, hrow, hkp, hk1, hk2, HG⟩ := hrel
    have hbl : b < wr.heap.size := by have := hkp.size; omega
    have hgb : ¬ w.heap.size = b := by omega
    have hgl : w.heap.size < wr.heap.size := hrow.lt
    obtain ⟨c0, c1, c2, c3, c4, c5, f1, f2, f3, f4, f5⟩ := hblk.cells
    by_cases h0 : p.size ≤ k
    · have hd0 : decide (k < p.size) = false := by simp; omega
      have HN : Hid (setAt p i = none) := by
        have := HG.out
        rw [setGo_end h0] at this
        have h' := HA.out
        rw [h', ← this]
        rfl
      clear HG HA
      go_wp2_with fail
      refine (here_any p b k 0 _ (by omega) (by omega) (by omega) (by go_simp) (by go_simp)).mono ?_
      rintro e w' ⟨rfl, n1, rfl⟩
      go_wp2_with fail
      go_ret
      exact set_bad HN.out (Nat.le_refl _) (hblk.bad_ true) (hrow.setOther (by simpa using hgb) _) (by repeat (first | assumption | exact Keeps.refl _ _ _ | (refine Keeps.setCell ?_ (by simp) _) | (refine Keeps.drewN ?_ _) | (refine Keeps.alloc ?_ (by simp) _))) (by omega)
    · have hk0 : k < p.size := by omega
      have hd0 : decide (k < p.size) = true := by simp; omega
      obtain ⟨gk', rfl⟩ : ∃ m, gk = m + 1 := ⟨gk - 1, by omega⟩
      by_cases hc : bt p k = 93 ∧ fb = false
      · obtain ⟨hc, rfl⟩ := hc
        have hc' : (bt p k == 93) = true := by simpa using hc
        have HN : Hid (setAt p i = some (f, k + 1)) := by
          have h1 := HG.out
          rw [setGo_close hk0 hc] at h1
          have h2 := HA.out
          rw [h2, ← h1]
          rfl
        clear HG HA hc
        go_wp2_with fail
        refine (here_any p b k 0 _ (by omega) (by omega) (by omega) (by go_simp) (by go_simp)).mono ?_
        rintro e w' ⟨rfl, n1, rfl⟩
        go_wp2_with fail
        go_ret
        exact set_good HN.out (Nat.le_refl _) ((hblk : RdBlk (wr.drewN n1) b t p k false vi vo vd).at_ (x := (k : Int) + 1) (j := k + 1) rfl) (World.rowIs.setOther (w := wr.drewN n1) hrow (by simpa using hgb) _) (by repeat (first | assumption | exact Keeps.refl _ _ _ | (refine Keeps.setCell ?_ (by simp) _) | (refine Keeps.drewN ?_ _) | (refine Keeps.alloc ?_ (by simp) _))) (fun n hn => rfl)
      · have hb0 := bt_nonneg p k
        have hb255 := bt_le p k
        have hb10 := bt_nonneg p (k + 1)
        have hb1255 := bt_le p (k + 1)
        have hb20 := bt_nonneg p (k + 2)
        have hb2255 := bt_le p (k + 2)
        by_cases hp37 : bt p k = 37
        · have hp37' : (bt p k == 37) = true := by simpa using hp37
          have hc93 : (bt p k == 93) = false := by rw [hp37]; rfl
          have Hp := hid hp37
          clear hp37 hc
          go_wp2_with fail
          refine (here_any p b k 0 _ (by omega) (by omega) (by omega) (by go_simp) (by go_simp)).mono ?_
          rintro e w' ⟨rfl, n1, rfl⟩
          go_wp2_with fail
          refine (here_any p b k 1 _ (by omega) (by omega) (by omega) (by go_simp) (by go_simp)).mono ?_
          rintro e w' ⟨rfl, n2, rfl⟩
          go_wp2_with fail
          refine (here_any p b k 2 _ (by omega) (by omega) (by omega) (by go_simp) (by go_simp)).mono ?_
          rintro e w' ⟨rfl, n3, rfl⟩
          by_cases h1 : p.size ≤ k + 1
          · have hd1 : decide (k + 1 < p.size) = false := by simp; omega
            have HN : Hid (setAt p i = none) := by
              have := HG.out
              rw [setGo_short hk0 Hp.out h1] at this
              have h' := HA.out
              rw [h', ← this]
              rfl
            clear HG HA
            go_wp2_with fail
            go_ret
            exact set_bad HN.out (Nat.le_refl _) (hblk.bad_ true) (hrow.setOther (by simpa using hgb) _) (by repeat (first | assumption | exact Keeps.refl _ _ _ | (refine Keeps.setCell ?_ (by simp) _) | (refine Keeps.drewN ?_ _) | (refine Keeps.alloc ?_ (by simp) _))) (by omega)
          · have hd1 : decide (k + 1 < p.size) = true := by simp; omega
            have hk3 : k + 1 < p.size := by omega
            obtain ⟨E, hE⟩ : ∃ E, esc (bt p (k + 1)) = E := ⟨_, rfl⟩
            have HE := hid hE
            clear hE
            go_wp2_with fail
            refine (esc_any w.heap.size f (bt p (k + 1)) (bt_nonneg _ _) (bt_le _ _) _ (by exact hrow)).mono ?_
            rintro e w2 ⟨rfl, ⟨f2', hrow2, hes⟩, hke⟩
            have hke := hke.undrewN
            rw [HE.out] at hes ⊢
            have hblk2 := hblk.kept hke hbl (by simp; omega)
            have hkp2 : Keeps w.heap.size [b] w w2 := hkp.andThen hke (by simp; omega) (by simp)
            obtain ⟨d0, d1, d2, d3, d4, d5, g1, g2, g3, g4, g5⟩ := hblk2.cells
            clear c0 c1 c2 c3 c4 c5 f1 f2 f3 f4 f5
            cases E with
            | none =>
              have HN : Hid (setAt p i = none) := by
                have := HG.out
                rw [setGo_bad hk0 Hp.out HE.out] at this
                have h' := HA.out
                rw [h', ← this]
                rfl
              clear HG HA
              go_wp2_with fail
              go_ret
              exact set_bad HN.out (Nat.le_refl _) (hblk2.bad_ true) (hrow2.setOther (by simpa using hgb) _) (by repeat (first | assumption | exact Keeps.refl _ _ _ | (refine Keeps.setCell ?_ (by simp) _) | (refine Keeps.drewN ?_ _) | (refine Keeps.alloc ?_ (by simp) _))) (by omega)
            | some h =>
              have HN := HG.out
              rw [setGo_esc hk0 Hp.out hk3 HE.out] at HN
              have HN := hid HN
              have hes := hes h rfl
              clear HG
              go_wp2_with fail
              go_roundg gk'
              case measure => omega
              case rel => exact ⟨k + 2, false, _, rfl, hblk2.at_ (by omega), World.rowIs.setOther (hrow2.congr fun j hj => by first | rw [hes j hj] | (dsimp only; rw [hes j hj])) (by simpa using hgb) _, (by repeat (first | assumption | exact Keeps.refl _ _ _ | (refine Keeps.setCell ?_ (by simp) _) | (refine Keeps.drewN ?_ _) | (refine Keeps.alloc ?_ (by simp) _))), by omega, by omega, HN⟩
        · have hp37' : (bt p k == 37) = false := by simpa using hp37
          have hcc := no_close hc
          by_cases hr : k + 2 < p.size ∧ bt p (k + 1) = 45 ∧ bt p (k + 2) ≠ 93 ∧ bt p (k + 2) ≠ 37
          · have HN := HG.out
            rw [setGo_range hk0 hc hp37 hr] at HN
            have HN := hid HN
            obtain ⟨r1, r2, r3, r4⟩ := hr
            have q1 : decide (k + 2 < p.size) = true := by simp; omega
            have q2 : (bt p (k + 1) == 45) = true := by simpa using r2
            have q3 : (bt p (k + 2) == 93) = false := by simpa using r3
            have q4 : (bt p (k + 2) == 37) = false := by simpa using r4
            have q5 : (bt p (k + 2) != 93) = true := by simpa using r3
            have q6 : (bt p (k + 2) != 37) = true := by simpa using r4
            obtain ⟨cn, hcn⟩ := Int.eq_ofNat_of_zero_le hb0
            have HC := hid hcn
            have hst : BoolRow wr w.heap.size 4 256 (fun b => f b || (decide (cn ≤ b) && decide (b < cn))) := hrow.congr fun j _ => by
              have : (decide (cn ≤ j) && decide (j < cn)) = false := by rw [Bool.and_eq_false_iff]; simp; omega
              dsimp only
              rw [this, Bool.or_false]
            clear hcn r1 r2 r3 r4 HG hc hp37
            rcases hcc with hcc | ⟨hcc, hfb⟩
            all_goals
              go_wp2_with fail
              refine (here_any p b k 0 _ (by omega) (by omega) (by omega) (by go_simp) (by go_simp)).mono ?_
              rintro e w' ⟨rfl, n1, rfl⟩
              go_wp2_with fail
              refine (here_any p b k 1 _ (by omega) (by omega) (by omega) (by go_simp) (by go_simp)).mono ?_
              rintro e w' ⟨rfl, n2, rfl⟩
              go_wp2_with fail
              refine (here_any p b k 2 _ (by omega) (by omega) (by omega) (by go_simp) (by go_simp)).mono ?_
              rintro e w' ⟨rfl, n3, rfl⟩
              go_wp2_with fail
              clear c0 c1 c2 c3 c4 c5 f1 f2 f3 f4 f5 hcc
              obtain ⟨wo, hwo⟩ : ∃ wo : World, wo = wr := ⟨_, rfl⟩
              subst hwo
              go_loopw [14] (fun c wr => ∃ n : Nat, cn ≤ n ∧ (n ≤ cn ∨ (n : Int) ≤ bt p (k + 2) + 1) ∧ c = .int .i64 n ∧ RdBlk wr b t p k false vi vo vd ∧ BoolRow wr w.heap.size 4 256 (fun b => f b || (decide (cn ≤ b) && decide (b < n))) ∧ Keeps w.heap.size [b] w wr) (fun c _ => 256 - (intOf c).toNat)
              case atStart => exact ⟨cn, Nat.le_refl _, Or.inl (Nat.le_refl _), by rw [HC.out], hblk, hst, (by repeat (first | assumption | exact Keeps.refl _ _ _ | (refine Keeps.setCell ?_ (by simp) _) | (refine Keeps.drewN ?_ _) | (refine Keeps.alloc ?_ (by simp) _)))⟩
              case round =>
                obtain ⟨n, hn1, hn2, rfl, hblk3, hrow3, hkp3⟩ := hrel
                have hcb : (cn : Int) ≤ 255 := by rw [← HC.out]; exact hb255
                by_cases hle : (n : Int) ≤ bt p (k + 2)
                · have hn256 : n < 256 := by omega
                  have hcell := hrow3.cell hn256
                  have hfree := hrow3.frozen n
                  go_wp2_with fail
                  go_roundw
                  case rel =>
                    refine ⟨n + 1, by omega, by omega, by go_num, hblk3.other (by simp; omega) _, (hrow3.set n true).congr fun j hj => ?_, hkp3.setCell (by simp) _⟩
                    by_cases h1 : j = n
                    · subst h1; simp; omega
                    · have : (j < n + 1) ↔ j < n := by omega
                      simp [h1, this]
                  case measure => simp [intOf]; omega
                · obtain ⟨d0, d1, d2, d3, d4, d5, g1, g2, g3, g4, g5⟩ := hblk3.cells
                  go_wp2_with fail
                  go_roundg gk'
                  case measure => omega
                  case rel =>
                    refine ⟨k + 3, false, _, rfl, hblk3.at_ (by omega), World.rowIs.setOther (hrow3.congr fun j hj => ?_) (by simpa using hgb) _, (by repeat (first | assumption | exact Keeps.refl _ _ _ | (refine Keeps.setCell ?_ (by simp) _) | (refine Keeps.drewN ?_ _) | (refine Keeps.alloc ?_ (by simp) _))), by omega, by omega, HN⟩
                    have e1 : bt p k = (cn : Int) := HC.out
                    have e2 : (decide (cn ≤ j) && decide (j < n)) = (decide (bt p k ≤ (j : Int)) && decide ((j : Int) ≤ bt p (k + 2))) := by
                      rw [Bool.eq_iff_iff, e1]
                      simp
                      omega
                    dsimp only
                    rw [e2]
          · have HN := HG.out
            rw [setGo_one hk0 hc hp37 hr] at HN
            have HN := hid HN
            have hr' := no_range hr
            have hcell := hrow.cell (i := (bt p k).toNat) (by omega)
            have hfree := hrow.frozen (bt p k).toNat
            clear HG hc hp37 hr
            rcases hcc with hcc | ⟨hcc, hfb⟩
            all_goals
              rcases hr' with q | ⟨q, q2⟩ | ⟨q, q2, q3, q5⟩ | ⟨q, q2, q3, q5, q4, q6⟩
            all_goals
              go_wp2_with fail
              refine (here_any p b k 0 _ (by omega) (by omega) (by omega) (by go_simp) (by go_simp)).mono ?_
              rintro e w' ⟨rfl, n1, rfl⟩
              go_wp2_with fail
              refine (here_any p b k 1 _ (by omega) (by omega) (by omega) (by go_simp) (by go_simp)).mono ?_
              rintro e w' ⟨rfl, n2, rfl⟩
              go_wp2_with fail
              refine (here_any p b k 2 _ (by omega) (by omega) (by omega) (by go_simp) (by go_simp)).mono ?_
              rintro e w' ⟨rfl, n3, rfl⟩
              go_wp2_with fail
              go_roundg gk'
              case measure => omega
              case rel =>
                refine ⟨k + 1, false, _, rfl, RdBlk.at_ (RdBlk.other (w := wr.drewN _) hblk (by simp; omega) _) (by omega), World.rowIs.setOther ((BoolRow.set (w := wr.drewN _) hrow (bt p k).toNat true).congr fun j hj => ?_) (by simpa using hgb) _, (by repeat (first | assumption | exact Keeps.refl _ _ _ | (refine Keeps.setCell ?_ (by simp) _) | (refine Keeps.drewN ?_ _) | (refine Keeps.alloc ?_ (by simp) _))), by omega, by omega, HN⟩
                exact congrArg Value.bool (one_add hb0 f j)

theorem set_any (p : ByteArray) (b t i : Nat) (vi vo vd : Value) (w : World) (hp : p.size ≤ 200) (hi : i < p.size) (hb : RdBlk w b t p i false vi vo vd) :
    Calls Tryd.prog 43 #[.pointer (some ⟨b, 0, none⟩)] w fun e w' => SetPost p b t i vi vo vd w e w' := by
  by_cases ht : bt p (i + 1) = 94
  · exact set_turned p b t i vi vo vd w hp hi hb ht
  · exact set_plain p b t i vi vo vd w hp hi hb ht
end Go.Proofs.YtpinoolagbghnaaDoor
