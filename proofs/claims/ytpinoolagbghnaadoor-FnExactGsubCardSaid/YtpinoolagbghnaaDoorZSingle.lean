/-
  Walk: the reader of the reference: single: a byte, a class or a set is read as the plain word singleAt says.
-/
import Derived.Test.YtpinoolagbghnaaDoorZSet
namespace Go.Proofs.YtpinoolagbghnaaDoor
set_option linter.unusedVariables false
open Go.RowKit Pat

def SglPost (R : Option ((Nat → Bool) × Nat)) (p : ByteArray) (b t : Nat) (vi vo vd : Value) (w : World) (e : Ending) (w' : World) : Prop :=
  ∃ g f' bad' i', e = .returned (.slice (some ⟨g, 0, none⟩) 256 256) ∧ w.heap.size ≤ g ∧ RdBlk w' b t p i' bad' vi vo vd ∧ BoolRow w' g 4 256 f' ∧ Keeps w.heap.size [b] w w' ∧ i' ≤ p.size + 5 ∧
    (∀ f j, R = some (f, j) → bad' = false ∧ i' = j ∧ ∀ n, n < 256 → f' n = f n) ∧ (R = none → bad' = true)

theorem sgl_bad {R : Option ((Nat → Bool) × Nat)} {p : ByteArray} {b t g k : Nat} {f : Nat → Bool} {vi vo vd : Value} {w w' : World} (hn : R = none) (hg : w.heap.size ≤ g) (hr : RdBlk w' b t p k true vi vo vd) (hf : BoolRow w' g 4 256 f)
    (hk : Keeps w.heap.size [b] w w') (hi : k ≤ p.size + 5) : SglPost R p b t vi vo vd w (.returned (.slice (some ⟨g, 0, none⟩) 256 256)) w' :=
  ⟨g, f, true, k, rfl, hg, hr, hf, hk, hi, (fun _ _ h => by rw [hn] at h; cases h), fun _ => rfl⟩
theorem sgl_good {R : Option ((Nat → Bool) × Nat)} {p : ByteArray} {b t g k : Nat} {f h : Nat → Bool} {vi vo vd : Value} {w w' : World} (hn : R = some (h, k)) (hg : w.heap.size ≤ g) (hr : RdBlk w' b t p k false vi vo vd) (hf : BoolRow w' g 4 256 f)
    (hk : Keeps w.heap.size [b] w w') (hi : k ≤ p.size + 5) (hh : ∀ n, n < 256 → f n = h n) : SglPost R p b t vi vo vd w (.returned (.slice (some ⟨g, 0, none⟩) 256 256)) w' :=
  ⟨g, f, false, k, rfl, hg, hr, hf, hk, hi, fun f' j' h' => by rw [hn] at h'; simp only [Option.some.injEq, Prod.mk.injEq] at h'; obtain ⟨rfl, rfl⟩ := h'; exact ⟨rfl, rfl, hh⟩, fun h' => by rw [hn] at h'; cases h'⟩

theorem make256_ex (w : World) : ∃ W1, (Instr.makeSlice 34 (.int .i64 256) (.int .i64 256)).run Tryd.prog w = .ok (.slice (some ⟨w.heap.size, 0, none⟩) 256 256) W1 ∧
    BoolRow W1 w.heap.size 4 256 (fun _ => false) ∧ Keeps w.heap.size [] w W1 ∧ W1.heap.size = w.heap.size + 1 :=
  ⟨_, make256 w, World.rowIs_made w (.bool false) 256 4, (Keeps.refl _ _ _).alloc (Nat.le_refl _) _, by simp⟩

set_option maxRecDepth 100000 in
set_option maxHeartbeats 2000000 in
theorem single_any (p : ByteArray) (b t i : Nat) (vi vo vd : Value) (w : World) (hp : p.size ≤ 200) (hi : i < p.size) (hb : RdBlk w b t p i false vi vo vd) :
    Calls Tryd.prog 44 #[.pointer (some ⟨b, 0, none⟩)] w fun e w' => SglPost (singleAt p i) p b t vi vo vd w e w' := by
  have hlt := blk_lt hb
  obtain ⟨W1, hmk, hrow, hkw, hsz⟩ := make256_ex w
  have hkp : Keeps w.heap.size [b] w W1 := hkw.mono (Nat.le_refl _) (by simp)
  have hblk := hb.kept hkw hlt (by simp)
  have hbl := blk_lt hblk
  have hgb : ¬ w.heap.size = b := by omega
  have Hsz := hid hsz
  clear hsz hkw
  obtain ⟨c0, c1, c2, c3, c4, c5, f1, f2, f3, f4, f5⟩ := hblk.cells
  have hb0 := bt_nonneg p i
  have hb255 := bt_le p i
  have hd0 : decide (i < p.size) = true := by simp; omega
  go_enter Tryd.func44, Tryd.ntmps44
  go_wp2_with fail
  refine (here_any p b i 0 _ (by omega) (by omega) (by omega) (by go_simp) (by go_simp)).mono ?_
  rintro e w' ⟨rfl, n1, rfl⟩
  clear hmk
  by_cases h1 : bt p i = 91
  · have t1 : (bt p i == 91) = true := by simpa using h1
    have HR : Hid (singleAt p i = setAt p i) := by unfold Hid singleAt; rw [if_pos h1]
    clear h1
    go_wp2_with fail
    refine (set_any p b t i vi vo vd _ hp hi (by exact hblk)).mono ?_
    rintro e w2 ⟨g, f', bad', i', rfl, q1, q2, q3, q4, q5, q6, q7⟩
    have hkp2 : Keeps w.heap.size [b] w w2 := hkp.andThen q4.undrewN (by have := Hsz.out; simp; omega) (by simp)
    have q1' : w.heap.size ≤ g := by have := Hsz.out; simp at q1; omega
    rw [← HR.out] at q6 q7
    clear q4 q1
    have Q6 := hid q6
    have Q7 := hid q7
    clear q6 q7
    go_wp2_with fail
    go_ret
    exact ⟨g, f', bad', i', rfl, q1', q2, q3, hkp2, q5, Q6.out, Q7.out⟩
  · have t1 : (bt p i == 91) = false := by simpa using h1
    by_cases h2 : bt p i = 46
    · have t2 : (bt p i == 46) = true := by simpa using h2
      have HR : Hid (singleAt p i = some (fun _ => true, i + 1)) := by unfold Hid singleAt; rw [if_neg h1, if_pos h2]
      clear h1 h2
      go_wp2_with fail
      clear c0 c1 c2 c3 c4 c5 f1 f2 f3 f4 f5
      go_loopw [27] (fun c wr => ∃ n : Nat, n ≤ 256 ∧ c = .int .i64 n ∧ RdBlk wr b t p i false vi vo vd ∧ BoolRow wr w.heap.size 4 256 (fun b => decide (b < n)) ∧ Keeps w.heap.size [b] w wr) (fun c _ => 256 - (intOf c).toNat)
      case atStart => exact ⟨0, by omega, rfl, hblk, World.rowIs.congr (w := W1) hrow fun _ _ => by simp, hkp.drewN _⟩
      case round =>
        obtain ⟨n, hn, rfl, hblk3, hrow3, hkp3⟩ := hrel
        by_cases hlt : n < 256
        · have hcell := hrow3.cell hlt
          have hfree := hrow3.frozen n
          go_wp2_with fail
          go_roundw
          case rel =>
            refine ⟨n + 1, by omega, by go_num, hblk3.other (by simp; omega) _, (hrow3.set n true).congr fun j hj => ?_, hkp3.setCell (by simp) _⟩
            by_cases h1 : j = n
            · subst h1; simp
            · have : (j < n + 1) ↔ j < n := by omega
              simp [h1, this]
          case measure => simp [intOf]; omega
        · obtain rfl : n = 256 := by omega
          obtain ⟨c0, c1, c2, c3, c4, c5, f1, f2, f3, f4, f5⟩ := hblk3.cells
          go_wp2_with fail
          go_ret
          exact sgl_good HR.out (Nat.le_refl _) (hblk3.at_ rfl) (hrow3.setOther (by simpa using hgb) _) (hkp3.setCell (by simp) _) (by omega) (fun n hn => by simp [hn])
    · have t2 : (bt p i == 46) = false := by simpa using h2
      by_cases h3 : bt p i = 37
      · have t3 : (bt p i == 37) = true := by simpa using h3
        have HR : Hid (singleAt p i = if p.size ≤ i + 1 then none else (esc (bt p (i + 1))).map fun g => (g, i + 2)) := by unfold Hid singleAt; rw [if_neg h1, if_neg h2, if_pos h3]; cases esc (bt p (i + 1)) <;> rfl
        clear h1 h2 h3
        go_wp2_with fail
        refine (here_any p b i 1 _ (by omega) (by omega) (by omega) (by go_simp) (by go_simp)).mono ?_
        rintro e w' ⟨rfl, n2, rfl⟩
        by_cases h4 : p.size ≤ i + 1
        · have hd1 : decide (i + 1 < p.size) = false := by simp; omega
          have HN : Hid (singleAt p i = none) := by have := HR.out; rw [if_pos h4] at this; exact this
          clear HR
          go_wp2_with fail
          go_ret
          exact sgl_bad HN.out (Nat.le_refl _) (((RdBlk.bad_ (w := W1.drewN _) hblk true).at_ (j := i + 1) (by omega)).at_ (j := i + 2) (by omega)) (World.rowIs.setOther (World.rowIs.setOther (World.rowIs.setOther (w := W1.drewN _) hrow (by simpa using hgb) _) (by simpa using hgb) _) (by simpa using hgb) _) (by repeat (first | assumption | exact Keeps.refl _ _ _ | (refine Keeps.setCell ?_ (by simp) _) | (refine Keeps.drewN ?_ _))) (by omega)
        · have hd1 : decide (i + 1 < p.size) = true := by simp; omega
          obtain ⟨E, hE⟩ : ∃ E, esc (bt p (i + 1)) = E := ⟨_, rfl⟩
          have HR2 : Hid (singleAt p i = E.map fun g => (g, i + 2)) := by have := HR.out; rw [if_neg h4, hE] at this; exact this
          have HE := hid hE
          clear hE HR
          go_wp2_with fail
          refine (esc_any w.heap.size _ (bt p (i + 1)) (bt_nonneg _ _) (bt_le _ _) _ (by exact hrow)).mono ?_
          rintro e w2 ⟨rfl, ⟨f2', hrow2, hes⟩, hke⟩
          have hke := hke.undrewN
          rw [HE.out] at hes ⊢
          have hblk2 := hblk.kept hke hbl (by simp; omega)
          have hkp2 : Keeps w.heap.size [b] w w2 := hkp.andThen hke (by have := Hsz.out; simp; omega) (by simp)
          obtain ⟨d0, d1, d2, d3, d4, d5, g1, g2, g3, g4, g5⟩ := hblk2.cells
          clear c0 c1 c2 c3 c4 c5 f1 f2 f3 f4 f5
          cases E with
          | none =>
            go_wp2_with fail
            go_ret
            exact sgl_bad HR2.out (Nat.le_refl _) (((hblk2.bad_ true).at_ (j := i + 1) (by omega)).at_ (j := i + 2) (by omega)) (World.rowIs.setOther (World.rowIs.setOther (hrow2.setOther (by simpa using hgb) _) (by simpa using hgb) _) (by simpa using hgb) _) (by repeat (first | assumption | exact Keeps.refl _ _ _ | (refine Keeps.setCell ?_ (by simp) _) | (refine Keeps.drewN ?_ _))) (by omega)
          | some h =>
            have hes := hes h rfl
            go_wp2_with fail
            go_ret
            exact sgl_good HR2.out (Nat.le_refl _) ((hblk2.at_ (j := i + 1) (by omega)).at_ (j := i + 2) (by omega)) (World.rowIs.setOther (hrow2.setOther (by simpa using hgb) _) (by simpa using hgb) _) (by repeat (first | assumption | exact Keeps.refl _ _ _ | (refine Keeps.setCell ?_ (by simp) _) | (refine Keeps.drewN ?_ _))) (by omega) (fun n hn => by rw [hes n hn]; rfl)
      · have t3 : (bt p i == 37) = false := by simpa using h3
        have HR : Hid (singleAt p i = some ((fun b : Nat => decide ((b : Int) = bt p i)), i + 1)) := by unfold Hid singleAt; rw [if_neg h1, if_neg h2, if_neg h3]
        have hcell := hrow.cell (i := (bt p i).toNat) (by omega)
        have hfree := hrow.frozen (bt p i).toNat
        clear h1 h2 h3
        go_wp2_with fail
        go_ret
        exact sgl_good HR.out (Nat.le_refl _) (RdBlk.at_ (RdBlk.other (w := W1.drewN _) hblk (by simp; omega) _) (j := i + 1) (by omega)) (World.rowIs.setOther (BoolRow.set (w := W1.drewN _) hrow (bt p i).toNat true) (by simpa using hgb) _) (by repeat (first | assumption | exact Keeps.refl _ _ _ | (refine Keeps.setCell ?_ (by simp) _) | (refine Keeps.drewN ?_ _))) (by omega)
          (fun n hn => one_add hb0 (fun _ => false) n)
end Go.Proofs.YtpinoolagbghnaaDoor
