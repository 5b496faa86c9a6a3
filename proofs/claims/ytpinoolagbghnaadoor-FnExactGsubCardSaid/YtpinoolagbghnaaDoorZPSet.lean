/-
  Walk: the program's patSet: a set is read as the plain word setAt says.
-/
import Derived.Test.YtpinoolagbghnaaDoorZCls
import Derived.Test.YtpinoolagbghnaaDoorZSet
namespace Go.Proofs.YtpinoolagbghnaaDoor
set_option linter.unusedVariables false
open Go.RowKit Pat

/-- What patSet leaves. -/
def PSetPost (R : Option ((Nat → Bool) × Nat)) (w : World) (e : Ending) (w' : World) : Prop :=
  Keeps w.heap.size [] w w' ∧ (R = none → e = .returned (.tuple #[.pointer none, .int .i64 0])) ∧
  (∀ f j, R = some (f, j) → ∃ g, e = .returned (.tuple #[.pointer (some ⟨g, 0, none⟩), .int .i64 (j : Nat)]) ∧ w.heap.size ≤ g ∧ BoolRow w' g 82 256 f)
theorem PSetPost.no {R : Option ((Nat → Bool) × Nat)} {w w' : World} (h : R = none) (hk : Keeps w.heap.size [] w w') : PSetPost R w (.returned (.tuple #[.pointer none, .int .i64 0])) w' :=
  ⟨hk, fun _ => rfl, fun f j h' => (by rw [h] at h'; cases h')⟩
theorem PSetPost.yes {R : Option ((Nat → Bool) × Nat)} {w w' : World} {f h : Nat → Bool} {j g : Nat} {x : Int} (hR : R = some (h, j)) (hx : x = j) (hk : Keeps w.heap.size [] w w') (hg : w.heap.size ≤ g) (hrow : BoolRow w' g 82 256 f) (hf : ∀ n, n < 256 → f n = h n) :
    PSetPost R w (.returned (.tuple #[.pointer (some ⟨g, 0, none⟩), .int .i64 x])) w' := by
  subst hx
  refine ⟨hk, fun h' => (by rw [hR] at h'; cases h'), fun f' j' h' => ?_⟩
  rw [hR] at h'
  simp only [Option.some.injEq, Prod.mk.injEq] at h'
  obtain ⟨rfl, rfl⟩ := h'
  exact ⟨g, rfl, hg, hrow.congr fun i hi => by rw [hf i hi]⟩
theorem setAt_nt {p : ByteArray} {i i1 : Nat} {nt : Bool} (h : (nt = true ∧ i + 1 < p.size ∧ bt p (i + 1) = 94 ∧ i1 = i + 2) ∨ (nt = false ∧ bt p (i + 1) ≠ 94 ∧ i1 = i + 1)) :
    setAt p i = (setGo p (p.size - i) i1 true (fun _ => false)).map fun x => (fun b => if nt then !x.1 b else x.1 b, x.2) := by
  rcases h with ⟨rfl, h1, h2, rfl⟩ | ⟨rfl, h2, rfl⟩
  · rw [setAt_turned h1 h2]; rfl
  · rw [setAt_plain h2]
    cases setGo p (p.size - i) (i + 1) true (fun _ => false) with
    | none => rfl
    | some x => rfl

set_option maxRecDepth 100000 in
set_option maxHeartbeats 8000000 in
theorem patSet_any (p : ByteArray) (i : Nat) (w : World) (hp : p.size ≤ 200) (hi : i < p.size) :
    Calls Tryd.prog 25 #[.string p, .int .i64 i] w fun e w' => PSetPost (setAt p i) w e w' := by
  obtain ⟨nt, i1, hnt, hcase⟩ : ∃ (nt : Bool) (i1 : Nat), ((nt = true ∧ i + 1 < p.size ∧ bt p (i + 1) = 94 ∧ i1 = i + 2) ∨ (nt = false ∧ bt p (i + 1) ≠ 94 ∧ i1 = i + 1)) ∧
      ((i + 1 < p.size ∧ (∃ h : i + 1 < p.size, (((p[i + 1]'h).toNat : Int) == 94) = true) ∧ nt = true) ∨ (i + 1 < p.size ∧ (∃ h : i + 1 < p.size, (((p[i + 1]'h).toNat : Int) == 94) = false) ∧ nt = false) ∨ (¬ i + 1 < p.size ∧ nt = false)) := by
    by_cases h1 : i + 1 < p.size
    · have hb := bt_of_lt h1
      by_cases h2 : bt p (i + 1) = 94
      · exact ⟨true, i + 2, Or.inl ⟨rfl, h1, h2, rfl⟩, Or.inl ⟨h1, ⟨h1, by rw [← hb]; simpa using h2⟩, rfl⟩⟩
      · exact ⟨false, i + 1, Or.inr ⟨rfl, h2, rfl⟩, Or.inr (Or.inl ⟨h1, ⟨h1, by rw [← hb]; simpa using h2⟩, rfl⟩)⟩
    · refine ⟨false, i + 1, Or.inr ⟨rfl, ?_, rfl⟩, Or.inr (Or.inr ⟨h1, rfl⟩)⟩
      rw [bt_of_ge (by omega)]
      decide
  have hi1 : (nt = true → i1 = i + 2) ∧ (nt = false → i1 = i + 1) ∧ i1 ≤ i + 2 ∧ i + 1 ≤ i1 := by rcases hnt with ⟨rfl, _, _, rfl⟩ | ⟨rfl, _, rfl⟩ <;> simp
  obtain ⟨hi1a, hi1b, hi1c, hi1d⟩ := hi1
  have hA := setAt_nt hnt
  obtain ⟨R, hR⟩ : ∃ R, setGo p (p.size - i) i1 true (fun _ => false) = R := ⟨_, rfl⟩
  rw [hR] at hA
  have HR := hid hR
  have HA := hid hA
  clear hnt hR hA
  obtain ⟨W1, hW1⟩ : ∃ W1, W1 = w.alloc (.cells (madeCells #[.bool false] 256) 82) := ⟨_, rfl⟩
  have hk1 : Keeps w.heap.size [] w W1 := by rw [hW1]; exact (Keeps.refl _ _ _).alloc (Nat.le_refl _) _
  have hr1 : BoolRow W1 w.heap.size 82 256 (fun _ => false) := by rw [hW1]; exact World.rowIs_made w (.bool false) 256 82
  have HW1 := hid hW1
  clear hW1
  have hz := zero_set
  go_enter Tryd.func25, Tryd.ntmps25
  go_upto_region 3 with fail
  rw [← HW1.out]
  go_cut [7] from 18 to 27 (fun v7 wx => v7 = .bool nt ∧ wx = W1)
  case first =>
    rcases hcase with ⟨h1, ⟨h2, h3⟩, rfl⟩ | ⟨h1, ⟨h2, h3⟩, rfl⟩ | ⟨h1, rfl⟩
    · have hd : decide (i + 1 < p.size) = true := decide_eq_true h1
      go_wp2_with fail
      go_meet
      exact ⟨rfl, rfl⟩
    · have hd : decide (i + 1 < p.size) = true := decide_eq_true h1
      go_wp2_with fail
      go_meet
      exact ⟨rfl, rfl⟩
    · have hd : decide (i + 1 < p.size) = false := decide_eq_false h1
      go_wp2_with fail
      go_meet
      exact ⟨rfl, rfl⟩
  case rest =>
    obtain ⟨rfl, rfl⟩ := hcut
    go_upto_if 28 with fail
    go_cut [1] from 29 to 30 (fun v1 wx => v1 = .int .i64 i1 ∧ wx = wc)
    case first =>
      cases nt
      · have := hi1b rfl
        go_wp2_with fail
        go_meet
        exact ⟨by rw [this]; go_num, rfl⟩
      · have := hi1a rfl
        go_wp2_with fail
        go_meet
        exact ⟨by rw [this]; go_num, rfl⟩
    case rest =>
      obtain ⟨rfl, hwx⟩ := hcut
      subst hwx
      clear hcase HW1
      go_wp2_with fail
      go_loopg [1, 8] (p.size - i) (fun gk v1 v8 wr => ∃ (k : Nat) (fb : Bool) (f : Nat → Bool), v1 = .int .i64 k ∧ v8 = .bool fb ∧ BoolRow wr w.heap.size 82 256 f ∧ Keeps w.heap.size [] w wr ∧ p.size ≤ k + gk ∧ k ≤ p.size + 3 ∧ Hid (setGo p gk k fb f = R))
      case atStart => exact ⟨i1, true, fun _ => false, rfl, rfl, hr1, hk1, by omega, by omega, HR⟩
      case round =>
        obtain ⟨k, fb, f, rfl, rfl, hrow, hkp, hg1, hg2, HG⟩ := hrel
        have hgl : w.heap.size < wr.heap.size := hrow.lt
        by_cases h0 : p.size ≤ k
        · have hd0 : decide (p.size ≤ k) = true := decide_eq_true h0
          have HN : Hid (setAt p i = none) := by
            have := HG.out
            rw [setGo_end h0] at this
            exact hid (by rw [HA.out, ← this]; rfl)
          clear HG HA
          go_wp2_with fail
          go_ret2
          exact PSetPost.no HN.out hkp
        · have hk0 : k < p.size := by omega
          have hd0 : decide (p.size ≤ k) = false := decide_eq_false h0
          obtain ⟨gk', rfl⟩ : ∃ m, gk = m + 1 := ⟨gk - 1, by omega⟩
          have e0 : (p[k].toNat : Int) = bt p k := (bt_of_lt hk0).symm
          by_cases hc : bt p k = 93 ∧ fb = false
          · obtain ⟨hc, rfl⟩ := hc
            have hc' : (bt p k == 93) = true := by simpa using hc
            have HN : Hid (setAt p i = some ((fun b => if nt then !f b else f b), k + 1)) := by
              have h1 := HG.out
              rw [setGo_close hk0 hc] at h1
              exact hid (by rw [HA.out, ← h1]; rfl)
            clear HG HA hc
            cases nt
            · go_wp2_with fail
              go_ret2
              exact PSetPost.yes HN.out (by simp) hkp (Nat.le_refl _) hrow (fun n hn => by simp)
            · go_wp2_with fail
              obtain ⟨wo, hwo⟩ : ∃ wo : World, wo = wr := ⟨_, rfl⟩
              subst hwo
              go_loopw [130] (fun c wr => ∃ n : Nat, n ≤ 256 ∧ c = .int .i64 n ∧ BoolRow wr w.heap.size 82 256 (fun b => if b < n then !f b else f b) ∧ Keeps w.heap.size [] w wr) (fun c _ => 256 - (intOf c).toNat)
              case atStart => exact ⟨0, by omega, rfl, hrow.congr fun _ _ => by simp, hkp⟩
              case round =>
                obtain ⟨n, hn, rfl, hrow3, hkp3⟩ := hrel
                by_cases hlt : n < 256
                · have hcell := hrow3.cell hlt
                  simp only [Nat.lt_irrefl, if_false] at hcell
                  have hfree := hrow3.frozen n
                  have hl3 := hrow3.lt
                  go_wp2_with fail
                  go_region
                  go_wp2_with fail
                  go_roundw
                  case rel =>
                    refine ⟨n + 1, by omega, by go_num, (hrow3.set n (!f n)).drew.congr fun j hj => ?_, (hkp3.setCell (Or.inr (by simp)) _).drew⟩
                    by_cases h1 : j = n
                    · subst h1; simp
                    · have : (j < n + 1) ↔ j < n := by omega
                      simp [h1, this]
                  case measure => simp [intOf]; omega
                · obtain rfl : n = 256 := by omega
                  go_wp2_with fail
                  go_ret2
                  exact PSetPost.yes HN.out (by simp) hkp3 (Nat.le_refl _) hrow3 (fun n hn => by simp [hn])
          · have hb0 := bt_nonneg p k
            have hb255 := bt_le p k
            have hb10 := bt_nonneg p (k + 1)
            have hb1255 := bt_le p (k + 1)
            have hb20 := bt_nonneg p (k + 2)
            have hb2255 := bt_le p (k + 2)
            by_cases hp37 : bt p k = 37
            · have hp37' : (bt p k == 37) = true := by simpa using hp37
              have hc93 : (bt p k == 93) = false := by rw [hp37]; rfl
              have Hp := hid hp37
              clear hp37 hc
              by_cases h1 : p.size ≤ k + 1
              · have hd1 : decide ((p.size : Int) ≤ (k : Int) + 1) = true := decide_eq_true (by omega)
                have hd1' : decide (p.size ≤ k + 1) = true := decide_eq_true (by omega)
                have HN : Hid (setAt p i = none) := by
                  have := HG.out
                  rw [setGo_short hk0 Hp.out h1] at this
                  exact hid (by rw [HA.out, ← this]; rfl)
                clear HG HA
                go_wp2_with fail
                go_ret2
                exact PSetPost.no HN.out hkp
              · have hd1 : decide ((p.size : Int) ≤ (k : Int) + 1) = false := decide_eq_false (by omega)
                have hd1' : decide (p.size ≤ k + 1) = false := decide_eq_false (by omega)
                have hk3 : k + 1 < p.size := by omega
                have e1 : (p[k + 1].toNat : Int) = bt p (k + 1) := (bt_of_lt hk3).symm
                cases hE : esc (bt p (k + 1)) with
                | none =>
                  have HE := hid hE
                  clear hE
                  have HN : Hid (setAt p i = none) := by
                    have := HG.out
                    rw [setGo_bad hk0 Hp.out HE.out] at this
                    exact hid (by rw [HA.out, ← this]; rfl)
                  clear HG HA
                  go_wp2_with fail
                  refine (percent_none _ hb10 hb1255 HE.out _).mono ?_
                  rintro e w' ⟨rfl, rfl⟩
                  go_wp2_with fail
                  go_ret2
                  exact PSetPost.no HN.out hkp
                | some h =>
                  have HE := hid hE
                  clear hE
                  have HN : Hid (setGo p gk' (k + 2) false (fun b => f b || h b) = R) := by
                    have := HG.out
                    rw [setGo_esc hk0 Hp.out hk3 HE.out] at this
                    exact hid this
                  clear HG
                  go_wp2_with fail
                  refine (percent_some _ h hb10 hb1255 HE.out _).mono ?_
                  rintro e w2 ⟨g2, rfl, hg2', hrow2, hk2⟩
                  have hrowb := hk2.row hrow hgl (by simp)
                  have hkp2 := hkp.andThen hk2 hkp.size (by simp)
                  have hg2l := hrow2.lt
                  clear hrow hkp hk2
                  go_wp2_with fail
                  obtain ⟨wo, hwo⟩ : ∃ wo : World, wo = wr := ⟨_, rfl⟩
                  subst hwo
                  have hne : ¬ w.heap.size = g2 := by omega
                  have hne2 : ¬ g2 = w.heap.size := by omega
                  go_loopw [58] (fun c wr => ∃ n : Nat, n ≤ 256 ∧ c = .int .i64 n ∧ BoolRow wr w.heap.size 82 256 (fun b => if b < n then f b || h b else f b) ∧ BoolRow wr g2 82 256 h ∧ Keeps w.heap.size [] w wr) (fun c _ => 256 - (intOf c).toNat)
                  case atStart => exact ⟨0, by omega, rfl, hrowb.congr fun _ _ => by simp, hrow2, hkp2⟩
                  case round =>
                    obtain ⟨n, hn, rfl, hrow3, hrow4, hkp3⟩ := hrel
                    by_cases hlt : n < 256
                    · have hcell := hrow3.cell hlt
                      simp only [Nat.lt_irrefl, if_false] at hcell
                      have hfree := hrow3.frozen n
                      have hl3 := hrow3.lt
                      have hcell4 := hrow4.cell hlt
                      have hl4 := hrow4.lt
                      obtain ⟨fb1, hfb1⟩ : ∃ x, f n = x := ⟨_, rfl⟩
                      rw [hfb1] at hcell
                      have HFB := hid hfb1
                      clear hfb1
                      cases fb1
                      all_goals
                        go_wp2_with fail
                        go_region
                        go_wp2_with fail
                        go_roundw
                        case measure => simp [intOf]; omega
                      · refine ⟨n + 1, by omega, by go_num, (hrow3.set n (h n)).drew.congr fun j hj => ?_, (hrow4.setOther (a := ⟨w.heap.size, n, none⟩) hne2 _).drew, (hkp3.setCell (Or.inr (by simp)) _).drew⟩
                        by_cases h1 : j = n
                        · subst h1; simp [HFB.out]
                        · have : (j < n + 1) ↔ j < n := by omega
                          simp [h1, this]
                      · refine ⟨n + 1, by omega, by go_num, (hrow3.set n true).drew.congr fun j hj => ?_, (hrow4.setOther (a := ⟨w.heap.size, n, none⟩) hne2 _).drew, (hkp3.setCell (Or.inr (by simp)) _).drew⟩
                        by_cases h1 : j = n
                        · subst h1; simp [HFB.out]
                        · have : (j < n + 1) ↔ j < n := by omega
                          simp [h1, this]
                    · obtain rfl : n = 256 := by omega
                      go_wp2_with fail
                      go_roundg gk'
                      case measure => omega
                      case rel => exact ⟨k + 2, false, _, by go_num, rfl, hrow3.congr fun j hj => by simp [hj], hkp3, by omega, by omega, HN⟩
            · have hp37' : (bt p k == 37) = false := by simpa using hp37
              have hcc := no_close hc
              by_cases hr : k + 2 < p.size ∧ bt p (k + 1) = 45 ∧ bt p (k + 2) ≠ 93 ∧ bt p (k + 2) ≠ 37
              · have HN : Hid (setGo p gk' (k + 3) false (fun b => f b || (decide (bt p k ≤ (b : Int)) && decide ((b : Int) ≤ bt p (k + 2)))) = R) := by
                  have := HG.out
                  rw [setGo_range hk0 hc hp37 hr] at this
                  exact hid this
                obtain ⟨r1, r2, r3, r4⟩ := hr
                have e1 : (p[k + 1].toNat : Int) = bt p (k + 1) := (bt_of_lt (by omega)).symm
                have e2 : (p[k + 2].toNat : Int) = bt p (k + 2) := (bt_of_lt (by omega)).symm
                have q1 : decide ((k : Int) + 2 < p.size) = true := decide_eq_true (by omega)
                have q1' : decide (k + 2 < p.size) = true := decide_eq_true (by omega)
                have q2 : (bt p (k + 1) == 45) = true := by simpa using r2
                have q5 : (bt p (k + 2) != 93) = true := by simpa using r3
                have q6 : (bt p (k + 2) != 37) = true := by simpa using r4
                obtain ⟨cn, hcn⟩ := Int.eq_ofNat_of_zero_le hb0
                have HC := hid hcn
                have hcb : (cn : Int) ≤ 255 := by rw [← hcn]; exact hb255
                have hst : BoolRow wr w.heap.size 82 256 (fun b => f b || (decide (cn ≤ b) && decide (b < cn))) := hrow.congr fun j _ => by
                  have : (decide (cn ≤ j) && decide (j < cn)) = false := by rw [Bool.and_eq_false_iff]; simp; omega
                  dsimp only
                  rw [this, Bool.or_false]
                clear hcn r2 r3 r4 HG hc hp37
                rcases hcc with hcc | ⟨hcc, hfb⟩
                all_goals
                  go_wp2_with fail
                  clear hcc
                  obtain ⟨wo, hwo⟩ : ∃ wo : World, wo = wr := ⟨_, rfl⟩
                  subst hwo
                  go_loopw [12] (fun c wr => ∃ n : Nat, cn ≤ n ∧ (n ≤ cn ∨ (n : Int) ≤ bt p (k + 2) + 1) ∧ c = .int .i64 n ∧ BoolRow wr w.heap.size 82 256 (fun b => f b || (decide (cn ≤ b) && decide (b < n))) ∧ Keeps w.heap.size [] w wr) (fun c _ => 256 - (intOf c).toNat)
                  case atStart => exact ⟨cn, Nat.le_refl _, Or.inl (Nat.le_refl _), by rw [HC.out], hst, hkp⟩
                  case round =>
                    obtain ⟨n, hn1, hn2, rfl, hrow3, hkp3⟩ := hrel
                    have hl3 := hrow3.lt
                    by_cases hle : (n : Int) ≤ bt p (k + 2)
                    · have hn256 : n < 256 := by omega
                      have hcell := hrow3.cell hn256
                      have hfree := hrow3.frozen n
                      go_wp2_with fail
                      go_roundw
                      case rel =>
                        refine ⟨n + 1, by omega, by omega, by go_num, (hrow3.set n true).congr fun j hj => ?_, hkp3.setCell (Or.inr (by simp)) _⟩
                        by_cases h1 : j = n
                        · subst h1; simp; omega
                        · have : (j < n + 1) ↔ j < n := by omega
                          simp [h1, this]
                      case measure => simp [intOf]; omega
                    · go_wp2_with fail
                      go_roundg gk'
                      case measure => omega
                      case rel =>
                        refine ⟨k + 3, false, _, by go_num, rfl, hrow3.congr fun j hj => ?_, hkp3, by omega, by omega, HN⟩
                        have e1 : bt p k = (cn : Int) := HC.out
                        have e2 : (decide (cn ≤ j) && decide (j < n)) = (decide (bt p k ≤ (j : Int)) && decide ((j : Int) ≤ bt p (k + 2))) := by
                          rw [Bool.eq_iff_iff, e1]
                          simp
                          omega
                        dsimp only
                        rw [e2]
              · have HN : Hid (setGo p gk' (k + 1) false (fun b => f b || decide ((b : Int) = bt p k)) = R) := by
                  have := HG.out
                  rw [setGo_one hk0 hc hp37 hr] at this
                  exact hid this
                have hr' := no_range hr
                have hcell := hrow.cell (i := (bt p k).toNat) (by omega)
                have hfree := hrow.frozen (bt p k).toNat
                have e1 : ∀ h : k + 1 < p.size, ((p[k + 1]'h).toNat : Int) = bt p (k + 1) := fun h => (bt_of_lt h).symm
                have e2 : ∀ h : k + 2 < p.size, ((p[k + 2]'h).toNat : Int) = bt p (k + 2) := fun h => (bt_of_lt h).symm
                clear HG hc hp37 hr
                have qI : decide ((k : Int) + 2 < p.size) = decide (k + 2 < p.size) := by rw [Bool.eq_iff_iff]; simp; omega
                rcases hcc with hcc | ⟨hcc, hfb⟩
                all_goals
                  rcases hr' with q | ⟨q, q2⟩ | ⟨q, q2, q3, q5⟩ | ⟨q, q2, q3, q5, q4, q6⟩
                all_goals
                  first
                    | have hk2 := of_decide_eq_true q
                    | have hk2 := of_decide_eq_false q
                  go_wp2_with fail
                  go_roundg gk'
                  case measure => omega
                  case rel =>
                    refine ⟨k + 1, false, _, by go_num, rfl, (hrow.set (bt p k).toNat true).congr fun j hj => ?_, hkp.setCell (Or.inr (by simp)) _, by omega, by omega, HN⟩
                    exact congrArg Value.bool (one_add hb0 f j)
end Go.Proofs.YtpinoolagbghnaaDoor
