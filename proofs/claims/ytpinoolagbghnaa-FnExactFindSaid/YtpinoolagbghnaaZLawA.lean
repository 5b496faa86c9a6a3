/-
  What Find is to answer, as plain data; the law's own functions: eqCapture, eqCaptureS, markCaptureS, heldCaptureS, eqFound, markFound, heldFound at two equal answers.
-/
import Derived.Test.YtpinoolagbghnaaZSrch
import Derived.Test.YtpinoolagbghnaaZQM
import Derived.Test.YtpinoolagbghnaaZRel
import Derived.Deep.RegionWith
namespace Go.Proofs.Ytpinoolagbghnaa
set_option linter.unusedVariables false
open Go.RowKit Pat

/-- A slice of captures that reads as so many captures. -/
def CapsAt (w : World) (lo : Nat) (aa : Option Addr) (n : Nat) (c : Cap) : Prop := 0 < n → ∃ g, aa = some ⟨g, 0, none⟩ ∧ lo ≤ g ∧ g < w.heap.size ∧ ∀ j, j < n * 3 → w.cell? ⟨g, j, none⟩ = some (capAt c j)
/-- A row of the call's own. -/
def RowAt (w : World) (lo : Nat) (aa : Option Addr) (n : Nat) (f : Nat → Value) : Prop := 0 < n → ∃ g, aa = some ⟨g, 0, none⟩ ∧ lo ≤ g ∧ w.rowIs g 55 (n * 3) f

theorem RowAt.caps {w : World} {lo n : Nat} {aa : Option Addr} {c : Cap} (h : RowAt w lo aa n (capAt c)) : CapsAt w lo aa n c := fun hn => by
  obtain ⟨g, h1, h2, h3⟩ := h hn
  exact ⟨g, h1, h2, h3.lt, fun j hj => h3.cell hj⟩
theorem CapsAt.keeps {w w' : World} {lo lo' n B : Nat} {S : List Nat} {aa : Option Addr} {c : Cap} (h : CapsAt w lo aa n c) (hk : Keeps B S w w') (hB : w.heap.size ≤ B) (hS : ∀ k ∈ S, ∀ g, aa = some ⟨g, 0, none⟩ → k ≠ g) (hl : lo' ≤ lo) : CapsAt w' lo' aa n c := fun hn => by
  obtain ⟨g, h1, h2, h3, h4⟩ := h hn
  exact ⟨g, h1, Nat.le_trans hl h2, Nat.lt_of_lt_of_le h3 hk.size, fun j hj => (hk.cell (p := ⟨g, j, none⟩) (by dsimp only; omega) (fun hm => hS _ hm g h1 rfl)).trans (h4 j hj)⟩
theorem RowAt.keeps {w w' : World} {lo lo' n B : Nat} {S : List Nat} {aa : Option Addr} {f : Nat → Value} (h : RowAt w lo aa n f) (hk : Keeps B S w w') (hB : w.heap.size ≤ B) (hS : ∀ k ∈ S, ∀ g, aa = some ⟨g, 0, none⟩ → k ≠ g) (hl : lo' ≤ lo) : RowAt w' lo' aa n f := fun hn => by
  obtain ⟨g, h1, h2, h3⟩ := h hn
  exact ⟨g, h1, Nat.le_trans hl h2, hk.row h3 (Nat.lt_of_lt_of_le h3.lt hB) (fun hm => hS _ hm g h1 rfl)⟩

theorem capAt3 (c : Cap) (k : Nat) : capAt c (k * 3) = .bool (c.pl k) ∧ capAt c (k * 3 + 1) = .int .i64 (c.frm k : Nat) ∧ capAt c (k * 3 + 2) = .int .i64 (c.to k : Nat) := by
  unfold capAt
  refine ⟨?_, ?_, ?_⟩
  · rw [if_pos (by omega), show k * 3 / 3 = k by omega]
  · rw [if_neg (by omega), if_pos (by omega), show (k * 3 + 1) / 3 = k by omega]
  · rw [if_neg (by omega), if_neg (by omega), show (k * 3 + 2) / 3 = k by omega]

theorem capCells_len (pl : Nat → Bool) (c : Cap) (n : Nat) : (capCells pl c n).length = n * 3 := by
  induction n with
  | zero => rfl
  | succ m ih => rw [capCells_succ, List.length_append, ih]; simp; omega
theorem capCells_at {pl : Nat → Bool} {ct cf : Cap} {n : Nat} (h : CapSame pl n ct cf) : ∀ j, j < n * 3 → (capCells pl cf n)[j]? = some (capAt ct j) := by
  induction n with
  | zero => intro j hj; omega
  | succ m ih =>
    intro j hj
    have hl := capCells_len pl cf m
    rw [capCells_succ]
    by_cases hlt : j < m * 3
    · rw [List.getElem?_append_left (by omega)]
      exact ih (fun k hk => h k (by omega)) j hlt
    · rw [List.getElem?_append_right (by omega), hl]
      obtain ⟨h1, h2, h3⟩ := h m (by omega)
      obtain ⟨a0, a1, a2⟩ := capAt3 ct m
      have hc : j = m * 3 ∨ j = m * 3 + 1 ∨ j = m * 3 + 2 := by omega
      rcases hc with rfl | rfl | rfl
      · rw [a0, h1, Nat.sub_self]; rfl
      · rw [a1, h2, show m * 3 + 1 - m * 3 = 1 by omega]; rfl
      · rw [a2, h3, show m * 3 + 2 - m * 3 = 2 by omega]; rfl

set_option maxHeartbeats 1000000 in
theorem eqCap_same (p : Bool) (f t : Int) (w : World) :
    Calls Try.prog 28 #[.agg #[.bool p, .int .i64 f, .int .i64 t], .agg #[.bool p, .int .i64 f, .int .i64 t]] w fun e w' => e = .returned (.bool true) ∧ Keeps w.heap.size [] w w' := by
  go_enter Try.func28, Try.ntmps28
  go_wp2_with fail
  go_ret
  exact ⟨rfl, ((Keeps.refl _ _ _).alloc (Nat.le_refl _) _).alloc (by simp) _⟩

section
variable {lo lo' n ca cb : Nat} {aa bb : Option Addr} {c : Cap} {w : World}

set_option maxRecDepth 100000 in
set_option maxHeartbeats 2000000 in
theorem eqCapS_same (hn : n ≤ 16) (ha : CapsAt w lo aa n c) (hb : CapsAt w lo' bb n c) :
    Calls Try.prog 16 #[.slice aa n ca, .slice bb n cb] w fun e w' => e = .returned (.bool true) ∧ Keeps w.heap.size [] w w' := by
  have HA := hid ha
  have HB := hid hb
  clear ha hb
  go_enter Try.func16, Try.ntmps16
  go_wp2_with fail
  go_loopw [5] (fun i wr => ∃ k : Nat, k ≤ n ∧ i = .int .i64 k ∧ Keeps w.heap.size [] w wr) (fun i _ => n - (intOf i).toNat)
  case atStart => exact ⟨0, Nat.zero_le _, rfl, Keeps.refl _ _ _⟩
  case round =>
    obtain ⟨k, hk, rfl, hkw⟩ := hrel
    by_cases hlt : k < n
    · obtain ⟨ga, rfl, _, hga, ha⟩ := HA.out (by omega)
      obtain ⟨gb, rfl, _, hgb, hb⟩ := HB.out (by omega)
      obtain ⟨x0, x1, x2⟩ := capAt3 c k
      have a0 := (hkw.cell (p := ⟨ga, k * 3, none⟩) hga (by simp)).trans ((ha (k * 3) (by omega)).trans (congrArg some x0))
      have a1 := (hkw.cell (p := ⟨ga, k * 3 + 1, none⟩) hga (by simp)).trans ((ha (k * 3 + 1) (by omega)).trans (congrArg some x1))
      have a2 := (hkw.cell (p := ⟨ga, k * 3 + 2, none⟩) hga (by simp)).trans ((ha (k * 3 + 2) (by omega)).trans (congrArg some x2))
      have b0 := (hkw.cell (p := ⟨gb, k * 3, none⟩) hgb (by simp)).trans ((hb (k * 3) (by omega)).trans (congrArg some x0))
      have b1 := (hkw.cell (p := ⟨gb, k * 3 + 1, none⟩) hgb (by simp)).trans ((hb (k * 3 + 1) (by omega)).trans (congrArg some x1))
      have b2 := (hkw.cell (p := ⟨gb, k * 3 + 2, none⟩) hgb (by simp)).trans ((hb (k * 3 + 2) (by omega)).trans (congrArg some x2))
      clear ha hb x0 x1 x2 HA HB
      have h1 : (0 : Int) ≤ k ∧ (k : Int) < n := ⟨by omega, by omega⟩
      go_upto_region 6 with fail
      go_cut [26] from 17 to 26 (fun v wx => v = .bool false ∧ Keeps w.heap.size [] w wx)
      case first =>
        go_region_with (refine (eqCap_same _ _ _ _).mono ?_; rintro e w' ⟨rfl, hk'⟩)
        all_goals
          go_wp2_with fail
          go_meet
        all_goals exact ⟨rfl, hkw.drew.andThen hk' hkw.size (by simp)⟩
      case rest =>
        obtain ⟨rfl, hk2⟩ := hcut
        go_wp2_with fail
        go_roundw
        case rel => exact ⟨k + 1, by omega, by go_num, hk2⟩
        case measure => simp [intOf]; omega
    · have h1 : ¬ ((k : Int) < n) := by omega
      go_wp2_with fail
      go_ret
      exact ⟨rfl, hkw⟩

/-- What marking leaves in the cells. -/
def markAt (j : Nat) : Value := if j % 3 = 0 then .bool false else .int .i64 ((j : Int) + 1)
theorem markAt3 (k : Nat) : markAt (k * 3) = .bool false ∧ markAt (k * 3 + 1) = .int .i64 (3 * (k : Int) + 2) ∧ markAt (k * 3 + 2) = .int .i64 (3 * (k : Int) + 3) := by
  unfold markAt
  refine ⟨?_, ?_, ?_⟩
  · rw [if_pos (by omega)]
  · rw [if_neg (by omega)]; congr 1; omega
  · rw [if_neg (by omega)]; congr 1; omega

theorem mark_row {wr : World} {g m k : Nat} {f : Nat → Value} (h : wr.rowIs g 55 m (fun j => if j < k * 3 then markAt j else f j)) :
    (((wr.setCell ⟨g, k * 3, none⟩ (.bool false)).setCell ⟨g, k * 3 + 1, none⟩ (.int .i64 (3 * (k : Int) + 1 + 1))).setCell ⟨g, k * 3 + 2, none⟩ (.int .i64 (3 * (k : Int) + 1 + 1 + 1))).rowIs g 55 m (fun j => if j < (k + 1) * 3 then markAt j else f j) := by
  obtain ⟨x0, x1, x2⟩ := markAt3 k
  refine (((h.set (k * 3) _).set (k * 3 + 1) _).set (k * 3 + 2) _).congr fun j hj => ?_
  by_cases e2 : j = k * 3 + 2
  · rw [if_pos e2, if_pos (by omega), e2, x2]; congr 1
  · by_cases e1 : j = k * 3 + 1
    · rw [if_neg e2, if_pos e1, if_pos (by omega), e1, x1]; congr 1
    · by_cases e0 : j = k * 3
      · rw [if_neg e2, if_neg e1, if_pos e0, if_pos (by omega), e0, x0]
      · rw [if_neg e2, if_neg e1, if_neg e0]
        by_cases hlt : j < k * 3
        · rw [if_pos hlt, if_pos (by omega)]
        · rw [if_neg hlt, if_neg (by omega)]
set_option maxRecDepth 100000 in
set_option maxHeartbeats 2000000 in
theorem markCapS {f : Nat → Value} (hn : n ≤ 16) (ha : RowAt w lo aa n f) :
    Calls Try.prog 17 #[.slice aa n ca, .int .i64 1] w fun e w' => e = .returned (.int .i64 (3 * (n : Int) + 1)) ∧ RowAt w' lo aa n markAt ∧ ∃ S, (∀ k ∈ S, 0 < n ∧ ∃ g, aa = some ⟨g, 0, none⟩ ∧ k = g) ∧ Keeps w.heap.size S w w' := by
  rcases Nat.eq_zero_or_pos n with rfl | hpos
  · clear ha
    go_enter Try.func17, Try.ntmps17
    go_wp2_with fail
    go_loopw [1, 5] (fun kk i wr => i = .int .i64 0 ∧ kk = .int .i64 1 ∧ wr = w) (fun _ i _ => 0)
    case atStart => exact ⟨rfl, rfl, rfl⟩
    case round =>
      obtain ⟨rfl, rfl, rfl⟩ := hrel
      go_wp2_with fail
      go_ret
      exact ⟨rfl, fun h => absurd h (by omega), [], by simp, Keeps.refl _ _ _⟩
  · obtain ⟨g, rfl, hlo, hrow⟩ := ha hpos
    have hgl := hrow.lt
    clear ha
    have HR := hid hrow
    clear hrow
    go_enter Try.func17, Try.ntmps17
    go_wp2_with fail
    go_loopw [1, 5] (fun kk i wr => ∃ k : Nat, k ≤ n ∧ i = .int .i64 k ∧ kk = .int .i64 (3 * (k : Int) + 1) ∧ Keeps w.heap.size [g] w wr ∧ wr.rowIs g 55 (n * 3) (fun j => if j < k * 3 then markAt j else f j)) (fun _ i _ => n - (intOf i).toNat)
    case atStart => exact ⟨0, Nat.zero_le _, rfl, rfl, Keeps.refl _ _ _, HR.out.congr fun j _ => by rw [if_neg (by omega)]⟩
    case round =>
      obtain ⟨k, hk, rfl, rfl, hkw, hrw⟩ := hrel
      by_cases hlt : k < n
      · have c0 := hrw.cell (i := k * 3) (by omega)
        have c1 := hrw.cell (i := k * 3 + 1) (by omega)
        have c2 := hrw.cell (i := k * 3 + 2) (by omega)
        have f0 := hrw.frozen (k * 3)
        have f1 := hrw.frozen (k * 3 + 1)
        have f2 := hrw.frozen (k * 3 + 2)
        have HRW := hid hrw
        have h1 : (0 : Int) ≤ k ∧ (k : Int) < n := ⟨by omega, by omega⟩
        have hm : ((3 * (k : Int) + 1) % 3 == 0) = false := by simp <;> omega
        clear hrw
        go_wp2_with fail
        go_roundw
        case rel =>
          refine ⟨k + 1, by omega, by go_num, by go_num, ((hkw.setCell (p := ⟨g, k * 3, none⟩) (Or.inl (by simp)) _).setCell (p := ⟨g, k * 3 + 1, none⟩) (Or.inl (by simp)) _).setCell (p := ⟨g, k * 3 + 2, none⟩) (Or.inl (by simp)) _, ?_⟩
          exact mark_row HRW.out
        case measure => simp [intOf]; omega
      · have h1 : ¬ ((k : Int) < n) := by omega
        obtain rfl : k = n := by omega
        have HRW := hid hrw
        clear hrw
        go_wp2_with fail
        go_ret
        exact ⟨rfl, fun _ => ⟨g, rfl, hlo, HRW.out.congr fun j hj => by rw [if_pos hj]⟩, [g], by simp <;> omega, hkw⟩

set_option maxRecDepth 100000 in
set_option maxHeartbeats 2000000 in
theorem heldCapS (hn : n ≤ 16) (ha : RowAt w lo aa n markAt) :
    Calls Try.prog 18 #[.slice aa n ca, .int .i64 1] w fun e w' => e = .returned (.int .i64 (3 * (n : Int) + 1)) ∧ w = w' := by
  have HA := hid ha
  clear ha
  go_enter Try.func18, Try.ntmps18
  go_wp2_with fail
  go_loop [1, 5] (fun kk i => ∃ k : Nat, k ≤ n ∧ i = .int .i64 k ∧ kk = .int .i64 (3 * (k : Int) + 1)) (fun _ i => n - (intOf i).toNat)
  case atStart => exact ⟨0, Nat.zero_le _, rfl, rfl⟩
  case round =>
    obtain ⟨k, hk, rfl, rfl⟩ := hrel
    by_cases hlt : k < n
    · obtain ⟨g, rfl, hlo, hrw⟩ := HA.out (by omega)
      obtain ⟨x0, x1, x2⟩ := markAt3 k
      have c0 := (hrw.cell (i := k * 3) (by omega)).trans (congrArg some x0)
      have c1 := (hrw.cell (i := k * 3 + 1) (by omega)).trans (congrArg some x1)
      have c2 := (hrw.cell (i := k * 3 + 2) (by omega)).trans (congrArg some x2)
      have h1 : (0 : Int) ≤ k ∧ (k : Int) < n := ⟨by omega, by omega⟩
      have hm : ((3 * (k : Int) + 1) % 3 == 0) = false := by simp <;> omega
      clear hrw x0 x1 x2 HA
      go_wp2_with fail
      go_round
      case rel => exact ⟨k + 1, by omega, by go_num, by go_num⟩
      case measure => simp [intOf]; omega
    · have h1 : ¬ ((k : Int) < n) := by omega
      obtain rfl : k = n := by omega
      go_wp2_with fail
      go_ret
      exact ⟨rfl, rfl⟩

set_option maxHeartbeats 1000000 in
theorem eqFound_same (i e2 : Int) (hn : n ≤ 16) (ha : CapsAt w lo aa n c) (hb : CapsAt w lo' bb n c) :
    Calls Try.prog 6 #[.agg #[.int .i64 i, .int .i64 e2, .slice aa n ca], .agg #[.int .i64 i, .int .i64 e2, .slice bb n cb]] w fun e w' => e = .returned (.bool true) ∧ Keeps w.heap.size [] w w' := by
  have HA := hid ha
  have HB := hid hb
  clear ha hb
  go_enter Try.func6, Try.ntmps6
  go_wp2_with fail
  have hk : Keeps w.heap.size [] w ((w.alloc (.cells #[.int .i64 i, .int .i64 e2, .slice aa n ca] 24)).alloc (.cells #[.int .i64 i, .int .i64 e2, .slice bb n cb] 24)) := ((Keeps.refl _ _ _).alloc (Nat.le_refl _) _).alloc (by simp) _
  refine (eqCapS_same hn (HA.out.keeps hk (Nat.le_refl _) (by simp) (Nat.le_refl _)) (HB.out.keeps hk (Nat.le_refl _) (by simp) (Nat.le_refl _))).mono ?_
  rintro e w' ⟨rfl, hk'⟩
  have HK := hid (hk.andThen hk' hk.size (by simp))
  clear hk hk'
  go_wp2_with fail
  go_ret
  exact ⟨rfl, HK.out⟩

set_option maxHeartbeats 1000000 in
theorem markFound_any {f : Nat → Value} (i e2 : Int) (hn : n ≤ 16) (ha : RowAt w lo aa n f) :
    Calls Try.prog 7 #[.agg #[.int .i64 i, .int .i64 e2, .slice aa n ca], .int .i64 1] w fun e w' => e = .returned (.int .i64 (3 * (n : Int) + 1)) ∧ RowAt w' lo aa n markAt ∧ ∃ S, (∀ k ∈ S, 0 < n ∧ ∃ g, aa = some ⟨g, 0, none⟩ ∧ k = g) ∧ Keeps w.heap.size S w w' := by
  have HA := hid ha
  clear ha
  go_enter Try.func7, Try.ntmps7
  go_wp2_with fail
  have hk : Keeps w.heap.size [] w (w.alloc (.cells #[.int .i64 i, .int .i64 e2, .slice aa n ca] 24)) := (Keeps.refl _ _ _).alloc (Nat.le_refl _) _
  refine (markCapS hn (HA.out.keeps hk (Nat.le_refl _) (by simp) (Nat.le_refl _))).mono ?_
  rintro e w' ⟨rfl, hr, S, hS, hk'⟩
  have HK := hid ((hk.mono (Nat.le_refl _) (by simp)).trans (hk'.mono hk.size (fun k h _ => h)) : Keeps w.heap.size S w w')
  have HR := hid hr
  clear hk hk' hr
  go_wp2_with fail
  go_ret
  exact ⟨rfl, HR.out, S, hS, HK.out⟩

set_option maxHeartbeats 1000000 in
theorem heldFound_any (i e2 : Int) (hn : n ≤ 16) (ha : RowAt w lo aa n markAt) :
    Calls Try.prog 8 #[.agg #[.int .i64 i, .int .i64 e2, .slice aa n ca], .int .i64 1] w fun e w' => e = .returned (.int .i64 (3 * (n : Int) + 1)) ∧ Keeps w.heap.size [] w w' := by
  have HA := hid ha
  clear ha
  have hn0 : (0 : Int) ≤ 3 * (n : Int) + 1 := by omega
  go_enter Try.func8, Try.ntmps8
  go_wp2_with fail
  have hk : Keeps w.heap.size [] w (w.alloc (.cells #[.int .i64 i, .int .i64 e2, .slice aa n ca] 24)) := (Keeps.refl _ _ _).alloc (Nat.le_refl _) _
  refine (heldCapS hn (HA.out.keeps hk (Nat.le_refl _) (by simp) (Nat.le_refl _))).mono ?_
  rintro e w' ⟨rfl, rfl⟩
  have HK := hid hk
  clear hk
  go_wp2_with fail
  go_ret
  exact ⟨rfl, HK.out⟩
end
end Go.Proofs.Ytpinoolagbghnaa
