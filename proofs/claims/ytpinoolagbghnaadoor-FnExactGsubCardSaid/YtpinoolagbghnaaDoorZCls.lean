/-
  Walks: the program's classes of bytes: hexVal, the closures of class, class itself and percent come to the plain words of Pat.
-/
import Derived.Test.YtpinoolagbghnaaDoorZBytes
import Derived.BigRegion
import Derived.BigQuiet
import Derived.Deep.QuietTactic
import Derived.RegionTactic
import Derived.Deep.RegionLaw
import Derived.Deep.CutRange
import Derived.Deep.DeepMust
import Derived.Handy
import Derived.Deep.CutBlock
namespace Go.Proofs.YtpinoolagbghnaaDoor
set_option linter.unusedVariables false
open Go.RowKit Pat

def hexV (c : Int) : Int := if digB c then c - 48 else if 97 ≤ c ∧ c ≤ 102 then c - 87 else if 65 ≤ c ∧ c ≤ 70 then c - 55 else -1
theorem hexVal_any (c : Int) (h0 : 0 ≤ c) (h1 : c ≤ 255) (w : World) : Calls Tryd.prog 52 #[.int .u8 c] w fun e w' => e = .returned (.int .i64 (hexV c)) ∧ w = w' := by
  obtain ⟨d, hd⟩ : ∃ d, d = digB c := ⟨_, rfl⟩
  have HD := hid hd
  clear hd
  cases d
  all_goals
    go_enter Tryd.func52, Tryd.ntmps52
    go_wp2_with (go_at_call 24; refine (isDigit_any _ _).mono ?_; rintro e w' ⟨rfl, rfl⟩; rw [← HD.out])
  all_goals
    go_ret
    refine ⟨ret_i ?_, rfl⟩
    have := HD.out
    unfold hexV
    rw [← this]
    unfold digB at this
    simp at this
    simp
    try omega

theorem c1_any (c : Int) (h0 : 0 ≤ c) (h1 : c ≤ 255) (w : World) : Calls Tryd.prog 47 #[.int .u8 c] w fun e w' => e = .returned (.bool (inCls 108 c)) ∧ w = w' := by
  go_enter Tryd.func47, Tryd.ntmps47
  go_wp2_with fail
  all_goals
    go_ret
    refine ⟨ret_b ?_, rfl⟩
    try simp only [beq_iff_eq, beq_eq_false_iff_ne] at *
    rw [Bool.eq_iff_iff]
    simp [inCls, lowB, *]
    try omega

theorem c2_any (c : Int) (h0 : 0 ≤ c) (h1 : c ≤ 255) (w : World) : Calls Tryd.prog 48 #[.int .u8 c] w fun e w' => e = .returned (.bool (inCls 117 c)) ∧ w = w' := by
  go_enter Tryd.func48, Tryd.ntmps48
  go_wp2_with fail
  all_goals
    go_ret
    refine ⟨ret_b ?_, rfl⟩
    try simp only [beq_iff_eq, beq_eq_false_iff_ne] at *
    rw [Bool.eq_iff_iff]
    simp [inCls, upB, *]
    try omega

theorem c3_any (c : Int) (h0 : 0 ≤ c) (h1 : c ≤ 255) (w : World) : Calls Tryd.prog 49 #[.int .u8 c] w fun e w' => e = .returned (.bool (inCls 115 c)) ∧ w = w' := by
  go_enter Tryd.func49, Tryd.ntmps49
  go_wp2_with fail
  all_goals
    go_ret
    refine ⟨ret_b ?_, rfl⟩
    try simp only [beq_iff_eq, beq_eq_false_iff_ne] at *
    rw [Bool.eq_iff_iff]
    simp [inCls, *]
    try omega

theorem c4_any (c : Int) (h0 : 0 ≤ c) (h1 : c ≤ 255) (w : World) : Calls Tryd.prog 50 #[.int .u8 c] w fun e w' => e = .returned (.bool (inCls 119 c)) ∧ w = w' := by
  go_enter Tryd.func50, Tryd.ntmps50
  go_wp2_with (first | (go_at_call 36; refine (letterB_any _ _).mono ?_; rintro e w' ⟨rfl, rfl⟩) | (go_at_call 24; refine (isDigit_any _ _).mono ?_; rintro e w' ⟨rfl, rfl⟩))
  all_goals
    go_ret
    refine ⟨ret_b ?_, rfl⟩
    try simp only [beq_iff_eq, beq_eq_false_iff_ne] at *
    rw [Bool.eq_iff_iff]
    simp [inCls, *]
    try omega

theorem c5_any (c : Int) (h0 : 0 ≤ c) (h1 : c ≤ 255) (w : World) : Calls Tryd.prog 51 #[.int .u8 c] w fun e w' => e = .returned (.bool (inCls 120 c)) ∧ w = w' := by
  go_enter Tryd.func51, Tryd.ntmps51
  go_wp2_with (first | (go_at_call 52; refine (hexVal_any _ h0 h1 _).mono ?_; rintro e w' ⟨rfl, rfl⟩))
  all_goals
    go_ret
    refine ⟨ret_b ?_, rfl⟩
    try simp only [beq_iff_eq, beq_eq_false_iff_ne] at *
    rw [Bool.eq_iff_iff]
    simp [inCls, hexV, digB, *]
    try omega

theorem c6_any (c : Int) (h0 : 0 ≤ c) (h1 : c ≤ 255) (w : World) : Calls Tryd.prog 53 #[.int .u8 c] w fun e w' => e = .returned (.bool (inCls 112 c)) ∧ w = w' := by
  go_enter Tryd.func53, Tryd.ntmps53
  go_wp2_with (first | (go_at_call 36; refine (letterB_any _ _).mono ?_; rintro e w' ⟨rfl, rfl⟩) | (go_at_call 24; refine (isDigit_any _ _).mono ?_; rintro e w' ⟨rfl, rfl⟩))
  all_goals
    go_ret
    refine ⟨ret_b ?_, rfl⟩
    try simp only [beq_iff_eq, beq_eq_false_iff_ne] at *
    rw [Bool.eq_iff_iff]
    simp [inCls, *]
    try omega

theorem c7_any (c : Int) (h0 : 0 ≤ c) (h1 : c ≤ 255) (w : World) : Calls Tryd.prog 54 #[.int .u8 c] w fun e w' => e = .returned (.bool (inCls 99 c)) ∧ w = w' := by
  go_enter Tryd.func54, Tryd.ntmps54
  go_wp2_with fail
  all_goals
    go_ret
    refine ⟨ret_b ?_, rfl⟩
    try simp only [beq_iff_eq, beq_eq_false_iff_ne] at *
    rw [Bool.eq_iff_iff]
    simp [inCls, *]
    try omega

theorem or32 {c : Int} (h0 : 0 ≤ c) (h1 : c ≤ 255) (hl : letB c = true) : bits BinOp.or IntKind.u8 c 32 = low c := by
  obtain ⟨n, rfl⟩ : ∃ n : Nat, c = n := ⟨c.toNat, by omega⟩
  have h : ∀ n : Fin 256, letB ((n : Nat) : Int) = true → bits BinOp.or IntKind.u8 ((n : Nat) : Int) 32 = low ((n : Nat) : Int) := by decide +kernel
  exact h ⟨n, by omega⟩ hl
theorem and32 {c : Int} (h0 : 0 ≤ c) (h1 : c ≤ 255) (hl : letB c = true) : bits BinOp.and IntKind.u8 c 32 = if low c = c then 32 else 0 := by
  obtain ⟨n, rfl⟩ : ∃ n : Nat, c = n := ⟨c.toNat, by omega⟩
  have h : ∀ n : Fin 256, letB ((n : Nat) : Int) = true → bits BinOp.and IntKind.u8 ((n : Nat) : Int) 32 = if low ((n : Nat) : Int) = ((n : Nat) : Int) then 32 else 0 := by decide +kernel
  exact h ⟨n, by omega⟩ hl

theorem isCls_iff {k : Int} : isCls k = true ↔ k = 97 ∨ k = 100 ∨ k = 108 ∨ k = 115 ∨ k = 117 ∨ k = 119 ∨ k = 120 ∨ k = 112 ∨ k = 99 := by
  unfold isCls; simp [or_assoc]
/-- A new set in memory, handed back. -/
def NewSet (f : Nat → Bool) (w : World) (e : Ending) (w' : World) : Prop := ∃ g, e = .returned (.pointer (some ⟨g, 0, none⟩)) ∧ w.heap.size ≤ g ∧ BoolRow w' g 82 256 f ∧ Keeps w.heap.size [] w w'
/-- A function of the program that tells whether a byte is of a class. -/
def IsF (F : Nat) (k : Int) : Prop := (∀ (args : Array Value) (w : World), (callFunc F args).run Tryd.prog w = .ok (.enter F args) w) ∧ ∀ b : Int, 0 ≤ b → b ≤ 255 → ∀ w : World, Calls Tryd.prog F #[.int .u8 b] w fun e w' => e = .returned (.bool (inCls k b)) ∧ w = w'
theorem isF_letter : IsF 36 97 := ⟨fun _ _ => by kernel_rfl, fun b _ _ w => (letterB_any b w).mono fun e w' h => ⟨h.1.trans (by simp [inCls]), h.2⟩⟩
theorem isF_digit : IsF 24 100 := ⟨fun _ _ => by kernel_rfl, fun b _ _ w => (isDigit_any b w).mono fun e w' h => ⟨h.1.trans (by simp [inCls]), h.2⟩⟩

set_option maxRecDepth 100000 in
set_option maxHeartbeats 2000000 in
theorem class_no (c : Int) (h0 : 0 ≤ c) (h1 : c ≤ 255) (hl : letB c = true) (hc : isCls (low c) = false) (w : World) : Calls Tryd.prog 37 #[.int .u8 c] w fun e w' => e = .returned (.pointer none) ∧ w = w' := by
  have hor := or32 h0 h1 hl
  obtain ⟨k, hk⟩ : ∃ k, k = low c := ⟨_, rfl⟩
  rw [← hk] at hor hc
  clear hk
  have hn : (k == 97) = false ∧ (k == 100) = false ∧ (k == 108) = false ∧ (k == 115) = false ∧ (k == 117) = false ∧ (k == 119) = false ∧ (k == 120) = false ∧ (k == 112) = false ∧ (k == 99) = false := by
    unfold isCls at hc; simp at hc; simp [hc]
  obtain ⟨a1, a2, a3, a4, a5, a6, a7, a8, a9⟩ := hn
  clear hc
  go_enter Tryd.func37, Tryd.ntmps37
  go_wp2_with fail
  go_ret
  exact ⟨rfl, rfl⟩

theorem zero_set (w : World) : (zeroValue 82).run Tryd.prog w = .ok (.agg (madeCells #[.bool false] 256)) w := by kernel_rfl

set_option maxRecDepth 100000 in
set_option maxHeartbeats 2000000 in
theorem class_yes (c : Int) (h0 : 0 ≤ c) (h1 : c ≤ 255) (hl : letB c = true) (hc : isCls (low c) = true) (w : World) : Calls Tryd.prog 37 #[.int .u8 c] w fun e w' => NewSet (fun b => inCls (low c) b == decide (low c = c)) w e w' := by
  have hor := or32 h0 h1 hl
  have hand := and32 h0 h1 hl
  obtain ⟨k, hk⟩ : ∃ k, k = low c := ⟨_, rfl⟩
  rw [← hk] at hor hc hand
  have HK := hid hk
  clear hk
  have hke : (decide (k = c) = true ∧ bits BinOp.and IntKind.u8 c 32 = 32) ∨ (decide (k = c) = false ∧ bits BinOp.and IntKind.u8 c 32 = 0) := by
    rw [hand]
    by_cases h : k = c
    · left; exact ⟨decide_eq_true h, if_pos h⟩
    · right; exact ⟨decide_eq_false h, if_neg h⟩
  clear hand
  have hn := isCls_iff.1 hc
  clear hc
  go_enter Tryd.func37, Tryd.ntmps37
  go_upto_block 0 with fail
  go_cut [3] from 3 to 29 (fun v wx => ∃ F, v = .func (Fn.func F) #[] #[] ∧ IsF F k ∧ wx = w)
  case first =>
    rcases hn with rfl | rfl | rfl | rfl | rfl | rfl | rfl | rfl | rfl
    all_goals
      go_wp2_with fail
      go_meet
    · exact ⟨_, rfl, isF_letter, rfl⟩
    · exact ⟨_, rfl, isF_digit, rfl⟩
    · exact ⟨_, rfl, ⟨fun _ _ => by kernel_rfl, c1_any⟩, rfl⟩
    · exact ⟨_, rfl, ⟨fun _ _ => by kernel_rfl, c3_any⟩, rfl⟩
    · exact ⟨_, rfl, ⟨fun _ _ => by kernel_rfl, c2_any⟩, rfl⟩
    · exact ⟨_, rfl, ⟨fun _ _ => by kernel_rfl, c4_any⟩, rfl⟩
    · exact ⟨_, rfl, ⟨fun _ _ => by kernel_rfl, c5_any⟩, rfl⟩
    · exact ⟨_, rfl, ⟨fun _ _ => by kernel_rfl, c6_any⟩, rfl⟩
    · exact ⟨_, rfl, ⟨fun _ _ => by kernel_rfl, c7_any⟩, rfl⟩
  case rest =>
    obtain ⟨F, rfl, ⟨hcf, hF⟩, rfl⟩ := hcut
    have hz := zero_set
    go_upto_region 25 with fail
    have hrow := World.rowIs_made wc (.bool false) 256 82
    have hlo := hrow.lt
    go_wp2_with fail
    rcases hke with ⟨hd, hb⟩ | ⟨hd, hb⟩
    all_goals
      have HD := hid hd
      clear hd
      go_loopw [32] (fun v wr => ∃ n : Nat, n ≤ 256 ∧ v = .int .i64 n ∧ BoolRow wr wc.heap.size 82 256 (fun b => decide (b < n) && (inCls k b == decide (k = c))) ∧ Keeps wc.heap.size [] wc wr) (fun v _ => 256 - (intOf v).toNat)
      case atStart => exact ⟨0, by omega, rfl, hrow.congr fun i _ => by simp, (Keeps.refl _ _ _).alloc (Nat.le_refl _) _⟩
      case round =>
        obtain ⟨n, hn2, rfl, hrw, hkk⟩ := hrel
        by_cases hlt : n < 256
        · have r1 := hrw.cell hlt
          have r2 := hrw.frozen n
          have r3 := hrw.lt
          have hwr : IntKind.u8.wrap (n : Int) = n := IntWalk.u8_in _ (by omega)
          go_wp2_with fail
          go_region_with (refine (hF n (by omega) (by omega) _).mono ?_; rintro e w' ⟨rfl, rfl⟩)
          go_wp2_with fail
          go_roundw
          case measure => simp [intOf]; omega
          case rel =>
            refine ⟨n + 1, by omega, by go_num, (hrw.set n _).drew.congr fun i hi => ?_, (hkk.setCell (Or.inr (Nat.le_refl _)) _).drew⟩
            by_cases hin : i = n
            · subst hin; simp [HD.out]
            · have : decide (i < n + 1) = decide (i < n) := by rw [Bool.eq_iff_iff]; simp; omega
              simp [hin, this]
        · go_wp2_with fail
          go_ret
          refine ⟨wc.heap.size, rfl, Nat.le_refl _, hrw.congr fun i hi => ?_, hkk⟩
          have : i < n := by omega
          rw [HK.out] at *
          simp [this]

theorem esc_none {c : Int} (h : esc c = none) : (letB c = true ∧ isCls (low c) = false) ∨ (letB c = false ∧ digB c = true) := by
  unfold esc at h
  split at h
  · cases h
  · rename_i h1
    split at h
    · rename_i h2
      cases hl : letB c with
      | true => left; exact ⟨rfl, by simpa using h1⟩
      | false => right; rw [hl] at h2; exact ⟨rfl, by simpa using h2⟩
    · cases h
theorem cls_letter {c : Int} (h : letB c = false) : isCls (low c) = false := by
  have hu : upB c = false := by unfold letB at h; simp at h; exact h.2
  have hl : lowB c = false := by unfold letB at h; simp at h; exact h.1
  have : low c = c := by unfold low; rw [hu]; rfl
  rw [this]
  unfold lowB at hl
  simp at hl
  cases hc : isCls c with
  | false => rfl
  | true =>
    have := isCls_iff.1 hc
    omega
theorem esc_some {c : Int} {f : Nat → Bool} (h : esc c = some f) : (letB c = true ∧ isCls (low c) = true ∧ f = fun b : Nat => inCls (low c) b == decide (low c = c)) ∨ (letB c = false ∧ digB c = false ∧ f = fun b : Nat => decide ((b : Int) = c)) := by
  unfold esc at h
  split at h
  · rename_i h1
    simp only [Option.some.injEq] at h
    cases hl : letB c with
    | true => left; exact ⟨rfl, h1, h.symm⟩
    | false => rw [cls_letter hl] at h1; cases h1
  · split at h
    · cases h
    · rename_i h2
      simp at h2
      simp only [Option.some.injEq] at h
      right; exact ⟨h2.1, h2.2, h.symm⟩

theorem percent_none (c : Int) (h0 : 0 ≤ c) (h1 : c ≤ 255) (he : esc c = none) (w : World) : Calls Tryd.prog 26 #[.int .u8 c] w fun e w' => e = .returned (.pointer none) ∧ w = w' := by
  rcases esc_none he with ⟨hl, hc⟩ | ⟨hl, hd⟩
  · have HL := hid hl
    have HC := hid hc
    clear hl hc he
    go_enter Tryd.func26, Tryd.ntmps26
    go_wp2_with fail
    refine (letterB_any _ _).mono ?_
    rintro e w' ⟨rfl, rfl⟩
    rw [HL.out]
    go_wp2_with fail
    refine (class_no c h0 h1 HL.out HC.out _).mono ?_
    rintro e w' ⟨rfl, rfl⟩
    go_wp2_with fail
    go_ret
    exact ⟨rfl, rfl⟩
  · have HL := hid hl
    have HC := hid hd
    clear hl hd he
    go_enter Tryd.func26, Tryd.ntmps26
    go_wp2_with fail
    refine (letterB_any _ _).mono ?_
    rintro e w' ⟨rfl, rfl⟩
    rw [HL.out]
    go_wp2_with fail
    refine (isDigit_any _ _).mono ?_
    rintro e w' ⟨rfl, rfl⟩
    rw [HC.out]
    go_wp2_with fail
    go_ret
    exact ⟨rfl, rfl⟩

theorem percent_some (c : Int) (f : Nat → Bool) (h0 : 0 ≤ c) (h1 : c ≤ 255) (he : esc c = some f) (w : World) : Calls Tryd.prog 26 #[.int .u8 c] w fun e w' => NewSet f w e w' := by
  rcases esc_some he with ⟨hl, hc, hf⟩ | ⟨hl, hd, hf⟩
  · have HL := hid hl
    have HC := hid hc
    have HF := hid hf
    clear hl hc he hf
    go_enter Tryd.func26, Tryd.ntmps26
    go_wp2_with fail
    refine (letterB_any _ _).mono ?_
    rintro e w' ⟨rfl, rfl⟩
    rw [HL.out]
    go_wp2_with fail
    refine (class_yes c h0 h1 HL.out HC.out _).mono ?_
    rintro e w' ⟨g, rfl, hg1, hg2, hg3⟩
    go_wp2_with fail
    go_ret
    rw [HF.out]
    exact ⟨g, rfl, hg1, hg2, hg3⟩
  · have HL := hid hl
    have HC := hid hd
    have HF := hid hf
    clear hl hd he hf
    obtain ⟨n, rfl⟩ : ∃ n : Nat, c = n := ⟨c.toNat, by omega⟩
    have hz := zero_set
    have hrow := World.rowIs_made w (.bool false) 256 82
    have r1 := hrow.cell (i := n) (by omega)
    have r2 := hrow.frozen n
    have r3 := hrow.lt
    go_enter Tryd.func26, Tryd.ntmps26
    go_wp2_with fail
    refine (letterB_any _ _).mono ?_
    rintro e w' ⟨rfl, rfl⟩
    rw [HL.out]
    go_wp2_with fail
    refine (isDigit_any _ _).mono ?_
    rintro e w' ⟨rfl, rfl⟩
    rw [HC.out]
    go_wp2_with fail
    go_ret
    rw [← World.setCell_alloc_new]
    refine ⟨w.heap.size, rfl, Nat.le_refl _, (hrow.set n _).congr fun i hi => ?_, ((Keeps.refl _ _ _).alloc (Nat.le_refl _) _).setCell (Or.inr (Nat.le_refl _)) _⟩
    rw [HF.out]
    by_cases hin : i = n
    · subst hin; simp
    · have : ¬ ((i : Int) = n) := by omega
      simp [hin]
      exact this
end Go.Proofs.YtpinoolagbghnaaDoor
