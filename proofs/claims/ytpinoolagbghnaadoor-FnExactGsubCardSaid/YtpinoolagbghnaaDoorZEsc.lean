/-
  Walk: l10Escape of the reference adds to a set just what the plain word esc says.
-/
import Derived.Test.YtpinoolagbghnaaDoorZBytes
import Derived.BigQuiet
import Derived.Deep.QuietTactic
import Derived.Deep.LoopGhost
namespace Go.Proofs.YtpinoolagbghnaaDoor
set_option linter.unusedVariables false
open Go.RowKit Pat

/-- What l10Escape leaves. -/
def EscPost (g : Nat) (f : Nat → Bool) (k : Int) (w : World) (e : Ending) (w' : World) : Prop :=
  e = .returned (.bool (esc k).isSome) ∧ (∃ f', BoolRow w' g 4 256 f' ∧ ∀ h, esc k = some h → ∀ b, b < 256 → f' b = (f b || h b)) ∧ Keeps w.heap.size [g] w w'

theorem esc_cls {k L : Int} (hl : low k = L) (hc : isCls L = true) : esc k = some (fun b : Nat => inCls L b == decide (L = k)) := by
  unfold esc; rw [hl, if_pos hc]
theorem esc_other {k L : Int} (hl : low k = L) (hc : isCls L = false) : esc k = if letB k || digB k then none else some (fun b : Nat => decide ((b : Int) = k)) := by
  unfold esc; rw [hl, if_neg (by simp [hc])]

theorem esc_end_cls {g : Nat} {f : Nat → Bool} {k L : Int} {w w' : World} {eb : Bool} (hl : low k = L) (hc : isCls L = true) (he : decide (L = k) = eb)
    (hr : BoolRow w' g 4 256 (fun b => f b || (decide (b < 256) && (inCls L b == eb)))) (hk : Keeps w.heap.size [g] w w') : EscPost g f k w (.returned (.bool true)) w' := by
  have e := esc_cls hl hc
  refine ⟨by rw [e]; rfl, ⟨_, hr, fun h hh b hb => ?_⟩, hk⟩
  rw [e] at hh
  obtain rfl := Option.some.inj hh
  simp [hb, he]
theorem esc_end_other {g kn : Nat} {f : Nat → Bool} {L : Int} {w : World} {r : Bool} (hl : low kn = L) (hc : isCls L = false) (hr : r = !(letB kn || digB kn)) (hg : BoolRow w g 4 256 f) (_hk : kn < 256) :
    EscPost g f kn w (.returned (.bool r)) (w.setCell ⟨g, kn, none⟩ (.bool true)) := by
  have e := esc_other hl hc
  refine ⟨by rw [e, hr]; cases letB kn || digB kn <;> rfl, ⟨_, hg.set kn true, fun h hh b hb => ?_⟩, (Keeps.refl _ _ _).setCell (by simp) _⟩
  rw [e] at hh
  split at hh
  · cases hh
  · obtain rfl := Option.some.inj hh
    by_cases h1 : b = kn
    · simp [h1]
    · simp [h1]; omega

set_option maxRecDepth 100000 in
set_option maxHeartbeats 2000000 in
theorem esc_any (g : Nat) (f : Nat → Bool) (k : Int) (h0 : 0 ≤ k) (h1 : k ≤ 255) (w : World) (hg : BoolRow w g 4 256 f) :
    Calls Tryd.prog 60 #[.slice (some ⟨g, 0, none⟩) 256 256, .int .u8 k] w fun e w' => EscPost g f k w e w' := by
  obtain ⟨kn, rfl⟩ := Int.eq_ofNat_of_zero_le h0
  have hcell := hg.cell (i := kn) (by omega)
  have hfree := hg.frozen kn
  by_cases hu : 65 ≤ (kn : Int) ∧ (kn : Int) ≤ 90
  · obtain ⟨hu1, hu2⟩ := hu
    have hl : Hid (low kn = (kn : Int) + 32) := by show low kn = _; unfold low upB; rw [if_pos (by simp [hu1, hu2])]
    have eb : ((kn : Int) + 32 == (kn : Int)) = false := by simp; omega
    cases hc : isCls ((kn : Int) + 32)
    · go_enter Tryd.func60, Tryd.ntmps60
      go_wp2_with (go_at_call 66; refine (cls_any _ _ _).mono ?_; rintro e w' ⟨rfl, rfl⟩)
      all_goals
        go_ret
        refine esc_end_other hl.out hc ?_ hg (by omega)
        simp [letB, lowB, upB, digB]
        try omega
    · go_enter Tryd.func60, Tryd.ntmps60
      go_wp2_with (go_at_call 66; refine (cls_any _ _ _).mono ?_; rintro e w' ⟨rfl, rfl⟩)
      clear hcell hfree
      go_loopw [8] (fun c wr => ∃ n : Nat, n ≤ 256 ∧ c = .int .i64 n ∧ BoolRow wr g 4 256 (fun b => f b || (decide (b < n) && (inCls ((kn : Int) + 32) b == false))) ∧ Keeps w.heap.size [g] w wr) (fun c _ => 256 - (intOf c).toNat)
      case atStart => exact ⟨0, by omega, rfl, hg.congr fun i _ => by simp, Keeps.refl _ _ _⟩
      case round =>
        obtain ⟨n, hn, rfl, hrow, hk⟩ := hrel
        by_cases hlt : n < 256
        · have hcell := hrow.cell hlt
          have hfree := hrow.frozen n
          cases hin : inCls ((kn : Int) + 32) n
          · go_wp2_with (go_at_call 66; refine (cls_any _ _ _).mono ?_; rintro e w' ⟨rfl, rfl⟩)
            go_roundw
            case rel =>
              refine ⟨n + 1, by omega, by go_num, (hrow.set n true).congr fun i hi => ?_, hk.setCell (by simp) _⟩
              by_cases h1 : i = n
              · subst h1; simp [hin]
              · have : (i < n + 1) ↔ i < n := by omega
                simp [h1, this]
            case measure => simp [intOf]; omega
          · go_wp2_with (go_at_call 66; refine (cls_any _ _ _).mono ?_; rintro e w' ⟨rfl, rfl⟩)
            go_roundw
            case rel =>
              refine ⟨n + 1, by omega, by go_num, hrow.congr fun i hi => ?_, hk⟩
              by_cases h1 : i = n
              · subst h1; simp [hin]
              · have : (i < n + 1) ↔ i < n := by omega
                simp [this]
            case measure => simp [intOf]; omega
        · obtain rfl : n = 256 := by omega
          go_wp2_with fail
          go_ret
          exact esc_end_cls hl.out hc (by simp; omega) hrow hk
  · have hl : Hid (low kn = (kn : Int)) := by show low kn = _; unfold low upB; rw [if_neg (by simp; omega)]
    cases hc : isCls (kn : Int)
    · have hu : (kn : Int) < 65 ∨ 90 < (kn : Int) := by omega
      rcases hu with hu | hu
      all_goals
        go_enter Tryd.func60, Tryd.ntmps60
        go_wp2_with (go_at_call 66; refine (cls_any _ _ _).mono ?_; rintro e w' ⟨rfl, rfl⟩)
      all_goals
        go_ret
        refine esc_end_other hl.out hc ?_ hg (by omega)
        rw [Bool.eq_iff_iff]
        simp [letB, lowB, upB, digB]
        try omega
    · have hu : (kn : Int) < 65 ∨ 90 < (kn : Int) := by omega
      rcases hu with hu | hu
      all_goals
        go_enter Tryd.func60, Tryd.ntmps60
        go_wp2_with (go_at_call 66; refine (cls_any _ _ _).mono ?_; rintro e w' ⟨rfl, rfl⟩)
        clear hcell hfree
        go_loopw [8] (fun c wr => ∃ n : Nat, n ≤ 256 ∧ c = .int .i64 n ∧ BoolRow wr g 4 256 (fun b => f b || (decide (b < n) && (inCls (kn : Int) b == true))) ∧ Keeps w.heap.size [g] w wr) (fun c _ => 256 - (intOf c).toNat)
        case atStart => exact ⟨0, by omega, rfl, hg.congr fun i _ => by simp, Keeps.refl _ _ _⟩
        case round =>
          obtain ⟨n, hn, rfl, hrow, hk⟩ := hrel
          by_cases hlt : n < 256
          · have hcell := hrow.cell hlt
            have hfree := hrow.frozen n
            cases hin : inCls (kn : Int) n
            · go_wp2_with (go_at_call 66; refine (cls_any _ _ _).mono ?_; rintro e w' ⟨rfl, rfl⟩)
              go_roundw
              case rel =>
                refine ⟨n + 1, by omega, by go_num, hrow.congr fun i hi => ?_, hk⟩
                by_cases h1 : i = n
                · subst h1; simp [hin]
                · have : (i < n + 1) ↔ i < n := by omega
                  simp [this]
              case measure => simp [intOf]; omega
            · go_wp2_with (go_at_call 66; refine (cls_any _ _ _).mono ?_; rintro e w' ⟨rfl, rfl⟩)
              go_roundw
              case rel =>
                refine ⟨n + 1, by omega, by go_num, (hrow.set n true).congr fun i hi => ?_, hk.setCell (by simp) _⟩
                by_cases h1 : i = n
                · subst h1; simp [hin]
                · have : (i < n + 1) ↔ i < n := by omega
                  simp [h1, this]
              case measure => simp [intOf]; omega
          · obtain rfl : n = 256 := by omega
            go_wp2_with fail
            go_ret
            exact esc_end_cls hl.out hc (by simp) hrow hk
end Go.Proofs.YtpinoolagbghnaaDoor
