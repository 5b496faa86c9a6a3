/-
  For every number (any flag, any int, any word) the law FnExactFormatNumber returns true: the program's FormatNumber answers as the reference's. The row lists tables of the library's with what they hold; the card ties them to the program's text.
-/
import Derived.Test.YtlblkajnmdhmdaaGreatDoorRows
import Derived.Test.YtlblkajnmdhmdaaGreatDoorTie
import Derived.Test.YtlblkajnmdhmdaaGreatDoorCards
import Derived.Test.YtlblkajnmdhmdaaGreatDoorZNLd
import Derived.Test.YtlblkajnmdhmdaaGreatDoorZNLf
import Derived.ProofKit
import Derived.OpenShut
import Derived.ChangeMaps5
import Derived.LaidMore
import Derived.Lay
import Derived.Stop.Joined
import Derived.Stop.LaidErr
import Derived.Lib.SmallJoins
import Derived.SevenTiedAt
namespace Go.Proofs.YtlblkajnmdhmdaaGreatDoor.fnExactFormatNumber
open Go.ChangeShapes Go.WideShapes Go.ChangeAt Go.RowKit Go.Joins
set_option linter.unusedVariables false

theorem own : ownKnob Tryz.prog.godebug = none := by kernel_rfl
abbrev laid : List (String × DataW Unit) := Rows.fnExactFormatNumberRow.laid
theorem tabs {W : World} (hsh : W.ShapedOpen Tryz.prog) (h : laidMetH Tryz.prog laid W) : FnTabs W := by
  rw [MakeChecks.laidMetH_plain _ _ _ (by kernel_rfl)] at h
  have h3 := h.tail.tail.tail
  have h4 := h3.tail
  have h6 := h4.tail.tail
  have h8 := h6.tail.tail
  have h10 := h8.tail.tail
  have h13 := h10.tail.tail.tail
  have hs := size_of_shape hsh
  exact ⟨⟨p10_of h13, t10_of (tab_of h8), hs, opt_of h4, tab_of h8⟩, ⟨p10_of h13, i7_of h3, f10_of h6, hs, opt_of h4, rng_of h10⟩, maxL_of hsh⟩

set_option maxRecDepth 100000 in
theorem lifted (os : Os) (started : os.Started) (H : Type) (enc : TypeId × Value → H) :
    ReturnsInHanded {} Tryz.checked os 5 .any (fun w args => (Rows.fnExactFormatNumberSpec.pre enc Tryz.prog Tryz.f5 [] false w args ∧ laidMetH Tryz.prog laid w) ∧ sizedMet enc Tryz.prog Tryz.f5 (OpenSpec.ofChange Rows.fnExactFormatNumberSpec) false w args)
      (Rows.fnExactFormatNumberSpec.post enc Tryz.prog Tryz.f5 false true false false) := by
  refine returnsInHanded_shaped_and (C := Tryz.checked) (X := fun w _ => laidMetH Tryz.prog laid w) (fun _ _ _ hh h => h.of_heap hh) own started (by kernel_rfl) Tryz.func5
    (ChangeSpec.witness_shaped (enc := enc) (C := Tryz.checked) (os := os) (X := fun w _ => laidMetH Tryz.prog laid w) false (World.laidAll Tryz.prog os laid) #[.agg #[.bool false, .int .i64 0, .int .u64 0]] 8 (World.laidAll_os _ _ _)
      (World.shaped_of_ZipB (by kernel_rfl) (by kernel_rfl)) (by kernel_rfl) (by kernel_rfl) (by kernel_rfl)
      (by rw [MakeChecks.laidMetH_plain _ _ _ (by kernel_rfl)]; exact laidMet_laidAll _ (by kernel_rfl) (by kernel_rfl))) ?_
  intro W base args ds gs before hval0 hW hL hsh
  have hval : ∀ (j : Nat) t v, Tryz.f5.params[j]? = some t → args[j]? = some v → Value.okWide Tryz.prog W .any base t v := hval0
  have hW' := hW
  obtain ⟨p, q, hA0, hV, rfl, hfz, hnd⟩ := hW
  have hA : DataW.TrodAll enc Tryz.prog W 0 (fun _ => true) true Tryz.f5.params.toList args.toList ds p := hA0
  rw [Tryz.params5] at hA hval
  obtain ⟨v0, d0, rfl, rfl, h0⟩ := trodAll_one hA
  obtain ⟨rfl, rfl⟩ := trodVars_none hV
  obtain ⟨c0, c1, c2, y0, y1, y2, m, rfl, rfl, rfl, e0, e1, e2⟩ := open_agg3 Tryz.underlying31 (by kernel_rfl) (by kernel_rfl) (hval 0 31 v0 rfl rfl) h0
  obtain ⟨b0, r0, rfl⟩ := DataW.trod_bool (by kernel_rfl) e0
  obtain ⟨i1, r1, rfl, w1⟩ := DataW.trod_int (k := .i64) (by kernel_rfl) e1
  obtain ⟨i2, r2, rfl, w2⟩ := DataW.trod_int (k := .u64) (by kernel_rfl) e2
  simp only [List.cons.injEq, and_true] at r0 r1 r2
  subst r0 r1 r2
  clear hA0 hval0
  simp only [List.append_nil] at hW'
  have hi : -9223372036854775808 ≤ i1 ∧ i1 ≤ 9223372036854775807 := bounds_i64 w1
  obtain ⟨b, rfl⟩ : ∃ b : Nat, i2 = b := by
    have : 0 ≤ i2 := by
      have := w2
      simp [Lit.wf, IntKind.min, IntKind.max, IntKind.signed, IntKind.bits] at this
      omega
    exact ⟨i2.toNat, by omega⟩
  have hb : b < 2 ^ 64 := by
    have := w2
    simp [Lit.wf, IntKind.min, IntKind.max, IntKind.signed, IntKind.bits] at this
    omega
  refine (lawF_any b0 i1 b W hi hb (tabs hsh hL)).mono fun e W' ⟨he, hg⟩ => ?_
  subst he
  exact ⟨_, rfl, post_below (pa := []) (pv := []) hW' (fun _ _ _ => (trodAll_cons_mk (shut_bool Tryz.underlying4 _) trodAll_mk0))
    (fun sp _ => trodAll_mk1 (shut_agg3 Tryz.underlying31 (by kernel_rfl) (by kernel_rfl) (shut_bool (t := 4) Tryz.underlying4 b0) (shut_int (t := 3) Tryz.underlying3 w1) (shut_int (t := 22) Tryz.underlying22 w2))) (fun _ _ => rfl) rfl
    hg (ok_one (by kernel_rfl) rfl (okWide_bool_mk Tryz.underlying4 _))⟩

theorem over : Rows.FnExactFormatNumberSaid :=
  OpenClaim.holds_of_wide 5 Tryz.f5 rfl rfl rfl rfl rfl rfl rfl ⟨rfl, rfl, rfl, rfl, rfl⟩ rfl rfl rfl rfl rfl (by kernel_rfl) Tryz.func5 (by kernel_rfl)
    (of_decide_eq_true (by kernel_rfl)) (by unfold Func.isWrapper; first | (rw [if_pos (by decide +kernel)]; kernel_rfl) | (rw [if_neg (by decide +kernel)]; exact ⟨rfl, rfl⟩))
    (fun os started H enc _ => lifted os started H enc)

/-- The statement: the card. -/
theorem proved : Rows.FnExactFormatNumberCardSaid :=
  Claim7.holds_tied_plain_at .later [] [.data, .data, .widerDeep, .widerDeep, .data, .data, .data, .data, .data, .data, .sentinel, .sentinel, .pinned, .pinned, .pinned] true (true, "dbc36fdaface6e7ac090ee8d493cddd28a18ba0b2813ec0eb0d8d76eee23e35c") true
    over (fun _ h => by cases h) (by kernel_rfl) (fun _ h => by cases h) fnExactFormatNumber_row_tie rfl ⟨rfl, rfl⟩ (by kernel_rfl) rfl
    (fun f fn hf hfn => by
      obtain rfl : f = 5 := Option.some.inj ((show Tryz.prog.funcNamed "loop.example/g00002/laws.FnExactFormatNumber" = some 5 by kernel_rfl).symm.trans hf) |>.symm
      obtain rfl : fn = Tryz.f5 := (Option.some.inj (Tryz.func5.symm.trans hfn)).symm
      exact ⟨by kernel_rfl, fun j t ht => by
        rw [Tryz.params5] at ht
        have hm : t ∈ [31] := by simpa using Array.mem_of_getElem? ht
        have hall : ([31].all fun u => !Tryz.prog.wantsStandIn u) = true := by kernel_rfl
        exact (show Tryz.prog.wantsStandIn t = false by simpa using List.all_eq_true.1 hall t hm)⟩)
    (by kernel_rfl)
#print axioms proved
end Go.Proofs.YtlblkajnmdhmdaaGreatDoor.fnExactFormatNumber
