/-
  Walk: impl.FormatNumber, every number.
-/
import Derived.Test.YtlblkajnmdhmdaaGreatDoorZNSt
namespace Go.Proofs.YtlblkajnmdhmdaaGreatDoor
set_option linter.unusedVariables false
open Go.RowKit Lib NR NU NB Go.Op Go.Proofs.YtlblkajnmdhmdaaGreatDoorW.PrintWords
theorem WrTabs.below {w w' : World} (h : WrTabs w) (hb : Below w.heap.size w w') : WrTabs w' := by
  have hs := h.size
  exact ⟨h.p10.below hs hb, h.t10.below hs hb, Nat.lt_of_lt_of_le hs hb.size, (hb.cell (p := ⟨4, 0, none⟩) (by show 4 < _; omega)).trans h.opt, Lib.tabBelow_of_tabIs h.tab _ hb⟩
set_option maxRecDepth 100000 in
theorem string_nan (i : Int) (b : Nat) (w : World) (h1 : (FloatKind.f64.format.order b b == some .eq) = false) :
    Calls Tryz.prog 35 #[.agg #[.bool true, .int .i64 i, .float .f64 b]] w fun r w' => r = .returned (.string ⟨#[110, 97, 110]⟩) ∧ Below w.heap.size w w' := by
  have hB2 : (FloatKind.f64.format.order b b != some .eq) = true := by simpa [bne] using h1
  go_enter Tryz.func35, Tryz.ntmps35
  go_wp2_with fail
  go_ret
  exact ⟨rfl, (Below.refl _ _).alloc (Nat.le_refl _) _⟩
set_option maxRecDepth 100000 in
theorem string_inf (i : Int) (b : Nat) (w : World) (h1 : (FloatKind.f64.format.order b b == some .eq) = true) (h2 : (FloatKind.f64.format.order b 9218868437227405311 == some .gt) = true) :
    Calls Tryz.prog 35 #[.agg #[.bool true, .int .i64 i, .float .f64 b]] w fun r w' => r = .returned (.string ⟨#[105, 110, 102]⟩) ∧ Below w.heap.size w w' := by
  have hB2 : (FloatKind.f64.format.order b b != some .eq) = false := by simpa [bne] using h1
  have H2 := hid h2
  clear h2
  go_enter Tryz.func35, Tryz.ntmps35
  go_wp2_with (go_at_call 50; ((with_reducible refine (isinf_pos b true _ H2.out).mono ?_); rintro e w' ⟨rfl, rfl⟩))
  go_ret
  exact ⟨rfl, (Below.refl _ _).alloc (Nat.le_refl _) _⟩
set_option maxRecDepth 100000 in
theorem string_minf (i : Int) (b : Nat) (w : World) (h1 : (FloatKind.f64.format.order b b == some .eq) = true) (h2 : (FloatKind.f64.format.order b 9218868437227405311 == some .gt) = false)
    (h3 : (FloatKind.f64.format.order (negFloat .f64 b) 9218868437227405311 == some .gt) = true) :
    Calls Tryz.prog 35 #[.agg #[.bool true, .int .i64 i, .float .f64 b]] w fun r w' => r = .returned (.string ⟨#[45, 105, 110, 102]⟩) ∧ Below w.heap.size w w' := by
  have hB2 : (FloatKind.f64.format.order b b != some .eq) = false := by simpa [bne] using h1
  have H2 := hid h2
  have H3 := hid h3
  clear h2 h3
  go_enter Tryz.func35, Tryz.ntmps35
  go_wp2_with (go_at_call 50; (first | ((with_reducible refine (isinf_pos b false _ H2.out).mono ?_); rintro e w' ⟨rfl, rfl⟩) | ((with_reducible refine (isinf_neg b true _ H3.out).mono ?_); rintro e w' ⟨rfl, rfl⟩)))
  go_ret
  exact ⟨rfl, (Below.refl _ _).alloc (Nat.le_refl _) _⟩
/-- The tables that FormatNumber wants. -/
structure FnTabs (w : World) : Prop where
  wr : WrTabs w
  rd : RdTabs w
  mx : MaxL w
theorem FnTabs.below {w w' : World} (h : FnTabs w) (hb : Below w.heap.size w w') : FnTabs w' := ⟨h.wr.below hb, h.rd.below hb, h.mx.below h.wr.size hb⟩
/-- The magnitude's facts that the walk wants. -/
theorem string_mag (i : Int) (b u : Nat) (neg : Bool) (w : World) (hT : FnTabs w)
    (h1 : (FloatKind.f64.format.order b b == some .eq) = true) (h2 : (FloatKind.f64.format.order b 9218868437227405311 == some .gt) = false)
    (h3 : (FloatKind.f64.format.order (negFloat .f64 b) 9218868437227405311 == some .gt) = false) (h4 : decide (2 ^ 63 ≤ b) = neg) (hb : b < 2 ^ 64)
    (h5 : (if neg then negFloat .f64 b else b) = u) (hu : u < 2047 * 2 ^ 52) :
    Calls Tryz.prog 35 #[.agg #[.bool true, .int .i64 i, .float .f64 b]] w (StPost (FT u) neg w) := by
  by_cases h0 : u = 0
  · refine string_fin i b u 1 neg (fun _ t => t = [48, 101, 43, 48, 48]) (FT u) (fun _ => 0) w h1 h2 h3 h4 hb h5 hu ⟨by decide, by decide⟩ h0.symm (fun k a c => by omega) (fun _ => by decide) ?_ ?_ hT.mx hT.wr.size hT.wr.tab ?_
    · intro k w' hk1 hk2 hbw
      have : k = 1 := by omega
      subst this
      rw [h0]
      exact format_zero w'
    · rintro k t w' hk1 hk2 rfl hbw
      have := parse_walk ⟨[48, 101, 43, 48, 48].toArray⟩ 0 0 w' zero_num (hT.rd.below hbw)
      rw [wordE_zero] at this
      exact this
    · rintro t rfl
      refine ⟨48, [], 0, [48], rfl, ?_, by decide, by decide, rfl, by decide, Or.inl ⟨h0, rfl⟩⟩
      intro b hb
      simp only [List.mem_cons, List.not_mem_nil, or_false] at hb
      subst hb
      exact ⟨by decide, by decide⟩
  · obtain ⟨K, j, hW, j1, j2, k1, k2, k3, k4, k5, _⟩ := short_ev (by omega) hu
    refine string_fin i b u K neg (fun k t => FmtQ u (k - 1) t) (FT u) (fun k => backK u k j) w h1 h2 h3 h4 hb h5 hu ⟨k1, k2⟩ k3 k4 (fun k => by unfold backK; exact word_le _ _) ?_ ?_ hT.mx hT.wr.size hT.wr.tab ?_
    · intro k w' hk1 hk2 hbw
      have := format_word u (k - 1) w' (by omega) hu (by omega) (hT.wr.below hbw)
      rw [show ((k - 1 : Nat) : Int) = (k : Int) - 1 by omega] at this
      exact this
    · intro k t w' hk1 hk2 ht hbw
      obtain ⟨D, j', jx, d0, tl, a1, a2, a3, a4, a5, a6, a7, a8, a9, a10, a11, a12, a13⟩ := fmt_num (by omega) ht
      have hj := isW_unique a1 hW
      subst hj
      have := parse_walk ⟨t.toArray⟩ _ _ w' a12 (hT.rd.below hbw)
      rw [a13, show k - 1 + 1 = k by omega] at this
      exact this
    · intro t ht
      obtain ⟨D, j', jx, d0, tl, a1, a2, a3, a4, a5, a6, a7, a8, a9, a10, a11, a12, a13⟩ := fmt_num (by omega) ht
      have hj := isW_unique a1 hW
      subst hj
      obtain ⟨b1, b2, b3⟩ := digits_decs a9 a10 a5 a6
      rw [show K - 1 + 1 = K by omega] at a4
      refine ⟨d0, tl, (jx : Int) - 348, decs D, a11, b1, by omega, by omega, b2, by omega, Or.inr ⟨by omega, K, _, hW, j1, j2, k1, k2, k3, k4, ?_⟩⟩
      rw [a4]
def FnPost (isF : Bool) (i : Int) (b : Nat) (w : World) (r : Ending) (w' : World) : Prop := (∃ t, NT isF i b t ∧ r = .returned (.string (strOfNums t))) ∧ Below w.heap.size w w'
/-- fltN's float: a NaN is the one NaN. -/
def canon (b : Nat) : Nat := if b % 2 ^ 63 ≤ 2047 * 2 ^ 52 then b else 9221120237041090560
theorem ord_self' {b : Nat} (hb : b < 2 ^ 64) : (FloatKind.f64.format.order b b == some .eq) = decide (b % 2 ^ 63 ≤ 2047 * 2 ^ 52) := ord_self hb
theorem ord_max' {b : Nat} (hb : b < 2 ^ 64) : (FloatKind.f64.format.order b 9218868437227405311 == some .gt) = decide (b = 9218868437227405312) := ord_max hb
theorem fltN_any (b : Nat) (hb : b < 2 ^ 64) (w : World) :
    Calls Tryz.prog 33 #[.float .f64 b] w fun e w' => e = .returned (.agg #[.bool true, .int .i64 0, .float .f64 (canon b)]) ∧ Below w.heap.size w w' := by
  unfold canon
  by_cases h : b % 2 ^ 63 ≤ 2047 * 2 ^ 52
  · rw [if_pos h]
    exact fltN_num b w ((ord_self' hb).trans (decide_eq_true h))
  · rw [if_neg h]
    exact fltN_nan b w ((ord_self' hb).trans (decide_eq_false h))
theorem neg_f64 (b : Nat) : negFloat .f64 b = b ^^^ 2 ^ 63 := rfl
theorem string_any (i : Int) (b : Nat) (hb : b < 2 ^ 64) (w : World) (hT : FnTabs w) :
    Calls Tryz.prog 35 #[.agg #[.bool true, .int .i64 i, .float .f64 (canon b)]] w (FnPost true i b w) := by
  unfold canon
  have post : ∀ {t : List Int} {r : Ending} {w' : World} {s : ByteArray}, NT true i b t → s = strOfNums t → (r = .returned (.string s) ∧ Below w.heap.size w w') → FnPost true i b w r w' := fun hn hs h => ⟨⟨_, hn, by rw [h.1, hs]⟩, h.2⟩
  by_cases h : b % 2 ^ 63 ≤ 2047 * 2 ^ 52
  · rw [if_pos h]
    have h1 : (FloatKind.f64.format.order b b == some .eq) = true := (ord_self' hb).trans (decide_eq_true h)
    by_cases hinf : b = 9218868437227405312
    · have h2 : (FloatKind.f64.format.order b 9218868437227405311 == some .gt) = true := (ord_max' hb).trans (decide_eq_true hinf)
      refine (string_inf i b w h1 h2).mono fun r w' hr => post (t := [105, 110, 102]) ?_ rfl hr
      unfold NT
      rw [if_pos rfl, if_neg (by omega)]
      refine ⟨[105, 110, 102], by rw [if_neg (by omega)]; rfl, ?_⟩
      rw [if_pos (by omega)]
    · have h2 : (FloatKind.f64.format.order b 9218868437227405311 == some .gt) = false := (ord_max' hb).trans (decide_eq_false hinf)
      by_cases hs : 2 ^ 63 ≤ b
      · have hn := neg_minor hs hb
        by_cases hmi : b % 2 ^ 63 = 2047 * 2 ^ 52
        · have h3 : (FloatKind.f64.format.order (negFloat .f64 b) 9218868437227405311 == some .gt) = true := by
            rw [neg_f64, hn, ord_max' (by omega)]
            exact decide_eq_true (by omega)
          refine (string_minf i b w h1 h2 h3).mono fun r w' hr => post (t := [45, 105, 110, 102]) ?_ rfl hr
          unfold NT
          rw [if_pos rfl, if_neg (by omega)]
          refine ⟨[105, 110, 102], by rw [if_pos hs]; rfl, ?_⟩
          rw [if_pos hmi]
        · have h3 : (FloatKind.f64.format.order (negFloat .f64 b) 9218868437227405311 == some .gt) = false := by
            rw [neg_f64, hn, ord_max' (by omega)]
            exact decide_eq_false (by omega)
          refine (string_mag i b (b % 2 ^ 63) true w hT h1 h2 h3 (decide_eq_true hs) hb (by rw [if_pos rfl, neg_f64, hn]) (by omega)).mono fun r w' hr => ?_
          obtain ⟨⟨t, ht, rfl⟩, hbl⟩ := hr
          refine ⟨⟨[45] ++ t, ?_, rfl⟩, hbl⟩
          unfold NT
          rw [if_pos rfl, if_neg (by omega)]
          refine ⟨t, by rw [if_pos hs], ?_⟩
          rw [if_neg hmi]
          exact ht
      · have hn := neg_major (b := b) (by omega)
        have hbm : b % 2 ^ 63 = b := Nat.mod_eq_of_lt (by omega)
        have h3 : (FloatKind.f64.format.order (negFloat .f64 b) 9218868437227405311 == some .gt) = false := by
          rw [neg_f64, hn, ord_max' (by omega)]
          exact decide_eq_false (by omega)
        refine (string_mag i b b false w hT h1 h2 h3 (decide_eq_false hs) hb (by rw [if_neg (by decide)]) (by omega)).mono fun r w' hr => ?_
        obtain ⟨⟨t, ht, rfl⟩, hbl⟩ := hr
        refine ⟨⟨t, ?_, rfl⟩, hbl⟩
        unfold NT
        rw [if_pos rfl, if_neg (by omega)]
        refine ⟨t, by rw [if_neg hs]; rfl, ?_⟩
        rw [if_neg (by omega), hbm]
        exact ht
  · rw [if_neg h]
    refine (string_nan i 9221120237041090560 w ((ord_self' (by decide)).trans (by decide))).mono fun r w' hr => post (t := [110, 97, 110]) ?_ rfl hr
    unfold NT
    rw [if_pos rfl, if_pos (by omega)]
set_option maxRecDepth 100000 in
theorem formatI_any (isF : Bool) (i : Int) (b : Nat) (w : World) (hi : -9223372036854775808 ≤ i ∧ i ≤ 9223372036854775807) (hb : b < 2 ^ 64) (hT : FnTabs w) :
    Calls Tryz.prog 14 #[.agg #[.bool isF, .int .i64 i, .int .u64 b]] w (FnPost isF i b w) := by
  have HT := hid hT
  have HI := hid hi
  have HB := hid hb
  clear hT hi hb
  cases isF with
  | false =>
    go_enter Tryz.func14, Tryz.ntmps14
    go_wp2_with fail
    have HB1 : Hid (Below w.heap.size w (w.alloc (.cells #[.bool false, .int .i64 i, .int .u64 b] 24))) := hid ((Below.refl w.heap.size w).alloc (Nat.le_refl _) _)
    refine (itoa_w i HI.out.1 HI.out.2 _ (HT.out.below HB1.out).wr.tab).mono ?_
    rintro r w2 ⟨rfl, hb2⟩
    have HB2 : Hid (Below w.heap.size w w2) := hid (HB1.out.trans (hb2.mono HB1.out.size))
    clear hb2
    go_wp2_with fail
    go_ret
    exact ⟨⟨itext i, rfl, rfl⟩, HB2.out⟩
  | true =>
    go_enter Tryz.func14, Tryz.ntmps14
    go_wp2_with fail
    rw [mfrombits_run]
    go_simp
    have HB1 : Hid (Below w.heap.size w (w.alloc (.cells #[.bool true, .int .i64 i, .int .u64 b] 24))) := hid ((Below.refl w.heap.size w).alloc (Nat.le_refl _) _)
    go_wp2_with fail
    refine (fltN_any b HB.out _).mono ?_
    rintro r w2 ⟨rfl, hb2⟩
    have HB2 : Hid (Below w.heap.size w w2) := hid (HB1.out.trans (hb2.mono HB1.out.size))
    clear hb2
    go_wp2_with fail
    refine (string_any 0 b HB.out w2 (HT.out.below HB2.out)).mono ?_
    rintro r w3 ⟨⟨t, ht, rfl⟩, hb3⟩
    have HB3 : Hid (Below w.heap.size w w3) := hid (HB2.out.trans (hb3.mono HB2.out.size))
    have HTT : Hid (NT true i b t) := hid ht
    clear hb3 ht
    go_wp2_with fail
    go_ret
    exact ⟨⟨t, HTT.out, rfl⟩, HB3.out⟩
end Go.Proofs.YtlblkajnmdhmdaaGreatDoor
