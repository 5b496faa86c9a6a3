/-
  Walk: (impl.num).String at a finite float.
-/
import Derived.Test.YtlblkajnmdhmdaaGreatDoorZNSw
import Derived.Test.YtlblkajnmdhmdaaGreatDoorZNNs
import Derived.Handy
namespace Go.Proofs.YtlblkajnmdhmdaaGreatDoor
set_option linter.unusedVariables false
open Go.RowKit Lib NR NU NB Go.Op Go.Proofs.YtlblkajnmdhmdaaGreatDoorW.PrintWords
def StPost (Fin : List Int → Prop) (neg : Bool) (w : World) (r : Ending) (w' : World) : Prop :=
  (∃ t, Fin t ∧ r = .returned (.string (strOfNums ((if neg then [45] else []) ++ t)))) ∧ Below w.heap.size w w'
set_option maxRecDepth 100000 in
set_option maxHeartbeats 4000000 in
theorem string_fin (i : Int) (b u K : Nat) (neg : Bool) (T : Nat → List UInt8 → Prop) (Fin : List Int → Prop) (Wd : Nat → Nat) (w : World)
    (h1 : (FloatKind.f64.format.order b b == some .eq) = true) (h2 : (FloatKind.f64.format.order b 9218868437227405311 == some .gt) = false)
    (h3 : (FloatKind.f64.format.order (negFloat .f64 b) 9218868437227405311 == some .gt) = false) (h4 : decide (2 ^ 63 ≤ b) = neg) (hb : b < 2 ^ 64)
    (h5 : (if neg then negFloat .f64 b else b) = u) (hu : u < 2047 * 2 ^ 52) (hK : 1 ≤ K ∧ K ≤ 17) (hWK : Wd K = u) (hlt : ∀ k, 1 ≤ k → k < K → Wd k ≠ u) (hle : ∀ k, Wd k ≤ 2047 * 2 ^ 52)
    (hF : ∀ (k : Nat) w', 1 ≤ k → k ≤ K → Below w.heap.size w w' → Calls Tryz.prog 63 #[.float .f64 u, .int .u8 101, .int .i64 ((k : Int) - 1), .int .i64 64] w' fun r w2 => (∃ t, T k t ∧ r = .returned (.string ⟨t.toArray⟩)) ∧ Below w'.heap.size w' w2)
    (hP : ∀ (k : Nat) t w', 1 ≤ k → k ≤ K → T k t → Below w.heap.size w w' → Calls Tryz.prog 49 #[.string ⟨t.toArray⟩, .int .i64 64] w' (PrPost (Wd k) w'))
    (hm : MaxL w) (hsz : 16 < w.heap.size) (htab : Lib.TabIs Tryz.prog w "internal/strconv.uint64pow10" .u64 Lib.pow10Tab)
    (hT : ∀ t, T K t → ∃ d0 tl X dd, t = eText d0 tl X ∧ (∀ b ∈ d0 :: tl, isD b.toNat) ∧ -999 ≤ X ∧ X ≤ 999 ∧ d0 :: tl = toB dd ∧ dd.length ≤ 17 ∧ Fin (ftext dd X)) :
    Calls Tryz.prog 35 #[.agg #[.bool true, .int .i64 i, .float .f64 b]] w (StPost Fin neg w) := by
  have hB2 : (FloatKind.f64.format.order b b != some .eq) = false := by simpa [bne] using h1
  have HF := hid hF
  have HP := hid hP
  have HT := hid hT
  have H5 := hid h5
  have HWK := hid hWK
  have HLT := hid hlt
  have HLE := hid hle
  have HK := hid hK
  have HU := hid hu
  have HB := hid hb
  have HM := hid hm
  have HSZ := hid hsz
  have HTAB := hid htab
  clear hm hsz htab
  have H2 := hid h2
  have H3 := hid h3
  have H4 := hid h4
  clear h2 h3 h4 h5 hF hP hT hWK hlt hle hK hu hb
  obtain ⟨sg, hsg⟩ : ∃ sg : List Int, sg = (if neg then [45] else []) := ⟨_, rfl⟩
  have HSG := hid hsg
  clear hsg
  go_enter Tryz.func35, Tryz.ntmps35
  go_upto_if 36 with (first
    | (go_at_call 50; (first | ((with_reducible refine (isinf_pos b false _ H2.out).mono ?_); rintro e w' ⟨rfl, rfl⟩) | ((with_reducible refine (isinf_neg b false _ H3.out).mono ?_); rintro e w' ⟨rfl, rfl⟩)))
    | (go_at_call 62; refine (signbit_any b neg _ HB.out H4.out).mono ?_; rintro e w' ⟨rfl, rfl⟩))
  go_cut [3, 4] from 37 to 38 (fun v3 v4 wx => v3 = .float .f64 u ∧ v4 = .string (strOfNums sg) ∧ Below w.heap.size w wx)
  case first =>
    cases neg
    all_goals
      have H5' := H5.out
      have HSG' := HSG.out
      clear HSG
      subst HSG'
    · go_wp2_with fail
      go_meet
      exact ⟨by rw [← H5']; rfl, rfl, (Below.refl _ _).alloc (Nat.le_refl _) _⟩
    · go_wp2_with fail
      rw [neg_run]
      go_simp
      go_wp2_with fail
      go_meet
      exact ⟨by rw [← H5']; rfl, rfl, (Below.refl _ _).alloc (Nat.le_refl _) _⟩
  case rest =>
    obtain ⟨rfl, rfl, hbc⟩ := hcut
    have HBC := hid hbc
    clear hbc
    go_wp2_with fail
    go_loopw [5, 6] (fun v5 v6 wx => ∃ k : Nat, v6 = .int .i64 k ∧ 1 ≤ k ∧ k ≤ K ∧ (∃ x, v5 = .string x) ∧ Below w.heap.size w wx) (fun _ v6 _ => 18 - (RowKit.intOf v6).toNat)
    case atStart => exact ⟨1, rfl, Nat.le_refl _, HK.out.1, ⟨_, rfl⟩, HBC.out⟩
    case round =>
      obtain ⟨k, rfl, hk1, hk2, ⟨x, rfl⟩, hbr⟩ := hrel
      have HBR := hid hbr
      clear hbr
      have hk17 : k ≤ 17 := Nat.le_trans hk2 HK.out.2
      by_cases hkK : k = K
      · subst hkK
        have ho : (FloatKind.f64.format.order (Wd k) u == some .eq) = true := (NU.ord_eq (HLE.out k) HU.out).trans (decide_eq_true HWK.out)
        go_wp2_with fail
        refine (HF.out k _ hk1 hk2 HBR.out).mono ?_
        rintro r w2 ⟨⟨t, ht, rfl⟩, hb2⟩
        have HB2 : Hid (Below w.heap.size w w2) := hid (HBR.out.trans (hb2.mono HBR.out.size))
        have HT2 := hid ht
        clear hb2 ht
        go_wp2_with fail
        refine (HP.out k t w2 hk1 hk2 HT2.out HB2.out).mono ?_
        rintro r w3 ⟨⟨er, rfl, _, _⟩, hb3⟩
        have HB3 : Hid (Below w.heap.size w w3) := hid (HB2.out.trans (hb3.mono HB2.out.size))
        clear hb3
        obtain ⟨d0, tl, X, dd, rfl, hdig, hX1, hX2, hdd, hlen, hfin⟩ := HT.out t HT2.out
        have hl16 : tl.length ≤ 16 := by
          have := congrArg List.length hdd
          rw [toB_length, List.length_cons] at this
          omega
        have hl1 : 1 ≤ dd.length := by
          have := congrArg List.length hdd
          rw [toB_length, List.length_cons] at this
          omega
        have hs1 := cut_w (X := X) hdig hl16 ⟨hX1, hX2⟩
        have hs2 := strip_w hdig hl16 hdd
        have hs3 := atoi_w (X := X) ⟨hX1, hX2⟩
        have HFIN := hid hfin
        have HS1 := hid hs1
        have HS2 := hid hs2
        have HS3 := hid hs3
        clear hs1 hs2 hs3 hdig hdd hl16 hfin
        go_wp2_with fail
        refine (HS1.out w3 (HM.out.below HSZ.out HB3.out)).mono ?_
        rintro r w4 ⟨rfl, hb4⟩
        have HB4 : Hid (Below w.heap.size w w4) := hid (HB3.out.trans (hb4.mono HB3.out.size))
        clear hb4
        go_wp2_with fail
        refine (HS2.out w4 (HM.out.below HSZ.out HB4.out)).mono ?_
        rintro r w5 ⟨rfl, hb5⟩
        have HB5 : Hid (Below w.heap.size w w5) := hid (HB4.out.trans (hb5.mono HB4.out.size))
        clear hb5
        go_wp2_with fail
        refine (HS3.out w5).mono ?_
        rintro r w6 ⟨rfl, hb6⟩
        have HB6 : Hid (Below w.heap.size w w6) := hid (HB5.out.trans (hb6.mono HB5.out.size))
        clear hb6
        have HTB6 := hid (Lib.tabBelow_of_tabIs HTAB.out w6 HB6.out)
        have hsgl : (strOfNums sg).size ≤ 1 := by rw [str_size, HSG.out]; split <;> simp
        have hddl : (strOfNums dd).size ≤ 17 := by rw [str_size]; exact hlen
        by_cases hbig : X < -5 ∨ 16 < X
        · have HBIG := hid hbig
          have hdb : decide (X < -5) = true ∨ (decide (X < -5) = false ∧ decide (16 < X) = true) := by
            by_cases h : X < -5
            · exact Or.inl (decide_eq_true h)
            · exact Or.inr ⟨decide_eq_false h, decide_eq_true (by omega)⟩
          obtain ⟨md, hmd⟩ : ∃ md : List Int, md = dd.take 1 ++ (if 1 < dd.length then 46 :: dd.drop 1 else []) := ⟨_, rfl⟩
          obtain ⟨ec, hec⟩ : ∃ ec : Int, ec = (if X < 0 then 45 else 43) := ⟨_, rfl⟩
          obtain ⟨pd, hpd⟩ : ∃ pd : List Int, pd = pad2 (decz X.natAbs) := ⟨_, rfl⟩
          have HMD := hid hmd
          have HEC := hid hec
          have HPD := hid hpd
          clear hmd hec hpd hbig
          have HD := hid hddl
          have HG := hid hsgl
          clear hddl hsgl
          rcases hdb with hd1 | ⟨hd1, hd2⟩
          all_goals
            go_upto_if 76 with fail
            go_cut [12] from 77 to 82 (fun v12 wx => v12 = .string (strOfNums md) ∧ Below w.heap.size w wx)
            case first =>
              have hdl := HD.out
              have gm : min 1 (strOfNums dd).size = 1 := by rw [str_size]; omega
              have g4 : (9223372036854775807 < 1 + 1) = False := eq_false (by omega)
              have g5 : (9223372036854775807 < 1 + 1 + ((strOfNums dd).size - 1)) = False := eq_false (by omega)
              clear hdl
              go_wp2_with fail
              · have hz : (1 : Int) < ((strOfNums dd).size : Int) := ‹_›
                have g2 : (1 : Int) ≤ ((strOfNums dd).size : Int) := by omega
                rw [str_size] at hz
                have HZ := hid hz
                clear hz
                go_quiet (fail)
                go_wp2_with fail
                go_meet
                refine ⟨?_, HB6.out.trans ((below_drew _).mono HB6.out.size)⟩
                have hz := HZ.out
                rw [HMD.out, if_pos (by omega)]
                exact congrArg Value.string (by rw [show (⟨#[46]⟩ : ByteArray) = strOfNums [46] from rfl, str_extract, str_extract, str_size, List.take_length, List.drop_zero, str_append, str_append]; simp only [List.append_assoc, List.singleton_append])
              · have hz : ((strOfNums dd).size : Int) ≤ 1 := ‹_›
                rw [str_size] at hz
                have HZ := hid hz
                clear hz
                go_meet
                have hz := HZ.out
                refine ⟨?_, HB6.out⟩
                rw [HMD.out, if_neg (by omega), List.append_nil, List.take_of_length_le (by omega)]
            case rest =>
              obtain ⟨rfl, hb7⟩ := hcut
              have HB7 := hid hb7
              clear hb7
              go_upto_if 84 with fail
              go_cut [13, 15] from 85 to 86 (fun v13 v15 wx => v13 = .int .i64 (X.natAbs : Int) ∧ v15 = .string (strOfNums [ec]) ∧ Below w.heap.size w wx)
              case first =>
                go_wp2_with fail
                all_goals first
                  | (have hz : X < 0 := ‹_›
                     go_meet
                     exact ⟨congrArg (Value.int .i64) (by omega), by rw [HEC.out, if_pos hz]; rfl, HB7.out⟩)
                  | (have hz : 0 ≤ X := ‹_›
                     go_meet
                     exact ⟨congrArg (Value.int .i64) (by omega), by rw [HEC.out, if_neg (by omega)]; rfl, HB7.out⟩)
              case rest =>
                obtain ⟨rfl, rfl, hb8⟩ := hcut
                have HB8 := hid hb8
                clear hb8
                have HS5 := hid (itoa_w (X.natAbs : Int) (by omega) (by omega) _ (Lib.tabBelow_of_tabIs HTAB.out _ HB8.out))
                have hiz : itext (X.natAbs : Int) = decz X.natAbs := by
                  unfold itext
                  rw [if_neg (by omega)]
                  simp
                rw [hiz] at HS5
                have hil : (decz X.natAbs).length ≤ 3 := decz_length (by decide) (by omega)
                have HIL := hid hil
                clear hil hiz
                go_wp2_with fail
                refine HS5.out.mono ?_
                rintro r w8 ⟨rfl, hb9⟩
                have HB9 : Hid (Below w.heap.size w w8) := hid (HB8.out.trans (hb9.mono HB8.out.size))
                clear hb9
                go_upto_if 91 with fail
                go_cut [16] from 92 to 93 (fun v16 wx => v16 = .string (strOfNums pd) ∧ Below w.heap.size w wx)
                case first =>
                  have hil := HIL.out
                  have g4 : (9223372036854775807 < 1 + (strOfNums (decz X.natAbs)).size) = False := eq_false (by rw [str_size]; omega)
                  clear hil
                  go_wp2_with fail
                  · have hz : ((strOfNums (decz X.natAbs)).size : Int) < 2 := ‹_›
                    rw [str_size] at hz
                    have HZ := hid hz
                    clear hz
                    go_meet
                    have hz := HZ.out
                    refine ⟨?_, HB9.out⟩
                    rw [HPD.out]
                    unfold pad2
                    rw [if_pos (by omega)]
                    exact congrArg Value.string (by rw [show (⟨#[48]⟩ : ByteArray) = strOfNums [48] from rfl, str_append]; rfl)
                  · have hz : (2 : Int) ≤ ((strOfNums (decz X.natAbs)).size : Int) := ‹_›
                    rw [str_size] at hz
                    have HZ := hid hz
                    clear hz
                    go_meet
                    have hz := HZ.out
                    refine ⟨?_, HB9.out⟩
                    rw [HPD.out]
                    unfold pad2
                    rw [if_neg (by omega)]
                case rest =>
                  obtain ⟨rfl, hb10⟩ := hcut
                  have HB10 := hid hb10
                  clear hb10
                  have q1 := HG.out
                  have q2 : (strOfNums md).size ≤ 18 := by
                    rw [str_size, HMD.out]
                    split <;> simp <;> omega
                  have q3 : (strOfNums pd).size ≤ 4 := by
                    have := HIL.out
                    rw [str_size, HPD.out]
                    unfold pad2
                    split <;> simp <;> omega
                  have q4 : (strOfNums [ec]).size = 1 := str_size _
                  have g1 : (9223372036854775807 < (strOfNums sg).size + (strOfNums md).size) = False := eq_false (by omega)
                  have g2 : (9223372036854775807 < (strOfNums sg).size + (strOfNums md).size + 1) = False := eq_false (by omega)
                  have g3 : (9223372036854775807 < (strOfNums sg).size + (strOfNums md).size + 1 + (strOfNums [ec]).size) = False := eq_false (by omega)
                  have g5 : (9223372036854775807 < (strOfNums sg).size + (strOfNums md).size + 1 + (strOfNums [ec]).size + (strOfNums pd).size) = False := eq_false (by omega)
                  clear q1 q2 q3 q4
                  go_wp2_with fail
                  go_ret
                  refine ⟨⟨ftext dd X, HFIN.out, ?_⟩, HB10.out⟩
                  unfold ftext
                  rw [if_pos HBIG.out, ← HSG.out, ← HMD.out, ← HEC.out, ← HPD.out]
                  exact congrArg (fun s => Ending.returned (Value.string s)) (by rw [show (⟨#[101]⟩ : ByteArray) = strOfNums [101] from rfl, str_append, str_append, str_append, str_append]; simp only [List.append_assoc])
        · have hd1 : decide (X < -5) = false := decide_eq_false (by omega)
          have hd2 : decide (16 < X) = false := decide_eq_false (by omega)
          by_cases hneg : X < 0
          · have hd3 : decide (X < 0) = true := decide_eq_true hneg
            have hs4 := rep_wi (-X - 1) (by omega) (by omega)
            have HS4 := hid hs4
            clear hs4
            have z1 : (9223372036854775807 < (strOfNums sg).size + 2) = False := eq_false (by omega)
            obtain ⟨zs, hzs⟩ : ∃ zs : List Int, List.replicate (-X - 1).toNat 48 = zs := ⟨_, rfl⟩
            have hzl : (strOfNums zs).size ≤ 1000 := by rw [str_size, ← hzs, List.length_replicate]; omega
            have z2 : (9223372036854775807 < (strOfNums sg).size + 2 + (strOfNums zs).size) = False := eq_false (by omega)
            have z3 : (9223372036854775807 < (strOfNums sg).size + 2 + (strOfNums zs).size + (strOfNums dd).size) = False := eq_false (by omega)
            have HZS := hid hzs
            clear hzs hzl
            go_wp2_with fail
            refine (HS4.out w6).mono ?_
            rw [HZS.out]
            rintro r w7 ⟨rfl, hb7⟩
            have HB7 : Hid (Below w.heap.size w w7) := hid (HB6.out.trans (hb7.mono HB6.out.size))
            clear hb7
            go_wp2_with fail
            go_ret
            refine ⟨⟨ftext dd X, HFIN.out, ?_⟩, HB7.out⟩
            unfold ftext
            rw [if_neg hbig, if_pos hneg, HZS.out, ← HSG.out]
            exact congrArg (fun s => Ending.returned (Value.string s)) (by rw [show (⟨#[48, 46]⟩ : ByteArray) = strOfNums [48, 46] from rfl, str_append, str_append, str_append]; simp only [List.append_assoc])
          · have hd3 : decide (X < 0) = false := decide_eq_false hneg
            by_cases hle1 : (dd.length : Int) ≤ X + 1
            · have hd4 : decide (((strOfNums dd).size : Int) ≤ X + 1) = true := decide_eq_true (by rw [str_size]; exact hle1)
              have hs4 := rep_wi (X + 1 - ((strOfNums dd).size : Int)) (by rw [str_size]; omega) (by omega)
              have HS4 := hid hs4
              clear hs4
              obtain ⟨zs, hzs⟩ : ∃ zs : List Int, List.replicate (X + 1 - ((strOfNums dd).size : Int)).toNat 48 = zs := ⟨_, rfl⟩
              have hzl : (strOfNums zs).size ≤ 1000 := by rw [str_size, ← hzs, List.length_replicate]; omega
              have z1 : (9223372036854775807 < (strOfNums sg).size + (strOfNums dd).size) = False := eq_false (by omega)
              have z2 : (9223372036854775807 < (strOfNums sg).size + (strOfNums dd).size + (strOfNums zs).size) = False := eq_false (by omega)
              have z3 : (9223372036854775807 < (strOfNums sg).size + (strOfNums dd).size + (strOfNums zs).size + 2) = False := eq_false (by omega)
              have HZS := hid hzs
              clear hzs hzl
              go_wp2_with fail
              refine (HS4.out w6).mono ?_
              rw [HZS.out]
              rintro r w7 ⟨rfl, hb7⟩
              have HB7 : Hid (Below w.heap.size w w7) := hid (HB6.out.trans (hb7.mono HB6.out.size))
              clear hb7
              go_wp2_with fail
              go_ret
              refine ⟨⟨ftext dd X, HFIN.out, ?_⟩, HB7.out⟩
              have hz := HZS.out
              rw [str_size] at hz
              unfold ftext
              rw [if_neg hbig, if_neg (show ¬ X < 0 by omega), if_pos hle1, hz, ← HSG.out]
              exact congrArg (fun s => Ending.returned (Value.string s)) (by rw [show (⟨#[46, 48]⟩ : ByteArray) = strOfNums [46, 48] from rfl, str_append, str_append, str_append]; simp only [List.append_assoc])
            · have hd4 : decide (((strOfNums dd).size : Int) ≤ X + 1) = false := decide_eq_false (by rw [str_size]; exact hle1)
              have g1 : 0 ≤ X + 1 := by omega
              have g2 : X + 1 ≤ ((strOfNums dd).size : Int) := by rw [str_size]; omega
              have g0 : IntKind.i64.wrap (X + 1) = X + 1 := by rw [IntKind.wrap_i64]; omega
              have gm : min (X + 1).toNat (strOfNums dd).size = (X + 1).toNat := by omega
              have g4 : (9223372036854775807 < (strOfNums sg).size + (X + 1).toNat) = False := eq_false (by omega)
              have g5 : (9223372036854775807 < (strOfNums sg).size + (X + 1).toNat + 1) = False := eq_false (by omega)
              have g6 : (9223372036854775807 < (strOfNums sg).size + (X + 1).toNat + 1 + ((strOfNums dd).size - (X + 1).toNat)) = False := eq_false (by omega)
              go_wp2_with fail
              go_quiet (fail)
              go_wp2_with fail
              go_ret
              refine ⟨⟨ftext dd X, HFIN.out, ?_⟩, HB6.out.trans ((below_drew _).mono HB6.out.size)⟩
              unfold ftext
              rw [if_neg hbig, if_neg (show ¬ X < 0 by omega), if_neg (show ¬ (dd.length : Int) ≤ X + 1 by omega), ← HSG.out]
              exact congrArg (fun s => Ending.returned (Value.string s)) (by rw [show (⟨#[46]⟩ : ByteArray) = strOfNums [46] from rfl, str_extract, str_extract, str_size, List.take_length, List.drop_zero, str_append, str_append, str_append]; simp only [List.append_assoc])
      · have ho : (FloatKind.f64.format.order (Wd k) u == some .eq) = false := (NU.ord_eq (HLE.out k) HU.out).trans (decide_eq_false (HLT.out k hk1 (by omega)))
        go_wp2_with fail
        refine (HF.out k _ hk1 hk2 HBR.out).mono ?_
        rintro r w2 ⟨⟨t, ht, rfl⟩, hb2⟩
        have HB2 : Hid (Below w.heap.size w w2) := hid (HBR.out.trans (hb2.mono HBR.out.size))
        have HT2 := hid ht
        clear hb2 ht
        go_wp2_with fail
        refine (HP.out k t w2 hk1 hk2 HT2.out HB2.out).mono ?_
        rintro r w3 ⟨⟨er, rfl, _, _⟩, hb3⟩
        have HB3 : Hid (Below w.heap.size w w3) := hid (HB2.out.trans (hb3.mono HB2.out.size))
        clear hb3
        go_wp2_with fail
        go_roundw
        case rel => exact ⟨k + 1, by go_num, by omega, by omega, ⟨_, rfl⟩, HB3.out⟩
        case measure => simp [RowKit.intOf]; omega
end Go.Proofs.YtlblkajnmdhmdaaGreatDoor
