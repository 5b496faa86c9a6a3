/-
  Walk: the law FnExactFormatNumber returns true.
  Walk: the law FnFloatText returns true.
-/
import Derived.Test.YtlblkajnmdhmdaaGreatDoorZNSu
import Derived.Test.YtlblkajnmdhmdaaGreatDoorZNDw
import Derived.Test.YtlblkajnmdhmdaaGreatDoorZNPi
namespace Go.Proofs.YtlblkajnmdhmdaaGreatDoor
end Go.Proofs.YtlblkajnmdhmdaaGreatDoor

namespace Go.Proofs.YtlblkajnmdhmdaaGreatDoor
set_option linter.unusedVariables false
open Go.RowKit Lib NR NU NB Go.Op Go.Proofs.YtlblkajnmdhmdaaGreatDoor.PFormatNumber Go.Proofs.YtlblkajnmdhmdaaGreatDoorW.PrintWords
theorem BelowG.to_below {w w1 w2 : World} (h1 : Below w.heap.size w w1) (h2 : BelowG w1 w2 w.heap.size) : Below w.heap.size w w2 :=
  ⟨h2.os.trans h1.os, h2.tape.trans h1.tape, h2.output.trans h1.output, Nat.le_trans h1.size h2.size, fun b hb => (h2.block b (by omega) (Nat.lt_of_lt_of_le hb h1.size)).trans (h1.block b hb)⟩
theorem ad_head {l : List Int} (h : AD l) (h0 : l ≠ []) : ∃ c r, l = c :: r ∧ 48 ≤ c ∧ c ≤ 57 := by
  cases l with
  | nil => exact absurd rfl h0
  | cons c r => exact ⟨c, r, rfl, (h c (List.mem_cons_self ..)).1, (h c (List.mem_cons_self ..)).2⟩
theorem decz_ad (n : Nat) : AD (decz n) ∧ decz n ≠ [] := by
  unfold decz
  split
  · exact ⟨ad_one (by decide) (by decide), by simp⟩
  · exact ⟨ad_decs n, fun h => by rw [decs_nil] at h; omega⟩
theorem head_app {l m : List Int} (h : ∃ c r, l = c :: r ∧ 48 ≤ c ∧ c ≤ 57) : ∃ c r, l ++ m = c :: r ∧ 48 ≤ c ∧ c ≤ 57 := by
  obtain ⟨c, r, rfl, h1⟩ := h
  exact ⟨c, r ++ m, rfl, h1⟩
theorem head_take {l : List Int} {n : Nat} (hn : 1 ≤ n) (h : ∃ c r, l = c :: r ∧ 48 ≤ c ∧ c ≤ 57) : ∃ c r, l.take n = c :: r ∧ 48 ≤ c ∧ c ≤ 57 := by
  obtain ⟨c, r, rfl, h1⟩ := h
  obtain ⟨k, rfl⟩ : ∃ k, n = k + 1 := ⟨n - 1, by omega⟩
  exact ⟨c, r.take k, rfl, h1⟩
theorem ftext_head {d : List Int} {x : Int} (h : ∃ c r, d = c :: r ∧ 48 ≤ c ∧ c ≤ 57) : ∃ c r, ftext d x = c :: r ∧ 48 ≤ c ∧ c ≤ 57 := by
  unfold ftext
  split
  · exact head_app (head_app (head_app (head_app (head_take (Nat.le_refl _) h))))
  · split
    · exact ⟨48, _, rfl, by decide, by decide⟩
    · split
      · exact head_app (head_app h)
      · exact head_app (head_app (head_take (by omega) h))
theorem ft_head {u : Nat} {t : List Int} (h : FT u t) : ∃ c r, t = c :: r ∧ 48 ≤ c ∧ c ≤ 57 := by
  unfold FT at h
  rcases h with ⟨h0, ht⟩ | ⟨h0, K, j, hW, j1, j2, k1, k2, k3, _, ht⟩
  · rw [ht]
    exact ftext_head ⟨48, [], rfl, by decide, by decide⟩
  · rw [ht]
    obtain ⟨b1, b2, b3, b4⟩ := digK_bounds hW j2 k1 k2 j1
    have hp := Nat.pow_pos (n := K - 1) (show 0 < 10 by decide)
    exact ftext_head (ad_head (ad_decs _) (fun h => by rw [decs_nil] at h; omega))
/-- What the law comes to behind a number's text. -/
theorem nt_cases {f : Bool} {i : Int} {b : Nat} {t : List Int} (h : NT f i b t) (hf : f = true → i = 0) (hf2 : f = false → b = 0) (hb : b < 2 ^ 64) (hi : -9223372036854775808 ≤ i ∧ i ≤ 9223372036854775807) :
    (∃ r, t = 45 :: r) ∨ t = [105, 110, 102] ∨ t = [110, 97, 110] ∨ ((∃ c r, t = c :: r ∧ 48 ≤ c ∧ c ≤ 57) ∧
      ((f = false ∧ 0 ≤ i ∧ t = decz i.natAbs) ∨ (f = true ∧ b < 2047 * 2 ^ 52 ∧ ∃ m X, FNum (strOfNums t) m X ∧ wordE m X = b))) := by
  unfold NT at h
  cases f with
  | false =>
    rw [if_neg (by decide)] at h
    unfold itext at h
    by_cases hneg : i < 0
    · rw [if_pos hneg] at h
      exact Or.inl ⟨_, h⟩
    · rw [if_neg hneg] at h
      rw [List.nil_append] at h
      exact Or.inr (Or.inr (Or.inr ⟨by rw [h]; exact ad_head (decz_ad _).1 (decz_ad _).2, Or.inl ⟨rfl, by omega, h⟩⟩))
  | true =>
    rw [if_pos rfl] at h
    by_cases h1 : 2047 * 2 ^ 52 < b % 2 ^ 63
    · rw [if_pos h1] at h
      exact Or.inr (Or.inr (Or.inl h))
    · rw [if_neg h1] at h
      obtain ⟨m, hm, hm2⟩ := h
      by_cases hs : 2 ^ 63 ≤ b
      · rw [if_pos hs] at hm
        exact Or.inl ⟨m, hm⟩
      · rw [if_neg hs, List.nil_append] at hm
        subst hm
        by_cases h2 : b % 2 ^ 63 = 2047 * 2 ^ 52
        · rw [if_pos h2] at hm2
          exact Or.inr (Or.inl hm2)
        · rw [if_neg h2, Nat.mod_eq_of_lt (by omega)] at hm2
          rw [Nat.mod_eq_of_lt (by omega)] at h1 h2
          obtain ⟨m', X, h3, h4⟩ := ft_num (by omega) hm2
          exact Or.inr (Or.inr (Or.inr ⟨ft_head hm2, Or.inr ⟨rfl, by omega, m', X, h3, h4⟩⟩))
theorem digits_num {l : List UInt8} (hd : ∀ b ∈ l, isD b.toNat) (h0 : l ≠ []) (hl : l.length ≤ 19) : Num ⟨l.toArray⟩ (valS 0 l) 0 := by
  obtain ⟨r1, e1, a1, a2, a3, a4, a5, a6, a7, a8⟩ := fold_tail l rs0 hd rfl (by show 0 + l.length ≤ 19; omega) (fun _ => rfl)
  obtain ⟨hD, hdot⟩ := digits_digs hd h0
  have hs : scan ⟨l.toArray⟩ l.length = r1 := by rw [scan_list l _ (Nat.le_refl _), List.take_length]; exact e1
  refine ⟨l.length, 0, by show l.length ≤ 1000; omega, hD, Or.inl ⟨rfl, rfl⟩, by rw [hs, a7]; rfl, by rw [hs, a1]; rfl, ?_⟩
  rw [hs]
  unfold expOf dpt
  rw [a5]
  show (if r1.m = 0 then (0 : Int) else (if false = true then r1.dp else (r1.nd : Int)) + 0 - r1.nm) = 0
  rw [a2]
  split
  · rfl
  · rw [if_neg (by decide)]
    omega
/-- The number's text, read, is the number. -/
theorem parse_back {f : Bool} {i : Int} {b : Nat} {t : List Int} (hf : f = true → i = 0) (hf2 : f = false → b = 0) (hi : -9223372036854775808 ≤ i ∧ i ≤ 9223372036854775807)
    (h : (f = false ∧ 0 ≤ i ∧ t = decz i.natAbs) ∨ (f = true ∧ b < 2047 * 2 ^ 52 ∧ ∃ m X, FNum (strOfNums t) m X ∧ wordE m X = b)) (w : World) (hT : FnTabs w) :
    Calls Tryz.prog 8 #[.string (strOfNums t)] w fun r w' => r = .returned (.tuple #[.agg #[.bool f, .int .i64 i, .int .u64 b], .bool true]) ∧ Below w.heap.size w w' := by
  rcases h with ⟨rfl, h0, ht⟩ | ⟨rfl, hfin, m, X, hF, hW⟩
  · obtain ⟨had, hne⟩ := decz_ad i.natAbs
    rw [hf2 rfl, ht, strOf_toB]
    have hd := toB_isD had
    have hne' : toB (decz i.natAbs) ≠ [] := fun h => hne (by
      have := congrArg List.length h
      rw [toB_length] at this
      exact List.eq_nil_of_length_eq_zero this)
    obtain ⟨hD, hdot⟩ := digits_digs hd hne'
    have hlen : (decz i.natAbs).length ≤ 19 := decz_length (by decide) (by omega)
    have hsz : (⟨(toB (decz i.natAbs)).toArray⟩ : ByteArray).size = (toB (decz i.natAbs)).length := rfl
    have hval : valS 0 (toB (decz i.natAbs)) = i.natAbs := by
      rw [valS_toB _ 0 had]
      show dv (decz i.natAbs) = _
      unfold decz
      split
      · rename_i h
        rw [h]
        rfl
      · exact dv_decs _
    have hiv : intVal (toB (decz i.natAbs)) = some i := by
      unfold intVal
      rw [hval, if_pos (by omega)]
      exact congrArg some (by omega)
    refine (parseI_any _ (some (false, i, 0)) w (fun f i u h => by cases h; decide) fun w' hb => ?_).mono fun r w' h => h
    have hnum := digits_num hd hne' (by rw [toB_length]; omega)
    exact numeral_dec ⟨(toB (decz i.natAbs)).toArray⟩ (toB (decz i.natAbs)).length (wordE (valS 0 (toB (decz i.natAbs))) 0) (some i) w' (by rw [hsz, toB_length]; omega) hD (Or.inl hsz.symm) (word_le _ _)
      (fun _ _ w2 hb2 => by rw [← hiv]; exact parseInt_any hd hne' (by rw [toB_length]; omega) w2 ((hT.below hb).below hb2).rd.rng)
      (fun h => absurd ⟨hsz.symm, hdot⟩ h) (fun w2 hb2 => parse_walk _ _ _ w2 hnum ((hT.below hb).below hb2).rd)
  · rw [hf rfl]
    have hN := hF.num
    obtain ⟨P, E, h3, h4, h5, h6, h7, h8, h9⟩ := hF
    refine (parseI_any _ (some (true, 0, b)) w (fun f i u h => by cases h; exact hfin) fun w' hb => ?_).mono fun r w' h => h
    have hx := numeral_dec (strOfNums t) P b none w' h3 h4 (h5.imp And.left (fun ⟨q, neg, h, _⟩ => ⟨q, neg, h⟩)) (by omega) (fun hp hd => by rw [h9 hp] at hd; cases hd) (fun _ => rfl) (fun w2 hb2 => by
      have := parse_walk (strOfNums t) m X w2 hN ((hT.below hb).below hb2).rd
      rw [hW] at this
      exact this)
    have e : nmRes none b = some (true, 0, b) := by unfold nmRes; rw [if_pos hfin]
    rw [e] at hx
    exact hx
theorem s_list (t : List Int) : (strOfNums t).toList = toB t := by rw [Lib.toList_data, strOf_toB]
theorem s_head {c : Int} {r : List Int} (h0 : 0 ≤ c) (h1 : c < 256) : ∃ h : 0 < (strOfNums (c :: r)).size, (((strOfNums (c :: r))[0]'h).toNat : Int) = c := by
  have h : 0 < (strOfNums (c :: r)).size := by rw [str_size]; simp
  refine ⟨h, ?_⟩
  have : (strOfNums (c :: r))[0]'h = UInt8.ofNat c.toNat := by
    show (strOfNums (c :: r)).data[0]'h = _
    simp [strOfNums]
  rw [this, UInt8.toNat_ofNat']
  omega
theorem s_ne {c : Int} {r : List Int} (h0 : 48 ≤ c) (h1 : c ≤ 57) {d : UInt8} {l : List UInt8} (hd : 57 < d.toNat) : ((strOfNums (c :: r)).toList == d :: l) = false := by
  rw [s_list]
  have hne : UInt8.ofNat c.toNat ≠ d := fun h => by
    have := congrArg UInt8.toNat h
    rw [UInt8.toNat_ofNat'] at this
    omega
  show ((UInt8.ofNat c.toNat :: toB r) == (d :: l)) = false
  simp [hne]
/-- The tests that the law makes of the text. -/
def Tests (S : ByteArray) (q : Bool) : Prop := ∃ h : 0 < S.size, ∃ a b c : Bool, (((S[0]'h).toNat : Int) == 45) = a ∧ (S.toList == [105, 110, 102]) = b ∧ (S.toList == [110, 97, 110]) = c ∧ q = (a || b || c)
theorem tests_of {t : List Int} {q : Bool} (h1 : q = true → ((∃ r, t = 45 :: r) ∨ t = [105, 110, 102] ∨ t = [110, 97, 110])) (h2 : q = false → ∃ c r, t = c :: r ∧ 48 ≤ c ∧ c ≤ 57) : Tests (strOfNums t) q := by
  cases q with
  | true =>
    rcases h1 rfl with ⟨r, rfl⟩ | rfl | rfl
    · obtain ⟨h, e⟩ := s_head (c := 45) (r := r) (by decide) (by decide)
      exact ⟨h, true, _, _, by rw [e]; rfl, rfl, rfl, rfl⟩
    · obtain ⟨h, e⟩ := s_head (c := 105) (r := [110, 102]) (by decide) (by decide)
      exact ⟨h, false, true, _, by rw [e]; rfl, by rw [s_list]; rfl, rfl, rfl⟩
    · obtain ⟨h, e⟩ := s_head (c := 110) (r := [97, 110]) (by decide) (by decide)
      exact ⟨h, false, false, true, by rw [e]; rfl, by rw [s_list]; rfl, by rw [s_list]; rfl, rfl⟩
  | false =>
    obtain ⟨c, r, rfl, h3, h4⟩ := h2 rfl
    obtain ⟨h, e⟩ := s_head (c := c) (r := r) (by omega) (by omega)
    exact ⟨h, false, false, false, by rw [e]; simp; omega, s_ne h3 h4 (by decide), s_ne h3 h4 (by decide), rfl⟩
set_option maxRecDepth 100000 in
set_option maxHeartbeats 2000000 in
theorem lawT_any (a : Option Addr) (len cap : Nat) (zs : List Int) (w : World) (hC : CodeRow w a len cap zs) (hT : FnTabs w) :
    Calls Tryz.prog 6 #[.slice a len cap] w fun e w' => e = .returned (.bool true) ∧ Below w.heap.size w w' := by
  by_cases hl : 1048576 < len
  · have hd : decide ((1048576 : Int) < (len : Int)) = true := decide_eq_true (by omega)
    go_enter Tryz.func6, Tryz.ntmps6
    go_wp2_with fail
    go_ret
    exact ⟨rfl, Below.refl _ _⟩
  · have hd : decide ((1048576 : Int) < (len : Int)) = false := decide_eq_false (by omega)
    have HDR := hid (L01Draw_any w a len cap zs (by omega) hC)
    have HC := hid hC
    have HT := hid hT
    have HL := hid hl
    clear hC hT hl
    go_enter Tryz.func6, Tryz.ntmps6
    go_wp2_with fail
    refine HDR.out.mono ?_
    rintro e w1 ⟨rfl, hb1, hsz1, hs1⟩
    have HB1 := hid hb1
    have hLN := L01Number_any w1 w1 a len cap w.heap.size zs rfl (HC.out.below hb1) (by have := HL.out; omega) hs1
    have HLN := hid hLN
    clear hb1 hsz1 hs1 hLN
    go_wp2_with fail
    refine HLN.out.mono ?_
    rintro e w2 ⟨⟨f, i, b, rfl, hf1, hf2, hi, hb⟩, hg2⟩
    have HB2 : Hid (Below w.heap.size w w2) := hid (BelowG.to_below HB1.out hg2)
    have HF1 := hid hf1
    have HF2 := hid hf2
    have HI := hid hi
    have HB := hid hb
    obtain ⟨t, ht, k, hk⟩ := format_ev (isF := f) hi.1 hi.2 hb
    have HN := hid ht
    have HK := hid hk
    clear hg2 hf1 hf2 hi hb ht hk
    go_wp2_with fail
    obtain ⟨w3, hw3⟩ : ∃ w3, w3 = w2.alloc (.cells #[.bool f, .int .i64 i, .int .u64 b] 24) := ⟨_, rfl⟩
    have hb3 : Below w2.heap.size w2 w3 := by rw [hw3]; exact (Below.refl _ _).alloc (Nat.le_refl _) _
    have hh3 : w3.heap[w2.heap.size]? = some (.cells #[.bool f, .int .i64 i, .int .u64 b] 24 (0, 0)) := by rw [hw3]; exact Array.getElem?_push_size
    have HB3 : Hid (Below w.heap.size w w3) := hid (HB2.out.trans (hb3.mono HB2.out.size))
    have HH3 := hid hh3
    have hcell : ∀ w', Below w3.heap.size w3 w' → w'.heap[w2.heap.size]? = some (.cells #[.bool f, .int .i64 i, .int .u64 b] 24 (0, 0)) := fun w' hb => (hb.block _ (Array.getElem?_eq_some_iff.1 hh3).1).trans hh3
    have HCELL := hid hcell
    rw [← hw3]
    clear hw3 hb3 hh3 hcell
    refine (formatI_any f i b w3 HI.out HB.out (HT.out.below HB3.out)).mono ?_
    rintro e w4 ⟨⟨t', ht', rfl⟩, hb4⟩
    obtain rfl := NT_unique HN.out ht'
    have HB4 := hid hb4
    have hh := HCELL.out w4 hb4
    clear hb4 ht'
    obtain ⟨⟨c0, c1, c2⟩, f0, f1, f2⟩ := num_cells hh
    clear hh
    go_wp2_with fail
    clear c0 c1 c2 f0 f1 f2
    refine (spec_FormatNumber.calls k f i b _ w4 HK.out).mono ?_
    rintro e w5 ⟨rfl, hb5⟩
    have HB5 : Hid (Below w3.heap.size w3 w5) := hid (HB4.out.trans (hb5.mono HB4.out.size))
    clear hb5
    have HC7 := hid (nt_cases HN.out HF1.out HF2.out HB.out HI.out)
    have hq : ∃ q : Bool, (q = false → (f = false ∧ 0 ≤ i ∧ t = decz i.natAbs) ∨ (f = true ∧ b < 2047 * 2 ^ 52 ∧ ∃ m X, FNum (strOfNums t) m X ∧ wordE m X = b)) ∧
        (q = true → ((∃ r, t = 45 :: r) ∨ t = [105, 110, 102] ∨ t = [110, 97, 110])) ∧ (q = false → ∃ c r, t = c :: r ∧ 48 ≤ c ∧ c ≤ 57) := by
      rcases HC7.out with h | h | h | ⟨h1, h2⟩
      · exact ⟨true, (fun h => by cases h), fun _ => Or.inl h, (fun h => by cases h)⟩
      · exact ⟨true, (fun h => by cases h), fun _ => Or.inr (Or.inl h), (fun h => by cases h)⟩
      · exact ⟨true, (fun h => by cases h), fun _ => Or.inr (Or.inr h), (fun h => by cases h)⟩
      · exact ⟨false, fun _ => h2, (fun h => by cases h), fun _ => h1⟩
    obtain ⟨q, hq1, hq2, hq3⟩ := hq
    have HTS := hid (tests_of hq2 hq3)
    have HPB : Hid (q = false → ∀ w', FnTabs w' → Calls Tryz.prog 8 #[.string (strOfNums t)] w' fun r w2 => r = .returned (.tuple #[.agg #[.bool f, .int .i64 i, .int .u64 b], .bool true]) ∧ Below w'.heap.size w' w2) :=
      hid (fun hq w' hT' => parse_back HF1.out HF2.out HI.out (hq1 hq) w' hT')
    clear hq1 hq2 hq3
    obtain ⟨S, hS⟩ : ∃ S, strOfNums t = S := ⟨_, rfl⟩
    rw [hS] at HTS HPB ⊢
    clear hS HC7
    go_upto_region 7 with fail
    go_cut [29] from 19 to 29 (fun v29 wx => v29 = .bool q ∧ wx = w5)
    case first =>
      obtain ⟨h0, x, y, z, e1, e2, e3, rfl⟩ := HTS.out
      cases x
      · cases y
        · go_wp2_with fail
          go_meet
          exact ⟨rfl, rfl⟩
        · go_wp2_with fail
          go_meet
          exact ⟨rfl, rfl⟩
      · go_wp2_with fail
        go_meet
        exact ⟨rfl, rfl⟩
    case rest =>
      obtain ⟨rfl, rfl⟩ := hcut
      cases q
      · have HP := hid (HPB.out rfl)
        go_wp2_with fail
        refine (HP.out _ (HT.out.below (HB3.out.trans (HB5.out.mono HB3.out.size)))).mono ?_
        rintro e w6 ⟨rfl, hb6⟩
        have HB6 : Hid (Below w3.heap.size w3 w6) := hid (HB5.out.trans (hb6.mono HB5.out.size))
        have hh := HCELL.out w6 HB6.out
        clear hb6
        go_upto_region 10 with fail
        obtain ⟨w7, hw7⟩ : ∃ w7, w7 = w6.alloc (.cells #[.bool f, .int .i64 i, .int .u64 b] 24) := ⟨_, rfl⟩
        have hb7 : Below w6.heap.size w6 w7 := by rw [hw7]; exact (Below.refl _ _).alloc (Nat.le_refl _) _
        have hn7 : w7.heap[w6.heap.size]? = some (.cells #[.bool f, .int .i64 i, .int .u64 b] 24 (0, 0)) := by rw [hw7]; exact Array.getElem?_push_size
        have ho7 := (hb7.block _ (Array.getElem?_eq_some_iff.1 hh).1).trans hh
        have HB7 : Hid (Below w3.heap.size w3 w7) := hid (HB6.out.trans (hb7.mono HB6.out.size))
        rw [← hw7]
        clear hw7 hb7 hh
        obtain ⟨⟨c0, c1, c2⟩, f0, f1, f2⟩ := num_cells hn7
        obtain ⟨⟨d0, d1, d2⟩, g0, g1, g2⟩ := num_cells ho7
        clear hn7 ho7
        go_wp2_with fail
        go_ret
        exact ⟨rfl, HB3.out.trans (HB7.out.mono HB3.out.size)⟩
      · go_wp2_with fail
        go_ret
        exact ⟨rfl, HB3.out.trans (HB5.out.mono HB3.out.size)⟩
end Go.Proofs.YtlblkajnmdhmdaaGreatDoor
