/-
  Walk: the library's atof64 at a decimal numeral of more than 19 digits.
  Walk: strconv.ParseFloat(s, 64) at every decimal numeral of 100 bytes at most: the nearest float.
-/
import Derived.Test.YtlblkajnmdhmdaaGreatDoorZNFq
import Derived.Test.YtlblkajnmdhmdaaGreatDoorZNNs
import Derived.Test.YtlblkajnmdhmdaaGreatDoorZNPr
import Derived.Test.YtlblkajnmdhmdaaGreatDoorZNMq
namespace Go.Proofs.YtlblkajnmdhmdaaGreatDoor
set_option linter.unusedVariables false
open Go.RowKit Lib Go.Op NR
namespace NU
open Ieee
theorem ord_words0 {W u : Nat} (hW : W ≤ 2047 * 2 ^ 52) (hu : u ≤ 2047 * 2 ^ 52) : (double.order W u == some .eq) = decide (W = u) := by
 rcases Nat.lt_or_eq_of_le hu with h | h
 ·exact ord_eq hW h
 ·rcases Nat.lt_or_eq_of_le hW with h2 | h2
  ·rw [decide_eq_false (show ¬ W = u by omega)];unfold Format.order;rw [read_word h2, read_any (b := u) (by omega), if_neg (by omega), if_pos (by omega), decide_eq_false (show ¬ 2 ^ 63 ≤ u by omega)];rfl
  ·rw [h2, h, decide_eq_true rfl];exact (ord_self (by decide)).trans (decide_eq_true (by decide))
end NU
theorem ord_words {W u : Nat} (hW : W ≤ 2047 * 2 ^ 52) (hu : u ≤ 2047 * 2 ^ 52) : (FloatKind.f64.format.order W u == some .eq) = decide (W = u) := NU.ord_words0 hW hu
theorem scan_tr {s : ByteArray} {P : Nat} : (scan s P).tr = true → 19 ≤ (scan s P).nm := by
 induction P with
 | zero => intro h; simp [scan] at h
 | succ k ih =>
  show (NR.step (scan s k) (bt s k)).tr = true → 19 ≤ (NR.step (scan s k) (bt s k)).nm;unfold NR.step;split
  ·exact ih
  ·split
   ·exact ih
   ·split
    ·intro h;have := ih h;simp only;omega
    ·intro _;simp only;omega
theorem BelowG.to {w w2 w4 : World} (h : BelowG w2 w4 w2.heap.size) (hb : Below w.heap.size w w2) : Below w.heap.size w w4 :=
 { os := h.os.trans hb.os, tape := h.tape.trans hb.tape, output := h.output.trans hb.output, size := Nat.le_trans hb.size h.size, block := fun b hlt => (h.block b (by have := hb.size; omega) (Nat.lt_of_lt_of_le hlt hb.size)).trans (hb.block b hlt) }
theorem SlowT.below {w w' : World} (h : SlowT w w.heap.size) (hb : Below w.heap.size w w') : SlowT w' w'.heap.size := by
 have hs := h.ch.size;have hsz := hb.size;obtain ⟨a, c, h1, h2, h3⟩ := h.pt;refine ⟨⟨by omega, fun k k1 k2 => ?_⟩, ?_, ?_, ?_, a, c, ?_, by omega, fun i hi => ⟨(h3 i hi).1, ?_⟩⟩
 ·obtain ⟨a, cap, d, L, s, ⟨t, dl, ct, dg, lo, ln⟩, ha, hk⟩ := h.ch.row k k1 k2;refine ⟨a, cap, d, L, s, ⟨?_, ?_, ?_, dg, lo, ln⟩, by omega, hk⟩
  ·rw [hb.cell (p := ⟨16, 0, none⟩) (by show 16 < _; omega)]; exact t
  ·rw [hb.cell (by omega)]; exact dl
  ·rw [hb.cell (p := ⟨(a.add (k * 2)).block, (a.add (k * 2)).off + 1, none⟩) (by show (a.add (k * 2)).block < _; omega)]; exact ct
 ·rw [hb.cell (p := ⟨7, 0, none⟩) (by show 7 < _; omega)]; exact h.m7
 ·rw [hb.cell (p := ⟨7, 1, none⟩) (by show 7 < _; omega)]; exact h.x7
 ·rw [hb.cell (p := ⟨7, 2, none⟩) (by show 7 < _; omega)]; exact h.b7
 ·rw [hb.cell (p := ⟨11, 0, none⟩) (by show 11 < _; omega)]; exact h1
 ·have h4 := h3 i hi;rw [hb.cell (by omega)]; exact h4.2
set_option maxRecDepth 100000 in
theorem zero_dec : Tryz.zeroCells188 = (List.replicate 800 (Value.int .u8 0) ++ [Value.int .i64 0, Value.int .i64 0, Value.bool false, Value.bool false]).toArray := by kernel_rfl
theorem rep_at {n i : Nat} {v : Value} {t : List Value} (h : i < n) : (List.replicate n v ++ t).toArray[i]? = some v := by
 rw [List.getElem?_toArray, List.getElem?_append_left (by rw [List.length_replicate]; exact h), List.getElem?_replicate, if_pos h]
theorem rep_tail {n j : Nat} {v : Value} {t : List Value} : (List.replicate n v ++ t).toArray[n + j]? = t[j]? := by
 rw [List.getElem?_toArray, List.getElem?_append_right (by rw [List.length_replicate]; omega), List.length_replicate, Nat.add_sub_cancel_left]
theorem rep_size {n : Nat} {v : Value} {t : List Value} : (List.replicate n v ++ t).toArray.size = n + t.length := by
 rw [List.size_toArray, List.length_append, List.length_replicate]
theorem zero_raw : RawC Tryz.zeroCells188 0 0 false := by
 rw [zero_dec];exact ⟨rep_size, fun i hi => ⟨0, rep_at hi, by decide⟩, rep_tail (n := 800) (j := 0), rep_tail (n := 800) (j := 1), rep_tail (n := 800) (j := 2), rep_tail (n := 800) (j := 3)⟩
theorem zero_at (w : World) : DecW w (w.alloc (Obj.cells Tryz.zeroCells188 188)) w.heap.size Tryz.zeroCells188 := by
 have hb := (Below.refl w.heap.size w).alloc (Nat.le_refl _) (Obj.cells Tryz.zeroCells188 188);refine ⟨⟨hb.os, hb.tape, hb.output, hb.size, fun b _ h2 => hb.block b h2⟩, ?_⟩;show (w.heap.push _)[w.heap.size]? = _;rw [Array.getElem?_push_size]
set_option maxRecDepth 100000 in
set_option maxHeartbeats 2000000 in
theorem atof64_slow (s : ByteArray) (P : Nat) (E : Int) (w : World) (hs : s.size ≤ 100) (hD : Digs s P) (hE : (P = s.size ∧ E = 0) ∨ ∃ q neg, HasExp s P q neg ∧ E = expI s q neg) (htr : (scan s P).tr = true)
  (hT : P10 w) (hsz : 16 < w.heap.size) (hopt : w.cell? ⟨4, 0, none⟩ = some (.bool true)) (hST : SlowT w w.heap.size) :
  Calls Tryz.prog 148 #[.string s] w fun r w' => r = atofEnd (numW s P E) s.size ∧ Below w.heap.size w w' := by
 have hsp := special_walk s w (by have := hD.1; have := hD.2.1; omega) ((hD.2.2.1 0 hD.1).imp And.left id);have hrf := readFloat_walk s P E w (by omega) hD hE;have hb := scan_bound hD.2.2.1 P (Nat.le_refl _);have hfs := fdig_scan hD.2.2.1 P (Nat.le_refl _);have hm64 := m_lt' hb.2.2.2.1 hb.2.2.1;have hnm := scan_tr htr
 have hE1 : -1000 ≤ E ∧ E ≤ 1000 := by
  rcases hE with ⟨_, h2⟩ | ⟨q, neg, ⟨h1, h2, h3, h4, h5, h6⟩, h7⟩
  ·omega
  ·have := evs_small (t := s.size - q) (fun k h1 h2 => h5 k h1 (by omega)) (by omega);rw [h7];unfold expI;split <;> omega
 have hset := fun W w1 b C hw1 hr1 => set_any W w1 b C s P E hw1 hr1 (by omega) hD hE;have hP := hD.2.1;have HSET := hid hset;unfold numW;unfold readRes at hrf;rw [htr] at hrf
 have hm0 : (scan s P).m ≠ 0 := fun h0 => by
  have h1 := hfs.2.2.1 (by omega);have h2 := hfs.2.2.2.2.1;rw [h0, Nat.zero_add, Nat.one_mul] at h2;have := (Nat.pow_lt_pow_iff_right (by decide : 1 < 10)).1 (Nat.lt_of_le_of_lt h1 h2);omega
 obtain ⟨m, hm⟩ : ∃ m, (scan s P).m = m := ⟨_, rfl⟩;obtain ⟨D, hDD⟩ : ∃ D, fdig s P = D := ⟨_, rfl⟩;obtain ⟨nd, hnd⟩ : ∃ nd, (scan s P).nd = nd := ⟨_, rfl⟩;obtain ⟨dp, hdp⟩ : ∃ dp : Int, dpt (scan s P) = dp := ⟨_, rfl⟩
 have hdpb : -100 ≤ dp ∧ dp ≤ 100 := by
  rw [← hdp];unfold dpt;split <;> omega
 have hX : expOf (scan s P) E = dp + E - 19 := by
  unfold expOf;rw [if_neg hm0, hdp];omega
 rw [hX, hm] at hrf;rw [hm] at hm0 hm64;rw [hDD, hnd, hdp];have hfs2 := hfs;rw [hm, hDD, hnd] at hfs2;have hnm19 : (scan s P).nm = 19 := (by omega);rw [hnm19] at hfs2;obtain ⟨f1, f2, f3, f4, f5, f6⟩ := hfs2;have hnd20 : 19 ≤ nd := (by omega);have hnd100 : nd ≤ 100 := (by omega);have f7 := f3 (by omega);obtain ⟨X, hXX⟩ : ∃ X, dp + E - 19 = X := ⟨_, rfl⟩;rw [hXX] at hrf
 have hsq1 : NU.wordE m X ≤ NU.wordE D (dp + E - nd) := by
  have := NU.wordE_mono (e := dp + E - nd) f4;rw [NU.wordE_shift, show dp + E - (nd : Int) + ((nd - 19 : Nat) : Int) = X by omega] at this;exact this
 have hsq2 : NU.wordE D (dp + E - nd) ≤ NU.wordE (m + 1) X := by
  have := NU.wordE_mono (e := dp + E - nd) (Nat.le_of_lt f5);rw [NU.wordE_shift, show dp + E - (nd : Int) + ((nd - 19 : Nat) : Int) = X by omega] at this;exact this
 have HF2 := hid f2;have HF3 := hid f7;have HXX := hid hXX;have HDN := hid (And.intro hnd (And.intro hDD hdp));have HND := hid (And.intro hnd20 hnd100);clear hfs f1 f2 f3 f4 f5 f6 f7 hb htr hE hD hX hset hXX hnm19 hnm hm hDD hnd hdp hnd20 hnd100;have HT := hid hT;have HSP := hid hsp;have HRF := hid hrf;have HSL := hid hST;clear hT hsp hrf hST;have hmz : ((m : Int) == 0) = false := (by simp; omega);by_cases hg : 310 < X
 ·have hd : decide ((310 : Int) < X) = true := decide_eq_true hg;rw [NU.wordE_great (n := D) (s := nd) (by have := HND.out; omega) HF3.out (by have := HXX.out; omega)];clear hsq1 hsq2;go_enter Tryz.func148, Tryz.ntmps148
  go_wp2_with (first | (go_at_call 182; refine HSP.out.mono ?_; rintro r w' ⟨rfl, rfl⟩) | (go_at_call 183; refine HRF.out.mono ?_; rintro r w' ⟨rfl, rfl⟩) | (go_at_call 191; refine (flip (bool2_64 _ _)).mono ?_; rintro r w' ⟨rfl, rfl⟩))
  rw [frombits_any];go_simp
  go_wp2_with fail
  go_ret3
  refine ⟨?_, Below.refl _ _⟩;unfold atofEnd;rw [if_neg (by decide)];rfl
 ·have hd : decide ((310 : Int) < X) = false := decide_eq_false hg;by_cases hl : X < -345
  ·have hd2 : decide (X < (-345 : Int)) = true := decide_eq_true hl;rw [NU.wordE_small2 (s := nd) (n := D) HF2.out (by have := HXX.out; omega)];clear hsq1 hsq2;go_enter Tryz.func148, Tryz.ntmps148
   go_wp2_with (first | (go_at_call 182; refine HSP.out.mono ?_; rintro r w' ⟨rfl, rfl⟩) | (go_at_call 183; refine HRF.out.mono ?_; rintro r w' ⟨rfl, rfl⟩) | (go_at_call 191; refine (flip (bool2_64 _ _)).mono ?_; rintro r w' ⟨rfl, rfl⟩))
   rw [frombits_any];go_simp
   go_wp2_with fail
   go_ret3
   refine ⟨?_, Below.refl _ _⟩;unfold atofEnd;rw [if_pos (by decide)];rfl
  ·have hd2 : decide (X < (-345 : Int)) = false := decide_eq_false hl;obtain ⟨i, hi⟩ : ∃ i : Nat, (i : Int) = X + 348 := ⟨(X + 348).toNat, by omega⟩;have hpf := parse64_walk m i X w HT.out hsz (by omega) (by omega) hi.symm (by omega)
   have hwe : ∀ n, NU.word (n * NU.tn i) (NU.td i) = NU.wordE n X := fun n => by
    rw [← NU.wordE_at, show (i : Int) - 348 = X by omega]
   rw [hwe] at hpf
   have hpf2 : ∀ w1, Below w.heap.size w w1 → Calls Tryz.prog 194 #[.int .u64 ((m + 1 : Nat) : Int), .int .i64 X, .int .u64 0] w1 fun r w' => r = numEnd (NU.wordE (m + 1) X) ∧ Below w1.heap.size w1 w' := fun w1 hb => by
    have := parse64_walk (m + 1) i X w1 (HT.out.below hsz hb) (Nat.lt_of_lt_of_le hsz hb.size) (by omega) (by omega) hi.symm (by omega);rw [hwe] at this;exact this
   obtain ⟨Wd, hWd⟩ : ∃ Wd, NU.wordE m X = Wd := ⟨_, rfl⟩;obtain ⟨We, hWe⟩ : ∃ We, NU.wordE (m + 1) X = We := ⟨_, rfl⟩;rw [hWd] at hpf hsq1;rw [hWe] at hpf2 hsq2;obtain ⟨er, her⟩ : ∃ er, numEnd Wd = .returned (.tuple #[.float .f64 Wd, er]) ∧ atofEnd Wd s.size = .returned (.tuple #[.float .f64 Wd, .int .i64 s.size, er]) := ⟨_, rfl, rfl⟩;obtain ⟨er2, her2⟩ : ∃ er2, numEnd We = .returned (.tuple #[.float .f64 We, er2]) := ⟨_, rfl⟩;rw [her.1] at hpf;rw [her2] at hpf2;have HER := hid her;have HPF := hid hpf;have HPF2 := hid hpf2;have hW1 : Wd ≤ 2047 * 2 ^ 52 := (by rw [← hWd]; exact NU.word_le _ _);have hW2 : We ≤ 2047 * 2 ^ 52 := (by rw [← hWe]; exact NU.word_le _ _);have hord := ord_words hW1 hW2;have HSQ1 := hid hsq1;have HSQ2 := hid hsq2;clear her hpf hpf2 hwe hWd hWe her2 hsq1 hsq2 hW1 hW2;by_cases heq : Wd = We
   ·rw [decide_eq_true heq] at hord
    have hres : NU.wordE D (dp + E - nd) = Wd := by
     have h1 := HSQ1.out;have h2 := HSQ2.out;omega
    rw [hres, HER.out.2];have HEQ := hid heq;clear heq hres;go_enter Tryz.func148, Tryz.ntmps148
    go_wp2_with (first | (go_at_call 182; refine HSP.out.mono ?_; rintro r w' ⟨rfl, rfl⟩) | (go_at_call 183; refine HRF.out.mono ?_; rintro r w' ⟨rfl, rfl⟩) | (go_at_call 191; refine (flip (bool2_64 _ _)).mono ?_; rintro r w' ⟨rfl, rfl⟩))
    refine HPF.out.mono ?_;rintro r w1 ⟨rfl, hb⟩;have HB := hid hb;clear hb
    go_wp2_with (go_at_call 194; refine (HPF2.out _ HB.out).mono ?_; rintro r w2 ⟨rfl, hb2⟩)
    have HB2 := hid hb2;clear hb2
    go_wp2_with fail
    go_ret3
    exact ⟨rfl, HB.out.trans (HB2.out.mono HB.out.size)⟩
   ·rw [decide_eq_false heq] at hord;obtain ⟨Wf, hWf⟩ : ∃ Wf, NU.wordE D (dp + E - nd) = Wf := ⟨_, rfl⟩;rw [hWf];have HWF := hid hWf;clear heq hWf HSQ1 HSQ2;by_cases hfin : Wf < 2047 * 2 ^ 52
    ·have hat : atofEnd Wf s.size = .returned (.tuple #[.float .f64 Wf, .int .i64 s.size, .nilIface]) := (by unfold atofEnd; rw [if_pos hfin]);rw [hat];have HFIN := hid hfin;clear hat hfin;go_enter Tryz.func148, Tryz.ntmps148
     go_wp2_with (first | (go_at_call 182; refine HSP.out.mono ?_; rintro r w' ⟨rfl, rfl⟩) | (go_at_call 183; refine HRF.out.mono ?_; rintro r w' ⟨rfl, rfl⟩) | (go_at_call 191; refine (flip (bool2_64 _ _)).mono ?_; rintro r w' ⟨rfl, rfl⟩))
     refine HPF.out.mono ?_;rintro r w1 ⟨rfl, hb⟩;have HB := hid hb;clear hb
     go_wp2_with (go_at_call 194; refine (HPF2.out _ HB.out).mono ?_; rintro r w2 ⟨rfl, hb2⟩)
     have HB2 := hid hb2;clear hb2
     go_wp2_with fail
     have hbl := HB.out.trans (HB2.out.mono HB.out.size);have hsl := HSL.out.below hbl;have HBL := hid hbl;have HSL2 := hid hsl;clear hsl hbl;refine (HSET.out w2 _ _ _ (zero_at w2) zero_raw).mono ?_;rintro r w3 ⟨rfl, C3, hw3, hr3, hd3⟩;rw [HDN.out.1, HDN.out.2.2] at hr3;rw [HDN.out.1, HDN.out.2.1] at hd3;have hfb := floatBits_any w2 w3 w2.heap.size D nd (dp + E) C3 hw3 hr3 hd3 ⟨by have := HND.out; omega, HND.out.2⟩ HF2.out HF3.out (by omega) HSL2.out (Nat.le_refl _);rw [HWF.out] at hfb;unfold fbEnd at hfb;rw [decide_eq_false (fun h => h HFIN.out)] at hfb;have HFB := hid hfb;clear hw3 hr3 hd3 hfb;go_simp
     go_wp2_with (go_at_call 190; refine HFB.out.mono ?_; rintro r w4 ⟨rfl, hbg⟩)
     have HBG := hid hbg;clear hbg;rw [frombits_run];go_simp
     go_wp2_with fail
     go_ret3
     exact ⟨rfl, HBG.out.to HBL.out⟩
    ·have hat : atofEnd Wf s.size = .returned (.tuple #[.float .f64 Wf, .int .i64 s.size, .iface 124 (.int .i64 1)]) := (by unfold atofEnd; rw [if_neg hfin]);rw [hat];have HFIN := hid hfin;clear hat hfin;go_enter Tryz.func148, Tryz.ntmps148
     go_wp2_with (first | (go_at_call 182; refine HSP.out.mono ?_; rintro r w' ⟨rfl, rfl⟩) | (go_at_call 183; refine HRF.out.mono ?_; rintro r w' ⟨rfl, rfl⟩) | (go_at_call 191; refine (flip (bool2_64 _ _)).mono ?_; rintro r w' ⟨rfl, rfl⟩))
     refine HPF.out.mono ?_;rintro r w1 ⟨rfl, hb⟩;have HB := hid hb;clear hb
     go_wp2_with (go_at_call 194; refine (HPF2.out _ HB.out).mono ?_; rintro r w2 ⟨rfl, hb2⟩)
     have HB2 := hid hb2;clear hb2
     go_wp2_with fail
     have hbl := HB.out.trans (HB2.out.mono HB.out.size);have hsl := HSL.out.below hbl;have HBL := hid hbl;have HSL2 := hid hsl;clear hsl hbl;refine (HSET.out w2 _ _ _ (zero_at w2) zero_raw).mono ?_;rintro r w3 ⟨rfl, C3, hw3, hr3, hd3⟩;rw [HDN.out.1, HDN.out.2.2] at hr3;rw [HDN.out.1, HDN.out.2.1] at hd3;have hfb := floatBits_any w2 w3 w2.heap.size D nd (dp + E) C3 hw3 hr3 hd3 ⟨by have := HND.out; omega, HND.out.2⟩ HF2.out HF3.out (by omega) HSL2.out (Nat.le_refl _);rw [HWF.out] at hfb;unfold fbEnd at hfb;rw [decide_eq_true HFIN.out] at hfb;have HFB := hid hfb;clear hw3 hr3 hd3 hfb;go_simp
     go_wp2_with (go_at_call 190; refine HFB.out.mono ?_; rintro r w4 ⟨rfl, hbg⟩)
     have HBG := hid hbg;clear hbg;rw [frombits_run];go_simp
     go_wp2_with fail
     go_ret3
     exact ⟨rfl, HBG.out.to HBL.out⟩
end Go.Proofs.YtlblkajnmdhmdaaGreatDoor
namespace Go.Proofs.YtlblkajnmdhmdaaGreatDoor
set_option linter.unusedVariables false
open Go.RowKit Lib NR
theorem numW_short {s : ByteArray} {P : Nat} {E : Int} (hD : Digs s P) (htr : (scan s P).tr = false) : numW s P E = NU.wordE (scan s P).m (expOf (scan s P) E) := by
 obtain ⟨h1, _, _, _, _, h6⟩ := fdig_scan hD.2.2.1 P (Nat.le_refl _);unfold numW expOf;rw [h6 htr, NU.wordE_shift];by_cases h0 : (scan s P).m = 0
 ·rw [h0, NU.wordE_zero, NU.wordE_zero]
 ·rw [if_neg h0];congr 1;omega
theorem atof64_any (s : ByteArray) (P : Nat) (E : Int) (w : World) (hs : s.size ≤ 100) (h : IsDec s P E) (hR : RdTabs w) (hS : SlowT w w.heap.size) :
  Calls Tryz.prog 148 #[.string s] w fun r w' => r = atofEnd (numW s P E) s.size ∧ Below w.heap.size w w' := by
 cases htr : (scan s P).tr with
 | false =>
  rw [numW_short h.1 htr];exact atof64_walk s P E w (by omega) h.1 h.2 htr hR.p10 hR.i7 hR.f10 hR.size hR.opt
 | true => exact atof64_slow s P E w hs h.1 h.2 htr hR.p10 hR.size hR.opt hS
set_option maxRecDepth 100000 in
set_option maxHeartbeats 1000000 in
theorem iparse_any (s : ByteArray) (P : Nat) (E : Int) (w : World) (hs : s.size ≤ 100) (h : IsDec s P E) (hR : RdTabs w) (hS : SlowT w w.heap.size) :
  Calls Tryz.prog 77 #[.string s, .int .i64 64] w fun r w' => r = numEnd (numW s P E) ∧ Below w.heap.size w w' := by
 have hat := atof64_any s P E w hs h hR hS;obtain ⟨er, he1, he2⟩ : ∃ er, numEnd (numW s P E) = .returned (.tuple #[.float .f64 (numW s P E), er]) ∧ atofEnd (numW s P E) s.size = .returned (.tuple #[.float .f64 (numW s P E), .int .i64 s.size, er]) := ⟨_, rfl, rfl⟩;rw [he2] at hat;rw [he1];generalize numW s P E = W at hat ⊢;have HAT := hid (prefix_walk s W er w (hid hat));clear hat he1 he2 h hR hS;go_enter Tryz.func77, Tryz.ntmps77
 go_wp2_with (go_at_call 108; refine HAT.out.mono ?_; rintro r w1 ⟨rfl, hb⟩)
 have HB := hid hb;clear hb
 go_wp2_with fail
 go_ret2;exact ⟨rfl, HB.out⟩
set_option maxRecDepth 100000 in
set_option maxHeartbeats 1000000 in
theorem parseF_any (s : ByteArray) (P : Nat) (E : Int) (w : World) (hs : s.size ≤ 100) (h : IsDec s P E) (hR : RdTabs w) (hS : SlowT w w.heap.size) :
  Calls Tryz.prog 49 #[.string s, .int .i64 64] w (PrPost (numW s P E) w) := by
 have hip := iparse_any s P E w hs h hR hS;obtain ⟨Wd, hWd⟩ : ∃ Wd, numW s P E = Wd := ⟨_, rfl⟩;rw [hWd] at hip ⊢;clear hWd h hS;have HR := hid hR;clear hR;by_cases hf : Wd < 2047 * 2 ^ 52
 ·have he : numEnd Wd = .returned (.tuple #[.float .f64 Wd, .nilIface]) := (by unfold numEnd; rw [if_pos hf]);rw [he] at hip;have HIP := hid hip;have HF := hid hf;clear hip he hf;go_enter Tryz.func49, Tryz.ntmps49
  go_wp2_with (go_at_call 77; refine HIP.out.mono ?_; rintro r w1 ⟨rfl, hb⟩)
  have HB := hid hb;clear hb
  go_wp2_with fail
  go_ret2;exact ⟨⟨_, rfl, fun _ => rfl, fun h => absurd HF.out h⟩, HB.out⟩
 ·have he : numEnd Wd = .returned (.tuple #[.float .f64 Wd, .iface 124 (.int .i64 1)]) := (by unfold numEnd; rw [if_neg hf]);rw [he] at hip;have HIP := hid hip;have HF := hid hf;clear hip he hf;go_enter Tryz.func49, Tryz.ntmps49
  go_wp2_with (go_at_call 77; refine HIP.out.mono ?_; rintro r w1 ⟨rfl, hb⟩)
  have HB := hid hb;clear hb;have hrng := (HR.out.below HB.out).rng;obtain ⟨ev, hv, hev⟩ := hrng;have hte := fun fn => Tryz.strconv_toError_range fn s 0 64 ev w1 (by omega) hv hev
  go_wp2_with (go_at_call 76; refine (hte _).mono ?_; rintro r w2 ⟨N, rfl, hN1, hN2, hb2⟩)
  go_ret2;exact ⟨⟨_, rfl, fun h => absurd h HF.out, fun _ => ⟨_, _, rfl⟩⟩, HB.out.trans (hb2.mono HB.out.size)⟩
end Go.Proofs.YtlblkajnmdhmdaaGreatDoor
