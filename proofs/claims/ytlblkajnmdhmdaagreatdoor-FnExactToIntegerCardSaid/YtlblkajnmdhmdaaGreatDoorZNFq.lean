/-
  Walk: the library's decimal.set at a decimal numeral.
-/
import Derived.Test.YtlblkajnmdhmdaaGreatDoorZNFp
namespace Go.Proofs.YtlblkajnmdhmdaaGreatDoor
set_option linter.unusedVariables false
open Go.RowKit Lib Go.Op NR
/-- What set answers. -/
def DSetPost (W : World) (b : Nat) (s : ByteArray) (P : Nat) (E : Int) (e : Ending) (w' : World) : Prop :=
 e = .returned (.bool true) ∧ ∃ C, DecW W w' b C ∧ RawC C (scan s P).nd (dpt (scan s P) + E) false ∧ DigC C (fdig s P) (scan s P).nd
/-- What the decimal holds behind k bytes. -/
def DSetAt (W w : World) (b : Nat) (s : ByteArray) (k nd : Nat) (dp : Int) : Prop := ∃ C, DecW W w b C ∧ RawC C nd dp false ∧ DigC C (fdig s k) nd
theorem fdig_dot {s : ByteArray} {k : Nat} (h : bt s k = 46) : fdig s (k + 1) = fdig s k := if_pos h
theorem fdig_dig {s : ByteArray} {k : Nat} (h : bt s k ≠ 46) : fdig s (k + 1) = fdig s k * 10 + (bt s k - 48) := if_neg h
set_option maxRecDepth 100000 in
set_option maxHeartbeats 4000000 in
theorem set_any (W w : World) (b : Nat) (C : Array Value) (s : ByteArray) (P : Nat) (E : Int) (hw : DecW W w b C) (hr : RawC C 0 0 false) (hs : s.size ≤ 700) (hD : Digs s P) (hE : (P = s.size ∧ E = 0) ∨ ∃ q neg, HasExp s P q neg ∧ E = expI s q neg) :
  Calls Tryz.prog 189 #[.pointer (some ⟨b, 0, none⟩), .string s] w (DSetPost W b s P E) := by
 obtain ⟨hP1, hP2, hdig, hsaw⟩ := hD;have HDIG := hid hdig;have HSAW := hid hsaw;have HE := hid hE;have hs0 : 0 < s.size := (by omega);have hc0 : bt s 0 = 46 ∨ isD (bt s 0) := (hdig 0 (by omega)).imp And.left id;have hb0 := bt_of_lt hs0;have hd0 : decide (s = ByteArray.empty) = false := decide_eq_false (fun h => by rw [h] at hs0; simp at hs0);have h43 : ((s[0].toNat : Int) == 43) = false := (by rw [← hb0]; unfold isD at hc0; simp; omega);have h45 : ((s[0].toNat : Int) == 45) = false := (by rw [← hb0]; unfold isD at hc0; simp; omega);have c2 : w.cell? ⟨b, 802, none⟩ = some (.bool false) := (hw.cell 802).trans hr.cneg;have f2 := hw.free 802;have c3 : w.cell? ⟨b, 803, none⟩ = some (.bool false) := (hw.cell 803).trans hr.ctr;have f3 := hw.free 803;have hsz := hr.size
 have hat : DSetAt W ((w.setCell ⟨b, 802, none⟩ (.bool false)).setCell ⟨b, 803, none⟩ (.bool false)) b s 0 0 0 := by
  refine ⟨_, (hw.set 802 _).set 803 _, ?_, fun i hi => absurd hi (by omega)⟩
  have h1 : C.setIfInBounds 802 (.bool false) = C := by
   apply Array.ext_getElem?;intro i;rw [get_set (by omega)];split
   ·rename_i h; subst h; exact hr.cneg.symm
   ·rfl
  rw [h1];exact hr.setTr false
 have HAT := hid hat;clear hdig hsaw hE hc0 hb0 hw hr hat;go_enter Tryz.func189, Tryz.ntmps189
 go_upto_block 1 with fail
 go_cut [5, 6, 7] from 34 to 116 (fun v5 v6 v7 wx => ∃ (m nd nm : Nat) (dp : Int) (dot dig tr : Bool), v5 = .int .i64 P ∧ v6 = .bool dot ∧ v7 = .bool dig ∧ Hid (scan s P = ⟨m, nd, nm, dp, dot, dig, tr⟩) ∧ Hid (DSetAt W wx b s P nd dp))
 case first =>
  go_wp2_with fail
  go_loopw [5, 6, 7] (fun v5 v6 v7 wx => ∃ (k m nd nm : Nat) (dp : Int) (dot dig tr : Bool), k ≤ P ∧ v5 = .int .i64 k ∧ v6 = .bool dot ∧ v7 = .bool dig ∧ Hid (scan s k = ⟨m, nd, nm, dp, dot, dig, tr⟩) ∧ Hid (DSetAt W wx b s k nd dp)) (fun v5 _ _ _ => P - (RowKit.intOf v5).toNat)
  case atStart =>
   exact ⟨0, 0, 0, 0, 0, false, false, false, by omega, rfl, rfl, rfl, hid rfl, HAT⟩
  case round =>
   obtain ⟨k, m, nd, nm, dp, dot, dig, tr, hk, rfl, rfl, rfl, HS, HA⟩ := hrel;have hbd := scan_bound HDIG.out k hk;rw [HS.out] at hbd;obtain ⟨g1, g2, g3, g4, g5, g6⟩ := hbd;replace g1 : nd ≤ k := g1;clear g2 g3 g4;replace g5 : -(k : Int) ≤ dp := g5;replace g6 : dp ≤ k := g6;have hnx : ∀ c, c = bt s k → scan s (k + 1) = NR.step ⟨m, nd, nm, dp, dot, dig, tr⟩ c := fun c hc => by rw [hc, ← HS.out]; rfl
   have HNX := hid hnx;clear hnx;by_cases hkP : k = P
   ·subst hkP
    rcases HE.out with ⟨h1, _⟩ | ⟨q, neg, ⟨h1, h2, _⟩, _⟩
    ·have hlt : decide ((k : Int) < s.size) = false := decide_eq_false (by omega)
     go_wp2_with fail
     go_meet;exact ⟨m, nd, nm, dp, dot, dig, tr, rfl, rfl, rfl, HS, HA⟩
    ·have hlt : decide ((k : Int) < s.size) = true := decide_eq_true (by omega);rw [bt_of_lt h1] at h2;have c1 : ((s[k].toNat : Int) == 95) = false := (by simp; omega);have c2 : ((s[k].toNat : Int) == 46) = false := (by simp; omega);have c3 : decide ((48 : Int) ≤ s[k].toNat) = true := decide_eq_true (by omega);have c4 : decide ((s[k].toNat : Int) ≤ 57) = false := decide_eq_false (by omega);clear h2
     go_wp2_with fail
     go_meet;exact ⟨m, nd, nm, dp, dot, dig, tr, rfl, rfl, rfl, HS, HA⟩
   ·have hkP' : k < P := (by omega);have hks : k < s.size := (by omega);have hlt : decide ((k : Int) < s.size) = true := decide_eq_true (by omega);have hc := HDIG.out k hkP';rw [bt_of_lt hks, HS.out] at hc;have HNX1 := hid (HNX.out _ (bt_of_lt hks).symm);clear HNX;obtain ⟨C1, hw1, hr1, hd1⟩ := HA.out;have k0 : wr.cell? ⟨b, 800, none⟩ = some (.int .i64 nd) := (hw1.cell 800).trans hr1.cnd;have k1 : wr.cell? ⟨b, 801, none⟩ = some (.int .i64 dp) := (hw1.cell 801).trans hr1.cdp;have l0 := hw1.free 800;have l1 := hw1.free 801
    rcases hc with ⟨hc, hdot⟩ | ⟨hc1, hc2⟩
    ·replace hdot : dot = false := hdot;subst hdot;have c1 : ((s[k].toNat : Int) == 95) = false := (by simp; omega);have c2 : ((s[k].toNat : Int) == 46) = true := (by simp; omega);have HC := hid hc;have hset := (hw1.set 801 (.int .i64 nd));have HNW : Hid (DSetAt W (wr.setCell ⟨b, 801, none⟩ (.int .i64 nd)) b s (k + 1) nd nd) := hid ⟨_, hset, hr1.setDp nd, by rw [fdig_dot (by rw [bt_of_lt hks]; exact hc)]; exact hd1.other (by omega) (by rw [hr1.size]; decide)⟩;clear hc hset hw1 hr1 hd1 HA
     go_wp2_with fail
     refine ⟨⟨k + 1, m, nd, nm, nd, true, dig, tr, by omega, by go_num, rfl, rfl, hid ?_, HNW⟩, ?_⟩
     ·rw [HNX1.out, HC.out];rfl
     ·simp only [RowKit.intOf];omega
    ·have c1 : ((s[k].toNat : Int) == 95) = false := (by simp; omega);have c2 : ((s[k].toNat : Int) == 46) = false := (by simp; omega);have c3 : decide ((48 : Int) ≤ s[k].toNat) = true := decide_eq_true (by omega);have c4 : decide ((s[k].toNat : Int) ≤ 57) = true := decide_eq_true (by omega);have n46 : s[k].toNat ≠ 46 := (by omega);have N46 := hid n46;have hfd := fdig_dig (s := s) (k := k) (by rw [bt_of_lt hks]; exact n46);rw [bt_of_lt hks] at hfd;have HFD := hid hfd;clear n46 hfd;by_cases h48 : s[k].toNat = 48 ∧ nd = 0
     ·obtain ⟨h48, h0⟩ := h48;have c5 : ((s[k].toNat : Int) == 48) = true := (by simp; omega);have H48 := hid h48;subst h0;have hset := (hw1.set 801 (.int .i64 (dp - 1)));have HNW : Hid (DSetAt W (wr.setCell ⟨b, 801, none⟩ (.int .i64 (dp - 1))) b s (k + 1) 0 (dp - 1)) := hid ⟨_, hset, hr1.setDp _, fun i hi => absurd hi (by omega)⟩;clear h48 hset hw1 hr1 hd1 HA
      go_wp2_with fail
      refine ⟨⟨k + 1, m, 0, nm, dp - 1, dot, true, tr, by omega, by go_num, rfl, rfl, hid ?_, HNW⟩, ?_⟩
      ·rw [HNX1.out, H48.out];rfl
      ·simp only [RowKit.intOf];omega
     ·have H48 := hid h48
      have hsp : (((s[k].toNat : Int) == 48) = true ∧ ((nd : Int) == 0) = false) ∨ ((s[k].toNat : Int) == 48) = false := by
       by_cases e : s[k].toNat = 48
       ·exact .inl ⟨by simp; omega, by simp; omega⟩
       ·exact .inr (by simp; omega)
      have hnd8 : decide ((nd : Int) < 800) = true := decide_eq_true (by omega);obtain ⟨z, hz1, hz2⟩ := hr1.any nd (by omega);have kn : wr.cell? ⟨b, nd, none⟩ = some (.int .u8 z) := (hw1.cell nd).trans hz1;have ln := hw1.free nd;obtain ⟨g, hg⟩ : ∃ g : Nat, s[k].toNat = 48 + g := ⟨s[k].toNat - 48, by omega⟩
      have hnw : DSetAt W (((wr.setCell ⟨b, nd, none⟩ (.int .u8 (s[k].toNat : Int))).setCell ⟨b, 800, none⟩ (.int .i64 ((nd : Int) + 1))).drew) b s (k + 1) (nd + 1) dp := by
       have h1 := (hw1.set nd (.int .u8 (s[k].toNat : Int))).set 800 (.int .i64 ((nd : Int) + 1));refine ⟨_, ⟨⟨h1.1.os, h1.1.tape, h1.1.output, h1.1.size, h1.1.block⟩, h1.2⟩, (hr1.digit (i := nd) (z := s[k].toNat) (by omega) (by omega)).setNd (nd + 1), ?_⟩;rw [HFD.out, hg, show 48 + g - 48 = g by omega];exact (hd1.push (g := g) (by omega) (by rw [hr1.size]; omega)).other (by omega) (by simp [hr1.size])
      have HNW := hid hnw
      have HST : Hid (∃ m' nm' tr', NR.step ⟨m, nd, nm, dp, dot, dig, tr⟩ s[k].toNat = ⟨m', nd + 1, nm', dp, dot, true, tr'⟩) := hid (by
       unfold NR.step;rw [if_neg N46.out, if_neg H48.out];split
       ·exact ⟨_, _, _, rfl⟩
       ·exact ⟨_, _, _, rfl⟩)
      have hn7 : nd ≤ 700 := (by omega);have hdpb : -700 ≤ dp ∧ dp ≤ 700 := (by omega);clear h48 hw1 hr1 hd1 HA hnw hg hz1 hc1 hc2 g5 g6
      rcases hsp with ⟨c5, c6⟩ | c5
      ·go_wp2_with fail
       go_region
       go_wp2_with fail
       obtain ⟨m', nm', tr', hst⟩ := HST.out;refine ⟨⟨k + 1, m', nd + 1, nm', dp, dot, true, tr', by omega, by go_num, rfl, rfl, hid (HNX1.out.trans hst), HNW⟩, ?_⟩;simp only [RowKit.intOf];omega
      ·go_wp2_with fail
       go_region
       go_wp2_with fail
       obtain ⟨m', nm', tr', hst⟩ := HST.out;refine ⟨⟨k + 1, m', nd + 1, nm', dp, dot, true, tr', by omega, by go_num, rfl, rfl, hid (HNX1.out.trans hst), HNW⟩, ?_⟩;simp only [RowKit.intOf];omega
 case rest =>
  obtain ⟨m, nd, nm, dp, dot, dig, tr, rfl, rfl, rfl, HS, HA⟩ := hcut;have hdg := HSAW.out;rw [HS.out] at hdg;replace hdg : dig = true := hdg;subst hdg;have hbd := scan_bound HDIG.out P (Nat.le_refl _);rw [HS.out] at hbd;obtain ⟨g1, g2, g3, g4, g5, g6⟩ := hbd;replace g1 : nd ≤ P := g1;clear g2 g3 g4;replace g5 : -(P : Int) ≤ dp := g5;replace g6 : dp ≤ P := g6;obtain ⟨D, hD⟩ : ∃ D, D = dpt ⟨m, nd, nm, dp, dot, true, tr⟩ := ⟨_, rfl⟩;have HD := hid hD
  have hD1 : -700 ≤ D ∧ D ≤ 700 := by
   rw [hD];unfold dpt;split
   ·show -700 ≤ dp ∧ dp ≤ 700;omega
   ·show -700 ≤ (nd : Int) ∧ (nd : Int) ≤ 700;omega
  clear hD
  go_upto_if 120 with fail
  go_cut [] from 121 to 127 (fun wx => Hid (DSetAt W wx b s P nd D))
  case first =>
   obtain ⟨C1, hw1, hr1, hd1⟩ := HA.out;have k0 : wc.cell? ⟨b, 800, none⟩ = some (.int .i64 nd) := (hw1.cell 800).trans hr1.cnd;have k1 : wc.cell? ⟨b, 801, none⟩ = some (.int .i64 dp) := (hw1.cell 801).trans hr1.cdp;have l0 := hw1.free 800;have l1 := hw1.free 801
   cases dot with
   | true =>
    have hDD : D = dp := HD.out;have HDD := hid hDD;clear hDD
    go_wp2_with fail
    go_meet;exact hid (by rw [HDD.out]; exact HA.out)
   | false =>
    have hDD : D = nd := HD.out;have HNW : Hid (DSetAt W (wc.setCell ⟨b, 801, none⟩ (.int .i64 nd)) b s P nd D) := hid ⟨_, hw1.set 801 _, by rw [hDD]; exact hr1.setDp nd, hd1.other (by omega) (by rw [hr1.size]; decide)⟩;clear hDD hw1 hr1 hd1
    go_wp2_with fail
    go_meet;exact HNW
  case rest =>
   have HA2 := hcut;clear HA
   go_upto_region 32 with fail
   go_cut [138] from 128 to 137 (fun v138 wx => v138 = .bool (decide (P < s.size)) ∧ wx = wc)
   case first =>
    rcases HE.out with ⟨h1, _⟩ | ⟨q, neg, ⟨h1, h2, _⟩, _⟩
    ·have hlt : decide ((P : Int) < s.size) = false := decide_eq_false (by omega)
     go_wp2_with fail
     go_meet;exact ⟨congrArg Value.bool (decide_eq_false (by omega)).symm, rfl⟩
    ·have hlt : decide ((P : Int) < s.size) = true := decide_eq_true (by omega);rw [bt_of_lt h1] at h2;have hl := low_e h2;clear h2
     go_wp2_with (go_at_call 143; refine (lower_any _ _).mono ?_; rintro e w' ⟨rfl, rfl⟩)
     go_meet;exact ⟨congrArg Value.bool (decide_eq_true (by omega)).symm, rfl⟩
   case rest =>
    obtain ⟨rfl, hwc⟩ := hcut;subst hwc;obtain ⟨wo, hwo⟩ : ∃ wo : World, wo = wc := ⟨_, rfl⟩;subst hwo
    go_upto_if 138 with fail
    go_cut [5] from 8 to 222 (fun v5 wx => v5 = .int .i64 s.size ∧ Hid (DSetAt W wx b s P nd (D + E)))
    case first =>
     rcases HE.out with ⟨h1, h2⟩ | ⟨q, neg, ⟨h1, h2, h3, h4, h5, h6⟩, h7⟩
     ·have hlt : decide (P < s.size) = false := decide_eq_false (by omega)
      go_wp2_with fail
      go_meet;exact ⟨congrArg (Value.int .i64) (by omega), hid (by rw [h2, Int.add_zero]; exact HA2.out)⟩
     ·have hlt : decide (P < s.size) = true := decide_eq_true (by omega);obtain ⟨C1, hw1, hr1, hd1⟩ := HA2.out;have k1 : wo.cell? ⟨b, 801, none⟩ = some (.int .i64 D) := (hw1.cell 801).trans hr1.cdp;have l1 := hw1.free 801;have HNW : Hid (∀ x, x = D + E → DSetAt W (wo.setCell ⟨b, 801, none⟩ (.int .i64 x)) b s P nd (D + E)) := hid (fun x hx => ⟨_, hw1.set 801 _, by rw [hx]; exact hr1.setDp _, hd1.other (by omega) (by rw [hr1.size]; decide)⟩);clear hw1 hr1 hd1;have H5 := hid h5;have H7 := hid h7;have hq : decide ((s.size : Int) ≤ q) = false := decide_eq_false (by omega);have hq0 := h5 q (Nat.le_refl _) h3;unfold isD at hq0;rw [bt_of_lt h3] at hq0;obtain ⟨hq1, hq2⟩ := hq0;have d1 : decide ((s[q].toNat : Int) < 48) = false := decide_eq_false (by omega);have d2 : decide ((57 : Int) < s[q].toNat) = false := decide_eq_false (by omega)
      have hP1' : P + 1 < s.size := by rcases h6 with ⟨e, _⟩ | ⟨e, _⟩ | ⟨e, _⟩ <;> omega
      have hle1 : decide ((s.size : Int) ≤ (P : Int) + 1) = false := decide_eq_false (by omega);have hb1 := bt_of_lt hP1';clear h2 h5 h7
      rcases h6 with ⟨rfl, rfl⟩ | ⟨rfl, h6, rfl⟩ | ⟨rfl, h6, rfl⟩
      ·have e43 : ((s[P + 1].toNat : Int) == 43) = false := (by simp; omega);have e45 : ((s[P + 1].toNat : Int) == 45) = false := (by simp; omega);clear hq1 hq2
       go_wp2_with fail
       go_loopw [5, 9] (fun v5 v9 wx => wx = wo ∧ ∃ t : Nat, (P + 1) + t ≤ s.size ∧ v5 = .int .i64 (((P + 1) + t : Nat) : Int) ∧ v9 = .int .i64 ((evs s (P + 1) t : Nat) : Int)) (fun v5 _ _ => s.size - (RowKit.intOf v5).toNat)
       case atStart => exact ⟨rfl, 0, by omega, congrArg (Value.int .i64) (by omega), rfl⟩
       case round =>
        obtain ⟨rfl, t, ht, rfl, rfl⟩ := hrel;have hsm : evs s (P + 1) t < 1000 := evs_small (fun k h1 h2 => H5.out k h1 (by omega)) (by omega);by_cases he : (P + 1) + t = s.size
        ·have hl : decide ((((P + 1) + t : Nat) : Int) < s.size) = false := decide_eq_false (by omega)
         have hev : expI s (P + 1) false = (evs s (P + 1) t : Int) := by
          unfold expI;rw [← he, Nat.add_sub_cancel_left];rfl
         have HEV := hid hev;clear hev
         go_wp2_with fail
         go_meet;exact ⟨congrArg (Value.int .i64) (by omega), hid (HNW.out _ (by rw [H7.out, HEV.out]))⟩
        ·have hkk : (P + 1) + t < s.size := (by omega);have hl : decide ((((P + 1) + t : Nat) : Int) < s.size) = true := decide_eq_true (by omega);have hb := H5.out ((P + 1) + t) (by omega) hkk;unfold isD at hb;have HN : Hid (evs s (P + 1) (t + 1) = evs s (P + 1) t * 10 + (bt s ((P + 1) + t) - 48)) := hid rfl;rw [bt_of_lt hkk] at hb HN;obtain ⟨b1, b2⟩ := hb;have c1 : decide ((48 : Int) ≤ s[(P + 1) + t].toNat) = true := decide_eq_true (by omega);have c2 : decide ((s[(P + 1) + t].toNat : Int) ≤ 57) = true := decide_eq_true (by omega);have c3 : ((s[(P + 1) + t].toNat : Int) == 95) = false := (by simp; omega);have c4 : decide (((evs s (P + 1) t : Nat) : Int) < 10000) = true := decide_eq_true (by omega)
         go_wp2_with fail
         refine ⟨⟨trivial, t + 1, by omega, congrArg (Value.int .i64) (by omega), congrArg (Value.int .i64) (by rw [HN.out]; omega)⟩, ?_⟩;simp only [RowKit.intOf];omega
      ·rw [hb1] at h6;have e43 : ((s[P + 1].toNat : Int) == 43) = true := (by simp; omega);clear h6 hq1 hq2
       go_wp2_with fail
       go_loopw [5, 9] (fun v5 v9 wx => wx = wo ∧ ∃ t : Nat, (P + 2) + t ≤ s.size ∧ v5 = .int .i64 (((P + 2) + t : Nat) : Int) ∧ v9 = .int .i64 ((evs s (P + 2) t : Nat) : Int)) (fun v5 _ _ => s.size - (RowKit.intOf v5).toNat)
       case atStart => exact ⟨rfl, 0, by omega, congrArg (Value.int .i64) (by omega), rfl⟩
       case round =>
        obtain ⟨rfl, t, ht, rfl, rfl⟩ := hrel;have hsm : evs s (P + 2) t < 1000 := evs_small (fun k h1 h2 => H5.out k h1 (by omega)) (by omega);by_cases he : (P + 2) + t = s.size
        ·have hl : decide ((((P + 2) + t : Nat) : Int) < s.size) = false := decide_eq_false (by omega)
         have hev : expI s (P + 2) false = (evs s (P + 2) t : Int) := by
          unfold expI;rw [← he, Nat.add_sub_cancel_left];rfl
         have HEV := hid hev;clear hev
         go_wp2_with fail
         go_meet;exact ⟨congrArg (Value.int .i64) (by omega), hid (HNW.out _ (by rw [H7.out, HEV.out]))⟩
        ·have hkk : (P + 2) + t < s.size := (by omega);have hl : decide ((((P + 2) + t : Nat) : Int) < s.size) = true := decide_eq_true (by omega);have hb := H5.out ((P + 2) + t) (by omega) hkk;unfold isD at hb;have HN : Hid (evs s (P + 2) (t + 1) = evs s (P + 2) t * 10 + (bt s ((P + 2) + t) - 48)) := hid rfl;rw [bt_of_lt hkk] at hb HN;obtain ⟨b1, b2⟩ := hb;have c1 : decide ((48 : Int) ≤ s[(P + 2) + t].toNat) = true := decide_eq_true (by omega);have c2 : decide ((s[(P + 2) + t].toNat : Int) ≤ 57) = true := decide_eq_true (by omega);have c3 : ((s[(P + 2) + t].toNat : Int) == 95) = false := (by simp; omega);have c4 : decide (((evs s (P + 2) t : Nat) : Int) < 10000) = true := decide_eq_true (by omega)
         go_wp2_with fail
         refine ⟨⟨trivial, t + 1, by omega, congrArg (Value.int .i64) (by omega), congrArg (Value.int .i64) (by rw [HN.out]; omega)⟩, ?_⟩;simp only [RowKit.intOf];omega
      ·rw [hb1] at h6;have e43 : ((s[P + 1].toNat : Int) == 43) = false := (by simp; omega);have e45 : ((s[P + 1].toNat : Int) == 45) = true := (by simp; omega);clear h6 hq1 hq2
       go_wp2_with fail
       go_loopw [5, 9] (fun v5 v9 wx => wx = wo ∧ ∃ t : Nat, (P + 2) + t ≤ s.size ∧ v5 = .int .i64 (((P + 2) + t : Nat) : Int) ∧ v9 = .int .i64 ((evs s (P + 2) t : Nat) : Int)) (fun v5 _ _ => s.size - (RowKit.intOf v5).toNat)
       case atStart => exact ⟨rfl, 0, by omega, congrArg (Value.int .i64) (by omega), rfl⟩
       case round =>
        obtain ⟨rfl, t, ht, rfl, rfl⟩ := hrel;have hsm : evs s (P + 2) t < 1000 := evs_small (fun k h1 h2 => H5.out k h1 (by omega)) (by omega);by_cases he : (P + 2) + t = s.size
        ·have hl : decide ((((P + 2) + t : Nat) : Int) < s.size) = false := decide_eq_false (by omega)
         have hev : expI s (P + 2) true = -(evs s (P + 2) t : Int) := by
          unfold expI;rw [← he, Nat.add_sub_cancel_left];rfl
         have HEV := hid hev;clear hev
         go_wp2_with fail
         go_meet;exact ⟨congrArg (Value.int .i64) (by omega), hid (HNW.out _ (by rw [H7.out, HEV.out]))⟩
        ·have hkk : (P + 2) + t < s.size := (by omega);have hl : decide ((((P + 2) + t : Nat) : Int) < s.size) = true := decide_eq_true (by omega);have hb := H5.out ((P + 2) + t) (by omega) hkk;unfold isD at hb;have HN : Hid (evs s (P + 2) (t + 1) = evs s (P + 2) t * 10 + (bt s ((P + 2) + t) - 48)) := hid rfl;rw [bt_of_lt hkk] at hb HN;obtain ⟨b1, b2⟩ := hb;have c1 : decide ((48 : Int) ≤ s[(P + 2) + t].toNat) = true := decide_eq_true (by omega);have c2 : decide ((s[(P + 2) + t].toNat : Int) ≤ 57) = true := decide_eq_true (by omega);have c3 : ((s[(P + 2) + t].toNat : Int) == 95) = false := (by simp; omega);have c4 : decide (((evs s (P + 2) t : Nat) : Int) < 10000) = true := decide_eq_true (by omega)
         go_wp2_with fail
         refine ⟨⟨trivial, t + 1, by omega, congrArg (Value.int .i64) (by omega), congrArg (Value.int .i64) (by rw [HN.out]; omega)⟩, ?_⟩;simp only [RowKit.intOf];omega
    case rest =>
     obtain ⟨rfl, HA3⟩ := hcut;clear HA2
     go_wp2_with fail
     go_ret;refine ⟨rfl, ?_⟩;have h := HA3.out;rw [HD.out] at h;rw [HS.out];exact h
end Go.Proofs.YtlblkajnmdhmdaaGreatDoor
