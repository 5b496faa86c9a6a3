/-
  Walk: the library's readFloat at a decimal numeral.
-/
import Derived.Test.YtlblkajnmdhmdaaGreatDoorZNRead
import Derived.Test.YtlblkajnmdhmdaaGreatDoorProg
import Derived.WalkKit
import Derived.WalkSpells
import Derived.WalkLawsBesides
import Derived.BigRegion
import Derived.BigQuiet
import Derived.Deep.QuietTactic
import Derived.RegionTactic
import Derived.Deep.RegionLaw
import Derived.Deep.CutRange
import Derived.Deep.DeepMust
import Derived.Handy
import Derived.Deep.CutBlock
import Derived.Deep.DeepCutAuto
import Derived.Lib.Hide
namespace Go.Proofs.YtlblkajnmdhmdaaGreatDoor
set_option linter.unusedVariables false
open Go.RowKit Lib NR
/-- lower's word. -/
def lowI (c : Int) : Int := bits .or .u8 c 32
theorem lower_any (c : Int) (w : World) : Calls Tryz.prog 143 #[.int .u8 c] w fun e w' => e = .returned (.int .u8 (lowI c)) ∧ w = w' := by
 go_enter Tryz.func143, Tryz.ntmps143;go_wp2;go_ret;exact ⟨rfl, rfl⟩
set_option maxRecDepth 100000 in
theorem lowI_x : ∀ c : Fin 256, (lowI ((c.val : Nat) : Int) == 120) = (c.val == 88 || c.val == 120) := by decide
theorem low_x {c : Nat} (h : c < 256) (h1 : c ≠ 88) (h2 : c ≠ 120) : (lowI (c : Int) == 120) = false := by
 have := lowI_x ⟨c, h⟩;simp only [beq_eq_false_iff_ne.2 h1, beq_eq_false_iff_ne.2 h2] at this;exact this
theorem low_e {c : Nat} (h : c = 101 ∨ c = 69) : (lowI (c : Int) == 101) = true := by
 rcases h with rfl | rfl <;> decide
theorem results_tmp7 {fn : Func} {t0 t1 t2 t3 t4 t5 t6 : Tmp} (h : fn.results = #[.tmp t0, .tmp t1, .tmp t2, .tmp t3, .tmp t4, .tmp t5, .tmp t6]) (tmps : Array Value) (P : Program) (w : World) :
  (results fn tmps).run P w = .ok (.tuple #[tmps.getD t0 undef, tmps.getD t1 undef, tmps.getD t2 undef, tmps.getD t3 undef, tmps.getD t4 undef, tmps.getD t5 undef, tmps.getD t6 undef]) w := by
 simp [results, h]
def readRes (r : RS) (E : Int) (n : Nat) : Ending := .returned (.tuple #[.int .u64 r.m, .int .i64 (expOf r E), .bool false, .bool r.tr, .bool false, .int .i64 n, .bool true])
set_option maxRecDepth 100000 in
set_option maxHeartbeats 4000000 in
theorem readFloat_walk (s : ByteArray) (P : Nat) (E : Int) (w : World) (hs : s.size ≤ 1000) (hD : Digs s P) (hE : (P = s.size ∧ E = 0) ∨ ∃ q neg, HasExp s P q neg ∧ E = expI s q neg) :
  Calls Tryz.prog 183 #[.string s] w fun e w' => e = readRes (scan s P) E s.size ∧ w = w' := by
 obtain ⟨hP1, hP2, hdig, hsaw⟩ := hD;have HDIG := hid hdig;have HSAW := hid hsaw;have HE := hid hE;have hs0 : 0 < s.size := (by omega);have hc0 : bt s 0 = 46 ∨ isD (bt s 0) := (hdig 0 (by omega)).imp And.left id;have hb0 := bt_of_lt hs0;have hd0 : decide (s = ByteArray.empty) = false := decide_eq_false (fun h => by rw [h] at hs0; simp at hs0);have h43 : ((s[0].toNat : Int) == 43) = false := (by rw [← hb0]; unfold isD at hc0; simp; omega);have h45 : ((s[0].toNat : Int) == 45) = false := (by rw [← hb0]; unfold isD at hc0; simp; omega)
 have hx : (2 : Int) < s.size → ∃ h : 1 < s.size, (lowI ((s[1].toNat : Nat) : Int) == 120) = false := by
  intro h;refine ⟨by omega, ?_⟩;rw [← bt_of_lt (by omega)]
  have : bt s 1 = 46 ∨ isD (bt s 1) ∨ bt s 1 = 101 ∨ bt s 1 = 69 := by
   by_cases h1 : 1 < P
   ·rcases hdig 1 h1 with h | h
    ·exact .inl h.1
    ·exact .inr (.inl h)
   ·rcases hE with ⟨h2, _⟩ | ⟨q, neg, hq, _⟩
    ·omega
    ·have e1 : P = 1 := (by omega);subst e1;exact .inr (.inr hq.2.1)
  unfold isD at this;exact low_x (bt_lt _ _) (by omega) (by omega)
 clear hdig hsaw hE hc0 hb0;go_enter Tryz.func183, Tryz.ntmps183
 go_wp2_with fail
 go_step3
 go_upto_region 12 with fail
 go_cut [54] from 36 to 53 (fun v54 wx => v54 = .bool false ∧ wx = w)
 case first =>
  by_cases h2 : (2 : Int) < s.size
  ·obtain ⟨h1, hlow⟩ := hx h2;have hd2 : decide ((2 : Int) < s.size) = true := decide_eq_true h2;by_cases h48 : (((s[0]'hs0).toNat : Int) == 48) = true
   ·go_wp2_with (go_at_call 143; refine (lower_any _ _).mono ?_; rintro e w' ⟨rfl, rfl⟩)
    go_meet;exact ⟨rfl, rfl⟩
   ·have h48' := Bool.eq_false_iff.2 h48
    go_wp2_with fail
    go_meet;exact ⟨rfl, rfl⟩
  ·have hd2 : decide ((2 : Int) < s.size) = false := decide_eq_false h2
   go_wp2_with fail
   go_meet;exact ⟨rfl, rfl⟩
 case rest =>
  obtain ⟨rfl, rfl⟩ := hcut
  go_wp2_with fail
  go_step3
  go_upto_block 1 with fail
  go_cut [2, 5, 7, 9, 13, 14, 15, 16, 17, 18] from 57 to 138 (fun v2 v5 v7 v9 v13 v14 v15 v16 v17 v18 wx => wx = wc ∧ v9 = .bool false ∧ ∃ (m nd nm : Nat) (dp : Int) (dot dig tr : Bool), v2 = .int .u64 m ∧ v5 = .bool tr ∧ v7 = .int .i64 P ∧ v13 = .bool dot ∧ v14 = .bool dig ∧ v15 = .int .i64 nd ∧ v16 = .int .i64 nm ∧ v17 = .int .i64 dp ∧ Hid (scan s P = ⟨m, nd, nm, dp, dot, dig, tr⟩))
  case first =>
   go_wp2_with fail
   go_loopw [2, 5, 7, 9, 13, 14, 15, 16, 17, 18] (fun v2 v5 v7 v9 v13 v14 v15 v16 v17 v18 wx => wx = wc ∧ v9 = .bool false ∧ ∃ (k m nd nm : Nat) (dp : Int) (dot dig tr : Bool), k ≤ P ∧ v2 = .int .u64 m ∧ v5 = .bool tr ∧ v7 = .int .i64 k ∧ v13 = .bool dot ∧ v14 = .bool dig ∧ v15 = .int .i64 nd ∧ v16 = .int .i64 nm ∧ v17 = .int .i64 dp ∧ Hid (scan s k = ⟨m, nd, nm, dp, dot, dig, tr⟩)) (fun _ _ v7 _ _ _ _ _ _ _ _ => P - (RowKit.intOf v7).toNat)
   case atStart =>
    exact ⟨rfl, rfl, 0, 0, 0, 0, 0, false, false, false, by omega, rfl, rfl, rfl, rfl, rfl, rfl, rfl, rfl, hid rfl⟩
   case round =>
    obtain ⟨rfl, rfl, k, m, nd, nm, dp, dot, dig, tr, hk, rfl, rfl, rfl, rfl, rfl, rfl, rfl, rfl, HS⟩ := hrel;have hbd := scan_bound HDIG.out k hk;rw [HS.out] at hbd;obtain ⟨g1, g2, g3, g4, g5, g6⟩ := hbd;replace g1 : nd ≤ k := g1;replace g2 : nm ≤ nd := g2;replace g3 : nm ≤ 19 := g3;replace g4 : Hid (m < 10 ^ nm) := hid g4;replace g5 : -(k : Int) ≤ dp := g5;replace g6 : dp ≤ k := g6;have hnx : ∀ c, c = bt s k → scan s (k + 1) = NR.step ⟨m, nd, nm, dp, dot, dig, tr⟩ c := fun c hc => by rw [hc, ← HS.out]; rfl
    have HNX := hid hnx;clear hnx;by_cases hkP : k = P
    ·subst hkP
     rcases HE.out with ⟨h1, _⟩ | ⟨q, neg, ⟨h1, h2, _⟩, _⟩
     ·have hlt : decide ((k : Int) < s.size) = false := decide_eq_false (by omega)
      go_wp2_with fail
      go_meet;exact ⟨rfl, rfl, m, nd, nm, dp, dot, dig, tr, rfl, rfl, rfl, rfl, rfl, rfl, rfl, rfl, HS⟩
     ·have hlt : decide ((k : Int) < s.size) = true := decide_eq_true (by omega);rw [bt_of_lt h1] at h2;have c1 : ((s[k].toNat : Int) == 95) = false := (by simp; omega);have c2 : ((s[k].toNat : Int) == 46) = false := (by simp; omega);have c3 : decide ((48 : Int) ≤ s[k].toNat) = true := decide_eq_true (by omega);have c4 : decide ((s[k].toNat : Int) ≤ 57) = false := decide_eq_false (by omega);clear h2
      go_wp2_with fail
      go_meet;exact ⟨rfl, rfl, m, nd, nm, dp, dot, dig, tr, rfl, rfl, rfl, rfl, rfl, rfl, rfl, rfl, HS⟩
    ·have hkP' : k < P := (by omega);have hks : k < s.size := (by omega);have hlt : decide ((k : Int) < s.size) = true := decide_eq_true (by omega);have hc := HDIG.out k hkP';rw [bt_of_lt hks, HS.out] at hc;have HNX1 := hid (HNX.out _ (bt_of_lt hks).symm);clear HNX
     have fin : ∀ (m' nd' nm' : Nat) (dp' : Int) (dot' dig' tr' : Bool) (x y z : Int), x = m' → y = nd' → z = nm' → scan s (k + 1) = ⟨m', nd', nm', dp', dot', dig', tr'⟩ → (True ∧ Value.bool false = .bool false ∧ ∃ (k1 m nd nm : Nat) (dp : Int) (dot dig tr : Bool), k1 ≤ P ∧ Value.int .u64 x = .int .u64 m ∧ Value.bool tr' = .bool tr ∧ Value.int .i64 ((k : Int) + 1) = .int .i64 k1 ∧ Value.bool dot' = .bool dot ∧ Value.bool dig' = .bool dig ∧ Value.int .i64 y = .int .i64 nd ∧ Value.int .i64 z = .int .i64 nm ∧ Value.int .i64 dp' = .int .i64 dp ∧ Hid (scan s k1 = ⟨m, nd, nm, dp, dot, dig, tr⟩)) ∧ P - (RowKit.intOf (.int .i64 ((k : Int) + 1))).toNat < P - (RowKit.intOf (.int .i64 (k : Int))).toNat :=
      fun m' nd' nm' dp' dot' dig' tr' x y z hx hy hz h => ⟨⟨trivial, rfl, k + 1, m', nd', nm', dp', dot', dig', tr', by omega, by rw [hx], rfl, rfl, rfl, rfl, by rw [hy], by rw [hz], rfl, hid h⟩, by show P - ((k : Int) + 1).toNat < P - ((k : Int)).toNat; omega⟩
     have FIN := hid fin;clear fin
     rcases hc with ⟨hc, hdot⟩ | ⟨hc1, hc2⟩
     ·replace hdot : dot = false := hdot;subst hdot;have c1 : ((s[k].toNat : Int) == 95) = false := (by simp; omega);have c2 : ((s[k].toNat : Int) == 46) = true := (by simp; omega);have HC := hid hc;clear hc
      go_wp2_with fail
      refine FIN.out _ _ _ _ _ _ _ _ _ _ rfl rfl rfl ?_;rw [HNX1.out, HC.out];rfl
     ·have c1 : ((s[k].toNat : Int) == 95) = false := (by simp; omega);have c2 : ((s[k].toNat : Int) == 46) = false := (by simp; omega);have c3 : decide ((48 : Int) ≤ s[k].toNat) = true := decide_eq_true (by omega);have c4 : decide ((s[k].toNat : Int) ≤ 57) = true := decide_eq_true (by omega);have n46 : s[k].toNat ≠ 46 := (by omega);have N46 := hid n46;clear n46;by_cases h48 : s[k].toNat = 48 ∧ nd = 0
      ·obtain ⟨h48, h0⟩ := h48;have c5 : ((s[k].toNat : Int) == 48) = true := (by simp; omega);have H48 := hid h48;subst h0;clear h48
       go_wp2_with fail
       refine FIN.out _ _ _ _ _ _ _ _ _ _ rfl rfl rfl ?_;rw [HNX1.out, H48.out];rfl
      ·have H48 := hid h48
       have hsp : (((s[k].toNat : Int) == 48) = true ∧ ((nd : Int) == 0) = false) ∨ ((s[k].toNat : Int) == 48) = false := by
        by_cases e : s[k].toNat = 48
        ·exact .inl ⟨by simp; omega, by simp; omega⟩
        ·exact .inr (by simp; omega)
       clear h48;by_cases hnm : nm < 19
       ·have hnm' : decide ((nm : Int) < 19) = true := decide_eq_true (by omega);have hm := m_lt g4.out hnm
        have stp : NR.step ⟨m, nd, nm, dp, dot, dig, tr⟩ s[k].toNat = ⟨m * 10 + (s[k].toNat - 48), nd + 1, nm + 1, dp, dot, true, tr⟩ := by
         unfold NR.step;rw [if_neg N46.out, if_neg H48.out, if_pos hnm]
        have STP := hid stp;clear stp
        rcases hsp with ⟨c5, c6⟩ | c5
        all_goals
         go_wp2_with fail
         have e1 : ((m : Int) * 10 + ((s[k].toNat : Int) - 48)) = ((m * 10 + (s[k].toNat - 48) : Nat) : Int) := (by omega);rw [e1];refine FIN.out _ (nd + 1) (nm + 1) _ _ _ _ _ _ _ rfl rfl rfl ?_;rw [HNX1.out, STP.out]
       ·have hnm' : decide ((nm : Int) < 19) = false := decide_eq_false (by omega)
        have stp : NR.step ⟨m, nd, nm, dp, dot, dig, tr⟩ s[k].toNat = ⟨m, nd + 1, nm, dp, dot, true, tr || !(s[k].toNat == 48)⟩ := by
         unfold NR.step;rw [if_neg N46.out, if_neg H48.out, if_neg hnm]
        have STP := hid stp;clear stp
        rcases hsp with ⟨c5, c6⟩ | c5
        ·have c7 : (s[k].toNat == 48) = true := (by simp at c5 ⊢; omega);rw [c7] at STP
         go_wp2_with fail
         refine FIN.out _ (nd + 1) _ _ _ _ _ _ _ _ rfl rfl rfl ?_;rw [HNX1.out, STP.out];simp
        ·have c7 : (s[k].toNat == 48) = false := (by simp at c5 ⊢; omega);rw [c7] at STP
         go_wp2_with fail
         refine FIN.out _ (nd + 1) _ _ _ _ _ _ _ _ rfl rfl rfl ?_;rw [HNX1.out, STP.out];simp
  case rest =>
   obtain ⟨rfl, rfl, m, nd, nm, dp, dot, dig, tr, rfl, rfl, rfl, rfl, rfl, rfl, rfl, rfl, HS⟩ := hcut;have hdg := HSAW.out;rw [HS.out] at hdg;replace hdg : dig = true := hdg;subst hdg;have hbd := scan_bound HDIG.out P (Nat.le_refl _);rw [HS.out] at hbd;obtain ⟨g1, g2, g3, g4, g5, g6⟩ := hbd;replace g1 : nd ≤ P := g1;replace g2 : nm ≤ nd := g2;replace g3 : nm ≤ 19 := g3;replace g4 : Hid (m < 10 ^ nm) := hid g4;replace g5 : -(P : Int) ≤ dp := g5;replace g6 : dp ≤ P := g6;obtain ⟨D, hD⟩ : ∃ D, D = dpt ⟨m, nd, nm, dp, dot, true, tr⟩ := ⟨_, rfl⟩;have HD := hid hD
   have hD1 : -1000 ≤ D ∧ D ≤ 1000 := by
    rw [hD];unfold dpt;split
    ·show -1000 ≤ dp ∧ dp ≤ 1000;omega
    ·show -1000 ≤ (nd : Int) ∧ (nd : Int) ≤ 1000;omega
   clear hD
   go_upto_if 142 with fail
   go_cut [17] from 142 to 143 (fun v17 wx => v17 = .int .i64 D ∧ wx = wc)
   case first =>
    cases dot
    all_goals
     go_wp2_with fail
     go_meet;exact ⟨congrArg (Value.int .i64) HD.out.symm, rfl⟩
   case rest =>
    obtain ⟨rfl, rfl⟩ := hcut
    go_upto_region 57 with fail
    go_cut [161] from 150 to 160 (fun v161 wx => v161 = .bool (decide (P < s.size)) ∧ wx = wc)
    case first =>
     rcases HE.out with ⟨h1, _⟩ | ⟨q, neg, ⟨h1, h2, _⟩, _⟩
     ·have hlt : decide ((P : Int) < s.size) = false := decide_eq_false (by omega)
      go_wp2_with fail
      go_meet;exact ⟨congrArg Value.bool (decide_eq_false (by omega)).symm, rfl⟩
     ·have hlt : decide ((P : Int) < s.size) = true := decide_eq_true (by omega);rw [bt_of_lt h1] at h2;have hl := low_e h2;clear h2
      go_wp2_with (go_at_call 143; refine (lower_any _ _).mono ?_; rintro e w' ⟨rfl, rfl⟩)
      go_meet;exact ⟨congrArg Value.bool (decide_eq_true (by omega)).symm, rfl⟩
    case rest =>
     obtain ⟨rfl, rfl⟩ := hcut
     go_upto_if 161 with fail
     go_cut [7, 9, 17, 19, 20] from 161 to 239 (fun v7 v9 v17 v19 v20 wx => v7 = .int .i64 s.size ∧ v9 = .bool false ∧ v17 = .int .i64 (D + E) ∧ wx = wc)
     case first =>
      rcases HE.out with ⟨h1, h2⟩ | ⟨q, neg, ⟨h1, h2, h3, h4, h5, h6⟩, h7⟩
      ·have hlt : decide (P < s.size) = false := decide_eq_false (by omega)
       go_wp2_with fail
       go_meet;exact ⟨congrArg (Value.int .i64) (by omega), rfl, congrArg (Value.int .i64) (by omega), rfl⟩
      ·have hlt : decide (P < s.size) = true := decide_eq_true (by omega);have H5 := hid h5;have H7 := hid h7;have hq : decide ((s.size : Int) ≤ q) = false := decide_eq_false (by omega);have hq0 := h5 q (Nat.le_refl _) h3;unfold isD at hq0;rw [bt_of_lt h3] at hq0;obtain ⟨hq1, hq2⟩ := hq0;have d1 : decide ((s[q].toNat : Int) < 48) = false := decide_eq_false (by omega);have d2 : decide ((57 : Int) < s[q].toNat) = false := decide_eq_false (by omega)
       have hP1' : P + 1 < s.size := by rcases h6 with ⟨e, _⟩ | ⟨e, _⟩ | ⟨e, _⟩ <;> omega
       have hle1 : decide ((s.size : Int) ≤ (P : Int) + 1) = false := decide_eq_false (by omega);have hb1 := bt_of_lt hP1';clear h2 h5 h7;have hP2' : decide ((s.size : Int) ≤ (P : Int) + 1) = false := decide_eq_false (by omega)
       rcases h6 with ⟨rfl, rfl⟩ | ⟨rfl, h6, rfl⟩ | ⟨rfl, h6, rfl⟩
       ·have e43 : ((s[P + 1].toNat : Int) == 43) = false := (by simp; omega);have e45 : ((s[P + 1].toNat : Int) == 45) = false := (by simp; omega);clear hq1 hq2
        go_wp2_with fail
        go_loopw [7, 9, 20] (fun v7 v9 v20 wx => wx = wc ∧ v9 = .bool false ∧ ∃ t : Nat, (P + 1) + t ≤ s.size ∧ v7 = .int .i64 (((P + 1) + t : Nat) : Int) ∧ v20 = .int .i64 ((evs s (P + 1) t : Nat) : Int)) (fun v7 _ _ _ => s.size - (RowKit.intOf v7).toNat)
        case atStart => exact ⟨rfl, rfl, 0, by omega, congrArg (Value.int .i64) (by omega), rfl⟩
        case round =>
         obtain ⟨rfl, rfl, t, ht, rfl, rfl⟩ := hrel;have hsm : evs s (P + 1) t < 1000 := evs_small (fun k h1 h2 => H5.out k h1 (by omega)) (by omega);by_cases he : (P + 1) + t = s.size
         ·have hl : decide ((((P + 1) + t : Nat) : Int) < s.size) = false := decide_eq_false (by omega)
          have hev : expI s (P + 1) false = (evs s (P + 1) t : Int) := by
           unfold expI;rw [← he, Nat.add_sub_cancel_left];rfl
          have HEV := hid hev;clear hev
          go_wp2_with fail
          go_meet;exact ⟨congrArg (Value.int .i64) (by omega), rfl, congrArg (Value.int .i64) (by rw [H7.out, HEV.out]), rfl⟩
         ·have hkk : (P + 1) + t < s.size := (by omega);have hl : decide ((((P + 1) + t : Nat) : Int) < s.size) = true := decide_eq_true (by omega);have hb := H5.out ((P + 1) + t) (by omega) hkk;unfold isD at hb;have HN : Hid (evs s (P + 1) (t + 1) = evs s (P + 1) t * 10 + (bt s ((P + 1) + t) - 48)) := hid rfl;rw [bt_of_lt hkk] at hb HN;obtain ⟨b1, b2⟩ := hb;have c1 : decide ((48 : Int) ≤ s[(P + 1) + t].toNat) = true := decide_eq_true (by omega);have c2 : decide ((s[(P + 1) + t].toNat : Int) ≤ 57) = true := decide_eq_true (by omega);have c3 : ((s[(P + 1) + t].toNat : Int) == 95) = false := (by simp; omega);have c4 : decide (((evs s (P + 1) t : Nat) : Int) < 10000) = true := decide_eq_true (by omega)
          go_wp2_with fail
          refine ⟨⟨trivial, rfl, t + 1, by omega, congrArg (Value.int .i64) (by omega), congrArg (Value.int .i64) (by rw [HN.out]; omega)⟩, ?_⟩;show s.size - ((P : Int) + 1 + (t : Int) + 1).toNat < s.size - (((P + 1) + t : Nat) : Int).toNat;omega
       ·rw [hb1] at h6;have e43 : ((s[P + 1].toNat : Int) == 43) = true := (by simp; omega);clear h6 hq1 hq2
        go_wp2_with fail
        go_loopw [7, 9, 20] (fun v7 v9 v20 wx => wx = wc ∧ v9 = .bool false ∧ ∃ t : Nat, (P + 2) + t ≤ s.size ∧ v7 = .int .i64 (((P + 2) + t : Nat) : Int) ∧ v20 = .int .i64 ((evs s (P + 2) t : Nat) : Int)) (fun v7 _ _ _ => s.size - (RowKit.intOf v7).toNat)
        case atStart => exact ⟨rfl, rfl, 0, by omega, congrArg (Value.int .i64) (by omega), rfl⟩
        case round =>
         obtain ⟨rfl, rfl, t, ht, rfl, rfl⟩ := hrel;have hsm : evs s (P + 2) t < 1000 := evs_small (fun k h1 h2 => H5.out k h1 (by omega)) (by omega);by_cases he : (P + 2) + t = s.size
         ·have hl : decide ((((P + 2) + t : Nat) : Int) < s.size) = false := decide_eq_false (by omega)
          have hev : expI s (P + 2) false = (evs s (P + 2) t : Int) := by
           unfold expI;rw [← he, Nat.add_sub_cancel_left];rfl
          have HEV := hid hev;clear hev
          go_wp2_with fail
          go_meet;exact ⟨congrArg (Value.int .i64) (by omega), rfl, congrArg (Value.int .i64) (by rw [H7.out, HEV.out]), rfl⟩
         ·have hkk : (P + 2) + t < s.size := (by omega);have hl : decide ((((P + 2) + t : Nat) : Int) < s.size) = true := decide_eq_true (by omega);have hb := H5.out ((P + 2) + t) (by omega) hkk;unfold isD at hb;have HN : Hid (evs s (P + 2) (t + 1) = evs s (P + 2) t * 10 + (bt s ((P + 2) + t) - 48)) := hid rfl;rw [bt_of_lt hkk] at hb HN;obtain ⟨b1, b2⟩ := hb;have c1 : decide ((48 : Int) ≤ s[(P + 2) + t].toNat) = true := decide_eq_true (by omega);have c2 : decide ((s[(P + 2) + t].toNat : Int) ≤ 57) = true := decide_eq_true (by omega);have c3 : ((s[(P + 2) + t].toNat : Int) == 95) = false := (by simp; omega);have c4 : decide (((evs s (P + 2) t : Nat) : Int) < 10000) = true := decide_eq_true (by omega)
          go_wp2_with fail
          refine ⟨⟨trivial, rfl, t + 1, by omega, congrArg (Value.int .i64) (by omega), congrArg (Value.int .i64) (by rw [HN.out]; omega)⟩, ?_⟩;show s.size - ((P : Int) + 2 + (t : Int) + 1).toNat < s.size - (((P + 2) + t : Nat) : Int).toNat;omega
       ·rw [hb1] at h6;have e43 : ((s[P + 1].toNat : Int) == 43) = false := (by simp; omega);have e45 : ((s[P + 1].toNat : Int) == 45) = true := (by simp; omega);clear h6 hq1 hq2
        go_wp2_with fail
        go_loopw [7, 9, 20] (fun v7 v9 v20 wx => wx = wc ∧ v9 = .bool false ∧ ∃ t : Nat, (P + 2) + t ≤ s.size ∧ v7 = .int .i64 (((P + 2) + t : Nat) : Int) ∧ v20 = .int .i64 ((evs s (P + 2) t : Nat) : Int)) (fun v7 _ _ _ => s.size - (RowKit.intOf v7).toNat)
        case atStart => exact ⟨rfl, rfl, 0, by omega, congrArg (Value.int .i64) (by omega), rfl⟩
        case round =>
         obtain ⟨rfl, rfl, t, ht, rfl, rfl⟩ := hrel;have hsm : evs s (P + 2) t < 1000 := evs_small (fun k h1 h2 => H5.out k h1 (by omega)) (by omega);by_cases he : (P + 2) + t = s.size
         ·have hl : decide ((((P + 2) + t : Nat) : Int) < s.size) = false := decide_eq_false (by omega)
          have hev : expI s (P + 2) true = -(evs s (P + 2) t : Int) := by
           unfold expI;rw [← he, Nat.add_sub_cancel_left];rfl
          have HEV := hid hev;clear hev
          go_wp2_with fail
          go_meet;exact ⟨congrArg (Value.int .i64) (by omega), rfl, congrArg (Value.int .i64) (by rw [H7.out, HEV.out]), rfl⟩
         ·have hkk : (P + 2) + t < s.size := (by omega);have hl : decide ((((P + 2) + t : Nat) : Int) < s.size) = true := decide_eq_true (by omega);have hb := H5.out ((P + 2) + t) (by omega) hkk;unfold isD at hb;have HN : Hid (evs s (P + 2) (t + 1) = evs s (P + 2) t * 10 + (bt s ((P + 2) + t) - 48)) := hid rfl;rw [bt_of_lt hkk] at hb HN;obtain ⟨b1, b2⟩ := hb;have c1 : decide ((48 : Int) ≤ s[(P + 2) + t].toNat) = true := decide_eq_true (by omega);have c2 : decide ((s[(P + 2) + t].toNat : Int) ≤ 57) = true := decide_eq_true (by omega);have c3 : ((s[(P + 2) + t].toNat : Int) == 95) = false := (by simp; omega);have c4 : decide (((evs s (P + 2) t : Nat) : Int) < 10000) = true := decide_eq_true (by omega)
          go_wp2_with fail
          refine ⟨⟨trivial, rfl, t + 1, by omega, congrArg (Value.int .i64) (by omega), congrArg (Value.int .i64) (by rw [HN.out]; omega)⟩, ?_⟩;show s.size - ((P : Int) + 2 + (t : Int) + 1).toNat < s.size - (((P + 2) + t : Nat) : Int).toNat;omega
     case rest =>
      obtain ⟨rfl, rfl, rfl, rfl⟩ := hcut;by_cases hm : m = 0
      ·have hne : ((m : Int) != 0) = false := (by simp; omega);have hA : expOf (scan s P) E = 0 := (by rw [HS.out]; exact if_pos hm);have HA := hid hA;clear hA hm
       go_wp2_with fail
       rw [Exit.noGoto_ret];refine bodyPost_ret (results_tmp7 rfl _ _ _) rfl ?_;refine ⟨?_, rfl⟩;unfold readRes;rw [HA.out, HS.out];rfl
      ·have hne : ((m : Int) != 0) = true := (by simp; omega);have hA : expOf (scan s P) E = D + E - nm := (by rw [HS.out, HD.out]; exact if_neg hm);have HA := hid hA
       have hE1 : -1000 ≤ E ∧ E ≤ 1000 := by
        rcases HE.out with ⟨_, h2⟩ | ⟨q, neg, ⟨h1, h2, h3, h4, h5, h6⟩, h7⟩
        ·omega
        ·have := evs_small (t := s.size - q) (fun k h1 h2 => h5 k h1 (by omega)) (by omega);rw [h7];unfold expI;split <;> omega
       clear hA hm
       go_wp2_with fail
       rw [Exit.noGoto_ret];refine bodyPost_ret (results_tmp7 rfl _ _ _) rfl ?_;refine ⟨?_, rfl⟩;unfold readRes;rw [HA.out, HS.out];rfl
end Go.Proofs.YtlblkajnmdhmdaaGreatDoor
