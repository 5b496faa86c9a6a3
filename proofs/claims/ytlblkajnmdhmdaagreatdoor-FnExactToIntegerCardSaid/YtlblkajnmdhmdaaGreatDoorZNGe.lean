/-
  Walk: the program's numeral where the text is none.
  Walk: the program's numeral at a hexadecimal numeral.
  Walk: impl.ParseNumber at every text.
-/
import Derived.Test.YtlblkajnmdhmdaaGreatDoorZNNm
import Derived.Test.YtlblkajnmdhmdaaGreatDoorZNMq
import Derived.Test.YtlblkajnmdhmdaaGreatDoorZNRg
import Derived.Lib.ConvBytes
import Derived.Test.YtlblkajnmdhmdaaGreatDoorZNGb
import Derived.Test.YtlblkajnmdhmdaaGreatDoorZNPn
import Derived.Test.YtlblkajnmdhmdaaGreatDoorZNPi
namespace Go.Proofs.YtlblkajnmdhmdaaGreatDoor
set_option linter.unusedVariables false
open Go.RowKit Lib Go.Op NR
set_option maxRecDepth 100000 in
set_option maxHeartbeats 4000000 in
theorem numeral_none (s : ByteArray) (w : World) (h : 100 < s.size ∨ (s.size ≤ 100 ∧ ¬ (2 < s.size ∧ IsHex s) ∧ ∀ P E, ¬ IsDec s P E)) :
  Calls Tryz.prog 24 #[.string s] w fun r w' => r = nmEnd none ∧ Below w.heap.size w w' := by
 have H := hid h;clear h;go_enter Tryz.func24, Tryz.ntmps24
 go_upto_region 1 with fail
 obtain ⟨wo, hwo⟩ : ∃ wo : World, wo = w.alloc (.cells #[.bool false, .int .i64 0, .float .f64 0] 50) := ⟨_, rfl⟩;rw [← hwo];have hB1 : Below w.heap.size w wo := (by rw [hwo]; exact (Below.refl w.heap.size w).alloc (Nat.le_refl _) _)
 have hh : wo.heap[w.heap.size]? = some (.cells #[.bool false, .int .i64 0, .float .f64 0] 50 (0, 0)) := by
  rw [hwo];exact Array.getElem?_push_size
 have c0 : wo.cell? ⟨w.heap.size, 0, none⟩ = some (.bool false) := (by simp [World.cell?, hh]);have c1 : wo.cell? ⟨w.heap.size, 1, none⟩ = some (.int .i64 0) := (by simp [World.cell?, hh]);have c2 : wo.cell? ⟨w.heap.size, 2, none⟩ = some (.float .f64 0) := (by simp [World.cell?, hh]);have f0 : wo.frozen? ⟨w.heap.size, 0, none⟩ = false := (by simp [World.frozen?, hh]);have f1 : wo.frozen? ⟨w.heap.size, 1, none⟩ = false := (by simp [World.frozen?, hh]);have f2 : wo.frozen? ⟨w.heap.size, 2, none⟩ = false := (by simp [World.frozen?, hh]);have HB1 := hid hB1;have HH := hid hh;clear hwo hB1 hh;by_cases hbig : 100 < s.size
 ·have hd1 : decide ((100 : Int) < (s.size : Int)) = true := decide_eq_true (by omega)
  go_wp2_with fail
  rw [store_float];go_simp
  go_wp2_with fail
  obtain ⟨r1, r2⟩ := set3 (x := .bool false) (y := .int .i64 0) (z := .float .f64 0) HB1.out HH.out;exact bodyPost_ret (res_num r1 rfl rfl rfl) rfl ⟨rfl, r2⟩
 ·have hd1 : decide ((100 : Int) < (s.size : Int)) = false := decide_eq_false (by omega);by_cases hz : s.size = 0
  ·have hd2 : s.toList.isEmpty = true := (decide_eq_emptyBytes s).symm.trans (decide_eq_true (ByteArray.size_eq_zero_iff.1 hz))
   go_wp2_with fail
   rw [store_float];go_simp
   go_wp2_with fail
   obtain ⟨r1, r2⟩ := set3 (x := .bool false) (y := .int .i64 0) (z := .float .f64 0) HB1.out HH.out;exact bodyPost_ret (res_num r1 rfl rfl rfl) rfl ⟨rfl, r2⟩
  ·have hd2 : s.toList.isEmpty = false := (decide_eq_emptyBytes s).symm.trans (decide_eq_false (fun h => by rw [h] at hz; exact hz rfl));have hs0 : 0 < s.size := (by omega);obtain ⟨hs1, hx, hno⟩ := H.out.resolve_left hbig;have HNO := hid hno;have HX := hid hx;clear hx hno H
   go_upto_region 3 with fail
   go_cut [42] from 25 to 42 (fun v42 wx => v42 = .bool false ∧ wx = wo)
   case first =>
    by_cases h2 : 2 < s.size
    ·have hd3 : decide ((2 : Int) < (s.size : Int)) = true := decide_eq_true (by omega);have h1s : 1 < s.size := (by omega);by_cases h48 : s[0].toNat = 48
     ·have c48 : (((s[0]'hs0).toNat : Int) == 48) = true := (by simp; omega)
      have hn : s[1].toNat ≠ 120 ∧ s[1].toNat ≠ 88 := by
       refine ⟨fun h => HX.out ⟨h2, h1s, by rw [bt_of_lt hs0]; exact h48, Or.inl (by rw [bt_of_lt h1s]; exact h)⟩, fun h => HX.out ⟨h2, h1s, by rw [bt_of_lt hs0]; exact h48, Or.inr (by rw [bt_of_lt h1s]; exact h)⟩⟩
      have e1 : ((s[1].toNat : Int) == 120) = false := (by simp; omega);have e2 : ((s[1].toNat : Int) == 88) = false := (by simp; omega);clear hn h48
      go_wp2_with fail
      go_meet;exact ⟨rfl, rfl⟩
     ·have c48 : (((s[0]'hs0).toNat : Int) == 48) = false := (by simp; omega);clear h48
      go_wp2_with fail
      go_meet;exact ⟨rfl, rfl⟩
    ·have hd3 : decide ((2 : Int) < (s.size : Int)) = false := decide_eq_false (by omega)
     go_wp2_with fail
     go_meet;exact ⟨rfl, rfl⟩
   case rest =>
    obtain ⟨rfl, hwc⟩ := hcut;subst hwc
    go_upto_block 2 with fail
    go_cut [8, 9, 10] from 65 to 84 (fun v8 v9 v10 wx => wx = wc ∧ ∃ (P d : Nat) (dt : Bool), v8 = .int .i64 P ∧ v9 = .int .i64 d ∧ v10 = .bool dt ∧ P ≤ s.size ∧ d ≤ P ∧ Hid (∀ j, j < P → (bt s j = 46 ∧ (scan s j).dot = false) ∨ isD (bt s j)) ∧ Hid (0 < d ↔ (scan s P).dig = true))
    case first =>
     go_wp2_with fail
     go_loopw [8, 9, 10] (fun v8 v9 v10 wx => wx = wc ∧ ∃ (k d : Nat) (dt : Bool), k ≤ s.size ∧ v8 = .int .i64 k ∧ v9 = .int .i64 d ∧ v10 = .bool dt ∧ d ≤ k ∧ Hid ((scan s k).dot = dt) ∧ Hid (0 < d ↔ (scan s k).dig = true) ∧ Hid (∀ j, j < k → (bt s j = 46 ∧ (scan s j).dot = false) ∨ isD (bt s j))) (fun v8 _ _ _ => s.size - (RowKit.intOf v8).toNat)
     case atStart => exact ⟨rfl, 0, 0, false, by omega, rfl, rfl, rfl, by omega, hid rfl, hid (by simp [scan]), hid (fun j hj => absurd hj (by omega))⟩
     case round =>
      obtain ⟨rfl, k, d, dt, hk, rfl, rfl, rfl, hdk, HDT, HDG, HOK⟩ := hrel;by_cases hkP : k = s.size
      ·have hlt : decide ((k : Int) < s.size) = false := decide_eq_false (by omega)
       go_wp2_with fail
       go_meet;exact ⟨rfl, k, d, dt, rfl, rfl, rfl, hk, hdk, HOK, HDG⟩
      ·have hks : k < s.size := (by omega);have hlt : decide ((k : Int) < s.size) = true := decide_eq_true (by omega);have hstep : scan s (k + 1) = NR.step (scan s k) (bt s k) := rfl;rw [bt_of_lt hks] at hstep;by_cases hcd : isD s[k].toNat
       ·have hc := hcd;unfold isD at hc;have HI := hid (isDigit_yes (s[k].toNat : Int) (by omega) (by omega))
        have hn : (scan s (k + 1)).dot = dt ∧ (scan s (k + 1)).dig = true := by
         rw [hstep];refine ⟨(step_dot' hcd).trans HDT.out, ?_⟩;unfold NR.step;rw [if_neg (by omega)];split
         ·rfl
         ·split <;> rfl
        have HN := hid hn
        have HOK2 : Hid (∀ j, j < k + 1 → (bt s j = 46 ∧ (scan s j).dot = false) ∨ isD (bt s j)) := hid (fun j hj => by
         by_cases e : j = k
         ·rw [e, bt_of_lt hks]; exact Or.inr hcd
         ·exact HOK.out j (by omega))
        clear hn hstep hc hcd
        go_wp2_with (go_at_call 47; refine (HI.out _).mono ?_; rintro e w' ⟨rfl, rfl⟩)
        go_roundw
        case rel => exact ⟨trivial, k + 1, d + 1, dt, by omega, by go_num, by go_num, rfl, by omega, hid HN.out.1, hid ⟨fun _ => HN.out.2, fun _ => by omega⟩, HOK2⟩
        case measure => simp [RowKit.intOf]; omega
       ·have HI := hid (isDigit_no (s[k].toNat : Int) (by unfold isD at hcd; omega));by_cases h46 : s[k].toNat = 46
        ·have e46 : ((s[k].toNat : Int) == 46) = true := (by simp; omega)
         cases dt with
         | false =>
          have hn : (scan s (k + 1)).dot = true ∧ (scan s (k + 1)).dig = (scan s k).dig := by
           rw [hstep, h46];exact ⟨rfl, rfl⟩
          have HN := hid hn
          have HOK2 : Hid (∀ j, j < k + 1 → (bt s j = 46 ∧ (scan s j).dot = false) ∨ isD (bt s j)) := hid (fun j hj => by
           by_cases e : j = k
           ·rw [e, bt_of_lt hks]; exact Or.inl ⟨h46, HDT.out⟩
           ·exact HOK.out j (by omega))
          clear hn hstep hcd h46
          go_wp2_with (go_at_call 47; refine (HI.out _).mono ?_; rintro e w' ⟨rfl, rfl⟩)
          go_roundw
          case rel => exact ⟨trivial, k + 1, d, true, by omega, by go_num, rfl, rfl, by omega, hid HN.out.1, hid (by rw [HN.out.2]; exact HDG.out), HOK2⟩
          case measure => simp [RowKit.intOf]; omega
         | true =>
          clear hstep hcd h46
          go_wp2_with (go_at_call 47; refine (HI.out _).mono ?_; rintro e w' ⟨rfl, rfl⟩)
          go_meet;exact ⟨rfl, k, d, true, rfl, rfl, rfl, hk, hdk, HOK, HDG⟩
        ·have e46 : ((s[k].toNat : Int) == 46) = false := (by simp; omega);clear hstep hcd h46
         go_wp2_with (go_at_call 47; refine (HI.out _).mono ?_; rintro e w' ⟨rfl, rfl⟩)
         go_meet;exact ⟨rfl, k, d, dt, rfl, rfl, rfl, hk, hdk, HOK, HDG⟩
    case rest =>
     obtain ⟨hwc2, P, d, dt, rfl, rfl, rfl, hP, hdP, HOK, HDG⟩ := hcut;subst hwc2;by_cases hd0 : d = 0
     ·subst hd0
      go_wp2_with fail
      rw [store_float];go_simp
      go_wp2_with fail
      obtain ⟨r1, r2⟩ := set3 (x := .bool false) (y := .int .i64 0) (z := .float .f64 0) HB1.out HH.out;exact bodyPost_ret (res_num r1 rfl rfl rfl) rfl ⟨rfl, r2⟩
     ·have hdz : ((d : Int) == 0) = false := (by simp; omega);have hdg : Digs s P := ⟨by omega, hP, HOK.out, HDG.out.1 (by omega)⟩
      have hPs : P < s.size := by
       apply Nat.lt_of_le_of_ne hP;intro e;exact HNO.out P 0 ⟨hdg, Or.inl ⟨e, rfl⟩⟩
      have HDD := hid hdg;clear hdg
      go_upto_region 23 with fail
      go_cut [11] from 88 to 95 (fun v11 wx => (∃ b : Bool, v11 = .bool b) ∧ wx = wc)
      case first =>
       have hpe : ((P : Int) == (s.size : Int)) = false := (by simp; omega);cases dt
       ·go_wp2_with fail
        go_meet;exact ⟨⟨_, rfl⟩, rfl⟩
       ·go_wp2_with fail
        go_meet;exact ⟨⟨_, rfl⟩, rfl⟩
      case rest =>
       obtain ⟨⟨wh, rfl⟩, hwc3⟩ := hcut;subst hwc3;have hlt : decide ((P : Int) < (s.size : Int)) = true := decide_eq_true (by omega);by_cases he : s[P].toNat = 101 ∨ s[P].toNat = 69
       ·obtain ⟨p1, hp1⟩ : ∃ p1 : Nat, p1 = P + 1 := ⟨_, rfl⟩;have HP1 := hid hp1;have hp1s : p1 ≤ s.size := (by omega);have HE : Hid (bt s P = 101 ∨ bt s P = 69) := hid (by rw [bt_of_lt hPs]; exact he)
        go_upto_region 25 with fail
        go_cut [109] from 100 to 109 (fun v109 wx => v109 = .bool false ∧ wx = wc)
        case first =>
         rcases he with h | h
         ·have e1 : ((s[P].toNat : Int) != 101) = false := (by simp; omega);clear h
          go_wp2_with fail
          go_meet;exact ⟨rfl, rfl⟩
         ·have e1 : ((s[P].toNat : Int) != 101) = true := (by simp; omega);have e2 : ((s[P].toNat : Int) != 69) = false := (by simp; omega);clear h
          go_wp2_with fail
          go_meet;exact ⟨rfl, rfl⟩
        case rest =>
         obtain ⟨rfl, hwc4⟩ := hcut;subst hwc4;clear he
         go_upto_region 28 with fail
         rw [show Value.int .i64 ((P : Int) + 1) = Value.int .i64 (p1 : Int) from congrArg (Value.int .i64) (by omega)];clear hp1
         go_cut [128] from 113 to 128 (fun v128 wx => (∃ sb : Bool, v128 = .bool sb ∧ Hid (sb = true → (p1 < s.size ∧ (bt s p1 = 43 ∨ bt s p1 = 45)))) ∧ wx = wc)
         case first =>
          by_cases hp : p1 < s.size
          ·have hltp : decide ((p1 : Int) < (s.size : Int)) = true := decide_eq_true (by omega);have hb := bt_of_lt hp;by_cases h43 : s[p1].toNat = 43
           ·have e1 : ((s[p1].toNat : Int) == 43) = true := (by simp; omega);have HSB : Hid (p1 < s.size ∧ (bt s p1 = 43 ∨ bt s p1 = 45)) := hid ⟨hp, by omega⟩;clear h43 hb
            go_wp2_with fail
            go_meet;exact ⟨⟨true, rfl, hid (fun _ => HSB.out)⟩, rfl⟩
           ·have e1 : ((s[p1].toNat : Int) == 43) = false := (by simp; omega);by_cases h45 : s[p1].toNat = 45
            ·have e2 : ((s[p1].toNat : Int) == 45) = true := (by simp; omega);have HSB : Hid (p1 < s.size ∧ (bt s p1 = 43 ∨ bt s p1 = 45)) := hid ⟨hp, by omega⟩;clear h43 h45 hb
             go_wp2_with fail
             go_meet;exact ⟨⟨true, rfl, hid (fun _ => HSB.out)⟩, rfl⟩
            ·have e2 : ((s[p1].toNat : Int) == 45) = false := (by simp; omega);clear h43 h45 hb
             go_wp2_with fail
             go_meet;exact ⟨⟨false, rfl, hid (fun h => absurd h (by decide))⟩, rfl⟩
          ·have hltp : decide ((p1 : Int) < (s.size : Int)) = false := decide_eq_false (by omega)
           go_wp2_with fail
           go_meet;exact ⟨⟨false, rfl, hid (fun h => absurd h (by decide))⟩, rfl⟩
         case rest =>
          obtain ⟨⟨sb, rfl, HSB⟩, hwc5⟩ := hcut;subst hwc5
          go_upto_if 128 with fail
          go_cut [8] from 129 to 130 (fun v8 wx => (∃ q : Nat, v8 = .int .i64 q ∧ q ≤ s.size ∧ Hid (∀ (h3 : q < s.size), s.size ≤ q + 3 → (∀ k, q ≤ k → k < s.size → isD (bt s k)) → False)) ∧ wx = wc)
          case first =>
           cases sb
           ·have HQ : Hid (∀ (h3 : p1 < s.size), s.size ≤ p1 + 3 → (∀ k, p1 ≤ k → k < s.size → isD (bt s k)) → False) := hid (fun h3 h4 h5 => by
             have e := HP1.out
             exact HNO.out P _ ⟨HDD.out, Or.inr ⟨p1, false, ⟨hPs, HE.out, h3, h4, h5, Or.inl ⟨e, rfl⟩⟩, rfl⟩⟩)
            go_wp2_with fail
            go_meet;exact ⟨⟨p1, rfl, hp1s, HQ⟩, rfl⟩
           ·have hsg := HSB.out rfl
            have HQ : Hid (∀ (h3 : p1 + 1 < s.size), s.size ≤ p1 + 1 + 3 → (∀ k, p1 + 1 ≤ k → k < s.size → isD (bt s k)) → False) := hid (fun h3 h4 h5 => by
             have e := HP1.out
             rcases hsg.2 with h6 | h6
             ·exact HNO.out P _ ⟨HDD.out, Or.inr ⟨p1 + 1, false, ⟨hPs, HE.out, h3, h4, h5, Or.inr (Or.inl ⟨by omega, by rw [← e]; exact h6, rfl⟩)⟩, rfl⟩⟩
             ·exact HNO.out P _ ⟨HDD.out, Or.inr ⟨p1 + 1, true, ⟨hPs, HE.out, h3, h4, h5, Or.inr (Or.inr ⟨by omega, by rw [← e]; exact h6, rfl⟩)⟩, rfl⟩⟩)
            have hq1 : p1 + 1 ≤ s.size := hsg.1;clear hsg
            go_wp2_with fail
            go_meet;exact ⟨⟨p1 + 1, congrArg (Value.int .i64) (by omega), hq1, HQ⟩, rfl⟩
          case rest =>
           obtain ⟨⟨q, rfl, hqs, HQ⟩, hwc6⟩ := hcut;subst hwc6;by_cases hn1 : s.size - q < 1
           ·have n1 : decide ((s.size : Int) - q < 1) = true := decide_eq_true (by omega)
            go_wp2_with fail
            rw [store_float];go_simp
            go_wp2_with fail
            obtain ⟨r1, r2⟩ := set3 (x := .bool false) (y := .int .i64 0) (z := .float .f64 0) HB1.out HH.out;exact bodyPost_ret (res_num r1 rfl rfl rfl) rfl ⟨rfl, r2⟩
           ·have n1 : decide ((s.size : Int) - q < 1) = false := decide_eq_false (by omega);by_cases hn3 : 3 < s.size - q
            ·have n2 : decide ((3 : Int) < (s.size : Int) - q) = true := decide_eq_true (by omega)
             go_wp2_with fail
             rw [store_float];go_simp
             go_wp2_with fail
             obtain ⟨r1, r2⟩ := set3 (x := .bool false) (y := .int .i64 0) (z := .float .f64 0) HB1.out HH.out;exact bodyPost_ret (res_num r1 rfl rfl rfl) rfl ⟨rfl, r2⟩
            ·have n2 : decide ((3 : Int) < (s.size : Int) - q) = false := decide_eq_false (by omega);obtain ⟨wp, hwp⟩ : ∃ wp : World, wp = wc := ⟨_, rfl⟩;subst hwp
             go_wp2_with fail
             go_loopw [8] (fun v8 wx => wx = wp ∧ ∃ k : Nat, q ≤ k ∧ k ≤ s.size ∧ v8 = .int .i64 k ∧ Hid (∀ i, q ≤ i → i < k → isD (bt s i))) (fun v8 _ => s.size - (RowKit.intOf v8).toNat)
             case atStart => exact ⟨rfl, q, Nat.le_refl _, by omega, rfl, hid (fun i h1 h2 => absurd h2 (by omega))⟩
             case round =>
              obtain ⟨hwr, k, hqk, hks, rfl, HA⟩ := hrel;subst hwr
              have hks' : k < s.size := by
               apply Nat.lt_of_le_of_ne hks;intro e;exact HQ.out (by omega) (by omega) (fun i h1 h2 => HA.out i h1 (by omega))
              have hlt : decide ((k : Int) < (s.size : Int)) = true := decide_eq_true (by omega);by_cases hcd : isD s[k].toNat
              ·have HA2 : Hid (∀ i, q ≤ i → i < k + 1 → isD (bt s i)) := hid (fun i h1 h2 => by
                by_cases e : i = k
                ·rw [e, bt_of_lt hks']; exact hcd
                ·exact HA.out i h1 (by omega))
               unfold isD at hcd;have HI := hid (isDigit_yes (s[k].toNat : Int) (by omega) (by omega));clear hcd
               go_wp2_with (go_at_call 47; refine (HI.out _).mono ?_; rintro e w' ⟨rfl, rfl⟩)
               go_roundw
               case rel => exact ⟨trivial, k + 1, by omega, by omega, by go_num, HA2⟩
               case measure => simp [RowKit.intOf]; omega
              ·unfold isD at hcd;have HI := hid (isDigit_no (s[k].toNat : Int) (by omega));clear hcd
               go_wp2_with (go_at_call 47; refine (HI.out _).mono ?_; rintro e w' ⟨rfl, rfl⟩)
               rw [store_float];go_simp
               go_wp2_with fail
               obtain ⟨r1, r2⟩ := set3 (x := .bool false) (y := .int .i64 0) (z := .float .f64 0) HB1.out HH.out;exact bodyPost_ret (res_num r1 rfl rfl rfl) rfl ⟨rfl, r2⟩
       ·have e1 : ((s[P].toNat : Int) != 101) = true := (by simp; omega);have e2 : ((s[P].toNat : Int) != 69) = true := (by simp; omega);clear he
        go_wp2_with fail
        rw [store_float];go_simp
        go_wp2_with fail
        obtain ⟨r1, r2⟩ := set3 (x := .bool false) (y := .int .i64 0) (z := .float .f64 0) HB1.out HH.out;exact bodyPost_ret (res_num r1 rfl rfl rfl) rfl ⟨rfl, r2⟩
end Go.Proofs.YtlblkajnmdhmdaaGreatDoor
namespace Go.Proofs.YtlblkajnmdhmdaaGreatDoor
set_option linter.unusedVariables false
open Go.RowKit Lib Go.Op NR
set_option maxRecDepth 100000 in
theorem hexVal_any (c : Nat) (w : World) (hc : c < 256) : Calls Tryz.prog 45 #[.int .u8 c] w fun e w' => e = .returned (.int .i64 (NB.hexI c)) ∧ w' = w := by
 by_cases h1 : 48 ≤ c ∧ c ≤ 57
 ·have HI := hid (isDigit_yes (c : Int) (by omega) (by omega));have HR : Hid (NB.hexI c = (c : Int) - 48) := hid (by unfold NB.hexI; rw [if_pos h1]);go_enter Tryz.func45, Tryz.ntmps45
  go_wp2_with (go_at_call 47; refine (HI.out _).mono ?_; rintro e w' ⟨rfl, rfl⟩)
  go_ret;refine ⟨?_, rfl⟩;rw [HR.out];rfl
 ·have HI := hid (isDigit_no (c : Int) (by omega));by_cases h2 : 97 ≤ c ∧ c ≤ 102
  ·have HR : Hid (NB.hexI c = (c : Int) - 97 + 10) := hid (by unfold NB.hexI; rw [if_neg h1, if_pos h2]; omega);have d1 : decide ((97 : Int) ≤ c) = true := decide_eq_true (by omega);have d2 : decide ((c : Int) ≤ 102) = true := decide_eq_true (by omega);go_enter Tryz.func45, Tryz.ntmps45
   go_wp2_with (go_at_call 47; refine (HI.out _).mono ?_; rintro e w' ⟨rfl, rfl⟩)
   go_ret;refine ⟨?_, rfl⟩;rw [HR.out];rfl
  ·have g2 : (decide ((97 : Int) ≤ c) = true ∧ decide ((c : Int) ≤ 102) = false) ∨ decide ((97 : Int) ≤ c) = false := by
    by_cases h' : 97 ≤ c
    ·exact Or.inl ⟨decide_eq_true (by omega), decide_eq_false (by omega)⟩
    ·exact Or.inr (decide_eq_false (by omega))
   by_cases h3 : 65 ≤ c ∧ c ≤ 70
   ·have HR : Hid (NB.hexI c = (c : Int) - 65 + 10) := hid (by unfold NB.hexI; rw [if_neg h1, if_neg h2, if_pos h3]; omega);have d1 : decide ((65 : Int) ≤ c) = true := decide_eq_true (by omega);have d2 : decide ((c : Int) ≤ 70) = true := decide_eq_true (by omega)
    rcases g2 with ⟨g2, g3⟩ | g2
    all_goals
     go_enter Tryz.func45, Tryz.ntmps45
     go_wp2_with (go_at_call 47; refine (HI.out _).mono ?_; rintro e w' ⟨rfl, rfl⟩)
     go_ret;refine ⟨?_, rfl⟩;rw [HR.out];rfl
   ·have g4 : (decide ((65 : Int) ≤ c) = true ∧ decide ((c : Int) ≤ 70) = false) ∨ decide ((65 : Int) ≤ c) = false := by
     by_cases h' : 65 ≤ c
     ·exact Or.inl ⟨decide_eq_true (by omega), decide_eq_false (by omega)⟩
     ·exact Or.inr (decide_eq_false (by omega))
    have HR : Hid (NB.hexI c = -1) := hid (by unfold NB.hexI; rw [if_neg h1, if_neg h2, if_neg h3]);clear h1 h2 h3
    rcases g2 with ⟨g2, g3⟩ | g2
    all_goals
     rcases g4 with ⟨g4, g5⟩ | g4
     all_goals
      go_enter Tryz.func45, Tryz.ntmps45
      go_wp2_with (go_at_call 47; refine (HI.out _).mono ?_; rintro e w' ⟨rfl, rfl⟩)
      go_ret;refine ⟨?_, rfl⟩;rw [HR.out];rfl
theorem bytes_below (w : World) (e : TypeId) (s : ByteArray) : Below w.heap.size w (Lib.bytesWorld w e s) where
 os := by simp [Lib.bytesWorld, World.freeze, World.alloc, World.drew, -World.alloc_eq, -World.drew_eq]
 tape := by simp [Lib.bytesWorld, World.freeze, World.alloc, World.drew, -World.alloc_eq, -World.drew_eq]
 output := by simp [Lib.bytesWorld, World.freeze, World.alloc, World.drew, -World.alloc_eq, -World.drew_eq]
 size := by rw [Lib.bytesWorld_size]; omega
 block := fun k hk => Lib.bytesWorld_at_old w e s k hk
theorem hex_get {t : ByteArray} {j : Nat} (hj : j < t.size) : (t.data.toList.getD j 0).toNat = t[j].toNat := by
 have hj2 : j < t.data.size := hj;rw [List.getD_eq_getElem?_getD, Array.getElem?_toList, Array.getElem?_eq_getElem hj2];rfl
theorem hex_step {a h : Nat} (hh : h < 16) : bits .or .u64 (IntKind.u64.wrap ((a % 18446744073709551616 : Nat) * 16)) (h : Int) = (((a * 16 + h) % 18446744073709551616 : Nat) : Int) := by
 have e1 : IntKind.u64.wrap (((a % 18446744073709551616 : Nat) : Int) * 16) = ((2 ^ 4 * (a % 1152921504606846976) : Nat) : Int) := by
  rw [IntKind.wrap_u64];omega
 rw [e1, bits_or_u64_nat _ _ (by omega) (by omega), ← Nat.two_pow_add_eq_or_of_lt (show h < 2 ^ 4 from hh)];omega
set_option maxRecDepth 100000 in
set_option maxHeartbeats 4000000 in
theorem numeral_hex (s : ByteArray) (w : World) (hs : s.size ≤ 100) (h2 : 2 < s.size) (hx : IsHex s) :
  Calls Tryz.prog 24 #[.string s] w fun r w' => r = nmEnd (NB.hexAns (s.extract 2 s.size)) ∧ Below w.heap.size w w' := by
 obtain ⟨h1, h48, h120⟩ := hx;have hs0 : 0 < s.size := (by omega);rw [bt_of_lt hs0] at h48;rw [bt_of_lt h1] at h120;have hd1 : decide ((100 : Int) < (s.size : Int)) = false := decide_eq_false (by omega);have hd2 : s.toList.isEmpty = false := (decide_eq_emptyBytes s).symm.trans (decide_eq_false (fun h => by rw [h] at h2; simp at h2));have hd3 : decide ((2 : Int) < (s.size : Int)) = true := decide_eq_true (by omega);have c48 : (((s[0]'hs0).toNat : Int) == 48) = true := (by simp; omega);go_enter Tryz.func24, Tryz.ntmps24
 go_upto_region 1 with fail
 obtain ⟨wo, hwo⟩ : ∃ wo : World, wo = w.alloc (.cells #[.bool false, .int .i64 0, .float .f64 0] 50) := ⟨_, rfl⟩;rw [← hwo];have hB1 : Below w.heap.size w wo := (by rw [hwo]; exact (Below.refl w.heap.size w).alloc (Nat.le_refl _) _)
 have hh : wo.heap[w.heap.size]? = some (.cells #[.bool false, .int .i64 0, .float .f64 0] 50 (0, 0)) := by
  rw [hwo];exact Array.getElem?_push_size
 have HB1 := hid hB1;have HH := hid hh;have hszo : w.heap.size < wo.heap.size := (by rw [hwo]; simp);clear hwo hB1 hh
 go_upto_region 3 with fail
 go_cut [42] from 25 to 42 (fun v42 wx => v42 = .bool true ∧ wx = wo)
 case first =>
  rcases h120 with h | h
  ·have e1 : ((s[1].toNat : Int) == 120) = true := (by simp; omega);clear h h48
   go_wp2_with fail
   go_meet;exact ⟨rfl, rfl⟩
  ·have e1 : ((s[1].toNat : Int) == 120) = false := (by simp; omega);have e2 : ((s[1].toNat : Int) == 88) = true := (by simp; omega);clear h h48
   go_wp2_with fail
   go_meet;exact ⟨rfl, rfl⟩
 case rest =>
  obtain ⟨rfl, hwc⟩ := hcut;subst hwc;clear h48 h120
  go_wp2_with fail
  obtain ⟨t, ht⟩ : ∃ t, s.extract 2 s.size = t := ⟨_, rfl⟩;have hts : t.size = s.size - 2 := (by rw [← ht, ByteArray.size_extract]; omega);rw [ht, Lib.run_convert_string_bytes (u := .string) wc 9 35 5 t (by kernel_rfl) (by kernel_rfl) (by kernel_rfl)];have hbw := bytes_below wc 5 t;have hcl := fun j hj => Lib.bytesWorld_cell wc 5 t j hj;obtain ⟨cap, hcap⟩ : ∃ cap, grownCap wc t.size 0 5 = cap := ⟨_, rfl⟩;obtain ⟨wb, hwb⟩ : ∃ wb, Lib.bytesWorld wc 5 t = wb := ⟨_, rfl⟩;rw [hcap, hwb];rw [hwb] at hbw hcl;have hB2 : Below w.heap.size w wb := HB1.out.trans (hbw.mono (Nat.le_of_lt hszo));have hh2 : wb.heap[w.heap.size]? = some (.cells #[.bool false, .int .i64 0, .float .f64 0] 50 (0, 0)) := (hbw.block _ hszo).trans HH.out;have HB2 := hid hB2;have HH2 := hid hh2;have c0 : wb.cell? ⟨w.heap.size, 0, none⟩ = some (.bool false) := (by simp [World.cell?, hh2]);have c1 : wb.cell? ⟨w.heap.size, 1, none⟩ = some (.int .i64 0) := (by simp [World.cell?, hh2]);have c2 : wb.cell? ⟨w.heap.size, 2, none⟩ = some (.float .f64 0) := (by simp [World.cell?, hh2]);have f0 : wb.frozen? ⟨w.heap.size, 0, none⟩ = false := (by simp [World.frozen?, hh2]);have f1 : wb.frozen? ⟨w.heap.size, 1, none⟩ = false := (by simp [World.frozen?, hh2]);have f2 : wb.frozen? ⟨w.heap.size, 2, none⟩ = false := (by simp [World.frozen?, hh2])
  have hcell : ∀ j (hj : j < t.size), wb.cell? ⟨wc.heap.size, j, none⟩ = some (.int .u8 (bt t j : Nat)) := fun j hj => by
   rw [hcl j hj, bt_of_lt hj];congr 3;exact hex_get hj
  have HCELL := hid hcell;have HT := hid ht;have HTS := hid hts;have ht98 : t.size ≤ 98 := (by omega);clear hbw hcl hcap hwb hB2 hh2 hcell ht hts;go_simp
  go_wp2_with fail
  go_loopw [4, 47] (fun v4 v47 wx => wx = wb ∧ ∃ j : Nat, j ≤ t.size ∧ v4 = .int .u64 ((NB.hacc t j % 18446744073709551616 : Nat) : Int) ∧ v47 = .int .i64 j ∧ Hid (∀ k, k < j → 0 ≤ NB.hexI (bt t k))) (fun _ v47 _ => t.size - (RowKit.intOf v47).toNat)
  case atStart => exact ⟨rfl, 0, by omega, rfl, rfl, hid (fun k hk => absurd hk (by omega))⟩
  case round =>
   obtain ⟨rfl, j, hj, rfl, rfl, HA⟩ := hrel;by_cases hje : j = t.size
   ·have hlt : decide ((j : Int) < (t.size : Int)) = false := decide_eq_false (by omega)
    have HR : Hid (NB.hexAns (s.extract 2 s.size) = some (false, wrap64 (NB.hacc t t.size : Nat), 0)) := hid (by
     rw [HT.out];unfold NB.hexAns
     rw [if_pos ⟨by have := HTS.out; omega, fun k hk => HA.out k (by omega)⟩])
    go_wp2_with fail
    rw [show wrap64 (((NB.hacc t t.size : Nat) : Int) % 18446744073709551616) = wrap64 (NB.hacc t t.size : Nat) by unfold wrap64; omega];obtain ⟨v, hvv⟩ : ∃ v, wrap64 ((NB.hacc t t.size : Nat) : Int) = v := ⟨_, rfl⟩;rw [hvv] at HR ⊢;clear hvv;refine (intN_any v wr).mono ?_;rintro r w3 ⟨rfl, hb3⟩;have hszb : w.heap.size < wr.heap.size := (Array.getElem?_eq_some_iff.1 HH2.out).1;have hh3 := (hb3.block _ hszb).trans HH2.out;have hB3 := HB2.out.trans (hb3.mono (Nat.le_of_lt hszb));have k0 : w3.cell? ⟨w.heap.size, 0, none⟩ = some (.bool false) := (by simp [World.cell?, hh3]);have k1 : w3.cell? ⟨w.heap.size, 1, none⟩ = some (.int .i64 0) := (by simp [World.cell?, hh3]);have k2 : w3.cell? ⟨w.heap.size, 2, none⟩ = some (.float .f64 0) := (by simp [World.cell?, hh3]);have g0 : w3.frozen? ⟨w.heap.size, 0, none⟩ = false := (by simp [World.frozen?, hh3]);have g1 : w3.frozen? ⟨w.heap.size, 1, none⟩ = false := (by simp [World.frozen?, hh3]);have g2 : w3.frozen? ⟨w.heap.size, 2, none⟩ = false := (by simp [World.frozen?, hh3]);have HH3 := hid hh3;have HB3 := hid hB3;clear hh3 hB3 hb3
    go_wp2_with fail
    rw [store_float];go_simp
    go_wp2_with fail
    obtain ⟨r1, r2⟩ := set3 (x := .bool false) (y := .int .i64 v) (z := .float .f64 0) HB3.out HH3.out;refine bodyPost_ret (res_num r1 rfl rfl rfl) rfl ⟨?_, r2⟩;rw [HR.out];rfl
   ·have hjl : j < t.size := (by omega);have hlt : decide ((j : Int) < (t.size : Int)) = true := decide_eq_true (by omega);have hc := HCELL.out j hjl;have hcv := hexVal_any (bt t j) wr (bt_lt _ _);have hle := NB.hexI_le (bt t j);have hac : NB.hacc t (j + 1) = NB.hacc t j * 16 + (NB.hexI (bt t j)).toNat := rfl;obtain ⟨cj, hcj⟩ : ∃ cj, bt t j = cj := ⟨_, rfl⟩;rw [hcj] at hc hcv hle hac;obtain ⟨hv, hhv⟩ : ∃ hv, NB.hexI cj = hv := ⟨_, rfl⟩;rw [hhv] at hcv hle hac;have HCV := hid hcv;have HCJ := hid hcj;have HHV := hid hhv;have HAC := hid hac;clear hcv hcj hhv hac;by_cases hneg : hv < 0
    ·have hlt0 : decide (hv < 0) = true := decide_eq_true hneg
     have HR : Hid (NB.hexAns (s.extract 2 s.size) = none) := hid (by
      rw [HT.out];unfold NB.hexAns
      rw [if_neg (fun h => by
       have := h.2 j hjl;rw [HCJ.out, HHV.out] at this
       omega)])
     go_wp2_with (go_at_call 45; refine HCV.out.mono ?_; rintro e w' ⟨rfl, rfl⟩)
     rw [store_float];go_simp
     go_wp2_with fail
     obtain ⟨r1, r2⟩ := set3 (x := .bool false) (y := .int .i64 0) (z := .float .f64 0) HB2.out HH2.out;refine bodyPost_ret (res_num r1 rfl rfl rfl) rfl ⟨?_, r2⟩;rw [HR.out];rfl
    ·obtain ⟨h, rfl⟩ : ∃ h : Nat, hv = h := ⟨hv.toNat, by omega⟩;have hlt0 : decide ((h : Int) < 0) = false := decide_eq_false hneg;have HST := hid (hex_step (a := NB.hacc t j) (h := h) (by omega));obtain ⟨a, ha⟩ : ∃ a, NB.hacc t j = a := ⟨_, rfl⟩;rw [ha] at HST HAC ⊢;obtain ⟨x, hxx⟩ : ∃ x, a % 18446744073709551616 = x := ⟨_, rfl⟩;rw [hxx] at HST ⊢;have HXX := hid hxx;have hxb : x < 18446744073709551616 := (by omega);clear hxx ha
     go_wp2_with (go_at_call 45; refine HCV.out.mono ?_; rintro e w' ⟨rfl, rfl⟩)
     refine ⟨⟨trivial, j + 1, by omega, ?_, by go_num, hid (fun k hk => ?_)⟩, ?_⟩
     ·rw [HST.out, HAC.out, Int.toNat_natCast]
     ·by_cases e : k = j
      ·rw [e, HCJ.out, HHV.out];omega
      ·exact HA.out k (by omega)
     ·simp only [RowKit.intOf];omega
end Go.Proofs.YtlblkajnmdhmdaaGreatDoor
namespace Go.Proofs.YtlblkajnmdhmdaaGreatDoor
set_option linter.unusedVariables false
open Go.RowKit Lib Go.Op NR
theorem dec_res (s : ByteArray) (P : Nat) (E : Int) : NB.decAns s P E = nmRes (decI s P) (numW s P E) := by
 unfold NB.decAns nmRes;cases decI s P <;> rfl
theorem no_point {s : ByteArray} {P : Nat} (h : (scan s P).dot = false) : ∀ k, k < P → bt s k ≠ 46 := fun k hk h46 => by
 rw [dot_pt] at h;have h0 := of_decide_eq_false h;have h1 := pt_mono (s := s) (show k + 1 ≤ P from hk);have h2 : pt s (k + 1) = pt s k + 1 := if_pos h46;omega
theorem vals_fdig {s : ByteArray} (h : ∀ k, k < s.size → bt s k ≠ 46) : ∀ k, k ≤ s.size → valS 0 (s.data.toList.take k) = fdig s k
 | 0, _ => rfl
 | k + 1, hk => by
  have ih := vals_fdig h k (by omega);have hks : k < s.size := hk;have hl : k < s.data.toList.length := (by rw [Array.length_toList]; exact hks);rw [List.take_succ_eq_append_getElem hl];unfold valS at ih ⊢;rw [List.foldl_append, ih, fdig_dig (h k hks), bt_of_lt hks];rfl
theorem int_dec {s : ByteArray} {P : Nat} (hP : P = s.size) (hD : Digs s P) (hdot : (scan s P).dot = false) : (∀ b ∈ s.data.toList, isD b.toNat) ∧ s.data.toList ≠ [] ∧ intVal s.data.toList = decI s P := by
 subst hP;have hno := no_point hdot;have hv := vals_fdig hno s.size (Nat.le_refl _);have hlen : s.data.toList.length = s.size := Array.length_toList;rw [List.take_of_length_le (Nat.le_of_eq hlen)] at hv;refine ⟨fun b hb => ?_, fun h0 => ?_, ?_⟩
 ·obtain ⟨k, hk, rfl⟩ := List.getElem_of_mem hb;rw [hlen] at hk;have h1 := (hD.2.2.1 k hk).resolve_left (fun h => hno k hk h.1);rw [bt_of_lt hk] at h1;exact h1
 ·have := hD.1;rw [h0] at hlen;simp at hlen;omega
 ·unfold intVal decI;rw [hv];by_cases h : fdig s s.size < 9223372036854775808
  ·rw [if_pos h, if_pos ⟨rfl, hdot, h⟩]
  ·rw [if_neg h, if_neg (fun hh => h hh.2.2)]
theorem hex_no {s : ByteArray} (h : IsHex s) : ∀ P E, ¬ IsDec s P E := fun P E hd => by
 obtain ⟨h1, h2, h3⟩ := h;obtain ⟨⟨d1, d2, d3, d4⟩, ht⟩ := hd;by_cases hP : 2 ≤ P
 ·have := d3 1 (by omega);unfold isD at this;omega
 ·have e : P = 1 := (by omega);subst e
  rcases ht with ⟨h, _⟩ | ⟨q, neg, ⟨_, h, _⟩, _⟩ <;> omega
theorem numeral_any (s : ByteArray) (o : Option (Bool × Int × Nat)) (w : World) (hA : NB.Ans s o) (hR : RdTabs w) (hS : SlowT w w.heap.size) :
  Calls Tryz.prog 24 #[.string s] w fun r w' => r = nmEnd o ∧ Below w.heap.size w w' := by
 rcases hA with ⟨hbig, rfl⟩ | ⟨hs, hx, rfl⟩ | ⟨hs, hx, ⟨P, E, hd, rfl⟩ | ⟨hno, rfl⟩⟩
 ·exact numeral_none s w (Or.inl hbig)
 ·by_cases h2 : 2 < s.size
  ·exact numeral_hex s w hs h2 hx
  ·have e : NB.hexAns (s.extract 2 s.size) = none := by
    unfold NB.hexAns;rw [if_neg (fun h => by have := h.1; rw [ByteArray.size_extract] at this; omega)]
   rw [e];exact numeral_none s w (Or.inr ⟨hs, fun h => h2 h.1, hex_no hx⟩)
 ·rw [dec_res];refine numeral_dec s P (numW s P E) (decI s P) w hs hd.1 ?_ (NU.word_le _ _) ?_ ?_ ?_
  ·rcases hd.2 with ⟨h, _⟩ | ⟨q, neg, h, _⟩
   ·exact Or.inl h
   ·exact Or.inr ⟨q, neg, h⟩
  ·intro hP hdot w' hb;obtain ⟨h1, h2, h3⟩ := int_dec hP hd.1 hdot;have hlen : s.data.toList.length = s.size := Array.length_toList;have h4 := parseInt_any h1 h2 (by omega) w' (hR.below hb).rng;rw [h3] at h4;exact h4
  ·intro h;unfold decI;rw [if_neg (fun hh => h ⟨hh.1, hh.2.1⟩)]
  ·exact fun w' hb => parseF_any s P E w' hs hd (hR.below hb) (hS.below hb)
 ·exact numeral_none s w (Or.inr ⟨hs, fun h => hx h.2, hno⟩)
end Go.Proofs.YtlblkajnmdhmdaaGreatDoor
