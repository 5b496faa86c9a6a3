/-
  Walk: the program's numeral at a decimal numeral.
-/
import Derived.Test.YtlblkajnmdhmdaaGreatDoorZNNs
import Derived.Test.YtlblkajnmdhmdaaGreatDoorZNPr
import Derived.Laws.Closers25
namespace Go.Proofs.YtlblkajnmdhmdaaGreatDoor
set_option linter.unusedVariables false
open Go.RowKit Lib Go.Op NR
/-- What numeral answers: a number, or none. -/
def nmEnd : Option (Bool × Int × Nat) → Ending
 | some (f, i, u) => .returned (.tuple #[.agg #[.bool f, .int .i64 i, .float .f64 u], .bool true])
 | none => .returned (.tuple #[.agg #[.bool false, .int .i64 0, .float .f64 0], .bool false])
def nmRes (iv : Option Int) (W : Nat) : Option (Bool × Int × Nat) := match iv with | some v => some (false, v, 0) | none => if W < 2047 * 2 ^ 52 then some (true, 0, W) else none
theorem nblk_cell {w : World} {b : Nat} {c : Array Value} {t : TypeId} (h : w.heap[b]? = some (.cells c t (0, 0))) (i : Nat) : w.cell? ⟨b, i, none⟩ = c[i]? := by simp [World.cell?, h]
theorem nblk_set {w : World} {b : Nat} {c : Array Value} {t : TypeId} (h : w.heap[b]? = some (.cells c t (0, 0))) (i : Nat) (v : Value) :
  (w.setCell ⟨b, i, none⟩ v).heap[b]? = some (.cells (c.setIfInBounds i v) t (0, 0)) := by
 have hlt : b < w.heap.size := (Array.getElem?_eq_some_iff.1 h).1;have h' : w.heap[b] = .cells c t (0, 0) := (by simpa [Array.getElem?_eq_getElem hlt] using h);show (w.heap.modify b _)[b]? = _;rw [Array.getElem?_eq_getElem (by simpa using hlt), Array.getElem_modify_self, h'];rfl
theorem res_num {W : World} {b : Nat} {c : Array Value} {x y z v : Value} {tmps : Array Value} (h : W.heap[b]? = some (.cells c 50 (0, 0))) (hc : c = #[x, y, z]) (h2 : tmps[2]? = some (.pointer (some ⟨b, 0, none⟩))) (h3 : tmps[3]? = some v) :
  (results Tryz.f24 tmps).run Tryz.prog W = .ok (.tuple #[.agg #[x, y, z], v]) W := by
 subst hc;have q0 := nblk_cell h 0;have q1 := nblk_cell h 1;have q2 := nblk_cell h 2;simp at q0 q1 q2;simp [results, Tryz.results24, go_sem, h2, h3, q0, q1, q2]
theorem set3 {w w3 : World} {x y z : Value} (hB : Below w.heap.size w w3) (hh : w3.heap[w.heap.size]? = some (.cells #[.bool false, .int .i64 0, .float .f64 0] 50 (0, 0))) :
  (((w3.setCell ⟨w.heap.size, 0, none⟩ x).setCell ⟨w.heap.size, 1, none⟩ y).setCell ⟨w.heap.size, 2, none⟩ z).heap[w.heap.size]? = some (.cells #[x, y, z] 50 (0, 0)) ∧ Below w.heap.size w (((w3.setCell ⟨w.heap.size, 0, none⟩ x).setCell ⟨w.heap.size, 1, none⟩ y).setCell ⟨w.heap.size, 2, none⟩ z) :=
 ⟨nblk_set (nblk_set (nblk_set hh 0 x) 1 y) 2 z, ((hB.setCell (Nat.le_refl _) _).setCell (Nat.le_refl _) _).setCell (Nat.le_refl _) _⟩
theorem step_dot' {r : RS} {c : Nat} (h : isD c) : (NR.step r c).dot = r.dot := by
 unfold isD at h;unfold NR.step;rw [if_neg (by omega)];split
 ·rfl
 ·split <;> rfl
set_option maxRecDepth 100000 in
set_option maxHeartbeats 4000000 in
theorem numeral_dec (s : ByteArray) (P W : Nat) (iv : Option Int) (w : World) (hs : s.size ≤ 100) (hD : Digs s P) (hE : P = s.size ∨ ∃ q neg, HasExp s P q neg) (hW : W ≤ 2047 * 2 ^ 52)
  (hPI : P = s.size → (scan s P).dot = false → ∀ w', Below w.heap.size w w' → Calls Tryz.prog 48 #[.string s, .int .i64 10, .int .i64 64] w' fun r w2 => (∃ v er, r = .returned (.tuple #[.int .i64 v, er]) ∧ ((er = .nilIface ∧ iv = some v) ∨ ((∃ t p, er = .iface t p) ∧ iv = none))) ∧ Below w'.heap.size w' w2)
  (hiv : ¬ (P = s.size ∧ (scan s P).dot = false) → iv = none)
  (hPF : ∀ w', Below w.heap.size w w' → Calls Tryz.prog 49 #[.string s, .int .i64 64] w' (PrPost W w')) :
  Calls Tryz.prog 24 #[.string s] w fun r w' => r = nmEnd (nmRes iv W) ∧ Below w.heap.size w w' := by
 have hP1 := hD.1;have hP2 := hD.2.1;have hd1 : decide ((100 : Int) < (s.size : Int)) = false := decide_eq_false (by omega);have hd2 : s.toList.isEmpty = false := (decide_eq_emptyBytes s).symm.trans (decide_eq_false (fun h => by rw [h] at hP2; simp at hP2; omega));have HD := hid hD;have HE := hid hE;have HPI := hid hPI;have HIV := hid hiv;have HPF := hid hPF;have HW := hid hW;clear hD hE hPI hiv hPF hW
 have hx : 2 < s.size → bt s 1 ≠ 120 ∧ bt s 1 ≠ 88 := fun h2 => by
  by_cases hP : 2 ≤ P
  ·rcases HD.out.2.2.1 1 (by omega) with ⟨h, _⟩ | h
   ·omega
   ·unfold isD at h;omega
  ·have e1 : P = 1 := (by omega);subst e1
   rcases HE.out with h | ⟨q, neg, ⟨_, h, _⟩⟩
   ·omega
   ·omega
 have HX := hid hx;clear hx;have hs0 : 0 < s.size := (by omega);go_enter Tryz.func24, Tryz.ntmps24
 go_upto_region 3 with fail
 go_cut [42] from 25 to 42 (fun v42 wx => v42 = .bool false ∧ wx = w.alloc (.cells #[.bool false, .int .i64 0, .float .f64 0] 50))
 case first =>
  by_cases h2 : 2 < s.size
  ·obtain ⟨h1, h3⟩ := HX.out h2;have hd3 : decide ((2 : Int) < (s.size : Int)) = true := decide_eq_true (by omega);have h1s : 1 < s.size := (by omega);rw [bt_of_lt h1s] at h1 h3;have c1 : ((s[1].toNat : Int) == 120) = false := (by simp; omega);have c2 : ((s[1].toNat : Int) == 88) = false := (by simp; omega);clear h1 h3;by_cases h48 : (((s[0]'hs0).toNat : Int) == 48) = true
   ·go_wp2_with fail
    go_meet;exact ⟨rfl, rfl⟩
   ·have h48' := Bool.eq_false_iff.2 h48
    go_wp2_with fail
    go_meet;exact ⟨rfl, rfl⟩
  ·have hd3 : decide ((2 : Int) < (s.size : Int)) = false := decide_eq_false (by omega)
   go_wp2_with fail
   go_meet;exact ⟨rfl, rfl⟩
 case rest =>
  obtain ⟨rfl, hwc⟩ := hcut;have HWC := hid hwc;clear hwc
  go_upto_block 2 with fail
  go_cut [8, 9, 10] from 65 to 84 (fun v8 v9 v10 wx => wx = wc ∧ ∃ (d : Nat) (dt : Bool), v8 = .int .i64 P ∧ v9 = .int .i64 d ∧ v10 = .bool dt ∧ 0 < d ∧ d ≤ P ∧ Hid ((scan s P).dot = dt))
  case first =>
   go_wp2_with fail
   go_loopw [8, 9, 10] (fun v8 v9 v10 wx => wx = wc ∧ ∃ (k d : Nat) (dt : Bool), k ≤ P ∧ v8 = .int .i64 k ∧ v9 = .int .i64 d ∧ v10 = .bool dt ∧ d ≤ k ∧ Hid ((scan s k).dot = dt) ∧ Hid (0 < d ↔ (scan s k).dig = true)) (fun v8 _ _ _ => P - (RowKit.intOf v8).toNat)
   case atStart => exact ⟨rfl, 0, 0, false, by omega, rfl, rfl, rfl, by omega, hid rfl, hid (by simp [scan])⟩
   case round =>
    obtain ⟨rfl, k, d, dt, hk, rfl, rfl, rfl, hdk, HDT, HDG⟩ := hrel;by_cases hkP : k = P
    ·subst hkP;have hdd : 0 < d := HDG.out.2 HD.out.2.2.2
     rcases HE.out with h1 | ⟨q, neg, h1, h2, _⟩
     ·have hlt : decide ((k : Int) < s.size) = false := decide_eq_false (by omega)
      go_wp2_with fail
      go_meet;exact ⟨rfl, d, dt, rfl, rfl, rfl, hdd, hdk, HDT⟩
     ·have hlt : decide ((k : Int) < s.size) = true := decide_eq_true (by omega);rw [bt_of_lt h1] at h2;have c2 : ((s[k].toNat : Int) == 46) = false := (by simp; omega);have HI := hid (isDigit_no (s[k].toNat : Int) (by omega));clear h2
      go_wp2_with (go_at_call 47; refine (HI.out _).mono ?_; rintro e w' ⟨rfl, rfl⟩)
      go_meet;exact ⟨rfl, d, dt, rfl, rfl, rfl, hdd, hdk, HDT⟩
    ·have hkP' : k < P := (by omega);have hks : k < s.size := (by omega);have hlt : decide ((k : Int) < s.size) = true := decide_eq_true (by omega);have hc := HD.out.2.2.1 k hkP';have hstep : scan s (k + 1) = NR.step (scan s k) (bt s k) := rfl;rw [bt_of_lt hks] at hc hstep
     rcases hc with ⟨hc, hdot⟩ | hc
     ·have c2 : ((s[k].toNat : Int) == 46) = true := (by simp; omega);have hdt := HDT.out;rw [hdot] at hdt;subst hdt;have HI := hid (isDigit_no (s[k].toNat : Int) (by omega))
      have hn : (scan s (k + 1)).dot = true ∧ (scan s (k + 1)).dig = (scan s k).dig := by
       rw [hstep, hc];exact ⟨rfl, rfl⟩
      have HN := hid hn;clear hn hstep hc hdot
      go_wp2_with (go_at_call 47; refine (HI.out _).mono ?_; rintro e w' ⟨rfl, rfl⟩)
      go_roundw
      case rel => exact ⟨trivial, k + 1, d, true, by omega, by go_num, rfl, rfl, by omega, hid HN.out.1, hid (by rw [HN.out.2]; exact HDG.out)⟩
      case measure => simp [RowKit.intOf]; omega
     ·have hcd : isD s[k].toNat := hc;unfold isD at hc;have HI := hid (isDigit_yes (s[k].toNat : Int) (by omega) (by omega))
      have hn : (scan s (k + 1)).dot = dt ∧ (scan s (k + 1)).dig = true := by
       rw [hstep];refine ⟨(step_dot' hcd).trans HDT.out, ?_⟩;unfold NR.step;rw [if_neg (by omega)];split
       ·rfl
       ·split <;> rfl
      have HN := hid hn;clear hn hstep hc hcd
      go_wp2_with (go_at_call 47; refine (HI.out _).mono ?_; rintro e w' ⟨rfl, rfl⟩)
      go_roundw
      case rel => exact ⟨trivial, k + 1, d + 1, dt, by omega, by go_num, by go_num, rfl, by omega, hid HN.out.1, hid ⟨fun _ => HN.out.2, fun _ => by omega⟩⟩
      case measure => simp [RowKit.intOf]; omega
  case rest =>
   obtain ⟨rfl, d, dt, rfl, rfl, rfl, hd0, hdP, HDT⟩ := hcut;have hdz : ((d : Int) == 0) = false := (by simp; omega);obtain ⟨wh, hwh⟩ : ∃ wh : Bool, wh = (!dt && decide (P = s.size)) := ⟨_, rfl⟩;have HWH := hid hwh;clear hwh
   go_upto_region 23 with fail
   go_cut [11] from 88 to 95 (fun v11 wx => v11 = .bool wh ∧ wx = wc)
   case first =>
    have hwh := HWH.out;clear HWH;cases dt
    ·by_cases hp : P = s.size
     ·subst hp;rw [decide_eq_true rfl] at hwh;subst hwh
      go_wp2_with fail
      go_meet;exact ⟨rfl, rfl⟩
     ·rw [decide_eq_false hp] at hwh;subst hwh;have hpe : ((P : Int) == (s.size : Int)) = false := (by simp; omega)
      go_wp2_with fail
      go_meet;exact ⟨rfl, rfl⟩
    ·subst hwh
     go_wp2_with fail
     go_meet;exact ⟨rfl, rfl⟩
   case rest =>
    obtain ⟨rfl, rfl⟩ := hcut
    go_upto_if 99 with fail
    obtain ⟨lb, hlb⟩ : ∃ lb : Bool, decide (P < s.size) = lb := ⟨_, rfl⟩;rw [hlb];have HLB := hid hlb;clear hlb
    go_cut [8, 12] from 100 to 153 (fun _ _ wx => wx = wc)
    case first =>
     rcases HE.out with hp | ⟨q, neg, x1, x2, x3, x4, x5, x6⟩
     ·obtain rfl : false = lb := (decide_eq_false (by omega)).symm.trans HLB.out
      go_wp2_with fail
      go_meet;rfl
     ·obtain rfl : true = lb := (decide_eq_true x1).symm.trans HLB.out;rw [bt_of_lt x1] at x2
      have hP1 : P + 1 < s.size := by rcases x6 with ⟨h, _⟩ | ⟨h, _⟩ | ⟨h, _⟩ <;> omega
      obtain ⟨sb, hsb1, hsb2⟩ : ∃ sb : Bool, (sb = true → q = P + 2 ∧ (bt s (P + 1) = 43 ∨ bt s (P + 1) = 45)) ∧ (sb = false → q = P + 1) := by
       rcases x6 with ⟨h, _⟩ | ⟨h, h', _⟩ | ⟨h, h', _⟩
       ·exact ⟨false, (fun h => by cases h), fun _ => h⟩
       ·exact ⟨true, fun _ => ⟨h, Or.inl h'⟩, (fun h => by cases h)⟩
       ·exact ⟨true, fun _ => ⟨h, Or.inr h'⟩, (fun h => by cases h)⟩
      have X5 := hid x5;have SB1 := hid hsb1;have SB2 := hid hsb2;have X2 := hid x2;clear x2 x5 x6 hsb1 hsb2;obtain ⟨p1, hp1⟩ : ∃ p1 : Nat, p1 = P + 1 := ⟨_, rfl⟩;have HP1 := hid hp1;have hp1s : p1 < s.size := (by omega)
      go_upto_region 25 with fail
      go_cut [109] from 100 to 109 (fun v109 wx => v109 = .bool false ∧ wx = wc)
      case first =>
       rcases X2.out with h | h
       ·have c1 : ((s[P].toNat : Int) != 101) = false := (by simp; omega);clear h
        go_wp2_with fail
        go_meet;exact ⟨rfl, rfl⟩
       ·have c1 : ((s[P].toNat : Int) != 101) = true := (by simp; omega);have c2 : ((s[P].toNat : Int) != 69) = false := (by simp; omega);clear h
        go_wp2_with fail
        go_meet;exact ⟨rfl, rfl⟩
      case rest =>
       obtain ⟨rfl, rfl⟩ := hcut
       go_upto_region 28 with fail
       rw [show Value.int .i64 ((P : Int) + 1) = Value.int .i64 (p1 : Int) from congrArg (Value.int .i64) (by omega)];clear hp1
       go_cut [128] from 113 to 128 (fun v128 wx => v128 = .bool sb ∧ wx = wc)
       case first =>
        have hlt : decide ((p1 : Int) < (s.size : Int)) = true := decide_eq_true (by omega);cases sb
        ·have h5 := X5.out p1 (by have := SB2.out rfl; have := HP1.out; omega) hp1s;unfold isD at h5;rw [bt_of_lt hp1s] at h5;have c1 : ((s[p1].toNat : Int) == 43) = false := (by simp; omega);have c2 : ((s[p1].toNat : Int) == 45) = false := (by simp; omega);clear h5
         go_wp2_with fail
         go_meet;exact ⟨rfl, rfl⟩
        ·have h5 := (SB1.out rfl).2;rw [← HP1.out, bt_of_lt hp1s] at h5
         rcases h5 with h | h
         ·have c1 : ((s[p1].toNat : Int) == 43) = true := (by simp; omega);clear h
          go_wp2_with fail
          go_meet;exact ⟨rfl, rfl⟩
         ·have c1 : ((s[p1].toNat : Int) == 43) = false := (by simp; omega);have c2 : ((s[p1].toNat : Int) == 45) = true := (by simp; omega);clear h
          go_wp2_with fail
          go_meet;exact ⟨rfl, rfl⟩
       case rest =>
        obtain ⟨rfl, rfl⟩ := hcut
        go_upto_if 128 with fail
        go_cut [8] from 129 to 130 (fun v8 wx => v8 = .int .i64 q ∧ wx = wc)
        case first =>
         cases sb
         ·have HQ := hid (SB2.out rfl)
          go_wp2_with fail
          go_meet;have h := HQ.out;have h' := HP1.out;exact ⟨congrArg (Value.int .i64) (by omega), rfl⟩
         ·have HQ := hid (SB1.out rfl).1
          go_wp2_with fail
          go_meet;have h := HQ.out;have h' := HP1.out;exact ⟨congrArg (Value.int .i64) (by omega), rfl⟩
        case rest =>
         obtain ⟨rfl, rfl⟩ := hcut;have n1 : decide ((s.size : Int) - q < 1) = false := decide_eq_false (by omega);have n2 : decide ((3 : Int) < (s.size : Int) - q) = false := decide_eq_false (by omega)
         go_wp2_with fail
         go_loopw [8] (fun v8 wx => wx = wc ∧ ∃ k : Nat, q ≤ k ∧ k ≤ s.size ∧ v8 = .int .i64 k) (fun v8 _ => s.size - (RowKit.intOf v8).toNat)
         case atStart => exact ⟨rfl, q, Nat.le_refl _, by omega, rfl⟩
         case round =>
          obtain ⟨rfl, k, hqk, hks, rfl⟩ := hrel;by_cases hke : k = s.size
          ·have hlt : decide ((k : Int) < (s.size : Int)) = false := decide_eq_false (by omega)
           go_wp2_with fail
           go_meet;rfl
          ·have hks' : k < s.size := (by omega);have hlt : decide ((k : Int) < (s.size : Int)) = true := decide_eq_true (by omega);have h5 := X5.out k hqk hks';unfold isD at h5;rw [bt_of_lt hks'] at h5;have HI := hid (isDigit_yes (s[k].toNat : Int) (by omega) (by omega));clear h5
           go_wp2_with (go_at_call 47; refine (HI.out _).mono ?_; rintro e w' ⟨rfl, rfl⟩)
           go_roundw
           case rel => exact ⟨trivial, k + 1, by omega, by omega, by go_num⟩
           case measure => simp [RowKit.intOf]; omega
    case rest =>
     subst hcut;obtain ⟨wo, hwo⟩ : ∃ wo : World, wo = wc := ⟨_, rfl⟩;subst hwo;have hB1 : Below w.heap.size w wo := (by rw [HWC.out]; exact (Below.refl w.heap.size w).alloc (Nat.le_refl _) _);have hsz : w.heap.size < wo.heap.size := (by rw [HWC.out]; simp)
     have hcell : ∀ w', Below wo.heap.size wo w' → w'.heap[w.heap.size]? = some (.cells #[.bool false, .int .i64 0, .float .f64 0] 50 (0, 0)) := fun w' hb => by
      rw [hb.block _ hsz, HWC.out];exact Array.getElem?_push_size
     have HB1 := hid hB1;have HCELL := hid hcell;have HSZ := hid hsz;clear hB1 hcell hsz
     go_upto_if 154 with fail
     go_cut [13, 14] from 155 to 163 (fun _ _ wx => Below wo.heap.size wo wx ∧ iv = none)
     case first =>
      cases wh
      ·go_wp2_with fail
       go_meet;refine ⟨Below.refl _ _, HIV.out ?_⟩;rintro ⟨h1, h2⟩;have := HWH.out;rw [← HDT.out, h2, decide_eq_true h1] at this;cases this
      ·have hwh : P = s.size ∧ (scan s P).dot = false := by
        have := HWH.out;cases dt
        ·exact ⟨by simpa using this, HDT.out⟩
        ·simp at this
       have hpi := HPI.out hwh.1 hwh.2 wo HB1.out;have HPI1 := hid hpi;clear hpi hwh
       go_wp2_with fail
       refine HPI1.out.mono ?_;rintro r w2 ⟨⟨v, er, rfl, hv⟩, hb2⟩;have HB2 := hid hb2;clear hb2
       rcases hv with ⟨rfl, hiv⟩ | ⟨⟨t, p, rfl⟩, hiv⟩
       ·have HIVV := hid hiv;clear hiv
        go_wp2_with fail
        refine (intN_any v w2).mono ?_;rintro r w3 ⟨rfl, hb3⟩;have HB3 : Hid (Below wo.heap.size wo w3) := hid (HB2.out.trans (hb3.mono HB2.out.size));clear hb3;have hh := HCELL.out w3 HB3.out;have c0 : w3.cell? ⟨w.heap.size, 0, none⟩ = some (.bool false) := (by simp [World.cell?, hh]);have c1 : w3.cell? ⟨w.heap.size, 1, none⟩ = some (.int .i64 0) := (by simp [World.cell?, hh]);have c2 : w3.cell? ⟨w.heap.size, 2, none⟩ = some (.float .f64 0) := (by simp [World.cell?, hh]);have f0 : w3.frozen? ⟨w.heap.size, 0, none⟩ = false := (by simp [World.frozen?, hh]);have f1 : w3.frozen? ⟨w.heap.size, 1, none⟩ = false := (by simp [World.frozen?, hh]);have f2 : w3.frozen? ⟨w.heap.size, 2, none⟩ = false := (by simp [World.frozen?, hh]);have HH := hid hh;clear hh
        go_wp2_with fail
        rw [store_float];go_simp
        go_wp2_with fail
        obtain ⟨r1, r2⟩ := set3 (x := .bool false) (y := .int .i64 v) (z := .float .f64 0) (HB1.out.trans (HB3.out.mono (Nat.le_of_lt HSZ.out))) HH.out;refine bodyPost_ret (res_num r1 rfl rfl rfl) rfl ⟨?_, r2⟩;rw [HIVV.out];rfl
       ·have HIVV := hid hiv;clear hiv
        go_wp2_with fail
        go_meet;exact ⟨HB2.out, HIVV.out⟩
     case rest =>
      obtain ⟨hb2, hiv⟩ := hcut;subst hiv;have HB2 := hid hb2;clear hb2;have HPF1 := hid (HPF.out _ (HB1.out.trans (HB2.out.mono (Nat.le_of_lt HSZ.out))))
      go_wp2_with fail
      refine HPF1.out.mono ?_;rintro r w3 ⟨⟨er, rfl, he1, he2⟩, hb3⟩;have HB3 : Hid (Below wo.heap.size wo w3) := hid (HB2.out.trans (hb3.mono HB2.out.size));clear hb3;by_cases hW : W < 2047 * 2 ^ 52
      ·obtain rfl := he1 hW;have HFL := hid (fltN_num W w3 ((NU.ord_self (by omega)).trans (decide_eq_true (by rw [Nat.mod_eq_of_lt (by omega)]; omega))));have HWW := hid hW;clear hW he1 he2
       go_wp2_with fail
       refine HFL.out.mono ?_;rintro r w4 ⟨rfl, hb4⟩;have HB4 : Hid (Below wo.heap.size wo w4) := hid (HB3.out.trans (hb4.mono HB3.out.size));clear hb4;have hh := HCELL.out w4 HB4.out;have c0 : w4.cell? ⟨w.heap.size, 0, none⟩ = some (.bool false) := (by simp [World.cell?, hh]);have c1 : w4.cell? ⟨w.heap.size, 1, none⟩ = some (.int .i64 0) := (by simp [World.cell?, hh]);have c2 : w4.cell? ⟨w.heap.size, 2, none⟩ = some (.float .f64 0) := (by simp [World.cell?, hh]);have f0 : w4.frozen? ⟨w.heap.size, 0, none⟩ = false := (by simp [World.frozen?, hh]);have f1 : w4.frozen? ⟨w.heap.size, 1, none⟩ = false := (by simp [World.frozen?, hh]);have f2 : w4.frozen? ⟨w.heap.size, 2, none⟩ = false := (by simp [World.frozen?, hh]);have HH := hid hh;clear hh
       go_wp2_with fail
       rw [store_float];go_simp
       go_wp2_with fail
       obtain ⟨r1, r2⟩ := set3 (x := .bool true) (y := .int .i64 0) (z := .float .f64 W) (HB1.out.trans (HB4.out.mono (Nat.le_of_lt HSZ.out))) HH.out;refine bodyPost_ret (res_num r1 rfl rfl rfl) rfl ⟨?_, r2⟩;unfold nmRes;rw [if_pos HWW.out];rfl
      ·obtain ⟨t, v, rfl⟩ := he2 hW;have hWe : W = 2047 * 2 ^ 52 := (by have := HW.out; omega);have HIF := hid (isinf_any W true (by omega) w3 ((NU.ord_max (by omega)).trans (decide_eq_true (by omega))));have HWW := hid hW;clear hW he1 he2 hWe;have hh := HCELL.out w3 HB3.out;have c0 : w3.cell? ⟨w.heap.size, 0, none⟩ = some (.bool false) := (by simp [World.cell?, hh]);have c1 : w3.cell? ⟨w.heap.size, 1, none⟩ = some (.int .i64 0) := (by simp [World.cell?, hh]);have c2 : w3.cell? ⟨w.heap.size, 2, none⟩ = some (.float .f64 0) := (by simp [World.cell?, hh]);have f0 : w3.frozen? ⟨w.heap.size, 0, none⟩ = false := (by simp [World.frozen?, hh]);have f1 : w3.frozen? ⟨w.heap.size, 1, none⟩ = false := (by simp [World.frozen?, hh]);have f2 : w3.frozen? ⟨w.heap.size, 2, none⟩ = false := (by simp [World.frozen?, hh]);have HH := hid hh;clear hh
       go_wp2_with (go_at_call 50; refine HIF.out.mono ?_; rintro e w' ⟨rfl, rfl⟩)
       rw [store_float];go_simp
       go_wp2_with fail
       obtain ⟨r1, r2⟩ := set3 (x := .bool false) (y := .int .i64 0) (z := .float .f64 0) (HB1.out.trans (HB3.out.mono (Nat.le_of_lt HSZ.out))) HH.out;refine bodyPost_ret (res_num r1 rfl rfl rfl) rfl ⟨?_, r2⟩;unfold nmRes;rw [if_neg HWW.out];rfl
end Go.Proofs.YtlblkajnmdhmdaaGreatDoor
