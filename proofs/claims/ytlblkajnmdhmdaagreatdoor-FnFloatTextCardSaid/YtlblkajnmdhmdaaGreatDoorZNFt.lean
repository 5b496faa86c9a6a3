/-
  Walk: the library's ftoa64 at the format 'e'.
-/
import Derived.Test.YtlblkajnmdhmdaaGreatDoorZNEf
import Derived.Test.YtlblkajnmdhmdaaGreatDoorZNFd
import Derived.Lib.AppendIntMem
namespace Go.Proofs.YtlblkajnmdhmdaaGreatDoor
set_option linter.unusedVariables false
open Go.RowKit Lib
theorem i64_and_nat' (a b : Nat) (ha : a < 9223372036854775808) (hb : b < 9223372036854775808) : bits .and .i64 (a : Int) (b : Int) = ((a &&& b : Nat) : Int) := by
  have hx : a &&& b < 2 ^ 63 := Nat.and_lt_two_pow _ (by omega)
  have h1 : ∀ c : Nat, c < 9223372036854775808 → (BitVec.ofInt 64 (c : Int)).toNat = c := fun c hc => by rw [BitVec.ofInt_natCast, BitVec.toNat_ofNat]; exact Nat.mod_eq_of_lt (by omega)
  show IntKind.i64.wrap ((BitVec.ofInt 64 (a : Int) &&& BitVec.ofInt 64 (b : Int)).toNat : Int) = _
  rw [BitVec.toNat_and, h1 a ha, h1 b hb, IntKind.wrap_i64]
  omega
theorem exp_at {u : Nat} (hu : u < 2047 * 2 ^ 52) : bits .and .i64 ((u : Int) / 4503599627370496) 2047 = ((u / 2 ^ 52 : Nat) : Int) := by
  have hq : u / 2 ^ 52 < 2047 := (Nat.div_lt_iff_lt_mul (by decide)).2 hu
  rw [show ((u : Int) / 4503599627370496) = ((u / 2 ^ 52 : Nat) : Int) by omega]
  have := i64_and_nat' (u / 2 ^ 52) 2047 (by omega) (by decide)
  rw [show (2047 : Nat) = 2 ^ 11 - 1 by decide, Nat.and_two_pow_sub_one_eq_mod, Nat.mod_eq_of_lt (by omega)] at this
  exact this
theorem man_at {u : Nat} (hu : u < 2 ^ 64) : bits .and .u64 (u : Int) 4503599627370495 = ((u % 2 ^ 52 : Nat) : Int) := by
  have := bits_and_u64_nat u 4503599627370495 (by omega) (by decide)
  rw [show (4503599627370495 : Nat) = 2 ^ 52 - 1 by decide, Nat.and_two_pow_sub_one_eq_mod] at this
  exact this
theorem hid_at {r : Nat} (h : r < 2 ^ 52) : bits .or .u64 (r : Int) 4503599627370496 = ((r + 2 ^ 52 : Nat) : Int) := by
  have := or_high (a := r) (b := 1) h (by decide)
  rw [Nat.one_mul] at this
  rw [Nat.add_comm]
  exact this
theorem below_putRow {B : Nat} {a w : World} (h : Below B a w) {blk : Nat} (hB : B ≤ blk) (off : Nat) (d : Array UInt8) : Below B a (Go.Sort.putRow encB w blk off d) := by
  refine ⟨h.os, h.tape, h.output, ?_, fun k hk => ?_⟩
  · show a.heap.size ≤ (w.heap.modify blk _).size
    rw [Array.size_modify]
    exact h.size
  · show (w.heap.modify blk _)[k]? = _
    rw [Array.getElem?_modify, if_neg (by omega)]
    exact h.block k hk
theorem only_of_below' {a w : World} (h : Below a.heap.size a w) (row : Option Nat) : a.grownBy w row := ⟨h.os, h.tape, h.output, h.size, fun i hi _ => h.block i hi⟩
theorem st_moved {w w3 : World} {B g : Nat} (h : St w w B g []) (hb : Below w.heap.size w w3) : St w3 w3 B g [] :=
  ⟨h.1.kept (row := none) (only_of_below' hb none) (Or.inr (by simp [Value.ownBlock])), World.grownBy.refl _ _⟩
theorem post_moved {w w3 w' : World} {B g : Nat} {t : List UInt8} {r : Ending} (hb : Below w.heap.size w w3) (h : EfPost w3 B g t r w') : EfPost w B g t r w' :=
  ⟨h.1, h.2.1, grown_trans' (only_of_below' hb _) h.2.2⟩
theorem buf_holds {W w1 : World} {t : TypeId} (hb : Below (W.alloc (.cells (Array.replicate 24 (.int .u8 0)) t)).heap.size (W.alloc (.cells (Array.replicate 24 (.int .u8 0)) t)) w1) {n : Nat} (hn : n ≤ 24) : Go.Sort.Holds encB w1 W.heap.size 0 (Array.replicate n (0 : UInt8)) := by
  intro j hj
  rw [Array.size_replicate] at hj
  have hlt : W.heap.size < (W.alloc (.cells (Array.replicate 24 (.int .u8 0)) t)).heap.size := by simp
  refine ⟨?_, ?_⟩
  · rw [hb.cell (p := ⟨W.heap.size, 0 + j, none⟩) hlt, Nat.zero_add, World.cell?_alloc_new, Array.getElem?_replicate, if_pos (by omega), getElem!_pos _ j (by rw [Array.size_replicate]; exact hj), Array.getElem_replicate]
    rfl
  · rw [hb.frozen (p := ⟨W.heap.size, 0 + j, none⟩) hlt]
    go_simp
/-- The text of w rounded to n + 1 digits. -/
def FtPost (w : World) (B g u n : Nat) (r : Ending) (w' : World) : Prop := ∃ (D j jx : Nat) (d0 : UInt8) (tl : List UInt8), NU.isW u j ∧ 17 ≤ j ∧ j ≤ 695 ∧ NU.digK u (n + 1) j = (D, jx) ∧ 10 ^ n ≤ D ∧ D < 10 ^ (n + 1) ∧ 24 ≤ jx ∧ jx ≤ 657 ∧ tl.length = n ∧ (∀ t, t ≤ n → (d0 :: tl)[t]! = dg D (n - t)) ∧ EfPost w B g (eText d0 tl ((jx : Int) - 348)) r w'
set_option maxRecDepth 100000 in
set_option maxHeartbeats 4000000 in
theorem ftoa_walk (B g u n : Nat) (w : World) (hst : St w w B g []) (hu0 : 0 < u) (hu : u < 2047 * 2 ^ 52) (hn : n ≤ 16) (hT : P10 w) (hT3 : T10 w) (hsz : 16 < w.heap.size) (hopt : w.cell? ⟨4, 0, none⟩ = some (.bool true)) (htab : Lib.TabIs Tryz.prog w "internal/strconv.uint64pow10" .u64 Lib.pow10Tab) :
    Calls Tryz.prog 133 #[.slice (some ⟨g, 0, none⟩) 0 24, .float .f64 u, .int .u8 101, .int .i64 n] w (FtPost w B g u n) := by
  have hneg : ((u : Int) / 9223372036854775808 != 0) = false := by simp; omega
  have HEXP := hid (exp_at hu)
  have HMAN := hid (man_at (u := u) (by omega))
  have hgw : g < w.heap.size := (hst.1.lt g rfl).2
  have HM53 := hid (NU.wM_lt u)
  have HM0 : Hid (0 < NU.wM u) := hid (by
    apply Nat.pos_of_ne_zero
    intro h0
    have h := NU.wEM u
    by_cases h1 : 0 < NU.wE u
    · have := NU.wM_ge h1; omega
    · omega)
  have HTP := hid hT
  have HT3 := hid hT3
  have HTAB := hid htab
  have HST := hid hst
  clear hT hT3 htab hst
  have hq : u / 2 ^ 52 < 2047 := (Nat.div_lt_iff_lt_mul (by decide)).2 hu
  go_enter Tryz.func133, Tryz.ntmps133
  go_wp2_with fail
  rw [bits_run]
  go_simp
  go_wp2_with fail
  go_quiet (fail)
  go_upto_region 16 with fail
  rw [HEXP.out, HMAN.out]
  obtain ⟨q, hqe⟩ : ∃ q, u / 2 ^ 52 = q := ⟨_, rfl⟩
  obtain ⟨r, hre⟩ : ∃ r, u % 2 ^ 52 = r := ⟨_, rfl⟩
  rw [hqe] at hq
  rw [hqe, hre]
  have hr : r < 4503599627370496 := by omega
  have HQ := hid hqe
  have HR := hid hre
  clear hqe hre
  obtain ⟨X, hX⟩ : ∃ X : Int, X = (NU.wE u : Int) - 1022 := ⟨_, rfl⟩
  obtain ⟨m, hm⟩ : ∃ m : Nat, m = NU.wM u := ⟨_, rfl⟩
  rw [← hm] at HM53 HM0
  by_cases h0 : q = 0
  · have hX2 : (-1022 : Int) = X := by rw [hX]; unfold NU.wE; rw [HQ.out, h0]; rfl
    have hm2 : m = r := by rw [hm]; unfold NU.wM; rw [HQ.out, if_pos h0, ← HR.out]; have := HQ.out; omega
    have HX := hid hX
    have HM := hid hm
    have HX2 := hid hX2
    subst h0
    subst hm2
    clear hX hm hX2
    go_upto_region 26 with fail
    rw [HX2.out]
    have hm0 : 0 < m := HM0.out
    have hm53 : m < 2 ^ 53 := HM53.out
    obtain ⟨b, hb⟩ : ∃ b, Lib.bitLen m = b := ⟨_, rfl⟩
    obtain ⟨b1, b2, b3, b4⟩ := bitLen_at hm0 (Nat.lt_trans hm53 (by decide))
    rw [hb] at b1 b2 b3 b4
    have HB := hid hb
    have HB34 := hid (And.intro b3 b4)
    clear hb b3 b4
    have hmz : ((m : Int) == 0) = false := by simp; omega
    have hdg : (n : Int) + 1 ≤ 18 := by omega
    have hng : decide ((n : Int) < 0) = false := decide_eq_false (by omega)
    go_upto_region 70 with (go_at_call 157; refine (flip (Tryz.bits_Len64 (m : Int) _ (by omega) (by omega))).mono ?_; rintro r w' ⟨rfl, rfl⟩; rw [Int.toNat_natCast, HB.out])
    obtain ⟨s, hs⟩ : ∃ s : Nat, (64 : Int) - b = s := ⟨64 - b, by omega⟩
    rw [hs]
    have HS := hid hs
    have hs64 : s < 64 := by omega
    clear hs
    obtain ⟨D, j, jx, P, hW, hj1, hj2, hdig, hD1, hD2, hP, hjx1, hjx2, hcall⟩ := fixed_word hu0 hu b1 (by rw [← HM.out]; exact HB34.out.1) (by rw [← HM.out]; exact HB34.out.2) (n := n + 1) (by omega) (by omega)
    rw [show (((n + 1 : Nat)) : Int) = (n : Int) + 1 by omega] at hcall hP
    have hX1 : -1022 ≤ X ∧ X ≤ 1023 := by
      have hE : NU.wE u ≤ 2045 := by
        unfold NU.wE
        have : u / 2 ^ 52 < 2047 := (Nat.div_lt_iff_lt_mul (by decide)).2 hu
        omega
      have := HX.out
      omega
    have HPURE := hid (And.intro hW (And.intro hj1 (And.intro hj2 (And.intro hdig (And.intro hD1 (And.intro hD2 hP))))))
    have HCALL := hid hcall
    have hD0 : ((D : Int) != 0) = true := by
      have : 0 < 10 ^ (n + 1 - 1) := Nat.pow_pos (by decide)
      simp
      omega
    have hmx : IntKind.u64.wrap ((m : Int) * 2 ^ s) = ((m * 2 ^ s : Nat) : Int) := by
      have e : (2 : Nat) ^ 64 = 2 ^ b * 2 ^ s := by rw [← Nat.pow_add]; exact congrArg (2 ^ ·) (by have := HS.out; omega)
      have h64 : m * 2 ^ s < 2 ^ 64 := by rw [e]; exact Nat.mul_lt_mul_of_pos_right HB34.out.2 (Nat.two_pow_pos _)
      rw [show ((m : Int) * 2 ^ s) = ((m * 2 ^ s : Nat) : Int) by simp, IntKind.wrap_u64]
      omega
    have HMX := hid hmx
    have hPb : -1000 ≤ P ∧ P ≤ 1000 := by omega
    clear hW hdig hD1 hD2 hcall hmx hP
    go_wp2_with fail
    rw [HMX.out]
    refine (HCALL.out (m * 2 ^ s) (X - s - 52) n _ (by rw [HM.out]; congr 2; have := HS.out; omega) (by have := HS.out; have := HX.out; omega) (HTP.out.below hsz ((below_drewN (Below.refl _ _) _).alloc (Nat.le_refl _) _)) (HT3.out.below hsz ((below_drewN (Below.refl _ _) _).alloc (Nat.le_refl _) _)) (by simp; omega)).mono ?_
    rintro r w1 ⟨rfl, hb1⟩
    have HB1 : Hid (Below ((w.drewN nq).alloc (Obj.cells (Array.replicate 24 (.int .u8 0)) 145)).heap.size ((w.drewN nq).alloc (Obj.cells (Array.replicate 24 (.int .u8 0)) 145)) w1) := hid hb1
    clear hb1
    go_upto_region 74 with fail
    have hbw1 : Below w.heap.size w w1 := ((below_drewN (Below.refl _ _) _).alloc (Nat.le_refl _) _).trans (HB1.out.mono (by simp))
    have HBW1 := hid hbw1
    have hnum : ∀ k, Calls Tryz.prog 127 #[.int .u64 D] (w1.drewN k) fun e w' => e = .returned (.int .i64 ((n : Int) + 1)) ∧ w1.drewN k = w' := fun k => by
      have h10 : 10 ^ n ≤ D := HPURE.out.2.2.2.2.1
      have h10' : D < 10 ^ (n + 1) := HPURE.out.2.2.2.2.2.1
      have hp : 0 < 10 ^ n := Nat.pow_pos (by decide)
      have hp17 : 10 ^ (n + 1) ≤ 10 ^ 17 := Nat.pow_le_pow_right (by decide) (by omega)
      have := flip (Tryz.internal_strconv_numDigits D (by omega) (by omega) (w1.drewN k) (tabBelow_of_tabIs HTAB.out _ (below_drewN HBW1.out k)))
      rw [nDigits_at n D h10 h10'] at this
      exact this
    have hset : ∀ k, Calls Tryz.prog 167 #[.slice (some ⟨w.heap.size, 0, none⟩) 24 24, .int .u64 D, .int .i64 P, .int .i64 ((n : Int) + 1)] (w1.drewN k) (SetPost (w1.drewN k) w.heap.size (n + 1) D P) := fun k =>
      setDigits_walk w.heap.size (n + 1) D 24 P (w1.drewN k) (Array.replicate (n + 1) 0) (by simp) (buf_holds (W := w.drewN nq) (below_drewN HB1.out k) (by omega)) (by omega) (by omega) rfl HPURE.out.2.2.2.2.2.1 HPURE.out.2.2.2.2.1 hPb
    have HNUM := hid hnum
    have HSET := hid hset
    clear hbw1 hnum hset
    go_region_with (first | (go_at_call 127; (first | refine (HNUM.out 0).mono ?_ | refine (HNUM.out 1).mono ?_ | refine (HNUM.out _).mono ?_); rintro r w' ⟨rfl, rfl⟩) | (go_at_call 167; (first | refine (HSET.out 1).mono ?_ | refine (HSET.out _).mono ?_); rintro r w' ⟨dk, nz, mm, rfl, rfl, hok⟩))
    have HOK := hid hok
    clear hok
    have hPX : (n : Int) + 1 + P = (jx : Int) - 348 + 1 := HPURE.out.2.2.2.2.2.2
    have HPX := hid hPX
    clear hPX
    go_wp2_with fail
    rw [HPX.out]
    obtain ⟨W3, hW3⟩ : ∃ W3, (Go.Sort.putRow encB (w1.drewN 1) w.heap.size 0 dk).drewN mm = W3 := ⟨_, rfl⟩
    have hbW3 : Below w.heap.size w W3 := by rw [← hW3]; exact below_drewN (below_putRow (below_drewN HBW1.out 1) (Nat.le_refl _) _ _) _
    have hcell : ∀ t, t ≤ n → W3.cell? ⟨w.heap.size, t, none⟩ = some (.int .u8 (dk[t]!.toNat : Nat)) := fun t ht => by
      rw [← hW3]
      have hh := Go.Sort.cell?_putRow encB (w1.drewN 1) w.heap.size 0 (Array.replicate (n + 1) (0 : UInt8)) dk (buf_holds (W := w.drewN nq) (below_drewN HB1.out 1) (by omega)) (by rw [HOK.out.1, Array.size_replicate]) t (by rw [HOK.out.1]; omega)
      rw [Nat.zero_add] at hh
      exact hh
    have hsz3 : w.heap.size < W3.heap.size := by
      have h1 := HB1.out.size
      have h2 : W3.heap.size = w1.heap.size := by rw [← hW3]; show (w1.heap.modify _ _).size = _; rw [Array.size_modify]
      rw [h2]
      simp at h1
      omega
    rw [hW3]
    obtain ⟨tl, htl⟩ : ∃ tl : List UInt8, tl = (List.range n).map (fun t => dk[t + 1]!) := ⟨_, rfl⟩
    have htll : tl.length = n := by rw [htl]; simp
    have htlg : ∀ t (h : t < tl.length), tl[t] = dk[t + 1]! := fun t h => by simp only [htl, List.getElem_map, List.getElem_range]
    have hpure := HPURE.out
    obtain ⟨hok1, hok2, hok3, hok4, hok5⟩ := HOK.out
    refine (efg_walk B g w.heap.size n nz ((jx : Int) - 348) dk[0]! tl W3 (st_moved HST.out hbW3) (by omega) hsz3 htll hn hok3 (by omega) (hcell 0 (by omega)) (fun t h => by rw [htlg t h]; exact hcell (t + 1) (by omega)) (fun t h h2 => by rw [htlg t h]; exact hok5 (t + 1) h2 (by omega)) (by omega)).mono ?_
    rintro r w4 hpost
    have hpost2 := post_moved hbW3 hpost
    have hfin : FtPost w B g u n r w4 := by
      refine ⟨D, j, jx, dk[0]!, tl, hpure.1, hpure.2.1, hpure.2.2.1, hpure.2.2.2.1, hpure.2.2.2.2.1, hpure.2.2.2.2.2.1, hjx1, hjx2, htll, fun t ht => ?_, hpost2⟩
      cases t with
      | zero =>
        have := hok2 0 (by omega)
        rw [show n + 1 - 1 - 0 = n - 0 by omega] at this
        exact this
      | succ t =>
        have h1 : (dk[0]! :: tl)[t + 1]! = tl[t]'(by omega) := by rw [List.getElem!_cons_succ, getElem!_pos tl t (by omega)]
        rw [h1, htlg t (by omega), hok2 (t + 1) (by omega), show n + 1 - 1 - (t + 1) = n - (t + 1) by omega]
    obtain ⟨rfl, _⟩ := hpost
    have HFIN := hid hfin
    clear hfin hpost2 hok1 hok2 hok3 hok4 hok5 hpure htlg hcell htl hW3 hbW3
    go_wp2_with fail
    go_ret
    exact HFIN.out
  · have hX2 : (q : Int) + -1023 = X := by rw [hX]; unfold NU.wE; rw [HQ.out]; omega
    have hm2 : bits .or .u64 (r : Int) 4503599627370496 = (m : Int) := by rw [hid_at (by omega), hm]; unfold NU.wM; rw [HQ.out, if_neg h0, HR.out]
    have HX := hid hX
    have HM := hid hm
    have HX2 := hid hX2
    have HM2 := hid hm2
    clear hX hm hX2 hm2
    have hq0 : ((q : Int) == 0) = false := by simp; omega
    have hq2047 : ((q : Int) == 2047) = false := by simp; omega
    go_upto_region 26 with fail
    rw [HX2.out, HM2.out]
    have hm0 : 0 < m := HM0.out
    have hm53 : m < 2 ^ 53 := HM53.out
    obtain ⟨b, hb⟩ : ∃ b, Lib.bitLen m = b := ⟨_, rfl⟩
    obtain ⟨b1, b2, b3, b4⟩ := bitLen_at hm0 (Nat.lt_trans hm53 (by decide))
    rw [hb] at b1 b2 b3 b4
    have HB := hid hb
    have HB34 := hid (And.intro b3 b4)
    clear hb b3 b4
    have hmz : ((m : Int) == 0) = false := by simp; omega
    have hdg : (n : Int) + 1 ≤ 18 := by omega
    have hng : decide ((n : Int) < 0) = false := decide_eq_false (by omega)
    go_upto_region 70 with (go_at_call 157; refine (flip (Tryz.bits_Len64 (m : Int) _ (by omega) (by omega))).mono ?_; rintro r w' ⟨rfl, rfl⟩; rw [Int.toNat_natCast, HB.out])
    obtain ⟨s, hs⟩ : ∃ s : Nat, (64 : Int) - b = s := ⟨64 - b, by omega⟩
    rw [hs]
    have HS := hid hs
    have hs64 : s < 64 := by omega
    clear hs
    obtain ⟨D, j, jx, P, hW, hj1, hj2, hdig, hD1, hD2, hP, hjx1, hjx2, hcall⟩ := fixed_word hu0 hu b1 (by rw [← HM.out]; exact HB34.out.1) (by rw [← HM.out]; exact HB34.out.2) (n := n + 1) (by omega) (by omega)
    rw [show (((n + 1 : Nat)) : Int) = (n : Int) + 1 by omega] at hcall hP
    have hX1 : -1022 ≤ X ∧ X ≤ 1023 := by
      have hE : NU.wE u ≤ 2045 := by
        unfold NU.wE
        have : u / 2 ^ 52 < 2047 := (Nat.div_lt_iff_lt_mul (by decide)).2 hu
        omega
      have := HX.out
      omega
    have HPURE := hid (And.intro hW (And.intro hj1 (And.intro hj2 (And.intro hdig (And.intro hD1 (And.intro hD2 hP))))))
    have HCALL := hid hcall
    have hD0 : ((D : Int) != 0) = true := by
      have : 0 < 10 ^ (n + 1 - 1) := Nat.pow_pos (by decide)
      simp
      omega
    have hmx : IntKind.u64.wrap ((m : Int) * 2 ^ s) = ((m * 2 ^ s : Nat) : Int) := by
      have e : (2 : Nat) ^ 64 = 2 ^ b * 2 ^ s := by rw [← Nat.pow_add]; exact congrArg (2 ^ ·) (by have := HS.out; omega)
      have h64 : m * 2 ^ s < 2 ^ 64 := by rw [e]; exact Nat.mul_lt_mul_of_pos_right HB34.out.2 (Nat.two_pow_pos _)
      rw [show ((m : Int) * 2 ^ s) = ((m * 2 ^ s : Nat) : Int) by simp, IntKind.wrap_u64]
      omega
    have HMX := hid hmx
    have hPb : -1000 ≤ P ∧ P ≤ 1000 := by omega
    clear hW hdig hD1 hD2 hcall hmx hP
    go_wp2_with fail
    rw [HMX.out]
    refine (HCALL.out (m * 2 ^ s) (X - s - 52) n _ (by rw [HM.out]; congr 2; have := HS.out; omega) (by have := HS.out; have := HX.out; omega) (HTP.out.below hsz ((below_drewN (Below.refl _ _) _).alloc (Nat.le_refl _) _)) (HT3.out.below hsz ((below_drewN (Below.refl _ _) _).alloc (Nat.le_refl _) _)) (by simp; omega)).mono ?_
    rintro r w1 ⟨rfl, hb1⟩
    have HB1 : Hid (Below ((w.drewN nq).alloc (Obj.cells (Array.replicate 24 (.int .u8 0)) 145)).heap.size ((w.drewN nq).alloc (Obj.cells (Array.replicate 24 (.int .u8 0)) 145)) w1) := hid hb1
    clear hb1
    go_upto_region 74 with fail
    have hbw1 : Below w.heap.size w w1 := ((below_drewN (Below.refl _ _) _).alloc (Nat.le_refl _) _).trans (HB1.out.mono (by simp))
    have HBW1 := hid hbw1
    have hnum : ∀ k, Calls Tryz.prog 127 #[.int .u64 D] (w1.drewN k) fun e w' => e = .returned (.int .i64 ((n : Int) + 1)) ∧ w1.drewN k = w' := fun k => by
      have h10 : 10 ^ n ≤ D := HPURE.out.2.2.2.2.1
      have h10' : D < 10 ^ (n + 1) := HPURE.out.2.2.2.2.2.1
      have hp : 0 < 10 ^ n := Nat.pow_pos (by decide)
      have hp17 : 10 ^ (n + 1) ≤ 10 ^ 17 := Nat.pow_le_pow_right (by decide) (by omega)
      have := flip (Tryz.internal_strconv_numDigits D (by omega) (by omega) (w1.drewN k) (tabBelow_of_tabIs HTAB.out _ (below_drewN HBW1.out k)))
      rw [nDigits_at n D h10 h10'] at this
      exact this
    have hset : ∀ k, Calls Tryz.prog 167 #[.slice (some ⟨w.heap.size, 0, none⟩) 24 24, .int .u64 D, .int .i64 P, .int .i64 ((n : Int) + 1)] (w1.drewN k) (SetPost (w1.drewN k) w.heap.size (n + 1) D P) := fun k =>
      setDigits_walk w.heap.size (n + 1) D 24 P (w1.drewN k) (Array.replicate (n + 1) 0) (by simp) (buf_holds (W := w.drewN nq) (below_drewN HB1.out k) (by omega)) (by omega) (by omega) rfl HPURE.out.2.2.2.2.2.1 HPURE.out.2.2.2.2.1 hPb
    have HNUM := hid hnum
    have HSET := hid hset
    clear hbw1 hnum hset
    go_region_with (first | (go_at_call 127; (first | refine (HNUM.out 0).mono ?_ | refine (HNUM.out 1).mono ?_ | refine (HNUM.out _).mono ?_); rintro r w' ⟨rfl, rfl⟩) | (go_at_call 167; (first | refine (HSET.out 1).mono ?_ | refine (HSET.out _).mono ?_); rintro r w' ⟨dk, nz, mm, rfl, rfl, hok⟩))
    have HOK := hid hok
    clear hok
    have hPX : (n : Int) + 1 + P = (jx : Int) - 348 + 1 := HPURE.out.2.2.2.2.2.2
    have HPX := hid hPX
    clear hPX
    go_wp2_with fail
    rw [HPX.out]
    obtain ⟨W3, hW3⟩ : ∃ W3, (Go.Sort.putRow encB (w1.drewN 1) w.heap.size 0 dk).drewN mm = W3 := ⟨_, rfl⟩
    have hbW3 : Below w.heap.size w W3 := by rw [← hW3]; exact below_drewN (below_putRow (below_drewN HBW1.out 1) (Nat.le_refl _) _ _) _
    have hcell : ∀ t, t ≤ n → W3.cell? ⟨w.heap.size, t, none⟩ = some (.int .u8 (dk[t]!.toNat : Nat)) := fun t ht => by
      rw [← hW3]
      have hh := Go.Sort.cell?_putRow encB (w1.drewN 1) w.heap.size 0 (Array.replicate (n + 1) (0 : UInt8)) dk (buf_holds (W := w.drewN nq) (below_drewN HB1.out 1) (by omega)) (by rw [HOK.out.1, Array.size_replicate]) t (by rw [HOK.out.1]; omega)
      rw [Nat.zero_add] at hh
      exact hh
    have hsz3 : w.heap.size < W3.heap.size := by
      have h1 := HB1.out.size
      have h2 : W3.heap.size = w1.heap.size := by rw [← hW3]; show (w1.heap.modify _ _).size = _; rw [Array.size_modify]
      rw [h2]
      simp at h1
      omega
    rw [hW3]
    obtain ⟨tl, htl⟩ : ∃ tl : List UInt8, tl = (List.range n).map (fun t => dk[t + 1]!) := ⟨_, rfl⟩
    have htll : tl.length = n := by rw [htl]; simp
    have htlg : ∀ t (h : t < tl.length), tl[t] = dk[t + 1]! := fun t h => by simp only [htl, List.getElem_map, List.getElem_range]
    have hpure := HPURE.out
    obtain ⟨hok1, hok2, hok3, hok4, hok5⟩ := HOK.out
    refine (efg_walk B g w.heap.size n nz ((jx : Int) - 348) dk[0]! tl W3 (st_moved HST.out hbW3) (by omega) hsz3 htll hn hok3 (by omega) (hcell 0 (by omega)) (fun t h => by rw [htlg t h]; exact hcell (t + 1) (by omega)) (fun t h h2 => by rw [htlg t h]; exact hok5 (t + 1) h2 (by omega)) (by omega)).mono ?_
    rintro r w4 hpost
    have hpost2 := post_moved hbW3 hpost
    have hfin : FtPost w B g u n r w4 := by
      refine ⟨D, j, jx, dk[0]!, tl, hpure.1, hpure.2.1, hpure.2.2.1, hpure.2.2.2.1, hpure.2.2.2.2.1, hpure.2.2.2.2.2.1, hjx1, hjx2, htll, fun t ht => ?_, hpost2⟩
      cases t with
      | zero =>
        have := hok2 0 (by omega)
        rw [show n + 1 - 1 - 0 = n - 0 by omega] at this
        exact this
      | succ t =>
        have h1 : (dk[0]! :: tl)[t + 1]! = tl[t]'(by omega) := by rw [List.getElem!_cons_succ, getElem!_pos tl t (by omega)]
        rw [h1, htlg t (by omega), hok2 (t + 1) (by omega), show n + 1 - 1 - (t + 1) = n - (t + 1) by omega]
    obtain ⟨rfl, _⟩ := hpost
    have HFIN := hid hfin
    clear hfin hpost2 hok1 hok2 hok3 hok4 hok5 hpure htlg hcell htl hW3 hbW3
    go_wp2_with fail
    go_ret
    exact HFIN.out
end Go.Proofs.YtlblkajnmdhmdaaGreatDoor
