/-
  Plain: the word that the library's slow way makes, told by the exact fraction.
  Walk: rightShift and leftShift, told by what the decimal stands for; the method Shift.
  Plain and walk: what floatBits wants: a scope with jumps forward to two labels; powers of two and ten; the tables of the slow way.
-/
import Derived.Test.YtlblkajnmdhmdaaGreatDoorZNDz
import Derived.Test.YtlblkajnmdhmdaaGreatDoorZNMq
import Derived.Scope
namespace Go.Proofs.YtlblkajnmdhmdaaGreatDoor
set_option linter.unusedVariables false
namespace NU
/-- A0 / B0 scaled to A / B lies in its binade: the word is the place and A / B rounded. -/
theorem word_at {A0 B0 A B p : Nat} (hB0 : 0 < B0) (hB : 0 < B) (hA : A * (B0 * 2 ^ p) = A0 * one74 * B) (h1 : p = 0 ∨ 2 ^ 52 * B ≤ A) (h2 : A < 2 ^ 53 * B) : word A0 B0 = min (p * 2 ^ 52 + rne A B) (2047 * 2 ^ 52) := by
 have hX : 0 < B0 * 2 ^ p := Nat.mul_pos hB0 (Nat.two_pow_pos _)
 have hn : nearAt A0 B0 p := by
  refine ⟨?_, h1.imp_right fun h => ?_⟩
  ·apply Nat.lt_of_mul_lt_mul_right (a := B);rw [← hA];have := Nat.mul_lt_mul_of_pos_right h2 hX;rw [Nat.mul_right_comm] at this;exact this
  ·apply Nat.le_of_mul_le_mul_right (c := B) _ hB;rw [← hA];have := Nat.mul_le_mul_right (B0 * 2 ^ p) h;rw [Nat.mul_right_comm] at this;exact this
 rw [word_of hB0 hn];unfold wordAt
 have e : rne (A0 * one74) (B0 * 2 ^ p) = rne A B := by
  rw [← rne_scale (n := A0 * one74) (d := B0 * 2 ^ p) hB, ← hA, Nat.mul_comm (B0 * 2 ^ p) B, rne_scale hX]
 rw [e]
theorem rne_lek {A B k : Nat} (hB : 0 < B) (h : A < k * B) : rne A B ≤ k := by
 have a := (rne_bounds (n := A) hB).2;have b : A / B < k := Nat.div_lt_of_lt_mul (by rw [Nat.mul_comm]; exact h);omega
theorem le_rne {A B k : Nat} (hB : 0 < B) (h : k * B ≤ A) : k ≤ rne A B := by
 have a := (rne_bounds (n := A) hB).1;have b : k ≤ A / B := (Nat.le_div_iff_mul_le hB).2 h;omega
end NU
theorem DInv.weak {A B j j' : Nat} {G G' : Prop} {N nd : Nat} {dp : Int} {tr : Bool} (h : DInv A B j G N nd dp tr) (hj : j ≤ j') (hG : G' → G) : DInv A B j' G' N nd dp tr :=
 ⟨h.nd8, h.nd1, h.lt, h.ge, h.up, Nat.le_trans h.lo (Nat.add_le_add_left (Nat.mul_le_mul_left _ hj) _), fun g => h.ex (hG g), h.mkd⟩
/-- Where the decimal starts. -/
theorem DInv.start {N nd : Nat} {dp : Int} (h8 : nd ≤ 800) (h1 : 1 ≤ nd) (hlt : N < 10 ^ nd) (hge : 10 ^ (nd - 1) ≤ N) (hb : -2000 ≤ dp - nd) : DInv (N * 10 ^ (dp - nd).toNat) (10 ^ (-(dp - nd)).toNat) 0 True N nd dp false := by
 have e : valX N nd dp * 10 ^ (-(dp - nd)).toNat = N * 10 ^ (dp - nd).toNat * zX := by
  unfold valX;rw [zX_eq, Nat.mul_assoc, ← Nat.pow_add, Nat.mul_assoc, ← Nat.pow_add]
  exact congrArg (N * 10 ^ ·) (by have := e2000_eq; omega)
 refine ⟨h8, h1, hlt, hge, Nat.le_of_eq e, ?_, fun _ => e, ?_⟩
 ·rw [e, Nat.mul_zero, Nat.add_zero];exact Nat.le_refl _
 ·rw [e];simp
/-- The value lies at or above 1: so does what it stands for. -/
theorem DInv.ge_pow {A B j : Nat} {G : Prop} {N nd : Nat} {dp : Int} {tr : Bool} (h : DInv A B j G N nd dp tr) {h1 h2 : Nat} (hb : -1000 ≤ dp - nd) (he : (h2 : Int) + 1 ≤ dp + h1) (hh : h1 ≤ 1500) : B * 10 ^ h2 ≤ A * 10 ^ h1 := by
 have hz := zX_pos;apply Nat.le_of_mul_le_mul_right (c := zX) _ hz;have hv : 10 ^ (e2000 - h1 + h2) ≤ valX N nd dp := valX_ge h.ge h.nd1 hb (by rw [e2000_eq]; omega);have e1 : zX = 10 ^ (e2000 - h1) * 10 ^ h1 := (by rw [zX_eq, ← Nat.pow_add]; exact congrArg _ (by rw [e2000_eq]; omega));have h3 := Nat.mul_le_mul_right (B * 10 ^ h1) hv;have h4 := Nat.mul_le_mul_right (10 ^ h1) h.up;have e2 : B * 10 ^ h2 * zX = 10 ^ (e2000 - h1 + h2) * (B * 10 ^ h1) := (by rw [e1, Nat.pow_add]; generalize 10 ^ (e2000 - h1) = a; generalize 10 ^ h1 = b; generalize 10 ^ h2 = c; grind);have e3 : A * 10 ^ h1 * zX = A * zX * 10 ^ h1 := Nat.mul_right_comm _ _ _;have e4 : valX N nd dp * (B * 10 ^ h1) = valX N nd dp * B * 10 ^ h1 := (Nat.mul_assoc _ _ _).symm;rw [e2, e3];rw [e4] at h3;exact Nat.le_trans h3 h4
/-- .. below 10 ^ k: so is what it stands for, but for the error. -/
theorem DInv.lt_pow {A B j : Nat} {G : Prop} {N nd : Nat} {dp : Int} {tr : Bool} (h : DInv A B j G N nd dp tr) {k : Nat} (hb : -1000 ≤ dp - nd) (he : dp ≤ k) (hB : 0 < B) (hj : 2 * j ≤ kX) : A < 2 * (B * 10 ^ k) := by
 have hz := zX_pos;have hk := kX_pos;have hv : valX N nd dp < 10 ^ (e2000 + k) := valX_lt h.lt hb (by rw [e2000_eq]; omega);rw [Nat.pow_add, ← zX_eq] at hv;have hlo := h.lo;obtain ⟨Y, hY⟩ : ∃ Y, 10 ^ k = Y := ⟨_, rfl⟩;obtain ⟨V, hV⟩ : ∃ V, valX N nd dp = V := ⟨_, rfl⟩;obtain ⟨Z, hZ⟩ : ∃ Z, zX = Z := ⟨_, rfl⟩;obtain ⟨K, hK⟩ : ∃ K, kX = K := ⟨_, rfl⟩;rw [hV, hZ, hY] at hv;rw [hV, hZ, hK] at hlo;rw [hZ] at hz;rw [hK] at hk hj;rw [hY];clear h hY hV hZ hK hb he;apply Nat.lt_of_not_le;intro hc;have h1 : V * B * K < Z * Y * B * K := Nat.mul_lt_mul_of_pos_right (Nat.mul_lt_mul_of_pos_right hv hB) hk;have h2 : A * Z * (2 * j) ≤ A * Z * K := Nat.mul_le_mul_left _ hj;have h3 : 2 * (B * Y) * (Z * K) ≤ A * (Z * K) := Nat.mul_le_mul_right _ hc;have e1 : 2 * (B * Y) * (Z * K) = 2 * (Z * Y * B * K) := (by grind);have e2 : A * (Z * K) = A * Z * K := (Nat.mul_assoc _ _ _).symm;have e3 : A * Z * (2 * j) = 2 * (A * Z * j) := (by rw [Nat.mul_left_comm]);rw [e1, e2] at h3;rw [e3] at h2;omega
end Go.Proofs.YtlblkajnmdhmdaaGreatDoor
namespace Go.Proofs.YtlblkajnmdhmdaaGreatDoor
set_option linter.unusedVariables false
open Go.RowKit Lib Go.Op
/-- At block b lies a decimal that stands for A / B; P tells of its digits and point. -/
def DecI (W w : World) (b A B j : Nat) (G : Prop) (P : Nat → Nat → Int → Prop) : Prop :=
 ∃ (N nd : Nat) (dp : Int) (tr : Bool) (C : Array Value), DecW W w b C ∧ RawC C nd dp tr ∧ DigC C N nd ∧ DInv A B j G N nd dp tr ∧ P N nd dp
theorem two_ten (k : Nat) : 2 ^ k ≤ 10 ^ k := Nat.pow_le_pow_left (by decide) k
/-- What a shift to the right by k leaves. -/
def RightP (k N nd : Nat) (dp : Int) (N' nd' : Nat) (dp' : Int) : Prop := N' % 10 ≠ 0 ∧ dp - k ≤ dp' ∧ dp' ≤ dp
/-- .. to the left. -/
def LeftP (k N nd : Nat) (dp : Int) (N' nd' : Nat) (dp' : Int) : Prop := N' % 10 ≠ 0 ∧ dp ≤ dp' ∧ dp' ≤ dp + k ∧ (nd' : Int) - dp' ≤ nd - dp ∧ valX N' nd' dp' ≤ 2 ^ k * valX N nd dp
theorem right_step (W w : World) (b k m N nd A B j : Nat) (G G' : Prop) (dp : Int) (tr : Bool) (C : Array Value) (hw : DecW W w b C) (hr : RawC C nd dp tr) (hd : DigC C N nd) (hi : DInv A B j G N nd dp tr)
  (hk : ShlK k m) (hdp : -100 ≤ dp ∧ dp ≤ 350) (hB : 0 < B) (hG : G' → G) (hG2 : G' → B * m ∣ A * 10 ^ e450) :
  Calls Tryz.prog 213 #[.pointer (some ⟨b, 0, none⟩), .int .u64 k] w fun e w' => e = .returned (.tuple #[]) ∧ DecI W w' b A (B * m) (j + 1) G' (RightP k N nd dp) := by
 have hN0 : 0 < N := Nat.lt_of_lt_of_le (Nat.pow_pos (by decide)) hi.ge;have hm := hk.le;refine (right_any W w b k m N nd dp tr C hw hr hd hi.nd8 hk hi.lt hN0 (by omega)).mono ?_;rintro e w' ⟨Q, c, n, r, hc, hrc, hnr, hc1, hc8, hQ1, hQ2, hq, hn, hn8, rfl, z, C', hz, hz2, hz3, hW, hR, hD⟩
 have hcr : c + 1 ≤ r := by
  have h1 : N * 10 ^ (r - nd) < 10 ^ r := by
   have := Nat.mul_lt_mul_of_pos_right hi.lt (Nat.pow_pos (n := r - nd) (show 0 < 10 by decide));rw [← Nat.pow_add, show nd + (r - nd) = r by omega] at this;exact this
  have h2 : 10 ^ c * 1 ≤ Q * (10 * m) := by
   have e : 10 ^ c * 1 = 10 ^ (c - 1) * 10 := (by rw [Nat.mul_one, ← Nat.pow_succ]; exact congrArg _ (by omega));rw [e];exact Nat.mul_le_mul hQ1 (by omega)
  have h3 : 10 ^ c < 10 ^ r := (by omega);exact (Nat.pow_lt_pow_iff_right (by decide)).1 h3
 have hrk : r - c ≤ k + 1 := by
  have h1 : 10 ^ (r - 1) ≤ N * 10 ^ (r - nd) := by
   have := Nat.mul_le_mul_right (10 ^ (r - nd)) hi.ge;rw [← Nat.pow_add, show nd - 1 + (r - nd) = r - 1 by have := hi.nd1; omega] at this;exact this
  have h2 : Q * (10 * m) + n < 10 ^ (c + 1 + k) := by
   have a1 : Q * (10 * m) + n < (Q + 1) * (10 * m) := (by rw [Nat.add_mul, Nat.one_mul]; omega);have a2 : (Q + 1) * (10 * m) ≤ 10 ^ c * (10 * 10 ^ k) := Nat.mul_le_mul hQ2 (Nat.mul_le_mul_left _ (by rw [hk.m2]; exact two_ten k));have a3 : 10 ^ c * (10 * 10 ^ k) = 10 ^ (c + 1 + k) := (by rw [Nat.pow_add, Nat.pow_succ, Nat.mul_assoc]);omega
  have h3 : 10 ^ (r - 1) < 10 ^ (c + 1 + k) := (by omega);have := (Nat.pow_lt_pow_iff_right (by decide : 1 < 10)).1 h3;omega
 have hk60 := hk.k60;have hI := (hi.right (m := m) (G' := G') (by omega) hdp.2 hB hcr hnr hc1 hc8 hQ1 hQ2 hq hn hn8 hz hz2 (by omega) hG hG2).1;have hcz := hI.nd1;rw [if_neg (by omega)] at hR;exact ⟨rfl, _, _, _, _, C', hW, hR, hD, hI, hz3.resolve_left (by omega), by omega, by omega⟩
theorem left_step (W w : World) (b k m N nd A B j d L cap : Nat) (a : Addr) (s : ByteArray) (G G' : Prop) (dp : Int) (tr : Bool) (C : Array Value) (hw : DecW W w b C) (hr : RawC C nd dp tr) (hd : DigC C N nd) (hi : DInv A B j G N nd dp tr)
  (hk : ShlK k m) (hT : CheatAt w k a cap d L s) (hdp : -900 ≤ dp - nd ∧ dp ≤ 250) (hB : 0 < B) (hG : G' → G) (hG2 : G' → B ∣ A * m * 10 ^ e450) :
  Calls Tryz.prog 212 #[.pointer (some ⟨b, 0, none⟩), .int .u64 k] w fun e w' => e = .returned (.tuple #[]) ∧ DecI W w' b (A * m) B (j + 1) G' (LeftP k N nd dp) := by
 have hm := hk.le;have hk60 := hk.k60;refine (left_any W w b k m N nd d L cap a s dp tr C hw hr hd hi.nd1 hi.nd8 hk hi.lt hi.ge (by omega) hT).mono ?_;rintro e w' ⟨T, hT1, hT2, hT3, hT4, rfl, z, C', hz, hz2, hz3, hW, hR, hD⟩
 have hTk : T ≤ nd + k := by
  have h1 : N * m < 10 ^ (nd + k) := by
   have a1 : N * m < 10 ^ nd * m := Nat.mul_lt_mul_of_pos_right hi.lt (by omega);have a2 : 10 ^ nd * m ≤ 10 ^ nd * 10 ^ k := Nat.mul_le_mul_left _ (by rw [hk.m2]; exact two_ten k);rw [← Nat.pow_add] at a2;omega
  have h3 : 10 ^ (T - 1) < 10 ^ (nd + k) := (by omega);have := (Nat.pow_lt_pow_iff_right (by decide : 1 < 10)).1 h3;omega
 obtain ⟨hI, hV⟩ := hi.left (m := m) (G' := G') (by omega) hdp.1 hB hT1 (by omega) hT3 hT4 hz hz2 hG hG2;have hcz := hI.nd1;rw [if_neg (by omega)] at hR;exact ⟨rfl, _, _, _, _, C', hW, hR, hD, hI, hz3.resolve_left (by omega), by omega, by omega, by omega, by rw [← hk.m2]; exact hV⟩
/-- The library's table of left shifts, below block g. -/
structure Cheats (w : World) (g : Nat) : Prop where
 size : 16 < g
 row : ∀ k, 1 ≤ k → k ≤ 60 → ∃ (a : Addr) (cap d L : Nat) (s : ByteArray), CheatAt w k a cap d L s ∧ a.block < g ∧ (a.add (k * 2)).block = a.block
theorem BelowG.cell {W w : World} {b : Nat} (h : BelowG W w b) {p : Addr} (h1 : p.block ≠ b) (h2 : p.block < W.heap.size) : w.cell? p = W.cell? p := by
 unfold World.cell?;rw [h.block _ h1 h2]
theorem Cheats.dec {W w : World} {b : Nat} (h : Cheats W b) (hW : BelowG W w b) (hb : b ≤ W.heap.size) : Cheats w b := by
 have hs := h.size;refine ⟨hs, fun k h1 h2 => ?_⟩;obtain ⟨a, cap, d, L, s, ⟨t, dl, ct, dg, lo, ln⟩, ha, hk⟩ := h.row k h1 h2;refine ⟨a, cap, d, L, s, ⟨?_, ?_, ?_, dg, lo, ln⟩, ha, hk⟩
 ·rw [hW.cell (by show 16 ≠ b; omega) (by show 16 < _; omega)]; exact t
 ·rw [hW.cell (by omega) (by omega)]; exact dl
 ·rw [hW.cell (by show (a.add (k * 2)).block ≠ b; omega) (by show (a.add (k * 2)).block < _; omega)]; exact ct
set_option maxRecDepth 100000 in
set_option maxHeartbeats 1000000 in
theorem shiftL (W w : World) (b k N nd A B j : Nat) (G G' : Prop) (dp : Int) (tr : Bool) (C : Array Value) (hw : DecW W w b C) (hr : RawC C nd dp tr) (hd : DigC C N nd) (hi : DInv A B j G N nd dp tr)
  (hk : 1 ≤ k ∧ k ≤ 60) (hT : Cheats W b) (hb : b ≤ W.heap.size) (hdp : -900 ≤ dp - nd ∧ dp ≤ 250) (hB : 0 < B) (hG : G' → G) (hG2 : G' → B ∣ A * 2 ^ k * 10 ^ e450) :
  Calls Tryz.prog 170 #[.pointer (some ⟨b, 0, none⟩), .int .i64 k] w fun e w' => e = .returned (.tuple #[]) ∧ DecI W w' b (A * 2 ^ k) B (j + 1) G' (LeftP k N nd dp) := by
 obtain ⟨a, cap, d, L, s, hch, _, _⟩ := (hT.dec hw.1 hb).row k hk.1 hk.2;have HST := hid (left_step W w b k (2 ^ k) N nd A B j d L cap a s G G' dp tr C hw hr hd hi ⟨rfl, hk⟩ hch hdp hB hG hG2);have hn1 := hi.nd1;have c0 : w.cell? ⟨b, 800, none⟩ = some (.int .i64 nd) := (hw.cell 800).trans hr.cnd;have f0 := hw.free 800;have hz : ((nd : Int) == 0) = false := (by simp; omega);have hgt : decide ((0 : Int) < k) = true := decide_eq_true (by omega);have hgt2 : decide ((60 : Int) < k) = false := decide_eq_false (by omega);clear hw hr hd hi hG hG2 hch hT;go_enter Tryz.func170, Tryz.ntmps170
 go_wp2_with fail
 go_loopw [1] (fun v1 wx => v1 = .int .i64 k ∧ wx = w) (fun _ _ => 0)
 case atStart => exact ⟨rfl, rfl⟩
 case round =>
  obtain ⟨rfl, rfl⟩ := hrel
  go_wp2_with (go_at_call 212; refine HST.out.mono ?_; rintro e w' ⟨rfl, hp⟩)
  have HP := hid hp;clear hp
  go_wp2_with fail
  go_end0
  exact ⟨rfl, HP.out⟩
theorem DecI.mono {W w : World} {b A B j j' : Nat} {G G' : Prop} {P P' : Nat → Nat → Int → Prop} (h : DecI W w b A B j G P) (hj : j ≤ j') (hG : G' → G) (hP : ∀ N nd dp, P N nd dp → P' N nd dp) : DecI W w b A B j' G' P' := by
 obtain ⟨N, nd, dp, tr, C, h1, h2, h3, h4, h5⟩ := h;exact ⟨N, nd, dp, tr, C, h1, h2, h3, h4.weak hj hG, hP _ _ _ h5⟩
set_option maxRecDepth 100000 in
set_option maxHeartbeats 1000000 in
theorem shiftR (W w : World) (b k N nd A B j : Nat) (G G' : Prop) (dp : Int) (tr : Bool) (C : Array Value) (hw : DecW W w b C) (hr : RawC C nd dp tr) (hd : DigC C N nd) (hi : DInv A B j G N nd dp tr)
  (hk : 1 ≤ k ∧ k ≤ 200) (hdp : -100 ≤ dp - k ∧ dp ≤ 350) (hB : 0 < B) (hG : G' → G) (hG2 : G' → B * 2 ^ k ∣ A * 10 ^ e450) :
  Calls Tryz.prog 170 #[.pointer (some ⟨b, 0, none⟩), .int .i64 (-(k : Int))] w fun e w' => e = .returned (.tuple #[]) ∧ DecI W w' b A (B * 2 ^ k) (j + k) G' (RightP k N nd dp) := by
 have hn1 := hi.nd1;have c0 : w.cell? ⟨b, 800, none⟩ = some (.int .i64 nd) := (hw.cell 800).trans hr.cnd;have f0 := hw.free 800;have hz : ((nd : Int) == 0) = false := (by simp; omega);have hgt : decide ((k : Int) < 0) = false := decide_eq_false (by omega);have hgt2 : decide (0 < k) = true := decide_eq_true (by omega);have HI : Hid (DecI W w b A (B * 2 ^ 0) (j + 0) G' (fun _ _ d => dp - (0 : Nat) ≤ d ∧ d ≤ dp)) := hid ⟨N, nd, dp, tr, C, hw, hr, hd, by rw [Nat.pow_zero, Nat.mul_one]; exact hi.weak (Nat.le_refl _) hG, by omega, by omega⟩;have HG2 := hid hG2;clear hw hr hd hi hG hG2;go_enter Tryz.func170, Tryz.ntmps170
 go_wp2_with fail
 go_loopw [1] (fun v1 wx => ∃ t : Nat, v1 = .int .i64 (-((k - t : Nat) : Int)) ∧ t < k ∧ Hid (DecI W wx b A (B * 2 ^ t) (j + t) G' (fun _ _ d => dp - t ≤ d ∧ d ≤ dp))) (fun v1 _ => (-(RowKit.intOf v1)).toNat)
 case atStart => exact ⟨0, rfl, by omega, HI⟩
 case round =>
  obtain ⟨t, rfl, ht, HI⟩ := hrel;obtain ⟨N1, nd1, dp1, tr1, C1, hw1, hr1, hd1, hi1, hp1⟩ := HI.out;by_cases h60 : k - t ≤ 60
  ·have hgt : decide ((60 : Int) < ((k - t : Nat) : Int)) = false := decide_eq_false (by omega);have HST := hid (right_step W wr b (k - t) (2 ^ (k - t)) N1 nd1 A (B * 2 ^ t) (j + t) G' G' dp1 tr1 C1 hw1 hr1 hd1 hi1 ⟨rfl, by omega, h60⟩ (by omega) (Nat.mul_pos hB (Nat.two_pow_pos _)) id (fun g => by rw [Nat.mul_assoc, ← Nat.pow_add, show t + (k - t) = k by omega]; exact HG2.out g));clear hw1 hr1 hd1 hi1;obtain ⟨y, hy⟩ : ∃ y : Nat, k - t = y := ⟨_, rfl⟩;rw [hy] at hgt HST ⊢;have hy60 : y ≤ 60 := (by omega);have HY := hid hy;clear hy h60
   go_wp2_with (go_at_call 213; refine HST.out.mono ?_; rintro e w' ⟨rfl, hp⟩)
   have HP := hid hp;clear hp
   go_wp2_with fail
   go_end0
   refine ⟨rfl, ?_⟩;have h := HP.out;rw [Nat.mul_assoc, ← Nat.pow_add, ← HY.out, show t + (k - t) = k by omega] at h;refine h.mono (by omega) id ?_;rintro N nd dp ⟨a1, a2, a3⟩;exact ⟨a1, by omega, by omega⟩
  ·have hgt : decide ((60 : Int) < ((k - t : Nat) : Int)) = true := decide_eq_true (by omega)
   have HST := hid (right_step W wr b 60 (2 ^ 60) N1 nd1 A (B * 2 ^ t) (j + t) G' G' dp1 tr1 C1 hw1 hr1 hd1 hi1 ⟨rfl, by omega⟩ (by omega) (Nat.mul_pos hB (Nat.two_pow_pos _)) id (fun g => by
    rw [Nat.mul_assoc, ← Nat.pow_add];refine Nat.dvd_trans (Nat.mul_dvd_mul_left _ (Nat.pow_dvd_pow 2 ?_)) (HG2.out g)
    omega))
   clear hw1 hr1 hd1 hi1;obtain ⟨y, hy⟩ : ∃ y : Nat, k - t = y := ⟨_, rfl⟩;rw [hy] at hgt ⊢;have hy60 : 60 < y ∧ y ≤ 200 := (by omega);have HY := hid hy;clear hy h60
   go_wp2_with (go_at_call 213; refine HST.out.mono ?_; rintro e w' ⟨rfl, hp⟩)
   have HP := hid hp;clear hp
   go_wp2_with fail
   refine ⟨⟨t + 60, ?_, by have := HY.out; omega, hid ?_⟩, ?_⟩
   ·rw [show k - (t + 60) = y - 60 by have := HY.out; omega, show -((y - 60 : Nat) : Int) = -(y : Int) + 60 by omega]
   ·have h := HP.out;rw [Nat.mul_assoc, ← Nat.pow_add] at h;refine h.mono (by omega) id ?_;rintro N nd dp ⟨a1, a2, a3⟩;exact ⟨by omega, by omega⟩
   ·simp only [RowKit.intOf];omega
end Go.Proofs.YtlblkajnmdhmdaaGreatDoor
namespace Go.Proofs.YtlblkajnmdhmdaaGreatDoor
set_option linter.unusedVariables false
open Go.RowKit Lib Go.Op
/-- As Q; by a goto to label 0 or 1: what stands behind that label. -/
def fwd (P : Program) (s0 s1 : Code) (Q : Exit → Act → World → Prop) : Exit → Act → World → Prop
 | .goto 0, a, w => s0.wp P (Exit.noGoto Q) a w
 | .goto 1, a, w => s1.wp P (Exit.noGoto Q) a w
 | .goto _, _, _ => False
 | e, a, w => Q e a w
@[go_sem] theorem fwd_normal (P : Program) (s0 s1 : Code) (Q : Exit → Act → World → Prop) (a : Act) (w : World) : fwd P s0 s1 Q .normal a w = Q .normal a w := rfl
@[go_sem] theorem fwd_exit (P : Program) (s0 s1 : Code) (Q : Exit → Act → World → Prop) (id : Nat) (a : Act) (w : World) : fwd P s0 s1 Q (.exit id) a w = Q (.exit id) a w := rfl
@[go_sem] theorem fwd_ret (P : Program) (s0 s1 : Code) (Q : Exit → Act → World → Prop) (a : Act) (w : World) : fwd P s0 s1 Q .ret a w = Q .ret a w := rfl
@[go_sem] theorem fwd_panic (P : Program) (s0 s1 : Code) (Q : Exit → Act → World → Prop) (ch : List PanicEntry) (a : Act) (w : World) : fwd P s0 s1 Q (.panic ch) a w = Q (.panic ch) a w := rfl
theorem wp_scope_fwd {P : Program} {Q : Exit → Act → World → Prop} {a : Act} {w : World} {c r0 r1 : Code} (h0 : findLabel c 0 = some r0) (h1 : findLabel c 1 = some r1)
  (h : ∀ s0 s1, Hid (s0 = r0) → Hid (s1 = r1) → c.wp P (fwd P s0 s1 Q) a w) : (Code.scope c).wp P Q a w := by
 intro b k cs;have hg0 : gotoIn 0 (.inScope c :: k) = some (.code r0 :: .inScope c :: k) := (by simp [gotoIn, h0]);have hg1 : gotoIn 1 (.inScope c :: k) = some (.code r1 :: .inScope c :: k) := (by simp [gotoIn, h1])
 have tail : ∀ (r : Code) (a₁ : Act) (w₁ : World), r.wp P (Exit.noGoto Q) a₁ w₁ → ∃ e a' w', Q e a' w' ∧ Arrives P (lone (b.at a₁ (.code r :: .inScope c :: k)) cs w₁) b k cs e a' w' := fun r a₁ w₁ hr => by
  obtain ⟨e, a₂, w₂, hq, harr⟩ := hr b (.inScope c :: k) cs
  cases e with
  | normal => exact ⟨.normal, a₂, w₂, hq, Steps.trans harr (.one step_inScope)⟩
  | exit id => exact ⟨.exit id, a₂, w₂, hq, fun k' hk => harr k' (by simp [exitTo, hk])⟩
  | goto l => exact hq.elim
  | ret => exact ⟨_, a₂, w₂, hq, harr⟩
  | panic ch => exact ⟨_, a₂, w₂, hq, harr⟩
  | outgrown => exact ⟨_, a₂, w₂, hq, harr⟩
 obtain ⟨e, a₁, w₁, hq, harr⟩ := h r0 r1 (hid rfl) (hid rfl) b (.inScope c :: k) cs
 cases e with
 | normal => exact ⟨.normal, a₁, w₁, hq, .head step_scope (Steps.trans harr (.one step_inScope))⟩
 | exit id => exact ⟨.exit id, a₁, w₁, hq, fun k' hk => .head step_scope (harr k' (by simp [exitTo, hk]))⟩
 | goto l =>
  match l, hq, harr with
  | 0, hq, harr =>
   obtain ⟨e₂, a₂, w₂, hq₂, harr₂⟩ := tail r0 a₁ w₁ hq;exact ⟨e₂, a₂, w₂, hq₂, .of_steps (.head step_scope (harr _ hg0)) harr₂⟩
  | 1, hq, harr =>
   obtain ⟨e₂, a₂, w₂, hq₂, harr₂⟩ := tail r1 a₁ w₁ hq;exact ⟨e₂, a₂, w₂, hq₂, .of_steps (.head step_scope (harr _ hg1)) harr₂⟩
  | _ + 2, hq, _ => exact False.elim hq
 | ret => exact ⟨_, a₁, w₁, hq, .of_steps (.one step_scope) harr⟩
 | panic ch => exact ⟨_, a₁, w₁, hq, .of_steps (.one step_scope) harr⟩
 | outgrown => exact ⟨_, a₁, w₁, hq, .of_steps (.one step_scope) harr⟩
/-! ### Powers -/
theorem ten_le_two {a b : Nat} (h : 10 * ((a + 2) / 3) ≤ b) : 10 ^ a ≤ 2 ^ b := by
 have h1 : 10 ^ a ≤ 10 ^ (3 * ((a + 2) / 3)) := Nat.pow_le_pow_right (by decide) (by omega)
 have h2 : 10 ^ (3 * ((a + 2) / 3)) ≤ 2 ^ (10 * ((a + 2) / 3)) := by
  rw [Nat.pow_mul, Nat.pow_mul];exact Nat.pow_le_pow_left (by decide) _
 exact Nat.le_trans h1 (Nat.le_trans h2 (Nat.pow_le_pow_right (by decide) h))
theorem two_le_ten {a b : Nat} (h : b ≤ 3 * a) : 2 ^ b ≤ 10 ^ a := by
 have h1 : 2 ^ b ≤ 2 ^ (3 * a) := Nat.pow_le_pow_right (by decide) h;rw [Nat.pow_mul] at h1;exact Nat.le_trans h1 (Nat.pow_le_pow_left (by decide) _)
/-! ### The tables of the slow way -/
/-- How far the library shifts at once. -/
def powT : Nat → Nat
 | 0 => 1 | 1 => 3 | 2 => 6 | 3 => 9 | 4 => 13 | 5 => 16 | 6 => 19 | 7 => 23 | 8 => 26 | _ => 27
theorem powT_le (i : Nat) : 1 ≤ powT i ∧ powT i ≤ 27 := by
 match i with
 | 0 | 1 | 2 | 3 | 4 | 5 | 6 | 7 | 8 => decide
 | _ + 9 => exact ⟨show 1 ≤ 27 by decide, Nat.le_refl _⟩
theorem powT_ten (i : Nat) (h : 1 ≤ i) : 2 ^ powT i ≤ 10 ^ i := by
 match i, h with
 | 1, _ | 2, _ | 3, _ | 4, _ | 5, _ | 6, _ | 7, _ | 8, _ => decide
 | i + 9, _ => exact Nat.le_trans (show 2 ^ powT (i + 9) ≤ 10 ^ 9 from (by decide : 2 ^ 27 ≤ 10 ^ 9)) (Nat.pow_le_pow_right (by decide) (by omega))
structure SlowT (w : World) (g : Nat) : Prop where
 ch : Cheats w g
 m7 : w.cell? ⟨7, 0, none⟩ = some (.int .u64 52)
 x7 : w.cell? ⟨7, 1, none⟩ = some (.int .u64 11)
 b7 : w.cell? ⟨7, 2, none⟩ = some (.int .i64 (-1023))
 pt : ∃ (a : Addr) (c : Nat), w.cell? ⟨11, 0, none⟩ = some (.slice (some a) 9 c) ∧ a.block < g ∧ ∀ i, i < 9 → (a.add i).block = a.block ∧ w.cell? (a.add i) = some (.int .i64 (powT i))
theorem SlowT.dec {W w : World} {b : Nat} (h : SlowT W b) (hW : BelowG W w b) (hb : b ≤ W.heap.size) : SlowT w b := by
 have hs := h.ch.size;obtain ⟨a, c, h1, h2, h3⟩ := h.pt;refine ⟨h.ch.dec hW hb, ?_, ?_, ?_, a, c, ?_, h2, fun i hi => ⟨(h3 i hi).1, ?_⟩⟩
 ·rw [hW.cell (by show 7 ≠ b; omega) (by show 7 < _; omega)]; exact h.m7
 ·rw [hW.cell (by show 7 ≠ b; omega) (by show 7 < _; omega)]; exact h.x7
 ·rw [hW.cell (by show 7 ≠ b; omega) (by show 7 < _; omega)]; exact h.b7
 ·rw [hW.cell (by show 11 ≠ b; omega) (by show 11 < _; omega)]; exact h1
 ·have h4 := h3 i hi;rw [hW.cell (by omega) (by omega)]; exact h4.2
end Go.Proofs.YtlblkajnmdhmdaaGreatDoor
