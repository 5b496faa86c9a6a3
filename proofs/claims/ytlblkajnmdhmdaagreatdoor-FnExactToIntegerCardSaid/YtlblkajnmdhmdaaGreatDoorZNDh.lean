/-
  Plain: worlds that differ in one block alone.
  The library's decimal in memory; walks: trim, prefixIsLessThan.
  Walk: the library's rightShift.
  Walk: the library's prefixIsLessThan.
  Walk: the library's leftShift.
-/
import Derived.Test.YtlblkajnmdhmdaaGreatDoorZNPn
namespace Go.Proofs.YtlblkajnmdhmdaaGreatDoor
set_option linter.unusedVariables false
open Go.RowKit Lib Go.Op
/-- But for block g nothing has turned of what was there. -/
structure BelowG (W w : World) (g : Nat) : Prop where
 os : w.os = W.os
 tape : w.tape = W.tape
 output : w.output = W.output
 size : W.heap.size ≤ w.heap.size
 block : ∀ b, b ≠ g → b < W.heap.size → w.heap[b]? = W.heap[b]?
theorem BelowG.refl (W : World) (g : Nat) : BelowG W W g := ⟨rfl, rfl, rfl, Nat.le_refl _, fun _ _ _ => rfl⟩
theorem BelowG.below {W w w' : World} {g : Nat} (h : BelowG W w g) (hb : Below w.heap.size w w') : BelowG W w' g :=
 ⟨hb.os.trans h.os, hb.tape.trans h.tape, hb.output.trans h.output, Nat.le_trans h.size hb.size, fun b hb1 hb2 => (hb.block b (Nat.lt_of_lt_of_le hb2 h.size)).trans (h.block b hb1 hb2)⟩
theorem BelowG.set {W w : World} {g : Nat} (h : BelowG W w g) (i : Nat) (v : Value) : BelowG W (w.setCell ⟨g, i, none⟩ v) g :=
 ⟨h.os, h.tape, h.output, by simpa using h.size, fun b hb1 hb2 => (Below.heap_setCell w _ v b hb1).trans (h.block b hb1 hb2)⟩
theorem BelowG.drewN {W w : World} {g : Nat} (h : BelowG W w g) (n : Nat) : BelowG W (w.drewN n) g := ⟨h.os, h.tape, h.output, h.size, h.block⟩
end Go.Proofs.YtlblkajnmdhmdaaGreatDoor
namespace Go.Proofs.YtlblkajnmdhmdaaGreatDoor
set_option linter.unusedVariables false
open Go.RowKit Lib Go.Op
/-- A decimal's 804 cells: 800 bytes, the count of digits, the point, the sign (never set), the mark of a cut. -/
structure RawC (C : Array Value) (nd : Nat) (dp : Int) (tr : Bool) : Prop where
 size : C.size = 804
 any : ∀ i, i < 800 → ∃ z : Nat, C[i]? = some (.int .u8 z) ∧ z < 256
 cnd : C[800]? = some (.int .i64 nd)
 cdp : C[801]? = some (.int .i64 dp)
 cneg : C[802]? = some (.bool false)
 ctr : C[803]? = some (.bool tr)
/-- The first nd bytes are the digits of N. -/
def DigC (C : Array Value) (N nd : Nat) : Prop := ∀ i, i < nd → C[i]? = some (.int .u8 ((48 + N / 10 ^ (nd - 1 - i) % 10 : Nat) : Int))
theorem get_set {C : Array Value} {i j : Nat} {v : Value} (hi : i < C.size) : (C.setIfInBounds i v)[j]? = if i = j then some v else C[j]? := by
 rw [Array.getElem?_setIfInBounds];by_cases h : i = j
 ·rw [if_pos h, if_pos h, if_pos (by omega)]
 ·rw [if_neg h, if_neg h]
theorem RawC.digit {C : Array Value} {nd : Nat} {dp : Int} {tr : Bool} (h : RawC C nd dp tr) {i z : Nat} (hi : i < 800) (hz : z < 256) : RawC (C.setIfInBounds i (.int .u8 z)) nd dp tr := by
 have hs := h.size;refine ⟨by simp [hs], fun j hj => ?_, ?_, ?_, ?_, ?_⟩
 ·rw [get_set (by omega)];by_cases e : i = j
  ·rw [if_pos e];exact ⟨z, rfl, hz⟩
  ·rw [if_neg e];exact h.any j hj
 ·rw [get_set (by omega), if_neg (by omega)]; exact h.cnd
 ·rw [get_set (by omega), if_neg (by omega)]; exact h.cdp
 ·rw [get_set (by omega), if_neg (by omega)]; exact h.cneg
 ·rw [get_set (by omega), if_neg (by omega)]; exact h.ctr
theorem RawC.setNd {C : Array Value} {nd : Nat} {dp : Int} {tr : Bool} (h : RawC C nd dp tr) (n : Nat) : RawC (C.setIfInBounds 800 (.int .i64 n)) n dp tr := by
 have hs := h.size;refine ⟨by simp [hs], fun j hj => ?_, ?_, ?_, ?_, ?_⟩
 ·rw [get_set (by omega), if_neg (by omega)]; exact h.any j hj
 ·rw [get_set (by omega), if_pos rfl]
 ·rw [get_set (by omega), if_neg (by omega)]; exact h.cdp
 ·rw [get_set (by omega), if_neg (by omega)]; exact h.cneg
 ·rw [get_set (by omega), if_neg (by omega)]; exact h.ctr
theorem RawC.setDp {C : Array Value} {nd : Nat} {dp : Int} {tr : Bool} (h : RawC C nd dp tr) (n : Int) : RawC (C.setIfInBounds 801 (.int .i64 n)) nd n tr := by
 have hs := h.size;refine ⟨by simp [hs], fun j hj => ?_, ?_, ?_, ?_, ?_⟩
 ·rw [get_set (by omega), if_neg (by omega)]; exact h.any j hj
 ·rw [get_set (by omega), if_neg (by omega)]; exact h.cnd
 ·rw [get_set (by omega), if_pos rfl]
 ·rw [get_set (by omega), if_neg (by omega)]; exact h.cneg
 ·rw [get_set (by omega), if_neg (by omega)]; exact h.ctr
theorem RawC.setTr {C : Array Value} {nd : Nat} {dp : Int} {tr : Bool} (h : RawC C nd dp tr) (t : Bool) : RawC (C.setIfInBounds 803 (.bool t)) nd dp t := by
 have hs := h.size;refine ⟨by simp [hs], fun j hj => ?_, ?_, ?_, ?_, ?_⟩
 ·rw [get_set (by omega), if_neg (by omega)]; exact h.any j hj
 ·rw [get_set (by omega), if_neg (by omega)]; exact h.cnd
 ·rw [get_set (by omega), if_neg (by omega)]; exact h.cdp
 ·rw [get_set (by omega), if_neg (by omega)]; exact h.cneg
 ·rw [get_set (by omega), if_pos rfl]
theorem DigC.other {C : Array Value} {N nd i : Nat} {v : Value} (h : DigC C N nd) (hi : nd ≤ i) (hs : i < C.size) : DigC (C.setIfInBounds i v) N nd := fun j hj => by
 rw [get_set hs, if_neg (by omega)];exact h j hj
theorem DigC.cut {C : Array Value} {N nd z : Nat} (h : DigC C N nd) (hz : z ≤ nd) : DigC C (N / 10 ^ z) (nd - z) := fun i hi => by
 have e : N / 10 ^ z / 10 ^ (nd - z - 1 - i) = N / 10 ^ (nd - 1 - i) := by
  rw [Nat.div_div_eq_div_mul, ← Nat.pow_add]
  exact congrArg (N / 10 ^ ·) (by omega)
 rw [e];exact h i (by omega)
/-- The world: the decimal at block b, all else as in W. -/
def DecW (W w : World) (b : Nat) (C : Array Value) : Prop := BelowG W w b ∧ w.heap[b]? = some (.cells C 188 (0, 0))
theorem DecW.set {W w : World} {b : Nat} {C : Array Value} (h : DecW W w b C) (i : Nat) (v : Value) : DecW W (w.setCell ⟨b, i, none⟩ v) b (C.setIfInBounds i v) := ⟨h.1.set i v, nblk_set h.2 i v⟩
theorem DecW.drewN {W w : World} {b : Nat} {C : Array Value} (h : DecW W w b C) (n : Nat) : DecW W (w.drewN n) b C := ⟨h.1.drewN n, h.2⟩
theorem DecW.cell {W w : World} {b : Nat} {C : Array Value} (h : DecW W w b C) (i : Nat) : w.cell? ⟨b, i, none⟩ = C[i]? := nblk_cell h.2 i
theorem DecW.free {W w : World} {b : Nat} {C : Array Value} (h : DecW W w b C) (i : Nat) : w.frozen? ⟨b, i, none⟩ = false := by simp [World.frozen?, h.2]
/-- Zeros at the end are struck. -/
def TrimPost (W : World) (b N nd : Nat) (dp : Int) (tr : Bool) (e : Ending) (w' : World) : Prop :=
 e = .returned (.tuple #[]) ∧ ∃ (z : Nat) (C : Array Value), z ≤ nd ∧ N / 10 ^ z * 10 ^ z = N ∧ (nd - z = 0 ∨ N / 10 ^ z % 10 ≠ 0) ∧ DecW W w' b C ∧ RawC C (nd - z) (if nd - z = 0 then 0 else dp) tr ∧ DigC C (N / 10 ^ z) (nd - z)
set_option maxRecDepth 100000 in
set_option maxHeartbeats 1000000 in
theorem trim_any (W w : World) (b N nd : Nat) (dp : Int) (tr : Bool) (C : Array Value) (hw : DecW W w b C) (hr : RawC C nd dp tr) (hd : DigC C N nd) (hnd : nd ≤ 800) :
  Calls Tryz.prog 211 #[.pointer (some ⟨b, 0, none⟩)] w (TrimPost W b N nd dp tr) := by
 have HW := hid hw;have HR := hid hr;have HD := hid hd;clear hw hr hd;go_enter Tryz.func211, Tryz.ntmps211
 go_wp2_with fail
 go_loopw [] (fun wx => ∃ (z : Nat) (C : Array Value), z ≤ nd ∧ N / 10 ^ z * 10 ^ z = N ∧ Hid (DecW W wx b C) ∧ Hid (RawC C (nd - z) dp tr) ∧ Hid (DigC C (N / 10 ^ z) (nd - z))) (fun wx => match wx.cell? ⟨b, 800, none⟩ with | some (.int _ n) => n.toNat | _ => 0)
 case atStart => exact ⟨0, C, Nat.zero_le _, by rw [Nat.pow_zero, Nat.div_one, Nat.mul_one], HW, HR, hid (by rw [Nat.pow_zero, Nat.div_one]; exact HD.out)⟩
 case round =>
  obtain ⟨z, C1, hz, hN, hW, hR, hD⟩ := hrel;have c0 : wr.cell? ⟨b, 800, none⟩ = some (.int .i64 ((nd - z : Nat) : Int)) := (hW.out.cell 800).trans hR.out.cnd;have c1 : wr.cell? ⟨b, 801, none⟩ = some (.int .i64 dp) := (hW.out.cell 801).trans hR.out.cdp;have f0 := hW.out.free 800;have f1 := hW.out.free 801;have hdr : ∀ n, DecW W (wr.drewN n) b C1 := fun n => hW.out.drewN n;by_cases h0 : nd - z = 0
  ·rw [h0] at c0
   go_wp2_with fail
   go_quiet (fail)
   go_wp2_with fail
   go_end0
   refine ⟨rfl, z, C1.setIfInBounds 801 (.int .i64 0), hz, hN, Or.inl h0, (hdr _).set _ _, ?_, ?_⟩
   ·rw [if_pos h0];exact hR.out.setDp 0
   ·exact hD.out.other (by omega) (by rw [hR.out.size]; decide)
  ·obtain ⟨y, hy⟩ : ∃ y : Nat, nd - z = y + 1 := ⟨nd - z - 1, by omega⟩;obtain ⟨g, hg⟩ : ∃ g, N / 10 ^ z % 10 = g := ⟨_, rfl⟩
   have cy : wr.cell? ⟨b, y, none⟩ = some (.int .u8 ((48 + g : Nat) : Int)) := by
    rw [hW.out.cell, hD.out y (by omega)];have : nd - z - 1 - y = 0 := (by omega);rw [this, Nat.pow_zero, Nat.div_one, hg]
   have fy := hW.out.free y;rw [hy] at c0;have hm : (match wr.cell? ⟨b, 800, none⟩ with | some (.int _ n) => n.toNat | _ => 0) = y + 1 := (by rw [c0]; rfl);by_cases hg0 : g = 0
   ·subst hg0
    go_wp2_with fail
    go_quiet (fail)
    go_wp2_with fail
    have hN1 : N / 10 ^ (z + 1) = N / 10 ^ z / 10 := (by rw [Nat.pow_succ, Nat.div_div_eq_div_mul]);refine ⟨⟨z + 1, C1.setIfInBounds 800 (.int .i64 (y : Nat)), by omega, ?_, hid ((hdr _).set _ _), hid ?_, hid ?_⟩, ?_⟩
    ·rw [hN1, Nat.pow_succ, Nat.mul_comm (10 ^ z), ← Nat.mul_assoc, Nat.div_mul_cancel (Nat.dvd_of_mod_eq_zero hg), hN]
    ·have : nd - (z + 1) = y := (by omega);rw [this];exact hR.out.setNd y
    ·have h1 := hD.out.cut (z := 1) (by omega);rw [Nat.pow_one, ← hN1, Nat.sub_sub] at h1;exact h1.other (by omega) (by rw [hR.out.size]; decide)
    ·rw [hm, ((hdr _).set 800 _).cell, get_set (by rw [hR.out.size]; decide), if_pos rfl];show (y : Int).toNat < y + 1;omega
   ·have hgd : (((48 + g : Nat) : Int) == 48) = false := (by simp; omega);have hy0 : (((y + 1 : Nat) : Int) == 0) = false := (by simp; omega)
    go_wp2_with fail
    go_quiet (fail)
    go_wp2_with fail
    go_end0
    refine ⟨rfl, z, C1, hz, hN, Or.inr (by rw [hg]; exact hg0), hdr _, ?_, hD.out⟩;rw [if_neg h0];exact hR.out
end Go.Proofs.YtlblkajnmdhmdaaGreatDoor
namespace Go.Proofs.YtlblkajnmdhmdaaGreatDoor
set_option linter.unusedVariables false
open Go.RowKit Lib Go.Op
/-- The number that the first r digits of N (nd digits, then zeros) make. -/
def preP (N nd r : Nat) : Nat := N * 10 ^ (r - nd) / 10 ^ (nd - r)
theorem preP_zero {N nd : Nat} (h : N < 10 ^ nd) : preP N nd 0 = 0 := by
 unfold preP;rw [Nat.zero_sub, Nat.pow_zero, Nat.mul_one, Nat.sub_zero];exact Nat.div_eq_of_lt h
theorem preP_lt {N nd r : Nat} (h : r < nd) : preP N nd (r + 1) = preP N nd r * 10 + N / 10 ^ (nd - 1 - r) % 10 := by
 unfold preP;rw [show r + 1 - nd = 0 by omega, show r - nd = 0 by omega, Nat.pow_zero, Nat.mul_one];have e : 10 ^ (nd - r) = 10 ^ (nd - (r + 1)) * 10 := (by rw [← Nat.pow_succ]; exact congrArg _ (by omega));have e2 : nd - 1 - r = nd - (r + 1) := (by omega);rw [e, e2, ← Nat.div_div_eq_div_mul];omega
theorem preP_ge {N nd r : Nat} (h : nd ≤ r) : preP N nd (r + 1) = preP N nd r * 10 := by
 unfold preP;rw [show nd - (r + 1) = 0 by omega, show nd - r = 0 by omega, Nat.pow_zero, Nat.div_one, Nat.div_one, show r + 1 - nd = r - nd + 1 by omega, Nat.pow_succ, Nat.mul_assoc]
theorem preP_end {N nd r : Nat} (h : nd ≤ r) : preP N nd r = N * 10 ^ (r - nd) := by
 unfold preP;rw [show nd - r = 0 by omega, Nat.pow_zero, Nat.div_one]
theorem DigC.push {C : Array Value} {Q w g : Nat} (h : DigC C Q w) (hg : g < 10) (hs : w < C.size) : DigC (C.setIfInBounds w (.int .u8 ((48 + g : Nat) : Int))) (Q * 10 + g) (w + 1) := fun i hi => by
 rw [get_set hs];by_cases e : w = i
 ·subst e;rw [if_pos rfl, show w + 1 - 1 - w = 0 by omega, Nat.pow_zero, Nat.div_one, show (Q * 10 + g) % 10 = g by omega]
 ·rw [if_neg e, show w + 1 - 1 - i = w - 1 - i + 1 by omega, Nat.pow_succ, Nat.mul_comm (10 ^ _), ← Nat.div_div_eq_div_mul, show (Q * 10 + g) / 10 = Q by omega];exact h i (by omega)
/-- The value is cut to Q (c digits) behind a shift to the right. -/
def RightPost (W : World) (b m N nd : Nat) (dp : Int) (tr : Bool) (e : Ending) (w' : World) : Prop :=
 ∃ Q c n r : Nat, c ≤ r ∧ r - c ≤ nd + 20 ∧ nd ≤ r ∧ 1 ≤ c ∧ c ≤ 800 ∧ 10 ^ (c - 1) ≤ Q ∧ Q < 10 ^ c ∧ N * 10 ^ (r - nd) = Q * (10 * m) + n ∧ n < 10 * m ∧ (0 < n → c = 800) ∧
  TrimPost W b Q c (dp - (((r - c : Nat) : Int) - 1)) (tr || decide (0 < n)) e w'
/-- From byte j on the digits of N still stand. -/
def TailC (C : Array Value) (N nd j : Nat) : Prop := ∀ i, j ≤ i → i < nd → C[i]? = some (.int .u8 ((48 + N / 10 ^ (nd - 1 - i) % 10 : Nat) : Int))
theorem TailC.set {C : Array Value} {N nd j i : Nat} {v : Value} (h : TailC C N nd j) (hi : i < j) (hs : i < C.size) : TailC (C.setIfInBounds i v) N nd j := fun x h1 h2 => by
 rw [get_set hs, if_neg (by omega)];exact h x h1 h2
theorem step_alg {Q m n dg q g : Nat} (e : m * dg + q = n) : (Q * (10 * m) + n) * 10 + g = (Q * 10 + dg) * (10 * m) + (q * 10 + g) := by
 subst e;have h1 : Q * (10 * m) = 10 * (Q * m) := (by rw [Nat.mul_left_comm])
 have h2 : (Q * 10 + dg) * (10 * m) = 100 * (Q * m) + 10 * (m * dg) := by
  rw [Nat.add_mul, Nat.mul_assoc Q 10, Nat.mul_left_comm dg, Nat.mul_comm dg m, ← Nat.mul_assoc 10 10 m, Nat.mul_left_comm Q]
 rw [h1, h2];omega
theorem lead_alg {Q c dg m n : Nat} (h1 : c = 0 ∨ 10 ^ (c - 1) ≤ Q) (h2 : c = 0 → Q = 0 ∧ m ≤ n) (hd : m ≤ n → 1 ≤ dg) (hQ : Q < 10 ^ c) (hdg : dg < 10) : 10 ^ c ≤ Q * 10 + dg ∧ Q * 10 + dg < 10 ^ (c + 1) := by
 rw [Nat.pow_succ];refine ⟨?_, by omega⟩;by_cases h : c = 0
 ·have := hd (h2 h).2;subst h;rw [Nat.pow_zero];omega
 ·have h3 := h1.resolve_left h;obtain ⟨x, rfl⟩ : ∃ x, c = x + 1 := ⟨c - 1, by omega⟩;rw [Nat.add_sub_cancel] at h3;rw [Nat.pow_succ];omega
/-- How far n is from being empty behind shifts to the left. -/
def nuM : Nat → Nat → Nat
 | 0, _ => 0
 | f + 1, n => if n % 2 = 1 then f + 1 else nuM f (n / 2)
theorem nuM_le : ∀ f n, nuM f n ≤ f
 | 0, _ => Nat.le_refl _
 | f + 1, n => by
  unfold nuM;split
  ·exact Nat.le_refl _
  ·exact Nat.le_succ_of_le (nuM_le f _)
theorem nuM_lt : ∀ f n x, 0 < n → n < 2 ^ f → (∀ j, 2 ^ j ∣ n → 2 ^ (j + 1) ∣ x) → nuM f x < nuM f n
 | 0, n, x, h1, h2, _ => by rw [Nat.pow_zero] at h2; omega
 | f + 1, n, x, h1, h2, h3 => by
  have hx : x % 2 = 0 := by
   have := h3 0 (by rw [Nat.pow_zero]; exact Nat.one_dvd _);exact Nat.mod_eq_zero_of_dvd this
  unfold nuM;rw [if_neg (by omega)];by_cases hn : n % 2 = 1
  ·rw [if_pos hn];exact Nat.lt_succ_of_le (nuM_le f _)
  ·rw [if_neg hn];refine nuM_lt f (n / 2) (x / 2) (by omega) (by rw [Nat.pow_succ] at h2; omega) fun j hj => ?_
   have h4 : 2 ^ (j + 1) ∣ n := by
    obtain ⟨t, ht⟩ := hj;exact ⟨t, by rw [Nat.pow_succ, Nat.mul_assoc, Nat.mul_left_comm, ← ht]; omega⟩
   obtain ⟨t, ht⟩ := h3 _ h4;refine ⟨t, ?_⟩;rw [Nat.pow_succ 2 (j + 1), Nat.mul_comm _ 2, Nat.mul_assoc] at ht;omega
/-- The library's marks of the shift. -/
structure ShlK (k m : Nat) : Prop where
 m2 : m = 2 ^ k
 k60 : 1 ≤ k ∧ k ≤ 60
theorem ShlK.le {k m : Nat} (h : ShlK k m) : 2 ≤ m ∧ m ≤ 1152921504606846976 := by
 have h1 : 2 ^ 1 ≤ 2 ^ k := Nat.pow_le_pow_right (by decide) h.k60.1;have h2 : 2 ^ k ≤ 2 ^ 60 := Nat.pow_le_pow_right (by decide) h.k60.2;rw [h.m2];omega
theorem ShlK.mask {k m : Nat} (h : ShlK k m) : IntKind.u64.wrap (IntKind.u64.wrap (2 ^ min k 64) - 1) = ((m - 1 : Nat) : Int) := by
 have hm := h.le;rw [Nat.min_eq_left (by have := h.k60; omega), show ((2 : Int) ^ k) = ((m : Nat) : Int) by rw [h.m2]; push_cast; rfl, IntKind.wrap_u64, IntKind.wrap_u64];omega
theorem ShlK.and {k m : Nat} (h : ShlK k m) {n : Nat} (hn : n < 2 ^ 64) : bits .and .u64 (n : Int) ((m - 1 : Nat) : Int) = ((n % m : Nat) : Int) := by
 have hm := h.le;have h' : (2 : Nat) ^ 64 = 18446744073709551616 := (by decide);rw [h'] at hn;rw [bits_and_u64_nat n (m - 1) hn (by omega), h.m2, Nat.and_two_pow_sub_one_eq_mod]
theorem ShlK.shr {k m : Nat} (h : ShlK k m) (n : Nat) : (n : Int) / 2 ^ min k 64 = ((n / m : Nat) : Int) := by
 rw [h.m2];exact shr_at n k (by have := h.k60; omega)
theorem ShlK.measure {k m n : Nat} (h : ShlK k m) (h0 : 0 < n) (hn : n < 2 ^ 64) : nuM 64 (n % m * 10) < nuM 64 n := by
 refine nuM_lt 64 n _ h0 hn fun j hj => ?_;rw [h.m2];by_cases hjk : j ≤ k
 ·have h1 : 2 ^ j ∣ n % 2 ^ k := (Nat.dvd_mod_iff (Nat.pow_dvd_pow 2 hjk)).2 hj;obtain ⟨t, ht⟩ := h1;exact ⟨t * 5, by rw [ht, Nat.pow_succ, Nat.mul_assoc, Nat.mul_assoc]; exact congrArg _ (by omega)⟩
 ·have h1 : 2 ^ k ∣ n := Nat.dvd_trans (Nat.pow_dvd_pow 2 (by omega)) hj;rw [Nat.mod_eq_zero_of_dvd h1, Nat.zero_mul];exact Nat.dvd_zero _
set_option maxRecDepth 100000 in
set_option maxHeartbeats 1000000 in
theorem right_any (W w : World) (b k m N nd : Nat) (dp : Int) (tr : Bool) (C : Array Value) (hw : DecW W w b C) (hr : RawC C nd dp tr) (hd : DigC C N nd) (hnd : nd ≤ 800) (hk : ShlK k m) (hN : N < 10 ^ nd) (hN0 : 0 < N) (hdp : -2000 ≤ dp ∧ dp ≤ 2000) :
  Calls Tryz.prog 213 #[.pointer (some ⟨b, 0, none⟩), .int .u64 k] w (RightPost W b m N nd dp tr) := by
 have HW := hid hw;have HR := hid hr;have HD := hid hd;have HK := hid hk;have HN := hid hN;have hsr : ∀ n : Nat, (n : Int) / 2 ^ min k 64 = ((n / m : Nat) : Int) := fun n => by rw [hk.m2]; exact shr_at n k (by have := hk.k60; omega)
 have HSR := hid hsr;clear hw hr hd hk hN hsr;go_enter Tryz.func213, Tryz.ntmps213
 go_upto_block 0 with fail
 go_cut [4, 6, 7] from 12 to 48 (fun v4 v6 v7 wc => ∃ r n : Nat, v4 = .int .i64 r ∧ v6 = .int .u64 n ∧ 1 ≤ r ∧ r ≤ nd + 20 ∧ n = preP N nd r ∧ m ≤ n ∧ n < 10 * m ∧ Hid (DecW W wc b C))
 case first =>
  go_wp2_with fail
  go_loopw [4, 6, 7] (fun v4 v6 v7 wc => ∃ r n : Nat, v4 = .int .i64 r ∧ v6 = .int .u64 n ∧ r ≤ nd ∧ n = preP N nd r ∧ n < 10 * m ∧ (n < m ∨ 1 ≤ r) ∧ Hid (DecW W wc b C)) (fun v4 _ _ _ => nd - (RowKit.intOf v4).toNat)
  case atStart => exact ⟨0, 0, rfl, rfl, Nat.zero_le _, (preP_zero HN.out).symm, by have := HK.out.le; omega, Or.inl (by have := HK.out.le; omega), HW⟩
  case round =>
   obtain ⟨r, n, rfl, rfl, hr, hn, hn10, hr1, hW⟩ := hrel;have hP := hid hn;clear hn;have hm := HK.out.le;have c0 : wr.cell? ⟨b, 800, none⟩ = some (.int .i64 nd) := (hW.out.cell 800).trans HR.out.cnd;have f0 := hW.out.free 800;by_cases hnm : n < m
   ·have hz : ((n : Int) / 2 ^ min k 64 == 0) = true := (by rw [HSR.out, Nat.div_eq_of_lt hnm]; rfl);by_cases hrn : r = nd
    ·subst hrn;have hle : decide (r ≤ r) = true := decide_eq_true (Nat.le_refl _);have hPN := hid (show n = N by rw [hP.out, preP_end (Nat.le_refl _), Nat.sub_self, Nat.pow_zero, Nat.mul_one]);have hn1 : 0 < n := (by rw [hPN.out]; exact hN0);have hn0 : ((n : Int) == 0) = false := (by simp; omega)
     have hr1' : 1 ≤ r := by
      have := HN.out
      cases r with
      | zero => rw [Nat.pow_zero] at this; omega
      | succ r => omega
     obtain ⟨wo, hwo⟩ : ∃ wo : World, wo = wr := ⟨_, rfl⟩;subst hwo
     go_wp2_with fail
     go_loopw [4, 6] (fun v4 v6 wc => ∃ r1 n1 : Nat, v4 = .int .i64 r1 ∧ v6 = .int .u64 n1 ∧ r ≤ r1 ∧ Hid (n1 = N * 10 ^ (r1 - r)) ∧ 0 < n1 ∧ (n1 < m ∨ r < r1) ∧ r1 ≤ r + 20 ∧ 10 ^ (r1 - r) ≤ n1 ∧ n1 < 10 * m ∧ Hid (DecW W wc b C)) (fun _ v6 _ => 10 * m - (RowKit.intOf v6).toNat)
     case atStart => exact ⟨r, n, rfl, rfl, Nat.le_refl _, hid (by rw [Nat.sub_self, Nat.pow_zero, Nat.mul_one]; exact hPN.out), hn1, Or.inl hnm, by omega, by rw [Nat.sub_self]; exact hn1, hn10, hW⟩
     case round =>
      obtain ⟨r1, n1, rfl, rfl, hr2, hN1, hn2, hn3, hr20, hp1, hn4, hW⟩ := hrel;clear hz hle hn0 c0 f0;by_cases hnm1 : n1 < m
      ·have hz : ((n1 : Int) / 2 ^ min k 64 == 0) = true := (by rw [HSR.out, Nat.div_eq_of_lt hnm1]; rfl)
       have hr19 : r1 - r < 19 := by
        apply Nat.lt_of_not_le;intro h;have := Nat.pow_le_pow_right (show 0 < 10 by decide) h;have h19 : 10 ^ 19 = 10000000000000000000 := (by decide);omega
       have hps : 10 ^ (r1 + 1 - r) = 10 ^ (r1 - r) * 10 := (by rw [← Nat.pow_succ]; exact congrArg _ (by omega))
       go_wp2_with fail
       refine ⟨⟨r1 + 1, n1 * 10, rfl, rfl, by omega, hid ?_, by omega, Or.inr (by omega), by omega, by omega, by omega, hW⟩, ?_⟩
       ·rw [hps, hN1.out, Nat.mul_assoc]
       ·show 10 * m - (((n1 : Int) * 10).toNat) < 10 * m - ((n1 : Int).toNat);omega
      ·have hz : ((n1 : Int) / 2 ^ min k 64 == 0) = false := by
        rw [HSR.out];have := Nat.div_pos (show m ≤ n1 by omega) (by omega);simp;omega
       go_wp2_with fail
       go_meet;exact ⟨r1, n1, rfl, rfl, by omega, by omega, by rw [hN1.out, preP_end hr2], by omega, hn4, hW⟩
    ·have hrn' : r < nd := (by omega);have hle : decide (nd ≤ r) = false := decide_eq_false (by omega);obtain ⟨g, hg⟩ : ∃ g, N / 10 ^ (nd - 1 - r) % 10 = g := ⟨_, rfl⟩;have hPS := hid (preP_lt (N := N) hrn');rw [hg, ← hP.out] at hPS;have hg9 : g < 10 := (by omega);have cr : wr.cell? ⟨b, r, none⟩ = some (.int .u8 ((48 + g : Nat) : Int)) := (by rw [hW.out.cell, HD.out r hrn', hg]);have fr := hW.out.free r;clear hg
     go_wp2_with fail
     refine ⟨⟨r + 1, n * 10 + g, rfl, ?_, by omega, hPS.out.symm, by omega, Or.inr (by omega), hW⟩, ?_⟩
     ·rw [show (n : Int) * 10 + (48 + g) - 48 = ((n * 10 + g : Nat) : Int) by omega]
     ·show nd - (((r : Int) + 1).toNat) < nd - ((r : Int).toNat);omega
   ·have hz : ((n : Int) / 2 ^ min k 64 == 0) = false := by
     rw [HSR.out];have := Nat.div_pos (show m ≤ n by omega) (by omega);simp;omega
    go_wp2_with fail
    go_meet;exact ⟨r, n, rfl, rfl, by omega, by omega, hP.out, by omega, hn10, hW⟩
 case rest =>
  obtain ⟨r, n, rfl, rfl, hr1, hr20, hP, hnm, hn10, hW⟩ := hcut;have c2 : wc.cell? ⟨b, 801, none⟩ = some (.int .i64 dp) := (hW.out.cell 801).trans HR.out.cdp;have f2 := hW.out.free 801;have HP := hid hP;clear hP
  go_upto_block 4 with fail
  obtain ⟨mk, hmk⟩ : ∃ mk : Nat, m - 1 = mk := ⟨_, rfl⟩;rw [HK.out.mask, hmk];have HAND := hid (fun n hn => hmk ▸ @ShlK.and k m HK.out n hn);obtain ⟨w2, hw2⟩ : ∃ w2 : World, w2 = wc.setCell ⟨b, 801, none⟩ (.int .i64 (dp - ((r : Int) - 1))) := ⟨_, rfl⟩;obtain ⟨C2, hC2⟩ : ∃ C2, C2 = C.setIfInBounds 801 (.int .i64 (dp - ((r : Int) - 1))) := ⟨_, rfl⟩;have HW2 : Hid (DecW W w2 b C2) := hid (by rw [hw2, hC2]; exact hW.out.set _ _);have HR2 : Hid (RawC C2 nd (dp - ((r : Int) - 1)) tr) := hid (by rw [hC2]; exact HR.out.setDp _);have HD2 : Hid (DigC C2 N nd) := hid (by rw [hC2]; exact HD.out.other (by omega) (by rw [HR.out.size]; decide));obtain ⟨dp2, hdp2⟩ : ∃ dp2, dp - ((r : Int) - 1) = dp2 := ⟨_, rfl⟩;rw [hdp2] at HR2;rw [← hw2];have HDP := hid hdp2;clear hdp2;clear hw2 hC2 hmk c2 f2 hW HW HR HD
  go_cut [4, 5, 6, 9, 10] from 61 to 96 (fun v4 v5 v6 _ _ wx => ∃ (c Q n : Nat) (C : Array Value), v4 = .int .i64 ((r + c : Nat) : Int) ∧ v5 = .int .i64 c ∧ v6 = .int .u64 n ∧ nd ≤ r + c ∧ c ≤ nd ∧ Hid (preP N nd (r + c) = Q * (10 * m) + n) ∧ n < 10 * m ∧ (c = 0 ∨ 10 ^ (c - 1) ≤ Q) ∧ (c = 0 → Q = 0 ∧ m ≤ n) ∧ Q < 10 ^ c ∧ Hid (DecW W wx b C) ∧ Hid (RawC C nd dp2 tr) ∧ Hid (DigC C Q c))
  case first =>
   go_wp2_with fail
   go_loopw [4, 5, 6] (fun v4 v5 v6 wx => ∃ (c Q n : Nat) (C : Array Value), v4 = .int .i64 ((r + c : Nat) : Int) ∧ v5 = .int .i64 c ∧ v6 = .int .u64 n ∧ c ≤ nd - r ∧ Hid (preP N nd (r + c) = Q * (10 * m) + n) ∧ n < 10 * m ∧ (c = 0 ∨ 10 ^ (c - 1) ≤ Q) ∧ (c = 0 → Q = 0 ∧ m ≤ n) ∧ Q < 10 ^ c ∧ Hid (DecW W wx b C) ∧ Hid (RawC C nd dp2 tr) ∧ Hid (DigC C Q c) ∧ Hid (TailC C N nd (r + c))) (fun v4 _ _ _ => nd - (RowKit.intOf v4).toNat)
   case atStart => exact ⟨0, 0, n, C2, rfl, rfl, rfl, Nat.zero_le _, hid (by rw [Nat.zero_mul, Nat.zero_add]; exact HP.out.symm), hn10, Or.inl rfl, fun _ => ⟨rfl, hnm⟩, Nat.one_pos, HW2, HR2, hid (fun i hi => absurd hi (by omega)), hid (fun i _ hi => HD2.out i hi)⟩
   case round =>
    obtain ⟨c, Q, n1, C3, rfl, rfl, rfl, hc, hP1, hn1, hQ1, hQ0, hQ2, hW3, hR3, hD3, hT3⟩ := hrel;have hm := HK.out.le;have hsz := hR3.out.size;have c0 : wr.cell? ⟨b, 800, none⟩ = some (.int .i64 nd) := (hW3.out.cell 800).trans hR3.out.cnd;have f0 := hW3.out.free 800;by_cases hj : r + c < nd
    ·have hlt : decide (r + c < nd) = true := decide_eq_true hj;obtain ⟨j, hjj⟩ : ∃ j, r + c = j := ⟨_, rfl⟩;rw [hjj] at hP1 hT3 hlt hj;obtain ⟨g, hg⟩ : ∃ g, N / 10 ^ (nd - 1 - j) % 10 = g := ⟨_, rfl⟩;have hPS := hid (preP_lt (N := N) hj);rw [hg, hP1.out] at hPS;have hg9 : g < 10 := (by omega);have cr : wr.cell? ⟨b, j, none⟩ = some (.int .u8 ((48 + g : Nat) : Int)) := (by rw [hW3.out.cell, hT3.out j (Nat.le_refl _) hj, hg]);have fr := hW3.out.free j;have fc := hW3.out.free c;obtain ⟨y, hy1, hy2⟩ := hR3.out.any c (by omega);have cc : wr.cell? ⟨b, c, none⟩ = some (.int .u8 y) := (hW3.out.cell c).trans hy1;rw [hjj];clear hg
     go_upto_region 20 with fail
     rw [HAND.out n1 (by omega), HK.out.shr];obtain ⟨dg, hdg⟩ : ∃ dg, n1 / m = dg := ⟨_, rfl⟩;obtain ⟨q, hq⟩ : ∃ q, n1 % m = q := ⟨_, rfl⟩;rw [hdg, hq];go_simp;have hdm : m * dg + q = n1 := (by rw [← hdg, ← hq]; exact Nat.div_add_mod n1 m);have hdg9 : dg < 10 := (by rw [← hdg]; exact Nat.div_lt_of_lt_mul (by omega));have hqm : q < m := (by rw [← hq]; exact Nat.mod_lt _ (by omega));have hd1 : m ≤ n1 → 1 ≤ dg := fun h => by rw [← hdg]; exact Nat.div_pos h (by omega)
     have HL := hid (lead_alg hQ1 hQ0 hd1 hQ2 hdg9);have HST := hid (step_alg (Q := Q) (g := g) hdm);have HD1 := hid hd1;clear hdg hq hdm hd1 hQ1 hQ0 hQ2
     go_wp2_with fail
     refine ⟨?rel, ?measure⟩
     case rel =>
      refine ⟨c + 1, Q * 10 + dg, q * 10 + g, C3.setIfInBounds c (.int .u8 ((48 + dg : Nat) : Int)), by go_num, by go_num, by go_num, by omega, hid ?_, by omega, Or.inr HL.out.1, fun h => absurd h (by omega), HL.out.2, hid ?_, hid (hR3.out.digit (by omega) (by omega)), hid (hD3.out.push hdg9 (by omega)), hid ?_⟩
      ·rw [show r + (c + 1) = j + 1 by omega, hPS.out, HST.out]
      ·have h := hW3.out.set c (.int .u8 ((48 + dg : Nat) : Int));rw [show ((48 + dg : Nat) : Int) = (dg : Int) + 48 by omega] at h ⊢;exact h
      ·rw [show r + (c + 1) = j + 1 by omega];exact fun i h1 h2 => (hT3.out.set (i := c) (by omega) (by omega)) i (by omega) h2
     case measure => simp [RowKit.intOf]; omega
    ·have hlt : decide (r + c < nd) = false := decide_eq_false hj
     go_wp2_with fail
     go_meet;exact ⟨c, Q, n1, C3, rfl, rfl, rfl, by omega, by omega, hP1, hn1, hQ1, hQ0, hQ2, hW3, hR3, hD3⟩
  case rest =>
   obtain ⟨c, Q, n1, C3, rfl, rfl, rfl, hrc, hcn, hP1, hn1, hQ1, hQ0, hQ2, hW3, hR3, hD3⟩ := hcut;obtain ⟨wo, hwo⟩ : ∃ wo : World, wo = wc := ⟨_, rfl⟩;subst hwo
   go_upto_block 6 with fail
   obtain ⟨s4, hs4⟩ : ∃ s4 : Nat, r + c = s4 := ⟨_, rfl⟩;rw [hs4];have HS4 := hid hs4;clear hs4
   go_cut [5, 6, 11] from 97 to 123 (fun v5 v6 _ wx => ∃ (c Q n : Nat) (C : Array Value), v5 = .int .i64 c ∧ nd ≤ r + c ∧ 1 ≤ c ∧ c ≤ 800 ∧ Hid (preP N nd (r + c) = Q * (10 * m) + n) ∧ n < 10 * m ∧ 10 ^ (c - 1) ≤ Q ∧ Q < 10 ^ c ∧ (0 < n → c = 800) ∧ Hid (DecW W wx b C) ∧ Hid (RawC C nd dp2 (tr || decide (0 < n))) ∧ Hid (DigC C Q c))
   case first =>
    go_wp2_with fail
    go_loopw [5, 6] (fun v5 v6 wx => ∃ (c Q n n0 : Nat) (t : Bool) (C : Array Value), v5 = .int .i64 c ∧ v6 = .int .u64 n ∧ nd ≤ r + c ∧ c ≤ 800 ∧ Hid (preP N nd (r + c) = Q * (10 * m) + n0) ∧ n0 < 10 * m ∧ n < 10 * m ∧ (c = 0 ∨ 10 ^ (c - 1) ≤ Q) ∧ (c = 0 → Q = 0 ∧ m ≤ n0) ∧ Q < 10 ^ c ∧ Hid (c < 800 → n = n0 ∧ t = tr) ∧ Hid (t = true → tr = true ∨ 0 < n0) ∧ Hid (tr = true → t = true) ∧ Hid (0 < n0 → t = true ∨ 0 < n) ∧ Hid (n0 = 0 → n = 0) ∧ Hid (DecW W wx b C) ∧ Hid (RawC C nd dp2 t) ∧ Hid (DigC C Q c)) (fun _ v6 _ => nuM 64 (RowKit.intOf v6).toNat)
    case atStart => exact ⟨c, Q, n1, n1, tr, C3, rfl, rfl, hrc, by omega, hP1, hn1, hn1, hQ1, hQ0, hQ2, hid (fun _ => ⟨rfl, rfl⟩), hid Or.inl, hid id, hid Or.inr, hid id, hW3, hR3, hD3⟩
    case round =>
     clear hP1 hn1 hQ1 hQ0 hQ2 hW3 hR3 hD3;obtain ⟨c, Q, n1, n0, t, C3, rfl, rfl, hrc, hc8, hP1, hn0, hn1, hQ1, hQ0, hQ2, HT1, HT2, HT3, HT4, HT5, hW3, hR3, hD3⟩ := hrel;have hm := HK.out.le;have hsz := hR3.out.size;by_cases hz : n1 = 0
     ·subst hz
      go_wp2_with fail
      go_meet
      have hc1 : 1 ≤ c := by
       apply Nat.lt_of_not_le;intro h;have h1 := hQ0 (by omega);have h2 := HT1.out (by omega);omega
      have htr : t = (tr || decide (0 < n0)) := by
       have h2 := HT2.out;have h3 := HT3.out;have h4 := HT4.out;by_cases h0 : 0 < n0
       ·rw [decide_eq_true h0, Bool.or_true];exact (h4 h0).resolve_right (by omega)
       ·rw [decide_eq_false h0, Bool.or_false]
        cases tr with
        | true => exact h3 rfl
        | false =>
         cases t with
         | false => rfl
         | true => exact absurd (h2 rfl) (by simp; omega)
      refine ⟨c, Q, n0, C3, rfl, hrc, hc1, hc8, hP1, hn0, hQ1.resolve_left (by omega), hQ2, fun h => ?_, hW3, ?_, hD3⟩
      ·apply Nat.le_antisymm hc8;apply Nat.le_of_not_lt;intro h2;have := HT1.out h2;omega
      ·rw [← htr];exact hR3
     ·have hgt : decide (0 < n1) = true := decide_eq_true (by omega)
      go_upto_region 26 with fail
      rw [HAND.out n1 (by omega), HK.out.shr];have hmea := HK.out.measure (n := n1) (by omega) (by omega);obtain ⟨dg, hdg⟩ : ∃ dg, n1 / m = dg := ⟨_, rfl⟩;obtain ⟨q, hq⟩ : ∃ q, n1 % m = q := ⟨_, rfl⟩;rw [hq] at hmea;rw [hdg, hq];go_simp;have hdm : m * dg + q = n1 := (by rw [← hdg, ← hq]; exact Nat.div_add_mod n1 m);have hdg9 : dg < 10 := (by rw [← hdg]; exact Nat.div_lt_of_lt_mul (by omega));have hqm : q < m := (by rw [← hq]; exact Nat.mod_lt _ (by omega));have hd1 : m ≤ n1 → 1 ≤ dg := fun h => by rw [← hdg]; exact Nat.div_pos h (by omega)
      have HDM := hid hdm;have HMEA := hid hmea;have HD1 := hid hd1;clear hdg hq hgt hdm hmea hd1;by_cases hc : c < 800
      ·have hlt : decide (c < 800) = true := decide_eq_true hc;obtain ⟨y, hy1, hy2⟩ := hR3.out.any c hc;have cc : wr.cell? ⟨b, c, none⟩ = some (.int .u8 y) := (hW3.out.cell c).trans hy1;have fc := hW3.out.free c;have HL := hid (lead_alg hQ1 (fun h => ⟨(hQ0 h).1, (HT1.out hc).1 ▸ (hQ0 h).2⟩) HD1.out hQ2 hdg9);have hPS := hid (preP_ge (N := N) hrc);have HST := hid (step_alg (Q := Q) (g := 0) HDM.out);have HT1' := HT1.out hc;clear hQ1 hQ0 hQ2
       go_wp2_with fail
       refine ⟨⟨c + 1, Q * 10 + dg, q * 10, q * 10, t, C3.setIfInBounds c (.int .u8 ((48 + dg : Nat) : Int)), by go_num, by go_num, by omega, by omega, hid ?_, by omega, by omega, Or.inr HL.out.1, fun h => absurd h (by omega), HL.out.2, hid (fun _ => ⟨rfl, HT1'.2⟩), hid (fun h => Or.inl (HT1'.2 ▸ h)), HT3, hid Or.inr, hid id, hid ?_, hid (hR3.out.digit hc (by omega)), hid (hD3.out.push hdg9 (by omega))⟩, ?_⟩
       ·rw [← Nat.add_assoc, hPS.out, hP1.out, ← HT1'.1];exact HST.out
       ·have h := hW3.out.set c (.int .u8 ((48 + dg : Nat) : Int));rw [show ((48 + dg : Nat) : Int) = (dg : Int) + 48 by omega] at h ⊢;exact h
       ·simp only [RowKit.intOf];rw [show ((q : Int) * 10).toNat = q * 10 by omega, Int.toNat_natCast];exact HMEA.out
      ·have hlt : decide (c < 800) = false := decide_eq_false hc;by_cases hd0 : dg = 0
       ·subst hd0
        go_wp2_with fail
        refine ⟨⟨c, Q, q * 10, n0, t, C3, by go_num, by go_num, hrc, hc8, hP1, hn0, by omega, hQ1, hQ0, hQ2, hid (fun h => absurd h hc), HT2, HT3, hid (fun h => Or.inr ?_), hid (fun h => absurd (HT5.out h) hz), hW3, hR3, hD3⟩, ?_⟩
        ·have := HDM.out;omega
        ·simp only [RowKit.intOf];rw [show ((q : Int) * 10).toNat = q * 10 by omega, Int.toNat_natCast];exact HMEA.out
       ·have hdgt : decide (0 < dg) = true := decide_eq_true (by omega);have c3 : wr.cell? ⟨b, 803, none⟩ = some (.bool t) := (hW3.out.cell 803).trans hR3.out.ctr;have f3 := hW3.out.free 803
        go_wp2_with fail
        refine ⟨⟨c, Q, q * 10, n0, true, C3.setIfInBounds 803 (.bool true), by go_num, by go_num, hrc, hc8, hP1, hn0, by omega, hQ1, hQ0, hQ2, hid (fun h => absurd h hc), hid (fun _ => Or.inr ?_), hid (fun _ => rfl), hid (fun _ => Or.inl rfl), hid (fun h => absurd (HT5.out h) hz), hid (hW3.out.set _ _), hid (hR3.out.setTr true), hid (hD3.out.other (by omega) (by omega))⟩, ?_⟩
        ·apply Nat.pos_of_ne_zero;intro h;exact hz (HT5.out h)
        ·simp only [RowKit.intOf];rw [show ((q : Int) * 10).toNat = q * 10 by omega, Int.toNat_natCast];exact HMEA.out
   case rest =>
    obtain ⟨c, Q, n0, C3, rfl, hrc, hc1, hc8, hP1, hn0, hQ1, hQ2, hn8, hW3, hR3, hD3⟩ := hcut;have c0 : wc.cell? ⟨b, 800, none⟩ = some (.int .i64 nd) := (hW3.out.cell 800).trans hR3.out.cnd;have f0 := hW3.out.free 800
    go_wp2_with fail
    refine (trim_any W _ b Q c dp2 (tr || decide (0 < n0)) (C3.setIfInBounds 800 (.int .i64 c)) (hW3.out.set _ _) (hR3.out.setNd c) (hD3.out.other hc8 (by rw [hR3.out.size]; decide)) hc8).mono ?_;rintro e w' ⟨rfl, hpost⟩;have HPO := hid hpost;clear hpost
    go_wp2_with fail
    go_end0
    have hrc2 := HP.out;refine ⟨Q, c, n0, r + c, by omega, by omega, hrc, hc1, hc8, hQ1, hQ2, ?_, hn0, hn8, rfl, ?_⟩
    ·rw [← hP1.out, preP_end hrc]
    ·rw [show r + c - c = r by omega, HDP.out];exact HPO.out
end Go.Proofs.YtlblkajnmdhmdaaGreatDoor
namespace Go.Proofs.YtlblkajnmdhmdaaGreatDoor
set_option linter.unusedVariables false
open Go.RowKit Lib Go.Op
theorem lt_pre {N nd S L A B a c : Nat} (h1 : N < (A + 1) * 10 ^ a) (h2 : B * 10 ^ c ≤ S) (h3 : A + 1 ≤ B) (h4 : a + L = c + nd) : N * 10 ^ L < S * 10 ^ nd := by
 have e1 : N * 10 ^ L < (A + 1) * 10 ^ a * 10 ^ L := Nat.mul_lt_mul_of_pos_right h1 (Nat.pow_pos (by decide));have e2 : B * 10 ^ c * 10 ^ nd ≤ S * 10 ^ nd := Nat.mul_le_mul_right _ h2;rw [Nat.mul_assoc, ← Nat.pow_add] at e1 e2;rw [h4] at e1;exact Nat.lt_of_lt_of_le e1 (Nat.le_trans (Nat.mul_le_mul_right _ h3) e2)
theorem le_pre {N nd S L A B a c : Nat} (h1 : A * 10 ^ a ≤ N) (h2 : S < (B + 1) * 10 ^ c) (h3 : B + 1 ≤ A) (h4 : a + L = c + nd) : ¬ N * 10 ^ L < S * 10 ^ nd := Nat.not_lt_of_lt (lt_pre h2 h1 h3 h4.symm)
theorem le_pre2 {N nd S L a : Nat} (h1 : S * 10 ^ a ≤ N) (h4 : a + L = nd) : ¬ N * 10 ^ L < S * 10 ^ nd := by
 rw [← h4, Nat.pow_add, ← Nat.mul_assoc];exact Nat.not_lt_of_le (Nat.mul_le_mul_right _ h1)
theorem pre_step {N nd i : Nat} (h : i < nd) : N / 10 ^ (nd - (i + 1)) = N / 10 ^ (nd - i) * 10 + N / 10 ^ (nd - 1 - i) % 10 := by
 have := preP_lt (N := N) h;unfold preP at this;rw [show i + 1 - nd = 0 by omega, show i - nd = 0 by omega, Nat.pow_zero, Nat.mul_one] at this;exact this
theorem div_lo (N a : Nat) : N / 10 ^ a * 10 ^ a ≤ N := Nat.div_mul_le_self _ _
theorem div_hi (N a : Nat) : N < (N / 10 ^ a + 1) * 10 ^ a := by
 rw [Nat.mul_comm];exact Nat.lt_mul_div_succ _ (Nat.pow_pos (by decide))
/-- The string's bytes are the L digits of S. -/
structure DigS (s : ByteArray) (S L : Nat) : Prop where
 size : s.size = L
 dig : ∀ i (h : i < s.size), s[i].toNat = 48 + S / 10 ^ (L - 1 - i) % 10
 lt : S < 10 ^ L
 last : S % 10 ≠ 0
set_option maxRecDepth 100000 in
set_option maxHeartbeats 1000000 in
theorem prefix_any (w : World) (b N nd S L : Nat) (s : ByteArray) (hC : ∀ i, i < nd → w.cell? ⟨b, i, none⟩ = some (.int .u8 ((48 + N / 10 ^ (nd - 1 - i) % 10 : Nat) : Int))) (hnd : nd ≤ 800) (hN : N < 10 ^ nd) (hs : DigS s S L) (hL : L ≤ 100) :
  Calls Tryz.prog 228 #[.slice (some ⟨b, 0, none⟩) nd 800, .string s] w fun e w' => e = .returned (.bool (decide (N * 10 ^ L < S * 10 ^ nd))) ∧ ∃ n, w' = w.drewN n := by
 have HC := hid hC;have HS := hid hs;have HN := hid hN;clear hC hs hN;go_enter Tryz.func228, Tryz.ntmps228
 go_wp2_with fail
 go_loopw [5] (fun v5 wx => ∃ i : Nat, v5 = .int .i64 i ∧ i ≤ nd ∧ i ≤ L ∧ Hid (∃ n, wx = w.drewN n) ∧ Hid (N / 10 ^ (nd - i) = S / 10 ^ (L - i))) (fun v5 _ => L - (RowKit.intOf v5).toNat)
 case atStart => exact ⟨0, rfl, by omega, by omega, hid ⟨0, rfl⟩, hid (by rw [Nat.sub_zero, Nat.sub_zero, Nat.div_eq_of_lt HN.out, Nat.div_eq_of_lt HS.out.lt])⟩
 case round =>
  obtain ⟨i, rfl, hi1, hi2, hW, hP⟩ := hrel;have hsz := HS.out.size;by_cases hiL : i = L
  ·have hlt : decide (i < L) = false := decide_eq_false (by omega)
   have hres : decide (N * 10 ^ L < S * 10 ^ nd) = false := by
    subst hiL;refine decide_eq_false (le_pre2 (a := nd - i) ?_ (by omega));have := hP.out;rw [Nat.sub_self, Nat.pow_zero, Nat.div_one] at this;rw [← this];exact div_lo _ _
   go_wp2_with fail
   go_ret;exact ⟨by rw [hres]; rfl, hW.out⟩
  ·have hlt : decide (i < L) = true := decide_eq_true (by omega);by_cases hin : i = nd
   ·have hge : decide (nd ≤ i) = true := decide_eq_true (by omega)
    have hres : decide (N * 10 ^ L < S * 10 ^ nd) = true := by
     subst hin;have := hP.out;rw [Nat.sub_self, Nat.pow_zero, Nat.div_one] at this;refine decide_eq_true ?_;have hlo : S % 10 + S / 10 * 10 = S := (by omega)
     have h1 : N * 10 ^ (L - i) < S := by
      refine Nat.lt_of_le_of_ne (by rw [this]; exact div_lo _ _) fun h => ?_;apply HS.out.last;rw [← h, show L - i = L - i - 1 + 1 by omega, Nat.pow_succ, ← Nat.mul_assoc];exact Nat.mul_mod_left _ _
     have h2 := Nat.mul_lt_mul_of_pos_right h1 (Nat.pow_pos (n := i) (show 0 < 10 by decide));rw [Nat.mul_assoc, ← Nat.pow_add, show L - i + i = L by omega] at h2;exact h2
    go_wp2_with fail
    go_ret;exact ⟨by rw [hres]; rfl, hW.out⟩
   ·have hge : decide (nd ≤ i) = false := decide_eq_false (by omega);have his : i < s.size := (by omega);have hil2 : i < L := (by omega);have hin2 : i < nd := (by omega);have hp1 := pre_step (N := N) (nd := nd) (i := i) (by omega);have hp2 := pre_step (N := S) (nd := L) (i := i) (by omega);obtain ⟨x, hx⟩ : ∃ x, N / 10 ^ (nd - 1 - i) % 10 = x := ⟨_, rfl⟩;have hx9 : x < 10 := (by omega);obtain ⟨y, hy⟩ : ∃ y, S / 10 ^ (L - 1 - i) % 10 = y := ⟨_, rfl⟩;have hy9 : y < 10 := (by omega);rw [hx] at hp1;rw [hy, ← hP.out] at hp2;have HP1 := hid hp1;have HP2 := hid hp2;have hch : s[i].toNat = 48 + y := (by rw [HS.out.dig i his, hy])
    have cx : wr.cell? ⟨b, i, none⟩ = some (.int .u8 ((48 + x : Nat) : Int)) := by
     obtain ⟨n, hn⟩ := hW.out;rw [← hx, hn];exact HC.out i (by omega)
    clear hx hy hp1 hp2;by_cases hxy : x = y
    ·subst hxy;have hne : (((48 + x : Nat) : Int) != (s[i].toNat : Int)) = false := (by rw [hch]; simp);clear hch
     go_wp2_with fail
     go_quiet (fail)
     go_wp2_with fail
     refine ⟨⟨i + 1, by go_num, by omega, by omega, hid (hW.out.elim fun n hn => ⟨n + nq, by rw [hn]; simp⟩), hid (by rw [HP1.out, HP2.out])⟩, ?_⟩;show L - (((i : Int) + 1).toNat) < L - ((i : Int).toNat);omega
    ·have hne : (((48 + x : Nat) : Int) != (s[i].toNat : Int)) = true := (by rw [hch]; simp; omega);have HCH := hid hch;clear hch
     go_wp2_with fail
     go_quiet (fail)
     go_wp2_with fail
     go_quiet (fail)
     go_wp2_with fail
     go_ret;refine ⟨?_, ?_⟩
     ·have e1 : N < (N / 10 ^ (nd - i) * 10 + x + 1) * 10 ^ (nd - (i + 1)) := (by rw [← HP1.out]; exact div_hi _ _);have e2 : (N / 10 ^ (nd - i) * 10 + x) * 10 ^ (nd - (i + 1)) ≤ N := (by rw [← HP1.out]; exact div_lo _ _);have e3 : S < (N / 10 ^ (nd - i) * 10 + y + 1) * 10 ^ (L - (i + 1)) := (by rw [← HP2.out]; exact div_hi _ _);have e4 : (N / 10 ^ (nd - i) * 10 + y) * 10 ^ (L - (i + 1)) ≤ S := (by rw [← HP2.out]; exact div_lo _ _)
      have hres : decide ((48 : Int) + x < (s[i].toNat : Int)) = decide (N * 10 ^ L < S * 10 ^ nd) := by
       rw [HCH.out];by_cases hlt2 : x < y
       ·rw [decide_eq_true (by omega), decide_eq_true (lt_pre e1 e4 (by omega) (by omega))]
       ·rw [decide_eq_false (by omega), decide_eq_false (le_pre e2 e3 (by omega) (by omega))]
      show Ending.returned (.bool (decide ((48 : Int) + x < (s[i].toNat : Int)))) = _;rw [hres]
     ·obtain ⟨n, hn⟩ := hW.out;rw [hn];exact ⟨_, by simp only [World.drewN_drewN]; rfl⟩
end Go.Proofs.YtlblkajnmdhmdaaGreatDoor
namespace Go.Proofs.YtlblkajnmdhmdaaGreatDoor
set_option linter.unusedVariables false
open Go.RowKit Lib Go.Op
/-- How many digits the number has behind the shift. -/
theorem left_digits {N nd k d L : Nat} (hN : N < 10 ^ nd) (hN1 : 10 ^ (nd - 1) ≤ N) (hnd : 1 ≤ nd) (hS : 5 ^ k < 10 ^ L) (hS1 : 10 ^ (L - 1) ≤ 5 ^ k) (hL : 1 ≤ L) (hd : d + L = k + 1) (hLk : L ≤ k) :
  (N * 10 ^ L < 5 ^ k * 10 ^ nd → 10 ^ (nd + (d - 1) - 1) ≤ N * 2 ^ k ∧ N * 2 ^ k < 10 ^ (nd + (d - 1))) ∧ (¬ N * 10 ^ L < 5 ^ k * 10 ^ nd → 10 ^ (nd + d - 1) ≤ N * 2 ^ k ∧ N * 2 ^ k < 10 ^ (nd + d)) := by
 have h25 : 2 ^ k * 5 ^ k = 10 ^ k := (by rw [← Nat.mul_pow]);have hp : ∀ n, 0 < 10 ^ n := fun n => Nat.pow_pos (by decide);have h2 : 0 < 2 ^ k := Nat.pow_pos (by decide)
 have hlo : 10 ^ (d - 1) ≤ 2 ^ k := by
  apply Nat.le_of_lt;apply Nat.lt_of_mul_lt_mul_right (a := 10 ^ L);rw [← Nat.pow_add, show d - 1 + L = k by omega, ← h25];exact Nat.mul_lt_mul_of_pos_left hS h2
 have hhi : 2 ^ k ≤ 10 ^ d := by
  apply Nat.le_of_mul_le_mul_right (c := 10 ^ (L - 1)) _ (hp _);rw [← Nat.pow_add, show d + (L - 1) = k by omega, ← h25];exact Nat.mul_le_mul_left _ hS1
 have key : N * 10 ^ L < 5 ^ k * 10 ^ nd ↔ N * 2 ^ k < 10 ^ (nd + (d - 1)) := by
  have e1 : N * 10 ^ L * 2 ^ k = N * 2 ^ k * 10 ^ L := Nat.mul_right_comm _ _ _
  have e2 : 5 ^ k * 10 ^ nd * 2 ^ k = 10 ^ (nd + (d - 1)) * 10 ^ L := by
   rw [Nat.mul_right_comm, Nat.mul_comm (5 ^ k), h25, ← Nat.pow_add, ← Nat.pow_add];exact congrArg _ (by omega)
  constructor
  ·intro h;have := Nat.mul_lt_mul_of_pos_right h h2;rw [e1, e2] at this;exact Nat.lt_of_mul_lt_mul_right this
  ·intro h;have := Nat.mul_lt_mul_of_pos_right h (hp L);rw [← e1, ← e2] at this;exact Nat.lt_of_mul_lt_mul_right this
 refine ⟨fun h => ⟨?_, key.1 h⟩, fun h => ⟨?_, ?_⟩⟩
 ·rw [show nd + (d - 1) - 1 = nd - 1 + (d - 1) by omega, Nat.pow_add];exact Nat.mul_le_mul hN1 hlo
 ·rw [show nd + d - 1 = nd + (d - 1) by omega];exact Nat.le_of_not_lt fun h' => h (key.2 h')
 ·rw [Nat.pow_add];exact Nat.lt_of_lt_of_le (Nat.mul_lt_mul_of_pos_right hN h2) (Nat.mul_le_mul_left _ hhi)
/-- Of M's T digits the last e stand where they belong, as far as there is room; t marks what was cut. -/
structure PutC (C : Array Value) (M T e nd : Nat) (dp : Int) (tr : Bool) : Prop where
 dig : ∀ i, T - e ≤ i → i < T → i < 800 → C[i]? = some (.int .u8 ((48 + M / 10 ^ (T - 1 - i) % 10 : Nat) : Int))
 raw : RawC C nd dp (tr || decide (M % 10 ^ (min e (T - 800)) ≠ 0))
theorem PutC.here {C : Array Value} {M T e nd : Nat} {dp : Int} {tr : Bool} (h : PutC C M T e nd dp tr) (he : e < T) (hr : T - 1 - e < 800) {g : Nat} (hg : M / 10 ^ e % 10 = g) :
  PutC (C.setIfInBounds (T - 1 - e) (.int .u8 ((48 + g : Nat) : Int))) M T (e + 1) nd dp tr := by
 have hs := h.raw.size;refine ⟨fun i h1 h2 h3 => ?_, ?_⟩
 ·rw [get_set (by omega)];by_cases hi : T - 1 - e = i
  ·rw [if_pos hi, show T - 1 - i = e by omega, hg]
  ·rw [if_neg hi];exact h.dig i (by omega) h2 h3
 ·rw [show min (e + 1) (T - 800) = min e (T - 800) by omega];exact h.raw.digit hr (by omega)
theorem mod_grow (M e : Nat) : M % 10 ^ (e + 1) = M / 10 ^ e % 10 * 10 ^ e + M % 10 ^ e := by
 have h1 := Nat.div_add_mod M (10 ^ e);have h2 := Nat.div_add_mod (M / 10 ^ e) 10;have h3 : M % 10 ^ e < 10 ^ e := Nat.mod_lt _ (Nat.pow_pos (by decide));have h4 : M / 10 ^ e % 10 < 10 := Nat.mod_lt _ (by decide)
 have e1 : M = 10 ^ (e + 1) * (M / 10 ^ e / 10) + (M / 10 ^ e % 10 * 10 ^ e + M % 10 ^ e) := by
  rw [Nat.pow_succ, Nat.mul_assoc, ← Nat.add_assoc, Nat.mul_comm (M / 10 ^ e % 10), ← Nat.mul_add, h2, h1]
 have e2 : M / 10 ^ e % 10 * 10 ^ e + M % 10 ^ e < 10 ^ (e + 1) := by
  rw [Nat.pow_succ];have := Nat.mul_le_mul_right (10 ^ e) (show M / 10 ^ e % 10 ≤ 9 by omega);omega
 calc M % 10 ^ (e + 1) = (10 ^ (e + 1) * (M / 10 ^ e / 10) + (M / 10 ^ e % 10 * 10 ^ e + M % 10 ^ e)) % 10 ^ (e + 1) := congrArg (· % 10 ^ (e + 1)) e1
  _ = _ := by rw [Nat.mul_add_mod, Nat.mod_eq_of_lt e2]
theorem PutC.out {C : Array Value} {M T e nd : Nat} {dp : Int} {tr : Bool} (h : PutC C M T e nd dp tr) (he : e < T) (hr : ¬ T - 1 - e < 800) {g : Nat} (hg : M / 10 ^ e % 10 = g) :
  (g = 0 → PutC C M T (e + 1) nd dp tr) ∧ (g ≠ 0 → PutC (C.setIfInBounds 803 (.bool true)) M T (e + 1) nd dp tr) := by
 have hs := h.raw.size;have hm : M % 10 ^ (e + 1) = g * 10 ^ e + M % 10 ^ e := (by rw [mod_grow, hg]);have hmin : min (e + 1) (T - 800) = e + 1 := (by omega);have hmin0 : min e (T - 800) = e := (by omega);refine ⟨fun hg0 => ⟨fun i h1 h2 h3 => h.dig i (by omega) h2 h3, ?_⟩, fun hg0 => ⟨fun i h1 h2 h3 => ?_, ?_⟩⟩
 ·have := h.raw;rw [hmin0] at this;rw [hmin, hm, hg0, Nat.zero_mul, Nat.zero_add];exact this
 ·rw [get_set (by omega), if_neg (by omega)];exact h.dig i (by omega) h2 h3
 ·have h1 : M % 10 ^ (e + 1) ≠ 0 := by
   rw [hm];have := Nat.mul_pos (Nat.pos_of_ne_zero hg0) (Nat.pow_pos (n := e) (show 0 < 10 by decide));omega
  rw [hmin, decide_eq_true h1, Bool.or_true];exact h.raw.setTr true
/-- What the part of N that has been read comes to. -/
def lowN (N m e : Nat) : Nat := N % 10 ^ e * m / 10 ^ e
theorem low_step {N m e g : Nat} (hg : N / 10 ^ e % 10 = g) : (lowN N m e + g * m) % 10 = N * m / 10 ^ e % 10 ∧ (lowN N m e + g * m) / 10 = lowN N m (e + 1) := by
 have hp : 0 < 10 ^ e := Nat.pow_pos (by decide)
 have e1 : N % 10 ^ (e + 1) * m = 10 ^ e * (g * m) + N % 10 ^ e * m := by
  rw [mod_grow, hg, Nat.add_mul, Nat.mul_comm g, Nat.mul_assoc]
 have e2 : N % 10 ^ (e + 1) * m / 10 ^ e = lowN N m e + g * m := by
  rw [e1, Nat.mul_add_div hp, Nat.add_comm];rfl
 have e3 : N * m / 10 ^ e % 10 = N % 10 ^ (e + 1) * m / 10 ^ e % 10 := by
  have h1 := Nat.div_add_mod N (10 ^ (e + 1))
  have h2 : N * m = 10 ^ e * (10 * (N / 10 ^ (e + 1) * m)) + N % 10 ^ (e + 1) * m := by
   conv => lhs; rw [← h1]
   rw [Nat.add_mul, Nat.pow_succ, Nat.mul_assoc, Nat.mul_assoc]
  rw [h2, Nat.mul_add_div hp, Nat.mul_add_mod]
 refine ⟨by rw [e3, e2], ?_⟩;rw [← e2, Nat.div_div_eq_div_mul, ← Nat.pow_succ];rfl
theorem low_all {N m nd : Nat} (h : N < 10 ^ nd) : lowN N m nd = N * m / 10 ^ nd := by unfold lowN; rw [Nat.mod_eq_of_lt h]
/-- The library's table of left shifts, row k: 2 ^ k has d digits, and the digits of 5 ^ k. -/
structure CheatAt (w : World) (k : Nat) (a : Addr) (cap d L : Nat) (s : ByteArray) : Prop where
 tab : w.cell? ⟨16, 0, none⟩ = some (.slice (some a) 61 cap)
 delta : w.cell? (a.add (k * 2)) = some (.int .i64 d)
 cut : w.cell? ⟨(a.add (k * 2)).block, (a.add (k * 2)).off + 1, none⟩ = some (.string s)
 dig : DigS s (5 ^ k) L
 lo : 10 ^ (L - 1) ≤ 5 ^ k
 len : 1 ≤ L ∧ L ≤ k ∧ d + L = k + 1
theorem slice_dec (w : World) (b nd : Nat) (h : nd ≤ 800) : (Instr.sliceAt 186 (.pointer (some ⟨b, 0, none⟩)) (some (.int .i64 0)) (some (.int .i64 nd)) none).run Tryz.prog w = .ok (.slice (some ⟨b, 0, none⟩) nd 800) w := by
 have ha : Tryz.prog.arrayLen 186 = 800 := (by kernel_rfl);rw [run_sliceAt_array_lh w _ _ (by kernel_rfl) .i64 .i64 0 nd (Int.le_refl _) (by omega) (by rw [ha]; omega)];go_simp
theorem ShlK.shl {k m l g : Nat} (h : ShlK k m) (hl : l < m) (hg : g < 10) : IntKind.u64.wrap ((l : Int) + IntKind.u64.wrap (((48 : Int) + g - 48) * 2 ^ k)) = ((l + g * m : Nat) : Int) := by
 have hm := h.le;have hgm := Nat.mul_le_mul_right m (show g ≤ 9 by omega)
 have e : ((48 : Int) + g - 48) * 2 ^ k = ((g * m : Nat) : Int) := by
  rw [show (48 : Int) + g - 48 = g by omega, h.m2];push_cast;rfl
 rw [e, IntKind.wrap_u64, IntKind.wrap_u64];omega
/-- The shifted number, cut to 800 digits. -/
def LeftPost (W : World) (b m N nd : Nat) (dp : Int) (tr : Bool) (e : Ending) (w' : World) : Prop :=
 ∃ T : Nat, nd ≤ T ∧ T ≤ nd + 60 ∧ 10 ^ (T - 1) ≤ N * m ∧ N * m < 10 ^ T ∧ TrimPost W b (N * m / 10 ^ (T - 800)) (min T 800) (dp + ((T : Int) - nd)) (tr || decide (N * m % 10 ^ (T - 800) ≠ 0)) e w'
theorem PutC.all {C : Array Value} {M T nd : Nat} {dp : Int} {tr : Bool} (h : PutC C M T T nd dp tr) : DigC C (M / 10 ^ (T - 800)) (min T 800) ∧ RawC C nd dp (tr || decide (M % 10 ^ (T - 800) ≠ 0)) := by
 refine ⟨fun i hi => ?_, ?_⟩
 ·rw [h.dig i (by omega) (by omega) (by omega), Nat.div_div_eq_div_mul, ← Nat.pow_add, show T - 1 - i = T - 800 + (min T 800 - 1 - i) by omega]
 ·have := h.raw;rw [show min T (T - 800) = T - 800 by omega] at this;exact this
set_option maxRecDepth 100000 in
set_option maxHeartbeats 1000000 in
theorem left_any (W w : World) (b k m N nd d L cap : Nat) (a : Addr) (s : ByteArray) (dp : Int) (tr : Bool) (C : Array Value) (hw : DecW W w b C) (hr : RawC C nd dp tr) (hd : DigC C N nd) (hnd1 : 1 ≤ nd) (hnd2 : nd ≤ 800) (hk : ShlK k m) (hN : N < 10 ^ nd) (hN1 : 10 ^ (nd - 1) ≤ N) (hdp : -2000 ≤ dp ∧ dp ≤ 2000) (hT : CheatAt w k a cap d L s) :
  Calls Tryz.prog 212 #[.pointer (some ⟨b, 0, none⟩), .int .u64 k] w (LeftPost W b m N nd dp tr) := by
 have HW := hid hw;have HR := hid hr;have HD := hid hd;have HK := hid hk;have HN := hid hN;have HT := hid hT;have ct := hT.tab;have cd := hT.delta;have cs := hT.cut;have hk60 : k < 61 := (by have := hk.k60; omega);have c0 : w.cell? ⟨b, 800, none⟩ = some (.int .i64 nd) := (hw.cell 800).trans hr.cnd;have f0 := hw.free 800;have hd1 := hT.len;have hkk := hk.k60;have hk61 : ((k : Int) < 61) = True := eq_true (by omega);have hsl := fun w => slice_dec w b nd hnd2;clear hw hr hd hk hN hT;go_enter Tryz.func212, Tryz.ntmps212
 go_upto_if 30 with fail
 obtain ⟨lt, hlt⟩ : ∃ lt, decide (N * 10 ^ L < 5 ^ k * 10 ^ nd) = lt := ⟨_, rfl⟩
 go_cut [30] from 17 to 29 (fun v30 wc => v30 = .bool lt ∧ Hid (DecW W wc b C))
 case first =>
  have HPRE := hid (fun (w' : World) (hw' : w'.heap = w.heap) => prefix_any w' b N nd (5 ^ k) L s (fun i hi => by rw [World.cell?, hw']; exact (HW.out.cell i).trans (HD.out i hi)) hnd2 HN.out HT.out.dig (by have := HT.out.len; have := HK.out.k60; omega));rw [hlt] at HPRE;clear hlt
  go_region_with (go_at_call 228; refine (HPRE.out _ (by rfl)).mono ?_; rintro e w' ⟨rfl, n, rfl⟩)
  all_goals (go_wp2_with fail; go_meet)
  all_goals exact ⟨rfl, hid (HW.out.drewN _)⟩
 case rest =>
 obtain ⟨rfl, hW1⟩ := hcut;obtain ⟨w1, hw1⟩ : ∃ w1 : World, w1 = wc := ⟨_, rfl⟩;subst hw1
 go_upto_if 30 with fail
 go_cut [4] from 31 to 32 (fun v4 wc => ∃ δ : Nat, v4 = .int .i64 δ ∧ δ ≤ k ∧ Hid (10 ^ (nd + δ - 1) ≤ N * m ∧ N * m < 10 ^ (nd + δ)) ∧ Hid (DecW W wc b C))
 case first =>
  have HLD := hid (left_digits HN.out hN1 hnd1 HT.out.dig.lt HT.out.lo HT.out.len.1 HT.out.len.2.2 HT.out.len.2.1);rw [← HK.out.m2] at HLD
  cases lt with
  | true =>
   have hld := hid (HLD.out.1 (of_decide_eq_true hlt));clear hlt HLD
   go_wp2_with fail
   go_meet;exact ⟨d - 1, by go_num, by omega, hld, hW1⟩
  | false =>
   have hld := hid (HLD.out.2 (of_decide_eq_false hlt));clear hlt HLD
   go_wp2_with fail
   go_meet;exact ⟨d, by go_num, by omega, hld, hW1⟩
 case rest =>
  obtain ⟨δ, rfl, hδ, HM, hW⟩ := hcut;clear c0 f0 ct cd cs HW hW1 hlt;have c0 : wc.cell? ⟨b, 800, none⟩ = some (.int .i64 nd) := (hW.out.cell 800).trans HR.out.cnd;have f0 := hW.out.free 800;obtain ⟨T, hTT⟩ : ∃ T, nd + δ = T := ⟨_, rfl⟩;rw [hTT] at HM;have HTT := hid hTT;obtain ⟨M, hMM⟩ : ∃ M, N * m = M := ⟨_, rfl⟩;rw [hMM] at HM;have HMM := hid hMM;clear hTT hMM
  go_upto_block 0 with fail
  go_cut [5, 6, 7, 8, 9] from 45 to 84 (fun _ v6 v7 _ _ wx => ∃ (C : Array Value), v6 = .int .i64 δ ∧ v7 = .int .u64 ((M / 10 ^ nd : Nat) : Int) ∧ M / 10 ^ nd < m ∧ Hid (DecW W wx b C) ∧ Hid (PutC C M T nd nd dp tr))
  case first =>
   go_wp2_with fail
   go_loopw [5, 6, 7] (fun v5 v6 v7 wx => ∃ (e l : Nat) (x y : Int) (C : Array Value), v5 = .int .i64 x ∧ v6 = .int .i64 y ∧ v7 = .int .u64 l ∧ e ≤ nd ∧ Hid (x = (nd : Int) - 1 - e) ∧ Hid (y = (nd : Int) + δ - e) ∧ Hid (lowN N m e = l) ∧ l < m ∧ Hid (DecW W wx b C) ∧ Hid (PutC C M T e nd dp tr) ∧ Hid (∀ i, i < nd - e → C[i]? = some (.int .u8 ((48 + N / 10 ^ (nd - 1 - i) % 10 : Nat) : Int)))) (fun v5 _ _ _ => (RowKit.intOf v5 + 1).toNat)
   case atStart =>
    have hm := HK.out.le;refine ⟨0, 0, (nd : Int) - 1, (nd : Int) + δ, C, rfl, rfl, rfl, Nat.zero_le _, hid (by omega), hid (by omega), hid ?_, by omega, hW, hid ⟨fun i h1 h2 _ => absurd h2 (by omega), ?_⟩, hid HD.out⟩
    ·unfold lowN;rw [Nat.pow_zero, Nat.mod_one, Nat.zero_mul, Nat.zero_div]
    ·rw [Nat.zero_min, Nat.pow_zero, Nat.mod_one, decide_eq_false (by simp), Bool.or_false];exact HR.out
   case round =>
    clear c0 f0;obtain ⟨e, l, x, y, C3, rfl, rfl, rfl, he, hx, hy, hl, hlm, hW3, hP3, hT3⟩ := hrel;have hm := HK.out.le;have hsz := hP3.out.raw.size;by_cases hen : e = nd
    ·have hge : decide (0 ≤ x) = false := decide_eq_false (by have := hx.out; omega)
     go_wp2_with fail
     go_meet;have hll := hl.out;rw [hen, low_all HN.out, HMM.out] at hll;have hyy := hy.out;refine ⟨C3, by rw [hyy, hen]; go_num, by rw [hll], by rw [hll]; exact hlm, hW3, hid (hen ▸ hP3.out)⟩
    ·have hge : decide (0 ≤ x) = true := decide_eq_true (by have := hx.out; omega);obtain ⟨j, rfl⟩ : ∃ j : Nat, x = j := ⟨x.toNat, by have := hx.out; omega⟩;have hj : j < nd - e := (by have := hx.out; omega);obtain ⟨g, hg⟩ : ∃ g, N / 10 ^ e % 10 = g := ⟨_, rfl⟩;have hg9 : g < 10 := (by omega)
     have cj : wr.cell? ⟨b, j, none⟩ = some (.int .u8 ((48 + g : Nat) : Int)) := by
      rw [hW3.out.cell, hT3.out j hj, ← hg, show nd - 1 - j = e by have := hx.out; omega]
     have fj := hW3.out.free j;have hj8 : j < 800 := (by omega);have HLS := hid (low_step (m := m) hg);clear hg;obtain ⟨p, rfl⟩ : ∃ p : Nat, y = p + 1 := ⟨(y - 1).toNat, by have := hy.out; omega⟩;have HPP := hid (show p = T - 1 - e by have := hy.out; have := HTT.out; omega);have hp1 : p < 1000 := (by have := HPP.out; have := HTT.out; omega);have heT : e < T := (by have := HTT.out; omega)
     go_upto_region 10 with fail
     rw [HK.out.shl hlm hg9];obtain ⟨n2, hn2⟩ : ∃ n2, l + g * m = n2 := ⟨_, rfl⟩;have hgm := Nat.mul_le_mul_right m (show g ≤ 9 by omega);have hn2m : n2 < 10 * m := (by omega);rw [hn2];rw [hl.out, hn2, HMM.out] at HLS;have HN2 := hid hn2;clear hn2 hgm
     go_upto_region 13 with fail
     rw [show (n2 : Int) - 10 * ((n2 : Int) / 10) = ((n2 % 10 : Nat) : Int) by omega, show (n2 : Int) / 10 = ((n2 / 10 : Nat) : Int) by omega];obtain ⟨q, hq⟩ : ∃ q, n2 / 10 = q := ⟨_, rfl⟩;obtain ⟨c, hc⟩ : ∃ c, n2 % 10 = c := ⟨_, rfl⟩;have hc9 : c < 10 := (by omega);have hqm : q < m := (by omega);rw [hq, hc];rw [hq, hc] at HLS;clear hq hc;have HD1 := HLS.out.1;by_cases hp8 : p < 800
     ·have hlt8 : decide (p < 800) = true := decide_eq_true hp8;obtain ⟨z, hz1, hz2⟩ := hP3.out.raw.any p hp8;have cp : wr.cell? ⟨b, p, none⟩ = some (.int .u8 z) := (hW3.out.cell p).trans hz1;have fp := hW3.out.free p;have hput := hid (HPP.out ▸ hP3.out.here heT (HPP.out ▸ hp8) HD1.symm);clear HD1
      go_wp2_with fail
      refine ⟨⟨e + 1, q, (j : Int) - 1, p, C3.setIfInBounds p (.int .u8 ((48 + c : Nat) : Int)), by go_num, by go_num, by go_num, by omega, hid (by have := hx.out; omega), hid (by have := hy.out; omega), hid HLS.out.2.symm, hqm, hid ?_, hput, hid fun i hi => ?_⟩, ?_⟩
      ·have h := hW3.out.set p (.int .u8 ((48 + c : Nat) : Int));rw [show ((48 + c : Nat) : Int) = (c : Int) + 48 by omega] at h ⊢;exact h
      ·rw [get_set (by omega), if_neg (by have := HPP.out; have := HTT.out; omega)];exact hT3.out i (by omega)
      ·simp only [RowKit.intOf];omega
     ·have hlt8 : decide (p < 800) = false := decide_eq_false hp8;have hput := hid (hP3.out.out heT (HPP.out ▸ hp8) HD1.symm);clear HD1;by_cases hc0 : c = 0
      ·subst hc0
       go_wp2_with fail
       refine ⟨⟨e + 1, q, (j : Int) - 1, p, C3, by go_num, by go_num, by go_num, by omega, hid (by have := hx.out; omega), hid (by have := hy.out; omega), hid HLS.out.2.symm, hqm, hW3, hid (hput.out.1 rfl), hid fun i hi => hT3.out i (by omega)⟩, ?_⟩;simp only [RowKit.intOf];omega
      ·have hcn : ((c : Int) != 0) = true := (by simp; omega);have c3 : wr.cell? ⟨b, 803, none⟩ = some (.bool _) := (hW3.out.cell 803).trans hP3.out.raw.ctr;have f3 := hW3.out.free 803
       go_wp2_with fail
       refine ⟨⟨e + 1, q, (j : Int) - 1, p, C3.setIfInBounds 803 (.bool true), by go_num, by go_num, by go_num, by omega, hid (by have := hx.out; omega), hid (by have := hy.out; omega), hid HLS.out.2.symm, hqm, hid (hW3.out.set _ _), hid (hput.out.2 hc0), hid fun i hi => ?_⟩, ?_⟩
       ·rw [get_set (by omega), if_neg (by omega)];exact hT3.out i (by omega)
       ·simp only [RowKit.intOf];omega
  case rest =>
   obtain ⟨C3, rfl, rfl, hmM, hW3, hP3⟩ := hcut;obtain ⟨wo, hwo⟩ : ∃ wo : World, wo = wc := ⟨_, rfl⟩;subst hwo
   go_upto_block 2 with fail
   go_cut [6, 7, 10, 11] from 85 to 110 (fun _ _ _ _ wx => ∃ (C : Array Value), Hid (DecW W wx b C) ∧ Hid (PutC C M T T nd dp tr))
   case first =>
    obtain ⟨l0, hl0⟩ : ∃ l0, M / 10 ^ nd = l0 := ⟨_, rfl⟩;rw [hl0] at hmM;rw [hl0];have HL0 := hid hl0;clear hl0
    go_wp2_with fail
    go_loopw [6, 7] (fun v6 v7 wx => ∃ (e l p : Nat) (C : Array Value), v6 = .int .i64 p ∧ v7 = .int .u64 l ∧ nd ≤ e ∧ Hid (p + e = T) ∧ p ≤ k ∧ Hid (M / 10 ^ e = l) ∧ l < m ∧ Hid (DecW W wx b C) ∧ Hid (PutC C M T e nd dp tr)) (fun v6 _ _ => (RowKit.intOf v6).toNat)
    case atStart => exact ⟨nd, l0, δ, C3, rfl, rfl, Nat.le_refl _, hid (by have := HTT.out; omega), hδ, HL0, hmM, hW3, hP3⟩
    case round =>
     clear hW3 hP3;obtain ⟨e, l, p, C3, rfl, rfl, he, hpe, hpk, hl, hlm, hW3, hP3⟩ := hrel;have hm := HK.out.le;have hsz := hP3.out.raw.size;by_cases hl0 : l = 0
     ·subst hl0
      go_wp2_with fail
      go_meet
      have heT : e = T := by
       have h1 := hpe.out;have h2 := hl.out;have h3 := HM.out.1;apply Nat.le_antisymm (by omega);apply Nat.le_of_not_lt;intro h;have h4 := Nat.le_trans (Nat.pow_le_pow_right (show 0 < 10 by decide) (show e ≤ T - 1 by omega)) h3;have h5 := Nat.div_pos h4 (Nat.pow_pos (by decide));omega
      exact ⟨C3, hW3, hid (heT ▸ hP3.out)⟩
     ·have hgt : decide (0 < l) = true := decide_eq_true (by omega)
      obtain ⟨p, rfl⟩ : ∃ p', p = p' + 1 := ⟨p - 1, by
       have h1 := hpe.out;have h2 := hl.out;have h3 := HM.out.2;apply (Nat.succ_pred_eq_of_pos (Nat.pos_of_ne_zero fun h => ?_)).symm;rw [h, Nat.zero_add] at h1;rw [h1, Nat.div_eq_of_lt h3] at h2
       omega⟩
      have heT : e < T := (by have := hpe.out; omega);have HPP := hid (show p = T - 1 - e by have := hpe.out; omega);have HD1 := HM;clear HD1
      go_upto_region 22 with fail
      rw [show (l : Int) - 10 * ((l : Int) / 10) = ((l % 10 : Nat) : Int) by omega, show (l : Int) / 10 = ((l / 10 : Nat) : Int) by omega];have HQ := hid (show M / 10 ^ (e + 1) = l / 10 by rw [← hl.out, Nat.div_div_eq_div_mul, ← Nat.pow_succ]);have hDD : M / 10 ^ e % 10 = l % 10 := (by rw [hl.out]);obtain ⟨q, hq⟩ : ∃ q, l / 10 = q := ⟨_, rfl⟩;obtain ⟨c, hc⟩ : ∃ c, l % 10 = c := ⟨_, rfl⟩;have hc9 : c < 10 := (by omega);have hqm : q < m := (by omega);rw [hc] at hDD;rw [hq] at HQ;rw [hq, hc];clear hq hc;by_cases hp8 : p < 800
      ·have hlt8 : decide (p < 800) = true := decide_eq_true hp8;obtain ⟨z, hz1, hz2⟩ := hP3.out.raw.any p hp8;have cp : wr.cell? ⟨b, p, none⟩ = some (.int .u8 z) := (hW3.out.cell p).trans hz1;have fp := hW3.out.free p;have hput := hid (HPP.out ▸ hP3.out.here heT (HPP.out ▸ hp8) hDD);clear hDD
       go_wp2_with fail
       refine ⟨⟨e + 1, q, p, C3.setIfInBounds p (.int .u8 ((48 + c : Nat) : Int)), by go_num, by go_num, by omega, hid (by have := hpe.out; omega), by omega, HQ, hqm, hid ?_, hput⟩, ?_⟩
       ·have h := hW3.out.set p (.int .u8 ((48 + c : Nat) : Int));rw [show ((48 + c : Nat) : Int) = (c : Int) + 48 by omega] at h ⊢;exact h
       ·simp only [RowKit.intOf];omega
      ·exact absurd (show p < 800 by omega) hp8
   case rest =>
    obtain ⟨C4, hW4, hP4⟩ := hcut;obtain ⟨hD4, hR4⟩ := hP4.out.all;have HD4 := hid hD4;have HR4 := hid hR4;have hsz := hR4.size;clear hD4 hR4 hW3 hP3;have c0 : wc.cell? ⟨b, 800, none⟩ = some (.int .i64 nd) := (hW4.out.cell 800).trans HR4.out.cnd;have f0 := hW4.out.free 800;have c1 : wc.cell? ⟨b, 801, none⟩ = some (.int .i64 dp) := (hW4.out.cell 801).trans HR4.out.cdp;have f1 := hW4.out.free 801;by_cases hT8 : 800 ≤ nd + δ
    ·have hge : decide (800 ≤ nd + δ) = true := decide_eq_true hT8
     go_wp2_with fail
     have hc : min T 800 = 800 := (by have := HTT.out; omega);have hw5 := ((hW4.out.set 800 (.int .i64 ((nd : Int) + δ))).set 800 (.int .i64 800)).set 801 (.int .i64 (dp + δ));have hr5 := (((HR4.out.setNd (nd + δ)).setNd 800).setDp (dp + δ));have hd5 := (((HD4.out.other (i := 800) (v := .int .i64 ((nd : Int) + δ)) (by omega) (by omega)).other (i := 800) (v := .int .i64 800) (by omega) (by simp; omega)).other (i := 801) (v := .int .i64 (dp + δ)) (by omega) (by simp; omega));rw [hc] at hd5;refine (trim_any W _ b (M / 10 ^ (T - 800)) 800 (dp + δ) (tr || decide (M % 10 ^ (T - 800) ≠ 0)) _ hw5 hr5 hd5 (Nat.le_refl _)).mono ?_;rintro e w' ⟨rfl, hpost⟩;have HPO := hid hpost;clear hpost hw5 hr5 hd5
     go_wp2_with fail
     go_end0
     have := HTT.out;refine ⟨T, by omega, by omega, HMM.out ▸ HM.out.1, HMM.out ▸ HM.out.2, rfl, ?_⟩;rw [HMM.out, hc, show dp + ((T : Int) - nd) = dp + δ by omega];exact HPO.out
    ·have hge : decide (800 ≤ nd + δ) = false := decide_eq_false hT8
     go_wp2_with fail
     have hc : min T 800 = nd + δ := (by have := HTT.out; omega);have hw5 := ((hW4.out.set 800 (.int .i64 ((nd : Int) + δ))).set 801 (.int .i64 (dp + δ)));have hr5 := ((HR4.out.setNd (nd + δ)).setDp (dp + δ));have hd5 := ((HD4.out.other (i := 800) (v := .int .i64 ((nd : Int) + δ)) (by omega) (by omega)).other (i := 801) (v := .int .i64 (dp + δ)) (by omega) (by simp; omega));rw [hc] at hd5;refine (trim_any W _ b (M / 10 ^ (T - 800)) (nd + δ) (dp + δ) (tr || decide (M % 10 ^ (T - 800) ≠ 0)) _ hw5 hr5 hd5 (by omega)).mono ?_;rintro e w' ⟨rfl, hpost⟩;have HPO := hid hpost;clear hpost hw5 hr5 hd5
     go_wp2_with fail
     go_end0
     have := HTT.out;refine ⟨T, by omega, by omega, HMM.out ▸ HM.out.1, HMM.out ▸ HM.out.2, rfl, ?_⟩;rw [HMM.out, hc, show dp + ((T : Int) - nd) = dp + δ by omega];exact HPO.out
end Go.Proofs.YtlblkajnmdhmdaaGreatDoor
