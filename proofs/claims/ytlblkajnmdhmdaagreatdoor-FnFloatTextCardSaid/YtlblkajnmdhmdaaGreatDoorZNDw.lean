/-
  Walks: the reference's draws: whatever is drawn, a number comes of it.
  Walks: the reference's draws of a word and of a number: some number comes of it.
-/
import Derived.Test.YtlblkajnmdhmdaaGreatDoorZNPn
import Derived.Test.YtlblkajnmdhmdaaGreatDoorZDNum
import Derived.Test.YtlblkajnmdhmdaaGreatDoorZNDp
namespace Go.Proofs.YtlblkajnmdhmdaaGreatDoor
set_option linter.unusedVariables false
open Go.RowKit Lib Go.Op
/-- A row of bytes that came in. -/
def CodeRow (w : World) (a : Option Addr) (len cap : Nat) (zs : List Int) : Prop :=
  (a = none ∧ len = 0 ∧ cap = 0 ∧ zs = []) ∨
  ∃ x, a = some x ∧ len ≤ cap ∧ cap ≤ maxLen ∧ zs.length = cap ∧ (∀ i, i < zs.length → w.cell? (x.add i) = some (.int .u8 (zs.getD i 0))) ∧ ∀ n ∈ zs, (Lit.int .u8 n).wf = true
/-- But for block g nothing has turned of what was there. -/
structure BelowG (W w : World) (g : Nat) : Prop where
  os : w.os = W.os
  tape : w.tape = W.tape
  output : w.output = W.output
  size : W.heap.size ≤ w.heap.size
  block : ∀ b, b ≠ g → b < W.heap.size → w.heap[b]? = W.heap[b]?
theorem BelowG.refl (W : World) (g : Nat) : BelowG W W g := ⟨rfl, rfl, rfl, Nat.le_refl _, fun _ _ _ => rfl⟩
theorem BelowG.below {W w w' : World} {g : Nat} (h : BelowG W w g) (hb : Below w.heap.size w w') : BelowG W w' g :=
  ⟨hb.os.trans h.os, hb.tape.trans h.tape, hb.output.trans h.output, Nat.le_trans h.size hb.size, fun b hb1 hb2 => (hb.block b (Nat.lt_of_lt_of_le hb2 h.size)).trans (h.block b hb1 hb2)⟩
theorem BelowG.set {W w : World} {g : Nat} (h : BelowG W w g) (i : Nat) (v : Value) : BelowG W (w.setCell ⟨g, i, none⟩ v) g :=
  ⟨h.os, h.tape, h.output, by simpa using h.size, fun b hb1 hb2 => (Below.heap_setCell w _ v b hb1).trans (h.block b hb1 hb2)⟩
theorem BelowG.drewN {W w : World} {g : Nat} (h : BelowG W w g) (n : Nat) : BelowG W (w.drewN n) g := ⟨h.os, h.tape, h.output, h.size, h.block⟩
/-- The source of draws at block g. -/
def SrcAt (w0 w : World) (g : Nat) (a : Option Addr) (len cap : Nat) : Prop :=
  BelowG w0 w g ∧ (0 < len → ∀ p, a = some p → p.block ≠ g) ∧ ∃ (i x : Int), 0 ≤ i ∧ 0 ≤ x ∧ x < 18446744073709551616 ∧ w.heap[g]? = some (.cells #[.slice a len cap, .int .i64 i, .int .u64 x] 65 (0, 0))
/-- Nothing but the source has turned of what was there. -/
def KeepG (w w' : World) (g : Nat) : Prop := w.heap.size ≤ w'.heap.size ∧ ∀ b, b ≠ g → b < w.heap.size → w'.heap[b]? = w.heap[b]?
theorem keepG1 (w : World) (g n i : Nat) (v : Value) : KeepG w ((w.drewN n).setCell ⟨g, i, none⟩ v) g :=
  ⟨by simp, fun b hb _ => Below.heap_setCell (w.drewN n) _ v b (fun h => hb h)⟩
theorem keepG2 (w : World) (g n i j : Nat) (u v : Value) : KeepG w (((w.drewN n).setCell ⟨g, i, none⟩ u).setCell ⟨g, j, none⟩ v) g :=
  ⟨by simp, fun b hb _ => (Below.heap_setCell _ _ v b (fun h => hb h)).trans (Below.heap_setCell (w.drewN n) _ u b (fun h => hb h))⟩
theorem src_cells {w : World} {g : Nat} {x y z : Value} {T : TypeId} (hh : w.heap[g]? = some (.cells #[x, y, z] T (0, 0))) :
    (w.cell? ⟨g, 0, none⟩ = some x ∧ w.cell? ⟨g, 1, none⟩ = some y ∧ w.cell? ⟨g, 2, none⟩ = some z) ∧ w.frozen? ⟨g, 0, none⟩ = false ∧ w.frozen? ⟨g, 1, none⟩ = false ∧ w.frozen? ⟨g, 2, none⟩ = false := num_cells hh
theorem u64_bounds (z : Int) : 0 ≤ IntKind.u64.wrap z ∧ IntKind.u64.wrap z < 18446744073709551616 := by rw [IntKind.wrap_u64]; omega
theorem draw_bounds {y k : Int} (hy : 0 ≤ y) (hk : 2 ≤ k ∧ k ≤ 4294967296) : 0 ≤ wrap64 ((y / 8589934592).tmod k) ∧ wrap64 ((y / 8589934592).tmod k) < k := by
  have h1 : 0 ≤ y / 8589934592 := Int.ediv_nonneg hy (by decide)
  rw [Int.tmod_eq_emod_of_nonneg h1]
  have h2 := Int.emod_nonneg (y / 8589934592) (show k ≠ 0 by omega)
  have h3 := Int.emod_lt_of_pos (y / 8589934592) (show 0 < k by omega)
  unfold wrap64
  omega
theorem src_step {w0 w : World} {g : Nat} {a : Option Addr} {len cap : Nat} {i x : Int} (hB : BelowG w0 w g) (hg : 0 < len → ∀ p, a = some p → p.block ≠ g) (hi : 0 ≤ i) (hh : w.heap[g]? = some (.cells #[.slice a len cap, .int .i64 i, .int .u64 x] 65 (0, 0))) (n : Nat) (z : Int) :
    SrcAt w0 ((w.drewN n).setCell ⟨g, 2, none⟩ (.int .u64 (IntKind.u64.wrap z))) g a len cap := by
  have hb := u64_bounds z
  have hh' : (w.drewN n).heap[g]? = some (.cells #[.slice a len cap, .int .i64 i, .int .u64 x] 65 (0, 0)) := hh
  exact ⟨(hB.drewN n).set 2 _, hg, i, IntKind.u64.wrap z, hi, hb.1, hb.2, nblk_set hh' 2 _⟩
theorem src_step2 {w0 w : World} {g : Nat} {a : Option Addr} {len cap : Nat} {i i' x : Int} (n : Nat) (hB : BelowG w0 w g) (hg : 0 < len → ∀ p, a = some p → p.block ≠ g) (hi : 0 ≤ i') (hh : w.heap[g]? = some (.cells #[.slice a len cap, .int .i64 i, .int .u64 x] 65 (0, 0))) (z : Int) :
    SrcAt w0 (((w.drewN n).setCell ⟨g, 1, none⟩ (.int .i64 i')).setCell ⟨g, 2, none⟩ (.int .u64 (IntKind.u64.wrap z))) g a len cap := by
  have hb := u64_bounds z
  have hh' : (w.drewN n).heap[g]? = some (.cells #[.slice a len cap, .int .i64 i, .int .u64 x] 65 (0, 0)) := hh
  exact ⟨((hB.drewN n).set 1 _).set 2 _, hg, i', IntKind.u64.wrap z, hi, hb.1, hb.2, nblk_set (nblk_set hh' 1 _) 2 _⟩
set_option maxRecDepth 100000 in
set_option maxHeartbeats 1000000 in
theorem N_any (k : Int) (w0 w : World) (g : Nat) (a : Option Addr) (len cap : Nat) (zs : List Int) (hk : 2 ≤ k ∧ k ≤ 4294967296) (hC : CodeRow w0 a len cap zs) (hl : len ≤ 1048576) (h : SrcAt w0 w g a len cap) :
    Calls Tryz.prog 39 #[.pointer (some ⟨g, 0, none⟩), .int .i64 k] w fun e w' => (∃ r : Int, e = .returned (.int .i64 r) ∧ 0 ≤ r ∧ r < k) ∧ SrcAt w0 w' g a len cap ∧ KeepG w w' g := by
  obtain ⟨hB, hg, i, x, hi, hx0, hx1, hh⟩ := h
  have HB := hid hB
  have HH := hid hh
  obtain ⟨⟨c0, c1, c2⟩, f0, f1, f2⟩ := src_cells hh
  have HK := hid hk
  have hk1 : decide (k ≤ 1) = false := decide_eq_false (by omega)
  have hku : IntKind.u64.wrap k = k := by rw [IntKind.wrap_u64]; omega
  have hk0 : (k = 0) = False := eq_false (by omega)
  clear hB hh hk
  by_cases hil : i < (len : Int)
  · have hd : decide (i < (len : Int)) = true := decide_eq_true hil
    rcases hC with ⟨_, h0, _⟩ | ⟨p, rfl, h1, h2, h3, h4, h5⟩
    · omega
    · obtain ⟨j, rfl⟩ : ∃ j : Nat, i = j := ⟨i.toNat, by omega⟩
      have hj : j < zs.length := by omega
      have hcell := h4 j hj
      have hlt : (p.add j).block < w0.heap.size := by
        apply Nat.lt_of_not_le
        intro hle
        unfold World.cell? at hcell
        rw [Array.getElem?_eq_none hle] at hcell
        cases hcell
      have hbl : (p.add j).block = p.block := by unfold Addr.add; split <;> rfl
      have hheap := HB.out.block (p.add j).block (by rw [hbl]; exact hg (by omega) p rfl) hlt
      have hc : w.cell? (p.add j) = some (.int .u8 (zs.getD j 0)) := by rw [← hcell]; unfold World.cell?; rw [hheap]
      clear hheap hbl
      obtain ⟨z, hz⟩ : ∃ z, zs.getD j 0 = z := ⟨_, rfl⟩
      rw [hz] at hc
      have hlt2 : (j : Int) < len := hil
      clear h4 h5 hcell hlt hz
      go_enter Tryz.func39, Tryz.ntmps39
      go_wp2_with fail
      go_quiet (fail)
      go_wp2_with fail
      go_quiet (fail)
      go_wp2_with fail
      go_ret
      exact ⟨⟨_, rfl, draw_bounds (u64_bounds _).1 HK.out⟩, src_step2 _ HB.out hg (by omega) HH.out _, keepG2 _ _ _ _ _ _ _⟩
  · have hd : decide (i < (len : Int)) = false := decide_eq_false hil
    go_enter Tryz.func39, Tryz.ntmps39
    go_wp2_with fail
    go_quiet (fail)
    go_wp2_with fail
    go_ret
    exact ⟨⟨_, rfl, draw_bounds (u64_bounds _).1 HK.out⟩, src_step HB.out hg hi HH.out _ _, keepG1 _ _ _ _ _⟩
/-- All that a draw needs. -/
structure DrawSet (w0 : World) (g : Nat) (a : Option Addr) (len cap : Nat) (zs : List Int) : Prop where
  row : CodeRow w0 a len cap zs
  len : len ≤ 1048576
theorem One_any (k : Int) (w0 w : World) (g : Nat) (a : Option Addr) (len cap : Nat) (zs : List Int) (hk : 2 ≤ k ∧ k ≤ 4294967296) (hS : DrawSet w0 g a len cap zs) (h : SrcAt w0 w g a len cap) :
    Calls Tryz.prog 36 #[.pointer (some ⟨g, 0, none⟩), .int .i64 k] w fun e w' => (∃ b : Bool, e = .returned (.bool b)) ∧ SrcAt w0 w' g a len cap := by
  have HN := hid (N_any k w0 w g a len cap zs hk hS.row hS.len h)
  clear h hk hS
  go_enter Tryz.func36, Tryz.ntmps36
  go_wp2_with fail
  refine HN.out.mono ?_
  rintro e w1 ⟨⟨r, rfl, _, _⟩, hs, _⟩
  have HS := hid hs
  clear hs
  go_wp2_with fail
  go_ret
  exact ⟨⟨_, rfl⟩, HS.out⟩
/-- The walk's call of N. -/
def NGoes (w0 : World) (g : Nat) (a : Option Addr) (len cap : Nat) : Prop := ∀ (k : Int) (w : World), 2 ≤ k ∧ k ≤ 4294967296 → SrcAt w0 w g a len cap → Calls Tryz.prog 39 #[.pointer (some ⟨g, 0, none⟩), .int .i64 k] w fun e w' => (∃ r : Int, e = .returned (.int .i64 r) ∧ 0 ≤ r ∧ r < k) ∧ SrcAt w0 w' g a len cap ∧ KeepG w w' g
theorem w64 (z : Int) : -9223372036854775808 ≤ wrap64 z ∧ wrap64 z ≤ 9223372036854775807 := by unfold wrap64; omega
set_option maxRecDepth 100000 in
set_option maxHeartbeats 1000000 in
theorem Wild_any (w0 w : World) (g : Nat) (a : Option Addr) (len cap : Nat) (hN : NGoes w0 g a len cap) (h : SrcAt w0 w g a len cap) :
    Calls Tryz.prog 38 #[.pointer (some ⟨g, 0, none⟩)] w fun e w' => (∃ r : Int, e = .returned (.int .i64 r) ∧ -9223372036854775808 ≤ r ∧ r ≤ 9223372036854775807) ∧ SrcAt w0 w' g a len cap := by
  have HN := hid hN
  have HS := hid h
  clear hN h
  go_enter Tryz.func38, Tryz.ntmps38
  go_wp2_with fail
  refine (HN.out 7 w (by decide) HS.out).mono ?_
  rintro e w1 ⟨⟨r, rfl, hr0, hr7⟩, hs1, _⟩
  have HS1 := hid hs1
  clear hs1
  have hc : r = 0 ∨ r = 1 ∨ r = 2 ∨ r = 3 ∨ r = 4 ∨ r = 5 ∨ r = 6 := by omega
  rcases hc with rfl | rfl | rfl | rfl | rfl | rfl | rfl
  · go_wp2_with fail
    go_ret
    exact ⟨⟨_, rfl, by decide, by decide⟩, HS1.out⟩
  · go_wp2_with fail
    go_ret
    exact ⟨⟨_, rfl, by decide, by decide⟩, HS1.out⟩
  · go_wp2_with fail
    go_ret
    exact ⟨⟨_, rfl, by decide, by decide⟩, HS1.out⟩
  · go_wp2_with fail
    refine (HN.out 100000 w1 (by decide) HS1.out).mono ?_
    rintro e w2 ⟨⟨r, rfl, h1, h2⟩, hs2, _⟩
    have HS2 := hid hs2
    clear hs2
    go_wp2_with fail
    go_ret
    exact ⟨⟨_, rfl, by omega, by omega⟩, HS2.out⟩
  · go_wp2_with fail
    refine (HN.out 1000 w1 (by decide) HS1.out).mono ?_
    rintro e w2 ⟨⟨r, rfl, h1, h2⟩, hs2, _⟩
    have HS2 := hid hs2
    clear hs2
    go_wp2_with fail
    go_ret
    exact ⟨⟨_, rfl, by omega, by omega⟩, HS2.out⟩
  · go_wp2_with fail
    refine (HN.out 2000000000 w1 (by decide) HS1.out).mono ?_
    rintro e w2 ⟨⟨r, rfl, h1, h2⟩, hs2, _⟩
    have HS2 := hid hs2
    clear hs2
    go_wp2_with fail
    refine (HN.out 2000000000 w2 (by decide) HS2.out).mono ?_
    rintro e w3 ⟨⟨r', rfl, h3, h4⟩, hs3, _⟩
    have HS3 := hid hs3
    clear hs3
    go_wp2_with fail
    go_ret
    exact ⟨⟨_, rfl, (w64 _).1, (w64 _).2⟩, HS3.out⟩
  · go_wp2_with fail
    refine (HN.out 20 w1 (by decide) HS1.out).mono ?_
    rintro e w2 ⟨⟨r, rfl, h1, h2⟩, hs2, _⟩
    have HS2 := hid hs2
    clear hs2
    go_wp2_with fail
    go_ret
    exact ⟨⟨_, rfl, by omega, by omega⟩, HS2.out⟩
end Go.Proofs.YtlblkajnmdhmdaaGreatDoor

namespace Go.Proofs.YtlblkajnmdhmdaaGreatDoor
set_option linter.unusedVariables false
open Go.RowKit Lib Go.Op NU NB Go.Proofs.YtlblkajnmdhmdaaGreatDoor.PFormatNumber
theorem SrcAt.below {w0 w w' : World} {g : Nat} {a : Option Addr} {len cap : Nat} (h : SrcAt w0 w g a len cap) (hb : Below w.heap.size w w') : SrcAt w0 w' g a len cap := by
  obtain ⟨h1, h2, i, x, h3, h4, h5, h6⟩ := h
  exact ⟨h1.below hb, h2, i, x, h3, h4, h5, (hb.block _ (Array.getElem?_eq_some_iff.1 h6).1).trans h6⟩
theorem fromInt_any {v : Int} (h1 : -9223372036854775808 ≤ v) (h2 : v ≤ 9223372036854775807) (w : World) :
    Calls Tryz.prog 68 #[.int .i64 v] w fun e w' => (∃ r : Nat, e = .returned (.int .u64 r) ∧ r < 2 ^ 64 ∧ (v ≠ -9223372036854775808 → r % 2 ^ 63 = word v.natAbs 1 ∧ r % 2 ^ 63 < 2047 * 2 ^ 52)) ∧ Below w.heap.size w w' := by
  obtain ⟨r, hr, hev, hf⟩ := fromInt_ev h1 h2
  obtain ⟨k, hk⟩ := hev.rounds
  refine (spec_l01FromInt.calls k v r w hk).mono ?_
  rintro e w' ⟨rfl, hb⟩
  exact ⟨⟨r, rfl, hr, hf⟩, hb⟩
theorem divWords_any {a b : Nat} (ha : a < 2 ^ 64) (hb : b < 2 ^ 64) (hfa : a % 2 ^ 63 < 2047 * 2 ^ 52) (hfb : b % 2 ^ 63 < 2047 * 2 ^ 52) (hb0 : b % 2 ^ 63 ≠ 0) (w : World) :
    Calls Tryz.prog 69 #[.int .u64 a, .int .u64 b] w fun e w' => (∃ r : Nat, e = .returned (.int .u64 r) ∧ r < 2 ^ 64) ∧ Below w.heap.size w w' := by
  obtain ⟨r, hr, hev⟩ := divWords_ev ha hb hfa hfb hb0
  obtain ⟨k, hk⟩ := hev.rounds
  refine (spec_l01DivWords.calls k a b r w hk).mono ?_
  rintro e w' ⟨rfl, hbl⟩
  exact ⟨⟨r, rfl, hr⟩, hbl⟩
theorem word_ne_zero {N : Nat} (h0 : 0 < N) (h : N < 2 ^ 53) : word N 1 ≠ 0 := fun e => by
  have h1 := (int_exact h).2.2
  rw [e] at h1
  have h2 : wU 0 = 0 := by decide
  rw [h2] at h1
  have := Nat.mul_pos h0 one74_pos
  omega
theorem ret_nat {z : Int} (h0 : 0 ≤ z) (h1 : z < 18446744073709551616) : ∃ r : Nat, Ending.returned (.int .u64 z) = .returned (.int .u64 r) ∧ r < 2 ^ 64 := ⟨z.toNat, congrArg (fun y => Ending.returned (.int .u64 y)) (Int.toNat_of_nonneg h0).symm, by omega⟩
def wTab : List Nat := [0, 9223372036854775808, 9218868437227405312, 18442240474082181120, 9221120237041090560, 1, 4503599627370495, 4503599627370496, 9218868437227405311, 14114281232179134464, 4890909195324358656, 4845873199050653696]
def wArr : Array Value := #[.int .u64 0, .int .u64 9223372036854775808, .int .u64 9218868437227405312, .int .u64 18442240474082181120, .int .u64 9221120237041090560, .int .u64 1, .int .u64 4503599627370495, .int .u64 4503599627370496, .int .u64 9218868437227405311, .int .u64 14114281232179134464, .int .u64 4890909195324358656, .int .u64 4845873199050653696]
theorem wArr_at : ∀ j, j < 12 → wArr[j]? = some (.int .u64 ((wTab.getD j 0 : Nat) : Int)) ∧ wTab.getD j 0 < 2 ^ 64
  | 0, _ | 1, _ | 2, _ | 3, _ | 4, _ | 5, _ | 6, _ | 7, _ | 8, _ | 9, _ | 10, _ | 11, _ => ⟨rfl, by decide⟩
  | n + 12, h => by omega
set_option maxRecDepth 100000 in
set_option maxHeartbeats 2000000 in
theorem DrawWord_any (w0 w : World) (g : Nat) (a : Option Addr) (len cap : Nat) (hN : NGoes w0 g a len cap)
    (hO : ∀ w', SrcAt w0 w' g a len cap → Calls Tryz.prog 36 #[.pointer (some ⟨g, 0, none⟩), .int .i64 2] w' fun e w2 => (∃ b : Bool, e = .returned (.bool b)) ∧ SrcAt w0 w2 g a len cap)
    (h : SrcAt w0 w g a len cap) :
    Calls Tryz.prog 37 #[.pointer (some ⟨g, 0, none⟩)] w fun e w' => (∃ r : Nat, e = .returned (.int .u64 r) ∧ r < 2 ^ 64) ∧ SrcAt w0 w' g a len cap := by
  have HN := hid hN
  have HO := hid hO
  have HW := hid (fun w' hs => Wild_any w0 w' g a len cap hN hs)
  have HS := hid h
  clear hN hO h
  go_enter Tryz.func37, Tryz.ntmps37
  go_wp2_with fail
  refine (HN.out 10 w (by decide) HS.out).mono ?_
  rintro e w1 ⟨⟨r, rfl, hr0, hr10⟩, hs1, _⟩
  have HS1 := hid hs1
  clear hs1
  have hc : r = 0 ∨ r = 1 ∨ r = 2 ∨ r = 3 ∨ r = 4 ∨ r = 5 ∨ (6 ≤ r ∧ r ≤ 9) := by omega
  rcases hc with rfl | rfl | rfl | rfl | rfl | rfl | hr6
  · go_wp2_with fail
    obtain ⟨w2, hw2⟩ : ∃ w2, w2 = w1.alloc (.cells wArr 22) := ⟨_, rfl⟩
    have hb2 : Below w1.heap.size w1 w2 := by rw [hw2]; exact (Below.refl _ _).alloc (Nat.le_refl _) _
    have HS2 := hid (HS1.out.below hb2)
    have hh2 : w2.heap[w1.heap.size]? = some (.cells wArr 22 (0, 0)) := by rw [hw2]; exact Array.getElem?_push_size
    have hgl : w1.heap.size ≠ g := by
      obtain ⟨_, _, i, x, _, _, _, h6⟩ := HS1.out
      have := (Array.getElem?_eq_some_iff.1 h6).1
      omega
    have HH2 := hid hh2
    have HGL := hid hgl
    show Calls _ _ _ (w1.alloc (.cells wArr 22)) _
    rw [← hw2]
    clear hw2 hb2 hh2 hgl
    refine (HN.out 12 w2 (by decide) HS2.out).mono ?_
    rintro e w3 ⟨⟨r, rfl, h1, h2⟩, hs3, hk3⟩
    have HS3 := hid hs3
    have hh3 := (hk3.2 _ HGL.out (Array.getElem?_eq_some_iff.1 HH2.out).1).trans HH2.out
    obtain ⟨j, rfl⟩ : ∃ j : Nat, r = j := ⟨r.toNat, by omega⟩
    obtain ⟨h3, h4⟩ := wArr_at j (by omega)
    have hc := (nblk_cell hh3 j).trans h3
    have H4 := hid h4
    obtain ⟨v, hv⟩ : ∃ v, wTab.getD j 0 = v := ⟨_, rfl⟩
    rw [hv] at hc H4
    clear hs3 hk3 hh3 h3 h4 hv
    go_wp2_with fail
    go_ret
    exact ⟨⟨v, rfl, H4.out⟩, HS3.out⟩
  iterate 3
    · go_wp2_with fail
      refine (HN.out 2000 w1 (by decide) HS1.out).mono ?_
      rintro e w2 ⟨⟨r, rfl, h1, h2⟩, hs2, _⟩
      have HS2 := hid hs2
      clear hs2
      go_wp2_with fail
      refine (fromInt_any (by omega) (by omega) w2).mono ?_
      rintro e w3 ⟨⟨x, rfl, hx, _⟩, hb3⟩
      have HS3 := hid (HS2.out.below hb3)
      have HX := hid hx
      clear hb3 hx
      go_wp2_with fail
      go_ret
      exact ⟨⟨x, rfl, HX.out⟩, HS3.out⟩
  · go_wp2_with fail
    refine (HN.out 2000 w1 (by decide) HS1.out).mono ?_
    rintro e w2 ⟨⟨r, rfl, h1, h2⟩, hs2, _⟩
    have HS2 := hid hs2
    clear hs2
    go_wp2_with fail
    refine (fromInt_any (by omega) (by omega) w2).mono ?_
    rintro e w3 ⟨⟨x, rfl, hx, hxf⟩, hb3⟩
    have HS3 := hid (HS2.out.below hb3)
    have HX := hid hx
    have HXF := hid (hxf (by omega)).2
    clear hb3 hx hxf
    go_wp2_with fail
    refine (HN.out 100 w3 (by decide) HS3.out).mono ?_
    rintro e w4 ⟨⟨r2, rfl, h3, h4⟩, hs4, _⟩
    have HS4 := hid hs4
    clear hs4
    go_wp2_with fail
    refine (fromInt_any (by omega) (by omega) w4).mono ?_
    rintro e w5 ⟨⟨y, rfl, hy, hyf⟩, hb5⟩
    have HS5 := hid (HS4.out.below hb5)
    have HY := hid hy
    obtain ⟨y1, y2⟩ := hyf (by omega)
    have HYF := hid y2
    have HY0 : Hid (y % 2 ^ 63 ≠ 0) := hid (by rw [y1]; exact word_ne_zero (by omega) (by omega))
    clear hb5 hy hyf y1 y2
    go_wp2_with fail
    refine (divWords_any HX.out HY.out HXF.out HYF.out HY0.out w5).mono ?_
    rintro e w6 ⟨⟨z, rfl, hz⟩, hb6⟩
    have HS6 := hid (HS5.out.below hb6)
    have HZ := hid hz
    clear hb6 hz
    go_wp2_with fail
    go_ret
    exact ⟨⟨z, rfl, HZ.out⟩, HS6.out⟩
  · go_wp2_with fail
    refine (HW.out w1 HS1.out).mono ?_
    rintro e w2 ⟨⟨r, rfl, h1, h2⟩, hs2⟩
    have HS2 := hid hs2
    clear hs2
    have HF := hid (fromInt_any h1 h2 w2)
    go_wp2_with fail
    refine HF.out.mono ?_
    rintro e w3 ⟨⟨x, rfl, hx, _⟩, hb3⟩
    have HS3 := hid (HS2.out.below hb3)
    have HX := hid hx
    clear hb3 hx
    go_wp2_with fail
    go_ret
    exact ⟨⟨x, rfl, HX.out⟩, HS3.out⟩
  · have e0 : (r == 0) = false := by simp; omega
    have e1 : (r == 1) = false := by simp; omega
    have e2 : (r == 2) = false := by simp; omega
    have e3 : (r == 3) = false := by simp; omega
    have e4 : (r == 4) = false := by simp; omega
    have e5 : (r == 5) = false := by simp; omega
    clear hr6 hr0 hr10
    go_wp2_with fail
    go_loopw [3, 4] (fun v3 v4 wx => ∃ (k : Nat) (x : Int), v4 = .int .i64 k ∧ k ≤ 8 ∧ v3 = .int .u64 x ∧ 0 ≤ x ∧ x < 18446744073709551616 ∧ SrcAt w0 wx g a len cap) (fun _ v4 _ => 8 - (RowKit.intOf v4).toNat)
    case atStart => exact ⟨0, 0, rfl, by omega, rfl, by omega, by omega, HS1.out⟩
    case round =>
      obtain ⟨k, x, rfl, hk, rfl, hx0, hx1, hsr⟩ := hrel
      have HSR := hid hsr
      have HX := hid hx1
      clear hsr hx1
      by_cases hk8 : k < 8
      · go_wp2_with fail
        refine (HN.out 256 _ (by decide) HSR.out).mono ?_
        rintro e w3 ⟨⟨r2, rfl, h3, h4⟩, hs3, _⟩
        have HS3 := hid hs3
        clear hs3
        go_wp2_with fail
        go_roundw
        case rel => exact ⟨k + 1, _, by go_num, by omega, rfl, (u64_bounds _).1, (u64_bounds _).2, HS3.out⟩
        case measure => simp [RowKit.intOf]; omega
      · go_wp2_with fail
        refine (HO.out _ HSR.out).mono ?_
        rintro e w3 ⟨⟨b, rfl⟩, hs3⟩
        have HS3 := hid hs3
        clear hs3
        cases b
        · go_wp2_with fail
          go_ret
          exact ⟨ret_nat hx0 HX.out, HS3.out⟩
        · go_wp2_with fail
          refine (HN.out 120 w3 (by decide) HS3.out).mono ?_
          rintro e w4 ⟨⟨r2, rfl, h1, h2⟩, hs4, _⟩
          have HS4 := hid hs4
          clear hs4
          go_wp2_with fail
          refine (HN.out 2 w4 (by decide) HS4.out).mono ?_
          rintro e w5 ⟨⟨r3, rfl, h3, h4⟩, hs5, _⟩
          have HS5 := hid hs5
          clear hs5
          go_wp2_with fail
          go_ret
          exact ⟨ret_nat (by omega) (by omega), HS5.out⟩
/-- A drawn number. -/
def DrawN (r : Ending) : Prop := ∃ (f : Bool) (i : Int) (b : Nat), r = .returned (.agg #[.bool f, .int .i64 i, .int .u64 b]) ∧ (f = true → i = 0) ∧ (f = false → b = 0) ∧ (-9223372036854775808 ≤ i ∧ i ≤ 9223372036854775807) ∧ b < 2 ^ 64
theorem l01Float_any (b : Nat) (hb : b < 2 ^ 64) (w : World) : Calls Tryz.prog 23 #[.int .u64 b] w fun e w' => (∃ c : Nat, e = .returned (.agg #[.bool true, .int .i64 0, .int .u64 c]) ∧ c < 2 ^ 64) ∧ Below w.heap.size w w' := by
  obtain ⟨t, ht⟩ : ∃ t, spec_l01IsNan.f (b : Int) = some t := ⟨_, rfl⟩
  cases t with
  | true =>
    refine (spec_l01Float.calls (b : Int) true 0 9221120237041090560 w (by unfold spec_l01Float.f; rw [ht]; rfl)).mono ?_
    rintro e w' ⟨rfl, hbl⟩
    exact ⟨⟨9221120237041090560, rfl, by decide⟩, hbl⟩
  | false =>
    refine (spec_l01Float.calls (b : Int) true 0 b w (by unfold spec_l01Float.f; rw [ht]; rfl)).mono ?_
    rintro e w' ⟨rfl, hbl⟩
    exact ⟨⟨b, rfl, hb⟩, hbl⟩
theorem l01Int_any (i : Int) (w : World) : Calls Tryz.prog 20 #[.int .i64 i] w fun e w' => e = .returned (.agg #[.bool false, .int .i64 i, .int .u64 0]) ∧ Below w.heap.size w w' :=
  spec_l01Int.calls i false i 0 w rfl
theorem code_lt {w : World} {a : Option Addr} {len cap : Nat} {zs : List Int} (h : CodeRow w a len cap zs) (hl : 0 < len) : ∀ p, a = some p → p.block < w.heap.size := by
  rcases h with ⟨_, h0, _⟩ | ⟨x, rfl, h1, h2, h3, h4, h5⟩
  · omega
  · intro p hp
    obtain rfl : x = p := Option.some.inj hp
    have hcell := h4 0 (by omega)
    have hbl : (x.add 0).block = x.block := by unfold Addr.add; split <;> rfl
    rw [← hbl]
    apply Nat.lt_of_not_le
    intro hle
    unfold World.cell? at hcell
    rw [Array.getElem?_eq_none hle] at hcell
    cases hcell
theorem CodeRow.below {w w' : World} {a : Option Addr} {len cap : Nat} {zs : List Int} (h : CodeRow w a len cap zs) (hb : Below w.heap.size w w') : CodeRow w' a len cap zs := by
  rcases h with h | ⟨x, rfl, h1, h2, h3, h4, h5⟩
  · exact Or.inl h
  · refine Or.inr ⟨x, rfl, h1, h2, h3, fun i hi => ?_, h5⟩
    have hcell := h4 i hi
    have hlt : (x.add i).block < w.heap.size := by
      apply Nat.lt_of_not_le
      intro hle
      unfold World.cell? at hcell
      rw [Array.getElem?_eq_none hle] at hcell
      cases hcell
    exact (hb.cell (p := x.add i) hlt).trans hcell
set_option maxRecDepth 100000 in
theorem L01Draw_any (w0 : World) (a : Option Addr) (len cap : Nat) (zs : List Int) (hl : len ≤ 1048576) (hC : CodeRow w0 a len cap zs) :
    Calls Tryz.prog 16 #[.slice a len cap] w0 fun e w' => e = .returned (.pointer (some ⟨w0.heap.size, 0, none⟩)) ∧ Below w0.heap.size w0 w' ∧ w0.heap.size < w'.heap.size ∧ SrcAt w' w' w0.heap.size a len cap := by
  have HC := hid hC
  clear hC
  go_enter Tryz.func16, Tryz.ntmps16
  go_wp2_with fail
  go_ret
  refine ⟨rfl, (Below.refl _ _).alloc (Nat.le_refl _) _, by simp, BelowG.refl _ _, fun h p hp => ?_, 0, _, Int.le_refl _, ?_, ?_, Array.getElem?_push_size⟩
  · have := code_lt HC.out h p hp
    omega
  · omega
  · omega
theorem set3s {W w : World} {g r : Nat} {x y z x0 y0 z0 : Value} (hh : w.heap[r]? = some (.cells #[x0, y0, z0] 24 (0, 0))) :
    (((w.setCell ⟨r, 0, none⟩ x).setCell ⟨r, 1, none⟩ y).setCell ⟨r, 2, none⟩ z).heap[r]? = some (.cells #[x, y, z] 24 (0, 0)) := nblk_set (nblk_set (nblk_set hh 0 x) 1 y) 2 z
theorem SrcAt.set3 {W w : World} {g r : Nat} {a : Option Addr} {len cap : Nat} {x y z : Value} (h : SrcAt W w g a len cap) (hr : W.heap.size ≤ r) (hrg : r ≠ g) :
    SrcAt W (((w.setCell ⟨r, 0, none⟩ x).setCell ⟨r, 1, none⟩ y).setCell ⟨r, 2, none⟩ z) g a len cap := by
  obtain ⟨h1, h2, i, x', h3, h4, h5, h6⟩ := h
  have st : ∀ (w : World) (j : Nat) (v : Value), BelowG W w g → BelowG W (w.setCell ⟨r, j, none⟩ v) g := fun w j v hb =>
    ⟨hb.os, hb.tape, hb.output, by simpa using hb.size, fun b hb1 hb2 => (Below.heap_setCell w _ v b (fun h => by have : b = r := h; omega)).trans (hb.block b hb1 hb2)⟩
  have hs : ∀ (w : World) (j : Nat) (v : Value), (w.setCell ⟨r, j, none⟩ v).heap[g]? = w.heap[g]? := fun w j v => Below.heap_setCell w _ v g (fun h => hrg h.symm)
  exact ⟨st _ _ _ (st _ _ _ (st _ _ _ h1)), h2, i, x', h3, h4, h5, by rw [hs, hs, hs]; exact h6⟩
theorem res_l01n {W : World} {b : Nat} {c : Array Value} {x y z : Value} {tmps : Array Value} (h : W.heap[b]? = some (.cells c 24 (0, 0))) (hc : c = #[x, y, z]) (h2 : tmps[2]? = some (.pointer (some ⟨b, 0, none⟩))) :
    (results Tryz.f15 tmps).run Tryz.prog W = .ok (.agg #[x, y, z]) W := by
  subst hc
  have q0 := nblk_cell h 0
  have q1 := nblk_cell h 1
  have q2 := nblk_cell h 2
  simp at q0 q1 q2
  simp [results, Tryz.results15, go_sem, h2, q0, q1, q2]
/-- The base put back by the block that was made. -/
theorem SrcAt.rebase {W W1 w : World} {g : Nat} {a : Option Addr} {len cap : Nat} (h : SrcAt W1 w g a len cap) (hb : Below W.heap.size W W1) : SrcAt W w g a len cap := by
  obtain ⟨h1, h2, h3⟩ := h
  exact ⟨⟨h1.os.trans hb.os, h1.tape.trans hb.tape, h1.output.trans hb.output, Nat.le_trans hb.size h1.size, fun b hb1 hb2 => (h1.block b hb1 (Nat.lt_of_lt_of_le hb2 hb.size)).trans (hb.block b hb2)⟩, h2, h3⟩
set_option maxRecDepth 100000 in
set_option maxHeartbeats 2000000 in
theorem L01Number_any (w0 w : World) (a : Option Addr) (len cap g : Nat) (zs : List Int) (hw : w0 = w) (hC : CodeRow w0 a len cap zs) (hl : len ≤ 1048576) (h : SrcAt w0 w g a len cap) :
    Calls Tryz.prog 15 #[.pointer (some ⟨g, 0, none⟩)] w fun e w' => DrawN e ∧ BelowG w w' g := by
  subst hw
  obtain ⟨w1, hw1⟩ : ∃ w1, w1 = w0.alloc (.cells #[.bool false, .int .i64 0, .int .u64 0] 24) := ⟨_, rfl⟩
  have hb1 : Below w0.heap.size w0 w1 := by rw [hw1]; exact (Below.refl _ _).alloc (Nat.le_refl _) _
  have hh1 : w1.heap[w0.heap.size]? = some (.cells #[.bool false, .int .i64 0, .int .u64 0] 24 (0, 0)) := by rw [hw1]; exact Array.getElem?_push_size
  have hC1 := hC.below hb1
  have hgl : w0.heap.size ≠ g := by
    obtain ⟨_, _, i, x, _, _, _, h6⟩ := h
    have := (Array.getElem?_eq_some_iff.1 h6).1
    omega
  have hs1 : SrcAt w1 w1 g a len cap := by
    obtain ⟨h1, h2, i, x, h3, h4, h5, h6⟩ := h.below hb1
    exact ⟨BelowG.refl _ _, h2, i, x, h3, h4, h5, h6⟩
  have hN : NGoes w1 g a len cap := fun k w' hk hs => N_any k w1 w' g a len cap zs hk hC1 hl hs
  have hO : ∀ (k : Int) w', 2 ≤ k ∧ k ≤ 4294967296 → SrcAt w1 w' g a len cap → Calls Tryz.prog 36 #[.pointer (some ⟨g, 0, none⟩), .int .i64 k] w' fun e w2 => (∃ b : Bool, e = .returned (.bool b)) ∧ SrcAt w1 w2 g a len cap := fun k w' hk hs => One_any k w1 w' g a len cap zs hk ⟨hC1, hl⟩ hs
  have hcell : ∀ w', SrcAt w1 w' g a len cap → w'.heap[w0.heap.size]? = some (.cells #[.bool false, .int .i64 0, .int .u64 0] 24 (0, 0)) := fun w' hs => (hs.1.block _ hgl (Array.getElem?_eq_some_iff.1 hh1).1).trans hh1
  have fin : ∀ (w' : World) (x y z : Value), SrcAt w1 w' g a len cap → BelowG w0 (((w'.setCell ⟨w0.heap.size, 0, none⟩ x).setCell ⟨w0.heap.size, 1, none⟩ y).setCell ⟨w0.heap.size, 2, none⟩ z) g := fun w' x y z hs => ((hs.rebase hb1).set3 (Nat.le_refl _) hgl).1
  have HN := hid hN
  have HO := hid hO
  have HW := hid (fun w' hs => Wild_any w1 w' g a len cap hN hs)
  have HD := hid (fun w' hs => DrawWord_any w1 w' g a len cap hN (fun w2 => hO 2 w2 (by decide)) hs)
  have HS1 := hid hs1
  have HCELL := hid hcell
  have FIN := hid fin
  have HW1 := hid hw1
  clear hN hO hC hC1 h hs1 hcell fin hb1 hh1 hgl
  go_enter Tryz.func15, Tryz.ntmps15
  go_wp2_with fail
  rw [← HW1.out]
  refine (HO.out 2 w1 (by decide) HS1.out).mono ?_
  rintro e w2 ⟨⟨b, rfl⟩, hs2⟩
  have HS2 := hid hs2
  clear hs2
  cases b
  · go_wp2_with fail
    refine (HO.out 3 w2 (by decide) HS2.out).mono ?_
    rintro e w3 ⟨⟨b, rfl⟩, hs3⟩
    have HS3 := hid hs3
    clear hs3
    cases b
    · go_wp2_with fail
      refine (HN.out 200 w3 (by decide) HS3.out).mono ?_
      rintro e w4 ⟨⟨r, rfl, h1, h2⟩, hs4, _⟩
      have HS4 := hid hs4
      clear hs4
      go_wp2_with fail
      refine (l01Int_any _ w4).mono ?_
      rintro e w5 ⟨rfl, hb5⟩
      have HS5 := hid (HS4.out.below hb5)
      have hh := HCELL.out w5 HS5.out
      clear hb5
      obtain ⟨⟨c0, c1, c2⟩, f0, f1, f2⟩ := num_cells hh
      have HH := hid hh
      clear hh
      go_wp2_with fail
      exact bodyPost_ret (res_l01n (set3s (W := w0) (g := g) HH.out) rfl rfl) rfl ⟨⟨false, _, 0, rfl, (fun h => by cases h), fun _ => rfl, ⟨by omega, by omega⟩, by decide⟩, FIN.out w5 _ _ _ HS5.out⟩
    · go_wp2_with fail
      refine (HW.out w3 HS3.out).mono ?_
      rintro e w4 ⟨⟨r, rfl, h1, h2⟩, hs4⟩
      have HS4 := hid hs4
      clear hs4
      go_wp2_with fail
      refine (l01Int_any _ w4).mono ?_
      rintro e w5 ⟨rfl, hb5⟩
      have HS5 := hid (HS4.out.below hb5)
      have hh := HCELL.out w5 HS5.out
      clear hb5
      obtain ⟨⟨c0, c1, c2⟩, f0, f1, f2⟩ := num_cells hh
      have HH := hid hh
      clear hh
      go_wp2_with fail
      exact bodyPost_ret (res_l01n (set3s (W := w0) (g := g) HH.out) rfl rfl) rfl ⟨⟨false, _, 0, rfl, (fun h => by cases h), fun _ => rfl, ⟨h1, h2⟩, by decide⟩, FIN.out w5 _ _ _ HS5.out⟩
  · go_wp2_with fail
    refine (HD.out w2 HS2.out).mono ?_
    rintro e w3 ⟨⟨r, rfl, hr⟩, hs3⟩
    have HS3 := hid hs3
    have HR := hid hr
    clear hs3 hr
    go_wp2_with fail
    refine (l01Float_any r HR.out w3).mono ?_
    rintro e w4 ⟨⟨c, rfl, hc⟩, hb4⟩
    have HS4 := hid (HS3.out.below hb4)
    have HC := hid hc
    have hh := HCELL.out w4 HS4.out
    clear hb4 hc
    obtain ⟨⟨c0, c1, c2⟩, f0, f1, f2⟩ := num_cells hh
    have HH := hid hh
    clear hh
    go_wp2_with fail
    exact bodyPost_ret (res_l01n (set3s (W := w0) (g := g) HH.out) rfl rfl) rfl ⟨⟨true, 0, c, rfl, fun _ => rfl, (fun h => by cases h), ⟨by decide, by decide⟩, HC.out⟩, FIN.out w4 _ _ _ HS4.out⟩
end Go.Proofs.YtlblkajnmdhmdaaGreatDoor
