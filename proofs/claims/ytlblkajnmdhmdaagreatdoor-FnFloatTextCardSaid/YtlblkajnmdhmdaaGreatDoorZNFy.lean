/-
  Walk: FormatFloat at the format 'e'.
-/
import Derived.Test.YtlblkajnmdhmdaaGreatDoorZNFz
import Derived.Lib.UnsafeStr
import Derived.Lib.BufferWrite
import Derived.Laws.IdiomStrings
import Derived.Handy
namespace Go.Proofs.YtlblkajnmdhmdaaGreatDoor
set_option linter.unusedVariables false
open Go.RowKit Lib
theorem byteOwn_string {w : World} {B : Nat} {a : Option Addr} {n cap : Nat} {l : List UInt8} (h : w.ownsRow B 5 1 (.slice a n cap) l.length (Lib.byteCells l)) : ∀ dst, Tryz.prog.underlying dst = some .string → (convert 35 dst (.slice a n cap)).run Tryz.prog w = .ok (.string ⟨l.toArray⟩) w := by
  intro dst hd
  rcases h.2 with ⟨h1, h2⟩ | ⟨g, cap', cur, h1, hrest⟩
  · simp only [Value.slice.injEq] at h1
    obtain ⟨rfl, rfl, rfl⟩ := h1
    have hl : l = [] := List.eq_nil_of_length_eq_zero h2
    subst hl
    rw [run_convert_bytes_string w 35 dst 5 _ _ _ Tryz.underlying35 Tryz.underlying5 hd]
    simp [Conv.bytesToString]
    rfl
  · have hc := h.cells (g := g) (by rw [h1]; rfl)
    simp only [Value.slice.injEq] at h1
    obtain ⟨rfl, rfl, rfl⟩ := h1
    exact run_convert_bytes_back w 35 dst 5 ⟨g, 0, none⟩ cap l Tryz.underlying35 Tryz.underlying5 hd (fun j hj => hc j _ (by simp [Lib.byteCells, hj]))
set_option maxRecDepth 100000 in
set_option maxHeartbeats 1000000 in
theorem format_any (u n : Nat) (w : World) (hn : n ≤ 16) (Q : List UInt8 → Prop) (hf : ∀ g w1, St w1 w1 w.heap.size g [] → Below w.heap.size w w1 → Calls Tryz.prog 133 #[.slice (some ⟨g, 0, none⟩) 0 24, .float .f64 u, .int .u8 101, .int .i64 n] w1 fun r w' => ∃ t, Q t ∧ EfPost w1 w.heap.size g t r w') :
    Calls Tryz.prog 90 #[.float .f64 u, .int .u8 101, .int .i64 n, .int .i64 64] w fun r w' => (∃ t : List UInt8, Q t ∧ r = .returned (.string ⟨t.toArray⟩)) ∧ Below w.heap.size w w' := by
  have hmax : max ((n : Int) + 4) 24 = 24 := by omega
  have HFF := hid hf
  clear hf
  obtain ⟨i, hi, hz, h4, h5⟩ := info_parts info_u8
  go_enter Tryz.func90, Tryz.ntmps90
  go_wp2_with (at_make; (with_reducible refine wpList_make_own w ?a1 (.const (.int .i64 0)) (.tmp 25) 35 ?a2 w.heap.size 5 i _ 1 Tryz.underlying35 hi hz h4 .i64 .i64 24 24 ?a3 ?a4 ?a5 ?a6 ?a7 ?a8 ?a9); (case a1 => rfl); (case a2 => rfl); (case a3 => rfl); (case a4 => rfl); (case a5 => rfl); (case a6 => rw [h5]; decide); (case a7 => decide); (case a8 => exact Nat.le_refl _); intro w1 hown hgrow)
  have hst : St w1 w1 w.heap.size w.heap.size [] := ⟨hown, World.grownBy.refl _ _⟩
  have hbw : Below w.heap.size w w1 := ⟨hgrow.os, hgrow.tape, hgrow.output, hgrow.size, fun k hk => hgrow.block k hk (by simp)⟩
  refine (HFF.out _ w1 hst hbw).mono ?_
  rintro r w2 ⟨t, hq, rfl, hst2⟩
  have hc := byteOwn_string hst2.1
  have hb2 : Below w.heap.size w w2 := ⟨hst2.2.os.trans hgrow.os, hst2.2.tape.trans hgrow.tape, hst2.2.output.trans hgrow.output, Nat.le_trans hgrow.size hst2.2.size, fun k hk => (hst2.2.block k (Nat.lt_of_lt_of_le hk hgrow.size) (by simp; omega)).trans (hgrow.block k hk (by simp))⟩
  have HB := hid hb2
  clear hst2 hst hbw hown hgrow hb2
  go_wp2_with fail
  go_ret
  exact ⟨⟨t, hq, rfl⟩, HB.out⟩
/-- The tables that writing wants. -/
structure WrTabs (w : World) : Prop where
  p10 : P10 w
  t10 : T10 w
  size : 16 < w.heap.size
  opt : w.cell? ⟨4, 0, none⟩ = some (.bool true)
  tab : Lib.TabIs Tryz.prog w "internal/strconv.uint64pow10" .u64 Lib.pow10Tab
/-- The text of a word at n + 1 digits. -/
def FmtQ (u n : Nat) (t : List UInt8) : Prop := ∃ (D j jx : Nat) (d0 : UInt8) (tl : List UInt8), NU.isW u j ∧ 17 ≤ j ∧ j ≤ 695 ∧ NU.digK u (n + 1) j = (D, jx) ∧ 10 ^ n ≤ D ∧ D < 10 ^ (n + 1) ∧ 24 ≤ jx ∧ jx ≤ 657 ∧ tl.length = n ∧ (∀ t, t ≤ n → (d0 :: tl)[t]! = dg D (n - t)) ∧ t = eText d0 tl ((jx : Int) - 348)
theorem sformat_any (u n : Nat) (w : World) (R : Ending → World → Prop) (hR : ∀ r w', R r w' → ∃ t, r = .returned (.string t)) (h : Calls Tryz.prog 90 #[.float .f64 u, .int .u8 101, .int .i64 n, .int .i64 64] w R) :
    Calls Tryz.prog 63 #[.float .f64 u, .int .u8 101, .int .i64 n, .int .i64 64] w R := by
  go_enter Tryz.func63, Tryz.ntmps63
  go_wp2_with fail
  refine h.mono ?_
  intro r w' hr
  obtain ⟨t, rfl⟩ := hR r w' hr
  have HR := hid hr
  clear hr
  go_wp2_with fail
  exact HR.out
theorem format_word (u n : Nat) (w : World) (hu0 : 0 < u) (hu : u < 2047 * 2 ^ 52) (hn : n ≤ 16) (hW : WrTabs w) :
    Calls Tryz.prog 63 #[.float .f64 u, .int .u8 101, .int .i64 n, .int .i64 64] w fun r w' => (∃ t : List UInt8, FmtQ u n t ∧ r = .returned (.string ⟨t.toArray⟩)) ∧ Below w.heap.size w w' := by
  refine sformat_any u n w _ (fun r w' h => ?_) (format_any u n w hn _ fun g w1 hst hb => ?_)
  · obtain ⟨⟨t, _, rfl⟩, _⟩ := h
    exact ⟨_, rfl⟩
  · have hs := hW.size
    refine (ftoa_walk w.heap.size g u n w1 hst hu0 hu hn (hW.p10.below hs hb) (hW.t10.below hs hb) (Nat.lt_of_lt_of_le hs hb.size) ((hb.cell (p := ⟨4, 0, none⟩) (by show 4 < _; omega)).trans hW.opt) (Lib.tabBelow_of_tabIs hW.tab _ hb)).mono ?_
    rintro r w' ⟨D, j, jx, d0, tl, h1, h2, h3, h4, h5, h6, h7, h8, h9, h10, h11⟩
    exact ⟨_, ⟨D, j, jx, d0, tl, h1, h2, h3, h4, h5, h6, h7, h8, h9, h10, rfl⟩, h11⟩
theorem format_zero (w : World) :
    Calls Tryz.prog 63 #[.float .f64 0, .int .u8 101, .int .i64 0, .int .i64 64] w fun r w' => (∃ t : List UInt8, t = [48, 101, 43, 48, 48] ∧ r = .returned (.string ⟨t.toArray⟩)) ∧ Below w.heap.size w w' := by
  refine sformat_any 0 0 w _ (fun r w' h => ?_) (format_any 0 0 w (by decide) _ fun g w1 hst hb => ?_)
  · obtain ⟨⟨t, _, rfl⟩, _⟩ := h
    exact ⟨_, rfl⟩
  · exact (ftoa_zero w.heap.size g w1 hst).mono fun r w' h => ⟨_, rfl, h⟩
end Go.Proofs.YtlblkajnmdhmdaaGreatDoor
