/-
  Find's answer as plain data: the reference's and the program's posts come to the same data.
  Walk: the law FnExactFind returns true.
-/
import Derived.Test.YtpinoolagbghnaaZLawA
import Derived.Test.YtpinoolagbghnaaZQL
import Derived.Test.YtpinoolagbghnaaZFindR
namespace Go.Proofs.Ytpinoolagbghnaa
set_option linter.unusedVariables false
open Go.RowKit Pat

namespace Pat
structure Out where
  i : Nat
  e : Nat
  n : Nat
  code : Nat
  b : Bool
  c : Cap

def Out.no (k : Nat) : Out := ⟨0, 0, 0, k, false, Cap.zero⟩

/-- What Find is to answer. -/
def findOut (s p : ByteArray) (init : Int) : Out :=
  if 65536 < s.size then Out.no 1 else match parse p with
    | none => Out.no 2
    | some P =>
      if 0 ≤ init ∧ init ≤ s.size then
        match searchP s true P.start (fun _ => false) P.items (s.size + 1 - init.toNat) init.toNat 0 with
        | none => Out.no 4
        | some (_, none) => Out.no 0
        | some (_, some (i, e, c)) => ⟨i, e, P.caps, 0, true, c⟩
      else Out.no 3

theorem findOut_n (s p : ByteArray) (init : Int) : (findOut s p init).n ≤ 16 := by
  unfold findOut
  split
  · exact Nat.zero_le _
  · split
    · exact Nat.zero_le _
    · rename_i P hP
      split
      · split
        · exact Nat.zero_le _
        · exact Nat.zero_le _
        · obtain ⟨_, _, _, h, _⟩ := parse_wf hP
          exact h
      · exact Nat.zero_le _
end Pat

/-- What a Find returns. -/
def outEnd (o : Out) (aa : Option Addr) (ca : Nat) : Ending := .returned (.tuple #[.agg #[.int .i64 o.i, .int .i64 o.e, .slice aa o.n ca], .bool o.b, .int .i64 o.code])

theorem rowAt_zero (w : World) (lo : Nat) (aa : Option Addr) (f : Nat → Value) : RowAt w lo aa 0 f := fun h => absurd h (by omega)

theorem findI_out {s p : ByteArray} {init : Int} {w w' : World} {e : Ending} (h : FindIPost s p init w e w') : ∃ aa ca, e = outEnd (findOut s p init) aa ca ∧ RowAt w' w.heap.size aa (findOut s p init).n (capAt (findOut s p init).c) ∧ Keeps w.heap.size [] w w' := by
  obtain ⟨hk, ⟨h1, rfl⟩ | ⟨h1, h2, rfl⟩ | ⟨h1, ⟨P, h2⟩, h3, rfl⟩ | ⟨P, i0, h1, h2, rfl, h3, hc⟩⟩ := h
  · unfold findOut; rw [if_pos h1]; exact ⟨none, 0, rfl, rowAt_zero _ _ _ _, hk⟩
  · unfold findOut; rw [if_neg (by omega), h2]; exact ⟨none, 0, rfl, rowAt_zero _ _ _ _, hk⟩
  · unfold findOut; rw [if_neg (by omega), h2]; simp only []; rw [if_neg h3]; exact ⟨none, 0, rfl, rowAt_zero _ _ _ _, hk⟩
  · unfold findOut; rw [if_neg (by omega), h2]; simp only []; rw [if_pos ⟨by omega, by omega⟩, Int.toNat_natCast]
    rcases hc with ⟨h4, rfl⟩ | ⟨st, h4, rfl⟩ | ⟨st, i, e2, c, cb, h4, _, _, h5, h6, rfl⟩
    · rw [h4]; exact ⟨none, 0, rfl, rowAt_zero _ _ _ _, hk⟩
    · rw [h4]; exact ⟨none, 0, rfl, rowAt_zero _ _ _ _, hk⟩
    · rw [h4]; exact ⟨some ⟨cb, 0, none⟩, P.caps, rfl, fun _ => ⟨cb, rfl, h5, h6⟩, hk⟩

theorem capsAt_own {w : World} {lo n : Nat} {aa : Option Addr} {ca : Nat} {pl : Nat → Bool} {ct cf : Cap} (h : w.ownsRow lo 55 3 (.slice aa n ca) n (capCells pl cf n)) (hs : CapSame pl n ct cf) : CapsAt w lo aa n ct := fun hn => by
  rcases h.2 with ⟨h1, h2⟩ | ⟨g, cap, cur, h1, hg, _⟩
  · omega
  · simp only [Value.slice.injEq] at h1
    obtain ⟨rfl, _, rfl⟩ := h1
    refine ⟨g, rfl, hg, (h.lt g rfl).2, fun j hj => ?_⟩
    have := h.cells (g := g) rfl j _ (capCells_at hs j hj)
    have hadd : (⟨g, 0, none⟩ : Addr).add j = ⟨g, j, none⟩ := by unfold Addr.add; split <;> simp_all
    rw [hadd] at this
    exact this

theorem findS_out {s p : ByteArray} {init : Int} {w w' : World} {e : Ending} (h : FindPost s p init w e w') : ∃ aa ca, e = outEnd (findOut s p init) aa ca ∧ CapsAt w' w.heap.size aa (findOut s p init).n (findOut s p init).c ∧ Keeps w.heap.size [] w w' := by
  have hz : ∀ (w : World) (lo : Nat) (aa : Option Addr) (c : Cap), CapsAt w lo aa 0 c := fun w lo aa c h => absurd h (by omega)
  obtain ⟨hk, ⟨h1, rfl⟩ | ⟨h1, h2, rfl⟩ | ⟨h1, ⟨P, h2⟩, h3, rfl⟩ | ⟨P, i0, h1, h2, rfl, h3, hc⟩⟩ := h
  · unfold findOut; rw [if_pos h1]; exact ⟨none, 0, rfl, hz _ _ _ _, hk⟩
  · unfold findOut; rw [if_neg (by omega), h2]; exact ⟨none, 0, rfl, hz _ _ _ _, hk⟩
  · unfold findOut; rw [if_neg (by omega), h2]; simp only []; rw [if_neg h3]; exact ⟨none, 0, rfl, hz _ _ _ _, hk⟩
  · unfold findOut; rw [if_neg (by omega), h2]; simp only []; rw [if_pos ⟨by omega, by omega⟩, Int.toNat_natCast]
    have hr := search_rel s h2 (s.size + 1 - i0) i0 0
    rcases hc with ⟨h4, rfl⟩ | ⟨st, h4, rfl⟩ | ⟨st, i, e2, c, v, h4, _, _, h6, rfl⟩
    · rw [h4] at hr
      generalize searchP s true P.start (fun _ => false) P.items (s.size + 1 - i0) i0 0 = a at hr
      cases hr
      exact ⟨none, 0, rfl, hz _ _ _ _, hk⟩
    · rw [h4] at hr
      generalize searchP s true P.start (fun _ => false) P.items (s.size + 1 - i0) i0 0 = a at hr
      cases hr
      exact ⟨none, 0, rfl, hz _ _ _ _, hk⟩
    · rw [h4] at hr
      generalize searchP s true P.start (fun _ => false) P.items (s.size + 1 - i0) i0 0 = a at hr
      cases hr with
      | hit _ _ _ hs =>
        obtain ⟨aa, ca, rfl⟩ := own_form h6
        exact ⟨aa, ca, rfl, capsAt_own h6 hs, hk⟩
end Go.Proofs.Ytpinoolagbghnaa

namespace Go.Proofs.Ytpinoolagbghnaa
set_option linter.unusedVariables false
open Go.RowKit Pat

set_option maxRecDepth 1000000 in
set_option maxHeartbeats 4000000 in
theorem law_any (s p : ByteArray) (init : Int) (w : World) :
    Calls Try.prog 3 #[.string s, .string p, .int .i64 init] w fun e w' => e = .returned (.bool true) ∧ Keeps w.heap.size [] w w' := by
  by_cases hs : 1048576 < s.size
  · have hd : decide ((1048576 : Int) < s.size) = true := decide_eq_true (by omega)
    go_enter Try.func3, Try.ntmps3
    go_wp2_with fail
    go_ret
    exact ⟨rfl, Keeps.refl _ _ _⟩
  have hd : decide ((1048576 : Int) < s.size) = false := decide_eq_false (by omega)
  by_cases hp : 1048576 < p.size
  · have hd2 : decide ((1048576 : Int) < p.size) = true := decide_eq_true (by omega)
    go_enter Try.func3, Try.ntmps3
    go_wp2_with fail
    go_ret
    exact ⟨rfl, Keeps.refl _ _ _⟩
  have hd2 : decide ((1048576 : Int) < p.size) = false := decide_eq_false (by omega)
  have hn := findOut_n s p init
  have key1 : ∀ w, Calls Try.prog 4 #[.string s, .string p, .int .i64 init] w fun e w' => ∃ aa ca, e = outEnd (findOut s p init) aa ca ∧ CapsAt w' w.heap.size aa (findOut s p init).n (findOut s p init).c ∧ Keeps w.heap.size [] w w' := fun w => (find_any s p init w).mono fun e w' h => findS_out h
  have key2 : ∀ w, Calls Try.prog 5 #[.string s, .string p, .int .i64 init] w fun e w' => ∃ aa ca, e = outEnd (findOut s p init) aa ca ∧ RowAt w' w.heap.size aa (findOut s p init).n (capAt (findOut s p init).c) ∧ Keeps w.heap.size [] w w' := fun w => (findI_any s p init w).mono fun e w' h => findI_out h
  generalize findOut s p init = o at hn key1 key2
  obtain ⟨i, e2, n, cd, b, c⟩ := o
  unfold outEnd at key1 key2
  dsimp only at hn key1 key2
  have K1 := hid key1
  have K2 := hid key2
  clear key1 key2 hs hp
  go_enter Try.func3, Try.ntmps3
  go_wp2_with fail
  refine (K1.out _).mono ?_
  rintro e w1 ⟨bb, cb, rfl, hc1, hk1⟩
  have hbb : (b != b) = false := by simp
  have hcd : ((cd : Int) != cd) = false := by simp
  obtain ⟨W1, hW1⟩ : ∃ W1, W1 = w1.alloc (.cells #[.int .i64 i, .int .i64 e2, .slice bb n cb] 24) := ⟨_, rfl⟩
  have hb1 : W1.heap[w1.heap.size]? = some (.cells #[.int .i64 i, .int .i64 e2, .slice bb n cb] 24 (0, 0)) := by rw [hW1]; exact blk_new _ _
  have hkW1 : Keeps w.heap.size [] w W1 := by rw [hW1]; exact hk1.alloc hk1.size _
  have hcW1 : CapsAt W1 w.heap.size bb n c := by rw [hW1]; exact hc1.keeps (S := []) ((Keeps.refl _ _ _).alloc (Nat.le_refl _) _) (Nat.le_refl _) (by simp) (Nat.le_refl _)
  have hw1 : w.heap.size ≤ W1.heap.size := hkW1.size
  have hs1 : W1.heap.size = w1.heap.size + 1 := by rw [hW1, World.size_alloc]
  have hgb : 0 < n → ∀ g, bb = some ⟨g, 0, none⟩ → g < W1.heap.size := fun h0 g hg => by
    obtain ⟨g', h1, _, h2, _⟩ := hcW1 h0
    rw [hg] at h1
    simp only [Option.some.injEq, Addr.mk.injEq] at h1
    omega
  have HW1 := hid hW1
  have HC1 := hid hcW1
  have HGB := hid hgb
  clear hW1 hc1 hk1 hcW1 hgb
  go_upto_region 6 with fail
  rw [← HW1.out]
  go_wp2_with fail
  refine (K2.out _).mono ?_
  rintro e w2 ⟨aa, ca, rfl, hr2, hk2⟩
  obtain ⟨W2, hW2⟩ : ∃ W2, W2 = w2.alloc (.cells #[.int .i64 i, .int .i64 e2, .slice aa n ca] 24) := ⟨_, rfl⟩
  have hkn : Keeps w2.heap.size [] w2 W2 := by rw [hW2]; exact (Keeps.refl _ _ _).alloc (Nat.le_refl _) _
  have hb2 : W2.heap[w2.heap.size]? = some (.cells #[.int .i64 i, .int .i64 e2, .slice aa n ca] 24 (0, 0)) := by rw [hW2]; exact blk_new _ _
  have hk12 : Keeps W1.heap.size [] W1 W2 := hk2.andThen hkn hk2.size (by simp)
  have hb12 := hk12.blk hb1 (blk_lt hb1) (by simp)
  have hr22 := hr2.keeps (lo' := W1.heap.size) hkn (Nat.le_refl _) (by simp) (Nat.le_refl _)
  have HC2 := hid (HC1.out.keeps (lo' := w.heap.size) hk12 (Nat.le_refl _) (by simp) (Nat.le_refl _))
  have HR2 := hid hr22
  have HW2 := hid hW2
  have HKW2 := hid (hkW1.andThen hk12 hkW1.size (by simp))
  have hs2 : w1.heap.size < w2.heap.size := by have := hk2.size; omega
  clear hW2 hr2 hr22 hkn hk2 hb1 hkW1 hk12
  go_upto_region 7 with fail
  rw [← HW2.out]
  obtain ⟨r0, r1, r2, q0, q1, q2⟩ := found_facts hb12
  obtain ⟨u0, u1, u2, v0, v1, v2⟩ := found_facts hb2
  go_wp2_with fail
  refine (eqFound_same _ _ hn HR2.out.caps HC2.out).mono ?_
  rintro e w3 ⟨rfl, hk3⟩
  have hb13 := hk3.blk hb12 (blk_lt hb12) (by simp)
  have hb23 := hk3.blk hb2 (blk_lt hb2) (by simp)
  have HR3 := hid (HR2.out.keeps (lo' := W1.heap.size) hk3 (Nat.le_refl _) (by simp) (Nat.le_refl _))
  have HC3 := hid (HC2.out.keeps (lo' := w.heap.size) hk3 (Nat.le_refl _) (by simp) (Nat.le_refl _))
  have HK3 := hid (HKW2.out.andThen hk3 HKW2.out.size (by simp))
  clear r0 r1 r2 q0 q1 q2 u0 u1 u2 v0 v1 v2 hk3 HR2 HC2 HKW2
  obtain ⟨r0, r1, r2, q0, q1, q2⟩ := found_facts hb13
  obtain ⟨u0, u1, u2, v0, v1, v2⟩ := found_facts hb23
  go_wp2_with fail
  refine (markFound_any _ _ hn HR3.out).mono ?_
  rintro e w4 ⟨rfl, hr4, S, hS, hk4⟩
  have hSg : ∀ k ∈ S, W1.heap.size ≤ k ∧ k < w3.heap.size ∧ k ≠ w1.heap.size ∧ k ≠ w2.heap.size := fun k hk => by
    obtain ⟨h0, g, h1, rfl⟩ := hS k hk
    obtain ⟨g', h2, h3, h4⟩ := HR3.out h0
    rw [h1] at h2
    simp only [Option.some.injEq, Addr.mk.injEq, and_true] at h2
    subst h2
    exact ⟨h3, h4.lt, row_ne h4 hb13 (by decide), row_ne h4 hb23 (by decide)⟩
  have hb14 := hk4.blk hb13 (blk_lt hb13) (fun h => (hSg _ h).2.2.1 rfl)
  have hb24 := hk4.blk hb23 (blk_lt hb23) (fun h => (hSg _ h).2.2.2 rfl)
  have HC4 := hid (HC3.out.keeps (lo' := w.heap.size) hk4 (Nat.le_refl _) (fun k hk g hg => by have h1 := (hSg k hk).1; have h2 := HGB.out (hS k hk).1 g hg; omega) (Nat.le_refl _))
  have HR4 := hid hr4
  have HK4 := hid (HK3.out.andThen hk4 HK3.out.size (fun k hk hlt => by have := (hSg k hk).1; omega))
  clear r0 r1 r2 q0 q1 q2 u0 u1 u2 v0 v1 v2 hk4 hr4 hS hSg HR3 HC3 HK3
  obtain ⟨r0, r1, r2, q0, q1, q2⟩ := found_facts hb14
  obtain ⟨u0, u1, u2, v0, v1, v2⟩ := found_facts hb24
  go_wp2_with fail
  refine (heldFound_any _ _ hn HR4.out).mono ?_
  rintro e w5 ⟨rfl, hk5⟩
  have hb15 := hk5.blk hb14 (blk_lt hb14) (by simp)
  have hb25 := hk5.blk hb24 (blk_lt hb24) (by simp)
  have HR5 := hid (HR4.out.keeps (lo' := W1.heap.size) hk5 (Nat.le_refl _) (by simp) (Nat.le_refl _))
  have HC5 := hid (HC4.out.keeps (lo' := w.heap.size) hk5 (Nat.le_refl _) (by simp) (Nat.le_refl _))
  have HK5 := hid (HK4.out.andThen hk5 HK4.out.size (by simp))
  have hn0 : (0 : Int) ≤ 3 * (n : Int) + 1 := by omega
  have hnn : (3 * (n : Int) + 1 != 3 * (n : Int) + 1) = false := by simp
  clear r0 r1 r2 q0 q1 q2 u0 u1 u2 v0 v1 v2 hk5 HR4 HC4 HK4
  obtain ⟨r0, r1, r2, q0, q1, q2⟩ := found_facts hb15
  obtain ⟨u0, u1, u2, v0, v1, v2⟩ := found_facts hb25
  go_wp2_with fail
  refine (K2.out _).mono ?_
  rintro e w6 ⟨a3, ca3, rfl, hr6, hk6⟩
  obtain ⟨W6, hW6⟩ : ∃ W6, W6 = w6.alloc (.cells #[.int .i64 i, .int .i64 e2, .slice a3 n ca3] 24) := ⟨_, rfl⟩
  have hkn : Keeps w6.heap.size [] w6 W6 := by rw [hW6]; exact (Keeps.refl _ _ _).alloc (Nat.le_refl _) _
  have hb36 : W6.heap[w6.heap.size]? = some (.cells #[.int .i64 i, .int .i64 e2, .slice a3 n ca3] 24 (0, 0)) := by rw [hW6]; exact blk_new _ _
  have hk56 : Keeps w5.heap.size [] w5 W6 := hk6.andThen hkn hk6.size (by simp)
  have hb16 := hk56.blk hb15 (blk_lt hb15) (by simp)
  have hb26 := hk56.blk hb25 (blk_lt hb25) (by simp)
  have HC6 := hid (HC5.out.keeps (lo' := w.heap.size) hk56 (Nat.le_refl _) (by simp) (Nat.le_refl _))
  have HR6 := hid (HR5.out.keeps (lo' := W1.heap.size) hk56 (Nat.le_refl _) (by simp) (Nat.le_refl _))
  have HN6 := hid (hr6.keeps (lo' := w5.heap.size) hkn (Nat.le_refl _) (by simp) (Nat.le_refl _))
  have HK6 := hid (HK5.out.andThen hk56 HK5.out.size (by simp))
  have HW6 := hid hW6
  clear r0 r1 r2 q0 q1 q2 u0 u1 u2 v0 v1 v2 hW6 hr6 hkn hk6 hk56 HR5 HC5 HK5
  go_upto_region 18 with fail
  rw [← HW6.out]
  obtain ⟨r0, r1, r2, q0, q1, q2⟩ := found_facts hb16
  obtain ⟨u0, u1, u2, v0, v1, v2⟩ := found_facts hb26
  obtain ⟨x0, x1, x2, y0, y1, y2⟩ := found_facts hb36
  go_wp2_with fail
  refine (eqFound_same _ _ hn HN6.out.caps HC6.out).mono ?_
  rintro e w7 ⟨rfl, hk7⟩
  have hb27 := hk7.blk hb26 (blk_lt hb26) (by simp)
  have HR7 := hid (HR6.out.keeps (lo' := W1.heap.size) hk7 (Nat.le_refl _) (by simp) (Nat.le_refl _))
  have HK7 := hid (HK6.out.andThen hk7 HK6.out.size (by simp))
  clear r0 r1 r2 q0 q1 q2 u0 u1 u2 v0 v1 v2 x0 x1 x2 y0 y1 y2 hk7 HR6 HC6 HK6 HN6
  obtain ⟨u0, u1, u2, v0, v1, v2⟩ := found_facts hb27
  go_wp2_with fail
  refine (heldFound_any _ _ hn HR7.out).mono ?_
  rintro e w8 ⟨rfl, hk8⟩
  have HK8 := hid (HK7.out.andThen hk8 HK7.out.size (by simp))
  clear u0 u1 u2 v0 v1 v2 hk8 HR7 HK7
  go_wp2_with fail
  go_ret
  exact ⟨rfl, HK8.out⟩
end Go.Proofs.Ytpinoolagbghnaa
