/-
  Walk: the closure that Gsub hands to each: one match more in the builder.
  Plain law: the signs of parsed items.
  Walk: the program's each, at the closure of Gsub, comes to the plain word allP.
-/
import Derived.Test.YtpinoolagbghnaaDoorZRepl
import Derived.Test.YtpinoolagbghnaaDoorZQF
import Derived.Test.YtpinoolagbghnaaDoorZMatK
namespace Go.Proofs.YtpinoolagbghnaaDoor
set_option linter.unusedVariables false
open Go.RowKit Pat

/-- The frame of Gsub's writes: what is not of the listed blocks, and no row of bytes of the call's own, stands. -/
def GKeep (B : Nat) (S : List Nat) (w w' : World) : Prop := w'.os = w.os ∧ w'.tape = w.tape ∧ w'.output = w.output ∧ w.heap.size ≤ w'.heap.size ∧
  ∀ k o, w.heap[k]? = some o → k ∉ S → (k < B ∨ ∀ c z, o ≠ .cells c 5 z) → w'.heap[k]? = some o
theorem GKeep.refl (B : Nat) (S : List Nat) (w : World) : GKeep B S w w := ⟨rfl, rfl, rfl, Nat.le_refl _, fun k o h _ _ => h⟩
theorem GKeep.trans {B : Nat} {S : List Nat} {w w' w2 : World} (h : GKeep B S w w') (k : GKeep B S w' w2) : GKeep B S w w2 :=
  ⟨k.1.trans h.1, k.2.1.trans h.2.1, k.2.2.1.trans h.2.2.1, Nat.le_trans h.2.2.2.1 k.2.2.2.1, fun j o h1 h2 h3 => k.2.2.2.2 j o (h.2.2.2.2 j o h1 h2 h3) h2 h3⟩
theorem GKeep.of_b {B b : Nat} {S : List Nat} {w w' : World} (h : BKeep B b w w') (hb : b ∈ S) : GKeep B S w w' :=
  ⟨h.1, h.2.1, h.2.2.1, h.2.2.2.1, fun k o h1 h2 h3 => h.2.2.2.2 k o h1 (fun e => h2 (e ▸ hb)) h3⟩
theorem GKeep.of_keeps {B C : Nat} {S S' : List Nat} {w w' : World} (h : Keeps C S' w w') (hC : w.heap.size ≤ C) (hS : ∀ k ∈ S', k ∈ S) : GKeep B S w w' :=
  ⟨h.os, h.tape, h.output, h.size, fun k o h1 h2 _ => h.blk h1 (Nat.lt_of_lt_of_le (blk_lt h1) hC) (fun hm => h2 (hS k hm))⟩
theorem GKeep.blk {B : Nat} {S : List Nat} {w w' : World} (h : GKeep B S w w') {k : Nat} {c : Array Value} {t : TypeId} {z : Nat × Nat} (hk : w.heap[k]? = some (.cells c t z)) (h1 : k ∉ S) (h2 : t ≠ 5) : w'.heap[k]? = some (.cells c t z) :=
  h.2.2.2.2 k _ hk h1 (Or.inr fun c2 z2 e => by simp only [Obj.cells.injEq] at e; exact h2 e.2.1)
theorem GKeep.below {B : Nat} {S : List Nat} {w w' : World} (h : GKeep B S w w') (hS : ∀ k ∈ S, B ≤ k) (hw : B ≤ w.heap.size) : Below B w w' := ⟨h.1, h.2.1, h.2.2.1, h.2.2.2.1, fun k hk => by
  have hlt : k < w.heap.size := by omega
  have h1 : w.heap[k]? = some w.heap[k] := by simp [hlt]
  rw [h.2.2.2.2 k _ h1 (fun hm => by have := hS k hm; omega) (Or.inl hk), h1]⟩

/-- The variables that the closure bears. -/
structure GV (B b sv av mv rv nv m : Nat) (s r : ByteArray) (l : List UInt8) (at_ n : Nat) (w : World) : Prop where
  bu : Bu B b l w
  hsv : w.heap[sv]? = some (.cells #[.string s] 9 (0, 0))
  hav : w.heap[av]? = some (.cells #[.int .i64 at_] 3 (0, 0))
  hmv : w.heap[mv]? = some (.cells #[.pointer (some ⟨m, 0, none⟩)] 50 (0, 0))
  hrv : w.heap[rv]? = some (.cells #[.string r] 9 (0, 0))
  hnv : w.heap[nv]? = some (.cells #[.int .i64 n] 3 (0, 0))
  ne : av ≠ nv
  low : B ≤ w.heap.size

section
variable {B b sv av mv rv nv m : Nat} {s r : ByteArray} {l : List UInt8} {at_ n : Nat} {w w' : World}
theorem GV.bkeep (h : GV B b sv av mv rv nv m s r l at_ n w) (hk : BKeep B b w w') {l' : List UInt8} (hb : Bu B b l' w') : GV B b sv av mv rv nv m s r l' at_ n w' :=
  ⟨hb, hk.blk h.bu h.hsv (by decide) (by decide), hk.blk h.bu h.hav (by decide) (by decide), hk.blk h.bu h.hmv (by decide) (by decide), hk.blk h.bu h.hrv (by decide) (by decide), hk.blk h.bu h.hnv (by decide) (by decide), h.ne, Nat.le_trans h.low hk.2.2.2.1⟩
theorem GV.keeps {C : Nat} {S : List Nat} (h : GV B b sv av mv rv nv m s r l at_ n w) (hk : Keeps C S w w') (hC : w.heap.size ≤ C) (hS : ∀ k ∈ S, ∃ c t z, w.heap[k]? = some (.cells c t z) ∧ t ≠ 55 ∧ t ≠ 5 ∧ t ≠ 9 ∧ t ≠ 3 ∧ t ≠ 50) : GV B b sv av mv rv nv m s r l at_ n w' := by
  have key : ∀ (k : Nat) (c : Array Value) (t : TypeId) (z : Nat × Nat), w.heap[k]? = some (.cells c t z) → (t = 9 ∨ t = 3 ∨ t = 50) → w'.heap[k]? = some (.cells c t z) := fun k c t z hk1 ht => hk.blk hk1 (Nat.lt_of_lt_of_le (blk_lt hk1) hC) (fun hm => by
    obtain ⟨c1, t1, z1, h1, h2, h3, h4, h5, h6⟩ := hS k hm
    rw [hk1] at h1
    simp only [Option.some.injEq, Obj.cells.injEq] at h1
    obtain ⟨_, rfl, _⟩ := h1
    rcases ht with ht | ht | ht
    · exact h4 ht
    · exact h5 ht
    · exact h6 ht)
  exact ⟨h.bu.keeps hk hC (fun k hm => by obtain ⟨c1, t1, z1, h1, h2, h3, _⟩ := hS k hm; exact ⟨c1, t1, z1, h1, h2, h3⟩), key _ _ _ _ h.hsv (Or.inl rfl), key _ _ _ _ h.hav (Or.inr (Or.inl rfl)), key _ _ _ _ h.hmv (Or.inr (Or.inr rfl)), key _ _ _ _ h.hrv (Or.inl rfl), key _ _ _ _ h.hnv (Or.inr (Or.inl rfl)), h.ne, Nat.le_trans h.low hk.size⟩
theorem GV.cells (h : GV B b sv av mv rv nv m s r l at_ n w) : w.cell? ⟨sv, 0, none⟩ = some (.string s) ∧ w.cell? ⟨av, 0, none⟩ = some (.int .i64 at_) ∧ w.cell? ⟨mv, 0, none⟩ = some (.pointer (some ⟨m, 0, none⟩)) ∧ w.cell? ⟨rv, 0, none⟩ = some (.string r) ∧ w.cell? ⟨nv, 0, none⟩ = some (.int .i64 n) ∧
    w.frozen? ⟨av, 0, none⟩ = false ∧ w.frozen? ⟨nv, 0, none⟩ = false := ⟨blk_cell h.hsv 0, blk_cell h.hav 0, blk_cell h.hmv 0, blk_cell h.hrv 0, blk_cell h.hnv 0, blk_free h.hav 0, blk_free h.hnv 0⟩
theorem Bu.setCell (h : Bu B b l w) {k : Nat} {c : Array Value} {t : TypeId} {z : Nat × Nat} (hk : w.heap[k]? = some (.cells c t z)) (h1 : t ≠ 55) (h2 : t ≠ 5) (j : Nat) (v : Value) : Bu B b l (w.setCell ⟨k, j, none⟩ v) :=
  h.keeps (keeps_set w ⟨k, j, none⟩ v) (Nat.le_refl _) (fun q hq => by simp only [List.mem_singleton] at hq; subst hq; exact ⟨c, t, z, hk, h1, h2⟩)

theorem GV.step (h : GV B b sv av mv rv nv m s r l at_ n w) (e : Nat) : GV B b sv av mv rv nv m s r l e (n + 1) ((w.setCell ⟨av, 0, none⟩ (.int .i64 e)).setCell ⟨nv, 0, none⟩ (.int .i64 ((n : Int) + 1))) ∧
    GKeep B [b, av, nv] w ((w.setCell ⟨av, 0, none⟩ (.int .i64 e)).setCell ⟨nv, 0, none⟩ (.int .i64 ((n : Int) + 1))) := by
  have o1 : ∀ {k : Nat} {c : Array Value} {t : TypeId}, w.heap[k]? = some (.cells c t (0, 0)) → t ≠ 3 → ((w.setCell ⟨av, 0, none⟩ (.int .i64 e)).setCell ⟨nv, 0, none⟩ (.int .i64 ((n : Int) + 1))).heap[k]? = some (.cells c t (0, 0)) := fun {k c t} hk ht => by
    have h1 : k ≠ av := fun e => by subst e; rw [h.hav] at hk; simp only [Option.some.injEq, Obj.cells.injEq] at hk; exact ht hk.2.1.symm
    have h2 : k ≠ nv := fun e => by subst e; rw [h.hnv] at hk; simp only [Option.some.injEq, Obj.cells.injEq] at hk; exact ht hk.2.1.symm
    exact blk_set_other (blk_set_other hk (a := ⟨av, 0, none⟩) h1 _) (a := ⟨nv, 0, none⟩) h2 _
  have hn2 := blk_set_other h.hnv (a := ⟨av, 0, none⟩) (Ne.symm h.ne) (.int .i64 e)
  have hb := (h.bu.setCell h.hav (by decide) (by decide) 0 (.int .i64 e)).setCell hn2 (by decide) (by decide) 0 (.int .i64 ((n : Int) + 1))
  refine ⟨⟨hb, o1 h.hsv (by decide), ?_, o1 h.hmv (by decide), o1 h.hrv (by decide), ?_, h.ne, ?_⟩, ?_⟩
  · exact blk_set_other (blk_set h.hav 0 _) (a := ⟨nv, 0, none⟩) h.ne _
  · have := blk_set hn2 0 (.int .i64 ((n : Int) + 1))
    exact this
  · rw [World.size_setCell, World.size_setCell]; exact h.low
  · refine (GKeep.of_keeps (keeps_set w ⟨av, 0, none⟩ _) (Nat.le_refl _) (by simp)).trans (GKeep.of_keeps (keeps_set _ ⟨nv, 0, none⟩ _) (Nat.le_refl _) (by simp))

/-- What the builder holds behind one match more. -/
def bufNext (s r : ByteArray) (caps : Nat) (l : List UInt8) (at_ : Nat) (mt : Mt) : List UInt8 :=
  if (l ++ sub s at_ mt.a).length ≤ 65536 then l ++ sub s at_ mt.a ++ fillP s r caps mt (r.size + 1) 0 else l ++ sub s at_ mt.a

set_option maxRecDepth 100000 in
set_option maxHeartbeats 4000000 in
theorem gs11_any {mt : Mt} {ca : Nat} {aa : Option Addr} {cm : Array Value} {zm : Nat × Nat} (hs : s.size ≤ 65536) (hr : r.size ≤ 1048576) (hl : mt.caps.length ≤ 16) (hmt : MtOk s mt.caps.length mt) (hok : okP r mt.caps.length (r.size + 1) 0 = true)
    (hm : w.heap[m]? = some (.cells cm 52 zm)) (hm1 : cm[1]? = some (.string s)) (ha : MtRow w 0 aa mt.caps) (hat : at_ ≤ mt.a) (hG : GV B b sv av mv rv nv m s r l at_ n w) (hll : l.length ≤ 70000000000) (hn : n ≤ 100000)
    (htab : Lib.TabBelow Tryd.prog B w "internal/strconv.uint64pow10" .u64 Lib.pow10Tab) :
    Calls Tryd.prog 15 #[.agg #[.int .i64 mt.a, .int .i64 mt.e, .slice aa mt.caps.length ca], .pointer (some ⟨b, 0, none⟩), .pointer (some ⟨sv, 0, none⟩), .pointer (some ⟨av, 0, none⟩), .pointer (some ⟨mv, 0, none⟩), .pointer (some ⟨rv, 0, none⟩), .pointer (some ⟨nv, 0, none⟩)] w fun e w' =>
      e = .returned (.tuple #[]) ∧ GV B b sv av mv rv nv m s r (bufNext s r mt.caps.length l at_ mt) mt.e (n + 1) w' ∧ GKeep B [b, av, nv] w w' := by
  have hae := hmt.ae
  have hes := hmt.es
  have hI : (0 : Int) ≤ at_ ∧ (at_ : Int) ≤ mt.a ∧ (mt.a : Int) ≤ s.size := by omega
  have hI2 : (0 : Int) ≤ mt.e ∧ (mt.e : Int) ≤ 65536 := by omega
  have hnI : (0 : Int) ≤ n ∧ (n : Int) ≤ 100000 := by omega
  obtain ⟨W0, hW0⟩ : ∃ W0, W0 = w.alloc (.cells #[.int .i64 mt.a, .int .i64 mt.e, .slice aa mt.caps.length ca] 32) := ⟨_, rfl⟩
  have hk0 : Keeps w.heap.size [] w W0 := by rw [hW0]; exact (Keeps.refl _ _ _).alloc (Nat.le_refl _) _
  have hb0 : W0.heap[w.heap.size]? = some (.cells #[.int .i64 mt.a, .int .i64 mt.e, .slice aa mt.caps.length ca] 32 (0, 0)) := by rw [hW0]; exact blk_new _ _
  have HG0 := hid (hG.keeps hk0 (Nat.le_refl _) (by simp))
  have HA0 := hid (ha.keeps hk0 (Nat.le_refl _) (by simp) (Nat.le_refl _))
  have HM0 := hid (hk0.blk hm (blk_lt hm) (by simp))
  have HGK0 : Hid (GKeep B [b, av, nv] w W0) := hid (GKeep.of_keeps hk0 (Nat.le_refl _) (by simp))
  have HT0 : Hid (Lib.TabBelow Tryd.prog B W0 "internal/strconv.uint64pow10" .u64 Lib.pow10Tab) := hid (fun w' hb => htab w' ((hk0.below.mono hG.low).trans hb))
  have HW0 := hid hW0
  have HMT := hid hmt
  have HOK := hid hok
  have HM1 := hid hm1
  obtain ⟨c0, c1, c2, c3, c4, g1, g2⟩ := HG0.out.cells
  obtain ⟨f0, f1, f2⟩ := box_facts hb0
  have hsl := sub_len (s := s) at_ mt.a
  have hsz : (s.extract at_ mt.a).size ≤ s.size := by rw [ByteArray.size_extract]; omega
  have HB0 := hid hb0
  clear hW0 hmt hok hm1 hm ha hk0 hb0 hG htab
  go_enter Tryd.func15, Tryd.ntmps15
  go_upto_region 1 with fail
  rw [← HW0.out]
  go_wp2_with fail
  refine (writeString_any (s.extract at_ mt.a) (sub s at_ mt.a) rfl W0 HG0.out.bu (by omega) HG0.out.low).mono ?_
  rintro e w1 ⟨rfl, hb1, hk1⟩
  have HG1 := hid (HG0.out.bkeep hk1 hb1)
  have HA1 := hid (HA0.out.bkeep hk1 HG0.out.bu)
  have HM2 := hid (hk1.blk HG0.out.bu HM0.out (by decide) (by decide))
  have HB1 := hid (hk1.blk HG0.out.bu HB0.out (by decide) (by decide))
  have HGK1 := hid (HGK0.out.trans (GKeep.of_b (S := [b, av, nv]) hk1 (by simp)))
  have HT1 : Hid (Lib.TabBelow Tryd.prog B w1 "internal/strconv.uint64pow10" .u64 Lib.pow10Tab) := hid (fun w' hb => HT0.out w' ((hk1.below HG0.out.bu.blk.1 HG0.out.low).trans hb))
  clear hb1 hk1 c0 c1 c2 c3 c4 g1 g2 f0 f1 f2
  obtain ⟨c0, c1, c2, c3, c4, g1, g2⟩ := HG1.out.cells
  obtain ⟨f0, f1, f2⟩ := box_facts HB1.out
  have hlen := Tryd.Builder_Len B b (Lib.byteCells (l ++ sub s at_ mt.a)) w1 HG1.out.bu
  rw [Lib.byteCells_length] at hlen
  obtain ⟨N, hN⟩ : ∃ N, (l ++ sub s at_ mt.a).length = N := ⟨_, rfl⟩
  rw [hN] at hlen
  have HLEN := hid hlen
  have HN := hid hN
  have hNI : (0 : Int) ≤ N ∧ (N : Int) ≤ 80000000000 := by rw [List.length_append] at hN; omega
  clear hlen hN
  go_wp2_with fail
  refine HLEN.out.mono ?_
  rintro e w' ⟨rfl, hw⟩
  subst hw
  by_cases hN6 : N ≤ 65536
  · have dN : decide ((N : Int) ≤ 65536) = true := decide_eq_true (by omega)
    have dNn : decide (N ≤ 65536) = true := decide_eq_true hN6
    have HBN : Hid (bufNext s r mt.caps.length l at_ mt = l ++ sub s at_ mt.a ++ fillP s r mt.caps.length mt (r.size + 1) 0) := hid (by unfold bufNext; rw [if_pos (by rw [HN.out]; exact hN6)])
    have hrep := replace_any (ca := ca) hs hr hl HMT.out HOK.out HM2.out HM1.out HA1.out HG1.out.bu (by rw [HN.out]; exact hN6) HG1.out.low HT1.out
    have HREP := hid hrep
    clear hrep
    go_wp2_with fail
    refine HREP.out.mono ?_
    rintro e w4 ⟨rfl, hb4, hk4⟩
    have HG4 := hid (HG1.out.bkeep hk4 hb4)
    have hB4 := hk4.blk HG1.out.bu HB1.out (by decide) (by decide)
    have HGK4 := hid (HGK1.out.trans (GKeep.of_b (S := [b, av, nv]) hk4 (by simp)))
    have HST := hid (HG4.out.step mt.e)
    clear hb4 hk4 c0 c1 c2 c3 c4 g1 g2 f0 f1 f2
    obtain ⟨c0, c1, c2, c3, c4, g1, g2⟩ := HG4.out.cells
    obtain ⟨f0, f1, f2⟩ := box_facts hB4
    have hne := HG4.out.ne
    go_wp2_with fail
    go_end0
    exact ⟨rfl, by rw [HBN.out]; exact HST.out.1, HGK4.out.trans HST.out.2⟩
  · have dN : decide ((N : Int) ≤ 65536) = false := decide_eq_false (by omega)
    have dNn : decide (N ≤ 65536) = false := decide_eq_false hN6
    have HBN : Hid (bufNext s r mt.caps.length l at_ mt = l ++ sub s at_ mt.a) := hid (by unfold bufNext; rw [if_neg (by rw [HN.out]; exact hN6)])
    have HST := hid (HG1.out.step mt.e)
    have hne := HG1.out.ne
    go_wp2_with fail
    go_end0
    exact ⟨rfl, by rw [HBN.out]; exact HST.out.1, HGK1.out.trans HST.out.2⟩
end
end Go.Proofs.YtpinoolagbghnaaDoor

namespace Go.Proofs.YtpinoolagbghnaaDoor
set_option linter.unusedVariables false
open Go.RowKit Pat

namespace Pat
theorem itemAt_sgn {p : ByteArray} {r r' : Rd} {it : It} (h : itemAt p r = some (it, r')) (hk : it.kind = 0) : it.sign = 0 ∨ it.sign = 42 ∨ it.sign = 43 ∨ it.sign = 45 ∨ it.sign = 63 := by
  unfold itemAt at h
  simp only [] at h
  split at h
  · split at h
    all_goals
      simp only [Option.some.injEq, Prod.mk.injEq] at h
      obtain ⟨rfl, rfl⟩ := h
      cases hk
  · split at h
    · split at h
      · cases h
      · simp only [Option.some.injEq, Prod.mk.injEq] at h
        obtain ⟨rfl, rfl⟩ := h
        cases hk
    · split at h
      · split at h
        · cases h
        · simp only [Option.some.injEq, Prod.mk.injEq] at h
          obtain ⟨rfl, rfl⟩ := h
          cases hk
      · split at h
        · split at h
          · simp only [Option.some.injEq, Prod.mk.injEq] at h
            obtain ⟨rfl, rfl⟩ := h
            cases hk
          · cases h
        · split at h
          · split at h
            · split at h
              · cases h
              · simp only [Option.some.injEq, Prod.mk.injEq] at h
                obtain ⟨rfl, rfl⟩ := h
                cases hk
            · cases h
          · split at h
            · simp only [Option.some.injEq, Prod.mk.injEq] at h
              obtain ⟨rfl, rfl⟩ := h
              cases hk
            · split at h
              · cases h
              · rename_i f j hs
                split at h
                · rename_i hsg
                  simp only [Option.some.injEq, Prod.mk.injEq] at h
                  obtain ⟨rfl, rfl⟩ := h
                  unfold signAt at hsg
                  simp at hsg
                  have := hsg.2
                  dsimp only
                  omega
                · simp only [Option.some.injEq, Prod.mk.injEq] at h
                  obtain ⟨rfl, rfl⟩ := h
                  exact Or.inl rfl
theorem parse_sgn {p : ByteArray} {P : Pt} (h : parse p = some P) : SgnOk P.items := by
  unfold parse at h
  split at h
  · cases h
  · split at h
    · cases h
    · rename_i l r hg
      split at h
      · cases h
      · simp only [Option.some.injEq] at h
        subst h
        exact itemsGo_ind (fun r l => SgnOk l) (fun r l it r' h1 h2 h3 => by
          intro x hx hk
          simp only [List.mem_append, List.mem_singleton] at hx
          rcases hx with hx | rfl
          · exact h1 x hx hk
          · exact itemAt_sgn h3 hk) (by intro x hx; simp at hx) hg
end Pat
end Go.Proofs.YtpinoolagbghnaaDoor

namespace Go.Proofs.YtpinoolagbghnaaDoor
set_option linter.unusedVariables false
open Go.RowKit Pat

section
variable {lo B m pc st : Nat} {s r p : ByteArray} {vi : Value} {P : Pt} {gs : List Nat} {w w' : World}
theorem Q0.gk (h : Q0 lo w m pc s vi P gs st) {S : List Nat} (hk : GKeep B S w w') (hS : ∀ k ∈ S, ∃ c t z, w.heap[k]? = some (.cells c t z) ∧ t ≠ 52 ∧ t ≠ 49 ∧ t ≠ 77 ∧ t ≠ 82) : Q0 lo w' m pc s vi P gs st := by
  obtain ⟨a, n, k, hm⟩ := h.blk
  have hpb : w.heap[pc]? = some (.cells #[.bool P.start, vi, .int .i64 P.caps] 49 (0, 0)) := h.pat
  have key : ∀ (b : Nat) (c0 : Array Value) (t : TypeId) (z : Nat × Nat), w.heap[b]? = some (.cells c0 t z) → (t = 52 ∨ t = 49 ∨ t = 77 ∨ t = 82) → w'.heap[b]? = some (.cells c0 t z) := fun b c0 t z hb ht => hk.blk hb (fun hmem => by
    obtain ⟨c1, t1, z1, h1, h2, h3, h4, h5⟩ := hS b hmem
    rw [hb] at h1
    simp only [Option.some.injEq, Obj.cells.injEq] at h1
    obtain ⟨_, rfl, _⟩ := h1
    rcases ht with ht | ht | ht | ht
    · exact h2 ht
    · exact h3 ht
    · exact h4 ht
    · exact h5 ht) (by rcases ht with rfl | rfl | rfl | rfl <;> decide)
  refine ⟨⟨a, n, k, key _ _ _ _ hm (by simp)⟩, key _ _ _ _ hpb (by simp), ?_, h.len, fun j it g h1 h2 h3 => ?_⟩
  · refine ⟨h.it.1, ?_⟩
    rcases h.it.2 with hn | ⟨g', cap', cur, h1, h2, h3, h4⟩
    · exact Or.inl hn
    · exact Or.inr ⟨g', cap', cur, h1, h2, key _ _ _ _ h3 (by simp), h4⟩
  · obtain ⟨x, y⟩ := h.sets j it g h1 h2 h3
    obtain ⟨c0, hc0⟩ := row_blk y
    exact ⟨x, World.rowIs.of_block y ((key _ _ _ _ hc0 (by simp)).trans hc0.symm)⟩

theorem mtRow_rowIs {cb : Nat} {c : Cap} (h : w.rowIs cb 69 (P.caps * 3) (capAt c)) : MtRow w 0 (some ⟨cb, 0, none⟩) (viewI P.caps c) := fun hn => by
  obtain ⟨cs, h1, h2, h3⟩ := h
  refine ⟨cb, cs, rfl, Nat.zero_le _, h1, fun k b f t hk => ?_⟩
  have hlt : k < P.caps := by
    have := (List.getElem?_eq_some_iff.1 hk).1
    rwa [viewI_len] at this
  rw [viewI_at c hlt] at hk
  simp only [Option.some.injEq, Prod.mk.injEq] at hk
  obtain ⟨rfl, rfl, rfl⟩ := hk
  obtain ⟨a0, a1, a2⟩ := capAt3 c k
  exact ⟨(h3 _ (by omega)).trans (congrArg some a0), (h3 _ (by omega)).trans (congrArg some a1), (h3 _ (by omega)).trans (congrArg some a2)⟩
end

/-- How the matches so far stand to all. -/
def RR (s r : ByteArray) (caps : Nat) (R0 Rc : Option (Nat × List Mt)) (l : List UInt8) (at_ n : Nat) : Prop :=
  (R0 = none ∧ Rc = none) ∨ ∃ st2 l0 lc, R0 = some (st2, l0) ∧ Rc = some (st2, lc) ∧ BufInv s r caps l at_ lc (fullP s r caps 0 l0) ∧ n + lc.length = l0.length
theorem RR.start (s r : ByteArray) (caps : Nat) (R0 : Option (Nat × List Mt)) : RR s r caps R0 R0 [] 0 0 := by
  cases R0 with
  | none => exact Or.inl ⟨rfl, rfl⟩
  | some x => exact Or.inr ⟨x.1, x.2, x.2, rfl, rfl, BufInv.start _, by omega⟩
theorem RR.none_ {s r : ByteArray} {caps : Nat} {R0 : Option (Nat × List Mt)} {l : List UInt8} {at_ n : Nat} (h : RR s r caps R0 none l at_ n) : R0 = none := by
  rcases h with h | ⟨_, _, _, _, h, _⟩
  · exact h.1
  · cases h
theorem RR.done {s r : ByteArray} {caps st : Nat} {R0 : Option (Nat × List Mt)} {l : List UInt8} {at_ n : Nat} (h : RR s r caps R0 (some (st, [])) l at_ n) : ∃ l0, R0 = some (st, l0) ∧ BufInv s r caps l at_ [] (fullP s r caps 0 l0) ∧ n = l0.length := by
  rcases h with ⟨_, h⟩ | ⟨st2, l0, lc, h1, h2, h3, h4⟩
  · cases h
  · simp only [Option.some.injEq, Prod.mk.injEq] at h2
    obtain ⟨rfl, rfl⟩ := h2
    exact ⟨l0, h1, h3, by simpa using h4⟩
theorem RR.next {s r : ByteArray} {caps : Nat} {R0 Rn : Option (Nat × List Mt)} {l : List UInt8} {at_ n : Nat} {mt : Mt} (h : RR s r caps R0 (Rn.map fun x => (x.1, mt :: x.2)) l at_ n) : RR s r caps R0 Rn (bufNext s r caps l at_ mt) mt.e (n + 1) := by
  rcases h with ⟨h1, h2⟩ | ⟨st2, l0, lc, h1, h2, h3, h4⟩
  · cases Rn with
    | none => exact Or.inl ⟨h1, rfl⟩
    | some x => cases h2
  · cases Rn with
    | none => cases h2
    | some x =>
      simp only [Option.map_some, Option.some.injEq, Prod.mk.injEq] at h2
      obtain ⟨rfl, rfl⟩ := h2
      refine Or.inr ⟨x.1, l0, x.2, h1, rfl, ?_, by simp at h4; omega⟩
      unfold bufNext
      split
      · rename_i hl; exact h3.short hl
      · rename_i hl; exact h3.long (by omega)

/-- What each leaves. -/
def EachPost (B b sv av mv rv nv m : Nat) (s r : ByteArray) (P : Pt) (R : Option (Nat × List Mt)) (w : World) (e : Ending) (w' : World) : Prop :=
  GKeep B [m, b, av, nv] w w' ∧ ((R = none ∧ e = .panicked [{ v := manyPanic, recovered := false }]) ∨
  ∃ st2 l0 buf at_, R = some (st2, l0) ∧ e = .returned (.tuple #[]) ∧ GV B b sv av mv rv nv m s r buf at_ l0.length w' ∧ BufInv s r P.caps buf at_ [] (fullP s r P.caps 0 l0) ∧ at_ ≤ s.size ∧ l0.length ≤ s.size + 1 ∧ buf.length ≤ 68744773632)

section
variable {lo B b sv av mv rv nv m pc : Nat} {s r p : ByteArray} {vi : Value} {P : Pt} {gs : List Nat} {w : World}
set_option maxRecDepth 100000 in
set_option maxHeartbeats 4000000 in
theorem each_any (most : Int) (hmost : most ≤ 9223372036854775807 ∧ -9223372036854775808 ≤ most) (hp : parse p = some P) (hs : s.size ≤ 65536) (hr : r.size ≤ 1048576) (hok : okP r P.caps (r.size + 1) 0 = true)
    (hQ : Q0 lo w m pc s vi P gs 0) (hG : GV B b sv av mv rv nv m s r [] 0 0 w) (hbav : B ≤ av ∧ B ≤ nv ∧ B ≤ b) (hBm : B ≤ m) (htab : Lib.TabBelow Tryd.prog B w "internal/strconv.uint64pow10" .u64 Lib.pow10Tab) :
    Calls Tryd.prog 14 #[.pointer (some ⟨m, 0, none⟩), .int .i64 most, .func (Fn.func 15) #[] #[.pointer (some ⟨b, 0, none⟩), .pointer (some ⟨sv, 0, none⟩), .pointer (some ⟨av, 0, none⟩), .pointer (some ⟨mv, 0, none⟩), .pointer (some ⟨rv, 0, none⟩), .pointer (some ⟨nv, 0, none⟩)]] w fun e w' =>
      EachPost B b sv av mv rv nv m s r P (allP s P (s.size + 1) 0 most 0) w e w' := by
  obtain ⟨dn2, hwf, hdn, hcp, hstart, hil, hps⟩ := parse_wf hp
  have hsgn := parse_sgn hp
  obtain ⟨R, hR⟩ : ∃ R, allP s P (s.size + 1) 0 most 0 = R := ⟨_, rfl⟩
  rw [hR]
  have HR := hid hR
  have HG := hid hG
  have HQ := hid hQ
  clear hR hG hQ
  go_enter Tryd.func14, Tryd.ntmps14
  go_wp2_with fail
  go_loopw [1, 6] (fun v1 v6 wr => ∃ (i st at_ n fu : Nat) (l : List UInt8) (z : Int), v6 = .int .i64 (i : Nat) ∧ i ≤ s.size + 1 ∧ v1 = .int .i64 z ∧ Hid (z = most - n) ∧ (z ≤ 9223372036854775807 ∧ -9223372036854775808 ≤ z) ∧ at_ ≤ i ∧ at_ ≤ s.size ∧ n ≤ i ∧ st ≤ 50000 ∧ Q0 lo wr m pc s vi P gs st ∧ GV B b sv av mv rv nv m s r l at_ n wr ∧
    GKeep B [m, b, av, nv] w wr ∧ l.length ≤ 68744708096 + at_ ∧ Hid (s.size < fu + i ∧ RR s r P.caps R (allP s P fu i z st) l at_ n)) (fun _ v6 _ => s.size + 2 - (intOf v6).toNat)
  case atStart =>
    refine ⟨0, 0, 0, 0, s.size + 1, [], most, rfl, by omega, rfl, hid (by omega), ⟨hmost.1, hmost.2⟩, by omega, by omega, by omega, by omega, HQ.out, HG.out, GKeep.refl _ _ _, by simp, hid ⟨by omega, ?_⟩⟩
    rw [HR.out]; exact RR.start _ _ _ _
  case round =>
    obtain ⟨i, st, at_, n, fu, l, z, rfl, hi, rfl, hz, hzI, hati, hats, hni, hst, hQ, hGV, hGK, hll, HRR⟩ := hrel
    obtain ⟨ma, mn, mk, hmb⟩ := hQ.blk
    have e1 := blk_cell hmb 1
    have HMB := hid hmb
    have HQ1 := hid hQ
    have HG1 := hid hGV
    have HK1 := hid hGK
    have hiI : (0 : Int) ≤ i ∧ (i : Int) ≤ 65537 := by omega
    have hml := blk_lt hmb
    clear hQ hGV hGK hmb
    by_cases hgo : i ≤ s.size ∧ 0 < z
    · obtain ⟨h1, h2⟩ := hgo
      have d1 : decide (i ≤ s.size) = true := decide_eq_true h1
      have d1I : decide ((i : Int) ≤ s.size) = true := decide_eq_true (by omega)
      have d2 : decide (0 < z) = true := decide_eq_true h2
      obtain ⟨fu', rfl⟩ : ∃ x, fu = x + 1 := ⟨fu - 1, by have := HRR.out.1; omega⟩
      go_wp2_with fail
      refine (from_any i hs (by omega) hcp hdn hwf hsgn h1 hst HQ1.out).mono ?_
      rintro e w2 ⟨hk2, hcase⟩
      have hgv2 : GV B b sv av mv rv nv m s r l at_ n w2 := HG1.out.keeps hk2 (Nat.le_refl _) (fun k hk => by simp only [List.mem_singleton] at hk; subst hk; exact ⟨_, _, _, HMB.out, by decide, by decide, by decide, by decide, by decide⟩)
      have hgk2 : GKeep B [m, b, av, nv] w w2 := HK1.out.trans (GKeep.of_keeps hk2 (Nat.le_refl _) (by simp))
      have HG2 := hid hgv2
      have HK2 := hid hgk2
      clear hk2 hgv2 hgk2 e1
      rcases hcase with ⟨hRn, rfl⟩ | ⟨st2, hRn, hQ2, hs2, rfl⟩ | ⟨st2, a, e2, c, cb, hRn, hQ2, hs2, ha1, he1, hcb, hrow, rfl⟩
      · have HEND : Hid (R = none) := hid (by
          have h := HRR.out.2
          rw [al_none (by omega) hRn] at h
          exact h.none_)
        clear hRn
        go_wp2_with fail
        exact ⟨rfl, HK2.out, Or.inl ⟨HEND.out, rfl⟩⟩
      · have HEND := hid (by have h := HRR.out.2; rw [al_stop (by omega) hRn] at h; exact h.done)
        have hkA : Keeps w2.heap.size [] w2 (w2.alloc (.cells #[.int .i64 0, .int .i64 0, .slice none 0 0] 32)) := (Keeps.refl _ _ _).alloc (Nat.le_refl _) _
        have HG3 := hid (HG2.out.keeps hkA (Nat.le_refl _) (by simp))
        have HK3 := hid (HK2.out.trans (GKeep.of_keeps (S := [m, b, av, nv]) hkA (Nat.le_refl _) (by simp)))
        clear hRn hkA hQ2
        go_wp2_with fail
        go_end0
        obtain ⟨l0, a1, a2, a3⟩ := HEND.out
        exact ⟨HK3.out, Or.inr ⟨st2, l0, l, at_, a1, rfl, by rw [← a3]; exact HG3.out, a2, hats, by omega, by omega⟩⟩
      · obtain ⟨hmok, hia⟩ := mt_ok hp hRn
        have hae := hmok.ae
        dsimp only at hae
        have HRN : Hid (s.size < fu' + (if e2 = a then e2 + 1 else e2) ∧ RR s r P.caps R (allP s P fu' (if e2 = a then e2 + 1 else e2) (z - 1) st2) (bufNext s r P.caps l at_ ⟨a, e2, viewI P.caps c⟩) e2 (n + 1)) := hid ⟨by
          have := HRR.out.1
          split <;> omega, by
          have h := HRR.out.2
          rw [al_hit (by omega) hRn] at h
          exact h.next⟩
        obtain ⟨W, hW⟩ : ∃ W, W = w2.alloc (.cells #[.int .i64 a, .int .i64 e2, .slice (some ⟨cb, 0, none⟩) P.caps P.caps] 32) := ⟨_, rfl⟩
        have hkW : Keeps w2.heap.size [] w2 W := by rw [hW]; exact (Keeps.refl _ _ _).alloc (Nat.le_refl _) _
        have hbW : W.heap[w2.heap.size]? = some (.cells #[.int .i64 a, .int .i64 e2, .slice (some ⟨cb, 0, none⟩) P.caps P.caps] 32 (0, 0)) := by rw [hW]; exact blk_new _ _
        have HG3 := hid (HG2.out.keeps hkW (Nat.le_refl _) (by simp))
        have HQ3 := hid (hQ2.off hkW (by simp))
        have HK3 := hid (HK2.out.trans (GKeep.of_keeps (S := [m, b, av, nv]) hkW (Nat.le_refl _) (by simp)))
        have HROW3 := hid ((mtRow_rowIs hrow).keeps hkW (Nat.le_refl _) (by simp) (Nat.le_refl _))
        have HBW := hid hbW
        have HW := hid hW
        obtain ⟨ma3, mn3, mk3, hm3⟩ := HQ3.out.blk
        have hT3 : Lib.TabBelow Tryd.prog B W "internal/strconv.uint64pow10" .u64 Lib.pow10Tab := fun w' hb => htab w' ((HK3.out.below (fun k hk => by
          simp only [List.mem_cons, List.not_mem_nil, or_false] at hk
          rcases hk with rfl | rfl | rfl | rfl
          · exact hBm
          · exact hbav.2.2
          · exact hbav.1
          · exact hbav.2.1) HG.out.low).trans hb)
        have hcl := gs11_any (mt := ⟨a, e2, viewI P.caps c⟩) (ca := P.caps) (aa := some ⟨cb, 0, none⟩) hs hr (by dsimp only; rw [viewI_len]; exact hcp) (by dsimp only; rw [viewI_len]; exact hmok) (by dsimp only; rw [viewI_len]; exact hok) hm3 rfl HROW3.out (by dsimp only; omega) HG3.out (by omega) (by omega) hT3
        dsimp only at hcl
        rw [viewI_len] at hcl
        have HCL := hid hcl
        have HMOK := hid hmok
        clear hRn hW hkW hrow hQ2 hmok hcl hm3 hT3
        obtain ⟨f0, f1, f2⟩ := box_facts hbW
        have hes : (0 : Int) ≤ e2 ∧ (e2 : Int) ≤ 65536 := by omega
        go_upto_region 4 with fail
        rw [← HW.out]
        go_wp2_with fail
        refine HCL.out.mono ?_
        rintro e w4 ⟨rfl, hg4, hk4⟩
        have HG4 := hid hg4
        have HK4 := hid (HK3.out.trans ⟨hk4.1, hk4.2.1, hk4.2.2.1, hk4.2.2.2.1, fun k o h1 h2 h3 => hk4.2.2.2.2 k o h1 (fun hm => h2 (List.mem_cons_of_mem _ hm)) h3⟩ : GKeep B [m, b, av, nv] w w4)
        have hbt : ∀ k ∈ [b, av, nv], ∃ c t z, W.heap[k]? = some (.cells c t z) ∧ (t = 55 ∨ t = 3) := fun k hk => by
          simp only [List.mem_cons, List.not_mem_nil, or_false] at hk
          rcases hk with rfl | rfl | rfl
          · obtain ⟨_, c', h5⟩ := HG3.out.bu.blk; exact ⟨_, _, _, h5, Or.inl rfl⟩
          · exact ⟨_, _, _, HG3.out.hav, Or.inr rfl⟩
          · exact ⟨_, _, _, HG3.out.hnv, Or.inr rfl⟩
        have HQ4 := hid (HQ3.out.gk hk4 (fun k hk => by
          obtain ⟨c5, t5, z5, h5, h6⟩ := hbt k hk
          refine ⟨c5, t5, z5, h5, ?_⟩
          rcases h6 with rfl | rfl <;> exact ⟨by decide, by decide, by decide, by decide⟩))
        have hb4 : w4.heap[w2.heap.size]? = some (.cells #[.int .i64 a, .int .i64 e2, .slice (some ⟨cb, 0, none⟩) P.caps P.caps] 32 (0, 0)) := hk4.blk HBW.out (fun hm => by
          obtain ⟨c5, t5, z5, h5, h6⟩ := hbt _ hm
          rw [HBW.out] at h5
          simp only [Option.some.injEq, Obj.cells.injEq] at h5
          obtain ⟨_, rfl, _⟩ := h5
          rcases h6 with h6 | h6 <;> exact absurd h6 (by decide)) (by decide)
        have hbn : (bufNext s r P.caps l at_ ⟨a, e2, viewI P.caps c⟩).length ≤ 68744708096 + e2 := by
          have hf := fill_len (s := s) (r := r) (caps := P.caps) (m := ⟨a, e2, viewI P.caps c⟩) hs HMOK.out (r.size + 1) 0
          have hsub : (sub s at_ a).length = a - at_ := sub_len_eq (by omega) (by omega)
          unfold bufNext
          dsimp only
          split
          · rename_i h5
            rw [List.length_append] at h5 ⊢
            rw [List.length_append]
            omega
          · rw [List.length_append, hsub]
            omega
        clear hg4 hk4 f0 f1 f2 hbW hbt HG3 HQ3 HK3 HROW3
        obtain ⟨f0, f1, f2⟩ := box_facts hb4
        by_cases hee : e2 = a
        · have z1 : ((e2 : Int) == (a : Int)) = true := by rw [hee]; simp
          have HEE := hid hee
          clear hee
          go_wp2_with fail
          go_roundw
          case rel =>
            refine ⟨e2 + 1, st2, e2, n + 1, fu', bufNext s r P.caps l at_ ⟨a, e2, viewI P.caps c⟩, z - 1, by go_num, by omega, by go_num, hid (by have := hz.out; omega), by omega, by omega, by omega, by omega, hs2, HQ4.out, HG4.out, HK4.out, hbn, hid ?_⟩
            have h5 := HRN.out
            rw [if_pos HEE.out] at h5
            exact h5
          case measure => simp [intOf]; omega
        · have z1 : ((e2 : Int) == (a : Int)) = false := by simp; omega
          have HEE := hid hee
          clear hee
          go_wp2_with fail
          go_roundw
          case rel =>
            refine ⟨e2, st2, e2, n + 1, fu', bufNext s r P.caps l at_ ⟨a, e2, viewI P.caps c⟩, z - 1, by go_num, by omega, by go_num, hid (by have := hz.out; omega), by omega, by omega, by omega, by have := HEE.out; omega, hs2, HQ4.out, HG4.out, HK4.out, hbn, hid ?_⟩
            have h5 := HRN.out
            rw [if_neg HEE.out] at h5
            exact h5
          case measure => have := HEE.out; simp [intOf]; omega
    · have HEND := hid (by have h := HRR.out.2; rw [al_end (by omega)] at h; exact h.done)
      by_cases h1 : i ≤ s.size
      · have d1 : decide (i ≤ s.size) = true := decide_eq_true h1
        have d1I : decide ((i : Int) ≤ s.size) = true := decide_eq_true (by omega)
        have d2 : decide (0 < z) = false := decide_eq_false (fun h => hgo ⟨h1, h⟩)
        clear hgo
        go_wp2_with fail
        go_end0
        obtain ⟨l0, a1, a2, a3⟩ := HEND.out
        exact ⟨HK1.out, Or.inr ⟨st, l0, l, at_, a1, rfl, by rw [← a3]; exact HG1.out, a2, hats, by omega, by omega⟩⟩
      · have d1 : decide (i ≤ s.size) = false := decide_eq_false h1
        have d1I : decide ((i : Int) ≤ s.size) = false := decide_eq_false (by omega)
        clear hgo
        go_wp2_with fail
        go_end0
        obtain ⟨l0, a1, a2, a3⟩ := HEND.out
        exact ⟨HK1.out, Or.inr ⟨st, l0, l, at_, a1, rfl, by rw [← a3]; exact HG1.out, a2, hats, by omega, by omega⟩⟩
end
end Go.Proofs.YtpinoolagbghnaaDoor
