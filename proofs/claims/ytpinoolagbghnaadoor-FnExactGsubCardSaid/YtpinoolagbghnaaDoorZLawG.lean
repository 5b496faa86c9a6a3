/-
  Walk: the program's inSteps: a panic of too many steps is caught.
  Walk: the program's inSteps at a function that may panic of too many steps.
  Walk: Gsub's search behind inSteps.
  Walk: the program's Gsub comes to the plain word gsubP.
  Walk: the law FnExactGsub returns true.
-/
import Derived.Test.YtpinoolagbghnaaDoorZQF
import Derived.Defers
import Derived.Recover
import Derived.Laws.Pointers
import Derived.Test.YtpinoolagbghnaaDoorZEach
import Derived.Test.YtpinoolagbghnaaDoorZRepOk
import Derived.Test.YtpinoolagbghnaaDoorZGsubS
import Derived.Test.YtpinoolagbghnaaDoorZPatZ
namespace Go.Proofs.YtpinoolagbghnaaDoor
set_option linter.unusedVariables false
open Go.RowKit Pat

set_option maxHeartbeats 1000000 in
theorem catch_many (b : Nat) (x : Bool) (w : World) (hc : w.cell? ⟨b, 0, none⟩ = some (.bool x)) (hz : w.frozen? ⟨b, 0, none⟩ = false) (hl : b < w.heap.size) :
    CallsD Tryd.prog 28 #[.pointer (some ⟨b, 0, none⟩)] (.panicking ({ v := manyPanic, recovered := false } :: [])) w fun e u' w' =>
      e = .returned (.tuple #[]) ∧ u' = .panicking ({ v := manyPanic, recovered := true } :: []) ∧ w' = (w.setCell ⟨b, 0, none⟩ (.bool false)).alloc (.cells #[] 86) := by
  have hta : ∀ w : World, (Instr.typeAssert (.iface 86 (.agg #[])) 20 86 true).run Tryd.prog w = .ok (.tuple #[.agg #[], .bool true]) w := fun w => by kernel_rfl
  have hz0 : ∀ w : World, (zeroValue 86).run Tryd.prog w = .ok (.agg #[]) w := fun w => by kernel_rfl
  unfold manyPanic
  refine callsD_of_wpS Tryd.func28 rfl fun c₀ cs hu => ?_
  apply wpS_seq
  apply wpS_region
  simp [wpOpsS, go_sem, recoverD, hu, Tryd.ntmps28, Exit.thenS]
  refine wpS_of_wp ?_
  go_wp2_with fail
  cases c₀
  simp_all [bodyPostS, results, Tryd.results28]

theorem catch_none (p : Addr) (w : World) :
    CallsD Tryd.prog 28 #[.pointer (some p)] .returning w fun e u' w' => e = .returned (.tuple #[]) ∧ u' = .returning ∧ w' = w := by
  refine callsD_of_wpS Tryd.func28 rfl fun c₀ cs hu => ?_
  apply wpS_seq
  apply wpS_region
  simp [wpOpsS, go_sem, recoverD, hu, Tryd.ntmps28, Exit.thenS]
  refine wpS_of_wp ?_
  go_wp2_with fail
  cases c₀
  simp_all [bodyPostS, results, Tryd.results28]
end Go.Proofs.YtpinoolagbghnaaDoor

namespace Go.Proofs.YtpinoolagbghnaaDoor
set_option linter.unusedVariables false
open Go.RowKit Pat

set_option maxRecDepth 100000 in
set_option maxHeartbeats 2000000 in
theorem inSteps_any (cargs : Array Value) (w : World) (Pr : Ending → World → Prop)
    (hC : Calls Tryd.prog 13 cargs (w.alloc (.cells #[.bool false] 4)) Pr)
    (hP : ∀ e w', Pr e w' → (e = .panicked [{ v := manyPanic, recovered := false }] ∨ e = .returned (.tuple #[])) ∧ w'.heap[w.heap.size]? = some (.cells #[.bool false] 4 (0, 0))) :
    Calls Tryd.prog 12 #[.func (Fn.func 13) #[] cargs] w fun e w' => ∃ w1,
      (Pr (.panicked [{ v := manyPanic, recovered := false }]) w1 ∧ e = .returned (.bool false) ∧ w' = (w1.setCell ⟨w.heap.size, 0, none⟩ (.bool false)).alloc (.cells #[] 86)) ∨
      (Pr (.returned (.tuple #[])) w1 ∧ e = .returned (.bool true) ∧ w' = w1.setCell ⟨w.heap.size, 0, none⟩ (.bool true)) := by
  have hmf : ∀ (fn : Fn) (first cap : Array Value) (w : World), (Instr.makeFunc fn first cap).run Tryd.prog w = .ok (.func fn first cap) w := fun _ _ _ _ => rfl
  go_enter_defers Tryd.func12, Tryd.ntmps12
  go_wp2_with fail
  refine hC.mono ?_
  intro e w1 hPr
  obtain ⟨he, hb⟩ := hP e w1 hPr
  have b0 := blk_cell hb 0
  have g0 := blk_free hb 0
  have hl := blk_lt hb
  rcases he with rfl | rfl
  · go_wp2_with fail
    refine leaves_cons (f := 28) (args := #[.pointer (some ⟨w.heap.size, 0, none⟩)]) (by simp) (by simp [go_sem]) ?_
    refine (catch_many w.heap.size false _ b0 g0 hl).mono ?_
    rintro e u' w'' ⟨rfl, rfl, rfl⟩
    have hc : ((w1.setCell ⟨w.heap.size, 0, none⟩ (.bool false)).alloc (.cells #[] 86)).cell? ⟨w.heap.size, 0, none⟩ = some (.bool false) := blk_cell (blk_alloc (blk_set hb 0 (.bool false)) _) 0
    simp [Leaves, settle, results, Tryd.results12, go_sem, b0, hl]
    exact ⟨w1, hPr, rfl⟩
  · go_wp2_with fail
    refine leaves_cons (f := 28) (args := #[.pointer (some ⟨w.heap.size, 0, none⟩)]) (by simp) (by simp [go_sem]) ?_
    refine (catch_none ⟨w.heap.size, 0, none⟩ _).mono ?_
    rintro e u' w'' ⟨rfl, rfl, rfl⟩
    have hc : (w1.setCell ⟨w.heap.size, 0, none⟩ (.bool true)).cell? ⟨w.heap.size, 0, none⟩ = some (.bool true) := blk_cell (blk_set hb 0 (.bool true)) 0
    simp [Leaves, settle, results, Tryd.results12, go_sem, b0]
    exact ⟨w1, hPr, rfl⟩

section
variable {lo B b sv av mv rv nv m pc mo : Nat} {s r p : ByteArray} {vi : Value} {P : Pt} {gs : List Nat} {w : World}
set_option maxRecDepth 100000 in
set_option maxHeartbeats 2000000 in
theorem gs1_any (most : Int) (R : Option (Nat × List Mt)) (hG : GV B b sv av mv rv nv m s r [] 0 0 w) (hmo : w.cell? ⟨mo, 0, none⟩ = some (.int .i64 most))
    (hE : Calls Tryd.prog 14 #[.pointer (some ⟨m, 0, none⟩), .int .i64 most, .func (Fn.func 15) #[] #[.pointer (some ⟨b, 0, none⟩), .pointer (some ⟨sv, 0, none⟩), .pointer (some ⟨av, 0, none⟩), .pointer (some ⟨mv, 0, none⟩), .pointer (some ⟨rv, 0, none⟩), .pointer (some ⟨nv, 0, none⟩)]] w fun e w' => EachPost B b sv av mv rv nv m s r P R w e w') :
    Calls Tryd.prog 13 #[.pointer (some ⟨mv, 0, none⟩), .pointer (some ⟨mo, 0, none⟩), .pointer (some ⟨b, 0, none⟩), .pointer (some ⟨sv, 0, none⟩), .pointer (some ⟨av, 0, none⟩), .pointer (some ⟨rv, 0, none⟩), .pointer (some ⟨nv, 0, none⟩)] w fun e w' =>
      EachPost B b sv av mv rv nv m s r P R w e w' := by
  have hmf : ∀ (fn : Fn) (first cap : Array Value) (w : World), (Instr.makeFunc fn first cap).run Tryd.prog w = .ok (.func fn first cap) w := fun _ _ _ _ => rfl
  obtain ⟨c0, c1, c2, c3, c4, g1, g2⟩ := hG.cells
  have HE := hid hE
  clear hE hG
  go_enter Tryd.func13, Tryd.ntmps13
  go_wp2_with fail
  refine HE.out.mono ?_
  rintro e w2 ⟨hk, ⟨h1, rfl⟩ | ⟨st2, l0, buf, at_, h1, rfl, h2⟩⟩
  · have H1 := hid h1
    clear h1
    go_wp2_with fail
    exact ⟨rfl, hk, Or.inl ⟨H1.out, rfl⟩⟩
  · have H1 := hid h1
    have H2 := hid h2
    clear h1 h2
    go_wp2_with fail
    go_end0
    exact ⟨hk, Or.inr ⟨st2, l0, buf, at_, H1.out, rfl, H2.out⟩⟩
end
end Go.Proofs.YtpinoolagbghnaaDoor

namespace Go.Proofs.YtpinoolagbghnaaDoor
set_option linter.unusedVariables false
open Go.RowKit Pat

theorem bstring_any {B b nv n : Nat} {l : List UInt8} {w : World} (h : Bu B b l w) (hn : w.heap[nv]? = some (.cells #[.int .i64 n] 3 (0, 0))) (hBw : B ≤ w.heap.size) :
    Calls Tryd.prog 19 #[.pointer (some ⟨b, 0, none⟩)] w fun e w' => e = .returned (.string ⟨l.toArray⟩) ∧ w'.cell? ⟨nv, 0, none⟩ = some (.int .i64 n) ∧ Below B w w' := by
  refine (Tryd.Builder_String_any_k B b l w (Lib.IsBuilderF.of h) hBw).mono ?_
  rintro e w' ⟨rfl, _, hb, hk⟩
  refine ⟨rfl, ?_, hb⟩
  obtain ⟨_, c', hb'⟩ := h.blk
  have hne : nv ≠ b := fun e => by
    subst e
    rw [hn] at hb'
    simp only [Option.some.injEq, Obj.cells.injEq] at hb'
    exact absurd hb'.2.1 (by decide)
  have := hk nv (.cells #[.int .i64 n] 3 (0, 0)) hn (by simpa using hne) (by simp)
  exact blk_cell this 0

/-- The world in which Gsub's search begins. -/
def gW (w1 : World) (pc : Nat) (s : ByteArray) : World :=
  (((((w1.alloc (.cells #[.pointer (some ⟨pc, 0, none⟩), .string s, .int .i64 0, .slice none 0 0] 52)).alloc (.cells #[.pointer (some ⟨w1.heap.size, 0, none⟩)] 50)).alloc (.cells #[.pointer none, .slice none 0 0] 55)).alloc (.cells #[.int .i64 0] 3)).alloc (.cells #[.int .i64 0] 3)).drew

section
variable {w w1 : World} {pc : Nat} {s r p : ByteArray}
theorem gW_size : (gW w1 pc s).heap.size = w1.heap.size + 5 := by
  show (((((w1.alloc _).alloc _).alloc _).alloc _).alloc _).heap.size = _
  simp only [World.size_alloc]
theorem gW_keeps : Keeps w1.heap.size [] w1 (gW w1 pc s) := by
  unfold gW
  exact ((((((Keeps.refl _ _ _).alloc (Nat.le_refl _) _).alloc (by simp only [World.size_alloc]; omega) _).alloc (by simp only [World.size_alloc]; omega) _).alloc (by simp only [World.size_alloc]; omega) _).alloc (by simp only [World.size_alloc]; omega) _).drew
theorem gW_m : (gW w1 pc s).heap[w1.heap.size]? = some (.cells #[.pointer (some ⟨pc, 0, none⟩), .string s, .int .i64 0, .slice none 0 0] 52 (0, 0)) :=
  blk_alloc (blk_alloc (blk_alloc (blk_alloc (blk_new w1 _) _) _) _) _
theorem gW_mv : (gW w1 pc s).heap[w1.heap.size + 1]? = some (.cells #[.pointer (some ⟨w1.heap.size, 0, none⟩)] 50 (0, 0)) := by
  have h := blk_new (w1.alloc (.cells #[.pointer (some ⟨pc, 0, none⟩), .string s, .int .i64 0, .slice none 0 0] 52)) (.cells #[.pointer (some ⟨w1.heap.size, 0, none⟩)] 50)
  rw [World.size_alloc] at h
  exact blk_alloc (blk_alloc (blk_alloc h _) _) _
theorem gW_b : (gW w1 pc s).heap[w1.heap.size + 1 + 1]? = some (.cells #[.pointer none, .slice none 0 0] 55 (0, 0)) := by
  have h := blk_new ((w1.alloc (.cells #[.pointer (some ⟨pc, 0, none⟩), .string s, .int .i64 0, .slice none 0 0] 52)).alloc (.cells #[.pointer (some ⟨w1.heap.size, 0, none⟩)] 50)) (.cells #[.pointer none, .slice none 0 0] 55)
  rw [World.size_alloc, World.size_alloc] at h
  exact blk_alloc (blk_alloc h _) _
theorem gW_av : (gW w1 pc s).heap[w1.heap.size + 1 + 1 + 1]? = some (.cells #[.int .i64 0] 3 (0, 0)) := by
  have h := blk_new (((w1.alloc (.cells #[.pointer (some ⟨pc, 0, none⟩), .string s, .int .i64 0, .slice none 0 0] 52)).alloc (.cells #[.pointer (some ⟨w1.heap.size, 0, none⟩)] 50)).alloc (.cells #[.pointer none, .slice none 0 0] 55)) (.cells #[.int .i64 0] 3)
  rw [World.size_alloc, World.size_alloc, World.size_alloc] at h
  exact blk_alloc h _
theorem gW_nv : (gW w1 pc s).heap[w1.heap.size + 1 + 1 + 1 + 1]? = some (.cells #[.int .i64 0] 3 (0, 0)) := by
  have h := blk_new ((((w1.alloc (.cells #[.pointer (some ⟨pc, 0, none⟩), .string s, .int .i64 0, .slice none 0 0] 52)).alloc (.cells #[.pointer (some ⟨w1.heap.size, 0, none⟩)] 50)).alloc (.cells #[.pointer none, .slice none 0 0] 55)).alloc (.cells #[.int .i64 0] 3)) (.cells #[.int .i64 0] 3)
  rw [World.size_alloc, World.size_alloc, World.size_alloc, World.size_alloc] at h
  exact h

/-- What the search of Gsub's leaves, behind inSteps. -/
def RunPost (W : World) (M sv rv : Nat) (s r : ByteArray) (P : Pt) (R : Option (Nat × List Mt)) (e : Ending) (w' : World) : Prop :=
  Below M W w' ∧ ((R = none ∧ e = .returned (.bool false)) ∨
  ∃ st2 l0 buf at_, R = some (st2, l0) ∧ e = .returned (.bool true) ∧ GV M (M + 1 + 1) sv (M + 1 + 1 + 1) (M + 1) rv (M + 1 + 1 + 1 + 1) M s r buf at_ l0.length w' ∧ BufInv s r P.caps buf at_ [] (fullP s r P.caps 0 l0) ∧ at_ ≤ s.size ∧ l0.length ≤ s.size + 1 ∧ buf.length ≤ 68744773632)

set_option maxHeartbeats 1000000 in
theorem gsub_run {lo sv rv mo B0 : Nat} {vi : Value} {P : Pt} {gs : List Nat} (most : Int) (hmost : most ≤ 9223372036854775807 ∧ -9223372036854775808 ≤ most) (hr : r.size ≤ 1048576) (htab : Lib.TabBelow Tryd.prog B0 w "internal/strconv.uint64pow10" .u64 Lib.pow10Tab) (hp : parse p = some P) (hs : s.size ≤ 65536) (hok : okP r P.caps (r.size + 1) 0 = true)
    (hk : Keeps B0 [] w w1) (hB0 : B0 ≤ w.heap.size) (hpb : PBlk w1 pc P.start vi P.caps) (hit : PItemRow lo w1 vi P.items.length (pCells P.items gs)) (hlen : P.items.length = gs.length) (hsets : PSetsOk w1 lo P.items gs)
    (hsb : w1.heap[sv]? = some (.cells #[.string s] 9 (0, 0))) (hrb : w1.heap[rv]? = some (.cells #[.string r] 9 (0, 0))) (hob : w1.heap[mo]? = some (.cells #[.int .i64 most] 3 (0, 0))) :
    Calls Tryd.prog 12 #[.func (Fn.func 13) #[] #[.pointer (some ⟨w1.heap.size + 1, 0, none⟩), .pointer (some ⟨mo, 0, none⟩), .pointer (some ⟨w1.heap.size + 1 + 1, 0, none⟩), .pointer (some ⟨sv, 0, none⟩), .pointer (some ⟨w1.heap.size + 1 + 1 + 1, 0, none⟩), .pointer (some ⟨rv, 0, none⟩), .pointer (some ⟨w1.heap.size + 1 + 1 + 1 + 1, 0, none⟩)]] (gW w1 pc s) fun e w' =>
      RunPost (gW w1 pc s) w1.heap.size sv rv s r P (allP s P (s.size + 1) 0 most 0) e w' := by
  obtain ⟨W2, hW2⟩ : ∃ W2, W2 = gW w1 pc s := ⟨_, rfl⟩
  have hkW : Keeps w1.heap.size [] w1 W2 := by rw [hW2]; exact gW_keeps
  have hsz : W2.heap.size = w1.heap.size + 5 := by rw [hW2]; exact gW_size
  have hm := hW2 ▸ gW_m (w1 := w1) (pc := pc) (s := s)
  have hmv := hW2 ▸ gW_mv (w1 := w1) (pc := pc) (s := s)
  have hb := hW2 ▸ gW_b (w1 := w1) (pc := pc) (s := s)
  have hav := hW2 ▸ gW_av (w1 := w1) (pc := pc) (s := s)
  have hnv := hW2 ▸ gW_nv (w1 := w1) (pc := pc) (s := s)
  rw [← hW2]
  clear hW2
  obtain ⟨W3, hW3⟩ : ∃ W3, W3 = W2.alloc (.cells #[.bool false] 4) := ⟨_, rfl⟩
  have hk3 : Keeps W2.heap.size [] W2 W3 := by rw [hW3]; exact (Keeps.refl _ _ _).alloc (Nat.le_refl _) _
  have hkW3 : Keeps w1.heap.size [] w1 W3 := hkW.andThen hk3 hkW.size (by simp)
  have hok3 : W3.heap[W2.heap.size]? = some (.cells #[.bool false] 4 (0, 0)) := by rw [hW3]; exact blk_new _ _
  have key : ∀ {k : Nat} {o : Obj}, W2.heap[k]? = some o → W3.heap[k]? = some o := fun {k o} h => hk3.blk h (blk_lt h) (by simp)
  have key1 : ∀ {k : Nat} {o : Obj}, w1.heap[k]? = some o → W3.heap[k]? = some o := fun {k o} h => hkW3.blk h (blk_lt h) (by simp)
  have hQ : Q0 lo W3 w1.heap.size pc s vi P gs 0 := ⟨⟨_, _, _, key hm⟩, hkW3.blk hpb (blk_lt hpb) (by simp), own_keeps hit hkW3 (Nat.le_refl _) (fun _ _ => by simp), hlen, hsets.keeps hkW3 (Nat.le_refl _) (fun _ _ _ h => by simp at h)⟩
  have hbu : Bu w1.heap.size (w1.heap.size + 1 + 1) [] W3 := Or.inl ⟨by omega, .slice none 0 0, key hb, World.ownsRow_nil _ _ _ _, by simp [Value.ownBlock]⟩
  have hG : GV w1.heap.size (w1.heap.size + 1 + 1) sv (w1.heap.size + 1 + 1 + 1) (w1.heap.size + 1) rv (w1.heap.size + 1 + 1 + 1 + 1) w1.heap.size s r [] 0 0 W3 :=
    ⟨hbu, key1 hsb, key hav, key hmv, key1 hrb, key hnv, by omega, hkW3.size⟩
  have hB1 : B0 ≤ w1.heap.size := Nat.le_trans hB0 hk.size
  have hT : Lib.TabBelow Tryd.prog w1.heap.size W3 "internal/strconv.uint64pow10" .u64 Lib.pow10Tab := fun w' hb => htab w' ((hk.below.trans (hkW3.below.mono hB1)).trans (hb.mono hB1))
  have hE := each_any (w := W3) most hmost hp hs hr hok hQ hG (by omega) (Nat.le_refl _) hT
  have hC := gs1_any most _ hG (blk_cell (key1 hob) 0) hE
  have hP : ∀ e w', EachPost w1.heap.size (w1.heap.size + 1 + 1) sv (w1.heap.size + 1 + 1 + 1) (w1.heap.size + 1) rv (w1.heap.size + 1 + 1 + 1 + 1) w1.heap.size s r P (allP s P (s.size + 1) 0 most 0) W3 e w' →
      (e = .panicked [{ v := manyPanic, recovered := false }] ∨ e = .returned (.tuple #[])) ∧ w'.heap[W2.heap.size]? = some (.cells #[.bool false] 4 (0, 0)) := by
    rintro e w' ⟨hk, h⟩
    refine ⟨?_, hk.blk hok3 (by rw [hsz]; simp <;> omega) (by decide)⟩
    rcases h with ⟨_, h⟩ | ⟨_, _, _, _, _, h, _⟩
    · exact Or.inl h
    · exact Or.inr h
  rw [hW3] at hC hP hkW3 hk3
  refine (inSteps_any _ W2 _ hC hP).mono ?_
  have hbl : ∀ {w' : World}, GKeep w1.heap.size [w1.heap.size, w1.heap.size + 1 + 1, w1.heap.size + 1 + 1 + 1, w1.heap.size + 1 + 1 + 1 + 1] (W2.alloc (.cells #[.bool false] 4)) w' → Below w1.heap.size W2 w' := fun {w'} h =>
    (hk3.below.mono hkW.size).trans (h.below (by simp; omega) hkW3.size)
  rintro e w4 ⟨w5, ⟨hp1, rfl, rfl⟩ | ⟨hp1, rfl, rfl⟩⟩
  · obtain ⟨hk5, ⟨hRn, _⟩ | ⟨_, _, _, _, _, h, _⟩⟩ := hp1
    · exact ⟨((hbl hk5).setCell (p := ⟨W2.heap.size, 0, none⟩) hkW.size _).alloc (by rw [World.size_setCell]; exact Nat.le_trans hkW.size (hbl hk5).size) _, Or.inl ⟨hRn, rfl⟩⟩
    · cases h
  · have hokb := (hP _ _ hp1).2
    obtain ⟨hk5, ⟨_, h⟩ | ⟨st2, l0, buf, at_, h1, _, h2, h3, h4, h5, h6⟩⟩ := hp1
    · cases h
    · refine ⟨(hbl hk5).setCell (p := ⟨W2.heap.size, 0, none⟩) hkW.size _, Or.inr ⟨st2, l0, buf, at_, h1, rfl, ?_, h3, h4, h5, h6⟩⟩
      exact h2.keeps (keeps_set w5 ⟨W2.heap.size, 0, none⟩ _) (Nat.le_refl _) (fun k hk => by simp only [List.mem_singleton] at hk; subst hk; exact ⟨_, _, _, hokb, by decide, by decide, by decide, by decide, by decide⟩)
end

end Go.Proofs.YtpinoolagbghnaaDoor

namespace Go.Proofs.YtpinoolagbghnaaDoor
set_option linter.unusedVariables false
open Go.RowKit Pat

set_option maxRecDepth 100000 in
set_option maxHeartbeats 8000000 in
theorem gsubI_any {s p r : ByteArray} {w : World} (most : Int) (hmost : most ≤ 9223372036854775807 ∧ -9223372036854775808 ≤ most) (hr : r.size ≤ 1048576) (htab : Lib.TabIs Tryd.prog w "internal/strconv.uint64pow10" .u64 Lib.pow10Tab) :
    Calls Tryd.prog 5 #[.string s, .string p, .string r, .int .i64 most] w fun e w' => e = gEnd (gsubP s p r most) ∧ Below w.heap.size w w' := by
  have hmf : ∀ (fn : Fn) (first cap : Array Value) (w : World), (Instr.makeFunc fn first cap).run Tryd.prog w = .ok (.func fn first cap) w := fun _ _ _ _ => rfl
  obtain ⟨G, hG⟩ : ∃ G, gsubP s p r most = G := ⟨_, rfl⟩
  rw [hG]
  have HG := hid hG
  have HMOST := hid hmost
  have HTB := hid (Lib.tabBelow_of_tabIs htab)
  clear hG hmost htab
  obtain ⟨W0, hW0⟩ : ∃ W0, W0 = ((w.alloc (.cells #[.string s] 9)).alloc (.cells #[.string r] 9)).alloc (.cells #[.int .i64 most] 3) := ⟨_, rfl⟩
  have hk0 : Keeps w.heap.size [] w W0 := by rw [hW0]; exact (((Keeps.refl _ _ _).alloc (Nat.le_refl _) _).alloc (by simp) _).alloc (by simp; omega) _
  have hsb : W0.heap[w.heap.size]? = some (.cells #[.string s] 9 (0, 0)) := by rw [hW0]; exact blk_alloc (blk_alloc (blk_new w _) _) _
  have hrb : W0.heap[w.heap.size + 1]? = some (.cells #[.string r] 9 (0, 0)) := by
    rw [hW0]
    have := blk_new (w.alloc (.cells #[.string s] 9)) (.cells #[.string r] 9)
    rw [World.size_alloc] at this
    exact blk_alloc this _
  have hob : W0.heap[w.heap.size + 2]? = some (.cells #[.int .i64 most] 3 (0, 0)) := by
    rw [hW0]
    have := blk_new ((w.alloc (.cells #[.string s] 9)).alloc (.cells #[.string r] 9)) (.cells #[.int .i64 most] 3)
    rw [World.size_alloc, World.size_alloc] at this
    exact this
  have HW0 := hid hW0
  have s0 := blk_cell hsb 0
  clear hW0
  by_cases hs : 65536 < s.size
  · have hd : decide ((65536 : Int) < s.size) = true := decide_eq_true (by omega)
    have HE := hid (gEnd_of (HG.out.symm.trans (gs_large hs)))
    go_enter Tryd.func5, Tryd.ntmps5
    go_upto_region 1 with fail
    rw [← HW0.out]
    go_wp2_with fail
    refine bodyPost_ret (by simp [results, Tryd.results5, go_sem]) rfl ⟨HE.out.symm, hk0.below⟩
  have hd : decide ((65536 : Int) < s.size) = false := decide_eq_false (by omega)
  have hs' : s.size ≤ 65536 := by omega
  go_enter Tryd.func5, Tryd.ntmps5
  go_upto_region 1 with fail
  rw [← HW0.out]
  go_wp2_with fail
  refine (pattern_any p _).mono ?_
  rintro e w1 ⟨hk1, hno, hyes⟩
  have hk01 := hk0.andThen hk1 hk0.size (by simp)
  have hsb1 := hk1.blk hsb (blk_lt hsb) (by simp)
  have hrb1 := hk1.blk hrb (blk_lt hrb) (by simp)
  have hob1 := hk1.blk hob (blk_lt hob) (by simp)
  clear s0 hsb hrb hob
  cases hp : parse p with
  | none =>
    have he := hno hp
    subst he
    have HE := hid (gEnd_of (HG.out.symm.trans (gs_bad hs' hp)))
    clear hno hyes hp
    go_wp2_with fail
    refine bodyPost_ret (by simp [results, Tryd.results5, go_sem]) rfl ⟨HE.out.symm, hk01.below⟩
  | some P =>
    obtain ⟨pc, vi, gs, he, hpc, hpb, hit, hlen, hsets⟩ := hyes P hp
    subst he
    have HP := hid hp
    obtain ⟨dn2, hwf, hdn, hcp, hst, hil, hps⟩ := parse_wf hp
    have s1 := blk_cell hsb1 0
    have t1 := blk_cell hrb1 0
    have o1 := blk_cell hob1 0
    have hpl := blk_lt hpb
    obtain ⟨p0, p1, p2, q0⟩ := PBlk.cells hpb
    clear hno hyes hp hwf hdn hst
    go_upto_region 6 with fail
    go_still_tail 5, (by kernel_rfl)
    change wpList _ _ _ _ _ w1.drew
    go_wp2_with fail
    refine (replOk_any hr hcp w1.drew).mono ?_
    rintro e w' ⟨rfl, hw⟩
    subst hw
    cases hok : okP r P.caps (r.size + 1) 0 with
    | false =>
      have HE := hid (gEnd_of (HG.out.symm.trans (gs_repl hs' HP.out hok)))
      go_wp2_with fail
      refine bodyPost_ret (by simp [results, Tryd.results5, go_sem]) rfl ⟨HE.out.symm, hk01.drew.below⟩
    | true =>
      have HOK := hid hok
      clear hok
      go_upto_region 11 with fail
      have hRun := gsub_run (w := w) (w1 := w1) (pc := pc) (s := s) (r := r) (p := p) (lo := W0.heap.size) (sv := w.heap.size) (rv := w.heap.size + 1) (mo := w.heap.size + 1 + 1) (B0 := w.heap.size) most HMOST.out hr HTB.out HP.out hs' HOK.out hk01 (Nat.le_refl _) hpb hit hlen hsets hsb1 hrb1 hob1
      obtain ⟨R, hR⟩ : ∃ R, allP s P (s.size + 1) 0 most 0 = R := ⟨_, rfl⟩
      rw [hR] at hRun
      have HR := hid hR
      have hbg : Below w.heap.size w (gW w1 pc s) := (hk01.andThen gW_keeps hk01.size (by simp)).below
      have HBG := hid hbg
      have HS1 := hid hsb1
      have hsz1 := hk01.size
      unfold gW at hRun
      have HRUN := hid hRun
      clear hR hRun hbg hsb1 hrb1 hob1 s1 t1 o1 hpl p0 p1 p2 q0 hpb hit hlen hsets hk1 hk0
      go_wp2_with fail
      refine HRUN.out.mono ?_
      rintro e w5 ⟨hbl, ⟨hRn, rfl⟩ | ⟨st2, l0, buf, at_, hRs, rfl, hgv, hbi, hat, hl0, hbuf⟩⟩
      · have HE := hid (gEnd_of (HG.out.symm.trans (gs_steps hs' HP.out HOK.out (HR.out.trans hRn))))
        have HBF : Hid (Below w.heap.size w w5) := hid (HBG.out.trans (hbl.mono hsz1))
        clear hRn hbl
        go_wp2_with fail
        refine bodyPost_ret (by simp [results, Tryd.results5, go_sem]) rfl ⟨HE.out.symm, HBF.out⟩
      · have HBF : Hid (Below w.heap.size w w5) := hid (HBG.out.trans (hbl.mono hsz1))
        have HGV := hid hgv
        have HRS := hid hRs
        have HBI := hid hbi.done
        obtain ⟨c0, c1, c2, c3, c4, g1, g2⟩ := hgv.cells
        have hata2 : (0 : Int) ≤ at_ ∧ (at_ : Int) ≤ s.size := by omega
        have hsl := sub_len (s := s) at_ s.size
        have hsz : (s.extract at_ s.size).size ≤ s.size := by rw [ByteArray.size_extract]; omega
        clear hbl hRs hbi hgv
        go_wp2_with fail
        refine (writeString_any (s.extract at_ s.size) (sub s at_ s.size) rfl w5 HGV.out.bu (by omega) HGV.out.low).mono ?_
        rintro e w6 ⟨rfl, hb6, hk6⟩
        have HG6 := hid (HGV.out.bkeep hk6 hb6)
        have HBF6 : Hid (Below w.heap.size w w6) := hid (HBF.out.trans ((hk6.below HGV.out.bu.blk.1 HGV.out.low).mono hsz1))
        clear hb6 hk6 c0 c1 c2 c3 c4 g1 g2
        obtain ⟨c0, c1, c2, c3, c4, g1, g2⟩ := HG6.out.cells
        have hln := Tryd.Builder_Len w1.heap.size (w1.heap.size + 1 + 1) (Lib.byteCells (buf ++ sub s at_ s.size)) w6 HG6.out.bu
        rw [Lib.byteCells_length] at hln
        obtain ⟨N, hN⟩ : ∃ N, (buf ++ sub s at_ s.size).length = N := ⟨_, rfl⟩
        rw [hN] at hln
        have HLN := hid hln
        have HN := hid hN
        have hNI : (0 : Int) ≤ N ∧ (N : Int) ≤ 80000000000 := by rw [List.length_append] at hN; omega
        clear hln hN
        go_wp2_with fail
        refine HLN.out.mono ?_
        rintro e w7 ⟨rfl, hw7⟩
        obtain rfl := hw7
        by_cases hbig : 65536 < N
        · have dN : decide ((65536 : Int) < N) = true := decide_eq_true (by omega)
          have dNn : decide (65536 < N) = true := decide_eq_true hbig
          have HE := hid (gEnd_of (HG.out.symm.trans (gs_long hs' HP.out HOK.out (HR.out.trans HRS.out) (HBI.out.2.1 (by rw [HN.out]; exact hbig)))))
          go_wp2_with fail
          refine bodyPost_ret (by simp [results, Tryd.results5, go_sem]) rfl ⟨HE.out.symm, HBF6.out⟩
        · have dN : decide ((65536 : Int) < N) = false := decide_eq_false (by omega)
          have dNn : decide (65536 < N) = false := decide_eq_false hbig
          have hFl : (fullP s r P.caps 0 l0).length ≤ 65536 := Nat.le_of_not_lt fun h => by
            have := HBI.out.2.2 h
            rw [HN.out] at this; omega
          have HE := hid (gEnd_of (HG.out.symm.trans (gs_done hs' HP.out HOK.out (HR.out.trans HRS.out) hFl)))
          have hstr := bstring_any (B := w1.heap.size) (b := w1.heap.size + 1 + 1) (nv := w1.heap.size + 1 + 1 + 1 + 1) (n := l0.length) (l := fullP s r P.caps 0 l0) (w := w7.drew) (by rw [← HBI.out.1 hFl]; exact HG6.out.bu) HG6.out.hnv HG6.out.low
          have HSTR := hid hstr
          clear hstr hFl hbig
          go_upto_region 16 with fail
          go_cut [8, 9, 10] from 43 to 45 (fun v8 v9 v10 wx => v8 = .string ⟨(fullP s r P.caps 0 l0).toArray⟩ ∧ v9 = .int .i64 l0.length ∧ v10 = .int .i64 0 ∧ Below w1.heap.size w7 wx)
          case first =>
            go_region_with (refine HSTR.out.mono ?_; rintro e w8 ⟨rfl, hc8, hb8⟩)
            all_goals
              go_wp2_with fail
              go_meet
            all_goals exact ⟨rfl, rfl, rfl, ⟨hb8.os, hb8.tape, hb8.output, hb8.size, hb8.block⟩⟩
          case rest =>
          obtain ⟨rfl, rfl, rfl, hb8⟩ := hcut
          go_wp2_with fail
          refine bodyPost_ret (by simp [results, Tryd.results5, go_sem]) rfl ⟨HE.out.symm, HBF6.out.trans (hb8.mono hsz1)⟩
end Go.Proofs.YtpinoolagbghnaaDoor

namespace Go.Proofs.YtpinoolagbghnaaDoor
set_option linter.unusedVariables false
open Go.RowKit Pat

set_option maxRecDepth 100000 in
set_option maxHeartbeats 4000000 in
theorem lawG_any (s p r : ByteArray) (most : Int) (w : World) (hmost : most ≤ 9223372036854775807 ∧ -9223372036854775808 ≤ most) (htab : Lib.TabIs Tryd.prog w "internal/strconv.uint64pow10" .u64 Lib.pow10Tab) :
    Calls Tryd.prog 3 #[.string s, .string p, .string r, .int .i64 most] w fun e w' => e = .returned (.bool true) ∧ Below w.heap.size w w' := by
  have HMOST := hid hmost
  have HTAB := hid htab
  clear hmost htab
  by_cases hs : 1048576 < s.size
  · have hd : decide ((1048576 : Int) < s.size) = true := decide_eq_true (by omega)
    go_enter Tryd.func3, Tryd.ntmps3
    go_wp2_with fail
    go_ret
    exact ⟨rfl, Below.refl _ _⟩
  have hd : decide ((1048576 : Int) < s.size) = false := decide_eq_false (by omega)
  by_cases hp : 1048576 < p.size
  · have hd2 : decide ((1048576 : Int) < p.size) = true := decide_eq_true (by omega)
    go_enter Tryd.func3, Tryd.ntmps3
    go_wp2_with fail
    go_ret
    exact ⟨rfl, Below.refl _ _⟩
  have hd2 : decide ((1048576 : Int) < p.size) = false := decide_eq_false (by omega)
  by_cases hr : 1048576 < r.size
  · have hd3 : decide ((1048576 : Int) < r.size) = true := decide_eq_true (by omega)
    go_enter Tryd.func3, Tryd.ntmps3
    go_wp2_with fail
    go_ret
    exact ⟨rfl, Below.refl _ _⟩
  have hd3 : decide ((1048576 : Int) < r.size) = false := decide_eq_false (by omega)
  have hr' : r.size ≤ 1048576 := by omega
  have key1 := gsubS_any (s := s) (p := p) (r := r) (w := w) most HMOST.out hr'
  have key2 : ∀ w1, Below w.heap.size w w1 → Calls Tryd.prog 5 #[.string s, .string p, .string r, .int .i64 most] w1 fun e w' => e = gEnd (gsubP s p r most) ∧ Below w1.heap.size w1 w' := fun w1 hb => gsubI_any most HMOST.out hr' (Lib.tabBelow_of_tabIs HTAB.out w1 hb)
  obtain ⟨⟨t, n, cd⟩, hG⟩ : ∃ G, gsubP s p r most = G := ⟨_, rfl⟩
  rw [hG] at key1 key2
  unfold gEnd at key1 key2
  dsimp only at key1 key2
  have K1 := hid key1
  have K2 := hid key2
  clear key1 key2 hG hs hp hr hr'
  go_enter Tryd.func3, Tryd.ntmps3
  go_wp2_with fail
  refine K1.out.mono ?_
  rintro e w1 ⟨rfl, hk1⟩
  have HK1 := hid hk1.below
  clear hk1
  go_wp2_with fail
  refine (K2.out w1 HK1.out).mono ?_
  rintro e w2 ⟨rfl, hk2⟩
  have HK2 : Hid (Below w.heap.size w w2) := hid (HK1.out.trans (hk2.mono HK1.out.size))
  clear hk2
  go_wp2_with fail
  go_ret
  exact ⟨rfl, HK2.out⟩
end Go.Proofs.YtpinoolagbghnaaDoor
