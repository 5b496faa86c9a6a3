/-
  Walk: impl.ParseNumber, what numeral found.
-/
import Derived.Test.YtlblkajnmdhmdaaGreatDoorZNNm
namespace Go.Proofs.YtlblkajnmdhmdaaGreatDoor
set_option linter.unusedVariables false
open Go.RowKit Lib Go.Op NR
def pnEnd : Option (Bool × Int × Nat) → Ending
  | some (true, _, u) => .returned (.tuple #[.agg #[.bool true, .int .i64 0, .int .u64 u], .bool true])
  | some (false, i, _) => .returned (.tuple #[.agg #[.bool false, .int .i64 i, .int .u64 0], .bool true])
  | none => .returned (.tuple #[.agg #[.bool false, .int .i64 0, .int .u64 0], .bool false])
set_option maxRecDepth 100000 in
theorem bits_any (f : Bool) (i : Int) (u : Nat) (w : World) (h : (FloatKind.f64.format.order u u == some .eq) = true) :
    Calls Tryz.prog 51 #[.agg #[.bool f, .int .i64 i, .float .f64 u]] w fun e w' => e = .returned (.int .u64 u) ∧ Below w.heap.size w w' := by
  have hB2 : (FloatKind.f64.format.order u u != some .eq) = false := by simpa [bne] using h
  clear h
  go_enter Tryz.func51, Tryz.ntmps51
  go_wp2_with fail
  rw [mbits_run]
  go_simp
  go_wp2_with fail
  go_ret
  exact ⟨rfl, (Below.refl _ _).alloc (Nat.le_refl _) _⟩
theorem res_face {W : World} {b : Nat} {c : Array Value} {x y z : Value} {tmps : Array Value} (h : W.heap[b]? = some (.cells c 24 (0, 0))) (hc : c = #[x, y, z]) (h2 : tmps[2]? = some (.pointer (some ⟨b, 0, none⟩))) :
    (results Tryz.f25 tmps).run Tryz.prog W = .ok (.agg #[x, y, z]) W := by
  subst hc
  have q0 := nblk_cell h 0
  have q1 := nblk_cell h 1
  have q2 := nblk_cell h 2
  simp at q0 q1 q2
  simp [results, Tryz.results25, go_sem, h2, q0, q1, q2]
theorem res_pn {W : World} {b : Nat} {c : Array Value} {x y z v : Value} {tmps : Array Value} (h : W.heap[b]? = some (.cells c 24 (0, 0))) (hc : c = #[x, y, z]) (h2 : tmps[2]? = some (.pointer (some ⟨b, 0, none⟩))) (h3 : tmps[3]? = some v) :
    (results Tryz.f8 tmps).run Tryz.prog W = .ok (.tuple #[.agg #[x, y, z], v]) W := by
  subst hc
  have q0 := nblk_cell h 0
  have q1 := nblk_cell h 1
  have q2 := nblk_cell h 2
  simp at q0 q1 q2
  simp [results, Tryz.results8, go_sem, h2, h3, q0, q1, q2]
theorem set3n {B g : Nat} {w w3 : World} {x y z x0 y0 z0 : Value} (hB : Below B w w3) (hg : B ≤ g) (hh : w3.heap[g]? = some (.cells #[x0, y0, z0] 24 (0, 0))) :
    (((w3.setCell ⟨g, 0, none⟩ x).setCell ⟨g, 1, none⟩ y).setCell ⟨g, 2, none⟩ z).heap[g]? = some (.cells #[x, y, z] 24 (0, 0)) ∧ Below B w (((w3.setCell ⟨g, 0, none⟩ x).setCell ⟨g, 1, none⟩ y).setCell ⟨g, 2, none⟩ z) :=
  ⟨nblk_set (nblk_set (nblk_set hh 0 x) 1 y) 2 z, ((hB.setCell hg _).setCell hg _).setCell hg _⟩
theorem num_cells {w : World} {g : Nat} {x y z : Value} {T : TypeId} (hh : w.heap[g]? = some (.cells #[x, y, z] T (0, 0))) :
    (w.cell? ⟨g, 0, none⟩ = some x ∧ w.cell? ⟨g, 1, none⟩ = some y ∧ w.cell? ⟨g, 2, none⟩ = some z) ∧ w.frozen? ⟨g, 0, none⟩ = false ∧ w.frozen? ⟨g, 1, none⟩ = false ∧ w.frozen? ⟨g, 2, none⟩ = false :=
  ⟨⟨by simp [World.cell?, hh], by simp [World.cell?, hh], by simp [World.cell?, hh]⟩, by simp [World.frozen?, hh], by simp [World.frozen?, hh], by simp [World.frozen?, hh]⟩
set_option maxRecDepth 100000 in
theorem face_float (i : Int) (u : Nat) (w : World) (h : (FloatKind.f64.format.order u u == some .eq) = true) :
    Calls Tryz.prog 25 #[.agg #[.bool true, .int .i64 i, .float .f64 u]] w fun e w' => e = .returned (.agg #[.bool true, .int .i64 0, .int .u64 u]) ∧ Below w.heap.size w w' := by
  have H := hid h
  clear h
  go_enter Tryz.func25, Tryz.ntmps25
  go_wp2_with fail
  obtain ⟨w1, hw1⟩ : ∃ w1, w1 = (w.alloc (.cells #[.bool true, .int .i64 i, .float .f64 u] 50)).alloc (.cells #[.bool false, .int .i64 0, .int .u64 0] 24) := ⟨_, rfl⟩
  have HB1 : Hid (Below w.heap.size w w1) := hid (by rw [hw1]; exact ((Below.refl _ _).alloc (Nat.le_refl _) _).alloc (by simp) _)
  have HH1 : Hid (w1.heap[w.heap.size + 1]? = some (.cells #[.bool false, .int .i64 0, .int .u64 0] 24 (0, 0))) := hid (by
    have := Array.getElem?_push_size (xs := (w.alloc (.cells #[.bool true, .int .i64 i, .float .f64 u] 50)).heap) (x := Obj.cells #[.bool false, .int .i64 0, .int .u64 0] 24 (0, 0))
    rw [show (w.alloc (.cells #[.bool true, .int .i64 i, .float .f64 u] 50)).heap.size = w.heap.size + 1 by simp] at this
    rw [hw1]
    exact this)
  rw [← hw1]
  clear hw1
  refine (bits_any true i u w1 H.out).mono ?_
  rintro r w2 ⟨rfl, hb2⟩
  have HB2 : Hid (Below w.heap.size w w2) := hid (HB1.out.trans (hb2.mono HB1.out.size))
  have hh : w2.heap[w.heap.size + 1]? = some (.cells #[.bool false, .int .i64 0, .int .u64 0] 24 (0, 0)) := (hb2.block _ (Array.getElem?_eq_some_iff.1 HH1.out).1).trans HH1.out
  clear hb2
  obtain ⟨⟨c0, c1, c2⟩, f0, f1, f2⟩ := num_cells hh
  have HH := hid hh
  clear hh
  go_wp2_with fail
  obtain ⟨r1, r2⟩ := set3n (x := .bool true) (y := .int .i64 0) (z := .int .u64 u) HB2.out (Nat.le_succ _) HH.out
  refine bodyPost_ret (res_face r1 rfl rfl) rfl ⟨rfl, r2⟩
set_option maxRecDepth 100000 in
theorem face_int (i : Int) (u : Nat) (w : World) :
    Calls Tryz.prog 25 #[.agg #[.bool false, .int .i64 i, .float .f64 u]] w fun e w' => e = .returned (.agg #[.bool false, .int .i64 i, .int .u64 0]) ∧ Below w.heap.size w w' := by
  go_enter Tryz.func25, Tryz.ntmps25
  go_wp2_with fail
  exact bodyPost_ret (v := .agg #[.bool false, .int .i64 i, .int .u64 0]) (by simp [results, Tryz.results25, go_sem]) rfl ⟨rfl, ((Below.refl _ _).alloc (Nat.le_refl _) _).alloc (by simp) _⟩
set_option maxRecDepth 100000 in
theorem parseI_any (s : ByteArray) (o : Option (Bool × Int × Nat)) (w : World) (hu : ∀ f i u, o = some (f, i, u) → u < 2047 * 2 ^ 52)
    (hN : ∀ w', Below w.heap.size w w' → Calls Tryz.prog 24 #[.string s] w' fun r w2 => r = nmEnd o ∧ Below w'.heap.size w' w2) :
    Calls Tryz.prog 8 #[.string s] w fun r w' => r = pnEnd o ∧ Below w.heap.size w w' := by
  have HN := hid hN
  have HU := hid hu
  clear hN hu
  go_enter Tryz.func8, Tryz.ntmps8
  go_wp2_with fail
  obtain ⟨w1, hw1⟩ : ∃ w1, w1 = w.alloc (.cells #[.bool false, .int .i64 0, .int .u64 0] 24) := ⟨_, rfl⟩
  have HB1 : Hid (Below w.heap.size w w1) := hid (by rw [hw1]; exact (Below.refl _ _).alloc (Nat.le_refl _) _)
  have HH1 : Hid (w1.heap[w.heap.size]? = some (.cells #[.bool false, .int .i64 0, .int .u64 0] 24 (0, 0))) := hid (by rw [hw1]; exact Array.getElem?_push_size)
  rw [← hw1]
  clear hw1
  refine (HN.out w1 HB1.out).mono ?_
  rintro r w2 ⟨rfl, hb2⟩
  have HB2 : Hid (Below w.heap.size w w2) := hid (HB1.out.trans (hb2.mono HB1.out.size))
  have HH2 : Hid (w2.heap[w.heap.size]? = some (.cells #[.bool false, .int .i64 0, .int .u64 0] 24 (0, 0))) := hid ((hb2.block _ (Array.getElem?_eq_some_iff.1 HH1.out).1).trans HH1.out)
  clear hb2
  rcases o with _ | ⟨f, i, u⟩
  · unfold nmEnd
    go_wp2_with fail
    rw [store_float]
    go_simp
    obtain ⟨w3, hw3⟩ : ∃ w3, w3 = w2.alloc (.cells #[.bool false, .int .i64 0, .float .f64 0] 50) := ⟨_, rfl⟩
    have hb3 : Below w2.heap.size w2 w3 := by rw [hw3]; exact (Below.refl _ _).alloc (Nat.le_refl _) _
    have HB3 : Hid (Below w.heap.size w w3) := hid (HB2.out.trans (hb3.mono HB2.out.size))
    have hh := (hb3.block _ (Array.getElem?_eq_some_iff.1 HH2.out).1).trans HH2.out
    rw [← hw3]
    clear hw3 hb3
    obtain ⟨⟨c0, c1, c2⟩, f0, f1, f2⟩ := num_cells hh
    have HH := hid hh
    clear hh
    go_wp2_with fail
    obtain ⟨r1, r2⟩ := set3n (x := .bool false) (y := .int .i64 0) (z := .int .u64 0) HB3.out (Nat.le_refl _) HH.out
    exact bodyPost_ret (res_pn r1 rfl rfl rfl) rfl ⟨rfl, r2⟩
  · unfold nmEnd
    go_wp2_with fail
    rw [store_float]
    go_simp
    obtain ⟨w3, hw3⟩ : ∃ w3, w3 = w2.alloc (.cells #[.bool f, .int .i64 i, .float .f64 u] 50) := ⟨_, rfl⟩
    have hb3 : Below w2.heap.size w2 w3 := by rw [hw3]; exact (Below.refl _ _).alloc (Nat.le_refl _) _
    have hn3 : w3.heap[w2.heap.size]? = some (.cells #[.bool f, .int .i64 i, .float .f64 u] 50 (0, 0)) := by rw [hw3]; exact Array.getElem?_push_size
    have HB3 : Hid (Below w.heap.size w w3) := hid (HB2.out.trans (hb3.mono HB2.out.size))
    have HH3 : Hid (w3.heap[w.heap.size]? = some (.cells #[.bool false, .int .i64 0, .int .u64 0] 24 (0, 0))) := hid ((hb3.block _ (Array.getElem?_eq_some_iff.1 HH2.out).1).trans HH2.out)
    rw [← hw3]
    clear hw3 hb3
    obtain ⟨⟨c0, c1, c2⟩, f0, f1, f2⟩ := num_cells hn3
    clear hn3
    have hu := HU.out f i u rfl
    have HF : Hid (∀ w', Calls Tryz.prog 25 #[.agg #[.bool f, .int .i64 i, .float .f64 u]] w' fun e w2 => e = .returned (.agg #[.bool f, .int .i64 (if f then 0 else i), .int .u64 ((if f then u else 0 : Nat) : Int)]) ∧ Below w'.heap.size w' w2) := hid (fun w' => by
      cases f
      · exact face_int i u w'
      · exact face_float i u w' ((NU.ord_self (by omega)).trans (decide_eq_true (by rw [Nat.mod_eq_of_lt (by omega)]; omega))))
    clear hu
    go_wp2_with fail
    clear c0 c1 c2 f0 f1 f2
    refine (HF.out w3).mono ?_
    rintro r w4 ⟨rfl, hb4⟩
    have HB4 : Hid (Below w.heap.size w w4) := hid (HB3.out.trans (hb4.mono HB3.out.size))
    have hh := (hb4.block _ (Array.getElem?_eq_some_iff.1 HH3.out).1).trans HH3.out
    clear hb4
    obtain ⟨⟨c0, c1, c2⟩, f0, f1, f2⟩ := num_cells hh
    have HH := hid hh
    clear hh
    obtain ⟨i', hi'⟩ : ∃ i' : Int, i' = (if f = true then 0 else i) := ⟨_, rfl⟩
    obtain ⟨u', hu'⟩ : ∃ u' : Int, u' = (((if f = true then u else 0 : Nat)) : Int) := ⟨_, rfl⟩
    rw [← hi', ← hu']
    have HI := hid hi'
    have HV := hid hu'
    clear hi' hu'
    go_wp2_with fail
    obtain ⟨r1, r2⟩ := set3n (x := .bool f) (y := .int .i64 i') (z := .int .u64 u') HB4.out (Nat.le_refl _) HH.out
    refine bodyPost_ret (res_pn r1 rfl rfl rfl) rfl ⟨?_, r2⟩
    rw [HI.out, HV.out]
    cases f <;> rfl
end Go.Proofs.YtlblkajnmdhmdaaGreatDoor
