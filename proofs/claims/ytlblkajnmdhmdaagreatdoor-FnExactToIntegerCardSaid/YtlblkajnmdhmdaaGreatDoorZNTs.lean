/-
  Walk: impl.signed at every text.
  Walks: impl.signed joined; impl.numText; impl.ToInteger.
  Walk: impl.ToInteger at every text; the law FnExactToInteger returns true.
-/
import Derived.Test.YtlblkajnmdhmdaaGreatDoorZNTp
import Derived.Test.YtlblkajnmdhmdaaGreatDoorZShelf
import Derived.Test.YtlblkajnmdhmdaaGreatDoorZNSu
namespace Go.Proofs.YtlblkajnmdhmdaaGreatDoor
set_option linter.unusedVariables false
open Go.RowKit Lib Go.Op NR
theorem trimD_any (s : ByteArray) (hs : s.size ≤ 1000) (w : World) : Calls Tryz.prog 82 #[.string s, .string ⟨#[48, 49, 50, 51, 52, 53, 54, 55, 56, 57]⟩] w fun e w' => e = .returned (.string ⟨(Lib.trimS s.data.toList NB.ten).toArray⟩) ∧ Below w.heap.size w w' :=
 Any.strings_Trim_laid Tryz.lays160 (by kernel_rfl) s ⟨#[48, 49, 50, 51, 52, 53, 54, 55, 56, 57]⟩ w (by omega) (by decide) (ascii_of_all (by decide))
theorem nm_form : ∀ o, ∃ f i u b, nmEnd o = .returned (.tuple #[.agg #[.bool f, .int .i64 i, .float .f64 u], .bool b])
 | some (f, i, u) => ⟨f, i, u, true, rfl⟩
 | none => ⟨false, 0, 0, false, rfl⟩
theorem third {w w2 w3 : World} {c d : Array Value} {T : TypeId} (hw3 : w3 = w2.alloc (.cells c T)) (HB2 : Hid (Below w.heap.size w w2)) (HH2 : Hid (w2.heap[w.heap.size]? = some (.cells d T (0, 0)))) :
  Hid (Below w.heap.size w w3) ∧ w3.heap[w2.heap.size]? = some (.cells c T (0, 0)) ∧ w3.heap[w.heap.size]? = some (.cells d T (0, 0)) := by
 have hb3 : Below w2.heap.size w2 w3 := (by rw [hw3]; exact (Below.refl _ _).alloc (Nat.le_refl _) _);have hn3 : w3.heap[w2.heap.size]? = some (.cells c T (0, 0)) := (by rw [hw3]; exact Array.getElem?_push_size);exact ⟨hid (HB2.out.trans (hb3.mono HB2.out.size)), hn3, (hb3.block _ (Array.getElem?_eq_some_iff.1 HH2.out).1).trans HH2.out⟩
/-- What a later call leaves of the block. -/
theorem still {w w3 w4 : World} {g : Nat} {c d : Array Value} {T : TypeId} (HB3 : Hid (Below w.heap.size w w3)) (HN3 : Hid (w3.heap[g]? = some (.cells c T (0, 0)))) (HH3 : Hid (w3.heap[w.heap.size]? = some (.cells d T (0, 0)))) (hb : Below w3.heap.size w3 w4) :
  Hid (Below w.heap.size w w4) ∧ Hid (w4.heap[g]? = some (.cells c T (0, 0))) ∧ Hid (w4.heap[w.heap.size]? = some (.cells d T (0, 0))) :=
 ⟨hid (HB3.out.trans (hb.mono HB3.out.size)), hid ((hb.block _ (Array.getElem?_eq_some_iff.1 HN3.out).1).trans HN3.out), hid ((hb.block _ (Array.getElem?_eq_some_iff.1 HH3.out).1).trans HH3.out)⟩
theorem res_signed {W : World} {b : Nat} {c : Array Value} {x y z v : Value} {tmps : Array Value} (h : W.heap[b]? = some (.cells c 50 (0, 0))) (hc : c = #[x, y, z]) (h2 : tmps[2]? = some (.pointer (some ⟨b, 0, none⟩))) (h3 : tmps[3]? = some v) :
  (results Tryz.f58 tmps).run Tryz.prog W = .ok (.tuple #[.agg #[x, y, z], v]) W := by
 subst hc;have q0 := nblk_cell h 0;have q1 := nblk_cell h 1;have q2 := nblk_cell h 2;simp at q0 q1 q2;simp [results, Tryz.results58, go_sem, h2, h3, q0, q1, q2]
theorem cut_minus {s : ByteArray} (h0 : 0 < s.size) (hb : bt s 0 = 45) : hasPrefix s.data.toList [45] = true ∧ (⟨(Lib.trimPrefix s.data.toList [45]).toArray⟩ : ByteArray) = s.extract 1 s.size := by
 have hl : s.data.toList.length = s.size := Array.length_toList
 have hp : hasPrefix s.data.toList [45] = true := by
  unfold hasPrefix;rw [bt_of_lt h0] at hb;have h1 : s.data.toList[0]'(by omega) = 45 := UInt8.toNat_inj.1 hb
  cases hc : s.data.toList with
  | nil => rw [hc] at hl; simp at hl; omega
  | cons a r =>
   simp only [hc, List.getElem_cons_zero] at h1;rw [h1];rfl
 refine ⟨hp, ?_⟩;unfold Lib.trimPrefix;rw [if_pos hp];apply Go.WideShapes.bytes_inj;rw [ByteArray.data_extract, Array.toList_extract, List.extract_eq_take_drop, List.take_of_length_le (by rw [List.length_drop, Array.length_toList]; exact Nat.le_refl _)];rfl
theorem cut_none {s : ByteArray} (h : ¬ (0 < s.size ∧ bt s 0 = 45)) : hasPrefix s.data.toList [45] = false := by
 have hl : s.data.toList.length = s.size := Array.length_toList;unfold hasPrefix
 cases hc : s.data.toList with
 | nil => rfl
 | cons a r =>
  have h0 : 0 < s.size := (by rw [hc] at hl; simp at hl; omega);have h1 : s.data.toList[0]'(by omega) = a := (by simp only [hc, List.getElem_cons_zero]);have h2 : a ≠ 45 := fun e => h ⟨h0, by rw [bt_of_lt h0]; exact congrArg UInt8.toNat (h1.trans e)⟩;simp [List.isPrefixOf, Ne.symm h2]
set_option maxRecDepth 100000 in
theorem signed_plus (s t : ByteArray) (neg : Bool) (o : Option (Bool × Int × Nat)) (w : World) (hcp : ∀ w, Calls Tryz.prog 81 #[.string s, .string ⟨#[45]⟩] w fun e w' => e = .returned (.tuple #[.string t, .bool neg]) ∧ w' = w) (hneg : neg = true → o = none)
  (hN : ∀ w', Below w.heap.size w w' → Calls Tryz.prog 24 #[.string t] w' fun r w2 => r = nmEnd o ∧ Below w'.heap.size w' w2) :
  Calls Tryz.prog 58 #[.string s] w fun r w' => r = nmEnd o ∧ Below w.heap.size w w' := by
 have HN := hid hN;clear hN
 obtain ⟨f, i, u, b, ho, hb⟩ : ∃ f i u b, nmEnd o = .returned (.tuple #[.agg #[.bool f, .int .i64 i, .float .f64 u], .bool b]) ∧ (neg = true → b = false) := by
  match o, hneg with
  | some (f, i, u), h => exact ⟨f, i, u, true, rfl, fun e => by have := h e; cases this⟩
  | none, _ => exact ⟨false, 0, 0, false, rfl, fun _ => rfl⟩
 have HB := hid hb;clear hb hneg;go_enter Tryz.func58, Tryz.ntmps58
 go_wp2_with (go_at_call 81; refine (hcp _).mono ?_; rintro r w1 ⟨rfl, rfl⟩)
 obtain ⟨w1, hw1⟩ : ∃ w1, w1 = w.alloc (.cells #[.bool false, .int .i64 0, .float .f64 0] 50) := ⟨_, rfl⟩;have HB1 : Hid (Below w.heap.size w w1) := hid (by rw [hw1]; exact (Below.refl _ _).alloc (Nat.le_refl _) _);have HH1 : Hid (w1.heap[w.heap.size]? = some (.cells #[.bool false, .int .i64 0, .float .f64 0] 50 (0, 0))) := hid (by rw [hw1]; exact Array.getElem?_push_size);rw [← hw1];clear hw1;refine (HN.out w1 HB1.out).mono ?_;rintro r w2 ⟨rfl, hb2⟩;have HB2 : Hid (Below w.heap.size w w2) := hid (HB1.out.trans (hb2.mono HB1.out.size));have HH2 : Hid (w2.heap[w.heap.size]? = some (.cells #[.bool false, .int .i64 0, .float .f64 0] 50 (0, 0))) := hid ((hb2.block _ (Array.getElem?_eq_some_iff.1 HH1.out).1).trans HH1.out);clear hb2;rw [ho]
 rcases b with _ | _
 ·rcases neg with _ | _
  all_goals
   go_wp2_with fail
   rw [store_float];go_simp;obtain ⟨w3, hw3⟩ : ∃ w3, w3 = w2.alloc (.cells #[.bool f, .int .i64 i, .float .f64 u] 50) := ⟨_, rfl⟩;obtain ⟨HB3, hn3, hh3⟩ := third hw3 HB2 HH2;rw [← hw3];clear hw3;obtain ⟨⟨c0, c1, c2⟩, f0, f1, f2⟩ := num_cells hn3;obtain ⟨⟨d0, d1, d2⟩, g0, g1, g2⟩ := num_cells hh3;have HN3 := hid hn3;have HH3 := hid hh3;clear hn3 hh3
   go_wp2_with fail
   rw [store_float];go_simp
   go_wp2_with fail
   obtain ⟨r1, r2⟩ := set3m (x := .bool f) (y := .int .i64 i) (z := .float .f64 u) HB3.out (Nat.le_refl _) HH3.out;exact bodyPost_ret (res_signed r1 rfl rfl rfl) rfl ⟨ho.symm, r2⟩
 ·rcases neg with _ | _
  ·skip
   go_wp2_with fail
   rw [store_float];go_simp;obtain ⟨w3, hw3⟩ : ∃ w3, w3 = w2.alloc (.cells #[.bool f, .int .i64 i, .float .f64 u] 50) := ⟨_, rfl⟩;obtain ⟨HB3, hn3, hh3⟩ := third hw3 HB2 HH2;rw [← hw3];clear hw3;obtain ⟨⟨c0, c1, c2⟩, f0, f1, f2⟩ := num_cells hn3;obtain ⟨⟨d0, d1, d2⟩, g0, g1, g2⟩ := num_cells hh3;have HN3 := hid hn3;have HH3 := hid hh3;clear hn3 hh3
   go_wp2_with fail
   rw [store_float];go_simp
   go_wp2_with fail
   obtain ⟨r1, r2⟩ := set3m (x := .bool f) (y := .int .i64 i) (z := .float .f64 u) HB3.out (Nat.le_refl _) HH3.out;exact bodyPost_ret (res_signed r1 rfl rfl rfl) rfl ⟨ho.symm, r2⟩
  ·exact absurd (HB.out rfl) (by decide)
set_option maxRecDepth 100000 in
set_option maxHeartbeats 4000000 in
theorem signed_int (s t : ByteArray) (i : Int) (u : Nat) (w : World) (hcp : ∀ w, Calls Tryz.prog 81 #[.string s, .string ⟨#[45]⟩] w fun e w' => e = .returned (.tuple #[.string t, .bool true]) ∧ w' = w)
  (hN : ∀ w', Below w.heap.size w w' → Calls Tryz.prog 24 #[.string t] w' fun r w2 => r = nmEnd (some (false, i, u)) ∧ Below w'.heap.size w' w2)
  (f' : Bool) (i' : Int) (u' : Nat)
  (hG : ∀ w, Calls Tryz.prog 84 #[.agg #[.bool false, .int .i64 i, .float .f64 u]] w fun e w' => e = .returned (.agg #[.bool f', .int .i64 i', .float .f64 u']) ∧ Below w.heap.size w w') :
  Calls Tryz.prog 58 #[.string s] w fun r w' => r = nmEnd (some (f', i', u')) ∧ Below w.heap.size w w' := by
 have HN := hid hN;have HG := hid hG;clear hG;clear hN;go_enter Tryz.func58, Tryz.ntmps58
 go_wp2_with (go_at_call 81; refine (hcp _).mono ?_; rintro r w1 ⟨rfl, rfl⟩)
 obtain ⟨w1, hw1⟩ : ∃ w1, w1 = w.alloc (.cells #[.bool false, .int .i64 0, .float .f64 0] 50) := ⟨_, rfl⟩;have HB1 : Hid (Below w.heap.size w w1) := hid (by rw [hw1]; exact (Below.refl _ _).alloc (Nat.le_refl _) _);have HH1 : Hid (w1.heap[w.heap.size]? = some (.cells #[.bool false, .int .i64 0, .float .f64 0] 50 (0, 0))) := hid (by rw [hw1]; exact Array.getElem?_push_size);rw [← hw1];clear hw1;refine (HN.out w1 HB1.out).mono ?_;rintro r w2 ⟨rfl, hb2⟩;have HB2 : Hid (Below w.heap.size w w2) := hid (HB1.out.trans (hb2.mono HB1.out.size));have HH2 : Hid (w2.heap[w.heap.size]? = some (.cells #[.bool false, .int .i64 0, .float .f64 0] 50 (0, 0))) := hid ((hb2.block _ (Array.getElem?_eq_some_iff.1 HH1.out).1).trans HH1.out);clear hb2;unfold nmEnd
 go_wp2_with fail
 rw [store_float];go_simp;obtain ⟨w3, hw3⟩ : ∃ w3, w3 = w2.alloc (.cells #[.bool false, .int .i64 i, .float .f64 u] 50) := ⟨_, rfl⟩;obtain ⟨HB3, hn3, hh3⟩ := third hw3 HB2 HH2;rw [← hw3];clear hw3;obtain ⟨⟨c0, c1, c2⟩, f0, f1, f2⟩ := num_cells hn3;obtain ⟨⟨d0, d1, d2⟩, g0, g1, g2⟩ := num_cells hh3;have HN3 := hid hn3;have HH3 := hid hh3;clear hn3 hh3
 go_wp2_with fail
 refine (HG.out w3).mono ?_;rintro r w5 ⟨rfl, hb5⟩;obtain ⟨HB5, HN5, HH5⟩ := still HB3 HN3 HH3 hb5;clear hb5 c0 c1 c2 f0 f1 f2 d0 d1 d2 g0 g1 g2;obtain ⟨⟨d0, d1, d2⟩, g0, g1, g2⟩ := num_cells HH5.out
 go_wp2_with fail
 rw [store_float];go_simp
 go_wp2_with fail
 obtain ⟨r1, r2⟩ := set3m (x := .bool f') (y := .int .i64 i') (z := .float .f64 u') HB5.out (Nat.le_refl _) HH5.out;exact bodyPost_ret (res_signed r1 rfl rfl rfl) rfl ⟨rfl, r2⟩
set_option maxRecDepth 100000 in
set_option maxHeartbeats 4000000 in
theorem signed_flt (s t : ByteArray) (i : Int) (u : Nat) (w : World) (hcp : ∀ w, Calls Tryz.prog 81 #[.string s, .string ⟨#[45]⟩] w fun e w' => e = .returned (.tuple #[.string t, .bool true]) ∧ w' = w)
  (hN : ∀ w', Below w.heap.size w w' → Calls Tryz.prog 24 #[.string t] w' fun r w2 => r = nmEnd (some (true, i, u)) ∧ Below w'.heap.size w' w2)
  (f' : Bool) (i' : Int) (u' : Nat)
  (hE : (FloatKind.f64.format.order u 4890909195324358656 == some .eq) = false)
  (hG : ∀ w, Calls Tryz.prog 84 #[.agg #[.bool true, .int .i64 i, .float .f64 u]] w fun e w' => e = .returned (.agg #[.bool f', .int .i64 i', .float .f64 u']) ∧ Below w.heap.size w w') :
  Calls Tryz.prog 58 #[.string s] w fun r w' => r = nmEnd (some (f', i', u')) ∧ Below w.heap.size w w' := by
 have HN := hid hN;have HG := hid hG;clear hG;clear hN;go_enter Tryz.func58, Tryz.ntmps58
 go_wp2_with (go_at_call 81; refine (hcp _).mono ?_; rintro r w1 ⟨rfl, rfl⟩)
 obtain ⟨w1, hw1⟩ : ∃ w1, w1 = w.alloc (.cells #[.bool false, .int .i64 0, .float .f64 0] 50) := ⟨_, rfl⟩;have HB1 : Hid (Below w.heap.size w w1) := hid (by rw [hw1]; exact (Below.refl _ _).alloc (Nat.le_refl _) _);have HH1 : Hid (w1.heap[w.heap.size]? = some (.cells #[.bool false, .int .i64 0, .float .f64 0] 50 (0, 0))) := hid (by rw [hw1]; exact Array.getElem?_push_size);rw [← hw1];clear hw1;refine (HN.out w1 HB1.out).mono ?_;rintro r w2 ⟨rfl, hb2⟩;have HB2 : Hid (Below w.heap.size w w2) := hid (HB1.out.trans (hb2.mono HB1.out.size));have HH2 : Hid (w2.heap[w.heap.size]? = some (.cells #[.bool false, .int .i64 0, .float .f64 0] 50 (0, 0))) := hid ((hb2.block _ (Array.getElem?_eq_some_iff.1 HH1.out).1).trans HH1.out);clear hb2;unfold nmEnd
 go_wp2_with fail
 rw [store_float];go_simp;obtain ⟨w3, hw3⟩ : ∃ w3, w3 = w2.alloc (.cells #[.bool true, .int .i64 i, .float .f64 u] 50) := ⟨_, rfl⟩;obtain ⟨HB3, hn3, hh3⟩ := third hw3 HB2 HH2;rw [← hw3];clear hw3;obtain ⟨⟨c0, c1, c2⟩, f0, f1, f2⟩ := num_cells hn3;obtain ⟨⟨d0, d1, d2⟩, g0, g1, g2⟩ := num_cells hh3;have HN3 := hid hn3;have HH3 := hid hh3;clear hn3 hh3
 go_wp2_with fail
 refine (HG.out w3).mono ?_;rintro r w5 ⟨rfl, hb5⟩;obtain ⟨HB5, HN5, HH5⟩ := still HB3 HN3 HH3 hb5;clear hb5 c0 c1 c2 f0 f1 f2 d0 d1 d2 g0 g1 g2;obtain ⟨⟨d0, d1, d2⟩, g0, g1, g2⟩ := num_cells HH5.out
 go_wp2_with fail
 rw [store_float];go_simp
 go_wp2_with fail
 obtain ⟨r1, r2⟩ := set3m (x := .bool f') (y := .int .i64 i') (z := .float .f64 u') HB5.out (Nat.le_refl _) HH5.out;exact bodyPost_ret (res_signed r1 rfl rfl rfl) rfl ⟨rfl, r2⟩
set_option maxRecDepth 100000 in
set_option maxHeartbeats 4000000 in
theorem signed_far (s t : ByteArray) (i : Int) (u : Nat) (w : World) (hcp : ∀ w, Calls Tryz.prog 81 #[.string s, .string ⟨#[45]⟩] w fun e w' => e = .returned (.tuple #[.string t, .bool true]) ∧ w' = w)
  (hN : ∀ w', Below w.heap.size w w' → Calls Tryz.prog 24 #[.string t] w' fun r w2 => r = nmEnd (some (true, i, u)) ∧ Below w'.heap.size w' w2)
  (f' : Bool) (i' : Int) (u' : Nat) (T : ByteArray) (hT0 : T.toList.isEmpty = false)
  (hE : (FloatKind.f64.format.order u 4890909195324358656 == some .eq) = true)
  (hT : ∀ w, Calls Tryz.prog 82 #[.string t, .string ⟨#[48, 49, 50, 51, 52, 53, 54, 55, 56, 57]⟩] w fun e w' => e = .returned (.string T) ∧ Below w.heap.size w w')
  (hG : ∀ w, Calls Tryz.prog 84 #[.agg #[.bool true, .int .i64 i, .float .f64 u]] w fun e w' => e = .returned (.agg #[.bool f', .int .i64 i', .float .f64 u']) ∧ Below w.heap.size w w') :
  Calls Tryz.prog 58 #[.string s] w fun r w' => r = nmEnd (some (f', i', u')) ∧ Below w.heap.size w w' := by
 have HN := hid hN;have HG := hid hG;clear hG;have HT := hid hT;clear hT;clear hN;go_enter Tryz.func58, Tryz.ntmps58
 go_wp2_with (go_at_call 81; refine (hcp _).mono ?_; rintro r w1 ⟨rfl, rfl⟩)
 obtain ⟨w1, hw1⟩ : ∃ w1, w1 = w.alloc (.cells #[.bool false, .int .i64 0, .float .f64 0] 50) := ⟨_, rfl⟩;have HB1 : Hid (Below w.heap.size w w1) := hid (by rw [hw1]; exact (Below.refl _ _).alloc (Nat.le_refl _) _);have HH1 : Hid (w1.heap[w.heap.size]? = some (.cells #[.bool false, .int .i64 0, .float .f64 0] 50 (0, 0))) := hid (by rw [hw1]; exact Array.getElem?_push_size);rw [← hw1];clear hw1;refine (HN.out w1 HB1.out).mono ?_;rintro r w2 ⟨rfl, hb2⟩;have HB2 : Hid (Below w.heap.size w w2) := hid (HB1.out.trans (hb2.mono HB1.out.size));have HH2 : Hid (w2.heap[w.heap.size]? = some (.cells #[.bool false, .int .i64 0, .float .f64 0] 50 (0, 0))) := hid ((hb2.block _ (Array.getElem?_eq_some_iff.1 HH1.out).1).trans HH1.out);clear hb2;unfold nmEnd
 go_wp2_with fail
 rw [store_float];go_simp;obtain ⟨w3, hw3⟩ : ∃ w3, w3 = w2.alloc (.cells #[.bool true, .int .i64 i, .float .f64 u] 50) := ⟨_, rfl⟩;obtain ⟨HB3, hn3, hh3⟩ := third hw3 HB2 HH2;rw [← hw3];clear hw3;obtain ⟨⟨c0, c1, c2⟩, f0, f1, f2⟩ := num_cells hn3;obtain ⟨⟨d0, d1, d2⟩, g0, g1, g2⟩ := num_cells hh3;have HN3 := hid hn3;have HH3 := hid hh3;clear hn3 hh3
 go_wp2_with fail
 refine (HT.out w3).mono ?_;rintro r w4 ⟨rfl, hb4⟩;obtain ⟨HB4, HN4, HH4⟩ := still HB3 HN3 HH3 hb4;clear hb4 c0 c1 c2 f0 f1 f2 d0 d1 d2 g0 g1 g2;obtain ⟨⟨c0, c1, c2⟩, f0, f1, f2⟩ := num_cells HN4.out;obtain ⟨⟨d0, d1, d2⟩, g0, g1, g2⟩ := num_cells HH4.out
 go_wp2_with fail
 refine (HG.out w4).mono ?_;rintro r w5 ⟨rfl, hb5⟩;obtain ⟨HB5, HN5, HH5⟩ := still HB4 HN4 HH4 hb5;clear hb5 c0 c1 c2 f0 f1 f2 d0 d1 d2 g0 g1 g2;obtain ⟨⟨d0, d1, d2⟩, g0, g1, g2⟩ := num_cells HH5.out
 go_wp2_with fail
 rw [store_float];go_simp
 go_wp2_with fail
 obtain ⟨r1, r2⟩ := set3m (x := .bool f') (y := .int .i64 i') (z := .float .f64 u') HB5.out (Nat.le_refl _) HH5.out;exact bodyPost_ret (res_signed r1 rfl rfl rfl) rfl ⟨rfl, r2⟩
set_option maxRecDepth 100000 in
set_option maxHeartbeats 4000000 in
theorem signed_oth (s t : ByteArray) (i : Int) (u : Nat) (w : World) (hcp : ∀ w, Calls Tryz.prog 81 #[.string s, .string ⟨#[45]⟩] w fun e w' => e = .returned (.tuple #[.string t, .bool true]) ∧ w' = w)
  (hN : ∀ w', Below w.heap.size w w' → Calls Tryz.prog 24 #[.string t] w' fun r w2 => r = nmEnd (some (true, i, u)) ∧ Below w'.heap.size w' w2)
  (f' : Bool) (i' : Int) (u' : Nat) (T Z : ByteArray) (hT0 : T.toList.isEmpty = true) (hZ : (Z.toList == NB.min19) = false)
  (hE : (FloatKind.f64.format.order u 4890909195324358656 == some .eq) = true)
  (hT : ∀ w, Calls Tryz.prog 82 #[.string t, .string ⟨#[48, 49, 50, 51, 52, 53, 54, 55, 56, 57]⟩] w fun e w' => e = .returned (.string T) ∧ Below w.heap.size w w')
  (hL : ∀ w, Calls Tryz.prog 83 #[.string t, .string ⟨#[48]⟩] w fun e w' => e = .returned (.string Z) ∧ w' = w)
  (hG : ∀ w, Calls Tryz.prog 84 #[.agg #[.bool true, .int .i64 i, .float .f64 u]] w fun e w' => e = .returned (.agg #[.bool f', .int .i64 i', .float .f64 u']) ∧ Below w.heap.size w w') :
  Calls Tryz.prog 58 #[.string s] w fun r w' => r = nmEnd (some (f', i', u')) ∧ Below w.heap.size w w' := by
 have HN := hid hN;have HG := hid hG;clear hG;have HT := hid hT;clear hT;have HL := hid hL;clear hL;clear hN;go_enter Tryz.func58, Tryz.ntmps58
 go_wp2_with (go_at_call 81; refine (hcp _).mono ?_; rintro r w1 ⟨rfl, rfl⟩)
 obtain ⟨w1, hw1⟩ : ∃ w1, w1 = w.alloc (.cells #[.bool false, .int .i64 0, .float .f64 0] 50) := ⟨_, rfl⟩;have HB1 : Hid (Below w.heap.size w w1) := hid (by rw [hw1]; exact (Below.refl _ _).alloc (Nat.le_refl _) _);have HH1 : Hid (w1.heap[w.heap.size]? = some (.cells #[.bool false, .int .i64 0, .float .f64 0] 50 (0, 0))) := hid (by rw [hw1]; exact Array.getElem?_push_size);rw [← hw1];clear hw1;refine (HN.out w1 HB1.out).mono ?_;rintro r w2 ⟨rfl, hb2⟩;have HB2 : Hid (Below w.heap.size w w2) := hid (HB1.out.trans (hb2.mono HB1.out.size));have HH2 : Hid (w2.heap[w.heap.size]? = some (.cells #[.bool false, .int .i64 0, .float .f64 0] 50 (0, 0))) := hid ((hb2.block _ (Array.getElem?_eq_some_iff.1 HH1.out).1).trans HH1.out);clear hb2;unfold nmEnd
 go_wp2_with fail
 rw [store_float];go_simp;obtain ⟨w3, hw3⟩ : ∃ w3, w3 = w2.alloc (.cells #[.bool true, .int .i64 i, .float .f64 u] 50) := ⟨_, rfl⟩;obtain ⟨HB3, hn3, hh3⟩ := third hw3 HB2 HH2;rw [← hw3];clear hw3;obtain ⟨⟨c0, c1, c2⟩, f0, f1, f2⟩ := num_cells hn3;obtain ⟨⟨d0, d1, d2⟩, g0, g1, g2⟩ := num_cells hh3;have HN3 := hid hn3;have HH3 := hid hh3;clear hn3 hh3
 go_wp2_with fail
 refine (HT.out w3).mono ?_;rintro r w4 ⟨rfl, hb4⟩;obtain ⟨HB4, HN4, HH4⟩ := still HB3 HN3 HH3 hb4;clear hb4 c0 c1 c2 f0 f1 f2 d0 d1 d2 g0 g1 g2;obtain ⟨⟨c0, c1, c2⟩, f0, f1, f2⟩ := num_cells HN4.out;obtain ⟨⟨d0, d1, d2⟩, g0, g1, g2⟩ := num_cells HH4.out
 go_wp2_with fail
 refine (HL.out w4).mono ?_;rintro r w6 ⟨rfl, rfl⟩
 go_wp2_with fail
 refine (HG.out w6).mono ?_;rintro r w5 ⟨rfl, hb5⟩;obtain ⟨HB5, HN5, HH5⟩ := still HB4 HN4 HH4 hb5;clear hb5 c0 c1 c2 f0 f1 f2 d0 d1 d2 g0 g1 g2;obtain ⟨⟨d0, d1, d2⟩, g0, g1, g2⟩ := num_cells HH5.out
 go_wp2_with fail
 rw [store_float];go_simp
 go_wp2_with fail
 obtain ⟨r1, r2⟩ := set3m (x := .bool f') (y := .int .i64 i') (z := .float .f64 u') HB5.out (Nat.le_refl _) HH5.out;exact bodyPost_ret (res_signed r1 rfl rfl rfl) rfl ⟨rfl, r2⟩
set_option maxRecDepth 100000 in
set_option maxHeartbeats 4000000 in
theorem signed_min (s t : ByteArray) (i : Int) (u : Nat) (w : World) (hcp : ∀ w, Calls Tryz.prog 81 #[.string s, .string ⟨#[45]⟩] w fun e w' => e = .returned (.tuple #[.string t, .bool true]) ∧ w' = w)
  (hN : ∀ w', Below w.heap.size w w' → Calls Tryz.prog 24 #[.string t] w' fun r w2 => r = nmEnd (some (true, i, u)) ∧ Below w'.heap.size w' w2)
  (T Z : ByteArray) (hT0 : T.toList.isEmpty = true) (hZ : (Z.toList == NB.min19) = true)
  (hE : (FloatKind.f64.format.order u 4890909195324358656 == some .eq) = true)
  (hT : ∀ w, Calls Tryz.prog 82 #[.string t, .string ⟨#[48, 49, 50, 51, 52, 53, 54, 55, 56, 57]⟩] w fun e w' => e = .returned (.string T) ∧ Below w.heap.size w w')
  (hL : ∀ w, Calls Tryz.prog 83 #[.string t, .string ⟨#[48]⟩] w fun e w' => e = .returned (.string Z) ∧ w' = w) :
  Calls Tryz.prog 58 #[.string s] w fun r w' => r = nmEnd (some (false, -9223372036854775808, 0)) ∧ Below w.heap.size w w' := by
 have HN := hid hN;have HT := hid hT;clear hT;have HL := hid hL;clear hL;have HG := hid (intN_any (-9223372036854775808));clear hN;go_enter Tryz.func58, Tryz.ntmps58
 go_wp2_with (go_at_call 81; refine (hcp _).mono ?_; rintro r w1 ⟨rfl, rfl⟩)
 obtain ⟨w1, hw1⟩ : ∃ w1, w1 = w.alloc (.cells #[.bool false, .int .i64 0, .float .f64 0] 50) := ⟨_, rfl⟩;have HB1 : Hid (Below w.heap.size w w1) := hid (by rw [hw1]; exact (Below.refl _ _).alloc (Nat.le_refl _) _);have HH1 : Hid (w1.heap[w.heap.size]? = some (.cells #[.bool false, .int .i64 0, .float .f64 0] 50 (0, 0))) := hid (by rw [hw1]; exact Array.getElem?_push_size);rw [← hw1];clear hw1;refine (HN.out w1 HB1.out).mono ?_;rintro r w2 ⟨rfl, hb2⟩;have HB2 : Hid (Below w.heap.size w w2) := hid (HB1.out.trans (hb2.mono HB1.out.size));have HH2 : Hid (w2.heap[w.heap.size]? = some (.cells #[.bool false, .int .i64 0, .float .f64 0] 50 (0, 0))) := hid ((hb2.block _ (Array.getElem?_eq_some_iff.1 HH1.out).1).trans HH1.out);clear hb2;unfold nmEnd
 go_wp2_with fail
 rw [store_float];go_simp;obtain ⟨w3, hw3⟩ : ∃ w3, w3 = w2.alloc (.cells #[.bool true, .int .i64 i, .float .f64 u] 50) := ⟨_, rfl⟩;obtain ⟨HB3, hn3, hh3⟩ := third hw3 HB2 HH2;rw [← hw3];clear hw3;obtain ⟨⟨c0, c1, c2⟩, f0, f1, f2⟩ := num_cells hn3;obtain ⟨⟨d0, d1, d2⟩, g0, g1, g2⟩ := num_cells hh3;have HN3 := hid hn3;have HH3 := hid hh3;clear hn3 hh3
 go_wp2_with fail
 refine (HT.out w3).mono ?_;rintro r w4 ⟨rfl, hb4⟩;obtain ⟨HB4, HN4, HH4⟩ := still HB3 HN3 HH3 hb4;clear hb4 c0 c1 c2 f0 f1 f2 d0 d1 d2 g0 g1 g2;obtain ⟨⟨c0, c1, c2⟩, f0, f1, f2⟩ := num_cells HN4.out;obtain ⟨⟨d0, d1, d2⟩, g0, g1, g2⟩ := num_cells HH4.out
 go_wp2_with fail
 refine (HL.out w4).mono ?_;rintro r w6 ⟨rfl, rfl⟩
 go_wp2_with fail
 refine (HG.out w6).mono ?_;rintro r w5 ⟨rfl, hb5⟩;obtain ⟨HB5, HN5, HH5⟩ := still HB4 HN4 HH4 hb5;clear hb5 c0 c1 c2 f0 f1 f2 d0 d1 d2 g0 g1 g2;obtain ⟨⟨d0, d1, d2⟩, g0, g1, g2⟩ := num_cells HH5.out
 go_wp2_with fail
 rw [store_float];go_simp
 go_wp2_with fail
 obtain ⟨r1, r2⟩ := set3m (x := .bool false) (y := .int .i64 (-9223372036854775808)) (z := .float .f64 0) HB5.out (Nat.le_refl _) HH5.out;exact bodyPost_ret (res_signed r1 rfl rfl rfl) rfl ⟨rfl, r2⟩
end Go.Proofs.YtlblkajnmdhmdaaGreatDoor
namespace Go.Proofs.YtlblkajnmdhmdaaGreatDoor
set_option linter.unusedVariables false
open Go.RowKit Lib Go.Op NR
theorem signedM (s : ByteArray) (h0 : 0 < s.size) (hb : bt s 0 = 45) (o : Option (Bool × Int × Nat)) (hA : NB.Ans (s.extract 1 s.size) o) (w : World) (hR : RdTabs w) (hS : SlowT w w.heap.size) :
  Calls Tryz.prog 58 #[.string s] w fun r w' => r = nmEnd (NB.negO (NB.IsMin (s.extract 1 s.size)) o) ∧ Below w.heap.size w w' := by
 obtain ⟨hp, ht⟩ := cut_minus h0 hb;obtain ⟨t, hte⟩ : ∃ t, s.extract 1 s.size = t := ⟨_, rfl⟩;rw [hte] at hA ht ⊢
 have hcp : ∀ w, Calls Tryz.prog 81 #[.string s, .string ⟨#[45]⟩] w fun e w' => e = .returned (.tuple #[.string t, .bool true]) ∧ w' = w := fun w => by
  have h := Tryz.strings_CutPrefix s ⟨#[45]⟩ w;rw [hp, ht] at h;exact h
 have hN : ∀ w', Below w.heap.size w w' → Calls Tryz.prog 24 #[.string t] w' fun r w2 => r = nmEnd o ∧ Below w'.heap.size w' w2 := fun w' hb => numeral_any t o w' hA (hR.below hb) (hS.below hb)
 match o, hA, hN with
 | none, _, hN => exact signed_plus s t true none w hcp (fun _ => rfl) hN
 | some (f, i, u), hA, hN =>
  obtain ⟨t0, t1, hn⟩ := NB.ans_ok hA f i u rfl
  have hE : f = true → (FloatKind.f64.format.order u 4890909195324358656 == some .eq) = decide (u = 4890909195324358656) := fun hf => NU.ord_eq (by
   rcases hn with ⟨_, _, hu⟩ | ⟨h, _⟩
   ·exact hu
   ·rw [hf] at h; cases h) (by decide)
  obtain ⟨T, hT⟩ : ∃ T : ByteArray, (⟨(Lib.trimS t.data.toList NB.ten).toArray⟩ : ByteArray) = T := ⟨_, rfl⟩;obtain ⟨Z, hZ⟩ : ∃ Z : ByteArray, (⟨(Lib.trimLeftB t.data.toList 48).toArray⟩ : ByteArray) = Z := ⟨_, rfl⟩
  have hTr : ∀ w, Calls Tryz.prog 82 #[.string t, .string ⟨#[48, 49, 50, 51, 52, 53, 54, 55, 56, 57]⟩] w fun e w' => e = .returned (.string T) ∧ Below w.heap.size w w' := fun w => by
   have := trimD_any t (by omega) w;rw [hT] at this;exact this
  have hLe : ∀ w, Calls Tryz.prog 83 #[.string t, .string ⟨#[48]⟩] w fun e w' => e = .returned (.string Z) ∧ w' = w := fun w => by
   have := Tryz.strings_TrimLeft_one t 48 (by decide) w;rw [hZ] at this;exact this
  have hTl : T.toList = Lib.trimS t.data.toList NB.ten := (by rw [← hT, ByteArray.toList_eq]);have hZl : Z.toList = Lib.trimLeftB t.data.toList 48 := (by rw [← hZ, ByteArray.toList_eq])
  have hTe : (∀ k, k < t.size → isD (bt t k)) → T.toList.isEmpty = true := fun h => by
   rw [hTl, (NB.trim_nil _).2 (NB.mem_bt.2 h)];rfl
  have hTn : ¬ (∀ k, k < t.size → isD (bt t k)) → T.toList.isEmpty = false := fun h => by
   rw [hTl, List.isEmpty_eq_false_iff];exact fun e => h (NB.mem_bt.1 ((NB.trim_nil _).1 e))
  by_cases hmin : NB.IsMin t
  ·have he : NB.negO (NB.IsMin t) (some (f, i, u)) = some (false, -9223372036854775808, 0) := if_pos hmin;rw [he]
   rcases NB.min_ans hmin t0 hA with h | h
   ·cases h
   ·cases h;exact signed_min s t 0 4890909195324358656 w hcp hN T Z (hTe hmin.1) (by rw [hZl]; exact beq_iff_eq.2 ((NB.left_min hmin.1 t0 (by omega)).2 hmin.2)) ((hE rfl).trans (decide_eq_true rfl)) hTr hLe
  ·have he : NB.negO (NB.IsMin t) (some (f, i, u)) = if f = true then some (true, 0, 2 ^ 63 + u) else some (false, wrap64 (-i), 0) := if_neg hmin;rw [he]
   rcases hn with ⟨rfl, rfl, hu⟩ | ⟨rfl, rfl, hi⟩
   ·rw [if_pos rfl];by_cases hC : u = 4890909195324358656
    ·by_cases hall : ∀ k, k < t.size → isD (bt t k)
     ·exact signed_oth s t 0 u w hcp hN true 0 (2 ^ 63 + u) T Z (hTe hall) (by rw [hZl]; exact beq_eq_false_iff_ne.2 (fun h => hmin ⟨hall, (NB.left_min hall t0 (by omega)).1 h⟩)) ((hE rfl).trans (decide_eq_true hC)) hTr hLe (fun w => negate_flt 0 hu w)
     ·exact signed_far s t 0 u w hcp hN true 0 (2 ^ 63 + u) T (hTn hall) ((hE rfl).trans (decide_eq_true hC)) hTr (fun w => negate_flt 0 hu w)
    ·exact signed_flt s t 0 u w hcp hN true 0 (2 ^ 63 + u) ((hE rfl).trans (decide_eq_false hC)) (fun w => negate_flt 0 hu w)
   ·rw [if_neg (by decide)];exact signed_int s t i 0 w hcp hN false (wrap64 (-i)) 0 (fun w => negate_int i 0 w)
theorem signedP (s : ByteArray) (h : ¬ (0 < s.size ∧ bt s 0 = 45)) (o : Option (Bool × Int × Nat)) (hA : NB.Ans s o) (w : World) (hR : RdTabs w) (hS : SlowT w w.heap.size) :
  Calls Tryz.prog 58 #[.string s] w fun r w' => r = nmEnd o ∧ Below w.heap.size w w' := by
 have hp := cut_none h;refine signed_plus s s false o w (fun w => ?_) (fun h => by cases h) (fun w' hb => numeral_any s o w' hA (hR.below hb) (hS.below hb));have h := Tryz.strings_CutPrefix s ⟨#[45]⟩ w;rw [hp] at h;unfold Lib.trimPrefix at h;rw [if_neg (by rw [hp]; decide), Lib.mk_data] at h;exact h
theorem res_text {W : World} {b : Nat} {c : Array Value} {x y z v : Value} {tmps : Array Value} (h : W.heap[b]? = some (.cells c 50 (0, 0))) (hc : c = #[x, y, z]) (h2 : tmps[2]? = some (.pointer (some ⟨b, 0, none⟩))) (h3 : tmps[3]? = some v) :
  (results Tryz.f29 tmps).run Tryz.prog W = .ok (.tuple #[.agg #[x, y, z], v]) W := by
 subst hc;have q0 := nblk_cell h 0;have q1 := nblk_cell h 1;have q2 := nblk_cell h 2;simp at q0 q1 q2;simp [results, Tryz.results29, go_sem, h2, h3, q0, q1, q2]
set_option maxRecDepth 100000 in
theorem inf_pos (w : World) : Calls Tryz.prog 56 #[.int .i64 1] w fun e w' => e = .returned (.float .f64 9218868437227405312) ∧ w = w' := by
 go_enter Tryz.func56, Tryz.ntmps56
 go_wp2_with fail
 rw [show (9218868437227405312 : Int) = ((9218868437227405312 : Nat) : Int) from rfl, mfrombits_run];go_simp
 go_wp2_with fail
 go_ret;exact ⟨rfl, rfl⟩
set_option maxRecDepth 100000 in
theorem inf_neg (w : World) : Calls Tryz.prog 56 #[.int .i64 (-1)] w fun e w' => e = .returned (.float .f64 18442240474082181120) ∧ w = w' := by
 go_enter Tryz.func56, Tryz.ntmps56
 go_wp2_with fail
 rw [show (18442240474082181120 : Int) = ((18442240474082181120 : Nat) : Int) from rfl, mfrombits_run];go_simp
 go_wp2_with fail
 go_ret;exact ⟨rfl, rfl⟩
set_option maxRecDepth 100000 in
theorem nan_any (w : World) : Calls Tryz.prog 57 #[] w fun e w' => e = .returned (.float .f64 9221120237041090561) ∧ w = w' := by
 go_enter Tryz.func57, Tryz.ntmps57
 go_wp2_with fail
 rw [show (9221120237041090561 : Int) = ((9221120237041090561 : Nat) : Int) from rfl, mfrombits_run];go_simp
 go_wp2_with fail
 go_ret;exact ⟨rfl, rfl⟩
set_option maxRecDepth 100000 in
theorem numText_else (s : ByteArray) (o : Option (Bool × Int × Nat)) (w : World) (h1 : (s.toList == [105, 110, 102]) = false) (h2 : (s.toList == [45, 105, 110, 102]) = false) (h3 : (s.toList == [110, 97, 110]) = false)
  (hN : ∀ w', Below w.heap.size w w' → Calls Tryz.prog 58 #[.string s] w' fun r w2 => r = nmEnd o ∧ Below w'.heap.size w' w2) :
  Calls Tryz.prog 29 #[.string s] w fun r w' => r = nmEnd o ∧ Below w.heap.size w w' := by
 have HN := hid hN;clear hN;obtain ⟨f, i, u, b, ho⟩ := nm_form o;go_enter Tryz.func29, Tryz.ntmps29
 go_wp2_with fail
 obtain ⟨w1, hw1⟩ : ∃ w1, w1 = w.alloc (.cells #[.bool false, .int .i64 0, .float .f64 0] 50) := ⟨_, rfl⟩;have HB1 : Hid (Below w.heap.size w w1) := hid (by rw [hw1]; exact (Below.refl _ _).alloc (Nat.le_refl _) _);have HH1 : Hid (w1.heap[w.heap.size]? = some (.cells #[.bool false, .int .i64 0, .float .f64 0] 50 (0, 0))) := hid (by rw [hw1]; exact Array.getElem?_push_size);rw [← hw1];clear hw1;refine (HN.out w1 HB1.out).mono ?_;rintro r w2 ⟨rfl, hb2⟩;rw [ho];have HB2 : Hid (Below w.heap.size w w2) := hid (HB1.out.trans (hb2.mono HB1.out.size));have hh := (hb2.block _ (Array.getElem?_eq_some_iff.1 HH1.out).1).trans HH1.out;clear hb2;obtain ⟨⟨d0, d1, d2⟩, g0, g1, g2⟩ := num_cells hh;have HH2 := hid hh;clear hh
 go_wp2_with fail
 rw [store_float];go_simp
 go_wp2_with fail
 obtain ⟨r1, r2⟩ := set3m (x := .bool f) (y := .int .i64 i) (z := .float .f64 u) HB2.out (Nat.le_refl _) HH2.out;exact bodyPost_ret (res_text r1 rfl rfl rfl) rfl ⟨ho.symm, r2⟩
set_option maxRecDepth 100000 in
theorem numText_inf (w : World) :
  Calls Tryz.prog 29 #[.string ⟨#[105, 110, 102]⟩] w fun r w' => r = nmEnd (some (true, 0, 9218868437227405312)) ∧ Below w.heap.size w w' := by
 have HV := hid inf_pos;have HF := hid (fun w => fltN_num 9218868437227405312 w ((NU.ord_self (by decide)).trans (by decide)));go_enter Tryz.func29, Tryz.ntmps29
 go_wp2_with fail
 obtain ⟨w1, hw1⟩ : ∃ w1, w1 = w.alloc (.cells #[.bool false, .int .i64 0, .float .f64 0] 50) := ⟨_, rfl⟩;have HB1 : Hid (Below w.heap.size w w1) := hid (by rw [hw1]; exact (Below.refl _ _).alloc (Nat.le_refl _) _);have HH1 : Hid (w1.heap[w.heap.size]? = some (.cells #[.bool false, .int .i64 0, .float .f64 0] 50 (0, 0))) := hid (by rw [hw1]; exact Array.getElem?_push_size);rw [← hw1];clear hw1;refine (HV.out w1).mono ?_;rintro r w0 ⟨rfl, rfl⟩
 go_wp2_with fail
 refine (HF.out w1).mono ?_;rintro r w2 ⟨rfl, hb2⟩;have HB2 : Hid (Below w.heap.size w w2) := hid (HB1.out.trans (hb2.mono HB1.out.size));have hh := (hb2.block _ (Array.getElem?_eq_some_iff.1 HH1.out).1).trans HH1.out;clear hb2;obtain ⟨⟨d0, d1, d2⟩, g0, g1, g2⟩ := num_cells hh;have HH2 := hid hh;clear hh
 go_wp2_with fail
 rw [store_float];go_simp
 go_wp2_with fail
 obtain ⟨r1, r2⟩ := set3m (x := .bool true) (y := .int .i64 0) (z := .float .f64 9218868437227405312) HB2.out (Nat.le_refl _) HH2.out;exact bodyPost_ret (res_text r1 rfl rfl rfl) rfl ⟨rfl, r2⟩
set_option maxRecDepth 100000 in
theorem numText_ninf (w : World) :
  Calls Tryz.prog 29 #[.string ⟨#[45, 105, 110, 102]⟩] w fun r w' => r = nmEnd (some (true, 0, 18442240474082181120)) ∧ Below w.heap.size w w' := by
 have HV := hid inf_neg;have HF := hid (fun w => fltN_num 18442240474082181120 w ((NU.ord_self (by decide)).trans (by decide)));go_enter Tryz.func29, Tryz.ntmps29
 go_wp2_with fail
 obtain ⟨w1, hw1⟩ : ∃ w1, w1 = w.alloc (.cells #[.bool false, .int .i64 0, .float .f64 0] 50) := ⟨_, rfl⟩;have HB1 : Hid (Below w.heap.size w w1) := hid (by rw [hw1]; exact (Below.refl _ _).alloc (Nat.le_refl _) _);have HH1 : Hid (w1.heap[w.heap.size]? = some (.cells #[.bool false, .int .i64 0, .float .f64 0] 50 (0, 0))) := hid (by rw [hw1]; exact Array.getElem?_push_size);rw [← hw1];clear hw1;refine (HV.out w1).mono ?_;rintro r w0 ⟨rfl, rfl⟩
 go_wp2_with fail
 refine (HF.out w1).mono ?_;rintro r w2 ⟨rfl, hb2⟩;have HB2 : Hid (Below w.heap.size w w2) := hid (HB1.out.trans (hb2.mono HB1.out.size));have hh := (hb2.block _ (Array.getElem?_eq_some_iff.1 HH1.out).1).trans HH1.out;clear hb2;obtain ⟨⟨d0, d1, d2⟩, g0, g1, g2⟩ := num_cells hh;have HH2 := hid hh;clear hh
 go_wp2_with fail
 rw [store_float];go_simp
 go_wp2_with fail
 obtain ⟨r1, r2⟩ := set3m (x := .bool true) (y := .int .i64 0) (z := .float .f64 18442240474082181120) HB2.out (Nat.le_refl _) HH2.out;exact bodyPost_ret (res_text r1 rfl rfl rfl) rfl ⟨rfl, r2⟩
set_option maxRecDepth 100000 in
theorem numText_nan (w : World) :
  Calls Tryz.prog 29 #[.string ⟨#[110, 97, 110]⟩] w fun r w' => r = nmEnd (some (true, 0, 9221120237041090560)) ∧ Below w.heap.size w w' := by
 have HV := hid nan_any;have HF := hid (fun w => fltN_nan 9221120237041090561 w ((NU.ord_self (by decide)).trans (by decide)));go_enter Tryz.func29, Tryz.ntmps29
 go_wp2_with fail
 obtain ⟨w1, hw1⟩ : ∃ w1, w1 = w.alloc (.cells #[.bool false, .int .i64 0, .float .f64 0] 50) := ⟨_, rfl⟩;have HB1 : Hid (Below w.heap.size w w1) := hid (by rw [hw1]; exact (Below.refl _ _).alloc (Nat.le_refl _) _);have HH1 : Hid (w1.heap[w.heap.size]? = some (.cells #[.bool false, .int .i64 0, .float .f64 0] 50 (0, 0))) := hid (by rw [hw1]; exact Array.getElem?_push_size);rw [← hw1];clear hw1;refine (HV.out w1).mono ?_;rintro r w0 ⟨rfl, rfl⟩
 go_wp2_with fail
 refine (HF.out w1).mono ?_;rintro r w2 ⟨rfl, hb2⟩;have HB2 : Hid (Below w.heap.size w w2) := hid (HB1.out.trans (hb2.mono HB1.out.size));have hh := (hb2.block _ (Array.getElem?_eq_some_iff.1 HH1.out).1).trans HH1.out;clear hb2;obtain ⟨⟨d0, d1, d2⟩, g0, g1, g2⟩ := num_cells hh;have HH2 := hid hh;clear hh
 go_wp2_with fail
 rw [store_float];go_simp
 go_wp2_with fail
 obtain ⟨r1, r2⟩ := set3m (x := .bool true) (y := .int .i64 0) (z := .float .f64 9221120237041090560) HB2.out (Nat.le_refl _) HH2.out;exact bodyPost_ret (res_text r1 rfl rfl rfl) rfl ⟨rfl, r2⟩
theorem text_of {s : ByteArray} {l : List UInt8} (h : s.toList = l) : s = ⟨l.toArray⟩ := by
 apply Go.WideShapes.bytes_inj;rw [← ByteArray.toList_eq, h]
theorem first_minus {s : ByteArray} (h0 : 0 < s.size) (hb : bt s 0 = 45) : s.toList = 45 :: (s.extract 1 s.size).toList := by
 have hl : s.data.toList.length = s.size := Array.length_toList;rw [ByteArray.toList_eq, ByteArray.toList_eq, ByteArray.data_extract, Array.toList_extract, List.extract_eq_take_drop, List.take_of_length_le (by rw [List.length_drop, hl]; exact Nat.le_refl _)];rw [bt_of_lt h0] at hb;have h1 : s.data.toList[0]'(by omega) = 45 := UInt8.toNat_inj.1 hb
 cases hc : s.data.toList with
 | nil => rw [hc] at hl; simp at hl; omega
 | cons a r =>
  simp only [hc, List.getElem_cons_zero] at h1;rw [h1];rfl
theorem numText_any (s : ByteArray) (q : Option (Bool × Int × Nat)) (hq : NB.Opd s q) (w : World) (hR : RdTabs w) (hS : SlowT w w.heap.size) :
  Calls Tryz.prog 29 #[.string s] w fun r w' => r = nmEnd q ∧ Below w.heap.size w w' := by
 rcases hq with ⟨hn, rfl⟩ | ⟨hn, ⟨h0, hb, o, hA, rfl⟩ | ⟨hm, o, hA, rfl⟩⟩
 ·rw [text_of hn];exact numText_nan w
 ·have hs := first_minus h0 hb;have h1 : (s.toList == [105, 110, 102]) = false := (by rw [hs]; rfl);have h3 : (s.toList == [110, 97, 110]) = false := beq_eq_false_iff_ne.2 hn;by_cases ht : (s.extract 1 s.size).toList = [105, 110, 102]
  ·have hm : ¬ NB.IsMin (s.extract 1 s.size) := fun h => by
    rw [text_of ht] at h;have := h.1 0 (by decide);unfold isD at this;exact absurd this (by decide)
   have he : NB.negO (NB.IsMin (s.extract 1 s.size)) (NB.opD (s.extract 1 s.size) o) = some (true, 0, 18442240474082181120) := by
    unfold NB.opD;rw [if_pos ht];show (if NB.IsMin (s.extract 1 s.size) then _ else _) = _;rw [if_neg hm, if_pos rfl]
   rw [he, text_of (hs.trans (by rw [ht]) : s.toList = [45, 105, 110, 102])];exact numText_ninf w
  ·have he : NB.opD (s.extract 1 s.size) o = o := if_neg ht;rw [he];exact numText_else s _ w h1 (by rw [hs]; exact beq_eq_false_iff_ne.2 (fun e => ht (List.cons.inj e).2)) h3 (fun w' hb' => signedM s h0 hb o hA w' (hR.below hb') (hS.below hb'))
 ·by_cases ht : s.toList = [105, 110, 102]
  ·have he : NB.opD s o = some (true, 0, 9218868437227405312) := if_pos ht;rw [he, text_of ht];exact numText_inf w
  ·have he : NB.opD s o = o := if_neg ht;rw [he];refine numText_else s o w (beq_eq_false_iff_ne.2 ht) (beq_eq_false_iff_ne.2 (fun e => hm ?_)) (beq_eq_false_iff_ne.2 hn) (fun w' hb' => signedP s hm o hA w' (hR.below hb') (hS.below hb'));rw [text_of e];exact ⟨by decide, rfl⟩
end Go.Proofs.YtlblkajnmdhmdaaGreatDoor
namespace Go.Proofs.YtlblkajnmdhmdaaGreatDoor
set_option linter.unusedVariables false
open Go.RowKit Lib Go.Op NR Go.Proofs.YtlblkajnmdhmdaaGreatDoor.PFormatNumber Go.Proofs.YtlblkajnmdhmdaaGreatDoorW.PrintWords
def tiEnd (r : ByteArray × Int) : Ending := .returned (.tuple #[.string r.1, .int .i64 r.2])
set_option maxRecDepth 100000 in
theorem toInt_none (s : ByteArray) (w : World)
  (hN : ∀ w', Below w.heap.size w w' → Calls Tryz.prog 29 #[.string s] w' fun r w2 => r = nmEnd none ∧ Below w'.heap.size w' w2) :
  Calls Tryz.prog 11 #[.string s] w fun r w' => r = tiEnd (⟨#[]⟩, 1) ∧ Below w.heap.size w w' := by
 have HN := hid hN;clear hN;go_enter Tryz.func11, Tryz.ntmps11
 go_wp2_with fail
 refine (HN.out w (Below.refl _ _)).mono ?_;rintro r w2 ⟨rfl, hb2⟩;have HB2 := hid hb2;clear hb2;unfold nmEnd
 go_wp2_with fail
 rw [store_float];go_simp
 go_wp2_with fail
 go_ret2;exact ⟨rfl, HB2.out.trans (((Below.refl _ _).alloc (Nat.le_refl _) _).mono HB2.out.size)⟩
set_option maxRecDepth 100000 in
theorem toInt_num (s : ByteArray) (f : Bool) (i : Int) (u : Nat) (n : Option Int) (w : World)
  (hN : ∀ w', Below w.heap.size w w' → Calls Tryz.prog 29 #[.string s] w' fun r w2 => r = nmEnd (some (f, i, u)) ∧ Below w'.heap.size w' w2)
  (hW : ∀ w, Calls Tryz.prog 30 #[.agg #[.bool f, .int .i64 i, .float .f64 u]] w fun e w' => e = wholeEnd n ∧ Below w.heap.size w w')
  (hI : ∀ v w', n = some v → Below w.heap.size w w' → Calls Tryz.prog 31 #[.int .i64 v] w' fun e w2 => e = .returned (.string (strOfNums (NB.itext v))) ∧ Below w'.heap.size w' w2) :
  Calls Tryz.prog 11 #[.string s] w fun r w' => r = tiEnd (NB.tiN n) ∧ Below w.heap.size w w' := by
 have HN := hid hN;have HW := hid hW;have HI := hid hI;clear hN hW hI;obtain ⟨R, hR⟩ : ∃ R, tiEnd (NB.tiN n) = R := ⟨_, rfl⟩;rw [hR];have HR := hid hR;clear hR;go_enter Tryz.func11, Tryz.ntmps11
 go_wp2_with fail
 refine (HN.out w (Below.refl _ _)).mono ?_;rintro r w2 ⟨rfl, hb2⟩;have HB2 := hid hb2;clear hb2;unfold nmEnd
 go_wp2_with fail
 rw [store_float];go_simp;obtain ⟨w3, hw3⟩ : ∃ w3, w3 = w2.alloc (.cells #[.bool f, .int .i64 i, .float .f64 u] 50) := ⟨_, rfl⟩;have hb3 : Below w2.heap.size w2 w3 := (by rw [hw3]; exact (Below.refl _ _).alloc (Nat.le_refl _) _);have hn3 : w3.heap[w2.heap.size]? = some (.cells #[.bool f, .int .i64 i, .float .f64 u] 50 (0, 0)) := (by rw [hw3]; exact Array.getElem?_push_size);have HB3 : Hid (Below w.heap.size w w3) := hid (HB2.out.trans (hb3.mono HB2.out.size));rw [← hw3];clear hw3 hb3;obtain ⟨⟨c0, c1, c2⟩, f0, f1, f2⟩ := num_cells hn3;clear hn3
 go_wp2_with fail
 clear c0 c1 c2 f0 f1 f2;refine (HW.out w3).mono ?_;rintro r w4 ⟨rfl, hb4⟩;have HB4 : Hid (Below w.heap.size w w4) := hid (HB3.out.trans (hb4.mono HB3.out.size));clear hb4
 match n, HI, HR with
 | none, _, HR =>
  unfold wholeEnd
  go_wp2_with fail
  go_ret2;exact ⟨HR.out, HB4.out⟩
 | some v, HI, HR =>
  unfold wholeEnd
  go_wp2_with fail
  refine (HI.out v w4 rfl HB4.out).mono ?_;rintro r w5 ⟨rfl, hb5⟩;have HB5 : Hid (Below w.heap.size w w5) := hid (HB4.out.trans (hb5.mono HB4.out.size));clear hb5
  go_wp2_with fail
  go_ret2;exact ⟨HR.out, HB5.out⟩
theorem toIntI_any (s : ByteArray) (q : Option (Bool × Int × Nat)) (hq : NB.Opd s q) (w : World) (hR : RdTabs w) (hS : SlowT w w.heap.size) (hT : Lib.TabIs Tryz.prog w "internal/strconv.uint64pow10" .u64 Lib.pow10Tab) :
  Calls Tryz.prog 11 #[.string s] w fun r w' => r = tiEnd (NB.tiAns q) ∧ Below w.heap.size w w' := by
 have hok := NB.opdok_of hq;have hN : ∀ w', Below w.heap.size w w' → Calls Tryz.prog 29 #[.string s] w' fun r w2 => r = nmEnd q ∧ Below w'.heap.size w' w2 := fun w' hb => numText_any s q hq w' (hR.below hb) (hS.below hb)
 match q, hok, hN with
 | none, _, hN => exact toInt_none s w hN
 | some (f, i, u), hok, hN =>
  have hu : u < 2 ^ 64 := by
   rcases hok with ⟨_, _, h⟩ | ⟨_, rfl, _⟩
   ·exact h
   ·decide
  refine toInt_num s f i u (NB.numI f i u) w hN (fun w => whole_any f i u hu w) (fun v w' hv hb => ?_)
  have hr : -9223372036854775808 ≤ v ∧ v ≤ 9223372036854775807 := by
   rcases hok with ⟨rfl, rfl, _⟩ | ⟨rfl, rfl, h⟩
   ·exact NB.wordI_range hv
   ·cases hv;exact h
  exact itoa_w v hr.1 hr.2 w' (Lib.tabBelow_of_tabIs hT _ hb)
set_option maxRecDepth 100000 in
theorem lawT_any (s : ByteArray) (w : World) (hI : ∀ q w', NB.Opd s q → Below w.heap.size w w' → Calls Tryz.prog 11 #[.string s] w' fun r w2 => r = tiEnd (NB.tiAns q) ∧ Below w'.heap.size w' w2) :
  Calls Tryz.prog 4 #[.string s] w fun e w' => e = .returned (.bool true) ∧ Below w.heap.size w w' := by
 by_cases hbig : 1048576 < s.size
 ·have hd : decide ((1048576 : Int) < (s.size : Int)) = true := decide_eq_true (by omega);go_enter Tryz.func4, Tryz.ntmps4
  go_wp2_with fail
  go_ret;exact ⟨rfl, Below.refl _ _⟩
 ·have hd : decide ((1048576 : Int) < (s.size : Int)) = false := decide_eq_false (by omega);obtain ⟨q, hq, hev⟩ := NB.toint_ev s;obtain ⟨k, hk⟩ := hev.rounds;have hi := hI q;obtain ⟨⟨r1, r2⟩, hr⟩ : ∃ r, NB.tiAns q = r := ⟨_, rfl⟩;rw [hr] at hk hi;unfold tiEnd at hi;have HK := hid hk;have HI := hid (fun w' hb => hi w' hq hb);clear hI hi hk hr hq hev;go_enter Tryz.func4, Tryz.ntmps4
  go_wp2_with fail
  refine (spec_ToInteger.calls k s r1 r2 w HK.out).mono ?_;rintro r w1 ⟨rfl, hb1⟩;have HB1 := hid hb1;clear hb1
  go_wp2_with fail
  refine (HI.out w1 HB1.out).mono ?_;rintro r w2 ⟨rfl, hb2⟩;have HB2 : Hid (Below w.heap.size w w2) := hid (HB1.out.trans (hb2.mono HB1.out.size));clear hb2
  go_wp2_with fail
  go_ret;exact ⟨rfl, HB2.out⟩
end Go.Proofs.YtlblkajnmdhmdaaGreatDoor
