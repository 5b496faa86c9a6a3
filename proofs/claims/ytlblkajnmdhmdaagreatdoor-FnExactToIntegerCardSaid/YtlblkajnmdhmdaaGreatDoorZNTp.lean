/-
  Walks: what ToInteger's program does with a number: fltN, intN, negate.
  Plain: what the program asks of the digits of 2^63: Trim, TrimLeft; the numeral's answer there.
-/
import Derived.Test.YtlblkajnmdhmdaaGreatDoorZNTl
import Derived.Test.YtlblkajnmdhmdaaGreatDoorZNPn
import Derived.Test.YtlblkajnmdhmdaaGreatDoorZNNs
import Derived.Test.YtlblkajnmdhmdaaGreatDoorZNTm
import Derived.Test.YtlblkajnmdhmdaaGreatDoorZNGe
import Derived.Shelf.Strings.SlTrimAscii
namespace Go.Proofs.YtlblkajnmdhmdaaGreatDoor
set_option linter.unusedVariables false
open Go.RowKit Lib Go.Op
theorem whole_any (f : Bool) (i : Int) (u : Nat) (hu : u < 2 ^ 64) (w : World) :
  Calls Tryz.prog 30 #[.agg #[.bool f, .int .i64 i, .float .f64 u]] w fun e w' => e = wholeEnd (NB.numI f i u) ∧ Below w.heap.size w w' := by
 cases f with
 | false => exact whole_int i u w
 | true => exact whole_flt i u hu w
def numA (f : Bool) (i : Int) (u : Nat) : Value := .agg #[.bool f, .int .i64 i, .float .f64 u]
theorem set3m {B g : Nat} {w w3 : World} {x y z x0 y0 z0 : Value} (hB : Below B w w3) (hg : B ≤ g) (hh : w3.heap[g]? = some (.cells #[x0, y0, z0] 50 (0, 0))) :
  (((w3.setCell ⟨g, 0, none⟩ x).setCell ⟨g, 1, none⟩ y).setCell ⟨g, 2, none⟩ z).heap[g]? = some (.cells #[x, y, z] 50 (0, 0)) ∧ Below B w (((w3.setCell ⟨g, 0, none⟩ x).setCell ⟨g, 1, none⟩ y).setCell ⟨g, 2, none⟩ z) :=
 ⟨nblk_set (nblk_set (nblk_set hh 0 x) 1 y) 2 z, ((hB.setCell hg _).setCell hg _).setCell hg _⟩
theorem res_neg {W : World} {b : Nat} {c : Array Value} {x y z : Value} {tmps : Array Value} (h : W.heap[b]? = some (.cells c 50 (0, 0))) (hc : c = #[x, y, z]) (h2 : tmps[2]? = some (.pointer (some ⟨b, 0, none⟩))) :
  (results Tryz.f84 tmps).run Tryz.prog W = .ok (.agg #[x, y, z]) W := by
 subst hc;have q0 := nblk_cell h 0;have q1 := nblk_cell h 1;have q2 := nblk_cell h 2;simp at q0 q1 q2;simp [results, Tryz.results84, go_sem, h2, q0, q1, q2]
/-- Two blocks made, one behind the other: the second one's cells. -/
theorem two_made {w w1 : World} {c d : Obj} (hw1 : w1 = (w.alloc c).alloc d) : Below w.heap.size w w1 ∧ w1.heap[w.heap.size + 1]? = some d := by
 have := Array.getElem?_push_size (xs := (w.alloc c).heap) (x := d);rw [show (w.alloc c).heap.size = w.heap.size + 1 by simp] at this;rw [hw1];exact ⟨((Below.refl _ _).alloc (Nat.le_refl _) _).alloc (by simp) _, this⟩
set_option maxRecDepth 100000 in
theorem negate_int (i : Int) (u : Nat) (w : World) :
  Calls Tryz.prog 84 #[numA false i u] w fun e w' => e = .returned (numA false (wrap64 (-i)) 0) ∧ Below w.heap.size w w' := by
 unfold numA;have HI := intN_any (wrap64 (-i));go_enter Tryz.func84, Tryz.ntmps84
 go_wp2_with fail
 obtain ⟨w1, hw1⟩ : ∃ w1, w1 = (w.alloc (.cells #[.bool false, .int .i64 i, .float .f64 u] 50)).alloc (.cells #[.bool false, .int .i64 0, .float .f64 0] 50) := ⟨_, rfl⟩;obtain ⟨hb1, hh1⟩ := two_made hw1;rw [← hw1];clear hw1;refine (HI w1).mono ?_;rintro r w2 ⟨rfl, hb2⟩;have HB2 : Hid (Below w.heap.size w w2) := hid (hb1.trans (hb2.mono hb1.size));have hh := (hb2.block _ (Array.getElem?_eq_some_iff.1 hh1).1).trans hh1;clear hb2 hb1 hh1;obtain ⟨⟨c0, c1, c2⟩, f0, f1, f2⟩ := num_cells hh;have HH := hid hh;clear hh
 go_wp2_with fail
 rw [store_float];go_simp
 go_wp2_with fail
 obtain ⟨r1, r2⟩ := set3m (x := .bool false) (y := .int .i64 (wrap64 (-i))) (z := .float .f64 0) HB2.out (Nat.le_succ _) HH.out;exact bodyPost_ret (res_neg r1 rfl rfl) rfl ⟨rfl, r2⟩
set_option maxRecDepth 100000 in
theorem negate_flt (i : Int) {u : Nat} (hu : u ≤ 2047 * 2 ^ 52) (w : World) :
  Calls Tryz.prog 84 #[numA true i u] w fun e w' => e = .returned (numA true 0 (2 ^ 63 + u)) ∧ Below w.heap.size w w' := by
 have hx : negFloat .f64 u = 2 ^ 63 + u := NU.neg_major (b := u) (by omega);obtain ⟨U, hU⟩ : ∃ U, 2 ^ 63 + u = U := ⟨_, rfl⟩;have HI : ∀ w, Calls Tryz.prog 33 #[.float .f64 U] w fun e w' => e = .returned (.agg #[.bool true, .int .i64 0, .float .f64 U]) ∧ Below w.heap.size w w' := fun w => fltN_num U w ((NU.ord_self (by omega)).trans (decide_eq_true (by omega)));rw [hU] at hx ⊢;clear hU hu;have HX := hid hx;clear hx;unfold numA;go_enter Tryz.func84, Tryz.ntmps84
 go_wp2_with fail
 rw [neg_run, HX.out];go_simp
 go_wp2_with fail
 obtain ⟨w1, hw1⟩ : ∃ w1, w1 = (w.alloc (.cells #[.bool true, .int .i64 i, .float .f64 u] 50)).alloc (.cells #[.bool false, .int .i64 0, .float .f64 0] 50) := ⟨_, rfl⟩;obtain ⟨hb1, hh1⟩ := two_made hw1;rw [← hw1];clear hw1;refine (HI w1).mono ?_;rintro r w2 ⟨rfl, hb2⟩;have HB2 : Hid (Below w.heap.size w w2) := hid (hb1.trans (hb2.mono hb1.size));have hh := (hb2.block _ (Array.getElem?_eq_some_iff.1 hh1).1).trans hh1;clear hb2 hb1 hh1;obtain ⟨⟨c0, c1, c2⟩, f0, f1, f2⟩ := num_cells hh;have HH := hid hh;clear hh
 go_wp2_with fail
 rw [store_float];go_simp
 go_wp2_with fail
 obtain ⟨r1, r2⟩ := set3m (x := .bool true) (y := .int .i64 0) (z := .float .f64 U) HB2.out (Nat.le_succ _) HH.out;exact bodyPost_ret (res_neg r1 rfl rfl) rfl ⟨rfl, r2⟩
end Go.Proofs.YtlblkajnmdhmdaaGreatDoor
namespace Go.Proofs.YtlblkajnmdhmdaaGreatDoor.NB
set_option linter.unusedVariables false
open Go Go.Proofs.YtlblkajnmdhmdaaGreatDoor.NU
open NR (isD evs expI HasExp Digs scan dpt)
/-- At the digits of 2^63 a numeral answers the float 2^63, or it is too long. -/
theorem min_ans {d : ByteArray} {o : Option (Bool × Int × Nat)} (hm : IsMin d) (h0 : 0 < d.size) (h : Ans d o) : o = none ∨ o = some (true, 0, 4890909195324358656) := by
 obtain ⟨hd, hv⟩ := hm
 rcases h with ⟨_, rfl⟩ | ⟨_, hx, rfl⟩ | ⟨_, _, ⟨P, E, hP, rfl⟩ | ⟨_, rfl⟩⟩
 ·exact Or.inl rfl
 ·exfalso;obtain ⟨h1, h2, h3⟩ := hx;have := hd 1 h1;unfold isD at this;omega
 ·right
  have hPs : P = d.size ∧ E = 0 := by
   rcases hP.2 with h | ⟨q, neg, ⟨h1, h2, _⟩, _⟩
   ·exact h
   ·exfalso;have := hd P h1;unfold isD at this;omega
  obtain ⟨rfl, rfl⟩ := hPs
  have hdot : (scan d d.size).dot = false := by
   rw [dot_pt]
   have : ∀ k, k ≤ d.size → pt d k = 0 := by
    intro k
    induction k with
    | zero => intro _; rfl
    | succ k ih =>
     intro hk;have hb := hd k hk;unfold isD at hb;show (if NR.bt d k = 46 then pt d k + 1 else pt d k) = 0;rw [if_neg (by omega)];exact ih (by omega)
   rw [this d.size (Nat.le_refl _)];rfl
  have hnum : numW d d.size 0 = 4890909195324358656 := by
   unfold numW dpt;rw [hdot, hv, if_neg (by decide)];rw [show ((scan d d.size).nd : Int) + 0 - ((scan d d.size).nd : Int) = 0 by omega];unfold wordE;have := isV_word c63;rw [show (9223372036854775808 : Nat) * 10 ^ (0 : Int).toNat = 9223372036854775808 by decide, show 10 ^ (-(0 : Int)).toNat = 1 by decide];exact this
  unfold decAns decI;rw [if_neg (fun h => by have := h.2.2; omega)];dsimp only;rw [hnum, if_pos (by decide)]
 ·exact Or.inl rfl
/-- The ten digits. -/
abbrev ten : List UInt8 := [48, 49, 50, 51, 52, 53, 54, 55, 56, 57]
theorem ten_has (b : UInt8) : ten.contains b = true ↔ isD b.toNat := by
 have h : ∀ n : Fin 256, (ten.contains (UInt8.ofNat n.val) = true) ↔ (48 ≤ n.val ∧ n.val ≤ 57) := (by decide +kernel);have := h ⟨b.toNat, UInt8.toNat_lt b⟩;rw [show UInt8.ofNat b.toNat = b from UInt8.ofNat_toNat] at this;exact this
theorem drop_nil {p : UInt8 → Bool} : ∀ {l : List UInt8}, l.dropWhile p = [] ↔ ∀ b ∈ l, p b = true
 | [] => by simp
 | a :: l => by
  have ih := @drop_nil p l;by_cases h : p a = true
  ·rw [List.dropWhile_cons_of_pos h, ih];simp [h]
  ·rw [List.dropWhile_cons_of_neg h];simp [h]
theorem drop_head {p : UInt8 → Bool} {a : UInt8} {r : List UInt8} : ∀ {l : List UInt8}, l.dropWhile p = a :: r → p a = false
 | [] => fun h => by cases h
 | b :: l => fun h => by
  by_cases hb : p b = true
  ·rw [List.dropWhile_cons_of_pos hb] at h;exact drop_head h
  ·rw [List.dropWhile_cons_of_neg hb] at h;cases h;exact Bool.eq_false_iff.2 hb
/-- Nothing is left where every byte is a digit. -/
theorem trim_nil (l : List UInt8) : Lib.trimS l ten = [] ↔ ∀ b ∈ l, isD b.toNat := by
 unfold Lib.trimS Lib.trimLeftS Lib.trimRightS;constructor
 ·intro h b hb;rw [drop_nil] at h;by_cases hall : ∀ c ∈ l.reverse, ten.contains c = true
  ·exact (ten_has b).1 (hall b (List.mem_reverse.2 hb))
  ·exfalso;apply hall
   -- what the right trim leaves ends in no digit
   cases hr : l.reverse.dropWhile (ten.contains ·) with
   | nil => exact drop_nil.1 hr
   | cons a r =>
    have h1 := drop_head hr;have h2 := h a (by rw [hr]; simp);rw [h1] at h2;cases h2
 ·intro h
  have : l.reverse.dropWhile (ten.contains ·) = [] := drop_nil.2 (fun b hb => (ten_has b).2 (h b (List.mem_reverse.1 hb)))
  rw [this];rfl
theorem mem_bt {t : ByteArray} : (∀ b ∈ t.data.toList, isD b.toNat) ↔ ∀ k, k < t.size → isD (NR.bt t k) := by
 have hl : t.data.toList.length = t.size := Array.length_toList;constructor
 ·intro h k hk;rw [NR.bt_of_lt hk];exact h _ (List.getElem_mem (by omega : k < t.data.toList.length))
 ·intro h b hb;obtain ⟨k, hk, rfl⟩ := List.getElem_of_mem hb;rw [hl] at hk;have := h k hk;rw [NR.bt_of_lt hk] at this;exact this
/-- The zeros at the head struck: what is left is the digits of 2^63 just where the text's value is 2^63. -/
theorem left_min {t : ByteArray} (hd : ∀ k, k < t.size → isD (NR.bt t k)) (h0 : 0 < t.size) (hs : t.size ≤ 1000) : Lib.trimLeftB t.data.toList 48 = min19 ↔ fdig t t.size = 9223372036854775808 := by
 have hl : t.data.toList.length = t.size := Array.length_toList
 -- the zeros ahead
 obtain ⟨q, hq, hz, hn⟩ : ∃ q, q ≤ t.size ∧ (∀ k, k < q → NR.bt t k = 48) ∧ (q < t.size → NR.bt t q ≠ 48) := by
  have : ∀ n, n ≤ t.size → (∃ q, q ≤ n ∧ (∀ k, k < q → NR.bt t k = 48) ∧ (q < n → NR.bt t q ≠ 48)) := by
   intro n
   induction n with
   | zero => intro _; exact ⟨0, Nat.le_refl _, fun k hk => absurd hk (by omega), fun h => absurd h (by omega)⟩
   | succ n ih =>
    intro hn;obtain ⟨q, h1, h2, h3⟩ := ih (by omega);by_cases hq : q < n
    ·exact ⟨q, by omega, h2, fun _ => h3 hq⟩
    ·obtain rfl : q = n := (by omega);by_cases h48 : NR.bt t q = 48
     ·exact ⟨q + 1, Nat.le_refl _, fun k hk => by
       by_cases e : k = q
       ·rw [e]; exact h48
       ·exact h2 k (by omega), fun h => absurd h (by omega)⟩
     ·exact ⟨q, by omega, h2, fun _ => h48⟩
  exact this t.size (Nat.le_refl _)
 have hdrop : Lib.trimLeftB t.data.toList 48 = t.data.toList.drop q := by
  rw [← Lib.trimLeftS_one];apply Lib.trimLeftS_drop _ _ _ (by omega)
  ·intro j b hj hb;obtain ⟨hj2, rfl⟩ := List.getElem?_eq_some_iff.1 hb;have := hz j hj;rw [NR.bt_of_lt (by omega)] at this;rw [Lib.contains_one];exact beq_iff_eq.2 (UInt8.toNat_inj.1 this)
  ·intro b hb;obtain ⟨hj2, rfl⟩ := List.getElem?_eq_some_iff.1 hb;have := hn (by omega);rw [NR.bt_of_lt (by omega)] at this;rw [Lib.contains_one];exact beq_eq_false_iff_ne.2 (fun e => this (congrArg UInt8.toNat (show t[q] = 48 from e)))
 rw [hdrop];by_cases hqs : q < t.size
 ·obtain ⟨z, hzz⟩ : ∃ z, t.extract q t.size = z := ⟨_, rfl⟩;have hv : View z t (0 + q) := (by rw [← hzz]; exact (View.refl t).cut (n := q) (by omega));rw [Nat.zero_add] at hv;have hzs := hv.size
  have hzl : z.toList = t.data.toList.drop q := by
   rw [ByteArray.toList_eq, ← hzz];rw [ByteArray.data_extract, Array.toList_extract, List.extract_eq_take_drop, List.take_of_length_le (by rw [List.length_drop]; omega)]
  have hf := fdig_view hv hd hz hqs z.size (by omega);rw [show q + z.size = t.size by omega] at hf;rw [← hzl, hf];exact min_iff (fun k hk => by rw [hv.at_]; exact hd (q + k) (by omega)) (by omega) (Or.inl (by rw [hv.at_]; exact hn hqs))
 ·obtain rfl : q = t.size := (by omega);rw [List.drop_of_length_le (by omega)]
  have hzero : ∀ k, k ≤ t.size → fdig t k = 0 := by
   intro k
   induction k with
   | zero => intro _; rfl
   | succ k ih =>
    intro hk;have ih := ih (by omega);have h48 := hz k (by omega);show (if NR.bt t k = 46 then fdig t k else fdig t k * 10 + (NR.bt t k - 48)) = 0;rw [ih, h48];rfl
  rw [hzero t.size (Nat.le_refl _)];constructor
  ·intro h; cases h
  ·intro h; omega
end Go.Proofs.YtlblkajnmdhmdaaGreatDoor.NB
