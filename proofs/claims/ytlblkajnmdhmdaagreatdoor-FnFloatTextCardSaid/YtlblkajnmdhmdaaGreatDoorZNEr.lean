/-
  Plain: the text that FormatFloat writes is a numeral that reads as the digits' number.
-/
import Derived.Test.YtlblkajnmdhmdaaGreatDoorZNPr
import Derived.Test.YtlblkajnmdhmdaaGreatDoorZNFy
namespace Go.Proofs.YtlblkajnmdhmdaaGreatDoor
set_option linter.unusedVariables false
open Go.RowKit Lib NR Go.Sort
def rs0 : RS := ⟨0, 0, 0, 0, false, false, false⟩
def foldS (l : List UInt8) : RS := l.foldl (fun r b => NR.step r b.toNat) rs0
theorem bt_list (t : List UInt8) (i : Nat) (h : i < t.length) : bt ⟨t.toArray⟩ i = t[i].toNat := by
  rw [bt_of_lt (show i < (⟨t.toArray⟩ : ByteArray).size from h)]
  rfl
theorem scan_list (t : List UInt8) : ∀ k, k ≤ t.length → scan ⟨t.toArray⟩ k = foldS (t.take k)
  | 0, _ => rfl
  | k + 1, h => by
    show NR.step (scan _ k) (bt _ k) = _
    rw [scan_list t k (by omega), bt_list t k (by omega), List.take_add_one, List.getElem?_eq_getElem (by omega)]
    unfold foldS
    rw [List.foldl_append]
    rfl
def valS (m : Nat) (l : List UInt8) : Nat := l.foldl (fun m b => m * 10 + (b.toNat - 48)) m
theorem fold_digits : ∀ (l : List UInt8) (r : RS), (∀ b ∈ l, isD b.toNat) → 0 < r.nd → r.nm + l.length ≤ 19 → r.dig = true →
    l.foldl (fun r b => NR.step r b.toNat) r = { r with m := valS r.m l, nd := r.nd + l.length, nm := r.nm + l.length }
  | [], r, _, _, _, _ => rfl
  | b :: l, r, hd, h0, hn, hg => by
    have hb := hd b (List.mem_cons_self ..)
    unfold isD at hb
    have hlen : (b :: l).length = l.length + 1 := rfl
    rw [hlen] at hn ⊢
    have hst : NR.step r b.toNat = { r with dig := true, nd := r.nd + 1, m := r.m * 10 + (b.toNat - 48), nm := r.nm + 1 } := by
      unfold NR.step
      rw [if_neg (by omega), if_neg (by omega), if_pos (by omega)]
    show l.foldl _ (NR.step r b.toNat) = _
    rw [hst, fold_digits l _ (fun c hc => hd c (List.mem_cons_of_mem _ hc)) (Nat.succ_pos _) (by show r.nm + 1 + l.length ≤ 19; omega) rfl]
    cases r
    simp only [RS.mk.injEq] at *
    refine ⟨rfl, by omega, by omega, trivial, trivial, hg.symm, trivial⟩
theorem val_digits (D : Nat) : ∀ (l : List UInt8) (m : Nat), (∀ t, t < l.length → l[t]! = dg D (l.length - 1 - t)) → m = D / 10 ^ l.length → valS m l = D
  | [], m, _, hm => by rw [hm]; show D / 10 ^ 0 = D; rw [Nat.pow_zero, Nat.div_one]
  | b :: l, m, hd, hm => by
    have hlen : (b :: l).length = l.length + 1 := rfl
    have hb : b = dg D l.length := by
      have := hd 0 (by rw [hlen]; omega)
      rw [hlen, show l.length + 1 - 1 - 0 = l.length by omega] at this
      exact this
    show valS (m * 10 + (b.toNat - 48)) l = D
    refine val_digits D l _ (fun t ht => ?_) ?_
    · have := hd (t + 1) (by rw [hlen]; omega)
      rw [hlen, show l.length + 1 - 1 - (t + 1) = l.length - 1 - t by omega] at this
      simpa using this
    · rw [hb, digit_at, hm, hlen, Nat.pow_succ, ← Nat.div_div_eq_div_mul]
      omega
theorem bt_right (A B : List UInt8) (i : Nat) (h : i < B.length) : bt ⟨(A ++ B).toArray⟩ (A.length + i) = B[i].toNat := by
  rw [bt_list _ _ (by rw [List.length_append]; omega), List.getElem_append_right (by omega)]
  simp
theorem u48 {k : Nat} (h : k < 10) : (UInt8.ofNat (48 + k)).toNat = 48 + k := by rw [UInt8.toNat_ofNat']; omega
/-- The digits of an exponent. -/
def eDig (n : Nat) : List UInt8 := if n < 10 then [48, UInt8.ofNat (48 + n)] else if n < 100 then [UInt8.ofNat (48 + n / 10), UInt8.ofNat (48 + n % 10)] else [UInt8.ofNat (48 + n / 100), UInt8.ofNat (48 + n / 10 % 10), UInt8.ofNat (48 + n % 10)]
theorem expo_eq (X : Int) : expo X = (if X < 0 then 45 else 43) :: eDig X.natAbs := rfl
theorem eDig_ok (A : List UInt8) (n : Nat) (hn : n < 1000) : evs ⟨(A ++ eDig n).toArray⟩ A.length (eDig n).length = n ∧ 2 ≤ (eDig n).length ∧ (eDig n).length ≤ 3 ∧ ∀ i (h : i < (eDig n).length), isD ((eDig n)[i]).toNat := by
  have hr : ∀ (b0 b1 : UInt8), evs ⟨(A ++ [b0, b1]).toArray⟩ A.length 2 = (b0.toNat - 48) * 10 + (b1.toNat - 48) := fun b0 b1 => by
    show (0 * 10 + (bt _ (A.length + 0) - 48)) * 10 + (bt _ (A.length + 1) - 48) = _
    rw [bt_right A [b0, b1] 0 (by simp), bt_right A [b0, b1] 1 (by simp)]
    simp
  have hr3 : ∀ (b0 b1 b2 : UInt8), evs ⟨(A ++ [b0, b1, b2]).toArray⟩ A.length 3 = ((b0.toNat - 48) * 10 + (b1.toNat - 48)) * 10 + (b2.toNat - 48) := fun b0 b1 b2 => by
    show ((0 * 10 + (bt _ (A.length + 0) - 48)) * 10 + (bt _ (A.length + 1) - 48)) * 10 + (bt _ (A.length + 2) - 48) = _
    rw [bt_right A [b0, b1, b2] 0 (by simp), bt_right A [b0, b1, b2] 1 (by simp), bt_right A [b0, b1, b2] 2 (by simp)]
    simp
  have hall : ∀ l : List UInt8, (∀ b ∈ l, isD b.toNat) → ∀ i (h : i < l.length), isD (l[i]).toNat := fun l hl i h => hl _ (List.getElem_mem h)
  have hD : ∀ k, k < 10 → isD (UInt8.ofNat (48 + k)).toNat := fun k hk => by rw [u48 hk]; unfold isD; omega
  unfold eDig
  split
  · refine ⟨?_, by simp, by simp, hall _ ?_⟩
    · show evs _ _ 2 = n
      rw [hr, u48 (by omega)]
      show (48 - 48) * 10 + (48 + n - 48) = n
      omega
    · intro b hb
      simp only [List.mem_cons, List.not_mem_nil, or_false] at hb
      rcases hb with rfl | rfl
      · exact ⟨by decide, by decide⟩
      · exact hD _ (by omega)
  · split
    · refine ⟨?_, by simp, by simp, hall _ ?_⟩
      · show evs _ _ 2 = n
        rw [hr, u48 (by omega), u48 (by omega)]
        omega
      · intro b hb
        simp only [List.mem_cons, List.not_mem_nil, or_false] at hb
        rcases hb with rfl | rfl
        · exact hD _ (by omega)
        · exact hD _ (by omega)
    · refine ⟨?_, by simp, by simp, hall _ ?_⟩
      · show evs _ _ 3 = n
        rw [hr3, u48 (by omega), u48 (by omega), u48 (by omega)]
        omega
      · intro b hb
        simp only [List.mem_cons, List.not_mem_nil, or_false] at hb
        rcases hb with rfl | rfl | rfl
        · exact hD _ (by omega)
        · exact hD _ (by omega)
        · exact hD _ (by omega)
theorem mant_scan {n D : Nat} {d0 : UInt8} {tl : List UInt8} (hl : tl.length = n) (hn : n ≤ 16) (hdig : ∀ t, t ≤ n → (d0 :: tl)[t]! = dg D (n - t)) (h1 : 10 ^ n ≤ D) (h2 : D < 10 ^ (n + 1)) :
    (foldS (mant d0 tl)).m = D ∧ (foldS (mant d0 tl)).nm = n + 1 ∧ dpt (foldS (mant d0 tl)) = 1 ∧ (foldS (mant d0 tl)).dig = true ∧ (foldS (mant d0 tl)).tr = false := by
  have hd0 : d0 = dg D n := hdig 0 (Nat.zero_le _)
  have hv : d0.toNat = 48 + D / 10 ^ n % 10 := by rw [hd0, digit_at]
  have hq1 : 1 ≤ D / 10 ^ n := (Nat.le_div_iff_mul_le (Nat.pow_pos (by decide))).2 (by omega)
  have hq2 : D / 10 ^ n < 10 := by
    rw [Nat.div_lt_iff_lt_mul (Nat.pow_pos (by decide))]
    rw [Nat.pow_succ, Nat.mul_comm] at h2
    exact h2
  have hs1 : NR.step rs0 d0.toNat = ⟨D / 10 ^ n, 1, 1, 0, false, true, false⟩ := by
    unfold NR.step rs0
    rw [if_neg (by omega), if_neg (by omega), if_pos (by decide)]
    simp only [RS.mk.injEq]
    refine ⟨by omega, trivial, trivial, trivial, trivial, trivial, trivial⟩
  have hval : valS (D / 10 ^ n) tl = D := by
    refine val_digits D tl _ (fun t ht => ?_) (by rw [hl])
    have := hdig (t + 1) (by omega)
    rw [show tl.length - 1 - t = n - (t + 1) by omega]
    simpa using this
  by_cases h0 : n = 0
  · subst h0
    have htl := List.eq_nil_of_length_eq_zero hl
    subst htl
    have e : foldS (mant d0 []) = NR.step rs0 d0.toNat := rfl
    rw [e, hs1]
    exact ⟨hval, rfl, rfl, rfl, rfl⟩
  · have e : foldS (mant d0 tl) = tl.foldl (fun r b => NR.step r b.toNat) (NR.step (NR.step rs0 d0.toNat) 46) := by
      unfold foldS mant
      rw [if_neg (by omega)]
      rfl
    have hs2 : NR.step (NR.step rs0 d0.toNat) 46 = ⟨D / 10 ^ n, 1, 1, 1, true, true, false⟩ := by rw [hs1]; rfl
    rw [e, hs2, fold_digits tl _ (fun b hb => ?_) (Nat.zero_lt_one) (by show 1 + tl.length ≤ 19; omega) rfl]
    · exact ⟨hval, by show 1 + tl.length = n + 1; omega, rfl, rfl, rfl⟩
    · obtain ⟨i, hi, rfl⟩ := List.mem_iff_getElem.1 hb
      have := hdig (i + 1) (by omega)
      have h3 : tl[i] = dg D (n - (i + 1)) := by
        rw [← this]
        simp [getElem!_pos, hi]
      rw [h3, digit_at]
      unfold isD
      omega
theorem step_dot {r : RS} {c : Nat} (h : isD c) : (NR.step r c).dot = r.dot := by
  unfold isD at h
  unfold NR.step
  rw [if_neg (by omega)]
  split
  · rfl
  · split <;> rfl
theorem mant_all {n D : Nat} {d0 : UInt8} {tl : List UInt8} (hl : tl.length = n) (hdig : ∀ t, t ≤ n → (d0 :: tl)[t]! = dg D (n - t)) :
    isD d0.toNat ∧ ∀ k (h : k < (mant d0 tl).length), ((mant d0 tl)[k] = 46 ∧ k = 1) ∨ isD ((mant d0 tl)[k]).toNat := by
  have hd : ∀ t, t ≤ n → isD ((d0 :: tl)[t]!).toNat := fun t ht => by
    rw [hdig t ht, digit_at]
    unfold isD
    omega
  have h0 : isD d0.toNat := hd 0 (Nat.zero_le _)
  refine ⟨h0, ?_⟩
  unfold mant
  split
  · intro k h
    have hk : k = 0 := by simp at h; omega
    subst hk
    exact Or.inr h0
  · intro k h
    match k, h with
    | 0, h => exact Or.inr h0
    | 1, h => exact Or.inl ⟨rfl, rfl⟩
    | k + 2, h =>
      have hk : k < tl.length := by simp at h; omega
      have h3 := hd (k + 1) (by omega)
      rw [show (d0 :: tl)[k + 1]! = tl[k] by simp [getElem!_pos, hk]] at h3
      exact Or.inr h3
theorem mant_len {d0 : UInt8} {tl : List UInt8} {n : Nat} (hl : tl.length = n) (hn : n ≤ 16) : 1 ≤ (mant d0 tl).length ∧ (mant d0 tl).length ≤ 18 ∧ (mant d0 tl).take 1 = [d0] := by
  unfold mant
  split <;> simp <;> omega
theorem text_ex {n D : Nat} {d0 : UInt8} {tl : List UInt8} {X : Int} (hl : tl.length = n) (hn : n ≤ 16) (hdig : ∀ t, t ≤ n → (d0 :: tl)[t]! = dg D (n - t)) (h1 : 10 ^ n ≤ D) (h2 : D < 10 ^ (n + 1)) (hX : -999 ≤ X ∧ X ≤ 999) :
    ∃ (P : Nat) (E : Int), (⟨(eText d0 tl X).toArray⟩ : ByteArray).size ≤ 100 ∧ Digs ⟨(eText d0 tl X).toArray⟩ P ∧ ((P = (⟨(eText d0 tl X).toArray⟩ : ByteArray).size ∧ E = 0) ∨ ∃ q neg, HasExp ⟨(eText d0 tl X).toArray⟩ P q neg ∧ E = expI ⟨(eText d0 tl X).toArray⟩ q neg) ∧ (scan ⟨(eText d0 tl X).toArray⟩ P).tr = false ∧ (scan ⟨(eText d0 tl X).toArray⟩ P).m = D ∧ expOf (scan ⟨(eText d0 tl X).toArray⟩ P) E = X - n ∧ P < (⟨(eText d0 tl X).toArray⟩ : ByteArray).size := by
  obtain ⟨a1, a2, a3, a4, a5⟩ := mant_scan hl hn hdig h1 h2
  obtain ⟨b1, b2⟩ := mant_all hl hdig
  obtain ⟨c1, c2, c3⟩ := mant_len (d0 := d0) hl hn
  have hD0 : D ≠ 0 := by have := Nat.pow_pos (n := n) (show 0 < 10 by decide); omega
  obtain ⟨sg, hsg⟩ : ∃ sg : UInt8, sg = if X < 0 then 45 else 43 := ⟨_, rfl⟩
  obtain ⟨M, hM⟩ : ∃ M, M = mant d0 tl := ⟨_, rfl⟩
  obtain ⟨e1, e2, e3, e4⟩ := eDig_ok (M ++ [101, sg]) X.natAbs (by omega)
  obtain ⟨ed, hed⟩ : ∃ ed, ed = eDig X.natAbs := ⟨_, rfl⟩
  rw [← hed] at e1 e2 e3
  have e4' : ∀ i (h : i < ed.length), isD (ed[i]).toNat := by subst hed; exact e4
  have ht : eText d0 tl X = M ++ [101, sg] ++ ed := by
    unfold eText
    rw [expo_eq, hM, hsg, hed]
    simp
  rw [ht]
  rw [← hM] at a1 a2 a3 a4 a5 c1 c2 c3
  have b2' : ∀ k (h : k < M.length), (M[k] = 46 ∧ k = 1) ∨ isD (M[k]).toNat := by subst hM; exact b2
  clear b2 ht hM e4
  have hA : (M ++ [101, sg]).length = M.length + 2 := by simp
  rw [hA] at e1
  have hlen : (M ++ [101, sg] ++ ed).length = M.length + 2 + ed.length := by simp; omega
  have hP : bt ⟨(M ++ [101, sg] ++ ed).toArray⟩ M.length = 101 := by
    have := bt_right M ([101, sg] ++ ed) 0 (by simp)
    rw [← List.append_assoc] at this
    exact this
  have hP1 : bt ⟨(M ++ [101, sg] ++ ed).toArray⟩ (M.length + 1) = sg.toNat := by
    have := bt_right M ([101, sg] ++ ed) 1 (by simp)
    rw [← List.append_assoc] at this
    exact this
  have hQ : ∀ i (h : i < ed.length), bt ⟨(M ++ [101, sg] ++ ed).toArray⟩ (M.length + 2 + i) = (ed[i]).toNat := fun i h => by
    have := bt_right (M ++ [101, sg]) ed i h
    rw [hA] at this
    exact this
  have hM0 : ∀ k (h : k < M.length), bt ⟨(M ++ [101, sg] ++ ed).toArray⟩ k = (M[k]).toNat := fun k h => by
    rw [bt_list _ k (by omega)]
    simp [List.getElem_append_left, h]
  have hsc : ∀ k, k ≤ M.length → scan ⟨(M ++ [101, sg] ++ ed).toArray⟩ k = foldS (M.take k) := fun k hk => by
    rw [scan_list _ k (by omega), List.append_assoc, List.take_append_of_le_length hk]
  obtain ⟨s, hs⟩ : ∃ s : ByteArray, s = ⟨(M ++ [101, sg] ++ ed).toArray⟩ := ⟨_, rfl⟩
  have hsize : s.size = M.length + 2 + ed.length := by rw [hs, ← hlen]; rfl
  rw [← hs] at e1 hP hP1 hQ hM0 hsc ⊢
  have hscM : scan s M.length = foldS M := by rw [hsc _ (Nat.le_refl _), List.take_length]
  have hsg2 : (X < 0 → sg.toNat = 45) ∧ (¬ X < 0 → sg.toNat = 43) := by
    rw [hsg]
    split
    · exact ⟨fun _ => rfl, fun h => absurd ‹_› h⟩
    · exact ⟨fun h => absurd h ‹_›, fun _ => rfl⟩
  refine ⟨M.length, X, by omega, ⟨c1, by omega, fun k hk => ?_, by rw [hscM]; exact a4⟩, Or.inr ⟨M.length + 2, decide (X < 0), ⟨by omega, Or.inl hP, by omega, by omega, fun k h3 h4 => ?_, Or.inr ?_⟩, ?_⟩, by rw [hscM]; exact a5, by rw [hscM]; exact a1, ?_, by omega⟩
  · rw [hM0 k hk]
    rcases b2' k hk with ⟨h3, h4⟩ | h3
    · subst h4
      refine Or.inl ⟨by rw [h3]; rfl, ?_⟩
      rw [hsc 1 c1, c3]
      exact step_dot b1
    · exact Or.inr h3
  · obtain ⟨i, rfl⟩ : ∃ i, k = M.length + 2 + i := ⟨k - (M.length + 2), by omega⟩
    rw [hQ i (by omega)]
    exact e4' i _
  · by_cases hx : X < 0
    · exact Or.inr ⟨rfl, by rw [hP1]; exact hsg2.1 hx, decide_eq_true hx⟩
    · exact Or.inl ⟨rfl, by rw [hP1]; exact hsg2.2 hx, decide_eq_false hx⟩
  · unfold expI
    rw [hsize, show M.length + 2 + ed.length - (M.length + 2) = ed.length by omega, e1]
    by_cases hx : X < 0
    · rw [decide_eq_true hx, if_pos rfl]; omega
    · rw [decide_eq_false hx, if_neg (by decide)]; omega
  · rw [hscM]
    unfold expOf
    rw [a1, if_neg hD0, a2, a3]
    omega
theorem text_num {n D : Nat} {d0 : UInt8} {tl : List UInt8} {X : Int} (hl : tl.length = n) (hn : n ≤ 16) (hdig : ∀ t, t ≤ n → (d0 :: tl)[t]! = dg D (n - t)) (h1 : 10 ^ n ≤ D) (h2 : D < 10 ^ (n + 1)) (hX : -999 ≤ X ∧ X ≤ 999) :
    Num ⟨(eText d0 tl X).toArray⟩ D (X - n) := by
  obtain ⟨P, E, h3, h4, h5, h6, h7, h8, _⟩ := text_ex hl hn hdig h1 h2 hX
  exact ⟨P, E, by omega, h4, h5, h6, h7, h8⟩
theorem fmt_num {u n : Nat} {t : List UInt8} (hn : n ≤ 16) (h : FmtQ u n t) : ∃ (D j jx : Nat) (d0 : UInt8) (tl : List UInt8), NU.isW u j ∧ 17 ≤ j ∧ j ≤ 695 ∧ NU.digK u (n + 1) j = (D, jx) ∧ 10 ^ n ≤ D ∧ D < 10 ^ (n + 1) ∧ 24 ≤ jx ∧ jx ≤ 657 ∧ tl.length = n ∧ (∀ t, t ≤ n → (d0 :: tl)[t]! = dg D (n - t)) ∧ t = eText d0 tl ((jx : Int) - 348) ∧
    Num ⟨t.toArray⟩ D ((jx : Int) - 348 - n) ∧ NU.wordE D ((jx : Int) - 348 - n) = NU.backK u (n + 1) j := by
  obtain ⟨D, j, jx, d0, tl, h1, h2, h3, h4, h5, h6, h7, h8, h9, h10, h11⟩ := h
  refine ⟨D, j, jx, d0, tl, h1, h2, h3, h4, h5, h6, h7, h8, h9, h10, h11, ?_, ?_⟩
  · rw [h11]
    exact text_num h9 hn h10 h5 h6 (by omega)
  · unfold NU.backK
    rw [h4]
    show _ = NU.word (D * NU.tn (jx + 1 - (n + 1))) (NU.td (jx + 1 - (n + 1)))
    rw [← NU.wordE_at, show ((jx + 1 - (n + 1) : Nat) : Int) - 348 = (jx : Int) - 348 - n by omega]
theorem zero_num : Num ⟨[48, 101, 43, 48, 48].toArray⟩ 0 0 := by
  refine ⟨1, 0, by decide, ⟨by decide, by decide, fun k hk => ?_, rfl⟩, Or.inr ⟨3, false, ⟨by decide, Or.inl rfl, by decide, by decide, fun k h3 h4 => ?_, Or.inr (Or.inl ⟨rfl, rfl, rfl⟩)⟩, rfl⟩, rfl, rfl, rfl⟩
  · have : k = 0 := by omega
    subst this
    exact Or.inr ⟨by decide, by decide⟩
  · have h5 : k < 5 := h4
    have : k = 3 ∨ k = 4 := by omega
    rcases this with rfl | rfl
    · exact ⟨by decide, by decide⟩
    · exact ⟨by decide, by decide⟩
end Go.Proofs.YtlblkajnmdhmdaaGreatDoor
