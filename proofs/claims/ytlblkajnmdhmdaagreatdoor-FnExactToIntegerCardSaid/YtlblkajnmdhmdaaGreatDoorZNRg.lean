/-
  Plain law over the printed functions: what the reference's reading of numerals finds: l01HexDigit, l01Hex, l01Whole, l01Exponent.
  Plain law over the printed functions: what the reference's ParseNumber answers at every text.
-/
import Derived.Test.YtlblkajnmdhmdaaGreatDoorZNBig4
import Derived.Test.YtlblkajnmdhmdaaGreatDoorZDDef
import Derived.Test.YtlblkajnmdhmdaaGreatDoorZNMq
namespace Go.Proofs.YtlblkajnmdhmdaaGreatDoor.NB
set_option linter.unusedVariables false
open Go Go.RowKit Go.Proofs.YtlblkajnmdhmdaaGreatDoor.PFormatNumber Go.Proofs.YtlblkajnmdhmdaaGreatDoorW.PrintWords Go.Proofs.YtlblkajnmdhmdaaGreatDoorW.PrintLast Go.Proofs.YtlblkajnmdhmdaaGreatDoorW.PrintMore Go.Proofs.YtlblkajnmdhmdaaGreatDoor.NU
open NR (isD evs expI HasExp Digs)
/-- The words' byte is ours. -/
theorem bt_nr (s : ByteArray) (k : Nat) : bt s (k : Int) = (NR.bt s k : Int) := by
 unfold bt NR.bt;rw [Int.toNat_natCast];split <;> rfl
/-- x is the end of s from place P on. -/
structure View (x s : ByteArray) (P : Nat) : Prop where
 le : P ≤ s.size
 size : x.size = s.size - P
 at_ : ∀ i, NR.bt x i = NR.bt s (P + i)
theorem View.cut {x s : ByteArray} {P : Nat} (h : View x s P) {n : Nat} (hn : n ≤ x.size) : View (x.extract n x.size) s (P + n) := by
 have h1 := h.size;have h2 := h.le;have hsz : (x.extract n x.size).size = s.size - (P + n) := (by rw [ByteArray.size_extract, Nat.min_self]; omega);refine ⟨by omega, hsz, fun i => ?_⟩;by_cases hi : i < (x.extract n x.size).size
 ·rw [NR.bt_of_lt hi, ByteArray.getElem_extract, ← NR.bt_of_lt (s := x) (i := n + i) (by omega), h.at_, Nat.add_assoc]
 ·unfold NR.bt;rw [dif_neg hi, dif_neg (by omega)]
theorem View.refl (s : ByteArray) : View s s 0 := ⟨Nat.zero_le _, rfl, fun i => by rw [Nat.zero_add]⟩
theorem digit_f (c : Nat) : spec_l01Digit.f (c : Int) = some (decide (48 ≤ c ∧ c ≤ 57)) := by
 unfold spec_l01Digit.f;by_cases h1 : (c : Int) ≥ 48
 ·rw [if_pos h1];congr 1;by_cases h2 : c ≤ 57
  ·rw [decide_eq_true (by omega), decide_eq_true (by omega)]
  ·rw [decide_eq_false (by omega), decide_eq_false (by omega)]
 ·rw [if_neg h1, decide_eq_false (by omega)]
/-- A hexadecimal digit's value, or none. -/
def hexI (c : Nat) : Int := if 48 ≤ c ∧ c ≤ 57 then (c : Int) - 48 else if 97 ≤ c ∧ c ≤ 102 then (c : Int) - 87 else if 65 ≤ c ∧ c ≤ 70 then (c : Int) - 55 else -1
theorem hexI_le (c : Nat) : hexI c ≤ 15 := by unfold hexI; split <;> (try split) <;> (try split) <;> omega
/-- The value of the first k hexadecimal digits. -/
def hacc (t : ByteArray) : Nat → Nat
 | 0 => 0
 | k + 1 => hacc t k * 16 + (hexI (NR.bt t k)).toNat
theorem hexDigit_ev {c : Nat} (hc : c < 256) : Ev (fun k => spec_l01HexDigit.f k (c : Int)) (hexI c) := by
 refine Ev.congr (f := fun k => if decide (48 ≤ c ∧ c ≤ 57) = true then (some (wrap64 ((wrap64 ((c : Int))) - 48))) else (if (c : Int) ≥ 97 then (spec_l01HexDigit.j0 k (c : Int) (decide ((c : Int) ≤ 102))) else (spec_l01HexDigit.j0 k (c : Int) false))) (fun k => by unfold spec_l01HexDigit.f; rw [digit_f]; rfl) ?_;unfold hexI;by_cases h1 : 48 ≤ c ∧ c ≤ 57
 ·rw [decide_eq_true h1, if_pos h1, wrap64_of (x := (c : Int)) (by omega) (by omega), wrap64_of (by omega) (by omega)];exact Ev.congr (fun k => if_pos rfl) (Ev.now _)
 ·rw [decide_eq_false h1, if_neg h1];by_cases h2 : 97 ≤ c ∧ c ≤ 102
  ·rw [if_pos h2];refine Ev.congr (f := fun k => spec_l01HexDigit.j0 k (c : Int) true) (fun k => by rw [if_neg (by decide), if_pos (by omega), decide_eq_true (by omega)]) ?_;refine Ev.step (f := fun _ => some ((c : Int) - 87)) (fun k => ?_) (Ev.now _);simp only [spec_l01HexDigit.j0];rw [if_pos trivial, wrap64_of (x := (c : Int)) (by omega) (by omega), wrap64_of (x := (c : Int) - 97) (by omega) (by omega), wrap64_of (by omega) (by omega)];congr 1;omega
  ·rw [if_neg h2];refine Ev.congr (f := fun k => spec_l01HexDigit.j0 k (c : Int) false) (fun k => ?_) ?_
   ·rw [if_neg (by decide)];by_cases h3 : (c : Int) ≥ 97
    ·rw [if_pos h3, decide_eq_false (by omega)]
    ·rw [if_neg h3]
   ·refine Ev.step (f := fun _ => some (if 65 ≤ c ∧ c ≤ 70 then (c : Int) - 55 else -1)) (fun k => ?_) (Ev.now _);simp only [spec_l01HexDigit.j0];rw [if_neg (by decide)];by_cases h3 : 65 ≤ c ∧ c ≤ 70
    ·rw [if_pos (by omega), if_pos (by omega), if_pos h3, wrap64_of (x := (c : Int)) (by omega) (by omega), wrap64_of (x := (c : Int) - 65) (by omega) (by omega), wrap64_of (by omega) (by omega)];congr 1;omega
    ·rw [if_neg h3];by_cases h4 : (c : Int) ≥ 65
     ·rw [if_pos h4, if_neg (by omega)]
     ·rw [if_neg h4]
theorem hex_l0 (t : ByteArray) (ht : t.size ≤ 1000) : ∀ (r j : Nat), j + r = t.size → (∀ k, k < j → 0 ≤ hexI (NR.bt t k)) →
  Ev (fun k => spec_l01Hex.l0 k t (wrap64 (hacc t j : Nat)) (j : Int)) (if ∀ k, k < t.size → 0 ≤ hexI (NR.bt t k) then (false, wrap64 (hacc t t.size : Nat), 0, decide (0 < t.size)) else (false, 0, 0, false)) := by
 intro r
 induction r with
 | zero =>
  intro j hj h;have : j = t.size := (by omega);subst this;rw [if_pos h];refine Ev.step (f := fun _ => some (false, wrap64 (hacc t t.size : Nat), 0, decide (0 < t.size))) (fun k => ?_) (Ev.now _);simp only [spec_l01Hex.l0];rw [if_neg (by omega)];show some (false, wrap64 (hacc t t.size : Nat), (0 : Int), decide ((t.size : Int) > 0)) = _;by_cases h0 : 0 < t.size
  ·rw [decide_eq_true h0, decide_eq_true (by omega)]
  ·rw [decide_eq_false h0, decide_eq_false (by omega)]
 | succ r ih =>
  intro j hj h;have hjl : j < t.size := (by omega);have hx := hexDigit_ev (c := NR.bt t j) (NR.bt_lt _ _);refine Ev.step (f := fun k => (spec_l01HexDigit.f k (NR.bt t j : Int)).bind fun t104 => (if t104 < 0 then (some (false, 0, 0, false)) else (spec_l01Hex.l0 k t (wrap64 ((wrap64 (wrap64 (hacc t j : Nat) * 16)) + t104)) (wrap64 ((j : Int) + 1))))) (fun k => ?_) ?_
  ·simp only [spec_l01Hex.l0];rw [if_pos (by omega), if_pos (by omega), bt_nr]
  ·refine Ev.bind (f := fun k t104 => (if t104 < 0 then (some (false, 0, 0, false)) else (spec_l01Hex.l0 k t (wrap64 ((wrap64 (wrap64 (hacc t j : Nat) * 16)) + t104)) (wrap64 ((j : Int) + 1))))) hx ?_;by_cases hneg : hexI (NR.bt t j) < 0
   ·rw [if_neg (fun hh => by have := hh j hjl; omega)];exact Ev.congr (fun k => if_pos hneg) (Ev.now _)
   ·have h2 := ih (j + 1) (by omega) (fun k hk => by
     by_cases e : k = j
     ·subst e; omega
     ·exact h k (by omega))
    refine Ev.congr (fun k => ?_) h2;rw [if_neg hneg, wrap64_of (x := (j : Int) + 1) (by omega) (by omega)]
    have e : wrap64 (wrap64 (wrap64 ((hacc t j : Nat) : Int) * 16) + hexI (NR.bt t j)) = wrap64 ((hacc t (j + 1) : Nat) : Int) := by
     have e2 : ((hacc t (j + 1) : Nat) : Int) = (hacc t j : Int) * 16 + hexI (NR.bt t j) := by
      show ((hacc t j * 16 + (hexI (NR.bt t j)).toNat : Nat) : Int) = _;omega
     rw [e2];unfold wrap64;omega
    rw [e];rfl
theorem hex_ev (t : ByteArray) (ht : t.size ≤ 1000) : Ev (fun k => spec_l01Hex.f k t) (if ∀ k, k < t.size → 0 ≤ hexI (NR.bt t k) then (false, wrap64 (hacc t t.size : Nat), 0, decide (0 < t.size)) else (false, 0, 0, false)) := by
 have h := hex_l0 t ht t.size 0 (by omega) (fun k hk => absurd hk (by omega));rw [show wrap64 ((hacc t 0 : Nat) : Int) = 0 from wrap64_of (x := ((0 : Nat) : Int)) (by decide) (by decide)] at h;exact h
theorem dv_take_le {L : List Int} (hL : AD L) : ∀ n j, j + n = L.length → dv (L.take j) ≤ dv L := by
 intro n
 induction n with
 | zero => intro j hj; rw [List.take_of_length_le (by omega)]; exact Nat.le_refl _
 | succ n ih =>
  intro j hj;have h1 := ih (j + 1) (by omega);rw [take_snoc_rd (by omega), dv_snoc] at h1;omega
theorem whole_l0 (L : List Int) (hL : AD L) (hlen : L.length ≤ 2000) : ∀ (r j : Nat), j + r = L.length → dv (L.take j) < 9223372036854775808 →
  Ev (fun k => spec_l01Whole.l0 k (dv (L.take j) : Nat) L (L.length : Int) (j : Int)) (if dv L < 9223372036854775808 then ((dv L : Nat), true) else (0, false)) := by
 intro r
 induction r with
 | zero =>
  intro j hj h;rw [List.take_of_length_le (by omega)] at h ⊢;rw [if_pos h];refine Ev.step (f := fun _ => some (((dv L : Nat) : Int), true)) (fun k => ?_) (Ev.now _);simp only [spec_l01Whole.l0];rw [if_neg (by omega)]
 | succ r ih =>
  intro j hj h;have hjl : j < L.length := (by omega);have hx := ad_rd hL hjl;obtain ⟨x, hxe⟩ : ∃ x : Nat, rd L (j : Int) = x := ⟨(rd L (j : Int)).toNat, by omega⟩;rw [hxe] at hx
  have hsn : dv (L.take (j + 1)) = dv (L.take j) * 10 + (x - 48) := by
   rw [take_snoc_rd hjl, dv_snoc, hxe];congr 1;omega
  have hle := dv_take_le hL r (j + 1) (by omega);rw [hsn] at hle;have e1 : wrap64 (wrap64 (x : Int) - 48) = (x : Int) - 48 := (by rw [wrap64_of (x := (x : Int)) (by omega) (by omega), wrap64_of (by omega) (by omega)])
  have e2 : wrap64 (Int.tdiv (wrap64 (9223372036854775807 - ((x : Int) - 48))) 10) = (9223372036854775807 - ((x : Int) - 48)) / 10 := by
   rw [wrap64_of (x := 9223372036854775807 - ((x : Int) - 48)) (by omega) (by omega), Int.tdiv_eq_ediv_of_nonneg (by omega)];exact wrap64_of (by omega) (by omega)
  have hg := h;by_cases hbig : (dv (L.take j) : Int) > (9223372036854775807 - ((x : Int) - 48)) / 10
  ·rw [if_neg (by omega)];refine Ev.step (f := fun _ => some (0, false)) (fun k => ?_) (Ev.now _);simp only [spec_l01Whole.l0];rw [if_pos (by omega), if_pos (by omega), if_pos (by omega), hxe, e1, e2, if_pos hbig]
  ·have h2 := ih (j + 1) (by omega) (by rw [hsn]; omega);refine Ev.step (fun k => ?_) h2;simp only [spec_l01Whole.l0];rw [if_pos (by omega), if_pos (by omega), if_pos (by omega), hxe, e1, e2, if_neg hbig, hsn];rw [wrap64_of (x := ((dv (L.take j) : Nat) : Int) * 10) (by omega) (by omega), wrap64_of (x := (j : Int) + 1) (by omega) (by omega), wrap64_of (by omega) (by omega)];congr 1;omega
theorem whole_ev {L : List Int} (hL : AD L) (hlen : L.length ≤ 2000) : Ev (fun k => spec_l01Whole.f k L) (if dv L < 9223372036854775808 then ((dv L : Nat), true) else (0, false)) := by
 have h := whole_l0 L hL hlen L.length 0 (by omega) (by rw [List.take_zero]; decide);rw [List.take_zero] at h;exact h
/-! ### l01Exponent -/
/-- The loop over the exponent's digits, behind place q of s. -/
theorem exp_l0 (s x : ByteArray) (q : Nat) (neg : Bool) (hv : View x s q) (hsz : x.size ≤ 3) : ∀ (r j : Nat), j + r = x.size → (∀ k, k < j → isD (NR.bt s (q + k))) →
  ((∀ k, q ≤ k → k < s.size → isD (NR.bt s k)) ∧ Ev (fun k => spec_l01Exponent.l0 k x neg (evs s q j : Nat) (j : Int)) (expI s q neg, true)) ∨ (¬ (∀ k, q ≤ k → k < s.size → isD (NR.bt s k)) ∧ Ev (fun k => spec_l01Exponent.l0 k x neg (evs s q j : Nat) (j : Int)) (0, false)) := by
 have h1 := hv.size;have h2 := hv.le;intro r
 induction r with
 | zero =>
  intro j hj h
  have hall : ∀ k, q ≤ k → k < s.size → isD (NR.bt s k) := fun k hk hk2 => by
   have := h (k - q) (by omega);rw [show q + (k - q) = k by omega] at this;exact this
  refine Or.inl ⟨hall, ?_⟩;refine Ev.step (f := fun _ => some (expI s q neg, true)) (fun k => ?_) (Ev.now _);simp only [spec_l01Exponent.l0];rw [if_neg (by omega)];unfold expI;have hj2 : s.size - q = j := (by omega);have hlt := NR.evs_small (s := s) (q := q) (t := j) (fun k hk hk2 => hall k hk (by omega)) (by omega);rw [hj2];cases neg
  ·rw [if_neg (by decide)]; rfl
  ·rw [if_pos rfl, if_pos rfl, wrap64_of (by omega) (by omega)]
 | succ r ih =>
  intro j hj h
  have hlt := NR.evs_small (s := s) (q := q) (t := j) (fun k hk hk2 => by
   have := h (k - q) (by omega);rw [show q + (k - q) = k by omega] at this
   exact this) (by omega)
  have hb : bt x (j : Int) = (NR.bt s (q + j) : Int) := (by rw [bt_nr, hv.at_]);have hcl := NR.bt_lt s (q + j);by_cases hd : isD (NR.bt s (q + j))
  ·have h3 := ih (j + 1) (by omega) (fun k hk => by
    by_cases e : k = j
    ·subst e; exact hd
    ·exact h k (by omega))
   refine h3.imp (And.imp_right (Ev.step fun k => ?_)) (And.imp_right (Ev.step fun k => ?_))
   all_goals
    simp only [spec_l01Exponent.l0];rw [if_pos (by omega), if_pos (by omega), hb, digit_f, decide_eq_true (show 48 ≤ _ ∧ _ from hd)];show spec_l01Exponent.l0 k x neg _ _ = _;unfold isD at hd;have e : (evs s q (j + 1) : Nat) = evs s q j * 10 + (NR.bt s (q + j) - 48) := rfl;rw [e];rw [wrap64_of (x := ((evs s q j : Nat) : Int) * 10) (by omega) (by omega), wrap64_of (x := (NR.bt s (q + j) : Int)) (by omega) (by omega), wrap64_of (x := ((evs s q j : Nat) : Int) * 10 + (NR.bt s (q + j) : Int)) (by omega) (by omega), wrap64_of (by omega) (by omega), wrap64_of (x := (j : Int) + 1) (by omega) (by omega)];congr 1;omega
  ·refine Or.inr ⟨fun hh => hd (hh (q + j) (by omega) (by omega)), ?_⟩;refine Ev.step (f := fun _ => some (0, false)) (fun k => ?_) (Ev.now _);simp only [spec_l01Exponent.l0];rw [if_pos (by omega), if_pos (by omega), hb, digit_f, decide_eq_false (show ¬ (48 ≤ _ ∧ _) from hd)];rfl
/-- What the exponent's reader answers at place P. -/
def ExpAns (s : ByteArray) (P : Nat) (g : Nat → Option (Int × Bool)) : Prop :=
 (∃ q neg, HasExp s P q neg ∧ Ev g (expI s q neg, true)) ∨ ((∀ q neg, ¬ HasExp s P q neg) ∧ Ev g (0, false))
theorem ExpAns.step {s : ByteArray} {P : Nat} {g f : Nat → Option (Int × Bool)} (hs : ∀ k, g (k + 1) = f k) (h : ExpAns s P f) : ExpAns s P g := by
 rcases h with ⟨q, neg, h1, h2⟩ | ⟨h1, h2⟩
 ·exact Or.inl ⟨q, neg, h1, Ev.step hs h2⟩
 ·exact Or.inr ⟨h1, Ev.step hs h2⟩
theorem ExpAns.congr {s : ByteArray} {P : Nat} {g f : Nat → Option (Int × Bool)} (hs : ∀ k, g k = f k) (h : ExpAns s P f) : ExpAns s P g := by
 rcases h with ⟨q, neg, h1, h2⟩ | ⟨h1, h2⟩
 ·exact Or.inl ⟨q, neg, h1, Ev.congr hs h2⟩
 ·exact Or.inr ⟨h1, Ev.congr hs h2⟩
/-- Where the exponent's digits begin is settled. -/
structure Sgn (s : ByteArray) (P q : Nat) (neg : Bool) : Prop where
 lt : P < s.size
 e : NR.bt s P = 101 ∨ NR.bt s P = 69
 sg : (q = P + 1 ∧ neg = false) ∨ (q = P + 2 ∧ NR.bt s (P + 1) = 43 ∧ neg = false) ∨ (q = P + 2 ∧ NR.bt s (P + 1) = 45 ∧ neg = true)
 one : q = P + 1 → NR.bt s (P + 1) ≠ 43 ∧ NR.bt s (P + 1) ≠ 45
theorem exp_j3 {s x : ByteArray} {P q : Nat} {neg : Bool} (hv : View x s q) (h : Sgn s P q neg) : ExpAns s P (fun k => spec_l01Exponent.j3 k x neg) := by
 have h1 := hv.size;have h2 := hv.le
 have huniq : ∀ q' neg', HasExp s P q' neg' → q' = q ∧ neg' = neg := fun q' neg' ⟨_, _, g3, g4, g5, g6⟩ => by
  have hD : ∀ k, q' ≤ k → k < s.size → NR.bt s k ≠ 43 ∧ NR.bt s k ≠ 45 := fun k a b => by
   have := g5 k a b;unfold isD at this;omega
  rcases h.sg with ⟨a, b⟩ | ⟨a, b, c⟩ | ⟨a, b, c⟩
  ·have h3 := h.one a
   rcases g6 with ⟨a', b'⟩ | ⟨a', b', c'⟩ | ⟨a', b', c'⟩
   ·exact ⟨by omega, by rw [b, b']⟩
   ·exact absurd b' h3.1
   ·exact absurd b' h3.2
  ·rcases g6 with ⟨a', b'⟩ | ⟨a', b', c'⟩ | ⟨a', b', c'⟩
   ·exact absurd b (hD (P + 1) (by omega) (by omega)).1
   ·exact ⟨by omega, by rw [c, c']⟩
   ·omega
  ·rcases g6 with ⟨a', b'⟩ | ⟨a', b', c'⟩ | ⟨a', b', c'⟩
   ·exact absurd b (hD (P + 1) (by omega) (by omega)).2
   ·omega
   ·exact ⟨by omega, by rw [c, c']⟩
 by_cases hsz : 1 ≤ x.size ∧ x.size ≤ 3
 ·refine ExpAns.step (f := fun k => spec_l01Exponent.j4 k x neg false) (fun k => ?_) ?_
  ·simp only [spec_l01Exponent.j3];rw [if_neg (by omega), decide_eq_false (by omega)]
  ·refine ExpAns.step (f := fun k => spec_l01Exponent.l0 k x neg 0 0) (fun k => ?_) ?_
   ·simp only [spec_l01Exponent.j4];rw [if_neg (by decide)]
   ·have hl := exp_l0 s x q neg hv hsz.2 x.size 0 (by omega) (fun k hk => absurd hk (by omega))
    rcases hl with ⟨hall, hl⟩ | ⟨hall, hl⟩
    ·exact Or.inl ⟨q, neg, ⟨h.lt, h.e, by omega, by omega, hall, h.sg⟩, hl⟩
    ·refine Or.inr ⟨fun q' neg' hh => hall ?_, hl⟩;obtain ⟨rfl, rfl⟩ := huniq q' neg' hh;exact hh.2.2.2.2.1
 ·refine Or.inr ⟨fun q' neg' hh => ?_, ?_⟩
  ·obtain ⟨rfl, rfl⟩ := huniq q' neg' hh;obtain ⟨_, _, g3, g4, _⟩ := hh;omega
  ·refine Ev.step (f := fun k => spec_l01Exponent.j4 k x neg true) (fun k => ?_) ?_
   ·simp only [spec_l01Exponent.j3];by_cases h0 : (x.size : Int) < 1
    ·rw [if_pos h0]
    ·rw [if_neg h0, decide_eq_true (by omega)]
   ·refine Ev.step (f := fun _ => some (0, false)) (fun k => ?_) (Ev.now _);simp only [spec_l01Exponent.j4];rw [if_pos trivial]
theorem exp_ans {s x : ByteArray} {P : Nat} (hv : View x s P) (hP : P < s.size) : ExpAns s P (fun k => spec_l01Exponent.f k x) := by
 have h1 := hv.size
 have hb0 : bt x 0 = (NR.bt s P : Int) := by
  have := bt_nr x 0;rw [hv.at_, Nat.add_zero] at this;exact this
 refine ExpAns.congr (f := fun k => spec_l01Exponent.j0 k x (decide (¬ (NR.bt s P = 101 ∨ NR.bt s P = 69)))) (fun k => ?_) ?_
 ·unfold spec_l01Exponent.f;rw [if_pos (by omega), hb0];by_cases h : NR.bt s P = 101
  ·rw [if_pos (by omega), decide_eq_false (by omega)]
  ·rw [if_neg (by omega)];congr 1;by_cases h' : NR.bt s P = 69
   ·rw [decide_eq_false (by omega), h'];rfl
   ·rw [decide_eq_true (by omega)];simp only [bne_iff_ne, ne_eq];omega
 ·by_cases he : NR.bt s P = 101 ∨ NR.bt s P = 69
  ·rw [decide_eq_false (fun h => h he)];have hv1 := hv.cut (n := 1) (by omega);have hs1 := hv1.size;obtain ⟨d, hd⟩ : ∃ d, x.extract 1 x.size = d := ⟨_, rfl⟩;rw [hd] at hv1 hs1
   have hbd : bt d 0 = (NR.bt s (P + 1) : Int) := by
    have := bt_nr d 0;rw [hv1.at_, Nat.add_zero] at this;exact this
   refine ExpAns.step (f := fun k => spec_l01Exponent.j1 k d (decide (0 < d.size ∧ NR.bt s (P + 1) = 45))) (fun k => ?_) ?_
   ·simp only [spec_l01Exponent.j0];rw [if_neg (by decide), if_pos (by omega), hd, hbd];by_cases h0 : 0 < d.size
    ·rw [if_pos (by omega), if_pos (by omega)];congr 1;by_cases h45 : NR.bt s (P + 1) = 45
     ·rw [decide_eq_true ⟨h0, h45⟩, h45];rfl
     ·rw [decide_eq_false (fun h => h45 h.2)];simp only [beq_eq_false_iff_ne, ne_eq];omega
    ·rw [if_neg (by omega), decide_eq_false (fun h => h0 h.1)]
   ·by_cases hm : 0 < d.size ∧ NR.bt s (P + 1) = 45
    ·rw [decide_eq_true hm];refine ExpAns.step (f := fun k => spec_l01Exponent.j2 k d true true) (fun k => ?_) ?_
     ·simp only [spec_l01Exponent.j1];rw [if_pos trivial]
     ·refine ExpAns.step (f := fun k => spec_l01Exponent.j3 k (d.extract 1 d.size) true) (fun k => ?_) ?_
      ·simp only [spec_l01Exponent.j2];rw [if_pos trivial, if_pos (by omega)]
      ·exact exp_j3 (hv1.cut (by omega)) ⟨hP, he, Or.inr (Or.inr ⟨rfl, hm.2, rfl⟩), fun h => by omega⟩
    ·rw [decide_eq_false hm];by_cases hp : 0 < d.size ∧ NR.bt s (P + 1) = 43
     ·refine ExpAns.step (f := fun k => spec_l01Exponent.j2 k d false true) (fun k => ?_) ?_
      ·simp only [spec_l01Exponent.j1];rw [if_neg (by decide), if_pos (by omega), if_pos (by omega), hbd, hp.2];rfl
      ·refine ExpAns.step (f := fun k => spec_l01Exponent.j3 k (d.extract 1 d.size) false) (fun k => ?_) ?_
       ·simp only [spec_l01Exponent.j2];rw [if_pos trivial, if_pos (by omega)]
       ·exact exp_j3 (hv1.cut (by omega)) ⟨hP, he, Or.inr (Or.inl ⟨rfl, hp.2, rfl⟩), fun h => by omega⟩
     ·refine ExpAns.step (f := fun k => spec_l01Exponent.j2 k d false false) (fun k => ?_) ?_
      ·simp only [spec_l01Exponent.j1];rw [if_neg (by decide)];by_cases h0 : 0 < d.size
       ·rw [if_pos (by omega), if_pos (by omega), hbd];congr 1;simp only [beq_eq_false_iff_ne, ne_eq];omega
       ·rw [if_neg (by omega)]
      ·refine ExpAns.step (f := fun k => spec_l01Exponent.j3 k d false) (fun k => ?_) ?_
       ·simp only [spec_l01Exponent.j2];rw [if_neg (by decide)]
       ·by_cases h0 : 0 < d.size
        ·exact exp_j3 hv1 ⟨hP, he, Or.inl ⟨rfl, rfl⟩, fun _ => ⟨fun h => hp ⟨h0, h⟩, fun h => hm ⟨h0, h⟩⟩⟩
        ·refine Or.inr ⟨fun q neg hh => ?_, ?_⟩
         ·obtain ⟨_, _, g3, g4, g5, g6⟩ := hh;omega
         ·refine Ev.step (f := fun k => spec_l01Exponent.j4 k d false true) (fun k => ?_) ?_
          ·simp only [spec_l01Exponent.j3];rw [if_pos (by omega)]
          ·refine Ev.step (f := fun _ => some (0, false)) (fun k => ?_) (Ev.now _);simp only [spec_l01Exponent.j4];rw [if_pos trivial]
  ·rw [decide_eq_true he];refine Or.inr ⟨fun q neg hh => he hh.2.1, ?_⟩;refine Ev.step (f := fun _ => some (0, false)) (fun k => ?_) (Ev.now _);simp only [spec_l01Exponent.j0];rw [if_pos trivial]
end Go.Proofs.YtlblkajnmdhmdaaGreatDoor.NB
namespace Go.Proofs.YtlblkajnmdhmdaaGreatDoor.NB
set_option linter.unusedVariables false
open Go Go.RowKit Go.Proofs.YtlblkajnmdhmdaaGreatDoor.PFormatNumber Go.Proofs.YtlblkajnmdhmdaaGreatDoorW.PrintWords Go.Proofs.YtlblkajnmdhmdaaGreatDoorW.PrintLast Go.Proofs.YtlblkajnmdhmdaaGreatDoorW.PrintMore Go.Proofs.YtlblkajnmdhmdaaGreatDoor.NU
open NR (isD evs expI HasExp Digs scan dpt)
/-- The answer as the reference's function tells it: is it a float, the integer, the word, is it a numeral. -/
def pnAns : Option (Bool × Int × Nat) → Bool × Int × Int × Bool
 | some (true, _, u) => (true, 0, (u : Int), true)
 | some (false, i, _) => (false, i, 0, true)
 | none => (false, 0, 0, false)
/-- The answer at a decimal numeral. -/
def decAns (s : ByteArray) (P : Nat) (E : Int) : Option (Bool × Int × Nat) := match decI s P with | some v => some (false, v, 0) | none => if numW s P E < 2047 * 2 ^ 52 then some (true, 0, numW s P E) else none
/-- .. behind the head of a hexadecimal one. -/
def hexAns (t : ByteArray) : Option (Bool × Int × Nat) := if 0 < t.size ∧ ∀ k, k < t.size → 0 ≤ hexI (NR.bt t k) then some (false, wrap64 (hacc t t.size : Nat), 0) else none
/-- What the answer is at a text. -/
def Ans (s : ByteArray) (o : Option (Bool × Int × Nat)) : Prop :=
 (100 < s.size ∧ o = none) ∨ (s.size ≤ 100 ∧ IsHex s ∧ o = hexAns (s.extract 2 s.size)) ∨
 (s.size ≤ 100 ∧ ¬ IsHex s ∧ ((∃ P E, IsDec s P E ∧ o = decAns s P E) ∨ ((∀ P E, ¬ IsDec s P E) ∧ o = none)))
theorem float_f {u : Nat} (h : u < 2047 * 2 ^ 52) : spec_l01Float.f (u : Int) = some (true, 0, (u : Int)) := by
 unfold spec_l01Float.f spec_l01IsNan.f
 have e : Int.tmod (u : Int) 9223372036854775808 = u := by
  rw [Int.tmod_eq_emod_of_nonneg (by omega)];omega
 rw [e, decide_eq_false (by omega), Option.bind_some, if_neg (by decide)]
theorem dv_dl (s : ByteArray) : ∀ k, dv (dl s k) = fdig s k
 | 0 => rfl
 | k + 1 => by
  have ih := dv_dl s k;show dv (if NR.bt s k = 46 then dl s k else dl s k ++ [(NR.bt s k : Int)]) = if NR.bt s k = 46 then fdig s k else fdig s k * 10 + (NR.bt s k - 48);split
  ·exact ih
  ·rw [dv_snoc, ih];congr 1;omega
theorem dl_len (s : ByteArray) : ∀ k, (dl s k).length ≤ k
 | 0 => Nat.le_refl _
 | k + 1 => by
  have ih := dl_len s k;show (if NR.bt s k = 46 then dl s k else dl s k ++ [(NR.bt s k : Int)]).length ≤ k + 1;split
  ·omega
  ·rw [List.length_append];simp only [List.length_cons, List.length_nil];omega
theorem dl_ad {s : ByteArray} {P : Nat} (hd : ∀ k, k < P → NR.bt s k = 46 ∨ isD (NR.bt s k)) : ∀ k, k ≤ P → AD (dl s k)
 | 0, _ => fun x hx => by cases hx
 | k + 1, h => by
  have ih := dl_ad hd k (by omega);have hc := hd k (by omega);show AD (if NR.bt s k = 46 then dl s k else dl s k ++ [(NR.bt s k : Int)]);split
  ·exact ih
  ·rename_i h46
   have := hc.resolve_left h46;unfold isD at this;intro x hx;rw [List.mem_append, List.mem_singleton] at hx
   rcases hx with hx | rfl
   ·exact ih x hx
   ·omega
theorem pt_le (s : ByteArray) : ∀ k, pt s k ≤ k
 | 0 => Nat.le_refl _
 | k + 1 => by
  have ih := pt_le s k;show (if NR.bt s k = 46 then pt s k + 1 else pt s k) ≤ k + 1;split <;> omega
theorem bh_le (s : ByteArray) : ∀ k, bh s k ≤ k * 100 + k * k
 | 0 => Nat.le_refl _
 | k + 1 => by
  have ih := bh_le s k;have hp := pt_le s k;show (if NR.bt s k = 46 then bh s k else bh s k + pt s k) ≤ (k + 1) * 100 + (k + 1) * (k + 1);have e : (k + 1) * (k + 1) = k * k + 2 * k + 1 := (by grind);rw [e];split <;> omega
/-- The loop over the digits. -/
theorem digits_ev {s : ByteArray} {P : Nat} {r : Bool × Int × Int × Bool} (hs : s.size ≤ 100) (hP : P ≤ s.size) (hd : ∀ k, k < P → NR.bt s k = 46 ∨ isD (NR.bt s k)) (hst : P = s.size ∨ (NR.bt s P ≠ 46 ∧ ¬ isD (NR.bt s P)))
  (h : Ev (fun k => spec_ParseNumber.j2 k s (dl s P) (bh s P : Int) (pt s P : Int) (P : Int) false) r) : ∀ n j, j + n = P → Ev (fun k => spec_ParseNumber.l0 k s (dl s j) (bh s j : Int) (pt s j : Int) (j : Int)) r := by
 intro n
 induction n with
 | zero =>
  intro j hj;have : j = P := (by omega);subst this;refine Ev.step (fun k => ?_) h;simp only [spec_ParseNumber.l0]
  rcases hst with hst | ⟨h1, h2⟩
  ·rw [if_neg (by omega)]
  ·by_cases hlt : j < s.size
   ·rw [if_pos (by omega), if_pos (by omega), bt_nr, digit_f, decide_eq_false (show ¬ (48 ≤ _ ∧ _) from h2)];rw [Option.bind_some, if_neg (by decide)];congr 1;simp only [beq_eq_false_iff_ne, ne_eq];omega
   ·rw [if_neg (by omega)]
 | succ n ih =>
  intro j hj;have hc := hd j (by omega);have hbl := bh_le s j;have hpl := pt_le s j;have hjj : j * j ≤ 100 * 100 := Nat.mul_le_mul (by omega) (by omega);have hdl := dl_len s j;have ih2 := ih (j + 1) (by omega);have hcl := NR.bt_lt s j;refine Ev.step (f := fun k => spec_ParseNumber.j2 k s (dl s j) (bh s j : Int) (pt s j : Int) (j : Int) true) (fun k => ?_) ?_
  ·simp only [spec_ParseNumber.l0];rw [if_pos (by omega), if_pos (by omega), bt_nr, digit_f];by_cases hdd : isD (NR.bt s j)
   ·rw [decide_eq_true (show 48 ≤ _ ∧ _ from hdd)];rfl
   ·have h46 := hc.resolve_right hdd;rw [decide_eq_false (show ¬ (48 ≤ _ ∧ _) from hdd), h46];rfl
  ·refine Ev.step (fun k => ?_) ih2;simp only [spec_ParseNumber.j2];rw [if_pos trivial, if_pos (by omega), if_pos (by omega), bt_nr];show _ = spec_ParseNumber.l0 k s (if NR.bt s j = 46 then dl s j else dl s j ++ [(NR.bt s j : Int)]) ((if NR.bt s j = 46 then bh s j else bh s j + pt s j : Nat) : Int) ((if NR.bt s j = 46 then pt s j + 1 else pt s j : Nat) : Int) ((j + 1 : Nat) : Int);by_cases h46 : NR.bt s j = 46
   ·rw [if_pos (by omega), if_pos h46, if_pos h46, if_pos h46, wrap64_of (x := (pt s j : Int) + 1) (by omega) (by omega), wrap64_of (x := (j : Int) + 1) (by omega) (by omega)];rfl
   ·rw [if_neg (by omega), if_neg h46, if_neg h46, if_neg h46, if_pos (by omega), wrap64_of (x := (bh s j : Int) + (pt s j : Int)) (by omega) (by omega), wrap64_of (x := (j : Int) + 1) (by omega) (by omega)];rfl
/-- The float. -/
theorem nearest_end {s : ByteArray} {P : Nat} {E : Int} (hs : s.size ≤ 100) (hP : P ≤ s.size) (hd : ∀ k, k < P → NR.bt s k = 46 ∨ isD (NR.bt s k)) (hp : pt s P ≤ 1) (hE : -1000 ≤ E ∧ E ≤ 1000) :
  Ev (fun k => spec_ParseNumber.j6 k (dl s P) (bh s P : Int) E) (pnAns (if numW s P E < 2047 * 2 ^ 52 then some (true, 0, numW s P E) else none)) := by
 have hbl := bh_le s P;have hjj : P * P ≤ 100 * 100 := Nat.mul_le_mul (by omega) (by omega);have hb := dpt_bh hd hp;have hlen := dl_len s P;have hbb : bh s P ≤ 20000 := (by omega)
 have hdpb : (bh s P : Int) ≤ 1000 := by
  have h1 := NR.scan_bound (s := s) (P := P) (fun k hk => by
   rcases hd k hk with h | h
   ·left;refine ⟨h, ?_⟩;rw [dot_pt];apply decide_eq_false;have h1 := pt_mono (s := s) (show k + 1 ≤ P from hk);have h2 : pt s (k + 1) = pt s k + 1 := if_pos h;omega
   ·exact Or.inr h) P (Nat.le_refl _)
  unfold dpt at hb;split at hb <;> omega
 obtain ⟨r1, hev, hr⟩ := nearest_ev (L := dl s P) (e := E - bh s P) (dl_ad hd P (Nat.le_refl _)) (by omega) (by omega) (by omega)
 have hw : wordE (dv (dl s P)) (E - bh s P) = numW s P E := by
  unfold numW;rw [dv_dl];congr 1;omega
 rw [hw] at hev hr;refine Ev.step (f := fun k => (spec_l01Nearest.f k (dl s P) (E - bh s P)).bind fun bt252 => (if bt252.2 = true then ((spec_l01Float.f bt252.1).bind fun bt254 => (some (bt254.1, bt254.2.1, bt254.2.2, true))) else (some (false, 0, 0, false)))) (fun k => ?_) ?_
 ·simp only [spec_ParseNumber.j6];rw [wrap64_of (x := E - (bh s P : Int)) (by omega) (by omega)]
 ·refine Ev.bind (f := fun _ bt252 => (if bt252.2 = true then ((spec_l01Float.f bt252.1).bind fun bt254 => (some (bt254.1, bt254.2.1, bt254.2.2, true))) else (some (false, 0, 0, false)))) hev ?_;have hle : numW s P E ≤ 2047 * 2 ^ 52 := word_le _ _;by_cases hf : numW s P E < 2047 * 2 ^ 52
  ·have hne : numW s P E ≠ 2047 * 2 ^ 52 := (by omega);rw [if_pos hf, hr hne];refine Ev.congr (fun k => ?_) (Ev.now _);show (if decide (numW s P E ≠ 2047 * 2 ^ 52) = true then _ else _) = _;rw [if_pos (decide_eq_true hne)];show (spec_l01Float.f (numW s P E : Int)).bind _ = _;rw [float_f hf];rfl
  ·have heq : numW s P E = 2047 * 2 ^ 52 := (by omega);rw [if_neg hf];refine Ev.congr (fun k => ?_) (Ev.now _);show (if decide (numW s P E ≠ 2047 * 2 ^ 52) = true then _ else _) = _;rw [if_neg (by rw [decide_eq_false (fun h => h heq)]; decide)];rfl
/-- Behind the whole number's try. -/
theorem tail_ev {s : ByteArray} {P : Nat} (hs : s.size ≤ 100) (hP : P ≤ s.size) (hd : ∀ k, k < P → NR.bt s k = 46 ∨ isD (NR.bt s k)) (hp : pt s P ≤ 1) :
  (∃ E, Tail s P E ∧ Ev (fun k => spec_ParseNumber.j5 k s (dl s P) (bh s P : Int) (P : Int)) (pnAns (if numW s P E < 2047 * 2 ^ 52 then some (true, 0, numW s P E) else none))) ∨
  ((∀ E, ¬ Tail s P E) ∧ Ev (fun k => spec_ParseNumber.j5 k s (dl s P) (bh s P : Int) (P : Int)) (pnAns none)) := by
 by_cases hlt : P < s.size
 ·have hv := (View.refl s).cut hP;rw [Nat.zero_add] at hv
  have hj5 : ∀ k, spec_ParseNumber.j5 (k + 1) s (dl s P) (bh s P : Int) (P : Int) = (spec_l01Exponent.f k (s.extract P s.size)).bind fun bt250 => (if bt250.2 = true then (spec_ParseNumber.j6 k (dl s P) (bh s P : Int) bt250.1) else (some (false, 0, 0, false))) := fun k => by
   simp only [spec_ParseNumber.j5];rw [if_pos (by omega), if_pos (by omega), if_pos (by omega), Int.toNat_natCast]
  rcases exp_ans hv hlt with ⟨q, neg, hx, hev⟩ | ⟨hno, hev⟩
  ·have hEb : -1000 ≤ expI s q neg ∧ expI s q neg ≤ 1000 := by
    obtain ⟨h1, h2, h3, h4, h5, h6⟩ := hx;have := NR.evs_small (t := s.size - q) (fun k h1 h2 => h5 k h1 (by omega)) (by omega);unfold expI;split <;> omega
   refine Or.inl ⟨expI s q neg, Or.inr ⟨q, neg, hx, rfl⟩, Ev.step hj5 ?_⟩;refine Ev.bind (f := fun k bt250 => (if bt250.2 = true then (spec_ParseNumber.j6 k (dl s P) (bh s P : Int) bt250.1) else (some (false, 0, 0, false)))) hev ?_;exact Ev.congr (fun k => if_pos rfl) (nearest_end hs hP hd hp hEb)
  ·refine Or.inr ⟨fun E ht => ?_, Ev.step hj5 ?_⟩
   ·rcases ht with ⟨h, _⟩ | ⟨q, neg, hx, _⟩
    ·omega
    ·exact hno q neg hx
   ·refine Ev.bind (f := fun k bt250 => (if bt250.2 = true then (spec_ParseNumber.j6 k (dl s P) (bh s P : Int) bt250.1) else (some (false, 0, 0, false)))) hev ?_;exact Ev.congr (fun k => if_neg (by decide)) (Ev.now _)
 ·refine Or.inl ⟨0, Or.inl ⟨by omega, rfl⟩, ?_⟩;refine Ev.step (fun k => ?_) (nearest_end hs hP hd hp (by omega));simp only [spec_ParseNumber.j5];rw [if_neg (by omega)]
theorem pdec_ev (s : ByteArray) (hs : s.size ≤ 100) : (∃ P E, IsDec s P E ∧ Ev (fun k => spec_ParseNumber.l0 k s [] 0 0 0) (pnAns (decAns s P E))) ∨ ((∀ P E, ¬ IsDec s P E) ∧ Ev (fun k => spec_ParseNumber.l0 k s [] 0 0 0) (pnAns none)) := by
 obtain ⟨P, hP, hd, hst⟩ := stop_at s;have start : ∀ r, Ev (fun k => spec_ParseNumber.j2 k s (dl s P) (bh s P : Int) (pt s P : Int) (P : Int) false) r → Ev (fun k => spec_ParseNumber.l0 k s [] 0 0 0) r := fun r h => digits_ev hs hP hd hst h P 0 (by omega);have hlen := dl_len s P;have hpl := pt_le s P;by_cases hbad : dl s P = [] ∨ 1 < pt s P
 ·refine Or.inr ⟨fun P' E h => ?_, start _ ?_⟩
  ·have e := dec_stop hP hd hst h;subst e;have := digs_pt h.1
   rcases hbad with hb | hb
   ·exact this.2 hb
   ·omega
  ·refine Ev.step (f := fun k => spec_ParseNumber.j3 k s (dl s P) (bh s P : Int) (pt s P : Int) (P : Int) true) (fun k => ?_) ?_
   ·simp only [spec_ParseNumber.j2];rw [if_neg (by decide)];by_cases h0 : dl s P = []
    ·rw [if_pos (by rw [h0]; rfl)]
    ·have h1 := hbad.resolve_left h0;rw [if_neg (fun h => h0 (List.eq_nil_of_length_eq_zero (by omega))), decide_eq_true (by omega)]
   ·refine Ev.step (f := fun _ => some (pnAns none)) (fun k => ?_) (Ev.now _);simp only [spec_ParseNumber.j3];rw [if_pos trivial];rfl
 ·have hp : pt s P ≤ 1 := (by omega);have hl : dl s P ≠ [] := fun h => hbad (Or.inl h);have hdg := digs_of hP hd hp hl;have hdot := dot_pt s P
  have start2 : ∀ r, Ev (fun k => spec_ParseNumber.j4 k s (dl s P) (bh s P : Int) (P : Int) (decide (P = s.size ∧ (scan s P).dot = false))) r → Ev (fun k => spec_ParseNumber.l0 k s [] 0 0 0) r := fun r h => by
   refine start r (Ev.step (f := fun k => spec_ParseNumber.j3 k s (dl s P) (bh s P : Int) (pt s P : Int) (P : Int) false) (fun k => ?_) (Ev.step (fun k => ?_) h))
   ·simp only [spec_ParseNumber.j2];rw [if_neg (by decide), if_neg (fun h => hl (List.eq_nil_of_length_eq_zero (by omega))), decide_eq_false (by omega)]
   ·simp only [spec_ParseNumber.j3];rw [if_neg (by decide)];by_cases he : P = s.size
    ·rw [if_pos (by omega)];congr 1;rw [hdot];by_cases h0 : pt s P = 0
     ·rw [h0, decide_eq_true ⟨he, by decide⟩];rfl
     ·rw [decide_eq_false (fun h => h0 (by have := of_decide_eq_false h.2; omega))];simp only [beq_eq_false_iff_ne, ne_eq];omega
    ·rw [if_neg (by omega), decide_eq_false (fun h => he h.1)]
  have float : decI s P = none → (∀ k, spec_ParseNumber.j4 (k + 1) s (dl s P) (bh s P : Int) (P : Int) (decide (P = s.size ∧ (scan s P).dot = false)) = spec_ParseNumber.j5 k s (dl s P) (bh s P : Int) (P : Int)) ∨ True := fun _ => Or.inr trivial;by_cases hw : P = s.size ∧ (scan s P).dot = false
  ·rw [decide_eq_true hw] at start2;have hwe := whole_ev (dl_ad hd P (Nat.le_refl _)) (by omega : (dl s P).length ≤ 2000);rw [dv_dl] at hwe
   have hj4 : ∀ k, spec_ParseNumber.j4 (k + 1) s (dl s P) (bh s P : Int) (P : Int) true = (spec_l01Whole.f k (dl s P)).bind fun bt245 => (if bt245.2 = true then ((spec_l01Int.f bt245.1).bind fun bt247 => (some (bt247.1, bt247.2.1, bt247.2.2, true))) else (spec_ParseNumber.j5 k s (dl s P) (bh s P : Int) (P : Int))) := fun k => by
    simp only [spec_ParseNumber.j4];rw [if_pos trivial]
   by_cases hlt : fdig s P < 9223372036854775808
   ·rw [if_pos hlt] at hwe;refine Or.inl ⟨P, 0, ⟨hdg, Or.inl ⟨hw.1, rfl⟩⟩, start2 _ (Ev.step hj4 ?_)⟩;have ha : decAns s P 0 = some (false, (fdig s P : Int), 0) := (by unfold decAns decI; rw [if_pos ⟨hw.1, hw.2, hlt⟩]);rw [ha];refine Ev.bind (f := fun k bt245 => (if bt245.2 = true then ((spec_l01Int.f bt245.1).bind fun bt247 => (some (bt247.1, bt247.2.1, bt247.2.2, true))) else (spec_ParseNumber.j5 k s (dl s P) (bh s P : Int) (P : Int)))) hwe ?_;exact Ev.congr (fun k => if_pos rfl) (Ev.now _)
   ·rw [if_neg hlt] at hwe;have hdi : decI s P = none := (by unfold decI; rw [if_neg (fun h => hlt h.2.2)])
    have step : ∀ r, Ev (fun k => spec_ParseNumber.j5 k s (dl s P) (bh s P : Int) (P : Int)) r → Ev (fun k => spec_ParseNumber.l0 k s [] 0 0 0) r := fun r h => by
     refine start2 _ (Ev.step hj4 ?_);refine Ev.bind (f := fun k bt245 => (if bt245.2 = true then ((spec_l01Int.f bt245.1).bind fun bt247 => (some (bt247.1, bt247.2.1, bt247.2.2, true))) else (spec_ParseNumber.j5 k s (dl s P) (bh s P : Int) (P : Int)))) hwe ?_;exact Ev.congr (fun k => if_neg (by decide)) h
    rcases tail_ev hs hP hd hp with ⟨E, ht, hev⟩ | ⟨hno, hev⟩
    ·refine Or.inl ⟨P, E, ⟨hdg, ht⟩, step _ ?_⟩;unfold decAns;rw [hdi];exact hev
    ·exact Or.inr ⟨fun P' E h => by
      have e := dec_stop hP hd hst h;subst e
      exact hno E h.2, step _ hev⟩
  ·rw [decide_eq_false hw] at start2;have hdi : decI s P = none := (by unfold decI; rw [if_neg (fun h => hw ⟨h.1, h.2.1⟩)])
   have step : ∀ r, Ev (fun k => spec_ParseNumber.j5 k s (dl s P) (bh s P : Int) (P : Int)) r → Ev (fun k => spec_ParseNumber.l0 k s [] 0 0 0) r := fun r h => by
    refine start2 _ (Ev.step (fun k => ?_) h);simp only [spec_ParseNumber.j4];rw [if_neg (by decide)]
   rcases tail_ev hs hP hd hp with ⟨E, ht, hev⟩ | ⟨hno, hev⟩
   ·refine Or.inl ⟨P, E, ⟨hdg, ht⟩, step _ ?_⟩;unfold decAns;rw [hdi];exact hev
   ·exact Or.inr ⟨fun P' E h => by
     have e := dec_stop hP hd hst h;subst e
     exact hno E h.2, step _ hev⟩
/-- The reference's ParseNumber, at every text. -/
theorem parse_ev (s : ByteArray) : ∃ o, Ans s o ∧ Ev (fun k => spec_ParseNumber.f k s) (pnAns o) := by
 by_cases hbig : 100 < s.size
 ·refine ⟨none, Or.inl ⟨hbig, rfl⟩, Ev.congr (fun k => ?_) (Ev.now _)⟩;unfold spec_ParseNumber.f;rw [if_pos (by omega)];rfl
 ·have hs : s.size ≤ 100 := (by omega);have hb0 : bt s 0 = (NR.bt s 0 : Int) := bt_nr s 0;have hb1 : bt s 1 = (NR.bt s 1 : Int) := bt_nr s 1;by_cases hx : IsHex s
  ·have hx' := hx;obtain ⟨h1, h2, h3⟩ := hx;refine ⟨hexAns (s.extract 2 s.size), Or.inr (Or.inl ⟨hs, hx', rfl⟩), ?_⟩;refine Ev.congr (f := fun k => spec_ParseNumber.j0 k s true) (fun k => ?_) ?_
   ·unfold spec_ParseNumber.f;rw [if_neg (by omega), if_pos (by omega), if_pos (by omega), hb0, if_pos (by omega), if_pos (by omega), hb1]
    rcases h3 with h3 | h3
    ·rw [if_pos (by omega)]
    ·rw [if_neg (by omega), h3];rfl
   ·refine Ev.step (f := fun k => (spec_l01Hex.f k (s.extract 2 s.size)).bind fun bt234 => (some (bt234.1, bt234.2.1, bt234.2.2.1, bt234.2.2.2))) (fun k => ?_) ?_
    ·simp only [spec_ParseNumber.j0];rw [if_pos trivial, if_pos (by omega)]
    ·have hsz : (s.extract 2 s.size).size ≤ 1000 := (by rw [ByteArray.size_extract]; omega);have hev := hex_ev (s.extract 2 s.size) hsz;obtain ⟨t, ht⟩ : ∃ t, s.extract 2 s.size = t := ⟨_, rfl⟩;rw [ht] at hev ⊢;refine Ev.bind (f := fun _ bt234 => some (bt234.1, bt234.2.1, bt234.2.2.1, bt234.2.2.2)) hev ?_;unfold hexAns;by_cases hall : ∀ k, k < t.size → 0 ≤ hexI (NR.bt t k)
     ·by_cases h0 : 0 < t.size
      ·rw [if_pos hall, if_pos ⟨h0, hall⟩, decide_eq_true h0];exact Ev.now _
      ·rw [if_pos hall, if_neg (fun h => h0 h.1), decide_eq_false h0, show t.size = 0 by omega];have e : wrap64 ((hacc t 0 : Nat) : Int) = 0 := wrap64_of (x := ((0 : Nat) : Int)) (by decide) (by decide);rw [e];exact Ev.now _
     ·rw [if_neg hall, if_neg (fun h => hall h.2)];exact Ev.now _
  ·have hj : Ev (fun k => spec_ParseNumber.j0 k s false) = Ev (fun k => spec_ParseNumber.j0 k s false) := rfl
   have head : ∀ r, Ev (fun k => spec_ParseNumber.l0 k s [] 0 0 0) r → Ev (fun k => spec_ParseNumber.f k s) r := fun r h => by
    refine Ev.congr (f := fun k => spec_ParseNumber.j0 k s false) (fun k => ?_) (Ev.step (fun k => ?_) h)
    ·unfold spec_ParseNumber.f;rw [if_neg (by omega)];by_cases h1 : 1 < s.size
     ·rw [if_pos (by omega), if_pos (by omega), hb0];by_cases h2 : NR.bt s 0 = 48
      ·rw [if_pos (by omega), if_pos (by omega), hb1];by_cases h3 : NR.bt s 1 = 120
       ·exact absurd ⟨h1, h2, Or.inl h3⟩ hx
       ·rw [if_neg (by omega)];congr 1;simp only [beq_eq_false_iff_ne, ne_eq];intro h4;exact hx ⟨h1, h2, Or.inr (by omega)⟩
      ·rw [if_neg (by omega)]
     ·rw [if_neg (by omega)]
    ·simp only [spec_ParseNumber.j0];rw [if_neg (by decide)]
   rcases pdec_ev s hs with ⟨P, E, hdec, hev⟩ | ⟨hno, hev⟩
   ·exact ⟨decAns s P E, Or.inr (Or.inr ⟨hs, hx, Or.inl ⟨P, E, hdec, rfl⟩⟩), head _ hev⟩
   ·exact ⟨none, Or.inr (Or.inr ⟨hs, hx, Or.inr ⟨hno, rfl⟩⟩), head _ hev⟩
end Go.Proofs.YtlblkajnmdhmdaaGreatDoor.NB
