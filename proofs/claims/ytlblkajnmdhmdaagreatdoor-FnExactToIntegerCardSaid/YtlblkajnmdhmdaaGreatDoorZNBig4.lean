/-
  Plain law over the printed functions: great numbers as lists of digits to base 10000.
  Plain law over the printed functions: doubling, powers of ten, comparing, halving, subtracting great numbers.
  Plain law over the printed functions: l01Word finds the word nearest to n / d * 2^e.
  Plain law over the printed functions: l01Nearest, l01Parts, l01Of, l01Exact.
-/
import Derived.Test.YtlblkajnmdhmdaaGreatDoorZPFormatNumberx5
import Derived.Test.YtlblkajnmdhmdaaGreatDoorZNSpec
namespace Go.Proofs.YtlblkajnmdhmdaaGreatDoor.NB
set_option linter.unusedVariables false
open Go Go.RowKit Go.Proofs.YtlblkajnmdhmdaaGreatDoor.PFormatNumber Go.Proofs.YtlblkajnmdhmdaaGreatDoorW.PrintWords Go.Proofs.YtlblkajnmdhmdaaGreatDoorW.PrintLast Go.Proofs.YtlblkajnmdhmdaaGreatDoorW.PrintMore
theorem wrap64_of {x : Int} (h1 : -9223372036854775808 ≤ x) (h2 : x ≤ 9223372036854775807) : wrap64 x = x := by unfold wrap64; omega
/-- Digits to base 10000. -/
def Dg (l : List Int) : Prop := ∀ x ∈ l, 0 ≤ x ∧ x < 10000
def val : List Int → Nat
 | [] => 0
 | x :: l => x.toNat + 10000 * val l
theorem val_cons (x : Int) (l : List Int) : val (x :: l) = x.toNat + 10000 * val l := rfl
/-- The digits of n, the lowest first, none needless. -/
def dig (n : Nat) : List Int := if h : n = 0 then [] else ((n % 10000 : Nat) : Int) :: dig (n / 10000)
termination_by n
decreasing_by omega
theorem dig_zero : dig 0 = [] := by unfold dig; simp
theorem dig_pos {n : Nat} (h : n ≠ 0) : dig n = ((n % 10000 : Nat) : Int) :: dig (n / 10000) := by rw [dig, dif_neg h]
theorem dg_dig (n : Nat) : Dg (dig n) := by
 induction n using Nat.strongRecOn with
 | ind n ih =>
  by_cases h : n = 0
  ·subst h; rw [dig_zero]; intro x hx; cases hx
  ·rw [dig_pos h];intro x hx
   rcases List.mem_cons.1 hx with rfl | hx
   ·omega
   ·exact ih (n / 10000) (by omega) x hx
theorem val_dig (n : Nat) : val (dig n) = n := by
 induction n using Nat.strongRecOn with
 | ind n ih =>
  by_cases h : n = 0
  ·subst h; rw [dig_zero]; rfl
  ·rw [dig_pos h, val_cons, ih (n / 10000) (by omega)];omega
theorem val_append (l r : List Int) : val (l ++ r) = val l + 10000 ^ l.length * val r := by
 induction l with
 | nil => simp [val]
 | cons x l ih =>
  rw [List.cons_append, List.length_cons, Nat.pow_succ, val_cons, val_cons, ih]
  grind
theorem val_snoc (l : List Int) (x : Int) : val (l ++ [x]) = val l + 10000 ^ l.length * x.toNat := by
 rw [val_append];simp [val]
theorem dg_append {l r : List Int} (h : Dg l) (k : Dg r) : Dg (l ++ r) := fun x hx => by
 rcases List.mem_append.1 hx with hx | hx
 ·exact h x hx
 ·exact k x hx
theorem dg_one {x : Int} (h0 : 0 ≤ x) (h : x < 10000) : Dg [x] := fun y hy => by
 rcases List.mem_cons.1 hy with rfl | hy
 ·exact ⟨h0, h⟩
 ·cases hy
theorem dg_take {l : List Int} (h : Dg l) (n : Nat) : Dg (l.take n) := fun x hx => h x (List.mem_of_mem_take hx)
theorem val_lt {l : List Int} (h : Dg l) : val l < 10000 ^ l.length := by
 induction l with
 | nil => simp [val]
 | cons x l ih =>
  have hx := h x (List.mem_cons_self ..);have := ih (fun y hy => h y (List.mem_cons_of_mem _ hy));rw [List.length_cons, Nat.pow_succ, val_cons];omega
theorem dlen_le {n t : Nat} (h : n < 10000 ^ t) : (dig n).length ≤ t := by
 induction t generalizing n with
 | zero =>
  have : n = 0 := (by simp at h; exact h);subst this; rw [dig_zero]; exact Nat.le_refl _
 | succ t ih =>
  by_cases h0 : n = 0
  ·subst h0; rw [dig_zero]; exact Nat.zero_le _
  ·rw [dig_pos h0, List.length_cons]
   have : n / 10000 < 10000 ^ t := by
    rw [Nat.pow_succ] at h;exact (Nat.div_lt_iff_lt_mul (by decide)).2 h
   have := ih this;omega
theorem lt_dlen (n : Nat) : n < 10000 ^ (dig n).length := by
 have := val_lt (dg_dig n)
 rwa [val_dig] at this
theorem dlen_mono {a b : Nat} (h : a ≤ b) : (dig a).length ≤ (dig b).length := dlen_le (Nat.lt_of_le_of_lt h (lt_dlen b))
/-- A list with no needless digit is the digits of its value. -/
theorem dig_val {l : List Int} (h : Dg l) (hl : ∀ x, l.getLast? = some x → x ≠ 0) : dig (val l) = l := by
 induction l with
 | nil => exact dig_zero
 | cons x l ih =>
  have hx := h x (List.mem_cons_self ..);have ht : Dg l := fun y hy => h y (List.mem_cons_of_mem _ hy)
  have hv : val (x :: l) ≠ 0 := by
   intro h0;rw [val_cons] at h0
   cases l with
   | nil =>
    have := hl x rfl;omega
   | cons y l =>
    have hd : val (y :: l) = 0 := (by omega);have hk := ih ht (fun z hz => hl z (by simpa using hz));rw [hd, dig_zero] at hk;cases hk
  rw [dig_pos hv, val_cons];rw [show (x.toNat + 10000 * val l) / 10000 = val l by omega, show ((x.toNat + 10000 * val l) % 10000 : Nat) = x.toNat by omega, Int.toNat_of_nonneg hx.1];congr 1
  cases l with
  | nil => exact dig_zero
  | cons y l => exact ih ht (fun z hz => hl z (by simpa using hz))
theorem dig_nil {n : Nat} : dig n = [] ↔ n = 0 := by
 constructor
 ·intro h;have := val_dig n;rw [h] at this;exact this.symm
 ·rintro rfl; exact dig_zero
theorem rd_at {l : List Int} {j : Nat} (h : j < l.length) : rd l (j : Int) = l[j] := by
 unfold rd;rw [Int.toNat_natCast, List.getD_eq_getElem?_getD, List.getElem?_eq_getElem h];rfl
theorem drop_at {l : List Int} {j : Nat} (h : j < l.length) : l.drop j = rd l (j : Int) :: l.drop (j + 1) := by
 rw [rd_at h];exact List.drop_eq_getElem_cons h
theorem bind_some_id {α : Type} (g : Nat → Option α) (r : α) (h : Ev g r) : Ev (fun k => (g k).bind fun t => some t) r := Ev.bind h (Ev.now r)
/-! ### l01Trim -/
theorem trim_ev : ∀ (n : Nat) (l : List Int), l.length = n → n < 9223372036854775807 → Dg l → Ev (fun k => spec_l01Trim.l0 k l) (dig (val l)) := by
 intro n
 induction n with
 | zero =>
  intro l hl _ hd;have : l = [] := List.eq_nil_of_length_eq_zero hl;subst this;rw [show dig (val []) = [] from dig_zero];refine Ev.step (f := fun _ => some []) (fun k => ?_) (Ev.now _);simp only [spec_l01Trim.l0];rw [if_neg (by simp)]
 | succ n ih =>
  intro l hl hn hd;have hw : wrap64 ((l.length : Int) - 1) = (n : Int) := (by rw [wrap64_of (by omega) (by omega)]; omega);by_cases hz : rd l (n : Int) = 0
  ·refine Ev.step (f := fun k => spec_l01Trim.l0 k (l.take n)) (fun k => ?_) ?_
   ·simp only [spec_l01Trim.l0];rw [hw, if_pos (by omega), if_pos (by omega), if_pos (by omega), if_pos hz, if_pos (by omega), Int.toNat_natCast]
   ·have h1 := ih (l.take n) (by rw [List.length_take]; omega) (by omega) (dg_take hd n)
    have hs : l = l.take n ++ [0] := by
     have h2 := List.take_append_drop n l;rw [drop_at (by omega), hz, List.drop_eq_nil_of_le (by omega)] at h2;exact h2.symm
    have hv : val l = val (l.take n) := by
     conv => lhs; rw [hs]
     rw [val_snoc];simp
    rw [hv];exact h1
  ·refine Ev.step (f := fun _ => some l) (fun k => ?_) ?_
   ·simp only [spec_l01Trim.l0];rw [hw, if_pos (by omega), if_pos (by omega), if_pos (by omega), if_neg hz]
   ·rw [dig_val hd (fun x hx => by
     rw [List.getLast?_eq_getElem?, hl] at hx;rw [rd_at (by omega)] at hz;rw [show n + 1 - 1 = n by omega, List.getElem?_eq_getElem (by omega)] at hx;cases hx
     exact hz)]
    exact Ev.now _
/-! ### l01Times -/
theorem times_l1 : ∀ (n : Nat) (c : Nat) (out : List Int), c ≤ n → c ≤ 1000000000 → out.length + c < 10000000000 → Dg out → Ev (fun k => spec_l01Times.l1 k (c : Int) out) (dig (val out + 10000 ^ out.length * c)) := by
 intro n
 induction n with
 | zero =>
  intro c out hc _ hl hd;have : c = 0 := (by omega);subst this;refine Ev.step (f := fun k => (spec_l01Trim.f k out).bind fun t => some t) (fun k => ?_) ?_
  ·simp only [spec_l01Times.l1];rw [if_neg (by omega)]
  ·apply bind_some_id;rw [Nat.mul_zero, Nat.add_zero];exact trim_ev _ out rfl (by omega) hd
 | succ n ih =>
  intro c out hc hc2 hl hd;by_cases h0 : c = 0
  ·subst h0;exact ih 0 out (by omega) (by omega) hl hd
  ·refine Ev.step (f := fun k => spec_l01Times.l1 k ((c / 10000 : Nat) : Int) (out ++ [((c % 10000 : Nat) : Int)])) (fun k => ?_) ?_
   ·simp only [spec_l01Times.l1];have e1 : Int.tdiv (c : Int) 10000 = ((c / 10000 : Nat) : Int) := (by rw [Int.tdiv_eq_ediv_of_nonneg (by omega)]; omega);have e2 : Int.tmod (c : Int) 10000 = ((c % 10000 : Nat) : Int) := (by rw [Int.tmod_eq_emod_of_nonneg (by omega)]; omega);rw [if_pos (by omega), if_pos (by omega), e1, e2, wrap64_of (by omega) (by omega)]
   ·have hg := ih (c / 10000) (out ++ [((c % 10000 : Nat) : Int)]) (by omega) (by omega) (by rw [List.length_append]; simp; omega) (dg_append hd (dg_one (by omega) (by omega)))
    have hv : val (out ++ [((c % 10000 : Nat) : Int)]) + 10000 ^ (out ++ [((c % 10000 : Nat) : Int)]).length * (c / 10000) = val out + 10000 ^ out.length * c := by
     rw [val_snoc, List.length_append, Int.toNat_natCast];simp only [List.length_cons, List.length_nil, Nat.zero_add, Nat.pow_succ];have := Nat.div_add_mod c 10000;have e : 10000 ^ out.length * c = 10000 ^ out.length * (10000 * (c / 10000) + c % 10000) := (by rw [this]);rw [e]
     grind
    rw [hv] at hg;exact hg
theorem times_l0 (L : List Int) (m : Nat) (hm : m ≤ 4096) (hL : Dg L) (hlen : L.length ≤ 1000000) : ∀ (n j c : Nat) (out : List Int), j + n = L.length → c ≤ 10000 → out.length = j → Dg out →
  Ev (fun k => spec_l01Times.l0 k (m : Int) (c : Int) out L (L.length : Int) (j : Int)) (dig (val out + 10000 ^ out.length * (val (L.drop j) * m + c))) := by
 intro n
 induction n with
 | zero =>
  intro j c out hj hc ho hd;refine Ev.step (f := fun k => spec_l01Times.l1 k (c : Int) out) (fun k => ?_) ?_
  ·simp only [spec_l01Times.l0];rw [if_neg (by omega)]
  ·rw [List.drop_eq_nil_of_le (by omega), show val [] * m + c = c by simp [val]];exact times_l1 c c out (Nat.le_refl _) (by omega) (by omega) hd
 | succ n ih =>
  intro j c out hj hc ho hd;have hjl : j < L.length := (by omega);have hx := hL (rd L (j : Int)) (by rw [rd_at hjl]; exact List.getElem_mem _);obtain ⟨x, hxe⟩ : ∃ x : Nat, rd L (j : Int) = x := ⟨(rd L (j : Int)).toNat, by omega⟩;rw [hxe] at hx;obtain ⟨p, hp⟩ : ∃ p, x * m = p := ⟨_, rfl⟩;have hxm : p ≤ 40955904 := (by rw [← hp]; exact Nat.le_trans (Nat.mul_le_mul (Nat.le_of_lt_succ (by omega : x < 9999 + 1)) hm) (by decide));obtain ⟨y, hy⟩ : ∃ y, c + p = y := ⟨_, rfl⟩
  have e0 : wrap64 ((c : Int) + wrap64 (rd L (j : Int) * (m : Int))) = (y : Nat) := by
   have ew : (rd L (j : Int) * (m : Int)) = (p : Int) := (by rw [hxe, ← hp]; simp);rw [ew, wrap64_of (x := (p : Int)) (by omega) (by omega), wrap64_of (by omega) (by omega)];omega
  have e1 : Int.tdiv (y : Int) 10000 = ((y / 10000 : Nat) : Int) := (by rw [Int.tdiv_eq_ediv_of_nonneg (by omega)]; omega);have e2 : Int.tmod (y : Int) 10000 = ((y % 10000 : Nat) : Int) := (by rw [Int.tmod_eq_emod_of_nonneg (by omega)]; omega);refine Ev.step (f := fun k => spec_l01Times.l0 k (m : Int) ((y / 10000 : Nat) : Int) (out ++ [((y % 10000 : Nat) : Int)]) L (L.length : Int) ((j + 1 : Nat) : Int)) (fun k => ?_) ?_
  ·simp only [spec_l01Times.l0];rw [if_pos (by omega), if_pos (by omega), if_pos (by omega), if_pos (by omega), e0, e1, e2, wrap64_of (x := ((y / 10000 : Nat) : Int)) (by omega) (by omega), wrap64_of (x := (j : Int) + 1) (by omega) (by omega)];rfl
  ·have hg := ih (j + 1) (y / 10000) (out ++ [((y % 10000 : Nat) : Int)]) (by omega) (by omega) (by rw [List.length_append]; simp; omega) (dg_append hd (dg_one (by omega) (by omega)))
   have hv : val (out ++ [((y % 10000 : Nat) : Int)]) + 10000 ^ (out ++ [((y % 10000 : Nat) : Int)]).length * (val (L.drop (j + 1)) * m + y / 10000) = val out + 10000 ^ out.length * (val (L.drop j) * m + c) := by
    rw [val_snoc, List.length_append, Int.toNat_natCast, drop_at hjl, hxe];simp only [List.length_cons, List.length_nil, Nat.zero_add, Nat.pow_succ];rw [val_cons, Int.toNat_natCast];have := Nat.div_add_mod y 10000
    have e : (x + 10000 * val (L.drop (j + 1))) * m + c = 10000 * (val (L.drop (j + 1)) * m) + (10000 * (y / 10000) + y % 10000) := by
     rw [this, ← hy, ← hp]; grind
    rw [e]
    grind
   rw [hv] at hg;exact hg
theorem times_any {L : List Int} {m c : Nat} (hm : m ≤ 4096) (hc : c ≤ 10000) (hL : Dg L) (hlen : L.length ≤ 1000000) : Ev (fun k => spec_l01Times.f k L (m : Int) (c : Int)) (dig (val L * m + c)) := by
 have h := times_l0 L m hm hL hlen L.length 0 c [] (by omega) hc rfl (fun x hx => by cases hx);simp only [List.length_nil, Nat.pow_zero, Nat.one_mul, List.drop_zero, show val [] = 0 from rfl, Nat.zero_add] at h;exact h
theorem times_ev {n m c : Nat} (hm : m ≤ 4096) (hc : c ≤ 10000) (hlen : (dig n).length ≤ 1000000) : Ev (fun k => spec_l01Times.f k (dig n) (m : Int) (c : Int)) (dig (n * m + c)) := by
 have h := times_any (L := dig n) hm hc (dg_dig n) hlen;rw [val_dig] at h;exact h
end Go.Proofs.YtlblkajnmdhmdaaGreatDoor.NB
namespace Go.Proofs.YtlblkajnmdhmdaaGreatDoor.NB
set_option linter.unusedVariables false
open Go Go.RowKit Go.Proofs.YtlblkajnmdhmdaaGreatDoor.PFormatNumber Go.Proofs.YtlblkajnmdhmdaaGreatDoorW.PrintWords Go.Proofs.YtlblkajnmdhmdaaGreatDoorW.PrintLast Go.Proofs.YtlblkajnmdhmdaaGreatDoorW.PrintMore
theorem times_at {n m : Nat} (hm : m ≤ 4096) (hlen : (dig n).length ≤ 1000000) : Ev (fun k => spec_l01Times.f k (dig n) (m : Int) 0) (dig (n * m)) := times_ev (c := 0) hm (by omega) hlen
theorem times_2 {n : Nat} (hlen : (dig n).length ≤ 1000000) : Ev (fun k => spec_l01Times.f k (dig n) 2 0) (dig (n * 2)) := times_at (m := 2) (by omega) hlen
theorem times_4096 {n : Nat} (hlen : (dig n).length ≤ 1000000) : Ev (fun k => spec_l01Times.f k (dig n) 4096 0) (dig (n * 4096)) := times_at (m := 4096) (by omega) hlen
/-! ### l01Two -/
theorem two_l1 (e : Nat) : ∀ n : Nat, e ≤ 1000000 → (dig (n * 2 ^ e)).length ≤ 1000000 → Ev (fun k => spec_l01Two.l1 k (dig n) (e : Int)) (dig (n * 2 ^ e)) := by
 induction e with
 | zero =>
  intro n _ hl;rw [Nat.pow_zero, Nat.mul_one];refine Ev.step (f := fun _ => some (dig n)) (fun k => ?_) (Ev.now _);simp only [spec_l01Two.l1];rw [if_neg (by omega)]
 | succ e ih =>
  intro n he hl;have h0 : (dig n).length ≤ 1000000 := Nat.le_trans (dlen_mono (Nat.le_mul_of_pos_right _ (Nat.two_pow_pos _))) hl;refine Ev.step (f := fun k => (spec_l01Times.f k (dig n) 2 0).bind fun t => spec_l01Two.l1 k t (e : Int)) (fun k => ?_) ?_
  ·simp only [spec_l01Two.l1];rw [if_pos (by omega), wrap64_of (by omega) (by omega)];rw [show ((e + 1 : Nat) : Int) - 1 = (e : Int) by omega]
  ·have e1 : n * 2 ^ (e + 1) = n * 2 * 2 ^ e := (by rw [Nat.pow_succ]; grind);rw [e1] at hl ⊢;exact Ev.bind (f := fun k t => spec_l01Two.l1 k t (e : Int)) (times_2 h0) (ih (n * 2) (by omega) hl)
theorem two_ev (e : Nat) : ∀ n : Nat, e ≤ 1000000 → (dig (n * 2 ^ e)).length ≤ 1000000 → Ev (fun k => spec_l01Two.f k (dig n) (e : Int)) (dig (n * 2 ^ e)) := by
 induction e using Nat.strongRecOn with
 | ind e ih =>
  intro n he hl;have h0 : (dig n).length ≤ 1000000 := Nat.le_trans (dlen_mono (Nat.le_mul_of_pos_right _ (Nat.two_pow_pos _))) hl;by_cases h12 : 12 ≤ e
  ·obtain ⟨g, rfl⟩ : ∃ g, e = g + 12 := ⟨e - 12, by omega⟩;refine Ev.step (f := fun k => (spec_l01Times.f k (dig n) 4096 0).bind fun t => spec_l01Two.l0 k t (g : Int)) (fun k => ?_) ?_
   ·simp only [spec_l01Two.f, spec_l01Two.l0];rw [if_pos (by omega), wrap64_of (by omega) (by omega)];rw [show ((g + 12 : Nat) : Int) - 12 = (g : Int) by omega]
   ·have e1 : n * 2 ^ (g + 12) = n * 4096 * 2 ^ g := by
     rw [Nat.pow_add, show (2 : Nat) ^ 12 = 4096 by decide]; grind
    rw [e1] at hl ⊢;exact Ev.bind (f := fun k t => spec_l01Two.l0 k t (g : Int)) (times_4096 h0) (ih g (by omega) (n * 4096) (by omega) hl)
  ·refine Ev.step (f := fun k => spec_l01Two.l1 k (dig n) (e : Int)) (fun k => ?_) (two_l1 e n he hl);simp only [spec_l01Two.f, spec_l01Two.l0];rw [if_neg (by omega)]
/-! ### l01Pow10 -/
theorem pow10_l1 (e : Nat) : ∀ L : List Int, Dg L → L.length + e ≤ 1000000 → Ev (fun k => spec_l01Pow10.l1 k L (e : Int)) (dig (val L * 10 ^ e)) := by
 induction e with
 | zero =>
  intro L hL hl;rw [Nat.pow_zero, Nat.mul_one];refine Ev.step (f := fun k => (spec_l01Trim.f k L).bind fun t => some t) (fun k => ?_) (bind_some_id _ _ (trim_ev _ L rfl (by omega) hL));simp only [spec_l01Pow10.l1];rw [if_neg (by omega)]
 | succ e ih =>
  intro L hL hl;refine Ev.step (f := fun k => (spec_l01Times.f k L 10 0).bind fun t => spec_l01Pow10.l1 k t (e : Int)) (fun k => ?_) ?_
  ·simp only [spec_l01Pow10.l1];rw [if_pos (by omega), wrap64_of (by omega) (by omega)];rw [show ((e + 1 : Nat) : Int) - 1 = (e : Int) by omega]
  ·have e1 : val L * 10 ^ (e + 1) = val (dig (val L * 10)) * 10 ^ e := (by rw [val_dig, Nat.pow_succ]; grind);rw [e1]
   have hln : (dig (val L * 10)).length ≤ L.length + 1 := by
    apply dlen_le;have := val_lt hL;rw [Nat.pow_succ];omega
   exact Ev.bind (f := fun k t => spec_l01Pow10.l1 k t (e : Int)) (times_any (m := 10) (c := 0) (by omega) (by omega) hL (by omega)) (ih (dig (val L * 10)) (dg_dig _) (by omega))
theorem pow10_any (e : Nat) : ∀ L : List Int, Dg L → L.length + e ≤ 1000000 → Ev (fun k => spec_l01Pow10.f k L (e : Int)) (dig (val L * 10 ^ e)) := by
 induction e using Nat.strongRecOn with
 | ind e ih =>
  intro L hL hl;by_cases h4 : 4 ≤ e
  ·obtain ⟨g, rfl⟩ : ∃ g, e = g + 4 := ⟨e - 4, by omega⟩;refine Ev.step (f := fun k => spec_l01Pow10.l0 k (0 :: L) (g : Int)) (fun k => ?_) ?_
   ·simp only [spec_l01Pow10.f, spec_l01Pow10.l0, Option.bind_some];rw [if_pos (by omega), if_pos (by simp; omega), wrap64_of (by omega) (by omega)];rw [show ((g + 4 : Nat) : Int) - 4 = (g : Int) by omega];rfl
   ·have e1 : val L * 10 ^ (g + 4) = val (0 :: L) * 10 ^ g := by
     rw [val_cons, Nat.pow_add, show (10 : Nat) ^ 4 = 10000 by decide];simp
     grind
    rw [e1]
    exact ih g (by omega) (0 :: L) (fun x hx => by
     rcases List.mem_cons.1 hx with rfl | hx
     ·omega
     ·exact hL x hx) (by simp; omega)
  ·refine Ev.step (f := fun k => spec_l01Pow10.l1 k L (e : Int)) (fun k => ?_) (pow10_l1 e L hL hl);simp only [spec_l01Pow10.f, spec_l01Pow10.l0];rw [if_neg (by omega)]
theorem pow10_ev {n e : Nat} (h : (dig n).length + e ≤ 1000000) : Ev (fun k => spec_l01Pow10.f k (dig n) (e : Int)) (dig (n * 10 ^ e)) := by
 have := pow10_any e (dig n) (dg_dig n) h
 rwa [val_dig] at this
/-! ### l01Cmp -/
def cmpI (a b : Nat) : Int := if a < b then -1 else if a = b then 0 else 1
theorem cmp_l0 (L R : List Int) (hL : Dg L) (hR : Dg R) (hlen : L.length = R.length) (hb : L.length ≤ 1000000) : ∀ j : Nat, j ≤ L.length → L.drop j = R.drop j → Ev (fun k => spec_l01Cmp.l0 k L R ((j : Int) - 1)) (cmpI (val L) (val R)) := by
 intro j
 induction j with
 | zero =>
  intro _ hd;rw [List.drop_zero, List.drop_zero] at hd;subst hd;refine Ev.step (f := fun _ => some 0) (fun k => ?_) ?_
  ·simp only [spec_l01Cmp.l0];rw [if_neg (by omega)]
  ·rw [show cmpI (val L) (val L) = 0 by unfold cmpI; rw [if_neg (by omega), if_pos rfl]];exact Ev.now _
 | succ j ih =>
  intro hj hd;have hj1 : j < L.length := (by omega);have hj2 : j < R.length := (by omega);have ej : ((j + 1 : Nat) : Int) - 1 = (j : Int) := (by omega);rw [ej];have d1 := drop_at hj1;have d2 := drop_at hj2;by_cases he : rd L (j : Int) = rd R (j : Int)
  ·refine Ev.step (f := fun k => spec_l01Cmp.l0 k L R ((j : Int) - 1)) (fun k => ?_) (ih (by omega) (by rw [d1, d2, he, hd]));simp only [spec_l01Cmp.l0];rw [if_pos (by omega), if_pos (by omega), if_pos (by omega), if_pos (by omega), if_pos he, wrap64_of (by omega) (by omega)]
  ·have r1 := hL (rd L (j : Int)) (by rw [rd_at hj1]; exact List.getElem_mem _);have r2 := hR (rd R (j : Int)) (by rw [rd_at hj2]; exact List.getElem_mem _)
   have v1 : val L = val (L.take j) + 10000 ^ j * ((rd L (j : Int)).toNat + 10000 * val (L.drop (j + 1))) := by
    conv => lhs; rw [← List.take_append_drop j L]
    rw [val_append, List.length_take, Nat.min_eq_left (by omega), d1, val_cons]
   have v2 : val R = val (R.take j) + 10000 ^ j * ((rd R (j : Int)).toNat + 10000 * val (L.drop (j + 1))) := by
    conv => lhs; rw [← List.take_append_drop j R]
    rw [val_append, List.length_take, Nat.min_eq_left (by omega), d2, val_cons, hd]
   have t1 := val_lt (dg_take hL j);have t2 := val_lt (dg_take hR j);rw [List.length_take, Nat.min_eq_left (by omega)] at t1 t2;obtain ⟨x, hx⟩ : ∃ x : Nat, rd L (j : Int) = x := ⟨(rd L (j : Int)).toNat, by omega⟩;obtain ⟨y, hy⟩ : ∃ y : Nat, rd R (j : Int) = y := ⟨(rd R (j : Int)).toNat, by omega⟩;rw [hx, Int.toNat_natCast] at v1;rw [hy, Int.toNat_natCast] at v2;rw [hx, hy] at he;obtain ⟨P, hP⟩ : ∃ P, 10000 ^ j = P := ⟨_, rfl⟩;obtain ⟨H, hH⟩ : ∃ H, val (L.drop (j + 1)) = H := ⟨_, rfl⟩;rw [hP] at t1 t2 v1 v2;rw [hH] at v1 v2
   have key : ∀ {a b s t : Nat}, a < b → s < P → s + P * (a + 10000 * H) < t + P * (b + 10000 * H) := fun {a b s t} h hs => by
    have : P * (a + 10000 * H + 1) ≤ P * (b + 10000 * H) := Nat.mul_le_mul_left _ (by omega);rw [Nat.mul_add, Nat.mul_one] at this;omega
   by_cases hlt : x < y
   ·have hc : cmpI (val L) (val R) = -1 := by
     unfold cmpI;rw [if_pos (by rw [v1, v2]; exact key hlt t1)]
    rw [hc];refine Ev.step (f := fun _ => some (-1)) (fun k => ?_) (Ev.now _);simp only [spec_l01Cmp.l0];rw [if_pos (by omega), if_pos (by omega), if_pos (by omega), if_pos (by omega), hx, hy, if_neg he, if_pos (by omega)]
   ·have hgt : val R < val L := (by rw [v1, v2]; exact key (by omega) t2)
    have hc : cmpI (val L) (val R) = 1 := by
     unfold cmpI;rw [if_neg (by omega), if_neg (by omega)]
    rw [hc];refine Ev.step (f := fun _ => some 1) (fun k => ?_) (Ev.now _);simp only [spec_l01Cmp.l0];rw [if_pos (by omega), if_pos (by omega), if_pos (by omega), if_pos (by omega), hx, hy, if_neg he, if_neg (by omega)]
theorem cmp_ev {a b : Nat} (ha : (dig a).length ≤ 1000000) : Ev (fun k => spec_l01Cmp.f k (dig a) (dig b)) (cmpI a b) := by
 by_cases he : (dig a).length = (dig b).length
 ·have h := cmp_l0 (dig a) (dig b) (dg_dig a) (dg_dig b) he ha (dig a).length (Nat.le_refl _) (by rw [List.drop_length, he, List.drop_length]);rw [val_dig, val_dig] at h;refine Ev.congr (fun k => ?_) h;unfold spec_l01Cmp.f;rw [if_pos (by omega), wrap64_of (by omega) (by omega)]
 ·by_cases hlt : (dig a).length < (dig b).length
  ·have hab : a < b := by
    apply Nat.lt_of_not_le;intro h;have := dlen_mono h;omega
   rw [show cmpI a b = -1 by unfold cmpI; rw [if_pos hab]];refine Ev.congr (fun k => ?_) (Ev.now _);unfold spec_l01Cmp.f;rw [if_neg (by omega), if_pos (by omega)]
  ·have hab : b < a := by
    apply Nat.lt_of_not_le;intro h;have := dlen_mono h;omega
   rw [show cmpI a b = 1 by unfold cmpI; rw [if_neg (by omega), if_neg (by omega)]];refine Ev.congr (fun k => ?_) (Ev.now _);unfold spec_l01Cmp.f;rw [if_neg (by omega), if_neg (by omega)]
/-! ### l01Half -/
theorem set_drop {l : List Int} {j : Nat} (x : Int) (h : j < l.length) : (l.set j x).drop j = x :: l.drop (j + 1) := by
 have h1 : j < (l.set j x).length := (by rw [List.length_set]; exact h);rw [List.drop_eq_getElem_cons h1, List.getElem_set_self, List.drop_set_of_lt (by omega)]
theorem dg_set {l : List Int} (h : Dg l) {j : Nat} {x : Int} (h0 : 0 ≤ x) (h1 : x < 10000) : Dg (l.set j x) := fun y hy => by
 rcases List.mem_or_eq_of_mem_set hy with hy | rfl
 ·exact h y hy
 ·exact ⟨h0, h1⟩
theorem half_l0 (L : List Int) (hL : Dg L) (hb : L.length ≤ 1000000) : ∀ (j : Nat) (X : List Int) (c : Nat), j ≤ L.length → X.length = L.length → Dg X → val (X.drop j) = val (L.drop j) / 2 → c = val (L.drop j) % 2 →
  Ev (fun k => spec_l01Half.l0 k L X (c : Int) ((j : Int) - 1)) (dig (val L / 2)) := by
 intro j
 induction j with
 | zero =>
  intro X c _ hlen hX hv hc;refine Ev.step (f := fun k => (spec_l01Trim.f k X).bind fun t => some t) (fun k => ?_) ?_
  ·simp only [spec_l01Half.l0];rw [if_neg (by omega)]
  ·rw [List.drop_zero, List.drop_zero] at hv;rw [← hv];exact bind_some_id _ _ (trim_ev _ X rfl (by omega) hX)
 | succ j ih =>
  intro X c hj hlen hX hv hc;have hj1 : j < L.length := (by omega);rw [show ((j + 1 : Nat) : Int) - 1 = (j : Int) by omega];have r1 := hL (rd L (j : Int)) (by rw [rd_at hj1]; exact List.getElem_mem _);obtain ⟨x, hx⟩ : ∃ x : Nat, rd L (j : Int) = x := ⟨(rd L (j : Int)).toNat, by omega⟩;rw [hx] at r1;obtain ⟨y, hy⟩ : ∃ y : Nat, c * 10000 + x = y := ⟨_, rfl⟩;obtain ⟨H, hH⟩ : ∃ H, val (L.drop (j + 1)) = H := ⟨_, rfl⟩;rw [hH] at hv hc;have e2 : Int.tdiv (y : Int) 2 = ((y / 2 : Nat) : Int) := (by rw [Int.tdiv_eq_ediv_of_nonneg (by omega)]; omega);have e3 : Int.tmod (y : Int) 2 = ((y % 2 : Nat) : Int) := (by rw [Int.tmod_eq_emod_of_nonneg (by omega)]; omega)
  have e1 : Unit → wrap64 (wrap64 ((c : Int) * 10000) + (x : Int)) = (y : Int) := fun _ => by
   have hc1 : c ≤ 1 := (by omega);clear hv hc;rw [wrap64_of (x := (c : Int) * 10000) (by omega) (by omega), wrap64_of (by omega) (by omega)];omega
  refine Ev.step (f := fun k => spec_l01Half.l0 k L (X.set j ((y / 2 : Nat) : Int)) ((y % 2 : Nat) : Int) ((j : Int) - 1)) (fun k => ?_) ?_
  ·simp only [spec_l01Half.l0];rw [if_pos (by omega), if_pos (by omega), if_pos (by omega), if_pos (by omega), hx, e1 (), e2, e3, Int.toNat_natCast, wrap64_of (x := ((y / 2 : Nat) : Int)) (by omega) (by omega), wrap64_of (x := (j : Int) - 1) (by omega) (by omega)]
  ·have hvL : val (L.drop j) = x + 10000 * H := (by rw [drop_at hj1, val_cons, hx, hH, Int.toNat_natCast]);refine ih (X.set j ((y / 2 : Nat) : Int)) (y % 2) (by omega) (by rw [List.length_set]; exact hlen) (dg_set hX (by omega) (by omega)) ?_ ?_
   ·rw [set_drop _ (by omega), val_cons, hv, hvL, Int.toNat_natCast];omega
   ·rw [hvL];omega
theorem half_ev {n : Nat} (h : (dig n).length ≤ 1000000) : Ev (fun k => spec_l01Half.f k (dig n)) (dig (n / 2)) := by
 have hg := half_l0 (dig n) (dg_dig n) h (dig n).length (List.replicate (dig n).length 0) 0 (Nat.le_refl _) (List.length_replicate ..) (fun x hx => by
  have := (List.mem_replicate.1 hx).2
  omega) (by rw [List.drop_length, List.drop_eq_nil_of_le (by rw [List.length_replicate]; exact Nat.le_refl _)]; rfl) (by rw [List.drop_length]; rfl)
 rw [val_dig] at hg;refine Ev.congr (fun k => ?_) hg;unfold spec_l01Half.f;rw [Int.toNat_natCast, if_pos (by omega), if_pos (by omega), wrap64_of (by omega) (by omega)];rfl
/-! ### l01Minus -/
theorem minus_l0 (L R : List Int) (hL : Dg L) (hR : Dg R) (hb : L.length ≤ 1000000) : ∀ (n j c : Nat) (out : List Int), j + n = L.length → c ≤ 1 → out.length = j → Dg out → val (R.drop j) + c ≤ val (L.drop j) →
  Ev (fun k => spec_l01Minus.l0 k R out (c : Int) L (L.length : Int) (j : Int)) (dig (val out + 10000 ^ j * (val (L.drop j) - val (R.drop j) - c))) := by
 intro n
 induction n with
 | zero =>
  intro j c out hj hc ho hd hge;refine Ev.step (f := fun k => (spec_l01Trim.f k out).bind fun t => some t) (fun k => ?_) ?_
  ·simp only [spec_l01Minus.l0];rw [if_neg (by omega)]
  ·rw [List.drop_eq_nil_of_le (by omega : L.length ≤ j), show val [] = 0 from rfl, Nat.zero_sub, Nat.zero_sub, Nat.mul_zero, Nat.add_zero];exact bind_some_id _ _ (trim_ev _ out rfl (by omega) hd)
 | succ n ih =>
  intro j c out hj hc ho hd hge;have hj1 : j < L.length := (by omega);have r1 := hL (rd L (j : Int)) (by rw [rd_at hj1]; exact List.getElem_mem _);obtain ⟨x, hx⟩ : ∃ x : Nat, rd L (j : Int) = x := ⟨(rd L (j : Int)).toNat, by omega⟩;rw [hx] at r1;obtain ⟨A, hA⟩ : ∃ A, val (L.drop (j + 1)) = A := ⟨_, rfl⟩;obtain ⟨B, hB⟩ : ∃ B, val (R.drop (j + 1)) = B := ⟨_, rfl⟩;have hvL : val (L.drop j) = x + 10000 * A := (by rw [drop_at hj1, val_cons, hx, hA, Int.toNat_natCast])
  -- the digit of R, 0 behind its end
  obtain ⟨y, hy1, hy2, hvR⟩ : ∃ y : Nat, y < 10000 ∧ (if (j : Int) < (R.length : Int) then rd R (j : Int) = y else y = 0) ∧ val (R.drop j) = y + 10000 * B := by
   by_cases hjR : j < R.length
   ·have r2 := hR (rd R (j : Int)) (by rw [rd_at hjR]; exact List.getElem_mem _);refine ⟨(rd R (j : Int)).toNat, by omega, ?_, ?_⟩
    ·rw [if_pos (by omega)]; omega
    ·rw [drop_at hjR, val_cons, hB]
   ·refine ⟨0, by omega, ?_, ?_⟩
    ·rw [if_neg (by omega)]
    ·rw [List.drop_eq_nil_of_le (by omega), ← hB, List.drop_eq_nil_of_le (by omega)]; rfl
  rw [hvL, hvR] at hge ⊢;by_cases hlt : x < y + c
  ·refine Ev.step (f := fun k => spec_l01Minus.l0 k R (out ++ [((x + 10000 - y - c : Nat) : Int)]) ((1 : Nat) : Int) L (L.length : Int) ((j + 1 : Nat) : Int)) (fun k => ?_) ?_
   ·simp only [spec_l01Minus.l0];rw [if_pos (by omega), if_pos (by omega), if_pos (by omega), hx, wrap64_of (x := (j : Int) + 1) (by omega) (by omega), wrap64_of (x := (x : Int) - c) (by omega) (by omega)];by_cases hjR : (j : Int) < (R.length : Int)
    ·rw [if_pos hjR] at hy2;rw [if_pos hjR, hy2, wrap64_of (x := (x : Int) - c - y) (by omega) (by omega), if_pos (by omega), if_pos (by omega), wrap64_of (by omega) (by omega)];rw [show (x : Int) - c - y + 10000 = ((x + 10000 - y - c : Nat) : Int) by omega];rfl
    ·rw [if_neg hjR] at hy2;rw [if_neg hjR, if_pos (by omega), if_pos (by omega), wrap64_of (by omega) (by omega)];rw [show (x : Int) - c + 10000 = ((x + 10000 - y - c : Nat) : Int) by omega];rfl
   ·have hg := ih (j + 1) 1 (out ++ [((x + 10000 - y - c : Nat) : Int)]) (by omega) (by omega) (by rw [List.length_append]; simp; omega) (dg_append hd (dg_one (by omega) (by omega))) (by rw [hA, hB]; omega);rw [hA, hB, val_snoc, ho, Int.toNat_natCast, Nat.pow_succ] at hg
    have hv : val out + 10000 ^ j * (x + 10000 - y - c) + 10000 ^ j * 10000 * (A - B - 1) = val out + 10000 ^ j * (x + 10000 * A - (y + 10000 * B) - c) := by
     rw [show x + 10000 * A - (y + 10000 * B) - c = (x + 10000 - y - c) + 10000 * (A - B - 1) by omega]
     grind
    rw [hv] at hg;exact hg
  ·refine Ev.step (f := fun k => spec_l01Minus.l0 k R (out ++ [((x - y - c : Nat) : Int)]) ((0 : Nat) : Int) L (L.length : Int) ((j + 1 : Nat) : Int)) (fun k => ?_) ?_
   ·simp only [spec_l01Minus.l0];rw [if_pos (by omega), if_pos (by omega), if_pos (by omega), hx, wrap64_of (x := (j : Int) + 1) (by omega) (by omega), wrap64_of (x := (x : Int) - c) (by omega) (by omega)];by_cases hjR : (j : Int) < (R.length : Int)
    ·rw [if_pos hjR] at hy2;rw [if_pos hjR, hy2, wrap64_of (x := (x : Int) - c - y) (by omega) (by omega), if_neg (by omega), if_pos (by omega)];rw [show (x : Int) - c - y = ((x - y - c : Nat) : Int) by omega];rfl
    ·rw [if_neg hjR] at hy2;rw [if_neg hjR, if_neg (by omega), if_pos (by omega)];rw [show (x : Int) - c = ((x - y - c : Nat) : Int) by omega];rfl
   ·have hg := ih (j + 1) 0 (out ++ [((x - y - c : Nat) : Int)]) (by omega) (by omega) (by rw [List.length_append]; simp; omega) (dg_append hd (dg_one (by omega) (by omega))) (by rw [hA, hB]; omega);rw [hA, hB, val_snoc, ho, Int.toNat_natCast, Nat.pow_succ] at hg
    have hv : val out + 10000 ^ j * (x - y - c) + 10000 ^ j * 10000 * (A - B - 0) = val out + 10000 ^ j * (x + 10000 * A - (y + 10000 * B) - c) := by
     rw [show x + 10000 * A - (y + 10000 * B) - c = (x - y - c) + 10000 * (A - B - 0) by omega]
     grind
    rw [hv] at hg;exact hg
theorem minus_ev {a b : Nat} (hl : (dig a).length ≤ 1000000) (h : b ≤ a) : Ev (fun k => spec_l01Minus.f k (dig a) (dig b)) (dig (a - b)) := by
 have hg := minus_l0 (dig a) (dig b) (dg_dig a) (dg_dig b) hl (dig a).length 0 0 [] (by omega) (by omega) rfl (fun x hx => by cases hx) (by rw [List.drop_zero, List.drop_zero, val_dig, val_dig]; exact h);rw [List.drop_zero, List.drop_zero, val_dig, val_dig, Nat.pow_zero, Nat.one_mul, show val [] = 0 from rfl, Nat.zero_add, Nat.sub_zero] at hg;exact hg
end Go.Proofs.YtlblkajnmdhmdaaGreatDoor.NB
namespace Go.Proofs.YtlblkajnmdhmdaaGreatDoor.NB
set_option linter.unusedVariables false
open Go Go.RowKit Go.Proofs.YtlblkajnmdhmdaaGreatDoor.PFormatNumber Go.Proofs.YtlblkajnmdhmdaaGreatDoorW.PrintWords Go.Proofs.YtlblkajnmdhmdaaGreatDoorW.PrintLast Go.Proofs.YtlblkajnmdhmdaaGreatDoorW.PrintMore Go.Proofs.YtlblkajnmdhmdaaGreatDoor.NU
theorem dlen_two {n B : Nat} (h : n < 2 ^ B) : (dig n).length ≤ B := dlen_le (Nat.lt_of_lt_of_le h (Nat.pow_le_pow_left (by decide) B))
theorem cmpI_ge {a b : Nat} : (0 ≤ cmpI a b) ↔ b ≤ a := by unfold cmpI; split <;> (try split) <;> omega
theorem cmpI_lt {a b : Nat} : (cmpI a b < 0) ↔ a < b := by unfold cmpI; split <;> (try split) <;> omega
/-- The word as the reference packs it. -/
def packI (E q : Nat) : Int := ((min (E * 2 ^ 52 + q) (2047 * 2 ^ 52) : Nat) : Int)
theorem pack_ev {q : Nat} {e : Int} (he : -1074 ≤ e) (he2 : e ≤ 100000) (hq : q ≤ 2 ^ 53) (h0 : e = -1074 ∨ 2 ^ 52 ≤ q) : Ev (fun k => spec_l01Word.j6 k e (q : Int)) (packI (e + 1074).toNat q) := by
 obtain ⟨E, hE⟩ : ∃ E : Nat, e = (E : Int) - 1074 := ⟨(e + 1074).toNat, by omega⟩;subst hE;have hEt : ((E : Int) - 1074 + 1074).toNat = E := (by omega);rw [hEt];unfold packI;rw [word_pack hq (by omega)];by_cases h53 : q = 2 ^ 53
 ·rw [if_pos h53];refine Ev.step (f := fun k => spec_l01Word.j7 k ((E : Int) - 1073) 4503599627370496) (fun k => ?_) ?_
  ·simp only [spec_l01Word.j6];rw [if_pos (by omega), wrap64_of (by omega) (by omega)];rw [show (E : Int) - 1074 + 1 = (E : Int) - 1073 by omega]
  ·by_cases hb : 2045 < E + 1
   ·rw [if_pos hb];refine Ev.step (f := fun _ => some 9218868437227405312) (fun k => ?_) (Ev.now _);simp only [spec_l01Word.j7];rw [if_pos (by omega)]
   ·rw [if_neg hb];refine Ev.step (f := fun _ => some ((((E + 2) * 2 ^ 52 : Nat)) : Int)) (fun k => ?_) (Ev.now _);simp only [spec_l01Word.j7];rw [if_neg (by omega), if_neg (by omega), wrap64_of (x := (E : Int) - 1073 + 1075) (by omega) (by omega)];simp only [IntKind.wrap_u64];congr 1;omega
 ·rw [if_neg h53];refine Ev.step (f := fun k => spec_l01Word.j7 k ((E : Int) - 1074) (q : Int)) (fun k => ?_) ?_
  ·simp only [spec_l01Word.j6];rw [if_neg (by omega)]
  ·by_cases hb : 2045 < E
   ·rw [if_pos hb];refine Ev.step (f := fun _ => some 9218868437227405312) (fun k => ?_) (Ev.now _);simp only [spec_l01Word.j7];rw [if_pos (by omega)]
   ·rw [if_neg hb];by_cases hs : q < 2 ^ 52
    ·rw [if_pos hs];refine Ev.step (f := fun _ => some (q : Int)) (fun k => ?_) (Ev.now _);simp only [spec_l01Word.j7];rw [if_neg (by omega), if_pos (by omega)]
    ·rw [if_neg hs];refine Ev.step (f := fun _ => some (((E + 1) * 2 ^ 52 + q - 2 ^ 52 : Nat) : Int)) (fun k => ?_) (Ev.now _);simp only [spec_l01Word.j7];rw [if_neg (by omega), if_neg (by omega), wrap64_of (x := (E : Int) - 1074 + 1075) (by omega) (by omega)];simp only [IntKind.wrap_u64];congr 1;omega
theorem j5_ev {N d : Nat} {e : Int} (hd : 0 < d) (he : -1074 ≤ e) (he2 : e ≤ 100000) (h1 : N < 2 ^ 53 * d) (h2 : e = -1074 ∨ 2 ^ 52 * d ≤ N) (b : Bool)
  (hb : b = decide (d < 2 * (N % d) ∨ (2 * (N % d) = d ∧ N / d % 2 = 1))) : Ev (fun k => spec_l01Word.j5 k e ((N / d : Nat) : Int) b) (packI (e + 1074).toNat (rne N d)) := by
 have hq : N / d < 2 ^ 53 := (Nat.div_lt_iff_lt_mul hd).2 h1;have hq2 : e = -1074 ∨ 2 ^ 52 ≤ N / d := h2.imp_right fun h => (Nat.le_div_iff_mul_le hd).2 h;unfold rne
 cases b with
 | true =>
  have hc := of_decide_eq_true hb.symm;rw [if_pos hc];refine Ev.step (f := fun k => spec_l01Word.j6 k e ((N / d + 1 : Nat) : Int)) (fun k => ?_) (pack_ev he he2 (by omega) (by omega));simp only [spec_l01Word.j5];obtain ⟨f, hf⟩ : ∃ f, N / d = f := ⟨_, rfl⟩;rw [hf] at hq ⊢;rw [if_pos trivial, IntKind.wrap_u64];congr 1;clear hc hb h1 h2 hf hq2;omega
 | false =>
  have hc := of_decide_eq_false hb.symm;rw [if_neg hc, Nat.add_zero];refine Ev.step (f := fun k => spec_l01Word.j6 k e ((N / d : Nat) : Int)) (fun k => ?_) (pack_ev he he2 (by omega) hq2);simp only [spec_l01Word.j5];rw [if_neg (by decide)]
theorem l2_ev {N d B : Nat} {e : Int} (hd : 0 < d) (hB : B ≤ 500000) (hNB : N < 2 ^ B) (hdB : d * 2 ^ 53 < 2 ^ B) (he : -1074 ≤ e) (he2 : e ≤ 100000) (h1 : N < 2 ^ 53 * d) (h2 : e = -1074 ∨ 2 ^ 52 * d ≤ N) :
  ∀ (s q n : Nat), s ≤ 53 → N = q * d + n → n < d * 2 ^ s → q < 2 ^ 53 → q % 2 ^ s = 0 → Ev (fun k => spec_l01Word.l2 k (dig n) (dig d) e (q : Int) (dig (d * 2 ^ s / 2)) ((s : Int) - 1)) (packI (e + 1074).toNat (rne N d)) := by
 intro s
 induction s with
 | zero =>
  intro q n _ hN hn hq _;rw [Nat.pow_zero, Nat.mul_one] at hn ⊢;have hqe : N / d = q := (by rw [hN, Nat.add_comm, Nat.add_mul_div_right _ _ hd, Nat.div_eq_of_lt hn, Nat.zero_add]);have hre : N % d = n := (by rw [hN, Nat.add_comm, Nat.add_mul_mod_self_right, Nat.mod_eq_of_lt hn])
  have hnB : n * 2 < 2 ^ (B + 1) := by
   rw [Nat.pow_succ];have : n ≤ N := (by rw [hN]; omega);omega
  have hl1 := dlen_two (Nat.lt_of_le_of_lt (by rw [hN]; omega : n ≤ N) hNB);have hl2 := dlen_two hnB;have fin := fun b hb => j5_ev hd he he2 h1 h2 b hb;rw [hqe, hre] at fin;refine Ev.step (f := fun k => (spec_l01Times.f k (dig n) 2 0).bind fun t215 => ((spec_l01Cmp.f k t215 (dig d)).bind fun t218 => (if t218 > 0 then (spec_l01Word.j5 k e (q : Int) true) else (if t218 = 0 then (spec_l01Word.j5 k e (q : Int) ((Int.tmod (q : Int) 2) == 1)) else (spec_l01Word.j5 k e (q : Int) false))))) (fun k => ?_) ?_
  ·simp only [spec_l01Word.l2];rw [if_neg (by omega)]
  ·refine Ev.bind (f := fun k t215 => (spec_l01Cmp.f k t215 (dig d)).bind fun t218 => (if t218 > 0 then (spec_l01Word.j5 k e (q : Int) true) else (if t218 = 0 then (spec_l01Word.j5 k e (q : Int) ((Int.tmod (q : Int) 2) == 1)) else (spec_l01Word.j5 k e (q : Int) false)))) (times_2 (by omega)) ?_;refine Ev.bind (f := fun k t218 => (if t218 > 0 then (spec_l01Word.j5 k e (q : Int) true) else (if t218 = 0 then (spec_l01Word.j5 k e (q : Int) ((Int.tmod (q : Int) 2) == 1)) else (spec_l01Word.j5 k e (q : Int) false)))) (cmp_ev (by omega)) ?_;by_cases c1 : d < 2 * n
   ·refine Ev.congr (fun k => ?_) (fin true (decide_eq_true (Or.inl c1)).symm);rw [if_pos];unfold cmpI;rw [if_neg (by omega), if_neg (by omega)];decide
   ·by_cases c2 : 2 * n = d
    ·have hod : (Int.tmod (q : Int) 2 == 1) = decide (q % 2 = 1) := by
      rw [Int.tmod_eq_emod_of_nonneg (by omega)];by_cases h : q % 2 = 1
      ·rw [decide_eq_true h]; simp; omega
      ·rw [decide_eq_false h]; simp; omega
     refine Ev.congr (fun k => ?_) (fin (decide (q % 2 = 1)) ?_)
     ·have hc : cmpI (n * 2) d = 0 := (by unfold cmpI; rw [if_neg (by omega), if_pos (by omega)]);rw [hc, if_neg (by decide), if_pos rfl, hod]
     ·by_cases h : q % 2 = 1
      ·rw [decide_eq_true h, decide_eq_true (Or.inr ⟨c2, h⟩)]
      ·rw [decide_eq_false h, decide_eq_false];omega
    ·refine Ev.congr (fun k => ?_) (fin false (decide_eq_false (by omega)).symm);have hc : cmpI (n * 2) d = -1 := (by unfold cmpI; rw [if_pos (by omega)]);rw [hc, if_neg (by decide), if_neg (by decide)]
 | succ s ih =>
  intro q n hs hN hn hq hqs
  have ht : d * 2 ^ (s + 1) / 2 = d * 2 ^ s := by
   rw [Nat.pow_succ, ← Nat.mul_assoc];exact Nat.mul_div_cancel _ (by decide)
  rw [ht, show ((s + 1 : Nat) : Int) - 1 = (s : Int) by omega];have hnN : n ≤ N := (by rw [hN]; omega);have hl1 := dlen_two (Nat.lt_of_le_of_lt hnN hNB);have hl2 : (dig (d * 2 ^ s)).length ≤ B := dlen_two (Nat.lt_of_le_of_lt (Nat.mul_le_mul_left _ (Nat.pow_le_pow_right (by decide) (by omega))) hdB);refine Ev.step (f := fun k => (spec_l01Cmp.f k (dig n) (dig (d * 2 ^ s))).bind fun t205 => (if t205 ≥ 0 then ((spec_l01Minus.f k (dig n) (dig (d * 2 ^ s))).bind fun t206 => (if 0 ≤ (s : Int) then ((spec_l01Half.f k (dig (d * 2 ^ s))).bind fun t209 => (spec_l01Word.l2 k t206 (dig d) e (IntKind.u64.wrap ((q : Int) + (shl .u64 1 (s : Int)))) t209 (wrap64 ((s : Int) - 1)))) else (none))) else ((spec_l01Half.f k (dig (d * 2 ^ s))).bind fun t212 => (spec_l01Word.l2 k (dig n) (dig d) e (q : Int) t212 (wrap64 ((s : Int) - 1)))))) (fun k => ?_) ?_
  ·simp only [spec_l01Word.l2];rw [if_pos (by omega)]
  ·have hws : wrap64 ((s : Int) - 1) = (s : Int) - 1 := wrap64_of (by omega) (by omega);simp only [hws];refine Ev.bind (f := fun k t205 => (if t205 ≥ 0 then ((spec_l01Minus.f k (dig n) (dig (d * 2 ^ s))).bind fun t206 => (if 0 ≤ (s : Int) then ((spec_l01Half.f k (dig (d * 2 ^ s))).bind fun t209 => (spec_l01Word.l2 k t206 (dig d) e (IntKind.u64.wrap ((q : Int) + (shl .u64 1 (s : Int)))) t209 ((s : Int) - 1))) else (none))) else ((spec_l01Half.f k (dig (d * 2 ^ s))).bind fun t212 => (spec_l01Word.l2 k (dig n) (dig d) e (q : Int) t212 ((s : Int) - 1))))) (cmp_ev (by omega)) ?_;by_cases hge : d * 2 ^ s ≤ n
   ·have hq2 : q + 2 ^ s < 2 ^ 53 := by
     have hqd : (q + 2 ^ s) * d ≤ N := by
      rw [hN, Nat.add_mul, Nat.mul_comm (2 ^ s)]; omega
     have := Nat.lt_of_le_of_lt hqd h1;exact Nat.lt_of_mul_lt_mul_right this
    have hsh : IntKind.u64.wrap ((q : Int) + (shl .u64 1 (s : Int))) = ((q + 2 ^ s : Nat) : Int) := by
     unfold shl;rw [Int.toNat_natCast, show IntKind.u64.bits = 64 from rfl, Nat.min_eq_left (by omega), Int.one_mul, show ((2 : Int) ^ s) = ((2 ^ s : Nat) : Int) by simp];rw [IntKind.wrap_u64, IntKind.wrap_u64];have : 2 ^ s ≤ 2 ^ 53 := Nat.pow_le_pow_right (by decide) (by omega);omega
    refine Ev.congr (f := fun k => (spec_l01Minus.f k (dig n) (dig (d * 2 ^ s))).bind fun t206 => (spec_l01Half.f k (dig (d * 2 ^ s))).bind fun t209 => spec_l01Word.l2 k t206 (dig d) e ((q + 2 ^ s : Nat) : Int) t209 ((s : Int) - 1)) (fun k => ?_) ?_
    ·rw [if_pos (cmpI_ge.2 hge), hsh];simp only [if_pos (show (0 : Int) ≤ (s : Int) by omega)]
    ·refine Ev.bind (f := fun k t206 => (spec_l01Half.f k (dig (d * 2 ^ s))).bind fun t209 => spec_l01Word.l2 k t206 (dig d) e ((q + 2 ^ s : Nat) : Int) t209 ((s : Int) - 1)) (minus_ev (by omega) hge) ?_;refine Ev.bind (f := fun k t209 => spec_l01Word.l2 k (dig (n - d * 2 ^ s)) (dig d) e ((q + 2 ^ s : Nat) : Int) t209 ((s : Int) - 1)) (half_ev (by omega)) ?_;refine ih (q + 2 ^ s) (n - d * 2 ^ s) (by omega) ?_ ?_ hq2 ?_
     ·rw [hN, Nat.add_mul, Nat.mul_comm (2 ^ s)]; omega
     ·rw [Nat.pow_succ, ← Nat.mul_assoc] at hn; omega
     ·rw [Nat.add_mod_right];have := Nat.mod_mod_of_dvd q (Nat.pow_dvd_pow 2 (Nat.le_succ s));rw [← this, hqs, Nat.zero_mod]
   ·refine Ev.congr (f := fun k => (spec_l01Half.f k (dig (d * 2 ^ s))).bind fun t212 => spec_l01Word.l2 k (dig n) (dig d) e (q : Int) t212 ((s : Int) - 1)) (fun k => ?_) ?_
    ·rw [if_neg (fun h => hge (cmpI_ge.1 h))]
    ·refine Ev.bind (f := fun k t212 => spec_l01Word.l2 k (dig n) (dig d) e (q : Int) t212 ((s : Int) - 1)) (half_ev (by omega)) ?_;refine ih q n (by omega) hN (by omega) hq ?_;have := Nat.mod_mod_of_dvd q (Nat.pow_dvd_pow 2 (Nat.le_succ s));rw [← this, hqs, Nat.zero_mod]
theorem l1_ev {n0 d0 d j B : Nat} {e0 : Int} (hd0 : 0 < d0) (hB : B ≤ 500000) (hdB : d * 2 ^ 53 < 2 ^ B) (hd : d = d0 * 2 ^ j) (heB : e0 + j ≤ 100000) : ∀ (g i : Nat) (e : Int), e = e0 + j - i → e + 1074 = g → n0 * 2 ^ i < 2 ^ 53 * d →
  Ev (fun k => spec_l01Word.l1 k (dig (n0 * 2 ^ i)) (dig d) e (dig (d * 2 ^ 52))) ((word2 n0 d0 e0 : Nat) : Int) := by
 intro g;have hdp : 0 < d := (by rw [hd]; exact Nat.mul_pos hd0 (Nat.two_pow_pos _))
 have last : ∀ (i : Nat) (e : Int), e = e0 + j - i → -1074 ≤ e → n0 * 2 ^ i < 2 ^ 53 * d → (e = -1074 ∨ 2 ^ 52 * d ≤ n0 * 2 ^ i) → Ev (fun k => spec_l01Word.j3 k (dig (n0 * 2 ^ i)) (dig d) e (dig (d * 2 ^ 52))) ((word2 n0 d0 e0 : Nat) : Int) := fun i e he hlo h1 h2 => by
  rw [word_steps hd0 rfl hd he hlo h1 h2];refine Ev.step (f := fun k => spec_l01Word.l2 k (dig (n0 * 2 ^ i)) (dig d) e 0 (dig (d * 2 ^ 52)) 52) (fun k => ?_) ?_
  ·simp only [spec_l01Word.j3]
  ·have hh := l2_ev hdp hB (Nat.lt_trans (by rw [Nat.mul_comm d]; exact h1) hdB) hdB hlo (by omega) h1 h2 53 0 (n0 * 2 ^ i) (by omega) (by omega) (by rw [Nat.mul_comm d]; exact h1) (by decide) (by decide);rw [show d * 2 ^ 53 / 2 = d * 2 ^ 52 by rw [show (2 : Nat) ^ 53 = 2 ^ 52 * 2 by decide, ← Nat.mul_assoc]; exact Nat.mul_div_cancel _ (by decide)] at hh;exact hh
 have hl52 : (dig (d * 2 ^ 52)).length ≤ B := dlen_two (Nat.lt_of_le_of_lt (Nat.mul_le_mul_left _ (by decide)) hdB)
 induction g with
 | zero =>
  intro i e he hg h1;refine Ev.step (f := fun k => spec_l01Word.j3 k (dig (n0 * 2 ^ i)) (dig d) e (dig (d * 2 ^ 52))) (fun k => ?_) (last i e he (by omega) h1 (Or.inl (by omega)));simp only [spec_l01Word.l1];rw [if_neg (by omega)]
 | succ g ih =>
  intro i e he hg h1;have hl1 : (dig (n0 * 2 ^ i)).length ≤ B := dlen_two (Nat.lt_trans (by rw [Nat.mul_comm d]; exact h1) hdB);refine Ev.step (f := fun k => (spec_l01Cmp.f k (dig (n0 * 2 ^ i)) (dig (d * 2 ^ 52))).bind fun t201 => (if t201 < 0 then ((spec_l01Times.f k (dig (n0 * 2 ^ i)) 2 0).bind fun t202 => (spec_l01Word.l1 k t202 (dig d) (wrap64 (e - 1)) (dig (d * 2 ^ 52)))) else (spec_l01Word.j3 k (dig (n0 * 2 ^ i)) (dig d) e (dig (d * 2 ^ 52))))) (fun k => ?_) ?_
  ·simp only [spec_l01Word.l1];rw [if_pos (by omega)]
  ·rw [wrap64_of (x := e - 1) (by omega) (by omega)];refine Ev.bind (f := fun k t201 => (if t201 < 0 then ((spec_l01Times.f k (dig (n0 * 2 ^ i)) 2 0).bind fun t202 => (spec_l01Word.l1 k t202 (dig d) (e - 1) (dig (d * 2 ^ 52)))) else (spec_l01Word.j3 k (dig (n0 * 2 ^ i)) (dig d) e (dig (d * 2 ^ 52))))) (cmp_ev (by omega)) ?_;by_cases hlt : n0 * 2 ^ i < d * 2 ^ 52
   ·refine Ev.congr (f := fun k => (spec_l01Times.f k (dig (n0 * 2 ^ i)) 2 0).bind fun t202 => (spec_l01Word.l1 k t202 (dig d) (e - 1) (dig (d * 2 ^ 52)))) (fun k => ?_) ?_
    ·rw [if_pos (cmpI_lt.2 hlt)]
    ·refine Ev.bind (f := fun k t202 => spec_l01Word.l1 k t202 (dig d) (e - 1) (dig (d * 2 ^ 52))) (times_2 (by omega)) ?_;have e1 : n0 * 2 ^ i * 2 = n0 * 2 ^ (i + 1) := (by rw [Nat.pow_succ]; grind);rw [e1];refine ih (i + 1) (e - 1) (by omega) (by omega) ?_;rw [← e1];have : d * 2 ^ 52 * 2 = 2 ^ 53 * d := (by rw [Nat.mul_assoc, Nat.mul_comm d]);omega
   ·refine Ev.congr (f := fun k => spec_l01Word.j3 k (dig (n0 * 2 ^ i)) (dig d) e (dig (d * 2 ^ 52))) (fun k => ?_) ?_
    ·rw [if_neg (fun h => hlt (cmpI_lt.1 h))]
    ·exact last i e he (by omega) h1 (Or.inr (by rw [Nat.mul_comm]; omega))
theorem l0_ev {n0 d0 B : Nat} {e0 : Int} (he0 : -100000 ≤ e0) (hd0 : 0 < d0) (hB : B ≤ 500000) (hnB : n0 < 2 ^ B) : ∀ (r j : Nat) (e : Int), e = e0 + j → n0 < d0 * 2 ^ j * 2 ^ 53 * 2 ^ r → -1074 ≤ e + r → e + r ≤ 100000 → d0 * 2 ^ j * 2 ^ 53 * 2 ^ r < 2 ^ B →
  Ev (fun k => spec_l01Word.l0 k (dig n0) (dig (d0 * 2 ^ j)) e (dig (d0 * 2 ^ j * 2 ^ 53))) ((word2 n0 d0 e0 : Nat) : Int) := by
 intro r
 induction r with
 | zero =>
  intro j e he h1 h2 h3 hdB;rw [Nat.pow_zero, Nat.mul_one] at h1 hdB;have hl : (dig n0).length ≤ B := dlen_two hnB;have hl2 := dlen_two hdB;refine Ev.step (f := fun k => (spec_l01Cmp.f k (dig n0) (dig (d0 * 2 ^ j * 2 ^ 53))).bind fun t191 => (if t191 ≥ 0 then (spec_l01Word.j1 k (dig n0) (dig (d0 * 2 ^ j)) e (dig (d0 * 2 ^ j * 2 ^ 53)) true) else (spec_l01Word.j1 k (dig n0) (dig (d0 * 2 ^ j)) e (dig (d0 * 2 ^ j * 2 ^ 53)) (decide (e < (-1074)))))) (fun k => ?_) ?_
  ·simp only [spec_l01Word.l0]
  ·refine Ev.bind (f := fun k t191 => (if t191 ≥ 0 then (spec_l01Word.j1 k (dig n0) (dig (d0 * 2 ^ j)) e (dig (d0 * 2 ^ j * 2 ^ 53)) true) else (spec_l01Word.j1 k (dig n0) (dig (d0 * 2 ^ j)) e (dig (d0 * 2 ^ j * 2 ^ 53)) (decide (e < (-1074)))))) (cmp_ev (by omega)) ?_;refine Ev.congr (f := fun k => spec_l01Word.j1 k (dig n0) (dig (d0 * 2 ^ j)) e (dig (d0 * 2 ^ j * 2 ^ 53)) false) (fun k => ?_) ?_
   ·rw [if_neg (fun h => by have := cmpI_ge.1 h; omega), decide_eq_false (by omega)]
   ·refine Ev.step (f := fun k => (spec_l01Half.f k (dig (d0 * 2 ^ j * 2 ^ 53))).bind fun t198 => (spec_l01Word.l1 k (dig n0) (dig (d0 * 2 ^ j)) e t198)) (fun k => ?_) ?_
    ·simp only [spec_l01Word.j1];rw [if_neg (by decide)]
    ·refine Ev.bind (f := fun k t198 => spec_l01Word.l1 k (dig n0) (dig (d0 * 2 ^ j)) e t198) (half_ev (by omega)) ?_;have e2 : d0 * 2 ^ j * 2 ^ 53 / 2 = d0 * 2 ^ j * 2 ^ 52 := (by rw [show (2 : Nat) ^ 53 = 2 ^ 52 * 2 by decide, ← Nat.mul_assoc]; exact Nat.mul_div_cancel _ (by decide));rw [e2];have := l1_ev (n0 := n0) hd0 hB hdB rfl (e0 := e0) (by omega) (e + 1074).toNat 0 e (by omega) (by omega) (by rw [Nat.pow_zero, Nat.mul_one, Nat.mul_comm]; exact h1);rw [Nat.pow_zero, Nat.mul_one] at this;exact this
 | succ r ih =>
  intro j e he h1 h2 h3 hdB;have hbig : d0 * 2 ^ j * 2 ^ 53 ≤ d0 * 2 ^ j * 2 ^ 53 * 2 ^ (r + 1) := Nat.le_mul_of_pos_right _ (Nat.two_pow_pos _);have hl : (dig n0).length ≤ B := dlen_two hnB;have hl2 : (dig (d0 * 2 ^ j * 2 ^ 53)).length ≤ B := dlen_two (Nat.lt_of_le_of_lt hbig hdB);have hl3 : (dig (d0 * 2 ^ j)).length ≤ B := Nat.le_trans (dlen_mono (Nat.le_mul_of_pos_right _ (Nat.two_pow_pos _))) hl2;have e1 : d0 * 2 ^ j * 2 = d0 * 2 ^ (j + 1) := (by rw [Nat.pow_succ]; grind);have e3 : d0 * 2 ^ j * 2 ^ 53 * 2 = d0 * 2 ^ (j + 1) * 2 ^ 53 := (by rw [← e1]; grind);have e4 : d0 * 2 ^ j * 2 ^ 53 * 2 ^ (r + 1) = d0 * 2 ^ (j + 1) * 2 ^ 53 * 2 ^ r := (by rw [← e3, Nat.pow_succ]; grind)
  have more : Ev (fun k => spec_l01Word.j1 k (dig n0) (dig (d0 * 2 ^ j)) e (dig (d0 * 2 ^ j * 2 ^ 53)) true) ((word2 n0 d0 e0 : Nat) : Int) := by
   refine Ev.step (f := fun k => (spec_l01Times.f k (dig (d0 * 2 ^ j * 2 ^ 53)) 2 0).bind fun t192 => ((spec_l01Times.f k (dig (d0 * 2 ^ j)) 2 0).bind fun t195 => (spec_l01Word.l0 k (dig n0) t195 (e + 1) t192))) (fun k => ?_) ?_
   ·simp only [spec_l01Word.j1];rw [if_pos trivial, wrap64_of (by omega) (by omega)]
   ·refine Ev.bind (f := fun k t192 => (spec_l01Times.f k (dig (d0 * 2 ^ j)) 2 0).bind fun t195 => (spec_l01Word.l0 k (dig n0) t195 (e + 1) t192)) (times_2 (by omega)) ?_;refine Ev.bind (f := fun k t195 => spec_l01Word.l0 k (dig n0) t195 (e + 1) (dig (d0 * 2 ^ j * 2 ^ 53 * 2))) (times_2 (by omega)) ?_;rw [e1, e3];exact ih (j + 1) (e + 1) (by omega) (by rw [← e4]; exact h1) (by omega) (by omega) (by rw [← e4]; exact hdB)
  refine Ev.step (f := fun k => (spec_l01Cmp.f k (dig n0) (dig (d0 * 2 ^ j * 2 ^ 53))).bind fun t191 => (if t191 ≥ 0 then (spec_l01Word.j1 k (dig n0) (dig (d0 * 2 ^ j)) e (dig (d0 * 2 ^ j * 2 ^ 53)) true) else (spec_l01Word.j1 k (dig n0) (dig (d0 * 2 ^ j)) e (dig (d0 * 2 ^ j * 2 ^ 53)) (decide (e < (-1074)))))) (fun k => ?_) ?_
  ·simp only [spec_l01Word.l0]
  ·refine Ev.bind (f := fun k t191 => (if t191 ≥ 0 then (spec_l01Word.j1 k (dig n0) (dig (d0 * 2 ^ j)) e (dig (d0 * 2 ^ j * 2 ^ 53)) true) else (spec_l01Word.j1 k (dig n0) (dig (d0 * 2 ^ j)) e (dig (d0 * 2 ^ j * 2 ^ 53)) (decide (e < (-1074)))))) (cmp_ev (by omega)) ?_;by_cases hge : d0 * 2 ^ j * 2 ^ 53 ≤ n0
   ·refine Ev.congr (fun k => ?_) more;rw [if_pos (cmpI_ge.2 hge)]
   ·by_cases hlo : e < -1074
    ·refine Ev.congr (fun k => ?_) more;rw [if_neg (fun h => hge (cmpI_ge.1 h)), decide_eq_true hlo]
    ·refine Ev.congr (f := fun k => spec_l01Word.j1 k (dig n0) (dig (d0 * 2 ^ j)) e (dig (d0 * 2 ^ j * 2 ^ 53)) false) (fun k => ?_) ?_
     ·rw [if_neg (fun h => hge (cmpI_ge.1 h)), decide_eq_false hlo]
     ·refine Ev.step (f := fun k => (spec_l01Half.f k (dig (d0 * 2 ^ j * 2 ^ 53))).bind fun t198 => (spec_l01Word.l1 k (dig n0) (dig (d0 * 2 ^ j)) e t198)) (fun k => ?_) ?_
      ·simp only [spec_l01Word.j1];rw [if_neg (by decide)]
      ·refine Ev.bind (f := fun k t198 => spec_l01Word.l1 k (dig n0) (dig (d0 * 2 ^ j)) e t198) (half_ev (by omega)) ?_;have e2 : d0 * 2 ^ j * 2 ^ 53 / 2 = d0 * 2 ^ j * 2 ^ 52 := (by rw [show (2 : Nat) ^ 53 = 2 ^ 52 * 2 by decide, ← Nat.mul_assoc]; exact Nat.mul_div_cancel _ (by decide));rw [e2];have := l1_ev (n0 := n0) hd0 hB (Nat.lt_of_le_of_lt hbig hdB) rfl (e0 := e0) (by omega) (e + 1074).toNat 0 e (by omega) (by omega) (by rw [Nat.pow_zero, Nat.mul_one, Nat.mul_comm]; omega);rw [Nat.pow_zero, Nat.mul_one] at this;exact this
/-- The reference's l01Word. -/
theorem word_ev {n d C : Nat} {e : Int} (hd : 0 < d) (hC : C ≤ 30000) (hn : n < 2 ^ C) (hdC : d < 2 ^ C) (he1 : -50000 ≤ e) (he2 : e ≤ 5000) : Ev (fun k => spec_l01Word.f k (dig n) (dig d) e) ((word2 n d e : Nat) : Int) := by
 by_cases h0 : n = 0
 ·subst h0
  have hw : word2 0 d e = 0 := by
   unfold word2;rw [Nat.zero_mul];exact word_zero _ (Nat.mul_pos hd (Nat.two_pow_pos _))
  rw [hw, dig_zero];refine Ev.congr (fun k => ?_) (Ev.now _);unfold spec_l01Word.f;rw [if_pos (by simp)];rfl
 ·have hne : (dig n).length ≠ 0 := fun h => h0 (dig_nil.1 (List.eq_nil_of_length_eq_zero h));have b1 : d * 2 ^ 52 < 2 ^ (C + 52) := (by rw [Nat.pow_add]; exact Nat.mul_lt_mul_of_pos_right hdC (Nat.two_pow_pos _));have hl52 := dlen_two b1;refine Ev.congr (f := fun k => (spec_l01Two.f k (dig d) 52).bind fun t185 => ((spec_l01Times.f k t185 2 0).bind fun t188 => (spec_l01Word.l0 k (dig n) (dig d) e t188))) (fun k => ?_) ?_
  ·unfold spec_l01Word.f;rw [if_neg (by omega)]
  ·refine Ev.bind (f := fun k t185 => (spec_l01Times.f k t185 2 0).bind fun t188 => (spec_l01Word.l0 k (dig n) (dig d) e t188)) (two_ev 52 d (by omega) (by omega)) ?_;refine Ev.bind (f := fun k t188 => spec_l01Word.l0 k (dig n) (dig d) e t188) (times_2 (by omega)) ?_;have e1 : d * 2 ^ 52 * 2 = d * 2 ^ 53 := (by rw [Nat.mul_assoc]);rw [e1];obtain ⟨B, hBe⟩ : ∃ B, B = 2 * C + 60100 := ⟨_, rfl⟩;have hh := l0_ev (n0 := n) (d0 := d) (e0 := e) (B := B) (by omega) hd (by omega) (Nat.lt_of_lt_of_le hn (Nat.pow_le_pow_right (by decide) (by omega))) (C + 60000) 0 e (by omega) ?_ (by omega) (by omega) ?_
   ·rw [Nat.pow_zero, Nat.mul_one] at hh;exact hh
   ·have : 1 ≤ d * 2 ^ 0 * 2 ^ 53 := Nat.mul_pos (Nat.mul_pos hd (by decide)) (by decide);have h2 : 2 ^ C ≤ 2 ^ (C + 60000) := Nat.pow_le_pow_right (by decide) (by omega);have h3 : 1 * 2 ^ (C + 60000) ≤ d * 2 ^ 0 * 2 ^ 53 * 2 ^ (C + 60000) := Nat.mul_le_mul_right _ this;rw [Nat.one_mul] at h3;exact Nat.lt_of_lt_of_le hn (Nat.le_trans h2 h3)
   ·have h4 : d * 2 ^ 0 * 2 ^ 53 * 2 ^ (C + 60000) < 2 ^ C * 2 ^ 53 * 2 ^ (C + 60000) := by
     rw [Nat.pow_zero, Nat.mul_one];exact Nat.mul_lt_mul_of_pos_right (Nat.mul_lt_mul_of_pos_right hdC (by decide)) (Nat.two_pow_pos _)
    rw [← Nat.pow_add, ← Nat.pow_add] at h4;exact Nat.lt_of_lt_of_le h4 (Nat.pow_le_pow_right (by decide) (by omega))
end Go.Proofs.YtlblkajnmdhmdaaGreatDoor.NB
namespace Go.Proofs.YtlblkajnmdhmdaaGreatDoor.NB
set_option linter.unusedVariables false
open Go Go.RowKit Go.Proofs.YtlblkajnmdhmdaaGreatDoor.PFormatNumber Go.Proofs.YtlblkajnmdhmdaaGreatDoorW.PrintWords Go.Proofs.YtlblkajnmdhmdaaGreatDoorW.PrintLast Go.Proofs.YtlblkajnmdhmdaaGreatDoorW.PrintMore Go.Proofs.YtlblkajnmdhmdaaGreatDoor.NU
/-- The signs of decimal digits. -/
def AD (l : List Int) : Prop := ∀ x ∈ l, 48 ≤ x ∧ x ≤ 57
/-- The number that they tell. -/
def dv (l : List Int) : Nat := l.foldl (fun a x => a * 10 + (x - 48).toNat) 0
theorem dv_snoc (l : List Int) (x : Int) : dv (l ++ [x]) = dv l * 10 + (x - 48).toNat := by unfold dv; rw [List.foldl_append]; rfl
theorem dv_lt {l : List Int} (h : AD l) : dv l < 10 ^ l.length := by
 have : ∀ (n : Nat) (l : List Int), l.length = n → AD l → dv l < 10 ^ n := by
  intro n
  induction n with
  | zero =>
   intro l hl _;have : l = [] := List.eq_nil_of_length_eq_zero hl;subst this;decide
  | succ n ih =>
   intro l hl ha;have hne : l ≠ [] := (by rintro rfl; simp at hl);have e := List.dropLast_concat_getLast hne;rw [← e, dv_snoc, Nat.pow_succ];have h1 := ih l.dropLast (by rw [List.length_dropLast]; omega) (fun x hx => ha x (List.dropLast_subset l hx));have h2 := ha (l.getLast hne) (List.getLast_mem hne);omega
 exact this _ l rfl h
theorem take_snoc_rd {l : List Int} {j : Nat} (h : j < l.length) : l.take (j + 1) = l.take j ++ [rd l (j : Int)] := by
 rw [rd_at h, List.take_succ_eq_append_getElem h]
theorem ad_take {l : List Int} (h : AD l) (n : Nat) : AD (l.take n) := fun x hx => h x (List.mem_of_mem_take hx)
theorem ad_rd {l : List Int} (h : AD l) {j : Nat} (hj : j < l.length) : 48 ≤ rd l (j : Int) ∧ rd l (j : Int) ≤ 57 := h _ (by rw [rd_at hj]; exact List.getElem_mem _)
theorem dig_one : dig 1 = [1] := by rw [dig_pos (by decide), show 1 / 10000 = 0 by decide, dig_zero]; rfl
theorem ten_two (k : Nat) : 10 ^ k ≤ 2 ^ (4 * k) := by
 rw [Nat.pow_mul];exact Nat.pow_le_pow_left (by decide) k
/-! ### l01Nearest -/
theorem nearest_j1 {n s : Nat} {e : Int} (hs : n < 10 ^ s) (hs2 : (n = 0 ∧ s = 0) ∨ (1 ≤ s ∧ 10 ^ (s - 1) ≤ n)) (hsl : s ≤ 2000) (he1 : -3000 ≤ e) (he2 : e ≤ 3000) (b : Bool) (hb : b = decide (n = 0 ∨ (s : Int) + e < -330)) :
  ∃ r1 : Int, Ev (fun k => spec_l01Nearest.j1 k e (dig n) (s : Int) b) (r1, decide (wordE n e ≠ 2047 * 2 ^ 52)) ∧ (wordE n e ≠ 2047 * 2 ^ 52 → r1 = (wordE n e : Nat)) := by
 cases b with
 | true =>
  have hc := of_decide_eq_true hb.symm
  have hw : wordE n e = 0 := by
   rcases hc with rfl | hc
   ·unfold wordE; rw [Nat.zero_mul]; exact word_zero _ (Nat.pow_pos (by decide))
   ·exact wordE_small hs hc
  refine ⟨0, ?_, fun _ => by rw [hw]; rfl⟩;rw [hw, decide_eq_true (by decide)];refine Ev.step (f := fun _ => some (0, true)) (fun k => ?_) (Ev.now _);simp only [spec_l01Nearest.j1];rw [if_pos trivial]
 | false =>
  have hc := of_decide_eq_false hb.symm;have hn0 : n ≠ 0 := fun h => hc (Or.inl h);have hsm : ¬ (s : Int) + e < -330 := fun h => hc (Or.inr h);obtain ⟨hs1, hs3⟩ := hs2.resolve_left (fun h => hn0 h.1);by_cases hbig : 310 < (s : Int) + e
  ·have hw := wordE_great hs1 hs3 hbig;refine ⟨0, ?_, fun h => absurd hw h⟩;rw [decide_eq_false (fun h => h hw)];refine Ev.step (f := fun _ => some (0, false)) (fun k => ?_) (Ev.now _);simp only [spec_l01Nearest.j1];rw [if_neg (by decide), wrap64_of (by omega) (by omega), if_pos (by omega)]
  ·have hnC : n < 2 ^ (4 * s) := Nat.lt_of_lt_of_le hs (ten_two s);have hdn : (dig n).length ≤ 4 * s := dlen_two hnC;have hinf : ((2047 * 2 ^ 52 : Nat) : Int) = 9218868437227405312 := (by decide)
   have hend : ∀ v : Nat, ((v : Int) != 9218868437227405312) = decide (v ≠ 2047 * 2 ^ 52) := fun v => by
    rw [← hinf];by_cases h : v = 2047 * 2 ^ 52
    ·rw [decide_eq_false (fun hh => hh h), h];simp
    ·rw [decide_eq_true h];simp only [bne_iff_ne, ne_eq];omega
   refine ⟨(wordE n e : Nat), ?_, fun _ => rfl⟩;rw [← hend];by_cases h0 : 0 ≤ e
   ·obtain ⟨g, rfl⟩ : ∃ g : Nat, e = g := ⟨e.toNat, by omega⟩
    have hwE : wordE n (g : Int) = word2 (n * 10 ^ g) 1 0 := by
     rw [word2_zero]; unfold wordE
     rw [Int.toNat_natCast, show (-(g : Int)).toNat = 0 by omega, Nat.pow_zero]
    rw [hwE];refine Ev.step (f := fun k => (spec_l01Pow10.f k (dig n) (g : Int)).bind fun t229 => ((spec_l01Word.f k t229 (dig 1) 0).bind fun t232 => (some (t232, (t232 != 9218868437227405312))))) (fun k => ?_) ?_
    ·simp only [spec_l01Nearest.j1, Option.bind_some, dig_one];rw [if_neg (by decide), wrap64_of (by omega) (by omega), if_neg (by omega), if_pos (by omega)]
    ·refine Ev.bind (f := fun k t229 => (spec_l01Word.f k t229 (dig 1) 0).bind fun t232 => (some (t232, (t232 != 9218868437227405312)))) (pow10_ev (by omega)) ?_
     have hC : n * 10 ^ g < 2 ^ (4 * s + 4 * g) := by
      rw [Nat.pow_add];exact Nat.mul_lt_mul_of_lt_of_le hnC (ten_two g) (Nat.two_pow_pos _)
     exact Ev.bind (f := fun _ t232 => some (t232, (t232 != 9218868437227405312))) (word_ev (C := 4 * s + 4 * g) (e := 0) (by decide) (by omega) hC (Nat.one_lt_two_pow (by omega)) (by omega) (by omega)) (Ev.now _)
   ·obtain ⟨g, rfl⟩ : ∃ g : Nat, e = -(g : Int) := ⟨(-e).toNat, by omega⟩
    have hwE : wordE n (-(g : Int)) = word2 n (10 ^ g) 0 := by
     rw [word2_zero]; unfold wordE
     rw [show (-(g : Int)).toNat = 0 by omega, Nat.pow_zero, Nat.mul_one, Int.neg_neg, Int.toNat_natCast]
    rw [hwE];refine Ev.step (f := fun k => (spec_l01Pow10.f k (dig 1) (g : Int)).bind fun t233 => ((spec_l01Word.f k (dig n) t233 0).bind fun t236 => (some (t236, (t236 != 9218868437227405312))))) (fun k => ?_) ?_
    ·simp only [spec_l01Nearest.j1, Option.bind_some, dig_one];rw [if_neg (by decide), wrap64_of (x := (s : Int) + -(g : Int)) (by omega) (by omega), if_neg (by omega), if_neg (by omega), wrap64_of (by omega) (by omega), Int.neg_neg]
    ·have h1 : (dig 1).length = 1 := (by rw [dig_one]; rfl);have hp := pow10_ev (n := 1) (e := g) (by omega);rw [Nat.one_mul] at hp;refine Ev.bind (f := fun k t233 => (spec_l01Word.f k (dig n) t233 0).bind fun t236 => (some (t236, (t236 != 9218868437227405312)))) hp ?_;have hC1 : n < 2 ^ (4 * s + 4 * g + 1) := Nat.lt_of_lt_of_le hnC (Nat.pow_le_pow_right (by decide) (by omega));have hC2 : 10 ^ g < 2 ^ (4 * s + 4 * g + 1) := Nat.lt_of_le_of_lt (ten_two g) (Nat.pow_lt_pow_right (by decide) (by omega));exact Ev.bind (f := fun _ t236 => some (t236, (t236 != 9218868437227405312))) (word_ev (C := 4 * s + 4 * g + 1) (e := 0) (Nat.pow_pos (by decide)) (by omega) hC1 hC2 (by omega) (by omega)) (Ev.now _)
theorem nearest_l0 (L : List Int) (e : Int) (hL : AD L) (hlen : L.length ≤ 2000) (he1 : -3000 ≤ e) (he2 : e ≤ 3000) : ∀ (r j s : Nat), j + r = L.length → dv (L.take j) < 10 ^ s → (dv (L.take j) = 0 ∧ s = 0) ∨ (1 ≤ s ∧ 10 ^ (s - 1) ≤ dv (L.take j)) → s ≤ j →
  ∃ r1 : Int, Ev (fun k => spec_l01Nearest.l0 k e (dig (dv (L.take j))) (s : Int) L (L.length : Int) (j : Int)) (r1, decide (wordE (dv L) e ≠ 2047 * 2 ^ 52)) ∧ (wordE (dv L) e ≠ 2047 * 2 ^ 52 → r1 = (wordE (dv L) e : Nat)) := by
 intro r
 induction r with
 | zero =>
  intro j s hj h1 h2 hs;rw [List.take_of_length_le (by omega)] at h1 h2 ⊢;obtain ⟨r1, hev, hr⟩ := nearest_j1 h1 h2 (by omega) he1 he2 (decide (dv L = 0 ∨ (s : Int) + e < -330)) rfl;refine ⟨r1, Ev.step (f := fun k => spec_l01Nearest.j1 k e (dig (dv L)) (s : Int) (decide (dv L = 0 ∨ (s : Int) + e < -330))) (fun k => ?_) hev, hr⟩;simp only [spec_l01Nearest.l0];rw [if_neg (by omega)];by_cases h0 : dv L = 0
  ·rw [if_pos (by rw [h0, dig_zero]; rfl), decide_eq_true (Or.inl h0)]
  ·rw [if_neg (fun h => h0 (dig_nil.1 (List.eq_nil_of_length_eq_zero (by omega)))), wrap64_of (by omega) (by omega)];congr 1;by_cases hc : (s : Int) + e < -330
   ·rw [decide_eq_true hc, decide_eq_true (Or.inr hc)]
   ·rw [decide_eq_false hc, decide_eq_false (fun h => h.elim h0 hc)]
 | succ r ih =>
  intro j s hj h1 h2 hs;have hjl : j < L.length := (by omega);have hx := ad_rd hL hjl;obtain ⟨x, hxe⟩ : ∃ x : Nat, rd L (j : Int) = x := ⟨(rd L (j : Int)).toNat, by omega⟩;rw [hxe] at hx
  have hsn : dv (L.take (j + 1)) = dv (L.take j) * 10 + (x - 48) := by
   rw [take_snoc_rd hjl, dv_snoc, hxe];congr 1;omega
  obtain ⟨n, hn⟩ : ∃ n, dv (L.take j) = n := ⟨_, rfl⟩;rw [hn] at h1 h2 hsn ⊢;have hlt := dv_lt (ad_take hL j);rw [hn, List.length_take, Nat.min_eq_left (by omega)] at hlt;have hdn := dlen_two (Nat.lt_of_lt_of_le hlt (ten_two j));have ht := times_ev (n := n) (m := 10) (c := x - 48) (by omega) (by omega) (by omega);rw [show ((x - 48 : Nat) : Int) = (x : Int) - 48 by omega] at ht
  -- the size behind this digit
  obtain ⟨s', hs', g1, g2, g3⟩ : ∃ s' : Nat, (if ((dig (n * 10 + (x - 48))).length : Int) > 0 then (s : Int) + 1 else (s : Int)) = s' ∧ n * 10 + (x - 48) < 10 ^ s' ∧ ((n * 10 + (x - 48) = 0 ∧ s' = 0) ∨ (1 ≤ s' ∧ 10 ^ (s' - 1) ≤ n * 10 + (x - 48))) ∧ s' ≤ j + 1 := by
   by_cases h0 : n * 10 + (x - 48) = 0
   ·refine ⟨s, ?_, ?_, ?_, by omega⟩
    ·rw [h0, dig_zero, if_neg (by simp)]
    ·rw [h0]; exact Nat.pow_pos (by decide)
    ·left;refine ⟨h0, ?_⟩
     rcases h2 with h2 | h2
     ·exact h2.2
     ·have : 0 < 10 ^ (s - 1) := Nat.pow_pos (by decide);omega
   ·refine ⟨s + 1, ?_, ?_, ?_, by omega⟩
    ·rw [if_pos]
     ·omega
     ·have : (dig (n * 10 + (x - 48))).length ≠ 0 := fun h => h0 (dig_nil.1 (List.eq_nil_of_length_eq_zero h));omega
    ·rw [Nat.pow_succ]; omega
    ·right;refine ⟨by omega, ?_⟩;rw [Nat.add_sub_cancel]
     rcases h2 with h2 | h2
     ·rw [h2.2, Nat.pow_zero]; omega
     ·obtain ⟨t, rfl⟩ : ∃ t, s = t + 1 := ⟨s - 1, by omega⟩;have h3 := h2.2;rw [Nat.add_sub_cancel] at h3;rw [Nat.pow_succ];omega
  rw [← hsn] at g1 g2;obtain ⟨r1, hev, hr⟩ := ih (j + 1) s' (by omega) g1 g2 g3;refine ⟨r1, Ev.step (f := fun k => (spec_l01Times.f k (dig n) ((10 : Nat) : Int) ((x : Int) - 48)).bind fun t223 => (if (t223.length : Int) > 0 then (spec_l01Nearest.l0 k e t223 (wrap64 ((s : Int) + 1)) L (L.length : Int) (wrap64 ((j : Int) + 1))) else (spec_l01Nearest.l0 k e t223 (s : Int) L (L.length : Int) (wrap64 ((j : Int) + 1))))) (fun k => ?_) ?_, hr⟩
  ·simp only [spec_l01Nearest.l0];rw [if_pos (by omega), if_pos (by omega), if_pos (by omega), hxe, wrap64_of (x := (x : Int)) (by omega) (by omega), wrap64_of (x := (x : Int) - 48) (by omega) (by omega)];rfl
  ·refine Ev.bind (f := fun k t223 => (if (t223.length : Int) > 0 then (spec_l01Nearest.l0 k e t223 (wrap64 ((s : Int) + 1)) L (L.length : Int) (wrap64 ((j : Int) + 1))) else (spec_l01Nearest.l0 k e t223 (s : Int) L (L.length : Int) (wrap64 ((j : Int) + 1))))) ht ?_;refine Ev.congr (fun k => ?_) hev;rw [hsn, wrap64_of (x := (s : Int) + 1) (by omega) (by omega), wrap64_of (x := (j : Int) + 1) (by omega) (by omega)];by_cases hp : ((dig (n * 10 + (x - 48))).length : Int) > 0
   ·rw [if_pos hp] at hs' ⊢;rw [hs'];rfl
   ·rw [if_neg hp] at hs' ⊢;rw [hs'];rfl
theorem nearest_ev {L : List Int} {e : Int} (hL : AD L) (hlen : L.length ≤ 2000) (he1 : -3000 ≤ e) (he2 : e ≤ 3000) :
  ∃ r1 : Int, Ev (fun k => spec_l01Nearest.f k L e) (r1, decide (wordE (dv L) e ≠ 2047 * 2 ^ 52)) ∧ (wordE (dv L) e ≠ 2047 * 2 ^ 52 → r1 = (wordE (dv L) e : Nat)) := by
 have h := nearest_l0 L e hL hlen he1 he2 L.length 0 0 (by omega) (by rw [List.take_zero]; decide) (Or.inl ⟨by rw [List.take_zero]; rfl, rfl⟩) (by omega);rw [List.take_zero, show dv [] = 0 from rfl, dig_zero] at h;exact h
end Go.Proofs.YtlblkajnmdhmdaaGreatDoor.NB
