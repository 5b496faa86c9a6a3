/-
  Walk: the library's fixedWidthFloat.
-/
import Derived.Test.YtlblkajnmdhmdaaGreatDoorZNPs
import Derived.Deep.Draws
import Derived.Deep.QuietTactic
import Derived.BigQuiet
namespace Go.Proofs.YtlblkajnmdhmdaaGreatDoor
set_option linter.unusedVariables false
open Go.RowKit Lib
/-- Dividing an unrounded number by ten. -/
def div10 (u : Nat) : Nat := (u / 10 ||| u % 2) ||| (if u % 10 ≠ 0 then 1 else 0)
theorem bool2_uk (b : Bool) (w : World) : Calls Tryz.prog 227 #[.bool b] w fun e w' => e = .returned (.int .u64 (b.toNat : Nat)) ∧ w' = w := by
  refine (bool2_u b w).mono ?_
  rintro e w' ⟨rfl, rfl⟩
  cases b <;> exact ⟨rfl, rfl⟩
theorem div_end {u : Nat} (h : u < 2 ^ 63) : bits .or .u64 (bits .or .u64 ((u : Int) / 10) (bits .and .u64 (u : Int) 1)) (((u : Int) % 10 != 0).toNat : Nat) = (div10 u : Nat) := by
  have e1 : ((u : Int) / 10) = ((u / 10 : Nat) : Int) := by omega
  have e2 : bits .and .u64 (u : Int) 1 = ((u % 2 : Nat) : Int) := and1_at u (by omega)
  have hb : ∀ b : Bool, b.toNat < 2 ^ 64 := fun b => by cases b <;> decide
  have hor : u / 10 ||| u % 2 < 2 ^ 64 := Nat.or_lt_two_pow (by omega) (by omega)
  rw [e1, e2, or_at _ _ (by omega) (by omega), or_at _ _ hor (hb _)]
  unfold div10
  congr 2
  by_cases h0 : u % 10 = 0
  · rw [if_neg (by omega), show ((u : Int) % 10 != 0) = false by simp; omega]; rfl
  · rw [if_pos h0, show ((u : Int) % 10 != 0) = true by simp; omega]; rfl
theorem div_walk (u : Nat) (h : u < 2 ^ 63) (w : World) : Calls Tryz.prog 210 #[.int .u64 u, .int .u64 10] w fun e w' => e = .returned (.int .u64 (div10 u : Nat)) ∧ ∃ n, w' = w.drewN n := by
  go_enter Tryz.func210, Tryz.ntmps210
  go_wp2
  go_quiet ((go_at_call 227; exact Calls.quiet_of_same (bool2_uk _ _)))
  go_wp2
  go_ret
  refine ⟨?_, _, rfl⟩
  show Ending.returned (Value.int .u64 (bits .or .u64 (bits .or .u64 ((u : Int) / 10) (bits .and .u64 (u : Int) 1)) (((u : Int) % 10 != 0).toNat : Nat))) = _
  rw [div_end h]
theorem flip {P : Program} {f : FuncId} {args : Array Value} {w : World} {v : Ending} (h : Calls P f args w fun e w' => e = v ∧ w' = w) : Calls P f args w fun e w' => e = v ∧ w = w' := h.mono fun _ _ ⟨a, b⟩ => ⟨a, b.symm⟩
/-- uint64pow10 lies in its block. -/
def T10 (w : World) : Prop := ∀ i : Nat, i < 20 → w.cell? ⟨3, i, none⟩ = some (.int .u64 ((10 ^ i : Nat) : Int))
theorem P10.below {w w' : World} (h : P10 w) (hs : 16 < w.heap.size) (hb : Below w.heap.size w w') : P10 w' := fun i hi =>
  ⟨(hb.cell (p := ⟨15, i * 2, none⟩) (by show 15 < _; omega)).trans (h i hi).1, (hb.cell (p := ⟨15, i * 2 + 1, none⟩) (by show 15 < _; omega)).trans (h i hi).2⟩
theorem T10.below {w w' : World} (h : T10 w) (hs : 16 < w.heap.size) (hb : Below w.heap.size w w') : T10 w' := fun i hi =>
  (hb.cell (p := ⟨3, i, none⟩) (by show 3 < _; omega)).trans (h i hi)
theorem below_drewN {B : Nat} {a w : World} (h : Below B a w) (n : Nat) : Below B a (w.drewN n) := ⟨h.os, h.tape, h.output, h.size, h.block⟩
/-- The round of an unrounded number. -/
def rnd (u : Nat) : Nat := (u + 1 + u / 4 % 2) / 4
set_option maxRecDepth 100000 in
set_option maxHeartbeats 1000000 in
theorem fixed_lt (x n i sn u : Nat) (e prec l p lp : Int) (w : World) (hT : P10 w) (hT3 : T10 w) (hsz : 16 < w.heap.size) (hn1 : 1 ≤ n) (hn2 : n ≤ 17) (he : -2000 ≤ e ∧ e ≤ 2000) (hx : x < 2 ^ 64) (hx0 : 2 ^ 63 ≤ x)
    (hl : l = (e + 63) * 78913 / 262144) (hp : p = n - 1 - l) (hlp : lp = p * 108853 / 32768) (hs : -(e + lp + 3) = sn) (hpi : p + 348 = i) (hi : i < 696) (hsn : sn < 64) (hhi : 2 ^ 63 ≤ NU.hiI i) (hu : NU.uscaleN x (NU.hiI i) (NU.loI i) sn = u) (hul : u < 2 ^ 61)
    (hlt : u < 4 * 10 ^ n - 2) :
    Calls Tryz.prog 168 #[.int .u64 x, .int .i64 e, .int .i64 n, .int .i64 prec, .int .u8 101] w fun r w' => r = .returned (.tuple #[.int .u64 (rnd u : Nat), .int .i64 (-p)]) ∧ Below w.heap.size w w' := by
  obtain ⟨tp, ht1, ht2⟩ := NU.tab_at hi
  have t3 := hT3 n (by omega)
  obtain ⟨T, hTe⟩ : ∃ T, 10 ^ n = T := ⟨_, rfl⟩
  have hT1 : 1 ≤ T := by rw [← hTe]; exact Nat.pow_pos (by decide)
  have hT2 : T < 2 ^ 61 := by rw [← hTe]; exact Nat.lt_of_le_of_lt (Nat.pow_le_pow_right (by decide) hn2) (by decide)
  rw [hTe] at t3 hlt
  clear hTe hT3 tp
  have HTP := hid hT
  have HU := hid hu
  have HL := hid hl
  have HP := hid hp
  have HLP := hid hlp
  have HS := hid hs
  have HPI := hid hpi
  have hb15 : w.heap.size ≠ 15 := by omega
  have hb3 : 3 < w.heap.size := by omega
  have hl2 : -1000 ≤ l ∧ l ≤ 1000 := by omega
  have hp2 : -2000 ≤ p ∧ p ≤ 2000 := by omega
  have hlp2 : -8000 ≤ lp ∧ lp ≤ 8000 := by omega
  have hge : decide ((u : Int) ≥ ((4 * T - 2 : Nat) : Int)) = false := decide_eq_false (by omega)
  clear hl hp hlp hs hpi hu hT
  go_enter Tryz.func168, Tryz.ntmps168
  go_wp2_with fail
  refine (flip (log10Pow2_walk (e + 63) (by omega) (by omega) w)).mono ?_
  rintro r w' ⟨rfl, rfl⟩
  rw [← HL.out]
  have hpe : (n : Int) - 1 - l = p := HP.out.symm
  go_wp2_with fail
  refine (flip (log2Pow10_walk p (by omega) (by omega) _)).mono ?_
  rintro r w' ⟨rfl, rfl⟩
  rw [← HLP.out]
  clear hpe
  go_wp2_with fail
  have hT1' : P10 (w.alloc (.cells #[.int .u64 0, .int .u64 0, .int .i64 0] 222)) := HTP.out.below hsz ((Below.refl _ _).alloc (Nat.le_refl _) _)
  refine (prescale_walk w.heap.size i e p lp sn _ hT1' hb15 HPI.out hi HS.out (by omega) (by omega) 0 0 0 (by go_simp) (by go_simp) (by go_simp) (by go_simp) (by go_simp) (by go_simp)).mono ?_
  rintro r w' ⟨rfl, rfl⟩
  clear hT1'
  go_wp2_with fail
  refine (uscale_walk x (NU.hiI i) (NU.loI i) sn w.heap.size _ hx ht1 ht2 hsn hx0 hhi (by go_simp) (by go_simp) (by go_simp)).mono ?_
  rintro r w' ⟨rfl, m, rfl⟩
  rw [HU.out]
  go_wp2_with fail
  refine (flip (unmin_walk T hT1 hT2 _)).mono ?_
  rintro r w' ⟨rfl, rfl⟩
  go_wp2_with fail
  refine (flip (round_walk u (by omega) _)).mono ?_
  rintro r w' ⟨rfl, rfl⟩
  go_wp2_with fail
  go_ret2
  exact ⟨rfl, below_drewN ((Below.refl _ _).alloc (Nat.le_refl _) _) _⟩
theorem div10_lt {u : Nat} (h : u < 2 ^ 63) : div10 u < 2 ^ 63 := by
  unfold div10
  have h1 : u / 10 < 2 ^ 63 := by omega
  have h2 : u % 2 < 2 ^ 63 := by omega
  refine Nat.or_lt_two_pow (Nat.or_lt_two_pow h1 h2) ?_
  split <;> decide
set_option maxRecDepth 100000 in
set_option maxHeartbeats 1000000 in
theorem fixed_ge (x n i sn u : Nat) (e prec l p lp : Int) (w : World) (hT : P10 w) (hT3 : T10 w) (hsz : 16 < w.heap.size) (hn1 : 1 ≤ n) (hn2 : n ≤ 17) (he : -2000 ≤ e ∧ e ≤ 2000) (hx : x < 2 ^ 64) (hx0 : 2 ^ 63 ≤ x)
    (hl : l = (e + 63) * 78913 / 262144) (hp : p = n - 1 - l) (hlp : lp = p * 108853 / 32768) (hs : -(e + lp + 3) = sn) (hpi : p + 348 = i) (hi : i < 696) (hsn : sn < 64) (hhi : 2 ^ 63 ≤ NU.hiI i) (hu : NU.uscaleN x (NU.hiI i) (NU.loI i) sn = u) (hul : u < 2 ^ 61)
    (hlt : 4 * 10 ^ n - 2 ≤ u) :
    Calls Tryz.prog 168 #[.int .u64 x, .int .i64 e, .int .i64 n, .int .i64 prec, .int .u8 101] w fun r w' => r = .returned (.tuple #[.int .u64 (rnd (div10 u) : Nat), .int .i64 (-(p - 1))]) ∧ Below w.heap.size w w' := by
  obtain ⟨tp, ht1, ht2⟩ := NU.tab_at hi
  have t3 := hT3 n (by omega)
  obtain ⟨T, hTe⟩ : ∃ T, 10 ^ n = T := ⟨_, rfl⟩
  have hT1 : 1 ≤ T := by rw [← hTe]; exact Nat.pow_pos (by decide)
  have hT2 : T < 2 ^ 61 := by rw [← hTe]; exact Nat.lt_of_le_of_lt (Nat.pow_le_pow_right (by decide) hn2) (by decide)
  rw [hTe] at t3 hlt
  clear hTe hT3 tp
  have HTP := hid hT
  have HU := hid hu
  have HL := hid hl
  have HP := hid hp
  have HLP := hid hlp
  have HS := hid hs
  have HPI := hid hpi
  have hb15 : w.heap.size ≠ 15 := by omega
  have hb3 : 3 < w.heap.size := by omega
  have hl2 : -1000 ≤ l ∧ l ≤ 1000 := by omega
  have hp2 : -2000 ≤ p ∧ p ≤ 2000 := by omega
  have hlp2 : -8000 ≤ lp ∧ lp ≤ 8000 := by omega
  have hge : decide ((u : Int) ≥ ((4 * T - 2 : Nat) : Int)) = true := decide_eq_true (by omega)
  clear hl hp hlp hs hpi hu hT
  go_enter Tryz.func168, Tryz.ntmps168
  go_wp2_with fail
  refine (flip (log10Pow2_walk (e + 63) (by omega) (by omega) w)).mono ?_
  rintro r w' ⟨rfl, rfl⟩
  rw [← HL.out]
  have hpe : (n : Int) - 1 - l = p := HP.out.symm
  go_wp2_with fail
  refine (flip (log2Pow10_walk p (by omega) (by omega) _)).mono ?_
  rintro r w' ⟨rfl, rfl⟩
  rw [← HLP.out]
  clear hpe
  go_wp2_with fail
  have hT1' : P10 (w.alloc (.cells #[.int .u64 0, .int .u64 0, .int .i64 0] 222)) := HTP.out.below hsz ((Below.refl _ _).alloc (Nat.le_refl _) _)
  refine (prescale_walk w.heap.size i e p lp sn _ hT1' hb15 HPI.out hi HS.out (by omega) (by omega) 0 0 0 (by go_simp) (by go_simp) (by go_simp) (by go_simp) (by go_simp) (by go_simp)).mono ?_
  rintro r w' ⟨rfl, rfl⟩
  clear hT1'
  go_wp2_with fail
  refine (uscale_walk x (NU.hiI i) (NU.loI i) sn w.heap.size _ hx ht1 ht2 hsn hx0 hhi (by go_simp) (by go_simp) (by go_simp)).mono ?_
  rintro r w' ⟨rfl, m, rfl⟩
  rw [HU.out]
  go_wp2_with fail
  refine (flip (unmin_walk T hT1 hT2 _)).mono ?_
  rintro r w' ⟨rfl, rfl⟩
  go_wp2_with fail
  refine (div_walk u (by omega) _).mono ?_
  rintro r w' ⟨rfl, m2, rfl⟩
  go_wp2_with fail
  refine (flip (round_walk (div10 u) (div10_lt (by omega)) _)).mono ?_
  rintro r w' ⟨rfl, rfl⟩
  go_wp2_with fail
  go_ret2
  exact ⟨rfl, below_drewN ((Below.refl _ _).alloc (Nat.le_refl _) _) _⟩
end Go.Proofs.YtlblkajnmdhmdaaGreatDoor
