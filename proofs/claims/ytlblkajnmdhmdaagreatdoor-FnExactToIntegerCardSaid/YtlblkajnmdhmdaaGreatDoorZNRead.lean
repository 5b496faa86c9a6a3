/-
  Plain: what the library's readFloat finds in a decimal numeral: digits with at most one point, then an exponent or none.
-/
import Derived.Lib.Hide
namespace NR
/-- The byte at a place. -/
def bt (s : ByteArray) (i : Nat) : Nat := if h : i < s.size then s[i].toNat else 0
theorem bt_of_lt {s : ByteArray} {i : Nat} (h : i < s.size) : bt s i = s[i].toNat := dif_pos h
theorem bt_lt (s : ByteArray) (i : Nat) : bt s i < 256 := by
 unfold bt;split
 ·exact UInt8.toNat_lt _
 ·decide
/-- What the reading of digits holds. -/
structure RS where
 m : Nat
 nd : Nat
 nm : Nat
 dp : Int
 dot : Bool
 dig : Bool
 tr : Bool
def step (r : RS) (c : Nat) : RS :=
 if c = 46 then { r with dot := true, dp := r.nd }
 else if c = 48 ∧ r.nd = 0 then { r with dig := true, dp := r.dp - 1 }
 else if r.nm < 19 then { r with dig := true, nd := r.nd + 1, m := r.m * 10 + (c - 48), nm := r.nm + 1 }
 else { r with dig := true, nd := r.nd + 1, tr := r.tr || !(c == 48) }
def scan (s : ByteArray) : Nat → RS
 | 0 => ⟨0, 0, 0, 0, false, false, false⟩
 | k + 1 => step (scan s k) (bt s k)
def evs (s : ByteArray) (q : Nat) : Nat → Nat
 | 0 => 0
 | t + 1 => evs s q t * 10 + (bt s (q + t) - 48)
def isD (c : Nat) : Prop := 48 ≤ c ∧ c ≤ 57
/-- The first P bytes are digits with at most one point. -/
def Digs (s : ByteArray) (P : Nat) : Prop := 1 ≤ P ∧ P ≤ s.size ∧ (∀ k, k < P → (bt s k = 46 ∧ (scan s k).dot = false) ∨ isD (bt s k)) ∧ (scan s P).dig = true
/-- Behind them stands an exponent, or the text ends there. -/
def HasExp (s : ByteArray) (P q : Nat) (neg : Bool) : Prop :=
 P < s.size ∧ (bt s P = 101 ∨ bt s P = 69) ∧ q < s.size ∧ s.size ≤ q + 3 ∧ (∀ k, q ≤ k → k < s.size → isD (bt s k)) ∧
 ((q = P + 1 ∧ neg = false) ∨ (q = P + 2 ∧ bt s (P + 1) = 43 ∧ neg = false) ∨ (q = P + 2 ∧ bt s (P + 1) = 45 ∧ neg = true))
theorem step_bound {r : RS} {c k : Nat} (hc : c = 46 ∨ isD c) (h : r.nd ≤ k ∧ r.nm ≤ r.nd ∧ r.nm ≤ 19 ∧ r.m < 10 ^ r.nm ∧ -(k : Int) ≤ r.dp ∧ r.dp ≤ k) :
  (step r c).nd ≤ k + 1 ∧ (step r c).nm ≤ (step r c).nd ∧ (step r c).nm ≤ 19 ∧ (step r c).m < 10 ^ (step r c).nm ∧ -((k + 1 : Nat) : Int) ≤ (step r c).dp ∧ (step r c).dp ≤ (k + 1 : Nat) := by
 obtain ⟨h1, h2, h3, h4, h5, h6⟩ := h;unfold step;split
 ·exact ⟨by simp; omega, h2, h3, h4, by simp; omega, by simp; omega⟩
 ·split
  ·exact ⟨by simp; omega, h2, h3, h4, by simp; omega, by simp; omega⟩
  ·split
   ·refine ⟨by simp; omega, by simp; omega, by simp; omega, ?_, by simp; omega, by simp; omega⟩;show r.m * 10 + (c - 48) < 10 ^ (r.nm + 1);rw [Nat.pow_succ]
    have : c - 48 ≤ 9 := by rcases hc with h | ⟨h, h'⟩ <;> omega
    omega
   ·exact ⟨by simp; omega, by simp; omega, h3, h4, by simp; omega, by simp; omega⟩
theorem scan_bound {s : ByteArray} {P : Nat} (hd : ∀ k, k < P → (bt s k = 46 ∧ (scan s k).dot = false) ∨ isD (bt s k)) : ∀ k, k ≤ P →
  (scan s k).nd ≤ k ∧ (scan s k).nm ≤ (scan s k).nd ∧ (scan s k).nm ≤ 19 ∧ (scan s k).m < 10 ^ (scan s k).nm ∧ -(k : Int) ≤ (scan s k).dp ∧ (scan s k).dp ≤ k
 | 0, _ => by simp [scan]
 | k + 1, h => step_bound ((hd k (by omega)).imp And.left id) (scan_bound hd k (by omega))
theorem m_lt {m k : Nat} (h : m < 10 ^ k) (hk : k < 19) : m < 1000000000000000000 := Nat.lt_of_lt_of_le h (Nat.le_trans (Nat.pow_le_pow_right (by decide) (by omega : k ≤ 18)) (by decide))
theorem m_lt' {m k : Nat} (h : m < 10 ^ k) (hk : k ≤ 19) : m < 10000000000000000000 := Nat.lt_of_lt_of_le h (Nat.le_trans (Nat.pow_le_pow_right (by decide) hk) (by decide))
theorem evs_lt {s : ByteArray} {q : Nat} : ∀ t, (∀ k, q ≤ k → k < q + t → isD (bt s k)) → evs s q t < 10 ^ t
 | 0, _ => by simp [evs]
 | t + 1, h => by
  have h1 := evs_lt t (fun k hk hk' => h k hk (by omega));have h2 := h (q + t) (by omega) (by omega);unfold isD at h2;show evs s q t * 10 + (bt s (q + t) - 48) < 10 ^ (t + 1);rw [Nat.pow_succ];omega
theorem evs_small {s : ByteArray} {q t : Nat} (h : ∀ k, q ≤ k → k < q + t → isD (bt s k)) (ht : t ≤ 3) : evs s q t < 1000 :=
 Nat.lt_of_lt_of_le (evs_lt t h) (Nat.le_trans (Nat.pow_le_pow_right (by decide) ht) (by decide))
/-- The place of the point behind the digits. -/
def dpt (r : RS) : Int := if r.dot then r.dp else r.nd
def expI (s : ByteArray) (q : Nat) (neg : Bool) : Int := if neg then -(evs s q (s.size - q) : Int) else (evs s q (s.size - q) : Int)
/-- The exponent that readFloat answers. -/
def expOf (r : RS) (E : Int) : Int := if r.m = 0 then 0 else dpt r + E - r.nm
end NR
