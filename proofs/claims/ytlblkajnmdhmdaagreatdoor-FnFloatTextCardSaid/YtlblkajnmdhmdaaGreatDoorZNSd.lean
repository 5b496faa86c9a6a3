/-
  Walk: the library's setDigits: the digits of a number into a row, and how many are left when the zeros at the end go.
-/
import Derived.Test.YtlblkajnmdhmdaaGreatDoorZNFw
import Derived.Lib.Itoa
import Derived.Sort.Row
namespace Go.Proofs.YtlblkajnmdhmdaaGreatDoor
set_option linter.unusedVariables false
open Go.RowKit Lib Go.Sort
abbrev encB : UInt8 → Value := fun b => Value.int .u8 (b.toNat : Int)
theorem digit_at (u j : Nat) : (dg u j).toNat = 48 + u / 10 ^ j % 10 := by
  unfold dg
  rw [UInt8.toNat_ofNat']
  omega
def SetOk (n d nz : Nat) (dk : Array UInt8) : Prop := dk.size = n ∧ (∀ t, t < n → dk[t]! = dg d (n - 1 - t)) ∧ 1 ≤ nz ∧ nz ≤ n ∧ ∀ t, nz ≤ t → t < n → dk[t]! = 48
def SetPost (w : World) (blk n d : Nat) (p : Int) (r : Ending) (w' : World) : Prop :=
  ∃ (dk : Array UInt8) (nz m : Nat), r = .returned (.tuple #[.int .i64 ((n : Int) + p), .int .i64 nz]) ∧ w' = (putRow encB w blk 0 dk).drewN m ∧ SetOk n d nz dk
set_option maxRecDepth 100000 in
set_option maxHeartbeats 1000000 in
theorem setDigits_walk (blk n d cap : Nat) (p : Int) (w : World) (z : Array UInt8) (hz : z.size = n) (hH : Holds encB w blk 0 z) (hn1 : 1 ≤ n) (hn2 : n ≤ 17) (hcap : cap = 24) (hd : d < 10 ^ n) (hd0 : 10 ^ (n - 1) ≤ d) (hp : -1000 ≤ p ∧ p ≤ 1000) :
    Calls Tryz.prog 167 #[.slice (some ⟨blk, 0, none⟩) 24 cap, .int .u64 d, .int .i64 p, .int .i64 n] w (SetPost w blk n d p) := by
  have hd64 : d < 18446744073709551616 := Nat.lt_of_lt_of_le hd (Nat.le_trans (Nat.pow_le_pow_right (by decide) hn2) (by decide))
  subst hcap
  have hfmt := Tryz.internal_strconv_formatBase10 blk 0 24 d z w hH (by rw [hz]; exact hd) hd64 (by omega)
  rw [hz] at hfmt
  have HFMT := hid hfmt
  have HH := hid hH
  have HZ := hid hz
  have HD0 := hid hd0
  have HD := hid hd
  have hn24 : (n : Int) ≤ 24 := by omega
  clear hfmt hH hz hd0 hd
  go_enter Tryz.func167, Tryz.ntmps167
  go_wp2_with fail
  refine HFMT.out.mono ?_
  rintro r w' ⟨rfl, m, v', dk, rfl, hinv⟩
  have hsz := hinv.size
  have hdig : ∀ t, t < n → dk[t]! = dg d (n - 1 - t) := fun t ht => hinv.done t (Nat.zero_le _) ht
  have hcells : ∀ t, t < n → ((putRow encB w blk 0 dk).cell? ⟨blk, t, none⟩ = some (.int .u8 (dk[t]!.toNat : Nat))) := fun t ht => by
    have := cell?_putRow encB w blk 0 z dk HH.out (by rw [hsz, HZ.out]) t (by omega)
    rw [Nat.zero_add] at this
    exact this
  have HC := hid hcells
  have HDG := hid hdig
  have HSZ := hid hsz
  obtain ⟨W2, hW2⟩ : ∃ W2, putRow encB w blk 0 dk = W2 := ⟨_, rfl⟩
  have HW2 := hid hW2
  have HC' : Hid (∀ t, t < n → W2.cell? ⟨blk, t, none⟩ = some (.int .u8 (dk[t]!.toNat : Nat))) := hid (by rw [← hW2]; exact hcells)
  have hgoal : putRow (fun b => Value.int IntKind.u8 (b.toNat : Int)) w blk 0 dk = W2 := hW2
  rw [hgoal]
  clear hsz hdig hcells hinv hW2 hgoal HC
  go_wp2_with fail
  have hfirst : dk[0]! ≠ 48 := by
    rw [HDG.out 0 (by omega)]
    intro h
    have hc := congrArg UInt8.toNat h
    rw [digit_at, show (48 : UInt8).toNat = 48 from rfl, Nat.sub_zero] at hc
    have h1 : 1 ≤ d / 10 ^ (n - 1) := (Nat.le_div_iff_mul_le (Nat.pow_pos (by decide))).2 (by have := HD0.out; omega)
    have h2 : d / 10 ^ (n - 1) < 10 := by
      rw [Nat.div_lt_iff_lt_mul (Nat.pow_pos (by decide))]
      have e : 10 ^ n = 10 * 10 ^ (n - 1) := by rw [Nat.mul_comm, ← Nat.pow_succ]; exact congrArg (10 ^ ·) (by omega)
      rw [← e]
      exact HD.out
    omega
  have HF := hid hfirst
  clear hfirst
  go_loopw [3] (fun v wr => ∃ k q : Nat, v = .int .i64 k ∧ 1 ≤ k ∧ k ≤ n ∧ wr = W2.drewN q ∧ Hid (∀ t, k ≤ t → t < n → dk[t]! = 48)) (fun v _ => (RowKit.intOf v).toNat)
  case atStart => exact ⟨n, m, rfl, hn1, Nat.le_refl _, rfl, hid (fun t h1 h2 => by omega)⟩
  case round =>
    obtain ⟨k, q, rfl, hk1, hk2, rfl, HK⟩ := hrel
    have hcell := HC'.out (k - 1) (by omega)
    have hi0 : (0 : Int) ≤ (k : Int) - 1 := by omega
    have hi1 : (k : Int) - 1 < 24 := by omega
    have hi2 : ((k : Int) - 1).toNat = k - 1 := by omega
    have hpos : decide ((0 : Int) < (k : Int)) = true := decide_eq_true (by omega)
    by_cases h48 : dk[k - 1]! = 48
    · have hv : (dk[k - 1]!.toNat : Nat) = 48 := by rw [h48]; rfl
      rw [hv] at hcell
      clear hv
      have hk : 2 ≤ k := by
        apply Nat.le_of_not_lt
        intro hlt
        have : k - 1 = 0 := by omega
        rw [this] at h48
        exact HF.out h48
      go_wp2
      refine ⟨⟨k - 1, q, ?_, by omega, by omega, rfl, hid (fun t h1 h2 => ?_)⟩, ?_⟩
      · rw [show ((k - 1 : Nat) : Int) = (k : Int) - 1 by omega]
      · by_cases e : t = k - 1
        · rw [e]; exact h48
        · exact HK.out t (by omega) h2
      · show ((k : Int) - 1).toNat < ((k : Int)).toNat
        omega
    · have hne : (((dk[k - 1]!.toNat : Nat) : Int) == 48) = false := by
        have : dk[k - 1]!.toNat ≠ 48 := fun h => h48 (UInt8.toNat_inj.1 h)
        simp
        omega
      go_wp2
      go_ret2
      exact ⟨dk, k, q, rfl, by rw [HW2.out], HSZ.out, HDG.out, hk1, hk2, HK.out⟩
end Go.Proofs.YtlblkajnmdhmdaaGreatDoor
