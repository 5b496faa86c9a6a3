/-
  Walk: the library's special and atof64 at a decimal numeral of 19 digits at most.
-/
import Derived.Test.YtlblkajnmdhmdaaGreatDoorZNRf
import Derived.Test.YtlblkajnmdhmdaaGreatDoorZNEx
namespace Go.Proofs.YtlblkajnmdhmdaaGreatDoor
set_option linter.unusedVariables false
open Go.RowKit Lib NR
namespace NU
@[irreducible] def e324 : Nat := 324
theorem e324_eq : e324 = 324 := by unfold e324; rfl
theorem ten324 : 2 * one74 ≤ 10 ^ e324 := by decide +kernel
theorem wordE_small2 {n s : Nat} {e : Int} (hn : n < 10 ^ s) (h : (s : Int) + e < -323) : wordE n e = 0 := by
 unfold wordE;obtain ⟨b, hb⟩ : ∃ b, (-e).toNat = b := ⟨_, rfl⟩;rw [show e.toNat = 0 by omega, hb, Nat.pow_zero, Nat.mul_one];obtain ⟨g, hg⟩ : ∃ g, b = s + 324 + g := ⟨b - s - 324, by omega⟩;have hp : 0 < 10 ^ b := Nat.pow_pos (by decide);apply word_between hp (by decide) (Or.inl rfl);have h1 := ten324;have hm0 : wM 0 = 0 := (by decide);have he0 : wE 0 = 0 := (by decide);rw [hm0, he0];have hgp : 0 < 10 ^ g := Nat.pow_pos (by decide);have ho := one74_pos;obtain ⟨K, hK⟩ : ∃ K, one74 = K := ⟨_, rfl⟩;rw [hK] at h1 ho ⊢
 have hbig : 10 ^ b = 10 ^ s * 10 ^ e324 * 10 ^ g := by rw [← Nat.pow_add, ← Nat.pow_add]; exact congrArg (10 ^ ·) (by rw [e324_eq]; omega)
 obtain ⟨S, hS⟩ : ∃ S, 10 ^ s = S := ⟨_, rfl⟩;obtain ⟨R, hR⟩ : ∃ R, 10 ^ e324 = R := ⟨_, rfl⟩;obtain ⟨G, hG⟩ : ∃ G, 10 ^ g = G := ⟨_, rfl⟩;rw [hS] at hn hbig;rw [hR] at h1 hbig;rw [hG] at hgp hbig;rw [hbig];have a1 : n * (2 * K) < S * (2 * K) := Nat.mul_lt_mul_of_pos_right hn (by omega);have a2 : S * (2 * K) ≤ S * R := Nat.mul_le_mul_left _ h1;have a3 : S * R ≤ S * R * G := Nat.le_mul_of_pos_right _ hgp;have e1 : 2 * (n * K) = n * (2 * K) := Nat.mul_left_comm 2 n K;rw [e1, Nat.pow_zero, Nat.mul_one];omega
theorem wordE_zero (e : Int) : wordE 0 e = 0 := by
 unfold wordE;rw [Nat.zero_mul];exact word_zero _ (Nat.pow_pos (by decide))
end NU
set_option maxHeartbeats 1000000 in
theorem special_walk (s : ByteArray) (w : World) (h0 : 0 < s.size) (hc : bt s 0 = 46 ∨ isD (bt s 0)) :
  Calls Tryz.prog 182 #[.string s] w fun e w' => e = .returned (.tuple #[.float .f64 0, .int .i64 0, .bool false]) ∧ w = w' := by
 have hd0 : decide (s = ByteArray.empty) = false := decide_eq_false (fun h => by rw [h] at h0; simp at h0);have hb := bt_of_lt h0
 have hne : ∀ k : Nat, k = 43 ∨ k = 45 ∨ 73 ≤ k → (((s[0]'h0).toNat : Int) == (k : Int)) = false := fun k hk => by
  rw [← hb];unfold isD at hc;simp;omega
 have h1 := hne 43 (by omega);have h2 := hne 45 (by omega);have h3 := hne 105 (by omega);have h4 := hne 73 (by omega);have h5 := hne 110 (by omega);have h6 := hne 78 (by omega);clear hne hc hb;go_enter Tryz.func182, Tryz.ntmps182
 go_wp2_with fail
 go_ret3
 exact ⟨rfl, rfl⟩
/-- What a reading function answers. -/
def atofEnd (W n : Nat) : Ending := .returned (.tuple #[.float .f64 W, .int .i64 n, if W < 2047 * 2 ^ 52 then .nilIface else .iface 124 (.int .i64 1)])
set_option maxRecDepth 100000 in
set_option maxHeartbeats 2000000 in
theorem atof64_walk (s : ByteArray) (P : Nat) (E : Int) (w : World) (hs : s.size ≤ 1000) (hD : Digs s P) (hE : (P = s.size ∧ E = 0) ∨ ∃ q neg, HasExp s P q neg ∧ E = expI s q neg) (htr : (scan s P).tr = false)
  (hT : P10 w) (h7 : I7 w) (hF : F10 w) (hsz : 16 < w.heap.size) (hopt : w.cell? ⟨4, 0, none⟩ = some (.bool true)) :
  Calls Tryz.prog 148 #[.string s] w fun r w' => r = atofEnd (NU.wordE (scan s P).m (expOf (scan s P) E)) s.size ∧ Below w.heap.size w w' := by
 have hsp := special_walk s w (by have := hD.1; have := hD.2.1; omega) ((hD.2.2.1 0 hD.1).imp And.left id);have hrf := readFloat_walk s P E w hs hD hE;have hb := scan_bound hD.2.2.1 P (Nat.le_refl _);have hm64 := m_lt' hb.2.2.2.1 hb.2.2.1;unfold readRes at hrf;rw [htr] at hrf
 have hX : -4000 ≤ expOf (scan s P) E ∧ expOf (scan s P) E ≤ 4000 := by
  have hE1 : -1000 ≤ E ∧ E ≤ 1000 := by
   rcases hE with ⟨_, h2⟩ | ⟨q, neg, ⟨h1, h2, h3, h4, h5, h6⟩, h7⟩
   ·omega
   ·have := evs_small (t := s.size - q) (fun k h1 h2 => h5 k h1 (by omega)) (by omega);rw [h7];unfold expI;split <;> omega
  have := hD.2.1;unfold expOf dpt;split
  ·omega
  ·split <;> omega
 generalize expOf (scan s P) E = X at hrf hX ⊢;generalize (scan s P).m = m at hrf hm64 ⊢;clear hb htr hE;have HD := hid hD;have HT := hid hT;have HF := hid hF;have HSP := hid hsp;have HRF := hid hrf;clear hD hT hF hsp hrf;by_cases hm0 : m = 0
 ·subst hm0;rw [NU.wordE_zero];go_enter Tryz.func148, Tryz.ntmps148
  go_wp2_with (first | (go_at_call 182; refine HSP.out.mono ?_; rintro r w' ⟨rfl, rfl⟩) | (go_at_call 183; refine HRF.out.mono ?_; rintro r w' ⟨rfl, rfl⟩) | (go_at_call 191; refine (flip (bool2_64 _ _)).mono ?_; rintro r w' ⟨rfl, rfl⟩))
  rw [frombits_any];go_simp
  go_wp2_with fail
  go_ret3
  refine ⟨?_, Below.refl _ _⟩;unfold atofEnd;rw [if_pos (by decide)];rfl
 ·have hmz : ((m : Int) == 0) = false := (by simp; omega);by_cases hg : 310 < X
  ·have hd : decide ((310 : Int) < X) = true := decide_eq_true hg;rw [NU.wordE_great (s := 1) (by decide) (by rw [Nat.sub_self, Nat.pow_zero]; omega) (by omega)];go_enter Tryz.func148, Tryz.ntmps148
   go_wp2_with (first | (go_at_call 182; refine HSP.out.mono ?_; rintro r w' ⟨rfl, rfl⟩) | (go_at_call 183; refine HRF.out.mono ?_; rintro r w' ⟨rfl, rfl⟩) | (go_at_call 191; refine (flip (bool2_64 _ _)).mono ?_; rintro r w' ⟨rfl, rfl⟩))
   rw [frombits_any];go_simp
   go_wp2_with fail
   go_ret3
   refine ⟨?_, Below.refl _ _⟩;unfold atofEnd;rw [if_neg (by decide)];rfl
  ·have hd : decide ((310 : Int) < X) = false := decide_eq_false hg;by_cases hl : X < -345
   ·have hd2 : decide (X < (-345 : Int)) = true := decide_eq_true hl;rw [NU.wordE_small2 (s := 19) (n := m) (Nat.lt_of_lt_of_le hm64 (by decide)) (by omega)];go_enter Tryz.func148, Tryz.ntmps148
    go_wp2_with (first | (go_at_call 182; refine HSP.out.mono ?_; rintro r w' ⟨rfl, rfl⟩) | (go_at_call 183; refine HRF.out.mono ?_; rintro r w' ⟨rfl, rfl⟩) | (go_at_call 191; refine (flip (bool2_64 _ _)).mono ?_; rintro r w' ⟨rfl, rfl⟩))
    rw [frombits_any];go_simp
    go_wp2_with fail
    go_ret3
    refine ⟨?_, Below.refl _ _⟩;unfold atofEnd;rw [if_pos (by decide)];rfl
   ·have hd2 : decide (X < (-345 : Int)) = false := decide_eq_false hl;have hex := exact_walk m X w h7 HF.out (by omega) (by omega) (by omega);obtain ⟨i, hi⟩ : ∃ i : Nat, (i : Int) = X + 348 := ⟨(X + 348).toNat, by omega⟩;have hpf := parse64_walk m i X w HT.out hsz (by omega) (by omega) hi.symm (by omega)
    have hwe : NU.word (m * NU.tn i) (NU.td i) = NU.wordE m X := by
     rw [← NU.wordE_at, show (i : Int) - 348 = X by omega]
    rw [hwe] at hpf;obtain ⟨Wd, hWd⟩ : ∃ Wd, NU.wordE m X = Wd := ⟨_, rfl⟩;rw [hWd] at hpf ⊢;have HWD := hid hWd;clear hWd;have HEX := hid hex;have HPF := hid hpf;clear hex hpf hwe;obtain ⟨er, her⟩ : ∃ er, numEnd Wd = .returned (.tuple #[.float .f64 Wd, er]) ∧ atofEnd Wd s.size = .returned (.tuple #[.float .f64 Wd, .int .i64 s.size, er]) := ⟨_, rfl, rfl⟩;have HER := hid her;clear her;rw [HER.out.1] at HPF;rw [HER.out.2];go_enter Tryz.func148, Tryz.ntmps148
    go_wp2_with (first | (go_at_call 182; refine HSP.out.mono ?_; rintro r w' ⟨rfl, rfl⟩) | (go_at_call 183; refine HRF.out.mono ?_; rintro r w' ⟨rfl, rfl⟩) | (go_at_call 191; refine (flip (bool2_64 _ _)).mono ?_; rintro r w' ⟨rfl, rfl⟩))
    refine HEX.out.mono ?_;rintro r w' ⟨⟨x, ok, rfl, hok⟩, rfl⟩;cases ok
    ·clear hok
     go_wp2_with (go_at_call 194; refine HPF.out.mono ?_; rintro r w1 ⟨rfl, hb⟩)
     have HB := hid hb;clear hb
     go_wp2_with fail
     go_ret3
     exact ⟨rfl, HB.out⟩
    ·obtain ⟨h1, h2⟩ := hok rfl
     have he : er = .nilIface := by
      have h3 := HER.out.1;unfold numEnd at h3;rw [← HWD.out, ← h1, if_pos h2] at h3
      simpa using h3.symm
     have HE1 := hid (h1.trans HWD.out);have HE2 := hid he;clear h1 h2 hok he
     go_wp2_with fail
     go_ret3
     refine ⟨?_, Below.refl _ _⟩;rw [HE2.out, ← HE1.out];rfl
end Go.Proofs.YtlblkajnmdhmdaaGreatDoor
