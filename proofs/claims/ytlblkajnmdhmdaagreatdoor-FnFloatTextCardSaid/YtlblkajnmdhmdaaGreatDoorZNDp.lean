/-
  Plain: the reference's l01FromInt and l01DivWords give words, as often as they are drawn.
-/
import Derived.Test.YtlblkajnmdhmdaaGreatDoorZDNum
import Derived.Test.YtlblkajnmdhmdaaGreatDoorZNBig8
import Derived.Test.YtlblkajnmdhmdaaGreatDoorZNEx
namespace Go.Proofs.YtlblkajnmdhmdaaGreatDoor.NB
set_option linter.unusedVariables false
open Go Go.RowKit Go.Proofs.YtlblkajnmdhmdaaGreatDoor.PFormatNumber Go.Proofs.YtlblkajnmdhmdaaGreatDoorW.PrintWords Go.Proofs.YtlblkajnmdhmdaaGreatDoorW.PrintLast Go.Proofs.YtlblkajnmdhmdaaGreatDoorW.PrintMore Go.Proofs.YtlblkajnmdhmdaaGreatDoor.NU
theorem fromInt_ev {v : Int} (h1 : -9223372036854775808 ≤ v) (h2 : v ≤ 9223372036854775807) : ∃ r : Nat, r < 2 ^ 64 ∧ Ev (fun k => spec_l01FromInt.f k v) (r : Int) ∧ (v ≠ -9223372036854775808 → r % 2 ^ 63 = word v.natAbs 1 ∧ r % 2 ^ 63 < 2047 * 2 ^ 52) := by
  have hp63 : (2 : Nat) ^ 63 = 9223372036854775808 := by decide
  by_cases h0 : v = -9223372036854775808
  · refine ⟨14114281232179134464, by decide, Ev.congr (fun k => ?_) (Ev.now _), fun h => absurd h0 h⟩
    unfold spec_l01FromInt.f
    rw [if_pos h0]
    rfl
  · obtain ⟨N, hN⟩ : ∃ N : Nat, v.natAbs = N := ⟨_, rfl⟩
    have hNl : N < 9223372036854775808 := by omega
    have hfin : word N 1 < 2047 * 2 ^ 52 := fin_int (Nat.lt_trans hNl (by decide))
    have hof := of_ev hNl
    have hw := word_ev (n := N) (d := 1) (C := 64) (e := 0) (by decide) (by decide) (Nat.lt_trans hNl (by decide)) (by decide) (by decide) (by decide)
    rw [dig_one, word2_zero] at hw
    rw [hN]
    by_cases hneg : v < 0
    · refine ⟨2 ^ 63 + word N 1, by omega, Ev.congr (fun k => ?_) (Ev.bind (f := fun k t223 => ((spec_l01Word.f k t223 (([1] : List Int)) 0).bind fun t229 => (some (IntKind.u64.wrap (9223372036854775808 + t229))))) hof (Ev.bind (f := fun k t229 => some (IntKind.u64.wrap (9223372036854775808 + t229))) hw ?_)), fun _ => ⟨by omega, by omega⟩⟩
      · show spec_l01FromInt.f k v = _
        unfold spec_l01FromInt.f
        rw [if_neg h0, if_pos hneg, wrap64_of (by omega) (by omega), show -v = (N : Int) by omega]
      · have e : IntKind.u64.wrap (9223372036854775808 + ((word N 1 : Nat) : Int)) = ((2 ^ 63 + word N 1 : Nat) : Int) := by rw [IntKind.wrap_u64]; omega
        rw [e]
        exact Ev.now _
    · refine ⟨word N 1, by omega, Ev.congr (fun k => ?_) (Ev.bind (f := fun k t230 => ((spec_l01Word.f k t230 (([1] : List Int)) 0).bind fun t236 => (some t236))) hof (Ev.bind (f := fun k t236 => some t236) hw (Ev.now _))), fun _ => ⟨Nat.mod_eq_of_lt (by omega), by rw [Nat.mod_eq_of_lt (by omega)]; exact hfin⟩⟩
      show spec_l01FromInt.f k v = _
      unfold spec_l01FromInt.f
      rw [if_neg h0, if_neg hneg, show v = (N : Int) by omega]
theorem div_j1 {a b : Int} {s : Bool} {p q : Nat} {e f x y : Int} {W : Nat} {r : Int} (hib : spec_l01Infinite.f b = some false) (ea : Int.tmod a 9223372036854775808 = x) (eb : Int.tmod b 9223372036854775808 = y)
    (px : spec_l01Parts.f x = some ((p : Int), e)) (py : spec_l01Parts.f y = some ((q : Int), f)) (he : -9223372036854775808 ≤ e - f ∧ e - f ≤ 9223372036854775807) (hp : p < 9223372036854775808) (hq : q < 9223372036854775808)
    (hw : Ev (fun k => spec_l01Word.f k (dig p) (dig q) (e - f)) (W : Int)) (hsr : spec_l01Signed.f (W : Int) s = some r) : Ev (fun k => spec_l01DivWords.j1 k a b s false) r := by
  refine Ev.step (f := fun k => ((spec_l01Of.f k (p : Int)).bind fun t256 => ((spec_l01Of.f k (q : Int)).bind fun t259 => ((spec_l01Word.f k t256 t259 (e - f)).bind fun t262 => ((spec_l01Signed.f t262 s).bind fun t263 => (some t263)))))) (fun k => ?_) ?_
  · rw [spec_l01DivWords.j1, if_neg Bool.false_ne_true, hib]
    simp only [Option.bind_some, Bool.false_eq_true, if_false]
    rw [ea, eb, px, py]
    simp only [Option.bind_some]
    rw [wrap64_of he.1 he.2]
  · refine Ev.bind (f := fun k t256 => ((spec_l01Of.f k (q : Int)).bind fun t259 => ((spec_l01Word.f k t256 t259 (e - f)).bind fun t262 => ((spec_l01Signed.f t262 s).bind fun t263 => (some t263))))) (of_ev hp) ?_
    refine Ev.bind (f := fun k t259 => ((spec_l01Word.f k (dig p) t259 (e - f)).bind fun t262 => ((spec_l01Signed.f t262 s).bind fun t263 => (some t263)))) (of_ev hq) ?_
    refine Ev.bind (f := fun k t262 => ((spec_l01Signed.f t262 s).bind fun t263 => (some t263))) hw ?_
    rw [hsr]
    exact Ev.now _
theorem div_j0 {a b : Int} {s1 s2 : Bool} {r : Int} (hia : spec_l01Infinite.f a = some false) (zb : spec_l01IsZero.f b = some false) (h1 : spec_l01Minor.f a = some s1) (h2 : spec_l01Minor.f b = some s2)
    (j1 : Ev (fun k => spec_l01DivWords.j1 k a b (s1 != s2) false) r) : Ev (fun k => spec_l01DivWords.j0 k a b false) r := by
  refine Ev.step (f := fun k => spec_l01DivWords.j1 k a b (s1 != s2) false) (fun k => ?_) j1
  rw [spec_l01DivWords.j0, if_neg Bool.false_ne_true, h1, h2, hia, zb]
  simp only [Option.bind_some, Bool.false_eq_true, if_false]
theorem div_f {a b : Int} {z : Bool} {r : Int} (na : spec_l01IsNan.f a = some false) (nb : spec_l01IsNan.f b = some false) (hia : spec_l01Infinite.f a = some false) (za : spec_l01IsZero.f a = some z) (zb : spec_l01IsZero.f b = some false)
    (j0 : Ev (fun k => spec_l01DivWords.j0 k a b false) r) : Ev (fun k => spec_l01DivWords.f k a b) r := by
  refine Ev.congr (fun k => ?_) j0
  unfold spec_l01DivWords.f
  rw [na, nb, hia, za, zb]
  simp only [Option.bind_some, Bool.false_eq_true, if_false]
  cases z
  · simp only [Bool.false_eq_true, if_false]
  · simp only [if_true]
theorem divWords_ev {a b : Nat} (ha : a < 2 ^ 64) (hb : b < 2 ^ 64) (hfa : a % 2 ^ 63 < 2047 * 2 ^ 52) (hfb : b % 2 ^ 63 < 2047 * 2 ^ 52) (hb0 : b % 2 ^ 63 ≠ 0) : ∃ r : Nat, r < 2 ^ 64 ∧ Ev (fun k => spec_l01DivWords.f k (a : Int) (b : Int)) (r : Int) := by
  have hp63 : (2 : Nat) ^ 63 = 9223372036854775808 := by decide
  have hp52 : (2047 : Nat) * 2 ^ 52 = 9218868437227405312 := by decide
  have ea : Int.tmod (a : Int) 9223372036854775808 = ((a % 2 ^ 63 : Nat) : Int) := by rw [hp63]; exact tmod_nat a 9223372036854775808
  have eb : Int.tmod (b : Int) 9223372036854775808 = ((b % 2 ^ 63 : Nat) : Int) := by rw [hp63]; exact tmod_nat b 9223372036854775808
  obtain ⟨x, hx⟩ : ∃ x, a % 2 ^ 63 = x := ⟨_, rfl⟩
  obtain ⟨y, hy⟩ : ∃ y, b % 2 ^ 63 = y := ⟨_, rfl⟩
  rw [hx] at ea hfa
  rw [hy] at eb hfb hb0
  have nan : ∀ {z : Nat} {c : Int}, Int.tmod c 9223372036854775808 = (z : Int) → z < 2047 * 2 ^ 52 → spec_l01IsNan.f c = some false := fun e h => by
    unfold spec_l01IsNan.f
    rw [e]
    exact congrArg some (decide_eq_false (by omega))
  have inf : ∀ {z : Nat} {c : Int}, Int.tmod c 9223372036854775808 = (z : Int) → z < 2047 * 2 ^ 52 → spec_l01Infinite.f c = some false := fun e h => by
    unfold spec_l01Infinite.f
    rw [e]
    exact congrArg some (by simp; omega)
  have zb : spec_l01IsZero.f (b : Int) = some false := by
    unfold spec_l01IsZero.f
    rw [eb]
    exact congrArg some (by simp; omega)
  have px := parts_at hfa
  have py := parts_at hfb
  have mx := wM_lt x
  have my := wM_lt y
  have my0 : 0 < wM y := by unfold wM; split <;> omega
  have ex : wE x ≤ 2045 := by unfold wE; omega
  have ey : wE y ≤ 2045 := by unfold wE; omega
  have hw := word_ev (n := wM x) (d := wM y) (C := 53) (e := (wE x : Int) - 1074 - ((wE y : Int) - 1074)) my0 (by decide) mx my (by omega) (by omega)
  obtain ⟨W, hW⟩ : ∃ W, word2 (wM x) (wM y) ((wE x : Int) - 1074 - ((wE y : Int) - 1074)) = W := ⟨_, rfl⟩
  have hWl : W ≤ 2047 * 2 ^ 52 := by rw [← hW]; unfold word2; exact word_le _ _
  rw [hW] at hw
  have hsg : ∀ s : Bool, ∃ r : Nat, r < 2 ^ 64 ∧ spec_l01Signed.f (W : Int) s = some (r : Int) := fun s => by
    unfold spec_l01Signed.f
    cases s
    · exact ⟨W, by omega, by rw [if_neg Bool.false_ne_true]⟩
    · refine ⟨2 ^ 63 + W, by omega, ?_⟩
      rw [if_pos rfl]
      exact congrArg some (by rw [IntKind.wrap_u64]; omega)
  obtain ⟨r, hr, hsr⟩ := hsg (decide ((a : Int) ≥ 9223372036854775808) != decide ((b : Int) ≥ 9223372036854775808))
  exact ⟨r, hr, div_f (nan ea hfa) (nan eb hfb) (inf ea hfa) rfl zb (div_j0 (inf ea hfa) zb rfl rfl (div_j1 (inf eb hfb) ea eb px py (by omega) (by omega) (by omega) hw hsr))⟩
end Go.Proofs.YtlblkajnmdhmdaaGreatDoor.NB
