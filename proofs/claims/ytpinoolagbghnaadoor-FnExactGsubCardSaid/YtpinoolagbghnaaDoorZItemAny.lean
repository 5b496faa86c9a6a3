/-
  The reader of the reference: item reads just the item that the plain word itemAt tells (all cases joined; no walk).
-/
import Derived.Test.YtpinoolagbghnaaDoorZItemPlace
import Derived.Test.YtpinoolagbghnaaDoorZItemSimple
import Derived.Test.YtpinoolagbghnaaDoorZItemSingle
namespace Go.Proofs.YtpinoolagbghnaaDoor
set_option linter.unusedVariables false
open Go.RowKit Pat

def ItemAny (B : Nat) (p : ByteArray) (b : Nat) (r : Rd) (n : Nat) (xs : List Value) (vi vo vd : Value) (w : World) (e : Ending) (w' : World) : Prop :=
  (∀ it r', itemAt p r = some (it, r') → ItemPost B p b it r' n xs vi vo vd w e w') ∧ (itemAt p r = none → ItemBad B p b w e w')

theorem ItemAny.good {B : Nat} {p : ByteArray} {b : Nat} {r r' : Rd} {it : It} {n : Nat} {xs : List Value} {vi vo vd : Value} {w : World} {e : Ending} {w' : World} (hR : itemAt p r = some (it, r')) (h : ItemPost B p b it r' n xs vi vo vd w e w') : ItemAny B p b r n xs vi vo vd w e w' :=
  ⟨fun it2 r2 h2 => (by rw [hR] at h2; simp only [Option.some.injEq, Prod.mk.injEq] at h2; obtain ⟨rfl, rfl⟩ := h2; exact h), fun h2 => (by rw [hR] at h2; cases h2)⟩
theorem ItemAny.bad {B : Nat} {p : ByteArray} {b : Nat} {r : Rd} {n : Nat} {xs : List Value} {vi vo vd : Value} {w : World} {e : Ending} {w' : World} (hR : itemAt p r = none) (h : ItemBad B p b w e w') : ItemAny B p b r n xs vi vo vd w e w' :=
  ⟨fun it2 r2 h2 => (by rw [hR] at h2; cases h2), fun _ => h⟩

theorem dig_true {d : Int} : digB d = true ↔ 48 ≤ d ∧ d ≤ 57 := by unfold digB; simp

theorem item_any (B : Nat) (p : ByteArray) (b i n : Nat) (xs : List Value) (done : List Bool) (opened : List Nat) (vi vo vd : Value) (w : World) (hp : p.size ≤ 200) (hi : i < p.size) (hn : n ≤ 200) (hdn : done.length ≤ 200) (hop : opened.length ≤ 200)
    (hB : B ≤ b) (hblk : RdBlk w b 92 p i false vi vo vd) (hit : ItemRow B w vi n xs) (hopr : OpenRow B w vo opened) (hdr : DoneRow B w vd done) (hmem : ∀ m ∈ opened, m < done.length) :
    Calls Tryd.prog 33 #[.pointer (some ⟨b, 0, none⟩)] w fun e w' => ItemAny B p b ⟨i, done, opened⟩ n xs vi vo vd w e w' := by
  have bt0 : ∀ {k : Int}, bt p (i + 1) = k → 0 < k → i + 1 < p.size := fun {k} h h0 => by
    apply Nat.lt_of_not_le
    intro hle
    rw [bt_of_ge hle] at h
    omega
  by_cases c40 : bt p i = 40
  · by_cases c41 : bt p (i + 1) = 41
    · have hl := bt0 c41 (by decide)
      refine (item_place B p b i n xs done opened vi vo vd w hp hi hn hdn hop hB hblk hit hopr hdr c40 c41 hl).mono fun e w' h => ItemAny.good ?_ h
      unfold itemAt
      simp only []
      rw [if_pos c40, if_pos ⟨by simpa using hl, c41⟩]
    · refine (item_open B p b i n xs done opened vi vo vd w hp hi hn hdn hop hB hblk hit hopr hdr c40 ?_).mono fun e w' h => ItemAny.good ?_ h
      · by_cases hl : i + 1 < p.size
        · exact Or.inr ⟨by simpa using hl, by simpa using c41⟩
        · exact Or.inl (by simpa using hl)
      · unfold itemAt
        simp only []
        rw [if_pos c40, if_neg (fun h => c41 h.2)]
  · by_cases c41 : bt p i = 41
    · cases opened with
      | nil =>
        refine (item_shut_bad B p b i n xs done [] vi vo vd w hp hi hn hdn hop hB hblk hit hopr hdr c41 rfl).mono fun e w' h => ItemAny.bad ?_ h
        unfold itemAt
        simp only []
        rw [if_neg c40, if_pos c41]
      | cons m rest =>
        refine (item_shut B p b i n xs done m rest vi vo vd w hp hi hn hdn hop hB hblk hit hopr hdr c41 (hmem m (by simp))).mono fun e w' h => ItemAny.good ?_ h
        unfold itemAt
        simp only []
        rw [if_neg c40, if_pos c41]
    · by_cases cd : bt p i = 37 ∧ i + 1 < p.size ∧ 48 ≤ bt p (i + 1) ∧ bt p (i + 1) ≤ 57
      · obtain ⟨d1, d2, d3, d4⟩ := cd
        have hcond : bt p i = 37 ∧ decide (i + 1 < p.size) = true ∧ digB (bt p (i + 1)) = true := ⟨d1, by simpa using d2, dig_true.2 ⟨d3, d4⟩⟩
        by_cases d0 : bt p (i + 1) = 48
        · refine (item_back0 B p b i n xs done opened vi vo vd w hp hi hn hdn hop hB hblk hit hopr hdr d1 d3 d4 d0).mono fun e w' h => ItemAny.bad ?_ h
          unfold itemAt
          simp only []
          rw [if_neg c40, if_neg c41, if_pos hcond, if_pos (Or.inl d0)]
        · by_cases hl : bt p (i + 1) - 49 < (done.length : Int)
          · cases hf : done.getD (bt p (i + 1) - 49).toNat false
            · refine (item_back2 B p b i n xs done opened vi vo vd w hp hi hn hdn hop hB hblk hit hopr hdr d1 d3 d4 (by omega) hl hf).mono fun e w' h => ItemAny.bad ?_ h
              unfold itemAt
              simp only []
              rw [if_neg c40, if_neg c41, if_pos hcond, if_pos (Or.inr hf)]
            · refine (item_back B p b i n xs done opened vi vo vd w hp hi hn hdn hop hB hblk hit hopr hdr d1 d3 d4 (by omega) hl hf).mono fun e w' h => ItemAny.good ?_ h
              unfold itemAt
              simp only []
              rw [if_neg c40, if_neg c41, if_pos hcond, if_neg (by rw [hf]; simp [d0])]
          · refine (item_back1 B p b i n xs done opened vi vo vd w hp hi hn hdn hop hB hblk hit hopr hdr d1 d3 d4 (by omega) (by omega)).mono fun e w' h => ItemAny.bad ?_ h
            unfold itemAt
            simp only []
            rw [if_neg c40, if_neg c41, if_pos hcond, if_pos (Or.inr ?_)]
            rw [List.getD_eq_getElem?_getD, List.getElem?_eq_none (by omega)]
            rfl
      · have nd : ¬ (bt p i = 37 ∧ decide (i + 1 < p.size) = true ∧ digB (bt p (i + 1)) = true) := by
          rintro ⟨h1, h2, h3⟩
          rw [dig_true] at h3
          exact cd ⟨h1, by simpa using h2, h3.1, h3.2⟩
        by_cases cb : bt p i = 37 ∧ i + 1 < p.size ∧ bt p (i + 1) = 98
        · obtain ⟨b1, b2, b3⟩ := cb
          have hcond : bt p i = 37 ∧ decide (i + 1 < p.size) = true ∧ bt p (i + 1) = 98 := ⟨b1, by simpa using b2, b3⟩
          by_cases hl : i + 3 < p.size
          · refine (item_pair B p b i n xs done opened vi vo vd w hp hi hn hdn hop hB hblk hit hopr hdr b1 b3 hl).mono fun e w' h => ItemAny.good ?_ h
            unfold itemAt
            simp only []
            rw [if_neg c40, if_neg c41, if_neg nd, if_pos hcond, if_pos hl]
          · refine (item_pair_bad B p b i n xs done opened vi vo vd w hp hi hn hdn hop hB hblk hit hopr hdr b1 b3 hl).mono fun e w' h => ItemAny.bad ?_ h
            unfold itemAt
            simp only []
            rw [if_neg c40, if_neg c41, if_neg nd, if_pos hcond, if_neg hl]
        · have nb : ¬ (bt p i = 37 ∧ decide (i + 1 < p.size) = true ∧ bt p (i + 1) = 98) := fun ⟨h1, h2, h3⟩ => cb ⟨h1, by simpa using h2, h3⟩
          by_cases cf : bt p i = 37 ∧ i + 1 < p.size ∧ bt p (i + 1) = 102
          · obtain ⟨b1, b2, b3⟩ := cf
            have hcond : bt p i = 37 ∧ decide (i + 1 < p.size) = true ∧ bt p (i + 1) = 102 := ⟨b1, by simpa using b2, b3⟩
            by_cases hl : i + 2 < p.size ∧ bt p (i + 2) = 91
            · refine (item_edge B p b i n xs done opened vi vo vd w hp hi hn hdn hop hB hblk hit hopr hdr b1 b3 hl.1 hl.2).mono fun e w' h => ?_
              have hR : itemAt p ⟨i, done, opened⟩ = (setAt p (i + 2)).map fun x => ({ kind := 6, set := x.1 }, { i := x.2, done := done, opened := opened }) := by
                unfold itemAt
                simp only []
                rw [if_neg c40, if_neg c41, if_neg nd, if_neg nb, if_pos hcond, if_pos hl]
                cases setAt p (i + 2) <;> rfl
              cases hS : setAt p (i + 2) with
              | none => exact ItemAny.bad (by rw [hR, hS]; rfl) (h.2 hS)
              | some x => obtain ⟨f, j⟩ := x; exact ItemAny.good (by rw [hR, hS]; rfl) (h.1 f j hS)
            · refine (item_edge0 B p b i n xs done opened vi vo vd w hp hi hn hdn hop hB hblk hit hopr hdr b1 b3 hl).mono fun e w' h => ItemAny.bad ?_ h
              unfold itemAt
              simp only []
              rw [if_neg c40, if_neg c41, if_neg nd, if_neg nb, if_pos hcond, if_neg hl]
          · have nf : ¬ (bt p i = 37 ∧ decide (i + 1 < p.size) = true ∧ bt p (i + 1) = 102) := fun ⟨h1, h2, h3⟩ => cf ⟨h1, by simpa using h2, h3⟩
            by_cases ce : bt p i = 36 ∧ ¬ i + 1 < p.size
            · refine (item_fin B p b i n xs done opened vi vo vd w hp hi hn hdn hop hB hblk hit hopr hdr ce.1 (by omega)).mono fun e w' h => ItemAny.good ?_ h
              unfold itemAt
              simp only []
              rw [if_neg c40, if_neg c41, if_neg nd, if_neg nb, if_neg nf, if_pos ⟨ce.1, by simpa using ce.2⟩]
            · have ne : ¬ (bt p i = 36 ∧ decide (i + 1 < p.size) = false) := fun ⟨h1, h2⟩ => ce ⟨h1, by simpa using h2⟩
              refine (item_single B p b i n xs done opened vi vo vd w hp hi hn hdn hop hB hblk hit hopr hdr c40 c41 cd cb cf ce).mono fun e w' h => ?_
              have hR : itemAt p ⟨i, done, opened⟩ = (singleAt p i).map fun x => if signAt p x.2 then ({ kind := 0, set := x.1, sign := bt p x.2 }, { i := x.2 + 1, done := done, opened := opened }) else ({ kind := 0, set := x.1 }, { i := x.2, done := done, opened := opened }) := by
                unfold itemAt
                simp only []
                rw [if_neg c40, if_neg c41, if_neg nd, if_neg nb, if_neg nf, if_neg ne]
                cases singleAt p i with
                | none => rfl
                | some x => obtain ⟨f, j⟩ := x; simp only [Option.map_some]; split <;> rfl
              cases hS : singleAt p i with
              | none => exact ItemAny.bad (by rw [hR, hS]; rfl) (h.2 hS)
              | some x =>
                obtain ⟨f, j⟩ := x
                cases hs : signAt p j
                · exact ItemAny.good (by rw [hR, hS]; simp [hs]) ((h.1 f j hS).2 hs)
                · exact ItemAny.good (by rw [hR, hS]; simp [hs]) ((h.1 f j hS).1 hs)
end Go.Proofs.YtpinoolagbghnaaDoor
