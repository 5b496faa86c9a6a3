/-
  Plain laws on the cells of captures.
  Walk: the reference's all comes to the plain word allP.
-/
import Derived.Test.YtpinoolagbghnaaDoorZChk
import Derived.Test.YtpinoolagbghnaaDoorZQB
import Derived.Test.YtpinoolagbghnaaDoorZRel
import Derived.Test.YtpinoolagbghnaaDoorZGsubP
import Derived.Test.YtpinoolagbghnaaDoorZRepOk
namespace Go.Proofs.YtpinoolagbghnaaDoor
set_option linter.unusedVariables false
open Go.RowKit Pat

theorem capAt3 (c : Cap) (k : Nat) : capAt c (k * 3) = .bool (c.pl k) ∧ capAt c (k * 3 + 1) = .int .i64 (c.frm k : Nat) ∧ capAt c (k * 3 + 2) = .int .i64 (c.to k : Nat) := by
  unfold capAt
  refine ⟨?_, ?_, ?_⟩
  · rw [if_pos (by omega), show k * 3 / 3 = k by omega]
  · rw [if_neg (by omega), if_pos (by omega), show (k * 3 + 1) / 3 = k by omega]
  · rw [if_neg (by omega), if_neg (by omega), show (k * 3 + 2) / 3 = k by omega]

theorem capCells_len (pl : Nat → Bool) (c : Cap) (n : Nat) : (capCells pl c n).length = n * 3 := by
  induction n with
  | zero => rfl
  | succ m ih => rw [capCells_succ, List.length_append, ih]; simp; omega
theorem capCells_at {pl : Nat → Bool} {ct cf : Cap} {n : Nat} (h : CapSame pl n ct cf) : ∀ j, j < n * 3 → (capCells pl cf n)[j]? = some (capAt ct j) := by
  induction n with
  | zero => intro j hj; omega
  | succ m ih =>
    intro j hj
    have hl := capCells_len pl cf m
    rw [capCells_succ]
    by_cases hlt : j < m * 3
    · rw [List.getElem?_append_left (by omega)]
      exact ih (fun k hk => h k (by omega)) j hlt
    · rw [List.getElem?_append_right (by omega), hl]
      obtain ⟨h1, h2, h3⟩ := h m (by omega)
      obtain ⟨a0, a1, a2⟩ := capAt3 ct m
      have hc : j = m * 3 ∨ j = m * 3 + 1 ∨ j = m * 3 + 2 := by omega
      rcases hc with rfl | rfl | rfl
      · rw [a0, h1, Nat.sub_self]; rfl
      · rw [a1, h2, show m * 3 + 1 - m * 3 = 1 by omega]; rfl
      · rw [a2, h3, show m * 3 + 2 - m * 3 = 2 by omega]; rfl


theorem capCells_at3 {pl : Nat → Bool} {ct cf : Cap} {n k : Nat} (h : CapSame pl n ct cf) (hk : k < n) : (capCells pl cf n)[k * 3]? = some (.bool (ct.pl k)) ∧ (capCells pl cf n)[k * 3 + 1]? = some (.int .i64 (ct.frm k : Nat)) ∧ (capCells pl cf n)[k * 3 + 2]? = some (.int .i64 (ct.to k : Nat)) := by
  obtain ⟨a0, a1, a2⟩ := capAt3 ct k
  exact ⟨(capCells_at h _ (by omega)).trans (congrArg some a0), (capCells_at h _ (by omega)).trans (congrArg some a1), (capCells_at h _ (by omega)).trans (congrArg some a2)⟩
end Go.Proofs.YtpinoolagbghnaaDoor

namespace Go.Proofs.YtpinoolagbghnaaDoor
set_option linter.unusedVariables false
open Go.RowKit Pat

namespace Pat
section
variable {s p : ByteArray} {P : Pt} {fu i st : Nat} {most : Int}
theorem al_end (h : s.size < i ∨ most ≤ 0) : allP s P fu i most st = some (st, []) := by
  cases fu with
  | zero => rfl
  | succ n => unfold allP; rw [if_pos h]
theorem al_none (h : ¬ (s.size < i ∨ most ≤ 0)) (hs : searchP s true P.start (fun _ => false) P.items (s.size + 1 - i) i st = none) : allP s P (fu + 1) i most st = none := by
  unfold allP; rw [if_neg h, hs]
theorem al_stop {st' : Nat} (h : ¬ (s.size < i ∨ most ≤ 0)) (hs : searchP s true P.start (fun _ => false) P.items (s.size + 1 - i) i st = some (st', none)) : allP s P (fu + 1) i most st = some (st', []) := by
  unfold allP; rw [if_neg h, hs]
theorem al_hit {st' a e : Nat} {c : Cap} (h : ¬ (s.size < i ∨ most ≤ 0)) (hs : searchP s true P.start (fun _ => false) P.items (s.size + 1 - i) i st = some (st', some (a, e, c))) :
    allP s P (fu + 1) i most st = (allP s P fu (if e = a then e + 1 else e) (most - 1) st').map fun x => (x.1, ⟨a, e, viewI P.caps c⟩ :: x.2) := by
  conv => lhs; unfold allP
  rw [if_neg h, hs]
  simp only []
  generalize allP s P fu (if e = a then e + 1 else e) (most - 1) st' = A
  cases A with
  | none => rfl
  | some x => rfl
end
/-- The matches found already aheadM of those to come. -/
def aheadM (l : List Mt) (A : Option (Nat × List Mt)) : Option (Nat × List Mt) := A.map fun x => (x.1, l ++ x.2)
theorem aheadM_cons (l : List Mt) (m : Mt) (A : Option (Nat × List Mt)) : aheadM l (A.map fun x => (x.1, m :: x.2)) = aheadM (l ++ [m]) A := by
  cases A with
  | none => rfl
  | some x => simp [aheadM]
end Pat

/-- The captures of a match in memory, in a row of captures. -/
def MtRow (w : World) (lo : Nat) (aa : Option Addr) (l : List (Bool × Nat × Nat)) : Prop := 0 < l.length → ∃ g c, aa = some ⟨g, 0, none⟩ ∧ lo ≤ g ∧ w.heap[g]? = some (.cells c 69 (0, 0)) ∧
  ∀ (k : Nat) (b : Bool) (f t : Nat), l[k]? = some (b, f, t) → c[k * 3]? = some (.bool b) ∧ c[k * 3 + 1]? = some (.int .i64 f) ∧ c[k * 3 + 2]? = some (.int .i64 t)

theorem MtRow.at_ {w : World} {lo : Nat} {aa : Option Addr} {l : List (Bool × Nat × Nat)} (h : MtRow w lo aa l) : MtAt w aa l := fun k b f t hk => by
  obtain ⟨g, c, h1, h2, h3, h4⟩ := h (by have := (List.getElem?_eq_some_iff.1 hk).1; omega)
  obtain ⟨a, b', d⟩ := h4 k b f t hk
  exact ⟨g, h1, blk_lt h3, (blk_cell h3 _).trans a, (blk_cell h3 _).trans b', (blk_cell h3 _).trans d⟩
theorem MtRow.keeps {w w' : World} {lo lo' B : Nat} {S : List Nat} {aa : Option Addr} {l : List (Bool × Nat × Nat)} (h : MtRow w lo aa l) (hk : Keeps B S w w') (hB : w.heap.size ≤ B) (hS : ∀ k ∈ S, ∃ c t z, w.heap[k]? = some (.cells c t z) ∧ t ≠ 69) (hl : lo' ≤ lo) : MtRow w' lo' aa l := fun hn => by
  obtain ⟨g, c, h1, h2, h3, h4⟩ := h hn
  refine ⟨g, c, h1, Nat.le_trans hl h2, hk.blk h3 (Nat.lt_of_lt_of_le (blk_lt h3) hB) (fun hm => ?_), h4⟩
  obtain ⟨c', t, z, h5, h6⟩ := hS g hm
  rw [h3] at h5
  simp only [Option.some.injEq, Obj.cells.injEq] at h5
  exact h6 h5.2.1.symm
theorem MtRow.grown {w w' : World} {lo : Nat} {row : Option Nat} {aa : Option Addr} {l : List (Bool × Nat × Nat)} (h : MtRow w lo aa l) (hg : w.grownBy w' row) (hr : ∀ k, row = some k → ∃ c t z, w.heap[k]? = some (.cells c t z) ∧ t ≠ 69) : MtRow w' lo aa l := fun hn => by
  obtain ⟨g, c, h1, h2, h3, h4⟩ := h hn
  refine ⟨g, c, h1, h2, (hg.block g (blk_lt h3) (fun e => ?_)).trans h3, h4⟩
  obtain ⟨c', t, z, h5, h6⟩ := hr g e.symm
  rw [h3] at h5
  simp only [Option.some.injEq, Obj.cells.injEq] at h5
  exact h6 h5.2.1.symm

/-- The row that a search of the reference's makes. -/
theorem mtRow_own {w : World} {lo n ca : Nat} {aa : Option Addr} {pl : Nat → Bool} {ct cf : Cap} (h : w.ownsRow lo 69 3 (.slice aa n ca) n (capCells pl cf n)) (hs : CapSame pl n ct cf) : MtRow w lo aa (viewI n ct) := fun hn => by
  rw [viewI_len] at hn
  rcases h.2 with ⟨h1, h2⟩ | ⟨g, cap, cur, h1, hg, hb, h3, h4, h5, h6⟩
  · omega
  · simp only [Value.slice.injEq] at h1
    obtain ⟨rfl, _, rfl⟩ := h1
    refine ⟨g, cur, rfl, hg, hb, fun k b f t hk => ?_⟩
    have hlt : k < n := by
      have := (List.getElem?_eq_some_iff.1 hk).1
      rwa [viewI_len] at this
    rw [viewI_at ct hlt] at hk
    simp only [Option.some.injEq, Prod.mk.injEq] at hk
    obtain ⟨rfl, rfl, rfl⟩ := hk
    have key : ∀ j, j < n * 3 → cur[j]? = (capCells pl cf n)[j]? := fun j hj => by
      rw [← h6, List.getElem?_take, if_pos hj, Array.getElem?_toList]
    have cc := capCells_at3 hs hlt
    exact ⟨(key _ (by omega)).trans cc.1, (key _ (by omega)).trans cc.2.1, (key _ (by omega)).trans cc.2.2⟩

/-- The cells of the matches found: each with the slice of its captures. -/
abbrev FEnt := Mt × Option Addr × Nat
def fCells (l : List FEnt) : List Value := l.flatMap fun x => [.int .i64 x.1.a, .int .i64 x.1.e, .slice x.2.1 x.1.caps.length x.2.2]
theorem fCells_snoc (l : List FEnt) (x : FEnt) : fCells (l ++ [x]) = fCells l ++ [.int .i64 x.1.a, .int .i64 x.1.e, .slice x.2.1 x.1.caps.length x.2.2] := by simp [fCells]

theorem info_found : (Tryd.prog.info? 32).map (fun i => (i.zero, i.size, i.bytes)) = some (some (.agg #[.int .i64 0, .int .i64 0, .slice none 0 0]), 3, 40) := by kernel_rfl

/-- An append to a row of matches leaves a matching as it was. -/
theorem ms_grown {lo m pg st B n : Nat} {s : ByteArray} {vi v : Value} {P : Pt} {gs : List Nat} {xs : List Value} {w w' : World} (h : MS lo w m s vi pg P gs st) (ho : w.ownsRow B 32 3 v n xs) (hg : w.grownBy w' v.ownBlock) : MS lo w' m s vi pg P gs st := by
  rcases ho.2 with ⟨rfl, _⟩ | ⟨g, cap, cur, rfl, _, hgg, _⟩
  · exact h.off (S := []) ((Keeps.refl _ _ _).grown hg (Nat.le_refl _) (fun k hk => by cases hk)) (by simp)
  · exact h.off (S := [g]) ((Keeps.refl _ _ _).grown hg (Nat.le_refl _) (fun k hk => by simp only [Value.ownBlock, Option.some.injEq] at hk; subst hk; exact Or.inl (by simp))) (fun k hk => by
      simp only [List.mem_singleton] at hk
      subst hk
      exact ⟨_, _, _, hgg, by decide, by decide, by decide⟩)

/-- What all leaves. -/
def AllPost (lo m : Nat) (s : ByteArray) (vi : Value) (pg : Nat) (P : Pt) (gs : List Nat) (R : Option (Nat × List Mt)) (w : World) (e : Ending) (w' : World) : Prop :=
  Keeps w.heap.size [m] w w' ∧ ∃ (fs : List FEnt) (ao : Option Addr) (cap st' : Nat), e = .returned (.slice ao fs.length cap) ∧ MS lo w' m s vi pg P gs st' ∧ st' ≤ 130000 ∧ fs.length ≤ s.size + 1 ∧
    w'.ownsRow w.heap.size 32 3 (.slice ao fs.length cap) fs.length (fCells fs) ∧ (∀ x ∈ fs, MtRow w' w.heap.size x.2.1 x.1.caps ∧ MtOk s P.caps x.1) ∧
    ((R = none ∧ 50000 < st') ∨ (st' ≤ 50000 ∧ R = some (st', fs.map Prod.fst)))

section
variable {lo m pg st : Nat} {s p : ByteArray} {vi : Value} {P : Pt} {gs : List Nat} {w : World}
set_option maxRecDepth 100000 in
set_option maxHeartbeats 4000000 in
theorem all_any (most : Int) (hmost : most ≤ 9223372036854775807 ∧ -9223372036854775808 ≤ most) (hp : parse p = some P) (hs : s.size ≤ 65536) (hst : st ≤ 50000) (hM : MS lo w m s vi pg P gs st) :
    Calls Tryd.prog 8 #[.pointer (some ⟨m, 0, none⟩), .int .i64 most] w fun e w' => AllPost lo m s vi pg P gs (allP s P (s.size + 1) 0 most st) w e w' := by
  obtain ⟨dn2, hwf, hdn, hcp, hstart, hil, hps⟩ := parse_wf hp
  obtain ⟨R, hR⟩ : ∃ R, allP s P (s.size + 1) 0 most st = R := ⟨_, rfl⟩
  rw [hR]
  have HR := hid hR
  clear hR
  go_enter Tryd.func8, Tryd.ntmps8
  go_wp2_with fail
  go_loopw [5, 6] (fun v5 v6 wr => ∃ (fs : List FEnt) (ao : Option Addr) (n cap i st' fu : Nat), v6 = .int .i64 (i : Nat) ∧ i ≤ s.size + 1 ∧ v5 = .slice ao n cap ∧ n = fs.length ∧ wr.ownsRow w.heap.size 32 3 (.slice ao n cap) n (fCells fs) ∧
    (∀ x ∈ fs, MtRow wr w.heap.size x.2.1 x.1.caps ∧ MtOk s P.caps x.1) ∧ MS lo wr m s vi pg P gs st' ∧ st' ≤ 50000 ∧ Keeps w.heap.size [m] w wr ∧ n ≤ i ∧ Hid (s.size < fu + i ∧ R = aheadM (fs.map Prod.fst) (allP s P fu i (most - n) st'))) (fun _ v6 _ => s.size + 2 - (intOf v6).toNat)
  case atStart =>
    refine ⟨[], _, _, _, 0, st, s.size + 1, rfl, by omega, rfl, rfl, ?_, by simp, hM.off (S := []) ((Keeps.refl _ _ _).alloc (Nat.le_refl _) _) (by simp), hst, (Keeps.refl _ _ _).alloc (Nat.le_refl _) _, Nat.le_refl _, hid ⟨by omega, ?_⟩⟩
    · have := World.ownsRow_lit (base := w.heap.size) (e := 32) (size := 3) w #[] 0 (Nat.le_refl _) (by unfold maxLen; omega) rfl
      exact this
    · rw [HR.out.symm]
      unfold aheadM
      simp
  case round =>
    obtain ⟨fs, ao, n, cap, i, st', fu, rfl, hi, rfl, hn, hown, hrows, hM', hst', hk, hni, HG⟩ := hrel
    obtain ⟨a4, n4, k4, a5, n5, k5, hm⟩ := hM'.blk
    have c0 := blk_cell hm 0
    have hml := blk_lt hm
    have HNL := hid hn
    have hiI : (0 : Int) ≤ i ∧ (i : Int) ≤ 65537 := by omega
    have hnI : (0 : Int) ≤ n ∧ (n : Int) ≤ 65537 := by omega
    have HO := hid hown
    have HROWS := hid hrows
    have HK := hid hk
    have HM := hid hM'
    have HMB := hid hm
    clear hn hown hrows hk hM' hm
    by_cases hgo : i ≤ s.size ∧ (n : Int) < most
    · obtain ⟨h1, h2⟩ := hgo
      have d1 : decide (i ≤ s.size) = true := decide_eq_true h1
      have d1I : decide ((i : Int) ≤ s.size) = true := decide_eq_true (by omega)
      have d2 : decide ((n : Int) < most) = true := decide_eq_true h2
      have HSR := hid (search_rel s hp (s.size + 1 - i) i st')
      go_wp2_with fail
      refine (search_any i hs (by omega) hcp HM.out.len hdn hwf h1 hst' HM.out).mono ?_
      rintro e w2 ⟨hk2, hcases⟩
      have hsz2 := hk2.size
      have HO2 := hid (own_keeps HO.out hk2 (Nat.le_refl _) (fun k h3 h4 => own_ne_blk HO.out HMB.out (by decide) (by simp only [List.mem_singleton] at h4; rw [h3, h4])))
      have HROWS2 : Hid (∀ x ∈ fs, MtRow w2 w.heap.size x.2.1 x.1.caps ∧ MtOk s P.caps x.1) := hid (fun x hx => ⟨(HROWS.out x hx).1.keeps hk2 (Nat.le_refl _) (fun k hk => by simp only [List.mem_singleton] at hk; subst hk; exact ⟨_, _, _, HMB.out, by decide⟩) (Nat.le_refl _), (HROWS.out x hx).2⟩)
      have HK2 := hid (HK.out.andThen hk2 HK.out.size (fun k h _ => h))
      clear hk2 c0
      rcases hcases with ⟨hR0, st2, hM2, hs1, hs2, rfl⟩ | ⟨st2, hR0, hM2, hs1, rfl⟩ | ⟨st2, a, e2, cf, v, hR0, hM2, hs1, ha1, he1, hcr, rfl⟩
      · have HEND : Hid (R = none) := hid (by
          have hr := HSR.out
          rw [hR0] at hr
          obtain ⟨fu', rfl⟩ : ∃ x, fu = x + 1 := ⟨fu - 1, by have := HG.out.1; omega⟩
          generalize hq : searchP s true P.start (fun _ => false) P.items (s.size + 1 - i) i st' = q at hr
          cases hr
          rw [HG.out.2, al_none (by omega) hq]; rfl)
        have HM2 := hid (hM2.off (S := []) ((Keeps.refl _ _ _).alloc (Nat.le_refl _) (.cells #[.int .i64 0, .int .i64 0, .slice none 0 0] 32)) (by simp))
        clear hR0 hM2
        go_wp2_with fail
        go_ret
        exact ⟨HK2.out.alloc HK2.out.size _, fs, ao, cap, st2, by rw [← HNL.out]; rfl, HM2.out, by omega, by have := HNL.out; omega, by rw [← HNL.out]; exact HO2.out.alloc _, fun x hx => ⟨(HROWS2.out x hx).1.keeps (S := []) ((Keeps.refl _ _ _).alloc (Nat.le_refl _) _) (Nat.le_refl _) (by simp) (Nat.le_refl _), (HROWS2.out x hx).2⟩, Or.inl ⟨HEND.out, hs1⟩⟩
      · have HEND : Hid (R = some (st2, fs.map Prod.fst)) := hid (by
          have hr := HSR.out
          rw [hR0] at hr
          obtain ⟨fu', rfl⟩ : ∃ x, fu = x + 1 := ⟨fu - 1, by have := HG.out.1; omega⟩
          generalize hq : searchP s true P.start (fun _ => false) P.items (s.size + 1 - i) i st' = q at hr
          cases hr
          rw [HG.out.2, al_stop (by omega) hq]
          simp [aheadM])
        have HM2 := hid (hM2.off (S := []) ((Keeps.refl _ _ _).alloc (Nat.le_refl _) (.cells #[.int .i64 0, .int .i64 0, .slice none 0 0] 32)) (by simp))
        clear hR0 hM2
        go_wp2_with fail
        go_ret
        exact ⟨HK2.out.alloc HK2.out.size _, fs, ao, cap, st2, by rw [← HNL.out]; rfl, HM2.out, by omega, by have := HNL.out; omega, by rw [← HNL.out]; exact HO2.out.alloc _, fun x hx => ⟨(HROWS2.out x hx).1.keeps (S := []) ((Keeps.refl _ _ _).alloc (Nat.le_refl _) _) (Nat.le_refl _) (by simp) (Nat.le_refl _), (HROWS2.out x hx).2⟩, Or.inr ⟨hs1, HEND.out⟩⟩
      · obtain ⟨fu', rfl⟩ : ∃ x, fu = x + 1 := ⟨fu - 1, by have := HG.out.1; omega⟩
        obtain ⟨ct, hq, hsame⟩ : ∃ ct, searchP s true P.start (fun _ => false) P.items (s.size + 1 - i) i st' = some (st2, some (a, e2, ct)) ∧ CapSame (placesOf P.items) P.caps ct cf := by
          have hr := HSR.out
          rw [hR0] at hr
          generalize hq : searchP s true P.start (fun _ => false) P.items (s.size + 1 - i) i st' = q at hr
          cases hr with
          | hit _ _ _ h => exact ⟨_, rfl, h⟩
        obtain ⟨av, cv, rfl⟩ := own_form hcr
        obtain ⟨hmok, hia⟩ := mt_ok hp hq
        have hae := hmok.ae
        dsimp only at hae
        have HGN : Hid (s.size < fu' + (if e2 = a then e2 + 1 else e2) ∧ R = aheadM (fs.map Prod.fst ++ [⟨a, e2, viewI P.caps ct⟩]) (allP s P fu' (if e2 = a then e2 + 1 else e2) (most - n - 1) st2)) := hid ⟨by
          have := HG.out.1
          split <;> omega, by rw [HG.out.2, al_hit (by omega) hq, aheadM_cons]⟩
        obtain ⟨W, hW⟩ : ∃ W, W = w2.alloc (.cells #[.int .i64 a, .int .i64 e2, .slice av P.caps cv] 32) := ⟨_, rfl⟩
        have hkW : Keeps w2.heap.size [] w2 W := by rw [hW]; exact (Keeps.refl _ _ _).alloc (Nat.le_refl _) _
        have hbW : W.heap[w2.heap.size]? = some (.cells #[.int .i64 a, .int .i64 e2, .slice av P.caps cv] 32 (0, 0)) := by rw [hW]; exact blk_new _ _
        have hWs : W.heap.size = w2.heap.size + 1 := by rw [hW, World.size_alloc]
        have HM3 := hid (hM2.off hkW (by simp))
        have HO3 := hid (own_keeps HO2.out hkW (Nat.le_refl _) (by simp))
        have HCR := hid ((mtRow_own hcr hsame).keeps (lo' := w.heap.size) hkW (Nat.le_refl _) (by simp) HK.out.size)
        have HROWS3 : Hid (∀ x ∈ fs, MtRow W w.heap.size x.2.1 x.1.caps ∧ MtOk s P.caps x.1) := hid (fun x hx => ⟨(HROWS2.out x hx).1.keeps hkW (Nat.le_refl _) (by simp) (Nat.le_refl _), (HROWS2.out x hx).2⟩)
        have HK3 := hid (HK2.out.andThen hkW HK2.out.size (by simp))
        have HW := hid hW
        have HQ := hid hq
        have HMO := hid hmok
        have HRN := hid hR0
        have HWS := hid hWs
        clear hR0 hM2 hW hkW hcr hq hmok hWs
        obtain ⟨f0, f1, f2⟩ := box_facts hbW
        have hes : (0 : Int) ≤ e2 ∧ (e2 : Int) ≤ 65536 := by omega
        go_upto_region 6 with fail
        rw [← HW.out]
        go_wp2_with (at_builtin; go_must (refine append_new (W := W) (us := [.int .i64 a, .int .i64 e2, .slice av P.caps cv]) rfl (.tmp 31) (.tmp 33) 40 rfl 32 rfl (.agg #[.int .i64 0, .int .i64 0, .slice none 0 0]) 3 40 Tryd.underlying40 info_found rfl (by decide) w.heap.size (.slice ao n cap) n (fCells fs) rfl HO3.out rfl rfl (by simp [Value.oneCell']) (by unfold maxLen; omega) (by omega) (by have := HK3.out.size; omega) ?_))
        intro ao' cap' w3 ho' hg' hn'
        have hrow : ∀ k, (Value.slice ao n cap).ownBlock = some k → w.heap.size ≤ k ∧ k < W.heap.size ∧ k ≠ m ∧ k ≠ w2.heap.size ∧ ∃ c t z, W.heap[k]? = some (.cells c t z) ∧ t ≠ 69 := fun k hk => by
          have h5 := HO3.out.lt k hk
          have h6 := HO2.out.lt k hk
          obtain ⟨_, _, _, _, _, _, hm3⟩ := HM3.out.blk
          refine ⟨h5.1, h5.2, fun e => own_ne_blk HO3.out hm3 (by decide) (e ▸ hk), by omega, ?_⟩
          rcases HO3.out.2 with ⟨h7, _⟩ | ⟨g, cap', cur, h7, _, h8, _⟩
          · rw [h7] at hk; cases hk
          · rw [h7] at hk
            simp only [Value.ownBlock, Option.some.injEq] at hk
            subst hk
            exact ⟨_, _, _, h8, by decide⟩
        have hkg : Keeps w.heap.size [] W w3 := (Keeps.refl _ _ _).grown hg' HK3.out.size (fun k hk => Or.inr (hrow k hk).1)
        have hb3 : w3.heap[w2.heap.size]? = some (.cells #[.int .i64 a, .int .i64 e2, .slice av P.caps cv] 32 (0, 0)) := (hg'.block _ (by have := HWS.out; omega) (fun e => (hrow _ e.symm).2.2.2.1 rfl)).trans hbW
        have HM4 : Hid (MS lo w3 m s vi pg P gs st2) := hid (ms_grown HM3.out HO3.out hg')
        have HK4 := hid (HK3.out.trans (hkg.mono (Nat.le_refl _) (by simp)) : Keeps w.heap.size [m] w w3)
        have HCR4 := hid (HCR.out.grown hg' (fun k hk => (hrow k hk).2.2.2.2))
        have HROWS4 : Hid (∀ x ∈ fs, MtRow w3 w.heap.size x.2.1 x.1.caps ∧ MtOk s P.caps x.1) := hid (fun x hx => ⟨(HROWS3.out x hx).1.grown hg' (fun k hk => (hrow k hk).2.2.2.2), (HROWS3.out x hx).2⟩)
        have HO4 : Hid (w3.ownsRow w.heap.size 32 3 (.slice ao' (n + 1) cap') (n + 1) (fCells (fs ++ [(⟨a, e2, viewI P.caps ct⟩, av, cv)]))) := hid (by
          rw [fCells_snoc]
          dsimp only
          rw [viewI_len]
          exact ho')
        clear ho' hg' hn' hrow hkg f0 f1 f2 hbW HM3 HK3 HCR HROWS3 HO3
        obtain ⟨f0, f1, f2⟩ := box_facts hb3
        have hR4 : Hid (∀ x ∈ fs ++ [((⟨a, e2, viewI P.caps ct⟩ : Mt), av, cv)], MtRow w3 w.heap.size x.2.1 x.1.caps ∧ MtOk s P.caps x.1) := hid (fun x hx => by
          rw [List.mem_append] at hx
          rcases hx with hx | hx
          · exact HROWS4.out x hx
          · simp only [List.mem_singleton] at hx
            subst hx
            exact ⟨HCR4.out, HMO.out⟩)
        by_cases hee : e2 = a
        · have z1 : ((e2 : Int) == (a : Int)) = true := by rw [hee]; simp
          have HEE := hid hee
          clear hee
          go_wp2_with fail
          go_roundw
          case rel =>
            refine ⟨fs ++ [(⟨a, e2, viewI P.caps ct⟩, av, cv)], ao', _, cap', e2 + 1, st2, fu', by go_num, by omega, rfl, by simp; exact HNL.out, HO4.out, hR4.out, HM4.out, hs1, HK4.out, by have := HNL.out; omega, hid ?_⟩
            have h5 := HGN.out
            rw [if_pos HEE.out] at h5
            refine ⟨h5.1, ?_⟩
            rw [h5.2, List.map_append, show most - ((n + 1 : Nat) : Int) = most - n - 1 by omega]
            rfl
          case measure => simp [intOf]; omega
        · have z1 : ((e2 : Int) == (a : Int)) = false := by simp; omega
          have HEE := hid hee
          clear hee
          go_wp2_with fail
          go_roundw
          case rel =>
            refine ⟨fs ++ [(⟨a, e2, viewI P.caps ct⟩, av, cv)], ao', _, cap', e2, st2, fu', by go_num, by omega, rfl, by simp; exact HNL.out, HO4.out, hR4.out, HM4.out, hs1, HK4.out, by have := HNL.out; have := HEE.out; omega, hid ?_⟩
            have h5 := HGN.out
            rw [if_neg HEE.out] at h5
            refine ⟨h5.1, ?_⟩
            rw [h5.2, List.map_append, show most - ((n + 1 : Nat) : Int) = most - n - 1 by omega]
            rfl
          case measure => have := HEE.out; simp [intOf]; omega
    · have hend : Hid (R = some (st', fs.map Prod.fst)) := hid (by
        rw [HG.out.2, al_end (by omega)]
        simp [aheadM])
      by_cases h1 : i ≤ s.size
      · have d1 : decide (i ≤ s.size) = true := decide_eq_true h1
        have d1I : decide ((i : Int) ≤ s.size) = true := decide_eq_true (by omega)
        have d2 : decide ((n : Int) < most) = false := decide_eq_false (fun h => hgo ⟨h1, h⟩)
        clear hgo
        go_wp2_with fail
        go_ret
        exact ⟨HK.out, fs, ao, cap, st', by rw [← HNL.out]; rfl, HM.out, by omega, by have := HNL.out; omega, by rw [← HNL.out]; exact HO.out, HROWS.out, Or.inr ⟨hst', hend.out⟩⟩
      · have d1 : decide (i ≤ s.size) = false := decide_eq_false h1
        have d1I : decide ((i : Int) ≤ s.size) = false := decide_eq_false (by omega)
        clear hgo
        go_wp2_with fail
        go_ret
        exact ⟨HK.out, fs, ao, cap, st', by rw [← HNL.out]; rfl, HM.out, by omega, by have := HNL.out; omega, by rw [← HNL.out]; exact HO.out, HROWS.out, Or.inr ⟨hst', hend.out⟩⟩
end
end Go.Proofs.YtpinoolagbghnaaDoor
