/-
  Plain law, no Go in sight: where a match of the program's ends, and that its captures lie in the subject.
  Plain law, no Go in sight: what Gsub is to answer: the matches, the whole text.
-/
import Derived.Test.YtpinoolagbghnaaDoorZMatK
import Derived.Test.YtpinoolagbghnaaDoorZRel
import Derived.Test.YtpinoolagbghnaaDoorZFillP
namespace Go.Proofs.YtpinoolagbghnaaDoor.Pat
set_option linter.unusedVariables false

/-- A matching that, where it hits, hits well. -/
def Hits (G : Nat → Cap → Prop) (a : Ans) : Prop := ∀ st e c, a = some (st, some (e, c)) → G e c

section
variable {s : ByteArray} {f : Nat → Bool} {G : Nat → Cap → Prop} {K : Nat → Nat → Cap → Ans} {c : Cap} {i : Nat}

theorem down_hits (hK : ∀ i' st', i ≤ i' → i' ≤ s.size → Hits G (K i' st' c)) : ∀ tries n st, i + n ≤ s.size → Hits G (down K i c tries n st) := by
  intro tries
  induction tries with
  | zero => intro n st hn st' e c' h; unfold down at h; simp at h
  | succ t ih =>
    intro n st hn st' e c' h
    unfold down at h
    have hk := hK (i + n) st (by omega) hn
    generalize K (i + n) st c = a at hk h
    match a, h with
    | some (st1, some r), h =>
      simp only [Option.some.injEq] at h
      exact hk _ _ _ (congrArg some h)
    | some (st1, none), h => exact ih (n - 1) st1 (by omega) _ _ _ h

theorem up_hits (hi0 : i ≤ s.size) (hK : ∀ i' st', i ≤ i' → i' ≤ s.size → Hits G (K i' st' c)) : ∀ fuel j st, i ≤ j → j ≤ s.size → Hits G (up s f K c fuel j st) := by
  intro fuel
  induction fuel with
  | zero => intro j st _ _ st' e c' h; unfold up at h; simp at h
  | succ t ih =>
    intro j st hj hjs st' e c' h
    unfold up at h
    have hk := hK j st hj hjs
    generalize K j st c = a at hk h
    match a, h with
    | some (st1, some r), h =>
      simp only [Option.some.injEq] at h
      exact hk _ _ _ (congrArg some h)
    | some (st1, none), h =>
      simp only [] at h
      split at h
      · rename_i hh
        split at h
        · cases h
        · exact ih (j + 1) _ (by omega) (has_lt hh) _ _ _ h
      · simp at h

theorem runLen_le : ∀ fuel i, i ≤ s.size → i + runLen s f fuel i ≤ s.size := by
  intro fuel
  induction fuel with
  | zero => intro i h; simpa [runLen] using h
  | succ t ih =>
    intro i h
    unfold runLen
    split
    · rename_i hh
      have := ih (i + 1) (has_lt hh)
      omega
    · omega

theorem bal_le {x y : Int} : ∀ fuel j n k m, bal s x y fuel j n = (k, some m) → j < m ∧ m ≤ s.size := by
  intro fuel
  induction fuel with
  | zero => intro j n k m h; simp [bal] at h
  | succ t ih =>
    intro j n k m h
    unfold bal at h
    split at h
    · simp at h
    · split at h
      · split at h
        · simp only [Prod.mk.injEq, Option.some.injEq] at h
          omega
        · simp only [Prod.mk.injEq] at h
          have := ih (j + 1) (n - 1) _ m (Prod.ext rfl h.2)
          omega
      · split at h
        · simp only [Prod.mk.injEq] at h
          have := ih (j + 1) (n + 1) _ m (Prod.ext rfl h.2)
          omega
        · simp only [Prod.mk.injEq] at h
          have := ih (j + 1) n _ m (Prod.ext rfl h.2)
          omega

theorem pass_hits {a : Ans} : Hits G a → Hits G (match a with | none => none | some (st', some r) => some (st', some r) | some (st', none) => some (st', none)) := by
  intro h st e c h1
  match a, h1, h with
  | some (_, some r), h1, h => exact h _ _ _ h1
  | some (_, none), h1, h => simp at h1

theorem stepIt_hits {places : Nat → Bool} {it : It} (hk : it.kind = 0 ∨ 5 ≤ it.kind) (hi : i ≤ s.size) (hK : ∀ i' st', i ≤ i' → i' ≤ s.size → Hits G (K i' st' c)) (st : Nat) : Hits G (stepIt s true places it K i st c) := by
  obtain ⟨kind, set, sign, n, x, y⟩ := it
  dsimp only at hk
  unfold stepIt
  dsimp only
  match kind, hk with
  | 0, _ =>
    simp only []
    split
    · split
      · rename_i hh
        exact hK _ _ (by omega) (has_lt hh)
      · intro _ _ _ h; simp at h
    · split
      · split
        · rename_i hh
          have h1 := hK (i + 1) st (by omega) (has_lt hh)
          generalize K (i + 1) st c = a at h1
          intro st2 e c2 h
          match a, h with
          | some (_, some r), h => exact h1 _ _ _ h
          | some (st3, none), h => exact hK i st3 (Nat.le_refl _) hi _ _ _ h
        · exact hK _ _ (Nat.le_refl _) hi
      · split
        · exact up_hits hi hK _ _ _ (Nat.le_refl _) hi
        · split
          · intro _ _ _ h; simp at h
          · exact down_hits hK _ _ _ (runLen_le _ _ hi)
  | 5, _ =>
    simp only []
    split
    · split
      · rename_i hb
        split
        · intro _ _ _ h; simp at h
        · have := bal_le _ _ _ _ _ hb
          exact hK _ _ (by omega) this.2
      · split <;> (intro _ _ _ h; simp at h)
    · intro _ _ _ h; simp at h
  | 6, _ =>
    simp only []
    by_cases hq : set (if 0 < i then bt s (i - 1) else 0).toNat = true ∨ set (bt s i).toNat = false
    · rw [if_pos hq]; intro _ _ _ h; simp at h
    · rw [if_neg hq]; exact hK _ _ (Nat.le_refl _) hi
  | k + 7, _ =>
    simp only []
    split
    · exact hK _ _ (Nat.le_refl _) hi
    · intro _ _ _ h; simp at h
  | 1, h | 2, h | 3, h | 4, h => omega
end

/-- What is known of the program's captures: besides, each begins in the subject. -/
def PGood (s : ByteArray) (dn : List Bool) (op : List Nat) (i : Nat) (c : Cap) : Prop := POk s dn op i c ∧ ∀ n, n < dn.length → c.frm n ≤ s.size
section
variable {s : ByteArray} {dn : List Bool} {op : List Nat} {it : It} {i : Nat} {c : Cap}
theorem PGood.mono {j : Nat} (h : PGood s dn op i c) (hij : i ≤ j) : PGood s dn op j c := ⟨h.1.mono hij, h.2⟩
theorem frm_push {b : Bool} {n : Nat} (h : ∀ n, n < dn.length → c.frm n ≤ s.size) (hn : n = dn.length) (hi : i ≤ s.size) : ∀ m, m < (dn ++ [b]).length → upd c.frm n i m ≤ s.size := fun m hm => by
  by_cases e : m = n
  · subst e; rw [upd_self]; exact hi
  · rw [upd_ne _ _ e]; exact h m (by simp at hm; omega)
theorem PGood.place (h : PGood s dn op i c) (hm : ∀ n ∈ op, n < dn.length) (hn : it.n = dn.length) (hi : i ≤ s.size) : PGood s (dn ++ [true]) op i ⟨upd c.pl it.n true, upd c.frm it.n i, upd c.to it.n i⟩ := ⟨h.1.place hm hn, frm_push h.2 hn hi⟩
theorem PGood.open_ (h : PGood s dn op i c) (hn : it.n = dn.length) (hi : i ≤ s.size) : PGood s (dn ++ [false]) (dn.length :: op) i ⟨upd c.pl it.n false, upd c.frm it.n i, upd c.to it.n i⟩ := ⟨h.1.open_ hn, frm_push h.2 hn hi⟩
theorem PGood.shut (h : PGood s dn (it.n :: op) i c) (hi : i ≤ s.size) : PGood s (dn.set it.n true) op i ⟨c.pl, c.frm, upd c.to it.n i⟩ := ⟨h.1.shut hi, fun n hn => h.2 n (by simpa using hn)⟩
end

/-- Where a match of well formed items ends: behind its begin, in the subject; its captures lie in the subject. -/
theorem try_hits {s : ByteArray} {places pt : Nat → Bool} {dn2 : List Bool} : ∀ {rest : List It} {dn : List Bool} {op : List Nat}, Wf dn op rest dn2 [] → Ctx places dn op rest →
    ∀ i st c, i ≤ s.size → PGood s dn op i c → Hits (fun e c' => i ≤ e ∧ e ≤ s.size ∧ PGood s dn2 [] e c') (tryP s true pt rest i st c) := by
  intro rest
  induction rest with
  | nil =>
    intro dn op hw hx i st c hi hc st' e c' h
    cases hw
    unfold tryP at h
    simp only [Option.some.injEq, Prod.mk.injEq] at h
    obtain ⟨_, rfl, rfl⟩ := h
    exact ⟨Nat.le_refl _, hi, hc⟩
  | cons it l ih =>
    intro dn op hw hx i st c hi hc
    cases hw with
    | cons h t =>
      have hx' := hx.next h t
      have hr : ∀ i' st' c', i ≤ i' → i' ≤ s.size → PGood s _ _ i' c' → Hits (fun e c' => i ≤ e ∧ e ≤ s.size ∧ PGood s dn2 [] e c') (tryP s true pt l i' st' c') := fun i' st' c' h1 h2 h3 st e c h4 => by
        have := ih t hx' i' st' c' h2 h3 st e c h4
        exact ⟨by omega, this.2⟩
      unfold tryP
      split
      · intro _ _ _ h; simp at h
      have hlt : ∀ m ∈ op, m < dn.length := fun m hm => (hx.mem m hm).1
      cases h with
      | place hk hn =>
        unfold stepIt
        rw [hk]
        simp only [if_true]
        exact pass_hits (hr _ _ _ (Nat.le_refl _) hi (hc.place hlt hn hi))
      | opn hk hn =>
        unfold stepIt
        rw [hk]
        simp only [if_true]
        exact pass_hits (hr _ _ _ (Nat.le_refl _) hi (hc.open_ hn hi))
      | shut hk =>
        unfold stepIt
        rw [hk]
        simp only []
        exact pass_hits (hr _ _ _ (Nat.le_refl _) hi (hc.shut hi))
      | back hk hd =>
        unfold stepIt
        rw [hk]
        simp only [if_true]
        split
        · intro _ _ _ h; simp at h
        · rename_i hp
          have hf := hc.1.done _ hd (by simpa using hp)
          split
          · rename_i hst
            unfold standsAt at hst
            simp only [Bool.and_eq_true, decide_eq_true_eq] at hst
            exact hr _ _ _ (by omega) hst.1 (hc.mono (by omega))
          · intro _ _ _ h; simp at h
      | other hk h7 => exact stepIt_hits hk hi (fun i' st' h1 h2 => hr i' st' c h1 h2 (hc.mono h1)) _

/-- What is known of the first match that a search finds. -/
theorem search_hits {p : ByteArray} {P : Pt} {s : ByteArray} (h : parse p = some P) : ∀ fuel i st st' a e c, searchP s true P.start (fun _ => false) P.items fuel i st = some (st', some (a, e, c)) →
    i ≤ a ∧ a ≤ e ∧ e ≤ s.size ∧ (∀ k, k < P.caps → c.pl k = false → c.frm k ≤ c.to k ∧ c.to k ≤ s.size) ∧ ∀ k, k < P.caps → c.frm k ≤ s.size := by
  obtain ⟨dn2, hwf, hdn, _⟩ := parse_wf h
  have hcl := hwf.closed (by simp)
  have hx : Ctx (placesOf P.items) [] [] P.items := ⟨fun n _ => rfl, by simp, List.nodup_nil⟩
  intro fuel
  induction fuel with
  | zero => intro i st st' a e c hs; simp [searchP] at hs
  | succ n ih =>
    intro i st st' a e c hs
    unfold searchP at hs
    split at hs
    · simp at hs
    · rename_i hi
      have ht := try_hits (s := s) (pt := fun _ => false) hwf hx i st Cap.zero (by omega) ⟨POk.zero _ _, fun n h => absurd h (by simp)⟩
      generalize tryP s true (fun _ => false) P.items i st Cap.zero = A at hs ht
      match A, hs with
      | some (st1, some (e1, c1)), hs =>
        simp only [Option.some.injEq, Prod.mk.injEq] at hs
        obtain ⟨_, rfl, rfl, rfl⟩ := hs
        obtain ⟨h1, h2, h3⟩ := ht _ _ _ rfl
        exact ⟨Nat.le_refl _, h1, h2, fun k hk hp => h3.1.done k ((hcl k (by omega)).resolve_right (by simp)) hp, fun k hk => h3.2 k (by omega)⟩
      | some (st1, none), hs =>
        simp only [] at hs
        split at hs
        · simp at hs
        · have := ih _ _ _ _ _ _ hs
          exact ⟨by omega, this.2⟩
end Go.Proofs.YtpinoolagbghnaaDoor.Pat

namespace Go.Proofs.YtpinoolagbghnaaDoor.Pat
set_option linter.unusedVariables false

/-- The program's captures, and the reference's, as plain data. -/
def viewI (n : Nat) (c : Cap) : List (Bool × Nat × Nat) := (List.range n).map fun k => (c.pl k, c.frm k, c.to k)
def viewS (pl : Nat → Bool) (n : Nat) (c : Cap) : List (Bool × Nat × Nat) := (List.range n).map fun k => (pl k, c.frm k, if pl k then c.frm k else c.to k)
theorem view_same {pl : Nat → Bool} {n : Nat} {t f : Cap} (h : CapSame pl n t f) : viewI n t = viewS pl n f := by
  unfold viewI viewS
  refine List.map_congr_left fun k hk => ?_
  obtain ⟨h1, h2, h3⟩ := h k (List.mem_range.1 hk)
  rw [h1, h2, h3]
theorem viewI_len (n : Nat) (c : Cap) : (viewI n c).length = n := by simp [viewI]
theorem viewI_at {n k : Nat} (c : Cap) (h : k < n) : (viewI n c)[k]? = some (c.pl k, c.frm k, c.to k) := by simp [viewI, h]

/-- The matches from a place on, at most so many: none: too many steps. -/
def allP (s : ByteArray) (P : Pt) : Nat → Nat → Int → Nat → Option (Nat × List Mt)
  | 0, _, _, st => some (st, [])
  | fuel + 1, i, most, st =>
    if s.size < i ∨ most ≤ 0 then some (st, [])
    else match searchP s true P.start (fun _ => false) P.items (s.size + 1 - i) i st with
      | none => none
      | some (st', none) => some (st', [])
      | some (st', some (a, e, c)) =>
        match allP s P fuel (if e = a then e + 1 else e) (most - 1) st' with
        | none => none
        | some (st2, l) => some (st2, ⟨a, e, viewI P.caps c⟩ :: l)

/-- What Gsub is to answer: the text, how many, the code. -/
def gsubP (s p r : ByteArray) (most : Int) : List UInt8 × Nat × Nat :=
  if 65536 < s.size then ([], 0, 1) else match parse p with
    | none => ([], 0, 2)
    | some P =>
      if okP r P.caps (r.size + 1) 0 = false then ([], 0, 5)
      else match allP s P (s.size + 1) 0 most 0 with
        | none => ([], 0, 4)
        | some (_, l) => if 65536 < (fullP s r P.caps 0 l).length then ([], 0, 6) else (fullP s r P.caps 0 l, l.length, 0)

section
variable {s r : ByteArray} {caps k fuel : Nat} {m : Mt} {P : Pt}
theorem mt_ok {p : ByteArray} {st' i st a e : Nat} {c : Cap} {fuel : Nat} (h : parse p = some P) (hs : searchP s true P.start (fun _ => false) P.items fuel i st = some (st', some (a, e, c))) : MtOk s P.caps ⟨a, e, viewI P.caps c⟩ ∧ i ≤ a := by
  obtain ⟨h1, h2, h3, h4, h5⟩ := search_hits h _ _ _ _ _ _ _ hs
  have hget : ∀ (k : Nat) (b : Bool) (f t : Nat), (viewI P.caps c)[k]? = some (b, f, t) → k < P.caps ∧ b = c.pl k ∧ f = c.frm k ∧ t = c.to k := fun k b f t hg => by
    have hlt : k < P.caps := by
      have := (List.getElem?_eq_some_iff.1 hg).1
      rwa [viewI_len] at this
    rw [viewI_at c hlt] at hg
    simp only [Option.some.injEq, Prod.mk.injEq] at hg
    exact ⟨hlt, hg.1.symm, hg.2.1.symm, hg.2.2.symm⟩
  refine ⟨⟨h2, h3, viewI_len _ _, fun k b f t hg => ?_, fun k b f t hg hb => ?_⟩, h1⟩
  · obtain ⟨x, rfl, rfl, rfl⟩ := hget k b f t hg
    exact h5 k x
  · obtain ⟨x, rfl, rfl, rfl⟩ := hget k b f t hg
    exact h4 k x hb


/-- Each match begins where the one before it ended, or later. -/
def chainP : Nat → List Mt → Prop
  | _, [] => True
  | i, m :: l => i ≤ m.a ∧ chainP m.e l
theorem chain_mono {i j : Nat} {l : List Mt} (hij : i ≤ j) (h : chainP j l) : chainP i l := by
  cases l with
  | nil => trivial
  | cons m l => exact ⟨Nat.le_trans hij h.1, h.2⟩
theorem al_chain {p : ByteArray} (hp : parse p = some P) : ∀ fu i most st st' l, allP s P fu i most st = some (st', l) → chainP i l := by
  intro fu
  induction fu with
  | zero =>
    intro i most st st' l h
    simp only [allP, Option.some.injEq, Prod.mk.injEq] at h
    rw [← h.2]; trivial
  | succ n ih =>
    intro i most st st' l h
    unfold allP at h
    split at h
    · simp only [Option.some.injEq, Prod.mk.injEq] at h
      rw [← h.2]; trivial
    · generalize hq : searchP s true P.start (fun _ => false) P.items (s.size + 1 - i) i st = q at h
      match q, h, hq with
      | none, h, hq => cases h
      | some (st1, none), h, hq =>
        simp only [Option.some.injEq, Prod.mk.injEq] at h
        rw [← h.2]; trivial
      | some (st1, some (a, e, c)), h, hq =>
        simp only [] at h
        obtain ⟨hm, hi⟩ := mt_ok hp hq
        generalize hA : allP s P n (if e = a then e + 1 else e) (most - 1) st1 = A at h
        match A, h, hA with
        | none, h, hA => cases h
        | some (st2, l2), h, hA =>
          simp only [Option.some.injEq, Prod.mk.injEq] at h
          rw [← h.2]
          exact ⟨hi, chain_mono (by dsimp only; split <;> omega) (ih _ _ _ _ _ hA)⟩
end
end Go.Proofs.YtpinoolagbghnaaDoor.Pat
