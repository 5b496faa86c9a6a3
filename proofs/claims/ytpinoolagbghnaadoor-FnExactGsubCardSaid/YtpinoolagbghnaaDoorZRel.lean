/-
  Plain law, no Go in sight: the items of a pattern that parse reads are well formed: captures are opened in order, shut innermost first, a back item names a shut capture.
  Plain law, no Go in sight: the program's way of noting captures and the reference's come to the same matches for the items of a parsed pattern.
  Plain law, no Go in sight: the program's search and the reference's come to the same match with the same captures.
-/
import Derived.Test.YtpinoolagbghnaaDoorZReadP
import Derived.Test.YtpinoolagbghnaaDoorZMat
namespace Go.Proofs.YtpinoolagbghnaaDoor.Pat
set_option linter.unusedVariables false

/-- What one item does to the captures: which are done, which are open. -/
inductive WfIt : List Bool → List Nat → It → List Bool → List Nat → Prop
  | place {dn : List Bool} {op : List Nat} {it : It} (hk : it.kind = 1) (hn : it.n = dn.length) : WfIt dn op it (dn ++ [true]) op
  | opn {dn : List Bool} {op : List Nat} {it : It} (hk : it.kind = 2) (hn : it.n = dn.length) : WfIt dn op it (dn ++ [false]) (dn.length :: op)
  | shut {dn : List Bool} {op : List Nat} {it : It} (hk : it.kind = 3) : WfIt dn (it.n :: op) it (dn.set it.n true) op
  | back {dn : List Bool} {op : List Nat} {it : It} (hk : it.kind = 4) (hd : dn.getD it.n false = true) : WfIt dn op it dn op
  | other {dn : List Bool} {op : List Nat} {it : It} (hk : it.kind = 0 ∨ 5 ≤ it.kind) (h7 : it.kind ≤ 7) : WfIt dn op it dn op

/-- A list of items from a state of the captures to another. -/
inductive Wf : List Bool → List Nat → List It → List Bool → List Nat → Prop
  | nil (dn : List Bool) (op : List Nat) : Wf dn op [] dn op
  | cons {dn dn' dn2 : List Bool} {op op' op2 : List Nat} {it : It} {l : List It} (h : WfIt dn op it dn' op') (t : Wf dn' op' l dn2 op2) : Wf dn op (it :: l) dn2 op2

theorem itemAt_wf {p : ByteArray} {r r' : Rd} {it : It} (h : itemAt p r = some (it, r')) : WfIt r.done r.opened it r'.done r'.opened := by
  unfold itemAt at h
  simp only [] at h
  split at h
  · split at h
    all_goals
      simp only [Option.some.injEq, Prod.mk.injEq] at h
      obtain ⟨rfl, rfl⟩ := h
    · exact .place rfl rfl
    · exact .opn rfl rfl
  · split at h
    · split at h
      · cases h
      · rename_i n rest ho
        simp only [Option.some.injEq, Prod.mk.injEq] at h
        obtain ⟨rfl, rfl⟩ := h
        rw [ho]
        exact .shut (it := { kind := 3, n := n }) rfl
    · split at h
      · split at h
        · cases h
        · rename_i hb
          simp only [Option.some.injEq, Prod.mk.injEq] at h
          obtain ⟨rfl, rfl⟩ := h
          rw [not_or] at hb
          exact .back rfl (by simpa using hb.2)
      · split at h
        · split at h
          · simp only [Option.some.injEq, Prod.mk.injEq] at h
            obtain ⟨rfl, rfl⟩ := h
            exact .other (Or.inr (by simp)) (by simp)
          · cases h
        · split at h
          · split at h
            · split at h
              · cases h
              · simp only [Option.some.injEq, Prod.mk.injEq] at h
                obtain ⟨rfl, rfl⟩ := h
                exact .other (Or.inr (by simp)) (by simp)
            · cases h
          · split at h
            · simp only [Option.some.injEq, Prod.mk.injEq] at h
              obtain ⟨rfl, rfl⟩ := h
              exact .other (Or.inr (by simp)) (by simp)
            · split at h
              · cases h
              · split at h
                all_goals
                  simp only [Option.some.injEq, Prod.mk.injEq] at h
                  obtain ⟨rfl, rfl⟩ := h
                  exact .other (Or.inl rfl) (by simp)

theorem itemsGo_wf {p : ByteArray} : ∀ {fuel : Nat} {r r2 : Rd} {l l2 : List It}, itemsGo p fuel r l = some (l2, r2) → ∃ l1, l2 = l ++ l1 ∧ Wf r.done r.opened l1 r2.done r2.opened := by
  intro fuel
  induction fuel with
  | zero =>
    intro r r2 l l2 hg
    by_cases h0 : p.size ≤ r.i
    · rw [itemsGo_end h0] at hg
      simp only [Option.some.injEq, Prod.mk.injEq] at hg
      obtain ⟨rfl, rfl⟩ := hg
      exact ⟨[], by simp, .nil _ _⟩
    · have : itemsGo p 0 r l = none := by show (if p.size ≤ r.i then _ else _) = _; rw [if_neg h0]
      rw [this] at hg; cases hg
  | succ n ih =>
    intro r r2 l l2 hg
    by_cases h0 : p.size ≤ r.i
    · rw [itemsGo_end h0] at hg
      simp only [Option.some.injEq, Prod.mk.injEq] at hg
      obtain ⟨rfl, rfl⟩ := hg
      exact ⟨[], by simp, .nil _ _⟩
    · cases hi : itemAt p r with
      | none => rw [itemsGo_bad (by omega) hi] at hg; cases hg
      | some x =>
        obtain ⟨it, r'⟩ := x
        rw [itemsGo_next (by omega) hi] at hg
        obtain ⟨l1, h1, h2⟩ := ih hg
        exact ⟨it :: l1, by rw [h1]; simp, .cons (itemAt_wf hi) h2⟩

/-- What a parsed pattern is. -/
theorem parse_wf {p : ByteArray} {P : Pt} (h : parse p = some P) : ∃ dn, Wf [] [] P.items dn [] ∧ dn.length = P.caps ∧ P.caps ≤ 16 ∧ P.start = startOf p ∧ P.items.length ≤ p.size ∧ p.size ≤ 200 := by
  unfold parse at h
  split at h
  · cases h
  · rename_i hp
    split at h
    · cases h
    · rename_i l r hg
      split at h
      · cases h
      · rename_i hb
        rw [not_or] at hb
        simp only [Option.some.injEq] at h
        subst h
        obtain ⟨l1, h1, h2⟩ := itemsGo_wf hg
        have ho : r.opened = [] := by
          have := hb.1
          cases hr : r.opened with
          | nil => rfl
          | cons a b => rw [hr] at this; exact absurd (by simp) this
        rw [ho] at h2
        simp only [List.nil_append] at h1
        subst h1
        refine ⟨r.done, h2, rfl, by have := hb.2; dsimp only; omega, rfl, ?_, by omega⟩
        have := itemsGo_ind (p := p) (fun r l => l.length ≤ r.i ∧ l.length ≤ p.size) (fun r l it r' h1 h2 h3 => by
          have := (itemAt_ok h3).i
          simp only [List.length_append, List.length_singleton]
          omega) (by simp) hg
        exact this.2
end Go.Proofs.YtpinoolagbghnaaDoor.Pat

namespace Go.Proofs.YtpinoolagbghnaaDoor.Pat
set_option linter.unusedVariables false

inductive AnsRel (R : Cap → Cap → Prop) : Ans → Ans → Prop
  | spent : AnsRel R none none
  | fail (st : Nat) : AnsRel R (some (st, none)) (some (st, none))
  | hit (st e : Nat) {c c' : Cap} (h : R c c') : AnsRel R (some (st, some (e, c))) (some (st, some (e, c')))

/-- The program's captures t and the reference's f tell the same of the captures that are done or open. -/
structure CapRel (places : Nat → Bool) (dn : List Bool) (op : List Nat) (t f : Cap) : Prop where
  done : ∀ n, dn.getD n false = true → t.pl n = places n ∧ t.frm n = f.frm n ∧ (places n = false → t.to n = f.to n) ∧ (places n = true → t.to n = t.frm n)
  opn : ∀ n ∈ op, places n = false ∧ t.pl n = false ∧ t.frm n = f.frm n

theorem down_rel {R0 R : Cap → Cap → Prop} {kt kf : Nat → Nat → Cap → Ans} (hk : ∀ i st ct cf, R0 ct cf → AnsRel R (kt i st ct) (kf i st cf)) {ct cf : Cap} (hc : R0 ct cf) (i : Nat) :
    ∀ tries n st, AnsRel R (down kt i ct tries n st) (down kf i cf tries n st) := by
  intro tries
  induction tries with
  | zero => intro n st; exact .fail st
  | succ m ih =>
    intro n st
    unfold down
    have := hk (i + n) st ct cf hc
    generalize kt (i + n) st ct = a at this
    generalize kf (i + n) st cf = b at this
    cases this with
    | spent => exact .spent
    | fail st' => exact ih (n - 1) st'
    | hit st' e h => exact .hit st' e h

theorem up_rel {s : ByteArray} {g : Nat → Bool} {R0 R : Cap → Cap → Prop} {kt kf : Nat → Nat → Cap → Ans} (hk : ∀ i st ct cf, R0 ct cf → AnsRel R (kt i st ct) (kf i st cf)) {ct cf : Cap} (hc : R0 ct cf) :
    ∀ fuel i st, AnsRel R (up s g kt ct fuel i st) (up s g kf cf fuel i st) := by
  intro fuel
  induction fuel with
  | zero => intro i st; exact .fail st
  | succ m ih =>
    intro i st
    unfold up
    have := hk i st ct cf hc
    generalize kt i st ct = a at this
    generalize kf i st cf = b at this
    cases this with
    | spent => exact .spent
    | fail st' =>
      simp only []
      split
      · split
        · exact .spent
        · exact ih _ _
      · exact .fail _
    | hit st' e h => exact .hit st' e h

/-- A matching that passes its answer on. -/
theorem pass_rel {R : Cap → Cap → Prop} {a b : Ans} : AnsRel R a b →
    AnsRel R (match a with | none => none | some (st', some r) => some (st', some r) | some (st', none) => some (st', none)) (match b with | none => none | some (st', some r) => some (st', some r) | some (st', none) => some (st', none)) := by
  intro h
  cases h with
  | spent => exact .spent
  | fail st => exact .fail st
  | hit st e h => exact .hit st e h

/-- The items that do not touch captures. -/
theorem stepIt_other {s : ByteArray} {pt pf : Nat → Bool} {it : It} (hk : it.kind = 0 ∨ 5 ≤ it.kind) {R0 R : Cap → Cap → Prop} {kt kf : Nat → Nat → Cap → Ans} (hr : ∀ i st ct cf, R0 ct cf → AnsRel R (kt i st ct) (kf i st cf)) {ct cf : Cap} (hc : R0 ct cf) (i st : Nat) :
    AnsRel R (stepIt s true pt it kt i st ct) (stepIt s false pf it kf i st cf) := by
  obtain ⟨kind, set, sign, n, x, y⟩ := it
  dsimp only at hk
  unfold stepIt
  dsimp only
  match kind, hk with
  | 0, _ =>
    simp only []
    split
    · split
      · exact hr _ _ _ _ hc
      · exact .fail _
    · split
      · split
        · have := hr (i + 1) st ct cf hc
          generalize kt (i + 1) st ct = a at this
          generalize kf (i + 1) st cf = b at this
          cases this with
          | spent => exact .spent
          | fail st' => exact hr _ _ _ _ hc
          | hit st' e h => exact .hit st' e h
        · exact hr _ _ _ _ hc
      · split
        · exact up_rel hr hc _ _ _
        · split
          · exact .spent
          · exact down_rel hr hc _ _ _ _
  | 5, _ =>
    simp only []
    split
    · split
      · split
        · exact .spent
        · exact hr _ _ _ _ hc
      · split
        · exact .spent
        · exact .fail _
    · exact .fail _
  | 6, _ =>
    simp only []
    by_cases hq : set (if 0 < i then bt s (i - 1) else 0).toNat = true ∨ set (bt s i).toNat = false
    · rw [if_pos hq, if_pos hq]; exact .fail _
    · rw [if_neg hq, if_neg hq]; exact hr _ _ _ _ hc
  | k + 7, _ =>
    simp only []
    split
    · exact hr _ _ _ _ hc
    · exact .fail _
  | 1, h | 2, h | 3, h | 4, h => omega

/-- What the places of the whole pattern are, as far as the rest tells: those that are still to come. -/
structure Ctx (places : Nat → Bool) (dn : List Bool) (op : List Nat) (rest : List It) : Prop where
  rest : ∀ n, dn.length ≤ n → places n = placesOf rest n
  mem : ∀ n ∈ op, n < dn.length ∧ dn.getD n false = false
  nd : op.Nodup

theorem getD_lt {l : List Bool} {n : Nat} (h : l.getD n false = true) : n < l.length := by
  apply Nat.lt_of_not_le
  intro hle
  rw [List.getD_eq_getElem?_getD, List.getElem?_eq_none hle] at h
  cases h
theorem getD_push {l : List Bool} {b : Bool} {n : Nat} (h : n ≠ l.length) : (l ++ [b]).getD n false = l.getD n false := by
  rw [List.getD_eq_getElem?_getD, List.getD_eq_getElem?_getD]
  by_cases hlt : n < l.length
  · rw [List.getElem?_append_left hlt]
  · rw [List.getElem?_append_right (by omega), List.getElem?_eq_none (l := l) (by omega), List.getElem?_eq_none (by simp; omega)]
theorem getD_pushed {l : List Bool} {b : Bool} : (l ++ [b]).getD l.length false = b := by simp [List.getD_eq_getElem?_getD]
theorem getD_set {l : List Bool} {n m : Nat} (h : n ≠ m) : (l.set m true).getD n false = l.getD n false := by
  rw [List.getD_eq_getElem?_getD, List.getD_eq_getElem?_getD, List.getElem?_set_ne (Ne.symm h)]
theorem getD_setted {l : List Bool} {m : Nat} (h : m < l.length) : (l.set m true).getD m false = true := by
  rw [List.getD_eq_getElem?_getD, List.getElem?_set_self h]; rfl
theorem WfIt.le {dn dn' : List Bool} {op op' : List Nat} {it : It} (h : WfIt dn op it dn' op') : dn.length ≤ dn'.length := by
  cases h with
  | place hk hne => simp
  | opn hk hne => simp
  | shut hk => simp
  | back hk hd => exact Nat.le_refl _
  | other hk h7 => exact Nat.le_refl _
theorem WfIt.no_place {dn dn' : List Bool} {op op' : List Nat} {it : It} (h : WfIt dn op it dn' op') (n : Nat) (hn : n < dn.length) : ¬ (it.kind = 1 ∧ it.n = n) := by
  rintro ⟨h1, h2⟩
  cases h <;> omega
/-- No later item is a place of a capture that has been begun. -/
theorem Wf.later {dn dn' : List Bool} {op op' : List Nat} {l : List It} (h : Wf dn op l dn' op') : ∀ n, n < dn.length → placesOf l n = false := by
  induction h with
  | nil => intro n hn; rfl
  | cons h t ih =>
    intro n hn
    have hl := ih n (Nat.lt_of_lt_of_le hn h.le)
    have hk : ¬ (_ = 1 ∧ _ = n) := h.no_place n hn
    unfold placesOf at hl ⊢
    rw [List.any_cons, hl, Bool.or_false]
    rw [← Bool.decide_and]
    exact decide_eq_false hk
theorem Ctx.rest_lt {places : Nat → Bool} {dn dn' : List Bool} {op op' : List Nat} {it : It} {l : List It} (h' : Ctx places dn' op' l) (h : Ctx places dn op (it :: l)) {n : Nat} (hn : dn.length ≤ n) (hk : it.kind = 2) : places n = placesOf l n := by
  rw [h.rest n hn]; unfold placesOf; rw [List.any_cons, decide_eq_false (p := it.kind = 1) (by omega), Bool.false_and, Bool.false_or]
theorem Ctx.next {places : Nat → Bool} {dn dn' dn2 : List Bool} {op op' op2 : List Nat} {it : It} {l : List It} (h : Ctx places dn op (it :: l)) (hw : WfIt dn op it dn' op') (ht : Wf dn' op' l dn2 op2) : Ctx places dn' op' l := by
  have hp : ∀ n, dn.length ≤ n → it.kind ≠ 1 → places n = placesOf l n := fun n hn hk => by
    rw [h.rest n hn]; unfold placesOf; rw [List.any_cons, decide_eq_false hk, Bool.false_and, Bool.false_or]
  cases hw with
  | place hk hn =>
    refine ⟨fun n hl => ?_, fun n hm => ?_, h.nd⟩
    · rw [List.length_append] at hl
      simp only [List.length_singleton] at hl
      rw [h.rest n (by omega)]; unfold placesOf; rw [List.any_cons, decide_eq_false (p := it.n = n) (by omega), Bool.and_false, Bool.false_or]
    · have := h.mem n hm
      exact ⟨by simp; omega, by rw [getD_push (by omega)]; exact this.2⟩
  | opn hk hn =>
    refine ⟨fun n hl => hp n (by simp at hl; omega) (by omega), fun n hm => ?_, ?_⟩
    · simp only [List.mem_cons] at hm
      rcases hm with rfl | hm
      · exact ⟨by simp, getD_pushed⟩
      · have := h.mem n hm
        exact ⟨by simp; omega, by rw [getD_push (by omega)]; exact this.2⟩
    · refine List.nodup_cons.2 ⟨fun hm => ?_, h.nd⟩
      have := (h.mem _ hm).1
      omega
  | shut hk =>
    have hnd := List.nodup_cons.1 h.nd
    refine ⟨fun n hl => hp n (by simpa using hl) (by omega), fun n hm => ?_, hnd.2⟩
    have := h.mem n (by simp [hm])
    have hne : n ≠ it.n := fun e => hnd.1 (e ▸ hm)
    exact ⟨by simpa using this.1, by rw [getD_set hne]; exact this.2⟩
  | back hk hd => exact ⟨fun n hl => hp n hl (by omega), h.mem, h.nd⟩
  | other hk h7 => exact ⟨fun n hl => hp n hl (by omega), h.mem, h.nd⟩

theorem upd_self {α : Type} (f : Nat → α) (n : Nat) (v : α) : upd f n v n = v := by simp [upd]
theorem upd_ne {α : Type} (f : Nat → α) {n m : Nat} (v : α) (h : m ≠ n) : upd f n v m = f m := by simp [upd, h]

theorem CapRel.place {places : Nat → Bool} {dn : List Bool} {op : List Nat} {t f : Cap} {n i : Nat} (h : CapRel places dn op t f) (hn : n = dn.length) (hop : ∀ m ∈ op, m < dn.length) (hp : places n = true) :
    CapRel places (dn ++ [true]) op ⟨upd t.pl n true, upd t.frm n i, upd t.to n i⟩ ⟨f.pl, upd f.frm n i, f.to⟩ := by
  refine ⟨fun m hm => ?_, fun m hm => ?_⟩
  · by_cases hmn : m = n
    · subst hmn
      dsimp only
      rw [upd_self, upd_self, upd_self, upd_self]
      exact ⟨hp.symm, rfl, fun h => (by rw [hp] at h; cases h), fun _ => rfl⟩
    · simp only [upd_ne _ _ hmn]
      rw [getD_push (by omega)] at hm
      exact h.done m hm
  · have hmn : m ≠ n := by have := hop m hm; omega
    simp only [upd_ne _ _ hmn]
    exact h.opn m hm
theorem CapRel.open_ {places : Nat → Bool} {dn : List Bool} {op : List Nat} {t f : Cap} {n i : Nat} (h : CapRel places dn op t f) (hn : n = dn.length) (hop : ∀ m ∈ op, m < dn.length) (hp : places n = false) :
    CapRel places (dn ++ [false]) (dn.length :: op) ⟨upd t.pl n false, upd t.frm n i, upd t.to n i⟩ ⟨f.pl, upd f.frm n i, f.to⟩ := by
  refine ⟨fun m hm => ?_, fun m hm => ?_⟩
  · by_cases hmn : m = n
    · subst hmn
      rw [hn, getD_pushed] at hm
      cases hm
    · simp only [upd_ne _ _ hmn]
      rw [getD_push (by omega)] at hm
      exact h.done m hm
  · by_cases hmn : m = n
    · subst hmn
      dsimp only
      rw [upd_self, upd_self, upd_self]
      exact ⟨hp, rfl, rfl⟩
    · simp only [upd_ne _ _ hmn]
      simp only [List.mem_cons] at hm
      rcases hm with hm | hm
      · exact absurd (hm.trans hn.symm) hmn
      · exact h.opn m hm
theorem CapRel.shut {places : Nat → Bool} {dn : List Bool} {op : List Nat} {t f : Cap} {n i : Nat} (h : CapRel places dn (n :: op) t f) (hn : n < dn.length) (hnd : n ∉ op) :
    CapRel places (dn.set n true) op ⟨t.pl, t.frm, upd t.to n i⟩ ⟨f.pl, f.frm, upd f.to n i⟩ := by
  have hno := h.opn n (by simp)
  refine ⟨fun m hm => ?_, fun m hm => ?_⟩
  · by_cases hmn : m = n
    · subst hmn
      dsimp only
      rw [upd_self, upd_self]
      exact ⟨hno.2.1.trans hno.1.symm, hno.2.2, fun _ => rfl, fun h => (by rw [hno.1] at h; cases h)⟩
    · simp only [upd_ne _ _ hmn]
      rw [getD_set hmn] at hm
      exact h.done m hm
  · exact h.opn m (by simp [hm])

/-- The matching of the program and of the reference come to the same. -/
theorem try_rel {s : ByteArray} {places pf pt : Nat → Bool} (hpf : pf = places) {dn2 : List Bool} : ∀ {rest : List It} {dn : List Bool} {op : List Nat}, Wf dn op rest dn2 [] → Ctx places dn op rest →
    ∀ i st ct cf, CapRel places dn op ct cf → AnsRel (CapRel places dn2 []) (tryP s true pt rest i st ct) (tryP s false pf rest i st cf) := by
  subst hpf
  intro rest
  induction rest with
  | nil =>
    intro dn op hw hx i st ct cf hc
    cases hw
    exact .hit _ _ hc
  | cons it l ih =>
    intro dn op hw hx i st ct cf hc
    cases hw with
    | cons h t =>
      have hx' := hx.next h t
      have hr := ih t hx'
      unfold tryP
      split
      · exact .spent
      have hlt : ∀ m ∈ op, m < dn.length := fun m hm => (hx.mem m hm).1
      cases h with
      | place hk hn =>
        have hp : pf it.n = true := by
          rw [hx.rest _ (by omega)]; unfold placesOf; rw [List.any_cons, decide_eq_true hk, decide_eq_true rfl]; rfl
        unfold stepIt
        rw [hk]
        simp only [if_true, if_false, Bool.false_eq_true]
        exact pass_rel (hr _ _ _ _ (hc.place hn hlt hp))
      | opn hk hn =>
        have hp : pf it.n = false := by
          rw [hx'.rest_lt (dn := dn) (it := it) hx (by omega) hk]
          exact t.later _ (by simp; omega)
        unfold stepIt
        rw [hk]
        simp only [if_true, if_false, Bool.false_eq_true]
        exact pass_rel (hr _ _ _ _ (hc.open_ hn hlt hp))
      | shut hk =>
        unfold stepIt
        rw [hk]
        simp only []
        exact pass_rel (hr _ _ _ _ (hc.shut (hx.mem _ (by simp)).1 (List.nodup_cons.1 hx.nd).1))
      | back hk hd =>
        obtain ⟨h1, h2, h3, h4⟩ := hc.done _ hd
        unfold stepIt
        rw [hk]
        simp only [if_true, if_false, Bool.false_eq_true]
        rw [h1]
        cases hp : pf it.n with
        | true => simp only [if_true]; exact .fail _
        | false =>
          simp only [Bool.false_eq_true, if_false]
          rw [h2, h3 hp]
          split
          · exact hr _ _ _ _ hc
          · exact .fail _
      | other hk h7 => exact stepIt_other hk hr hc _ _
end Go.Proofs.YtpinoolagbghnaaDoor.Pat

namespace Go.Proofs.YtpinoolagbghnaaDoor.Pat
set_option linter.unusedVariables false

inductive SRel (R : Cap → Cap → Prop) : Option (Nat × Option (Nat × Nat × Cap)) → Option (Nat × Option (Nat × Nat × Cap)) → Prop
  | spent : SRel R none none
  | fail (st : Nat) : SRel R (some (st, none)) (some (st, none))
  | hit (st i e : Nat) {c c' : Cap} (h : R c c') : SRel R (some (st, some (i, e, c))) (some (st, some (i, e, c')))

theorem search_rel_any {s : ByteArray} {start : Bool} {pt pf : Nat → Bool} {l : List It} {R : Cap → Cap → Prop} (h : ∀ i st, AnsRel R (tryP s true pt l i st Cap.zero) (tryP s false pf l i st Cap.zero)) :
    ∀ fuel i st, SRel R (searchP s true start pt l fuel i st) (searchP s false start pf l fuel i st) := by
  intro fuel
  induction fuel with
  | zero => intro i st; exact .fail st
  | succ n ih =>
    intro i st
    unfold searchP
    split
    · exact .fail st
    · have := h i st
      generalize tryP s true pt l i st Cap.zero = a at this
      generalize tryP s false pf l i st Cap.zero = b at this
      cases this with
      | spent => exact .spent
      | fail st' =>
        simp only []
        split
        · exact .fail _
        · exact ih _ _
      | hit st' e h => exact .hit _ _ _ h

/-- A capture that has been begun is done or open. -/
theorem WfIt.closed {dn dn' : List Bool} {op op' : List Nat} {it : It} (h : WfIt dn op it dn' op') (hx : ∀ n, n < dn.length → dn.getD n false = true ∨ n ∈ op) : ∀ n, n < dn'.length → dn'.getD n false = true ∨ n ∈ op' := by
  intro n hn
  cases h with
  | place hk he =>
    by_cases hne : n = dn.length
    · subst hne; exact Or.inl getD_pushed
    · rw [getD_push hne]; exact hx n (by simp at hn; omega)
  | opn hk he =>
    by_cases hne : n = dn.length
    · subst hne; exact Or.inr (by simp)
    · rw [getD_push hne]
      rcases hx n (by simp at hn; omega) with h | h
      · exact Or.inl h
      · exact Or.inr (by simp [h])
  | shut hk =>
    have hn' : n < dn.length := by simpa using hn
    by_cases hne : n = it.n
    · subst hne; exact Or.inl (getD_setted hn')
    · rw [getD_set hne]
      rcases hx n hn' with h | h
      · exact Or.inl h
      · simp only [List.mem_cons] at h
        rcases h with h | h
        · exact absurd h hne
        · exact Or.inr h
  | back hk hd => exact hx n hn
  | other hk h7 => exact hx n hn

theorem Wf.closed {dn dn' : List Bool} {op op' : List Nat} {l : List It} (h : Wf dn op l dn' op') : (∀ n, n < dn.length → dn.getD n false = true ∨ n ∈ op) → ∀ n, n < dn'.length → dn'.getD n false = true ∨ n ∈ op' := by
  induction h with
  | nil => exact fun h => h
  | cons h t ih => exact fun hx => ih (h.closed hx)

/-- Two captures lists that tell the same. -/
def CapSame (places : Nat → Bool) (n : Nat) (t f : Cap) : Prop := ∀ k, k < n → t.pl k = places k ∧ t.frm k = f.frm k ∧ t.to k = (if places k then f.frm k else f.to k)

/-- The searches of the program and of the reference. -/
theorem search_rel {p : ByteArray} {P : Pt} (s : ByteArray) (h : parse p = some P) (fuel i st : Nat) :
    SRel (CapSame (placesOf P.items) P.caps) (searchP s true P.start (fun _ => false) P.items fuel i st) (searchP s false P.start (placesOf P.items) P.items fuel i st) := by
  obtain ⟨dn2, hwf, hdn, _⟩ := parse_wf h
  have hcl := hwf.closed (by simp)
  have hx : Ctx (placesOf P.items) [] [] P.items := ⟨fun n _ => rfl, by simp, List.nodup_nil⟩
  have key := search_rel_any (start := P.start) (R := CapRel (placesOf P.items) dn2 []) (fun i st => try_rel (s := s) (pt := fun _ => false) rfl hwf hx i st Cap.zero Cap.zero ⟨by simp, by simp⟩) fuel i st
  generalize searchP s true P.start (fun _ => false) P.items fuel i st = a at key
  generalize searchP s false P.start (placesOf P.items) P.items fuel i st = b at key
  cases key with
  | spent => exact .spent
  | fail st => exact .fail st
  | hit st i e h =>
    refine .hit st i e fun k hk => ?_
    have hd : dn2.getD k false = true := (hcl k (by omega)).resolve_right (by simp)
    obtain ⟨h1, h2, h3, h4⟩ := h.done k hd
    refine ⟨h1, h2, ?_⟩
    cases hp : placesOf P.items k with
    | true => rw [if_pos rfl, h4 hp, h2]
    | false => rw [if_neg (by simp), h3 hp]
end Go.Proofs.YtpinoolagbghnaaDoor.Pat
