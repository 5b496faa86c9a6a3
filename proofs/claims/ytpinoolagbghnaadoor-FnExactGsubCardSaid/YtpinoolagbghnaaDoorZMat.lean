/-
  Plain law, no Go in sight: patterns as lists of items, the reading of a pattern text, and the matching of items with its count of steps. Both the program's and the reference's functions are shown (in other texts) to come to these.
  Plain law, no Go in sight: matching the items of a pattern against a subject, with the count of steps. The flag tells the program's way of noting captures (true) from the reference's (false).
-/

namespace Go.Proofs.YtpinoolagbghnaaDoor.Pat
set_option linter.unusedVariables false

/-- The byte at a place, 0 where there is none. -/
def bt (s : ByteArray) (i : Nat) : Int := if h : i < s.size then (s[i].toNat : Int) else 0

theorem bt_of_lt {s : ByteArray} {i : Nat} (h : i < s.size) : bt s i = (s[i].toNat : Int) := by simp [bt, h]
theorem bt_of_ge {s : ByteArray} {i : Nat} (h : s.size ≤ i) : bt s i = 0 := by simp [bt, Nat.not_lt.2 h]
theorem bt_nonneg (s : ByteArray) (i : Nat) : 0 ≤ bt s i := by unfold bt; split <;> omega
theorem bt_le (s : ByteArray) (i : Nat) : bt s i ≤ 255 := by
  unfold bt
  split
  · rename_i h
    have := s[i].toNat_lt
    omega
  · omega

def lowB (c : Int) : Bool := decide (97 ≤ c) && decide (c ≤ 122)
def upB (c : Int) : Bool := decide (65 ≤ c) && decide (c ≤ 90)
def digB (c : Int) : Bool := decide (48 ≤ c) && decide (c ≤ 57)
def letB (c : Int) : Bool := lowB c || upB c

/-- Whether the byte c is of the class of the small letter k (false where there is no such class). -/
def inCls (k c : Int) : Bool :=
  if k = 97 then letB c
  else if k = 100 then digB c
  else if k = 108 then lowB c
  else if k = 115 then (decide (9 ≤ c) && decide (c ≤ 13)) || decide (c = 32)
  else if k = 117 then upB c
  else if k = 119 then letB c || digB c
  else if k = 120 then digB c || (decide (97 ≤ c) && decide (c ≤ 102)) || (decide (65 ≤ c) && decide (c ≤ 70))
  else if k = 112 then decide (33 ≤ c) && decide (c ≤ 126) && !letB c && !digB c
  else if k = 99 then decide (c ≤ 31) || decide (c = 127)
  else false

def isCls (k : Int) : Bool := decide (k = 97) || decide (k = 100) || decide (k = 108) || decide (k = 115) || decide (k = 117) || decide (k = 119) || decide (k = 120) || decide (k = 112) || decide (k = 99)

/-- The small letter of a letter. -/
def low (k : Int) : Int := if upB k then k + 32 else k

/-- What a byte behind the percent sign stands for. -/
def esc (k : Int) : Option (Nat → Bool) :=
  if isCls (low k) then some (fun b => inCls (low k) b == decide (low k = k))
  else if letB k || digB k then none
  else some (fun b => decide ((b : Int) = k))

/-- One piece of a set, given what goes on behind it. -/
def setStep (p : ByteArray) (i : Nat) (first : Bool) (f : Nat → Bool) (k : Nat → Bool → (Nat → Bool) → Option ((Nat → Bool) × Nat)) : Option ((Nat → Bool) × Nat) :=
  if p.size ≤ i then none
  else if bt p i = 93 ∧ first = false then some (f, i + 1)
  else if bt p i = 37 then
    if p.size ≤ i + 1 then none
    else (esc (bt p (i + 1))).bind fun g => k (i + 2) false (fun b => f b || g b)
  else if i + 2 < p.size ∧ bt p (i + 1) = 45 ∧ bt p (i + 2) ≠ 93 ∧ bt p (i + 2) ≠ 37 then
    k (i + 3) false (fun b => f b || (decide (bt p i ≤ (b : Int)) && decide ((b : Int) ≤ bt p (i + 2))))
  else k (i + 1) false (fun b => f b || decide ((b : Int) = bt p i))

/-- A set behind its opening (and behind '^'): what it holds, and the place behind it. -/
def setGo (p : ByteArray) : Nat → Nat → Bool → (Nat → Bool) → Option ((Nat → Bool) × Nat)
  | 0 => fun _ _ _ => none
  | fuel + 1 => fun i first f => setStep p i first f (setGo p fuel)

/-- A set that begins at a place ('['). -/
def setAt (p : ByteArray) (i : Nat) : Option ((Nat → Bool) × Nat) :=
  if i + 1 < p.size ∧ bt p (i + 1) = 94 then
    match setGo p (p.size - i) (i + 2) true (fun _ => false) with
    | none => none
    | some (f, j) => some (fun b => !f b, j)
  else setGo p (p.size - i) (i + 1) true (fun _ => false)

/-- A single at a place: its bytes, and the place behind it. -/
def singleAt (p : ByteArray) (i : Nat) : Option ((Nat → Bool) × Nat) :=
  if bt p i = 91 then setAt p i
  else if bt p i = 46 then some (fun _ => true, i + 1)
  else if bt p i = 37 then
    if p.size ≤ i + 1 then none
    else match esc (bt p (i + 1)) with
      | none => none
      | some g => some (g, i + 2)
  else some (fun b => decide ((b : Int) = bt p i), i + 1)

/-- Kinds: 0 single, 1 place, 2 open, 3 shut, 4 back, 5 pair, 6 edge, 7 end. -/
structure It where
  kind : Nat
  set : Nat → Bool := fun _ => false
  sign : Int := 0
  n : Nat := 0
  x : Int := 0
  y : Int := 0

/-- What is known while a pattern is read: which captures are closed, which are open (the innermost first). -/
structure Rd where
  i : Nat
  done : List Bool
  opened : List Nat

def signAt (p : ByteArray) (i : Nat) : Bool := decide (i < p.size) && (decide (bt p i = 42) || decide (bt p i = 43) || decide (bt p i = 45) || decide (bt p i = 63))

/-- One item at a place that lies in the text. -/
def itemAt (p : ByteArray) (r : Rd) : Option (It × Rd) :=
  let c := bt p r.i
  let d := bt p (r.i + 1)
  let is := decide (r.i + 1 < p.size)
  if c = 40 then
    if is = true ∧ d = 41 then some ({ kind := 1, n := r.done.length }, { i := r.i + 2, done := r.done ++ [true], opened := r.opened })
    else some ({ kind := 2, n := r.done.length }, { i := r.i + 1, done := r.done ++ [false], opened := r.done.length :: r.opened })
  else if c = 41 then
    match r.opened with
    | [] => none
    | n :: rest => some ({ kind := 3, n := n }, { i := r.i + 1, done := r.done.set n true, opened := rest })
  else if c = 37 ∧ is = true ∧ digB d = true then
    if d = 48 ∨ (r.done.getD (d - 49).toNat false) = false then none
    else some ({ kind := 4, n := (d - 49).toNat }, { r with i := r.i + 2 })
  else if c = 37 ∧ is = true ∧ d = 98 then
    if r.i + 3 < p.size then some ({ kind := 5, x := bt p (r.i + 2), y := bt p (r.i + 3) }, { r with i := r.i + 4 })
    else none
  else if c = 37 ∧ is = true ∧ d = 102 then
    if r.i + 2 < p.size ∧ bt p (r.i + 2) = 91 then
      match setAt p (r.i + 2) with
      | none => none
      | some (f, j) => some ({ kind := 6, set := f }, { r with i := j })
    else none
  else if c = 36 ∧ is = false then some ({ kind := 7 }, { r with i := r.i + 1 })
  else match singleAt p r.i with
    | none => none
    | some (f, j) =>
      if signAt p j then some ({ kind := 0, set := f, sign := bt p j }, { r with i := j + 1 })
      else some ({ kind := 0, set := f }, { r with i := j })

def itemsGo (p : ByteArray) : Nat → Rd → List It → Option (List It × Rd)
  | 0 => fun r l => if p.size ≤ r.i then some (l, r) else none
  | fuel + 1 => fun r l => if p.size ≤ r.i then some (l, r) else (itemAt p r).bind fun x => itemsGo p fuel x.2 (l ++ [x.1])

structure Pt where
  start : Bool
  items : List It
  caps : Nat

def startOf (p : ByteArray) : Bool := decide (0 < p.size) && decide (bt p 0 = 94)

def parse (p : ByteArray) : Option Pt :=
  if 200 < p.size then none
  else match itemsGo p p.size { i := if startOf p then 1 else 0, done := [], opened := [] } [] with
    | none => none
    | some (l, r) => if r.opened ≠ [] ∨ 16 < r.done.length then none else some { start := startOf p, items := l, caps := r.done.length }

/-! ### The rounds of setGo -/
theorem setGo_succ (p : ByteArray) (fuel i : Nat) (first : Bool) (f : Nat → Bool) : setGo p (fuel + 1) i first f = setStep p i first f (setGo p fuel) := rfl
theorem setGo_end {p : ByteArray} {fuel i : Nat} {first : Bool} {f : Nat → Bool} (h : p.size ≤ i) : setGo p fuel i first f = none := by
  cases fuel with
  | zero => rfl
  | succ n => rw [setGo_succ]; unfold setStep; rw [if_pos h]
theorem setGo_close {p : ByteArray} {fuel i : Nat} {f : Nat → Bool} (h : i < p.size) (hc : bt p i = 93) : setGo p (fuel + 1) i false f = some (f, i + 1) := by
  rw [setGo_succ]; unfold setStep; rw [if_neg (by omega), if_pos ⟨hc, rfl⟩]
theorem setGo_short {p : ByteArray} {fuel i : Nat} {first : Bool} {f : Nat → Bool} (h : i < p.size) (hc : bt p i = 37) (h1 : p.size ≤ i + 1) : setGo p (fuel + 1) i first f = none := by
  rw [setGo_succ]; unfold setStep; rw [if_neg (by omega), if_neg (by omega), if_pos hc, if_pos h1]
theorem setGo_bad {p : ByteArray} {fuel i : Nat} {first : Bool} {f : Nat → Bool} (h : i < p.size) (hc : bt p i = 37) (he : esc (bt p (i + 1)) = none) : setGo p (fuel + 1) i first f = none := by
  rw [setGo_succ]; unfold setStep; rw [if_neg (by omega), if_neg (by omega), if_pos hc, he]
  split <;> rfl
theorem setGo_esc {p : ByteArray} {fuel i : Nat} {first : Bool} {f g : Nat → Bool} (h : i < p.size) (hc : bt p i = 37) (h1 : i + 1 < p.size) (he : esc (bt p (i + 1)) = some g) :
    setGo p (fuel + 1) i first f = setGo p fuel (i + 2) false (fun b => f b || g b) := by
  rw [setGo_succ]; unfold setStep; rw [if_neg (by omega), if_neg (by omega), if_pos hc, if_neg (by omega), he]; rfl
theorem setGo_range {p : ByteArray} {fuel i : Nat} {first : Bool} {f : Nat → Bool} (h : i < p.size) (hc : ¬ (bt p i = 93 ∧ first = false)) (hp : bt p i ≠ 37)
    (hr : i + 2 < p.size ∧ bt p (i + 1) = 45 ∧ bt p (i + 2) ≠ 93 ∧ bt p (i + 2) ≠ 37) :
    setGo p (fuel + 1) i first f = setGo p fuel (i + 3) false (fun b => f b || (decide (bt p i ≤ (b : Int)) && decide ((b : Int) ≤ bt p (i + 2)))) := by
  rw [setGo_succ]; unfold setStep; rw [if_neg (by omega), if_neg hc, if_neg hp, if_pos hr]
theorem setGo_one {p : ByteArray} {fuel i : Nat} {first : Bool} {f : Nat → Bool} (h : i < p.size) (hc : ¬ (bt p i = 93 ∧ first = false)) (hp : bt p i ≠ 37)
    (hr : ¬ (i + 2 < p.size ∧ bt p (i + 1) = 45 ∧ bt p (i + 2) ≠ 93 ∧ bt p (i + 2) ≠ 37)) :
    setGo p (fuel + 1) i first f = setGo p fuel (i + 1) false (fun b => f b || decide ((b : Int) = bt p i)) := by
  rw [setGo_succ]; unfold setStep; rw [if_neg (by omega), if_neg hc, if_neg hp, if_neg hr]

theorem setGo_le {p : ByteArray} {g : Nat → Bool} {j : Nat} : ∀ {fuel i : Nat} {first : Bool} {f : Nat → Bool}, setGo p fuel i first f = some (g, j) → i < j ∧ j ≤ p.size := by
  intro fuel
  induction fuel with
  | zero => intro i first f h; simp [setGo] at h
  | succ n ih =>
    intro i first f h
    by_cases h0 : p.size ≤ i
    · rw [setGo_end h0] at h; cases h
    · have hlt : i < p.size := by omega
      by_cases hc : bt p i = 93 ∧ first = false
      · obtain ⟨hc, rfl⟩ := hc
        rw [setGo_close hlt hc] at h
        simp only [Option.some.injEq, Prod.mk.injEq] at h
        omega
      · by_cases hp : bt p i = 37
        · by_cases h1 : p.size ≤ i + 1
          · rw [setGo_short hlt hp h1] at h; cases h
          · cases he : esc (bt p (i + 1)) with
            | none => rw [setGo_bad hlt hp he] at h; cases h
            | some e => rw [setGo_esc hlt hp (by omega) he] at h; have := ih h; omega
        · by_cases hr : i + 2 < p.size ∧ bt p (i + 1) = 45 ∧ bt p (i + 2) ≠ 93 ∧ bt p (i + 2) ≠ 37
          · rw [setGo_range hlt hc hp hr] at h; have := ih h; omega
          · rw [setGo_one hlt hc hp hr] at h; have := ih h; omega

theorem setAt_turned {p : ByteArray} {i : Nat} (h : i + 1 < p.size) (hc : bt p (i + 1) = 94) : setAt p i = (setGo p (p.size - i) (i + 2) true (fun _ => false)).map fun x => (fun b => !x.1 b, x.2) := by
  unfold setAt
  rw [if_pos ⟨h, hc⟩]
  cases setGo p (p.size - i) (i + 2) true (fun _ => false) <;> rfl
theorem setAt_plain {p : ByteArray} {i : Nat} (hc : bt p (i + 1) ≠ 94) : setAt p i = setGo p (p.size - i) (i + 1) true (fun _ => false) := by
  unfold setAt
  rw [if_neg (fun h => hc h.2)]
theorem setAt_le {p : ByteArray} {i j : Nat} {g : Nat → Bool} (h : setAt p i = some (g, j)) : i < j ∧ j ≤ p.size := by
  by_cases ht : bt p (i + 1) = 94
  · have hlt : i + 1 < p.size := by
      apply Nat.lt_of_not_le
      intro hle
      rw [bt_of_ge hle] at ht
      omega
    rw [setAt_turned hlt ht] at h
    obtain ⟨⟨f', j'⟩, h1, h2⟩ := Option.map_eq_some_iff.1 h
    simp only [Prod.mk.injEq] at h2
    have := setGo_le h1
    omega
  · rw [setAt_plain ht] at h
    have := setGo_le h
    omega

end Go.Proofs.YtpinoolagbghnaaDoor.Pat

namespace Go.Proofs.YtpinoolagbghnaaDoor.Pat
set_option linter.unusedVariables false

def upd {α : Type} (f : Nat → α) (n : Nat) (v : α) : Nat → α := fun i => if i = n then v else f i

structure Cap where
  pl : Nat → Bool
  frm : Nat → Nat
  to : Nat → Nat

def Cap.zero : Cap := ⟨fun _ => false, fun _ => 0, fun _ => 0⟩

/-- Whether the byte at a place is there and of a set. -/
def has (s : ByteArray) (f : Nat → Bool) (i : Nat) : Bool := decide (i < s.size) && f (bt s i).toNat

/-- How many bytes from a place on are of a set. -/
def runLen (s : ByteArray) (f : Nat → Bool) : Nat → Nat → Nat
  | 0, _ => 0
  | fuel + 1, i => if has s f i then runLen s f fuel (i + 1) + 1 else 0

def MaxM : Nat := 50000

/-- The answer of a matching: none: too many steps; else the steps, and where it ends with what captures (none: no match, the captures as they were). -/
abbrev Ans := Option (Nat × Option (Nat × Cap))

/-- Tries n more, n - 1 more, .. (so many tries) from a place on. -/
def down (k : Nat → Nat → Cap → Ans) (i : Nat) (c : Cap) : Nat → Nat → Nat → Ans
  | 0, _, st => some (st, none)
  | tries + 1, n, st => match k (i + n) st c with
    | none => none
    | some (st', some r) => some (st', some r)
    | some (st', none) => down k i c tries (n - 1) st'

/-- Tries at a place, then one further as long as the byte is of the set. -/
def up (s : ByteArray) (f : Nat → Bool) (k : Nat → Nat → Cap → Ans) (c : Cap) : Nat → Nat → Nat → Ans
  | 0, _, st => some (st, none)
  | fuel + 1, i, st => match k i st c with
    | none => none
    | some (st', some r) => some (st', some r)
    | some (st', none) =>
      if has s f i then (if MaxM < st' + 1 then none else up s f k c fuel (i + 1) (st' + 1))
      else some (st', none)

/-- What stands between two bytes that answer each other: from place j at a count; how many bytes are looked at, and the place behind it. -/
def bal (s : ByteArray) (x y : Int) : Nat → Nat → Int → Nat × Option Nat
  | 0, _, _ => (0, none)
  | fuel + 1, j, n =>
    if s.size ≤ j then (0, none)
    else if bt s j = y then
      if n = 1 then (1, some (j + 1))
      else ((bal s x y fuel (j + 1) (n - 1)).1 + 1, (bal s x y fuel (j + 1) (n - 1)).2)
    else if bt s j = x then ((bal s x y fuel (j + 1) (n + 1)).1 + 1, (bal s x y fuel (j + 1) (n + 1)).2)
    else ((bal s x y fuel (j + 1) n).1 + 1, (bal s x y fuel (j + 1) n).2)

/-- Whether a text stands at a place. -/
def standsAt (s : ByteArray) (a b i : Nat) : Bool := decide (i + (b - a) ≤ s.size) && (List.range (b - a)).all fun j => decide (bt s (a + j) = bt s (i + j))

/-- One item, given what goes on behind it. -/
def stepIt (s : ByteArray) (fl : Bool) (places : Nat → Bool) (it : It) (k : Nat → Nat → Cap → Ans) (i st : Nat) (c : Cap) : Ans :=
  match it.kind with
  | 0 =>
    if it.sign = 0 then (if has s it.set i then k (i + 1) st c else some (st, none))
    else if it.sign = 63 then
      (if has s it.set i then (match k (i + 1) st c with
        | none => none
        | some (st', some r) => some (st', some r)
        | some (st', none) => k i st' c) else k i st c)
    else if it.sign = 45 then up s it.set k c (s.size - i + 1) i st
    else
      let n := runLen s it.set (s.size - i) i
      let least := if it.sign = 43 then 1 else 0
      if MaxM < st + n then none else down k i c (n + 1 - least) n (st + n)
  | 1 => match k i st { pl := if fl then upd c.pl it.n true else c.pl, frm := upd c.frm it.n i, to := if fl then upd c.to it.n i else c.to } with
    | none => none
    | some (st', some r) => some (st', some r)
    | some (st', none) => some (st', none)
  | 2 => match k i st { pl := if fl then upd c.pl it.n false else c.pl, frm := upd c.frm it.n i, to := if fl then upd c.to it.n i else c.to } with
    | none => none
    | some (st', some r) => some (st', some r)
    | some (st', none) => some (st', none)
  | 3 => match k i st { c with to := upd c.to it.n i } with
    | none => none
    | some (st', some r) => some (st', some r)
    | some (st', none) => some (st', none)
  | 4 =>
    if (if fl then c.pl it.n else places it.n) = true then some (st, none)
    else if standsAt s (c.frm it.n) (c.to it.n) i then k (i + (c.to it.n - c.frm it.n)) st c
    else some (st, none)
  | 5 =>
    if i < s.size ∧ bt s i = it.x then
      match bal s it.x it.y (s.size - i) (i + 1) 1 with
      | (n, some j) => if MaxM < st + n then none else k j (st + n) c
      | (n, none) => if MaxM < st + n then none else some (st + n, none)
    else some (st, none)
  | 6 =>
    if it.set (if 0 < i then bt s (i - 1) else 0).toNat = true ∨ it.set (bt s i).toNat = false then some (st, none)
    else k i st c
  | _ => if i = s.size then k i st c else some (st, none)

/-- The items from a place on. -/
def tryP (s : ByteArray) (fl : Bool) (places : Nat → Bool) : List It → Nat → Nat → Cap → Ans
  | [], i, st, c => some (st, some (i, c))
  | it :: rest, i, st, c => if MaxM < st + 1 then none else stepIt s fl places it (tryP s fl places rest) i (st + 1) c

/-- The first match from a place on: none: too many steps; the steps, and where it begins and ends. -/
def searchP (s : ByteArray) (fl start : Bool) (places : Nat → Bool) (l : List It) : Nat → Nat → Nat → Option (Nat × Option (Nat × Nat × Cap))
  | 0, _, st => some (st, none)
  | fuel + 1, i, st =>
    if s.size < i then some (st, none)
    else match tryP s fl places l i st Cap.zero with
      | none => none
      | some (st', some (e, c)) => some (st', some (i, e, c))
      | some (st', none) => if start then some (st', none) else searchP s fl start places l fuel (i + 1) st'

end Go.Proofs.YtpinoolagbghnaaDoor.Pat
