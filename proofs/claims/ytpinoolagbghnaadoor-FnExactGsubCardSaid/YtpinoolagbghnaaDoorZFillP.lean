/-
  Plain law, no Go in sight: the text that replaces a match, the whole text, and how the program's text so far stands to it.
-/
import Derived.Test.YtpinoolagbghnaaDoorZMat
import Derived.Lib.ItoaNum
namespace Go.Proofs.YtpinoolagbghnaaDoor.Pat
set_option linter.unusedVariables false

/-- A match as plain data: where it begins and ends, the captures (a place? from, to). -/
structure Mt where
  a : Nat
  e : Nat
  caps : List (Bool × Nat × Nat)

/-- A piece of a text. -/
def sub (s : ByteArray) (a e : Nat) : List UInt8 := (s.extract a e).data.toList

/-- What stands for '%' and a byte. -/
def pieceP (s : ByteArray) (caps : Nat) (m : Mt) (d : Int) : List UInt8 :=
  if d = 37 then [37]
  else if d = 48 ∨ (d = 49 ∧ caps = 0) then sub s m.a m.e
  else match m.caps[(d - 49).toNat]? with
    | none => []
    | some (true, f, _) => Lib.itoa ((f : Int) + 1)
    | some (false, f, t) => sub s f t

/-- The text that replaces a match, from place k of the replacement on. -/
def fillP (s r : ByteArray) (caps : Nat) (m : Mt) : Nat → Nat → List UInt8
  | 0, _ => []
  | fuel + 1, k =>
    if h : k < r.size then
      if bt r k = 37 then pieceP s caps m (bt r (k + 1)) ++ fillP s r caps m fuel (k + 2)
      else r[k] :: fillP s r caps m fuel (k + 1)
    else []

/-- Whether a byte may stand behind '%'. -/
def okD (caps : Nat) (d : Int) : Bool := decide (d = 37) || decide (d = 48) || (decide (d = 49) && decide (caps = 0)) || (decide (49 ≤ d) && decide (d ≤ 57) && decide (d - 48 ≤ caps))

/-- Whether a replacement is right, from place k on. -/
def okP (r : ByteArray) (caps : Nat) : Nat → Nat → Bool
  | 0, _ => true
  | fuel + 1, k =>
    if k < r.size then
      if bt r k = 37 then (decide (k + 1 < r.size) && okD caps (bt r (k + 1))) && okP r caps fuel (k + 2)
      else okP r caps fuel (k + 1)
    else true

/-- The whole text from a place on. -/
def fullP (s r : ByteArray) (caps : Nat) : Nat → List Mt → List UInt8
  | at_, [] => sub s at_ s.size
  | at_, m :: l => sub s at_ m.a ++ fillP s r caps m (r.size + 1) 0 ++ fullP s r caps m.e l

/-! ### Steps of the plain words -/
section
variable {s r : ByteArray} {caps k fuel : Nat} {m : Mt} 
theorem fillP_end (h : r.size ≤ k) : fillP s r caps m fuel k = [] := by
  cases fuel with
  | zero => rfl
  | succ n => unfold fillP; rw [dif_neg (by omega)]
theorem fillP_plain (h : k < r.size) (hc : bt r k ≠ 37) : fillP s r caps m (fuel + 1) k = r[k] :: fillP s r caps m fuel (k + 1) := by
  conv => lhs; unfold fillP
  rw [dif_pos h, if_neg hc]
theorem fillP_esc (h : k < r.size) (hc : bt r k = 37) : fillP s r caps m (fuel + 1) k = pieceP s caps m (bt r (k + 1)) ++ fillP s r caps m fuel (k + 2) := by
  conv => lhs; unfold fillP
  rw [dif_pos h, if_pos hc]
theorem okP_end (h : r.size ≤ k) : okP r caps fuel k = true := by
  cases fuel with
  | zero => rfl
  | succ n => unfold okP; rw [if_neg (by omega)]
theorem okP_plain (h : k < r.size) (hc : bt r k ≠ 37) : okP r caps (fuel + 1) k = okP r caps fuel (k + 1) := by
  conv => lhs; unfold okP
  rw [if_pos h, if_neg hc]
theorem okP_short (h : k < r.size) (hc : bt r k = 37) (h1 : r.size ≤ k + 1) : okP r caps (fuel + 1) k = false := by
  unfold okP
  rw [if_pos h, if_pos hc, decide_eq_false (by omega)]; rfl
theorem okP_esc (h : k < r.size) (hc : bt r k = 37) (h1 : k + 1 < r.size) : okP r caps (fuel + 1) k = (okD caps (bt r (k + 1)) && okP r caps fuel (k + 2)) := by
  conv => lhs; unfold okP
  rw [if_pos h, if_pos hc, decide_eq_true h1, Bool.true_and]
theorem sub_len (a e : Nat) : (sub s a e).length ≤ s.size := by
  unfold sub
  rw [Array.length_toList]
  show (s.extract a e).size ≤ s.size
  rw [ByteArray.size_extract]; omega
theorem sub_len_eq {a e : Nat} (h1 : a ≤ e) (h2 : e ≤ s.size) : (sub s a e).length = e - a := by
  unfold sub
  rw [Array.length_toList]
  show (s.extract a e).size = e - a
  rw [ByteArray.size_extract]; omega

/-- A match that lies in the subject. -/
structure MtOk (s : ByteArray) (caps : Nat) (m : Mt) : Prop where
  ae : m.a ≤ m.e
  es : m.e ≤ s.size
  len : m.caps.length = caps
  frm : ∀ (k : Nat) (b : Bool) (f t : Nat), m.caps[k]? = some (b, f, t) → f ≤ s.size
  cap : ∀ (k : Nat) (b : Bool) (f t : Nat), m.caps[k]? = some (b, f, t) → b = false → f ≤ t ∧ t ≤ s.size

theorem decDigits_len_le : ∀ (k u : Nat), u < 10 ^ k → (Lib.decDigits u).length ≤ k + 1 := by
  intro k
  induction k with
  | zero => intro u h; rw [Lib.decDigits_one (by omega)]; simp
  | succ n ih =>
    intro u h
    by_cases h10 : u < 10
    · rw [Lib.decDigits_one h10]; simp
    · rw [Lib.decDigits, dif_neg h10, List.length_append]
      have := ih (u / 10) (by rw [Nat.pow_succ] at h; omega)
      simp; omega

theorem piece_len {d : Int} (hs : s.size ≤ 65536) (hm : MtOk s caps m) : (pieceP s caps m d).length ≤ 65560 := by
  unfold pieceP
  split
  · simp
  · split
    · have := sub_len (s := s) m.a m.e; omega
    · split
      · simp
      · rename_i f t h
        have hf := hm.frm _ _ _ _ h
        unfold Lib.itoa
        rw [if_neg (by omega)]
        have := decDigits_len_le 5 ((f : Int) + 1).toNat (by omega)
        omega
      · rename_i f t h
        have := sub_len (s := s) f t; omega

theorem fill_len (hs : s.size ≤ 65536) (hm : MtOk s caps m) : ∀ fuel k, (fillP s r caps m fuel k).length ≤ 65560 * (r.size - k) := by
  intro fuel
  induction fuel with
  | zero => intro k; simp [fillP]
  | succ n ih =>
    intro k
    by_cases hk : k < r.size
    · by_cases hc : bt r k = 37
      · rw [fillP_esc hk hc, List.length_append]
        have h1 := piece_len (d := bt r (k + 1)) hs hm
        have h2 := ih (k + 2)
        omega
      · rw [fillP_plain hk hc, List.length_cons]
        have h2 := ih (k + 1)
        omega
    · rw [fillP_end (by omega)]; simp

/-- How the program's text so far stands to the whole text F: it is the begin of it, or both are too long. -/
def BufInv (s r : ByteArray) (caps : Nat) (buf : List UInt8) (at_ : Nat) (l : List Mt) (F : List UInt8) : Prop :=
  buf ++ fullP s r caps at_ l = F ∨ (65536 < buf.length ∧ 65536 < F.length)
theorem BufInv.start (l : List Mt) : BufInv s r caps [] 0 l (fullP s r caps 0 l) := Or.inl rfl
theorem BufInv.short {buf F : List UInt8} {at_ : Nat} {l : List Mt} (h : BufInv s r caps buf at_ (m :: l) F) (hl : (buf ++ sub s at_ m.a).length ≤ 65536) : BufInv s r caps (buf ++ sub s at_ m.a ++ fillP s r caps m (r.size + 1) 0) m.e l F := by
  rcases h with h | ⟨h, _⟩
  · left; rw [← h]; simp [fullP]
  · rw [List.length_append] at hl; omega
theorem BufInv.long {buf F : List UInt8} {at_ : Nat} {l : List Mt} (h : BufInv s r caps buf at_ (m :: l) F) (hl : 65536 < (buf ++ sub s at_ m.a).length) : BufInv s r caps (buf ++ sub s at_ m.a) m.e l F := by
  right
  refine ⟨hl, ?_⟩
  rcases h with h | ⟨_, h⟩
  · rw [← h]; simp only [fullP, List.length_append] at hl ⊢; omega
  · exact h
theorem BufInv.done {buf F : List UInt8} {at_ : Nat} (h : BufInv s r caps buf at_ [] F) : (F.length ≤ 65536 → buf ++ sub s at_ s.size = F) ∧ (65536 < (buf ++ sub s at_ s.size).length ↔ 65536 < F.length) := by
  rcases h with h | ⟨h1, h2⟩
  · simp only [fullP] at h; rw [h]; exact ⟨fun _ => rfl, Iff.rfl⟩
  · exact ⟨fun h => by omega, fun _ => h2, fun _ => by rw [List.length_append]; omega⟩
end
end Go.Proofs.YtpinoolagbghnaaDoor.Pat
