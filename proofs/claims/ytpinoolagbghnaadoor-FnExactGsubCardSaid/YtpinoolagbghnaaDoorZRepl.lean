/-
  Walk: strings.Builder's writers at a builder of the call's own (copyCheck, WriteByte, WriteString), with a frame: what is not the builder and no row of bytes stands.
  Walk: the program's replace writes the plain word fillP to the builder.
-/
import Derived.Test.YtpinoolagbghnaaDoorZByteApp
import Derived.Test.YtpinoolagbghnaaDoorZShelf
import Derived.Test.YtpinoolagbghnaaDoorZPatS
import Derived.Lib.Builder
import Derived.Shelf.Strings.BuilderX
import Derived.Laws.Externs
import Derived.Test.YtpinoolagbghnaaDoorZAllS
import Derived.Lib.AppendIntMem
import Derived.IntWalk
namespace Go.Proofs.YtpinoolagbghnaaDoor
set_option linter.unusedVariables false
open Go.RowKit

/-- The frame of a write: every block that is not the builder's and is no row of bytes (or lies below the call's own) stands. -/
def BKeep (B b : Nat) (w w' : World) : Prop := w'.os = w.os ∧ w'.tape = w.tape ∧ w'.output = w.output ∧ w.heap.size ≤ w'.heap.size ∧
  ∀ k o, w.heap[k]? = some o → k ≠ b → (k < B ∨ ∀ c z, o ≠ .cells c 5 z) → w'.heap[k]? = some o

theorem BKeep.refl (B b : Nat) (w : World) : BKeep B b w w := ⟨rfl, rfl, rfl, Nat.le_refl _, fun k o h _ _ => h⟩
theorem BKeep.trans {B b : Nat} {w w' w2 : World} (h : BKeep B b w w') (k : BKeep B b w' w2) : BKeep B b w w2 :=
  ⟨k.1.trans h.1, k.2.1.trans h.2.1, k.2.2.1.trans h.2.2.1, Nat.le_trans h.2.2.2.1 k.2.2.2.1, fun j o h1 h2 h3 => k.2.2.2.2 j o (h.2.2.2.2 j o h1 h2 h3) h2 h3⟩
theorem BKeep.of_keeps {B b C : Nat} {S : List Nat} {w w' : World} (h : Keeps C S w w') (hC : w.heap.size ≤ C) (hS : ∀ k ∈ S, k = b) : BKeep B b w w' :=
  ⟨h.os, h.tape, h.output, h.size, fun k o h1 h2 _ => h.blk h1 (Nat.lt_of_lt_of_le (blk_lt h1) hC) (fun hm => h2 (hS k hm))⟩
theorem BKeep.grown {B b : Nat} {row : Option Nat} {w w' : World} (h : w.grownBy w' row) (hr : ∀ k, row = some k → B ≤ k ∧ ∃ c z, w.heap[k]? = some (.cells c 5 z)) : BKeep B b w w' :=
  ⟨h.os, h.tape, h.output, h.size, fun k o h1 h2 h3 => (h.block k (blk_lt h1) (fun e => by
    obtain ⟨h4, c, z, h5⟩ := hr k e.symm
    rcases h3 with h3 | h3
    · omega
    · rw [h1] at h5
      simp only [Option.some.injEq] at h5
      exact h3 c z h5)).trans h1⟩
theorem BKeep.below {B b : Nat} {w w' : World} (h : BKeep B b w w') (hB : B ≤ b) (hw : B ≤ w.heap.size) : Below B w w' := ⟨h.1, h.2.1, h.2.2.1, h.2.2.2.1, fun k hk => by
  have hlt : k < w.heap.size := by omega
  have h1 : w.heap[k]? = some w.heap[k] := by simp [hlt]
  rw [h.2.2.2.2 k _ h1 (by omega) (Or.inl hk), h1]⟩

theorem size_builder : ∃ j, Tryd.prog.info? 55 = some j ∧ j.size = 2 := by
  have h : (Tryd.prog.info? 55).map (·.size) = some 2 := by kernel_rfl
  exact Option.map_eq_some_iff.1 h
theorem lies_builder : liesAt Tryd.prog Tryd.prog.depth 55 (2 / Tryd.prog.cellsOf 55) 0 55 1 = true := by kernel_rfl

abbrev Bu (B b : Nat) (l : List UInt8) (w : World) : Prop := Lib.IsBuilder 55 5 B b (Lib.byteCells l) w
abbrev BuAt (B b : Nat) (l : List UInt8) (w : World) : Prop := Lib.BuilderAt 55 5 B b (.pointer (some ⟨b, 0, none⟩)) (Lib.byteCells l) w

set_option maxHeartbeats 1000000 in
set_option maxRecDepth 100000 in
theorem copy_used (b : Nat) (w : World) (h0 : w.cell? ⟨b, 0, none⟩ = some (.pointer (some ⟨b, 0, none⟩))) :
    Calls Tryd.prog 30 #[.pointer (some ⟨b, 0, none⟩)] w fun e w' => e = .returned (.tuple #[]) ∧ w' = w := by
  obtain ⟨j, hj, _⟩ := size_builder
  go_enter Tryd.func30, Tryd.ntmps30
  go_wp2_with fail
  rw [Lib.run_neq_ptr_same w _ Tryd.underlying53 hj]
  go_wp2_with fail
  go_end0
  exact ⟨rfl, rfl⟩

set_option maxHeartbeats 1000000 in
set_option maxRecDepth 100000 in
theorem copy_fresh (b : Nat) (w : World) (h0 : w.cell? ⟨b, 0, none⟩ = some (.pointer none)) (hsh : w.shape? b = some (55, 2)) (hfz : w.frozen? ⟨b, 0, none⟩ = false) :
    Calls Tryd.prog 30 #[.pointer (some ⟨b, 0, none⟩)] w fun e w' => e = .returned (.tuple #[]) ∧ w' = w.setCell ⟨b, 0, none⟩ (.pointer (some ⟨b, 0, none⟩)) := by
  obtain ⟨j, hj, hjs⟩ := size_builder
  go_enter Tryd.func30, Tryd.ntmps30
  go_wp2_with fail
  rw [Lib.run_to_unsafe w ⟨b, 0, none⟩ Tryd.underlying53 Tryd.underlying97 hj (by rw [hjs]; decide) hsh (Nat.zero_lt_succ 1)]
  simp only [Result.andThen]
  rw [Oper.upon_value]
  go_wp2_with fail
  rw [run_callFunc_extern Tryd.func40 (by kernel_rfl) (by kernel_rfl) (by kernel_rfl) (e := Extern.AbiNoEscape.same) (by kernel_rfl)]
  rw [Lib.run_noEscape]
  simp only [Result.andThen]
  rw [Oper.upon_value]
  go_wp2_with fail
  rw [Lib.run_from_unsafe w ⟨b, 0, none⟩ Tryd.underlying97 Tryd.underlying53 hj hsh lies_builder]
  simp only [Result.andThen]
  rw [Oper.upon_value]
  go_wp2_with fail
  go_end0
  exact ⟨rfl, rfl⟩

theorem copy_any {B b : Nat} {l : List UInt8} (w : World) (h : Bu B b l w) :
    Calls Tryd.prog 30 #[.pointer (some ⟨b, 0, none⟩)] w fun e w' => e = .returned (.tuple #[]) ∧ BuAt B b l w' ∧ BKeep B b w w' := by
  rcases h with h | h
  · refine (copy_fresh b w h.cell0 h.shape h.frozen0).mono ?_
    rintro e w' ⟨rfl, rfl⟩
    exact ⟨rfl, h.used _, BKeep.of_keeps (keeps_set w ⟨b, 0, none⟩ _) (Nat.le_refl _) (by simp)⟩
  · refine (copy_used b w h.cell0).mono ?_
    rintro e w' ⟨rfl, rfl⟩
    exact ⟨rfl, h, BKeep.refl _ _ _⟩

/-- The row of a builder is a row of bytes. -/
theorem bu_row {w : World} {B : Nat} {v : Value} {l : List UInt8} (h : ByteOwn w B v l) : ∀ k, v.ownBlock = some k → B ≤ k ∧ ∃ c z, w.heap[k]? = some (.cells c 5 z) := fun k hk => by
  rcases h.2 with ⟨h1, _⟩ | ⟨g, cap, cur, h1, hg, h2, _⟩
  · rw [h1] at hk; cases hk
  · rw [h1] at hk
    simp only [Value.ownBlock, Option.some.injEq] at hk
    subst hk
    exact ⟨hg, _, _, h2⟩

set_option maxRecDepth 100000 in
set_option maxHeartbeats 2000000 in
theorem writeByte_any {B b : Nat} {l : List UInt8} (c : UInt8) (x : Int) (hx : x = c.toNat) (w : World) (h : Bu B b l w) (hlen : l.length + 1 ≤ 140737488355328) (hBw : B ≤ w.heap.size) :
    Calls Tryd.prog 31 #[.pointer (some ⟨b, 0, none⟩), .int .u8 x] w fun e w' => e = .returned .nilIface ∧ Bu B b (l ++ [c]) w' ∧ BKeep B b w w' := by
  have HX := hid hx
  clear hx
  go_enter Tryd.func31, Tryd.ntmps31
  go_wp2_with fail
  refine (copy_any _ h).mono ?_
  rintro e w1 ⟨rfl, h1, hb1⟩
  obtain ⟨hB, v, hbk, hown, hne⟩ := h1
  rw [Lib.byteCells_length] at hown
  have hO : ByteOwn w1 B v l := hown
  have hlt := blk_lt hbk
  have c0 := blk_cell hbk 0
  have c1 := blk_cell hbk 1
  have hs1 := hb1.2.2.2.1
  have HO := hid hO
  have HB := hid hb1
  have HBK := hid hbk
  have HNE := hid hne
  clear hown hO hb1 hbk hne h
  go_wp2_with (at_builtin; go_must (refine append_byte (W := w1) rfl (.tmp 11) (.tmp 13) rfl rfl B _ l rfl HO.out c HX.out rfl hlen (by omega) ?_))
  intro ao cap w2 ho hg
  have hb2 : w2.heap[b]? = some (.cells #[.pointer (some ⟨b, 0, none⟩), v] 55 (0, 0)) := (hg.block b hlt (fun e => HNE.out e.symm)).trans HBK.out
  have d1 := blk_cell hb2 1
  have f1 := blk_free hb2 1
  have HP := hid (Lib.BuilderAt.put (bs' := Lib.byteCells (l ++ [c])) hB hb2 (v' := .slice ao (l.length + 1) cap) (by rw [Lib.byteCells_length]; exact ho) (by decide))
  have HK := hid ((HB.out.trans (BKeep.grown hg (bu_row HO.out))).trans (BKeep.of_keeps (keeps_set w2 ⟨b, 1, none⟩ (.slice ao (l.length + 1) cap)) (Nat.le_refl _) (by simp)))
  clear ho hg
  go_wp2_with fail
  go_ret
  exact ⟨rfl, Or.inr HP.out, HK.out⟩

set_option maxRecDepth 100000 in
set_option maxHeartbeats 2000000 in
theorem writeString_any {B b : Nat} {l : List UInt8} (s : ByteArray) (m : List UInt8) (hm : s.data.toList = m) (w : World) (h : Bu B b l w) (hlen : l.length + s.size ≤ 140737488355328) (hBw : B ≤ w.heap.size) :
    Calls Tryd.prog 16 #[.pointer (some ⟨b, 0, none⟩), .string s] w fun e w' => e = .returned (.tuple #[.int .i64 s.size, .nilIface]) ∧ Bu B b (l ++ m) w' ∧ BKeep B b w w' := by
  have HX := hid hm
  clear hm
  go_enter Tryd.func16, Tryd.ntmps16
  go_wp2_with fail
  refine (copy_any _ h).mono ?_
  rintro e w1 ⟨rfl, h1, hb1⟩
  obtain ⟨hB, v, hbk, hown, hne⟩ := h1
  rw [Lib.byteCells_length] at hown
  have hO : ByteOwn w1 B v l := hown
  have hlt := blk_lt hbk
  have c0 := blk_cell hbk 0
  have c1 := blk_cell hbk 1
  have hs1 := hb1.2.2.2.1
  have HO := hid hO
  have HB := hid hb1
  have HBK := hid hbk
  have HNE := hid hne
  clear hown hO hb1 hbk hne h
  go_wp2_with (at_builtin; go_must (refine append_str rfl (.tmp 12) (.tmp 13) rfl B _ l rfl HO.out s m HX.out rfl hlen (by omega) ?_))
  intro ao cap w2 ho hg
  have hb2 : w2.heap[b]? = some (.cells #[.pointer (some ⟨b, 0, none⟩), v] 55 (0, 0)) := (hg.block b hlt (fun e => HNE.out e.symm)).trans HBK.out
  have d1 := blk_cell hb2 1
  have f1 := blk_free hb2 1
  have HP := hid (Lib.BuilderAt.put (bs' := Lib.byteCells (l ++ m)) hB hb2 (v' := .slice ao (l.length + m.length) cap) (by rw [Lib.byteCells_length]; exact ho) (by decide))
  have HK := hid ((HB.out.trans (BKeep.grown hg (bu_row HO.out))).trans (BKeep.of_keeps (keeps_set w2 ⟨b, 1, none⟩ (.slice ao (l.length + m.length) cap)) (Nat.le_refl _) (by simp)))
  clear ho hg
  go_wp2_with fail
  go_ret2
  exact ⟨rfl, Or.inr HP.out, HK.out⟩
end Go.Proofs.YtpinoolagbghnaaDoor

namespace Go.Proofs.YtpinoolagbghnaaDoor
set_option linter.unusedVariables false
open Go.RowKit Pat

theorem Bu.blk {B b : Nat} {l : List UInt8} {w : World} (h : Bu B b l w) : B ≤ b ∧ ∃ c, w.heap[b]? = some (.cells c 55 (0, 0)) := by
  rcases h with ⟨hB, v, hb, _⟩ | ⟨hB, v, hb, _⟩
  · exact ⟨hB, _, hb⟩
  · exact ⟨hB, _, hb⟩
theorem Bu.keeps {B b C : Nat} {S : List Nat} {l : List UInt8} {w w' : World} (h : Bu B b l w) (hk : Keeps C S w w') (hC : w.heap.size ≤ C) (hS : ∀ k ∈ S, ∃ c t z, w.heap[k]? = some (.cells c t z) ∧ t ≠ 55 ∧ t ≠ 5) : Bu B b l w' := by
  have key : ∀ {p : Value}, Lib.BuilderAt 55 5 B b p (Lib.byteCells l) w → Lib.BuilderAt 55 5 B b p (Lib.byteCells l) w' := fun {p} h => by
    obtain ⟨hB, v, hb, hown, hne⟩ := h
    refine ⟨hB, v, hk.blk hb (Nat.lt_of_lt_of_le (blk_lt hb) hC) (fun hm => ?_), own_keeps hown hk hC (fun k h1 h2 => ?_), hne⟩
    · obtain ⟨c, t, z, h1, h2, h3⟩ := hS b hm
      rw [hb] at h1
      simp only [Option.some.injEq, Obj.cells.injEq] at h1
      exact h2 h1.2.1.symm
    · obtain ⟨c, t, z, h3, h4, h5⟩ := hS k h2
      rcases hown.2 with ⟨h6, _⟩ | ⟨g, cap, cur, h6, _, h7, _⟩
      · rw [h6] at h1; cases h1
      · rw [h6] at h1
        simp only [Value.ownBlock, Option.some.injEq] at h1
        subst h1
        rw [h7] at h3
        simp only [Option.some.injEq, Obj.cells.injEq] at h3
        exact h5 h3.2.1.symm
  exact h.imp key key

section
variable {B b : Nat} {w w' : World}
/-- A block of another type than the builder's and bytes' stands behind a write. -/
theorem BKeep.blk (h : BKeep B b w w') {l : List UInt8} (hb : Bu B b l w) {k : Nat} {c : Array Value} {t : TypeId} {z : Nat × Nat} (hk : w.heap[k]? = some (.cells c t z)) (h1 : t ≠ 55) (h2 : t ≠ 5) : w'.heap[k]? = some (.cells c t z) := by
  obtain ⟨_, c', hb'⟩ := hb.blk
  refine h.2.2.2.2 k _ hk (fun e => ?_) (Or.inr fun c2 z2 e => ?_)
  · subst e
    rw [hk] at hb'
    simp only [Option.some.injEq, Obj.cells.injEq] at hb'
    exact h1 hb'.2.1
  · simp only [Obj.cells.injEq] at e
    exact h2 e.2.1
theorem MtRow.bkeep {lo : Nat} {aa : Option Addr} {cl : List (Bool × Nat × Nat)} (h : MtRow w lo aa cl) (hk : BKeep B b w w') {l : List UInt8} (hb : Bu B b l w) : MtRow w' lo aa cl := fun hn => by
  obtain ⟨g, c, h1, h2, h3, h4⟩ := h hn
  exact ⟨g, c, h1, h2, hk.blk hb h3 (by decide) (by decide), h4⟩
end

theorem itoa_len (f : Nat) (hf : f ≤ 65536) : (Lib.itoa ((f : Int) + 1)).length ≤ 8 := by
  have := nDigits_le (f + 1) (by omega)
  unfold Lib.itoa
  rw [if_neg (by omega)]
  exact this
theorem okD_range {caps : Nat} {d : Int} (h : okD caps d = true) (h37 : d ≠ 37) : d = 48 ∨ (49 ≤ d ∧ d ≤ 57 ∧ (d - 48 ≤ caps ∨ (d = 49 ∧ caps = 0))) := by
  unfold okD at h
  simp only [Bool.or_eq_true, Bool.and_eq_true, decide_eq_true_eq] at h
  omega

section
variable {B b m : Nat} {s r : ByteArray} {mt : Mt} {ca : Nat} {aa : Option Addr} {w : World} {l : List UInt8} {cm : Array Value} {zm : Nat × Nat}
set_option maxRecDepth 100000 in
set_option maxHeartbeats 8000000 in
theorem replace_any (hs : s.size ≤ 65536) (hr : r.size ≤ 1048576) (hl : mt.caps.length ≤ 16) (hmt : MtOk s mt.caps.length mt) (hok : okP r mt.caps.length (r.size + 1) 0 = true)
    (hm : w.heap[m]? = some (.cells cm 52 zm)) (hm1 : cm[1]? = some (.string s)) (ha : MtRow w 0 aa mt.caps) (hbu : Bu B b l w) (hll : l.length ≤ 65536) (hBw : B ≤ w.heap.size)
    (htab : Lib.TabBelow Tryd.prog B w "internal/strconv.uint64pow10" .u64 Lib.pow10Tab) :
    Calls Tryd.prog 18 #[.pointer (some ⟨m, 0, none⟩), .pointer (some ⟨b, 0, none⟩), .string r, .agg #[.int .i64 mt.a, .int .i64 mt.e, .slice aa mt.caps.length ca]] w fun e w' =>
      e = .returned (.tuple #[]) ∧ Bu B b (l ++ fillP s r mt.caps.length mt (r.size + 1) 0) w' ∧ BKeep B b w w' := by
  obtain ⟨T, hT⟩ : ∃ T, fillP s r mt.caps.length mt (r.size + 1) 0 = T := ⟨_, rfl⟩
  rw [hT]
  have HT := hid hT
  have HOK := hid hok
  have hmI : (0 : Int) ≤ mt.a ∧ (mt.a : Int) ≤ mt.e ∧ (mt.e : Int) ≤ s.size := by have := hmt.ae; have := hmt.es; omega
  obtain ⟨W0, hW0⟩ : ∃ W0, W0 = w.alloc (.cells #[.int .i64 mt.a, .int .i64 mt.e, .slice aa mt.caps.length ca] 32) := ⟨_, rfl⟩
  have hk0 : Keeps w.heap.size [] w W0 := by rw [hW0]; exact (Keeps.refl _ _ _).alloc (Nat.le_refl _) _
  have hb0 : W0.heap[w.heap.size]? = some (.cells #[.int .i64 mt.a, .int .i64 mt.e, .slice aa mt.caps.length ca] 32 (0, 0)) := by rw [hW0]; exact blk_new _ _
  have HB0 : Hid (Bu B b l W0) := hid (hbu.keeps hk0 (Nat.le_refl _) (by simp))
  have HBK0 : Hid (BKeep B b w W0) := hid (BKeep.of_keeps hk0 (Nat.le_refl _) (by simp))
  have HA0 := hid (ha.keeps hk0 (Nat.le_refl _) (by simp) (Nat.le_refl _))
  have hm0 := hk0.blk hm (blk_lt hm) (by simp)
  have HM0 := hid hm0
  have HFB := hid hb0
  have HTAB := hid htab
  have HW0 := hid hW0
  have HMT := hid hmt
  have hBW0 : B ≤ W0.heap.size := Nat.le_trans hBw hk0.size
  have HM1 := hid hm1
  clear hT hok hW0 ha hbu hm hk0 hm0 hb0 htab hmt hm1
  go_enter Tryd.func18, Tryd.ntmps18
  go_upto_region 1 with fail
  rw [← HW0.out]
  go_wp2_with fail
  go_loopw [8] (fun kv wr => ∃ (k : Nat) (acc : List UInt8) (fu : Nat), kv = .int .i64 k ∧ k ≤ r.size ∧ Bu B b (l ++ acc) wr ∧ BKeep B b W0 wr ∧ Hid (r.size < fu + k ∧ acc ++ fillP s r mt.caps.length mt fu k = T ∧ okP r mt.caps.length fu k = true) ∧ acc.length ≤ 65560 * k) (fun kv _ => r.size - (intOf kv).toNat)
  case atStart => exact ⟨0, [], r.size + 1, rfl, Nat.zero_le _, by simpa using HB0.out, BKeep.refl _ _ _, hid ⟨by omega, HT.out, HOK.out⟩, by simp⟩
  case round =>
    obtain ⟨k, acc, fu, rfl, hk, hbu, hkw, HF, hacc⟩ := hrel
    have HBU := hid hbu
    have HK := hid hkw
    have hszr := hkw.2.2.2.1
    have hBr : B ≤ wr.heap.size := Nat.le_trans hBW0 hszr
    have hfb := hkw.blk HB0.out HFB.out (by decide) (by decide)
    have hmb := hkw.blk HB0.out HM0.out (by decide) (by decide)
    obtain ⟨f0, f1, f2⟩ := box_facts hfb
    have hms : wr.cell? ⟨m, 1, none⟩ = some (.string s) := by
      have : wr.cell? ⟨m, 1, none⟩ = cm[1]? := by simp [World.cell?, hmb]
      rw [this]; exact HM1.out
    have hlen2 : (l ++ acc).length = l.length + acc.length := List.length_append
    have HL2 := hid hlen2
    have hlb : ∀ n : Nat, n ≤ 65560 → (l ++ acc).length + n ≤ 140737488355328 := fun n hn => by rw [HL2.out]; omega
    have HLB := hid hlb
    clear hbu hkw hfb hmb hlen2 hlb
    by_cases hlt : k < r.size
    · obtain ⟨fu', rfl⟩ : ∃ x, fu = x + 1 := ⟨fu - 1, by have := HF.out.1; omega⟩
      have hcb := bt_of_lt hlt
      have h1 : (0 : Int) ≤ k ∧ (k : Int) < r.size := ⟨by omega, by omega⟩
      by_cases hc : bt r k = 37
      · have z1 : ((r[k].toNat : Int) != 37) = false := by rw [hcb] at hc; simpa using hc
        obtain ⟨k1, hk1⟩ : ∃ k1 : Nat, k1 = k + 1 := ⟨_, rfl⟩
        have hsh : k1 < r.size := by
          apply Nat.lt_of_not_le
          intro hge
          have := HF.out.2.2
          rw [okP_short hlt hc (by omega)] at this
          cases this
        have HK1 := hid hk1
        have hkI : (0 : Int) ≤ k1 ∧ (k1 : Int) ≤ 1048577 := ⟨by omega, by omega⟩
        have hcc := hid hc
        clear hc hcb hk1
        go_upto_region 6 with fail
        go_cut [8] from 25 to 27 (fun v wx => v = .int .i64 (k1 : Int) ∧ wr = wx)
        case first =>
          go_wp2_with fail
          go_meet
          exact ⟨by rw [HK1.out]; simp, rfl⟩
        case rest =>
        obtain ⟨rfl, rfl⟩ := hcut
        obtain ⟨d, hd⟩ : ∃ d : Int, (r[k1].toNat : Int) = d := ⟨_, rfl⟩
        have HD : Hid (bt r k1 = d) := hid ((bt_of_lt hsh).trans hd)
        have hdI : 0 ≤ d ∧ d ≤ 255 := by have := bt_nonneg r k1; have := bt_le r k1; have := HD.out; omega
        have h3 : (0 : Int) ≤ k1 ∧ (k1 : Int) < r.size := ⟨by omega, by omega⟩
        have hokd : okD mt.caps.length d = true := by
          have h5 := HF.out.2.2
          rw [okP_esc hlt hcc.out (by have := HK1.out; omega)] at h5
          rw [← HD.out, HK1.out]
          rw [Bool.and_eq_true] at h5
          exact h5.1
        by_cases h37 : d = 37
        · have HFF := hid (fill_next hlt hcc.out HK1.out hsh (pc := [37]) (by rw [HD.out, h37]; exact piece_37) (by rw [HD.out]; exact hokd) HF.out)
          have y37 : (d == 37) = true := by simpa using h37
          clear HF h37 hokd
          go_wp2_with fail
          refine (writeByte_any 37 37 rfl _ HBU.out (HLB.out 1 (by omega)) hBr).mono ?_
          rintro e w4 ⟨rfl, hb4, hk4⟩
          have HB4 := hid hb4
          have HK4 := hid (HK.out.trans hk4)
          clear hb4 hk4
          go_wp2_with fail
          go_roundw
          case rel => exact ⟨k1 + 1, acc ++ [37], fu', by go_num, by omega, by rw [← List.append_assoc]; exact HB4.out, HK4.out, hid ⟨HFF.out.1, HFF.out.2.1, by rw [HFF.out.2.2]⟩, by have := HK1.out; simp; omega⟩
          case measure => have := HK1.out; simp [intOf]; omega
        · have y37 : (d == 37) = false := by simpa using h37
          rcases okD_range hokd h37 with rfl | ⟨h49, h57, hcap⟩
          · have HFF := hid (fill_next hlt hcc.out HK1.out hsh (pc := sub s mt.a mt.e) (by rw [HD.out]; exact piece_sub (Or.inl rfl)) (by rw [HD.out]; exact hokd) HF.out)
            have hsl := sub_len (s := s) mt.a mt.e
            have hsz : (s.extract mt.a mt.e).size ≤ s.size := by rw [ByteArray.size_extract]; omega
            clear HF h37 hokd
            go_upto_region 9 with fail
            go_cut [9] from 33 to 38 (fun v wx => v = .int .i64 0 ∧ wr = wx)
            case first =>
              go_wp2_with fail
              go_meet
              exact ⟨rfl, rfl⟩
            case rest =>
            obtain ⟨rfl, rfl⟩ := hcut
            go_upto_region 12 with fail
            go_still_tail 10, (by kernel_rfl)
            change wpList _ _ _ _ _ wr.drew
            go_wp2_with fail
            refine (writeString_any (s.extract mt.a mt.e) (sub s mt.a mt.e) rfl wr.drew HBU.out (HLB.out _ (by omega)) hBr).mono ?_
            rintro e w4 ⟨rfl, hb4, hk4⟩
            have HB4 := hid hb4
            have HK4 : Hid (BKeep B b W0 w4) := hid (HK.out.trans hk4)
            clear hb4 hk4
            go_wp2_with fail
            go_roundw
            case rel => exact ⟨k1 + 1, acc ++ sub s mt.a mt.e, fu', by go_num, by omega, by rw [← List.append_assoc]; exact HB4.out, HK4.out, hid ⟨HFF.out.1, HFF.out.2.1, by rw [HFF.out.2.2]⟩, by have := HK1.out; rw [List.length_append]; omega⟩
            case measure => have := HK1.out; simp [intOf]; omega
          · obtain ⟨j, hj⟩ : ∃ j : Nat, d - 49 = j := ⟨(d - 49).toNat, by omega⟩
            have HJ := hid hj
            have hj8 : j ≤ 8 := by omega
            have hjI : (0 : Int) ≤ j ∧ (j : Int) ≤ 8 := by omega
            go_upto_region 9 with fail
            go_cut [9] from 33 to 38 (fun v wx => v = .int .i64 ((j : Int) + 1) ∧ wr = wx)
            case first =>
              clear hj
              go_wp2_with fail
              go_meet
              exact ⟨by congr 1; have := HJ.out; omega, rfl⟩
            case rest =>
            obtain ⟨rfl, rfl⟩ := hcut
            have y0 : ((j : Int) + 1 == 0) = false := by simp; omega
            by_cases hc0 : mt.caps.length = 0
            · have h48 : d = 48 ∨ (d = 49 ∧ mt.caps.length = 0) := Or.inr ⟨by omega, hc0⟩
              have HFF := hid (fill_next hlt hcc.out HK1.out hsh (pc := sub s mt.a mt.e) (by rw [HD.out]; exact piece_sub h48) (by rw [HD.out]; exact hokd) HF.out)
              have hsl := sub_len (s := s) mt.a mt.e
              have hsz : (s.extract mt.a mt.e).size ≤ s.size := by rw [ByteArray.size_extract]; omega
              have yc : ((mt.caps.length : Int) == 0) = true := by rw [hc0]; rfl
              clear HF h37 hokd h48 hc0 hj hcap
              go_upto_region 12 with fail
              go_still_tail 10, (by kernel_rfl)
              change wpList _ _ _ _ _ wr.drew
              go_wp2_with fail
              refine (writeString_any (s.extract mt.a mt.e) (sub s mt.a mt.e) rfl wr.drew HBU.out (HLB.out _ (by omega)) hBr).mono ?_
              rintro e w4 ⟨rfl, hb4, hk4⟩
              have HB4 := hid hb4
              have HK4 : Hid (BKeep B b W0 w4) := hid (HK.out.trans hk4)
              clear hb4 hk4
              go_wp2_with fail
              go_roundw
              case rel => exact ⟨k1 + 1, acc ++ sub s mt.a mt.e, fu', by go_num, by omega, by rw [← List.append_assoc]; exact HB4.out, HK4.out, hid ⟨HFF.out.1, HFF.out.2.1, by rw [HFF.out.2.2]⟩, by have := HK1.out; rw [List.length_append]; omega⟩
              case measure => have := HK1.out; simp [intOf]; omega
            · have yc : ((mt.caps.length : Int) == 0) = false := by simp; simpa using hc0
              have hjc : j < mt.caps.length := by omega
              obtain ⟨⟨bb, f, t⟩, hget⟩ : ∃ x, mt.caps[j]? = some x := ⟨_, List.getElem?_eq_getElem hjc⟩
              have hpc := piece_cap (s := s) (m := mt) (caps := mt.caps.length) (d := d) (j := j) hj (by omega)
              rw [hget] at hpc
              have hfs := HMT.out.frm _ _ _ _ hget
              have hft := HMT.out.cap _ _ _ _ hget
              obtain ⟨g, haa, hgl, hc0', hc1', hc2'⟩ := (HA0.out.bkeep HK.out HB0.out).at_ _ _ _ _ hget
              subst haa
              have hjI2 : (0 : Int) ≤ j ∧ (j : Int) < mt.caps.length := by omega
              have HGET := hid hget
              have HPC := hid hpc
              have HOKD := hid hokd
              clear hc0 hget hpc h37 hokd hj hcap
              cases bb with
              | true =>
                have HFF := hid (fill_next hlt hcc.out HK1.out hsh (pc := Lib.itoa ((f : Int) + 1)) (by rw [HD.out]; exact HPC.out) (by rw [HD.out]; exact HOKD.out) HF.out)
                have hil := itoa_len f (by omega)
                have hfI : (0 : Int) ≤ f ∧ (f : Int) ≤ 65536 := by omega
                have hsl3 : (⟨(Lib.itoa ((f : Int) + 1)).toArray⟩ : ByteArray).size ≤ 8 := by
                  show (Lib.itoa ((f : Int) + 1)).toArray.size ≤ 8
                  rw [List.size_toArray]; exact hil
                have hit := Tryd.strconv_Itoa ((f : Int) + 1) (by omega) (by omega) wr (HTAB.out wr ((HBK0.out.trans HK.out).below HBU.out.blk.1 hBw))
                have HIT := hid hit
                clear HF hft hit
                go_wp2_with fail
                refine HIT.out.mono ?_
                rintro e w3 ⟨rfl, kk, os, rfl⟩
                have hkg : Keeps wr.heap.size [] wr (Go.Sort.grow (wr.drewN kk) os) := Keeps.of_below (Lib.below_grow wr.heap.size wr (Nat.le_refl _) kk os)
                obtain ⟨w3, hw3⟩ : ∃ w3, w3 = Go.Sort.grow (wr.drewN kk) os := ⟨_, rfl⟩
                rw [← hw3] at hkg ⊢
                have HB3 := hid (HBU.out.keeps hkg (Nat.le_refl _) (by simp))
                have HK3 := hid (HK.out.trans (BKeep.of_keeps hkg (Nat.le_refl _) (by simp)))
                have hB3 : B ≤ w3.heap.size := Nat.le_trans hBr hkg.size
                clear hkg hw3 hc0' hc1' hc2' f0 f1 f2 hms
                go_wp2_with fail
                refine (writeString_any ⟨(Lib.itoa ((f : Int) + 1)).toArray⟩ (Lib.itoa ((f : Int) + 1)) rfl w3 HB3.out (HLB.out _ (by omega)) hB3).mono ?_
                rintro e w4 ⟨rfl, hb4, hk4⟩
                have HB4 := hid hb4
                have HK4 : Hid (BKeep B b W0 w4) := hid (HK3.out.trans hk4)
                clear hb4 hk4
                go_wp2_with fail
                go_roundw
                case rel => exact ⟨k1 + 1, acc ++ Lib.itoa ((f : Int) + 1), fu', by go_num, by omega, by rw [← List.append_assoc]; exact HB4.out, HK4.out, hid ⟨HFF.out.1, HFF.out.2.1, by rw [HFF.out.2.2]⟩, by have := HK1.out; rw [List.length_append]; omega⟩
                case measure => have := HK1.out; simp [intOf]; omega
              | false =>
                obtain ⟨hft1, hft2⟩ := hft rfl
                have HFF := hid (fill_next hlt hcc.out HK1.out hsh (pc := sub s f t) (by rw [HD.out]; exact HPC.out) (by rw [HD.out]; exact HOKD.out) HF.out)
                have hftI : (0 : Int) ≤ f ∧ (f : Int) ≤ t ∧ (t : Int) ≤ s.size := by omega
                have hsl := sub_len (s := s) f t
                have hsz : (s.extract f t).size ≤ s.size := by rw [ByteArray.size_extract]; omega
                clear HF hft
                go_upto_region 10 with fail
                have ew : IntKind.i64.wrap (j : Int) = (j : Int) := IntWalk.i64_in _ (by omega)
                go_still_tail 20, (by kernel_rfl)
                change wpList _ _ _ _ _ wr.drew
                go_wp2_with fail
                refine (writeString_any (s.extract f t) (sub s f t) rfl wr.drew HBU.out (HLB.out _ (by omega)) hBr).mono ?_
                rintro e w4 ⟨rfl, hb4, hk4⟩
                have HB4 := hid hb4
                have HK4 : Hid (BKeep B b W0 w4) := hid (HK.out.trans hk4)
                clear hb4 hk4
                go_wp2_with fail
                go_roundw
                case rel => exact ⟨k1 + 1, acc ++ sub s f t, fu', by go_num, by omega, by rw [← List.append_assoc]; exact HB4.out, HK4.out, hid ⟨HFF.out.1, HFF.out.2.1, by rw [HFF.out.2.2]⟩, by have := HK1.out; rw [List.length_append]; omega⟩
                case measure => have := HK1.out; simp [intOf]; omega
      · have z1 : ((r[k].toNat : Int) != 37) = true := by rw [hcb] at hc; simpa using hc
        have HFF : Hid (r.size < fu' + (k + 1) ∧ (acc ++ [r[k]]) ++ fillP s r mt.caps.length mt fu' (k + 1) = T ∧ okP r mt.caps.length fu' (k + 1) = true) := hid (by
          obtain ⟨a1, a2, a3⟩ := HF.out
          rw [fillP_plain hlt hc] at a2
          rw [okP_plain hlt hc] at a3
          exact ⟨by omega, by rw [← a2]; simp, a3⟩)
        have hcb' := hid hcb
        clear HF hc hcb
        go_wp2_with fail
        refine (writeByte_any r[k] _ rfl _ HBU.out (HLB.out 1 (by omega)) hBr).mono ?_
        rintro e w4 ⟨rfl, hb4, hk4⟩
        have HB4 := hid hb4
        have HK4 := hid (HK.out.trans hk4)
        clear hb4 hk4
        go_wp2_with fail
        go_roundw
        case rel => exact ⟨k + 1, acc ++ [r[k]], fu', by go_num, by omega, by rw [← List.append_assoc]; exact HB4.out, HK4.out, HFF, by simp; omega⟩
        case measure => simp [intOf]; omega
    · have h1 : ¬ ((k : Int) < r.size) := by omega
      have hend : Hid (acc = T) := hid (by
        obtain ⟨a1, a2, a3⟩ := HF.out
        rw [fillP_end (by omega)] at a2
        rw [← a2]; simp)
      clear HF
      go_wp2_with fail
      go_end0
      exact ⟨rfl, by rw [← hend.out]; exact HBU.out, HBK0.out.trans HK.out⟩
end
end Go.Proofs.YtpinoolagbghnaaDoor
