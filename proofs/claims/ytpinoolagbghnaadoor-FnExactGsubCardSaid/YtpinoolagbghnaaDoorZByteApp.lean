/-
  Plain laws on worlds, over any program: an append to a row that the call itself made, saying also that the new row is the old one or a new block; a row cut shorter; a store into a row.
  Walk: the reference's l01Dec gives the decimal digits of a small natural number.
  Walk laws: an append of a byte, of a string, to a row of bytes of the call's own.
-/
import Derived.Test.YtpinoolagbghnaaDoorZMem
import Derived.Laws.AppendOwn
import Derived.WalkSpells
import Derived.Test.YtpinoolagbghnaaDoorProg
import Derived.WalkKit
import Derived.WalkLawsBesides
import Derived.LoopTactic
import Derived.Outline
import Derived.BigRegion
import Derived.BigQuiet
import Derived.Deep.QuietTactic
import Derived.RegionTactic
import Derived.Deep.RegionLaw
import Derived.Deep.CutRange
import Derived.Deep.CutBlock
import Derived.Lib.ItoaNum
import Derived.Lib.UnsafeStr
import Derived.Lib.BufferWrite
import Derived.Laws.IdiomStrings
import Derived.Deep.DeepMust
import Derived.Handy
import Derived.Lib.AppendStr
namespace Go.Proofs.YtpinoolagbghnaaDoor
set_option linter.unusedVariables false
open Go.RowKit

/-- The new row is the old one, or a new block. -/
def Near (w : World) (v v' : Value) : Prop := ∀ k, v'.ownBlock = some k → v.ownBlock = some k ∨ w.heap.size ≤ k

theorem run_append_near {P : Program} (w : World) (base : Nat) (t ty e : TypeId) (i : TypeInfo) (z : Value) (size bytes : Nat) (ht : P.underlying t = some (.slice e)) (hi : P.info? e = some i) (hz : i.zero = some z)
    (hsize : i.size = size) (hby : i.bytes = bytes) (hzs : z.cells.size = size) (hsz : 0 < size)
    (v : Value) (n : Nat) (xs : List Value) (hown : w.ownsRow base e size v n xs)
    (a : Addr) (m c : Nat) (news : List Value) (hl : news.length = m * size) (hnews : ∀ j u, news[j]? = some u → w.cell? (a.add j) = some u) (h1 : ∀ u ∈ news, u.oneCell' = true)
    (h63 : n + m ≤ maxLen) (hbytes : (n + m) * bytes ≤ 140737488355328) (hbase : base ≤ w.heap.size) :
    ∃ v' w', (Builtin.append_ #[t, t] ty #[v, .slice (some a) m c]).run P w = .ok v' w' ∧ w'.ownsRow base e size v' (n + m) (xs ++ news) ∧ w.grownBy w' v.ownBlock ∧ Near w v v' := by
  obtain ⟨v', w', hr, ho, hg, hn⟩ := run_append_own (P := P) w base t ty e i z size bytes ht hi hz hsize hby hzs hsz v n xs hown a m c news hl hnews h1 h63 hbytes hbase
  refine ⟨v', w', hr, ho, hg, ?_⟩
  rcases hown.2 with ⟨rfl, hn0⟩ | ⟨g, cap, cur, rfl, hbg, hgg, hnc, hcm, hcs, htake⟩
  · -- nil: the new row lies from any base on
    subst hn0
    have hx : xs = [] := List.eq_nil_of_length_eq_zero (by simpa using hown.1)
    subst hx
    obtain ⟨v2, w2, hr2, ho2, _, _⟩ := run_append_own (P := P) w w.heap.size t ty e i z size bytes ht hi hz hsize hby hzs hsz _ 0 [] (World.ownsRow_nil w w.heap.size e size) a m c news hl hnews h1 h63 hbytes (Nat.le_refl _)
    rw [hr] at hr2
    simp only [Result.ok.injEq] at hr2
    obtain ⟨rfl, rfl⟩ := hr2
    intro k hk
    exact Or.inr (ho2.lt k hk).1
  · by_cases hroom : n + m ≤ cap
    · have hfit : n * i.size + news.length ≤ cur.size := by rw [hl, hcs, hsize, ← Nat.add_mul]; exact Nat.mul_le_mul_right _ hroom
      subst hsize
      have hr2 := run_append_room (P := P) w t ty e i ht hi g n cap cur hgg a m c news hl hnews h1 hroom hfit
      rw [hr] at hr2
      simp only [Result.ok.injEq] at hr2
      obtain ⟨rfl, -⟩ := hr2
      intro k hk
      exact Or.inl hk
    · subst hsize
      subst hby
      have holds : ∀ j u, xs[j]? = some u → w.cell? ((⟨g, 0, none⟩ : Addr).add j) = some u := hown.cells (g := g) rfl
      have hr2 := run_append_grow (P := P) w t ty e i z ht hi hz ⟨g, 0, none⟩ n cap xs hown.1 holds a m c news hl hnews (by omega) (by simp only [maxLen] at h63; omega) (growslice_fits (by simp only [maxLen] at h63; omega) hbytes)
      rw [hr] at hr2
      simp only [Result.ok.injEq] at hr2
      obtain ⟨rfl, -⟩ := hr2
      intro k hk
      simp only [Value.ownBlock, Option.some.injEq] at hk
      right
      rw [← hk]
      exact Nat.le_refl _

theorem wpList_append_near {P : Program} (w : World) {ops : Array Oper} {rest : List Oper} {o : Oper} {a : Act} {Q : Exit → Act → World → Prop} (hgd : o.guard = none) (s x : Operand) (t : TypeId)
    (ho : o.op = .call { callee := .builtin .append, args := #[s, x], argTypes := #[t, t] })
    (base : Nat) (e : TypeId) (i : TypeInfo) (z : Value) (size bytes : Nat) (ht : P.underlying t = some (.slice e)) (hi : P.info? e = some i) (hz : i.zero = some z)
    (hsize : i.size = size) (hby : i.bytes = bytes) (hzs : z.cells.size = size) (hsz : 0 < size)
    (v : Value) (n : Nat) (xs : List Value) (hs : a.eval s = v) (hown : w.ownsRow base e size v n xs)
    (ad : Addr) (m c : Nat) (news : List Value) (hx : a.eval x = .slice (some ad) m c) (hl : news.length = m * size) (hnews : ∀ j u, news[j]? = some u → w.cell? (ad.add j) = some u) (h1 : ∀ u ∈ news, u.oneCell' = true)
    (h63 : n + m ≤ maxLen) (hbytes : (n + m) * bytes ≤ 140737488355328) (hbase : base ≤ w.heap.size)
    (h : ∀ v' w', w'.ownsRow base e size v' (n + m) (xs ++ news) → w.grownBy w' v.ownBlock → Near w v v' → wpList P ops Q rest (a.put o.dst v') w') : wpList P ops Q (o :: rest) a w :=
  wpList_plain hgd fun K hK => by
    obtain ⟨v', w', hr, h2, h3, h4⟩ := run_append_near (P := P) w base t o.type e i z size bytes ht hi hz hsize hby hzs hsz v n xs hown ad m c news hl hnews h1 h63 hbytes hbase
    unfold Oper.wp execOp
    simp only [ho, resolve, invoke, builtin, Sem.run_bind, Sem.run_pure, Result.andThen_ok, List.map_toArray, List.map_cons, List.map_nil, hs, hx, hr]
    exact hK _ _ (h v' w' h2 h3 h4)

theorem grownBy_of_alloc {W w' : World} {o : Obj} {row : Option Nat} (h : (W.alloc o).grownBy w' row) : W.grownBy w' row :=
  ⟨h.os, h.tape, h.output, by have := h.size; simp at this; omega, fun k hk hr => (h.block k (by simp; omega) hr).trans (Below.heap_alloc _ _ _ hk)⟩

/-- 'xs = append(xs, u)', u of some cells that stand in a new block of their own. -/
theorem append_new {P : Program} {ops : Array Oper} {rest : List Oper} {o : Oper} {a : Act} {Q : Exit → Act → World → Prop} {W w : World} {us : List Value} (hgd : o.guard = none) (s x : Operand) (t : TypeId)
    (ho : o.op = .call { callee := .builtin .append, args := #[s, x], argTypes := #[t, t] })
    (e : TypeId) (hw : w = W.alloc (.cells us.toArray e)) (z : Value) (size bytes : Nat) (ht : P.underlying t = some (.slice e)) (hinfo : (P.info? e).map (fun i => (i.zero, i.size, i.bytes)) = some (some z, size, bytes))
    (hzs : z.cells.size = size) (hsz : 0 < size) (B : Nat) (v : Value) (n : Nat) (xs : List Value) (hs : a.eval s = v) (hown : W.ownsRow B e size v n xs)
    (hx : a.eval x = .slice (some ⟨W.heap.size, 0, none⟩) 1 1) (hl : us.length = size) (h1 : ∀ u ∈ us, u.oneCell' = true)
    (h63 : n + 1 ≤ maxLen) (hbytes : (n + 1) * bytes ≤ 140737488355328) (hB : B ≤ W.heap.size)
    (h : ∀ ao cap w', w'.ownsRow B e size (.slice ao (n + 1) cap) (n + 1) (xs ++ us) → W.grownBy w' v.ownBlock → Near W v (.slice ao (n + 1) cap) → wpList P ops Q rest (a.put o.dst (.slice ao (n + 1) cap)) w') :
    wpList P ops Q (o :: rest) a w := by
  subst hw
  obtain ⟨i, hi, hz, h4, h5⟩ := info_parts hinfo
  refine wpList_append_near _ hgd s x t ho B e i z size bytes ht hi hz h4 h5 hzs hsz v n xs hs (hown.alloc _) ⟨W.heap.size, 0, none⟩ 1 1 us hx (by rw [hl]; simp) ?_ h1 h63 hbytes (by simp; omega) ?_
  · intro j u hu
    have hadd : (⟨W.heap.size, 0, none⟩ : Addr).add j = ⟨W.heap.size, j, none⟩ := by unfold Addr.add; split <;> simp_all
    rw [hadd, World.cell?_alloc_new]
    simpa using hu
  · intro v' w' ho' hg hn
    have hform : ∃ ao cap, v' = .slice ao (n + 1) cap := by
      rcases ho'.2 with ⟨rfl, h0⟩ | ⟨g, cap, cur, rfl, _⟩
      · omega
      · exact ⟨_, cap, rfl⟩
    obtain ⟨ao, cap, rfl⟩ := hform
    exact h ao cap w' ho' (grownBy_of_alloc hg) (fun k hk => (hn k hk).imp id (fun h => by simp at h; omega))
#print axioms append_new

/-- The same as one step of a region that draws its order. -/
theorem step_append_new {P : Program} {ops : Array Oper} {o : Oper} {a : Act} {K : Act → World → Prop} {Q : Exit → Act → World → Prop} {E : Prop} {W w : World} {us : List Value} (hgd : o.guard = none) (s x : Operand) (t : TypeId)
    (ho : o.op = .call { callee := .builtin .append, args := #[s, x], argTypes := #[t, t] })
    (e : TypeId) (hw : w = W.alloc (.cells us.toArray e)) (z : Value) (size bytes : Nat) (ht : P.underlying t = some (.slice e)) (hinfo : (P.info? e).map (fun i => (i.zero, i.size, i.bytes)) = some (some z, size, bytes))
    (hzs : z.cells.size = size) (hsz : 0 < size) (B : Nat) (v : Value) (n : Nat) (xs : List Value) (hs : a.eval s = v) (hown : W.ownsRow B e size v n xs)
    (hx : a.eval x = .slice (some ⟨W.heap.size, 0, none⟩) 1 1) (hl : us.length = size) (h1 : ∀ u ∈ us, u.oneCell' = true)
    (h63 : n + 1 ≤ maxLen) (hbytes : (n + 1) * bytes ≤ 140737488355328) (hB : B ≤ W.heap.size)
    (h : ∀ ao cap w', w'.ownsRow B e size (.slice ao (n + 1) cap) (n + 1) (xs ++ us) → W.grownBy w' v.ownBlock → Near W v (.slice ao (n + 1) cap) → K (a.put o.dst (.slice ao (n + 1) cap)) w') :
    if Region.wanted o (yielded ops a.tmps) = true then Oper.wp P o a w K Q else E := by
  subst hw
  rw [if_pos (by simp [Region.wanted, hgd])]
  obtain ⟨i, hi, hz, h4, h5⟩ := info_parts hinfo
  obtain ⟨v', w', hr, ho', hg, hn⟩ := run_append_near (P := P) (W.alloc (.cells us.toArray e)) B t o.type e i z size bytes ht hi hz h4 h5 hzs hsz v n xs (hown.alloc _) ⟨W.heap.size, 0, none⟩ 1 1 us (by rw [hl]; simp)
    (by
      intro j u hu
      have hadd : (⟨W.heap.size, 0, none⟩ : Addr).add j = ⟨W.heap.size, j, none⟩ := by unfold Addr.add; split <;> simp_all
      rw [hadd, World.cell?_alloc_new]
      simpa using hu) h1 h63 hbytes (by simp; omega)
  have hform : ∃ ao cap, v' = .slice ao (n + 1) cap := by
    rcases ho'.2 with ⟨rfl, h0⟩ | ⟨g, cap, cur, rfl, _⟩
    · omega
    · exact ⟨_, cap, rfl⟩
  obtain ⟨ao, cap, rfl⟩ := hform
  unfold Oper.wp execOp
  simp only [ho, resolve, invoke, builtin, Sem.run_bind, Sem.run_pure, Result.andThen_ok, List.map_toArray, List.map_cons, List.map_nil, hs, hx, hr]
  exact h ao cap w' ho' (grownBy_of_alloc hg) (fun k hk => (hn k hk).imp id (fun h => by simp at h; omega))
#print axioms step_append_new
end Go.Proofs.YtpinoolagbghnaaDoor

namespace Go.Proofs.YtpinoolagbghnaaDoor
set_option linter.unusedVariables false
open Go.RowKit

theorem info_u8 : (Tryd.prog.info? 5).map (fun i => (i.zero, i.size, i.bytes)) = some (some (.int .u8 0), 1, 1) := by kernel_rfl

/-- A row of bytes of the call's own. -/
abbrev ByteOwn (w : World) (B : Nat) (v : Value) (l : List UInt8) : Prop := w.ownsRow B 5 1 v l.length (Lib.byteCells l)

theorem byteOwn_string {w : World} {B : Nat} {a : Option Addr} {n cap : Nat} {l : List UInt8} (h : ByteOwn w B (.slice a n cap) l) : ∀ dst, Tryd.prog.underlying dst = some .string → (convert 43 dst (.slice a n cap)).run Tryd.prog w = .ok (.string ⟨l.toArray⟩) w := by
  intro dst hd
  rcases h.2 with ⟨h1, h2⟩ | ⟨g, cap', cur, h1, hrest⟩
  · simp only [Value.slice.injEq] at h1
    obtain ⟨rfl, rfl, rfl⟩ := h1
    have hl : l = [] := List.eq_nil_of_length_eq_zero h2
    subst hl
    rw [run_convert_bytes_string w 43 dst 5 _ _ _ Tryd.underlying43 Tryd.underlying5 hd]
    simp [Conv.bytesToString]
    rfl
  · have hc := h.cells (g := g) (by rw [h1]; rfl)
    simp only [Value.slice.injEq] at h1
    obtain ⟨rfl, rfl, rfl⟩ := h1
    exact run_convert_bytes_back w 43 dst 5 ⟨g, 0, none⟩ cap l Tryd.underlying43 Tryd.underlying5 hd (fun j hj => hc j _ (by simp [Lib.byteCells, hj]))

theorem dec_digit (x : Nat) : Lib.byteCells [UInt8.ofNat (48 + x % 10)] = [.int .u8 (48 + (x : Int) % 10)] := by
  have h : ((UInt8.ofNat (48 + x % 10)).toNat : Int) = 48 + (x : Int) % 10 := by simp; omega
  show [Value.int .u8 ((UInt8.ofNat (48 + x % 10)).toNat : Int)] = _
  rw [h]

theorem cell_alloc_lt (w : World) (o : Obj) {g : Nat} (h : g < w.heap.size) (j : Nat) : (w.alloc o).cell? ((⟨g, 0, none⟩ : Addr).add j) = w.cell? ((⟨g, 0, none⟩ : Addr).add j) := by
  have hadd : (⟨g, 0, none⟩ : Addr).add j = ⟨g, j, none⟩ := by unfold Addr.add; split <;> simp_all
  rw [hadd]
  exact World.cell?_of_block (w := w) (Below.heap_alloc _ _ _ h)

/-- How the digits so far stand to the number. -/
def DecInv (u x : Nat) (l : List UInt8) : Prop := Lib.decDigits u = (if x < 10 then [] else Lib.decDigits (x / 10)) ++ l
theorem DecInv.start (u : Nat) : DecInv u u [UInt8.ofNat (48 + u % 10)] := by
  unfold DecInv
  by_cases h : u < 10
  · rw [if_pos h, Lib.decDigits_one h, Nat.mod_eq_of_lt h]; rfl
  · rw [if_neg h]; conv => lhs; rw [Lib.decDigits, dif_neg h]
theorem DecInv.next {u x : Nat} {l : List UInt8} (h : DecInv u x l) (hx : 10 ≤ x) : DecInv u (x / 10) (UInt8.ofNat (48 + x / 10 % 10) :: l) := by
  unfold DecInv at h ⊢
  rw [if_neg (by omega)] at h
  rw [h]
  by_cases h1 : x / 10 < 10
  · rw [if_pos h1, Lib.decDigits_one h1, Nat.mod_eq_of_lt h1]; rfl
  · rw [if_neg h1]; conv => lhs; rw [Lib.decDigits, dif_neg h1]
    simp
theorem DecInv.done {u x : Nat} {l : List UInt8} (h : DecInv u x l) (hx : x < 10) : l = Lib.decDigits u := by
  unfold DecInv at h
  rw [if_pos hx] at h
  exact h.symm
theorem DecInv.len {u x : Nat} {l : List UInt8} (h : DecInv u x l) : l.length ≤ (Lib.decDigits u).length := by
  unfold DecInv at h
  rw [h, List.length_append]; omega
theorem nDigits_le (u : Nat) (h : u ≤ 1000000) : (Lib.decDigits u).length ≤ 8 := by
  rw [Lib.decDigits_length]
  apply Nat.le_of_not_lt
  intro h9
  have hb : ∀ k u : Nat, u < 10 ^ (k + 1) → Lib.nDigits u ≤ k + 1 := by
    intro k
    induction k with
    | zero => intro u hu; rw [Lib.nDigits_small (by omega)]; omega
    | succ n ih =>
      intro u hu
      by_cases hs : u < 10
      · rw [Lib.nDigits_small hs]; omega
      · rw [Lib.nDigits_big hs]
        have := ih (u / 10) (by rw [Nat.pow_succ] at hu; omega)
        omega
  have := hb 6 u (by omega)
  omega

set_option maxRecDepth 100000 in
set_option maxHeartbeats 2000000 in
theorem dec_any (u : Nat) (hu : u ≤ 1000000) (w : World) :
    Calls Tryd.prog 21 #[.int .i64 u] w fun e w' => e = .returned (.string ⟨(Lib.itoa u).toArray⟩) ∧ Keeps w.heap.size [] w w' := by
  have h0 : (0 : Int) ≤ u ∧ (u : Int) ≤ 1000000 := ⟨by omega, by omega⟩
  have hd0 : decide ((u : Int) < 0) = false := decide_eq_false (by omega)
  have hit : Hid (Lib.itoa u = Lib.decDigits u) := hid (by unfold Lib.itoa; rw [if_neg (by omega)]; simp)
  go_enter Tryd.func21, Tryd.ntmps21
  go_wp2_with fail
  go_loopw [3, 4] (fun xv v wr => ∃ (y : Nat) (l : List UInt8) (g cap : Nat), xv = .int .u64 y ∧ y ≤ 1000000 ∧ v = .slice (some ⟨g, 0, none⟩) l.length cap ∧ ByteOwn wr w.heap.size (.slice (some ⟨g, 0, none⟩) l.length cap) l ∧ Keeps w.heap.size [] w wr ∧ Hid (DecInv u y l)) (fun xv _ _ => (intOf xv).toNat)
  case atStart =>
    refine ⟨u, [UInt8.ofNat (48 + u % 10)], w.heap.size, 1, rfl, hu, rfl, ?_, (Keeps.refl _ _ _).alloc (Nat.le_refl _) _, hid (DecInv.start u)⟩
    have := World.ownsRow_lit (base := w.heap.size) (e := 5) (size := 1) w #[.int .u8 (48 + (u : Int) % 10)] 1 (Nat.le_refl _) (by unfold maxLen; omega) rfl
    unfold ByteOwn
    rw [dec_digit]
    exact this
  case round =>
    obtain ⟨y, l, g, cap, rfl, hy, rfl, hown, hk, HD⟩ := hrel
    have hyI : (0 : Int) ≤ y ∧ (y : Int) ≤ 1000000 := ⟨by omega, by omega⟩
    have hll : l.length ≤ 8 := Nat.le_trans HD.out.len (nDigits_le u hu)
    by_cases h10 : 10 ≤ y
    · have h1 : (10 : Int) ≤ y := by omega
      have hcs := hown.cells (g := g) rfl
      have hgl := (hown.lt g rfl).2
      obtain ⟨i0, hi0, hz0, hs0, hb0⟩ := info_parts info_u8
      have hws := hk.size
      have hnew := World.ownsRow_lit (base := w.heap.size) (e := 5) (size := 1) wr #[.int .u8 (48 + (y : Int) / 10 % 10)] 1 hws (by unfold maxLen; omega) rfl
      have HN := hid hnew
      have HC := hid hcs
      have HZ : Hid (i0.zero = some (.int .u8 0)) := hid hz0
      have HI : Hid (Tryd.prog.info? 5 = some i0) := hid hi0
      have HS : Hid (i0.size = 1 ∧ i0.bytes = 1) := hid ⟨hs0, hb0⟩
      have HK := hid hk
      have HO := hid hown
      clear hown hk hcs hnew hi0 hz0 hs0 hb0
      go_upto_region 7 with fail
      go_wp2_with (at_builtin; go_must (refine wpList_append_near (wr.alloc (.cells #[.int .u8 (48 + (y : Int) / 10 % 10)] 5)) rfl (.tmp 24) (.tmp 25) 43 rfl w.heap.size 5 i0 (.int .u8 0) 1 1 Tryd.underlying43 HI.out HZ.out HS.out.1 HS.out.2 rfl (by decide) (.slice (some ⟨wr.heap.size, 0, none⟩) 1 1) 1 [.int .u8 (48 + (y : Int) / 10 % 10)] rfl HN.out ⟨g, 0, none⟩ l.length cap (Lib.byteCells l) rfl (by simp [Lib.byteCells]) (fun j u hu => (cell_alloc_lt wr _ hgl _).trans (HC.out j u hu)) (Lib.byteCells_one l) (by unfold maxLen; omega) (by omega) (by simp; omega) ?_))
      intro v' w2 ho' hg' hn'
      have hform : ∃ g' cap', v' = .slice (some ⟨g', 0, none⟩) (1 + l.length) cap' := by
        rcases ho'.2 with ⟨_, h0⟩ | ⟨g', cap', cur, rfl, _⟩
        · omega
        · exact ⟨g', cap', rfl⟩
      obtain ⟨g', cap', rfl⟩ := hform
      have hdg := dec_digit (y / 10)
      rw [show ((y / 10 : Nat) : Int) = (y : Int) / 10 by omega] at hdg
      have HO2 : Hid (ByteOwn w2 w.heap.size (.slice (some ⟨g', 0, none⟩) (UInt8.ofNat (48 + y / 10 % 10) :: l).length cap') (UInt8.ofNat (48 + y / 10 % 10) :: l)) := by
        unfold ByteOwn
        have : (UInt8.ofNat (48 + y / 10 % 10) :: l).length = 1 + l.length := by simp; omega
        rw [this, show UInt8.ofNat (48 + y / 10 % 10) :: l = [UInt8.ofNat (48 + y / 10 % 10)] ++ l from rfl, Lib.byteCells_append, hdg]
        exact hid ho'
      have HK2 := hid ((HK.out.alloc HK.out.size (.cells #[.int .u8 (48 + (y : Int) / 10 % 10)] 5)).grown hg' (by simp; omega) (fun k hk => by simp [Value.ownBlock] at hk; omega))
      have hl2 : 1 + l.length = (UInt8.ofNat (48 + y / 10 % 10) :: l).length := by simp; omega
      rw [hl2]
      clear ho' hg' hn' hdg hl2
      go_wp2_with fail
      go_roundw
      case rel => exact ⟨y / 10, _, g', cap', by go_num, by omega, rfl, HO2.out, HK2.out, hid (HD.out.next h10)⟩
      case measure => simp [intOf]; omega
    · have h1 : ¬ ((10 : Int) ≤ y) := by omega
      have hc := byteOwn_string hown
      have HK := hid hk
      have HL := hid (HD.out.done (by omega))
      go_wp2_with fail
      go_ret
      exact ⟨by rw [hit.out, ← HL.out]; rfl, HK.out⟩
end Go.Proofs.YtpinoolagbghnaaDoor

namespace Go.Proofs.YtpinoolagbghnaaDoor
set_option linter.unusedVariables false
open Go.RowKit

theorem byteOwn_form {w : World} {B : Nat} {v : Value} {l : List UInt8} (h : ByteOwn w B v l) : ∃ ao cap, v = .slice ao l.length cap := by
  rcases h.2 with ⟨rfl, h0⟩ | ⟨g, cap, cur, rfl, _⟩
  · exact ⟨none, 0, by rw [h0]⟩
  · exact ⟨_, cap, rfl⟩

theorem append_str {ops : Array Oper} {rest : List Oper} {o : Oper} {a : Act} {Q : Exit → Act → World → Prop} {w : World} (hgd : o.guard = none) (sl x : Operand)
    (ho : o.op = .call { callee := .builtin .append, args := #[sl, x], argTypes := #[43, 9] })
    (B : Nat) (v : Value) (l : List UInt8) (hs : a.eval sl = v) (hown : ByteOwn w B v l) (s : ByteArray) (m : List UInt8) (hm : s.data.toList = m) (hx : a.eval x = .string s) (hlen : l.length + s.size ≤ 140737488355328) (hB : B ≤ w.heap.size)
    (h : ∀ ao cap w', ByteOwn w' B (.slice ao (l ++ m).length cap) (l ++ m) → w.grownBy w' v.ownBlock → wpList Tryd.prog ops Q rest (a.put o.dst (.slice ao (l ++ m).length cap)) w') : wpList Tryd.prog ops Q (o :: rest) a w := by
  subst hm
  obtain ⟨i, hi, hz, h4, h5⟩ := info_parts info_u8
  refine Lib.wpList_append_own_string w hgd sl x 43 9 ho B 5 i Tryd.underlying43 Tryd.underlying9 hi hz h4 h5 v l.length (Lib.byteCells l) hs hown s hx (by unfold maxLen; omega) hlen hB ?_
  intro v' w' ho' hg _
  have hsz : s.size = s.data.toList.length := by rw [Array.length_toList]; rfl
  rw [Lib.strCells_eq, ← Lib.byteCells_append, hsz, ← List.length_append] at ho'
  obtain ⟨ao, cap, rfl⟩ := byteOwn_form (l := l ++ s.data.toList) ho'
  exact h ao cap w' ho' hg

theorem append_byte {ops : Array Oper} {rest : List Oper} {o : Oper} {a : Act} {Q : Exit → Act → World → Prop} {W w : World} {x : Int} (hgd : o.guard = none) (sl xo : Operand)
    (ho : o.op = .call { callee := .builtin .append, args := #[sl, xo], argTypes := #[43, 43] })
    (hw : w = W.alloc (.cells #[.int .u8 x] 5)) (B : Nat) (v : Value) (l : List UInt8) (hs : a.eval sl = v) (hown : ByteOwn W B v l) (c : UInt8) (hc : x = c.toNat) (hx : a.eval xo = .slice (some ⟨W.heap.size, 0, none⟩) 1 1) (hlen : l.length + 1 ≤ 140737488355328) (hB : B ≤ W.heap.size)
    (h : ∀ ao cap w', ByteOwn w' B (.slice ao (l ++ [c]).length cap) (l ++ [c]) → W.grownBy w' v.ownBlock → wpList Tryd.prog ops Q rest (a.put o.dst (.slice ao (l ++ [c]).length cap)) w') : wpList Tryd.prog ops Q (o :: rest) a w := by
  subst hc
  refine append_new (us := [.int .u8 c.toNat]) hgd sl xo 43 ho 5 hw (.int .u8 0) 1 1 Tryd.underlying43 info_u8 rfl (by decide) B v l.length (Lib.byteCells l) hs hown hx rfl (by simp [Value.oneCell']) (by unfold maxLen; omega) (by omega) hB ?_
  intro ao cap w' ho' hg _
  have hl : l.length + 1 = (l ++ [c]).length := by simp
  have hcs : Lib.byteCells l ++ [Value.int .u8 (c.toNat : Int)] = Lib.byteCells (l ++ [c]) := by rw [Lib.byteCells_append]; rfl
  rw [hl, hcs] at ho'
  rw [hl]
  exact h ao cap w' ho' hg
end Go.Proofs.YtpinoolagbghnaaDoor
