/-
  Walk: the library's fmtEFG at the format 'e'.
-/
import Derived.Test.YtlblkajnmdhmdaaGreatDoorZNSd
import Derived.OwnWalk
import Derived.Deep.DeepCutAuto
import Derived.Deep.CutBlock
import Derived.Laws.MakeOwn
namespace Go.Proofs.YtlblkajnmdhmdaaGreatDoor
set_option linter.unusedVariables false
open Go.RowKit Lib
theorem info_u8 : (Tryz.prog.info? 5).map (fun i => (i.zero, i.size, i.bytes)) = some (some (.int .u8 0), 1, 1) := by kernel_rfl
/-- The row g of 24 bytes bears the bytes l; of the world W nothing but row g has turned. -/
def St (W w : World) (B g : Nat) (l : List UInt8) : Prop := w.ownsRow B 5 1 (.slice (some ⟨g, 0, none⟩) l.length 24) l.length (byteCells l) ∧ W.grownBy w (some g)
theorem grown_alloc {a w : World} {row : Option Nat} (h : a.grownBy w row) (o : Obj) : a.grownBy (w.alloc o) row :=
  ⟨h.os, h.tape, h.output, Nat.le_trans h.size (by simp), fun i hi hne => (Below.heap_alloc w o i (Nat.lt_of_lt_of_le hi h.size)).trans (h.block i hi hne)⟩
theorem grown_trans' {a b c : World} {row : Option Nat} (h : a.grownBy b row) (k : b.grownBy c row) : a.grownBy c row :=
  ⟨k.os.trans h.os, k.tape.trans h.tape, k.output.trans h.output, Nat.le_trans h.size k.size, fun i hi hne => (k.block i (Nat.lt_of_lt_of_le hi h.size) hne).trans (h.block i hi hne)⟩
theorem grown_drewN {a w : World} {row : Option Nat} (h : a.grownBy w row) (n : Nat) : a.grownBy (w.drewN n) row := ⟨h.os, h.tape, h.output, h.size, h.block⟩
theorem St.drewN {W w : World} {B g : Nat} {l : List UInt8} (h : St W w B g l) (n : Nat) : St W (w.drewN n) B g l := ⟨h.1, grown_drewN h.2 n⟩
theorem byteCells_length (l : List UInt8) : (byteCells l).length = l.length := by simp [byteCells]
/-- 'append' of some bytes that stand in a new block of their own. -/
theorem st_append {ops : Array Oper} {rest : List Oper} {o : Oper} {a : Act} {Q : Exit → Act → World → Prop} {W w0 w : World} {B g : Nat} {l : List UInt8} (us : List UInt8) (xs : Array Value) (hgd : o.guard = none) (sl xo : Operand)
    (ho : o.op = .call { callee := .builtin .append, args := #[sl, xo], argTypes := #[35, 35] }) (hst : St W w0 B g l)
    (hw : w = w0.alloc (.cells xs 5)) (hxs : xs.toList = byteCells us) (n m c : Nat) (hs : a.eval sl = .slice (some ⟨g, 0, none⟩) n 24) (hn : n = l.length) (hx : a.eval xo = .slice (some ⟨w0.heap.size, 0, none⟩) m c) (hm : m = us.length) (hlen : l.length + us.length ≤ 24)
    (h : ∀ w', St W w' B g (l ++ us) → wpList Tryz.prog ops Q rest (a.put o.dst (.slice (some ⟨g, 0, none⟩) (l ++ us).length 24)) w') : wpList Tryz.prog ops Q (o :: rest) a w := by
  subst hw; subst hm; subst hn
  obtain ⟨i, hi, hz, h4, h5⟩ := info_parts info_u8
  refine wpList_append_fits (w0.alloc (.cells xs 5)) hgd sl xo 35 ho B 5 i 1 Tryz.underlying35 hi h4 g l.length 24 (byteCells l) hs (hst.1.alloc _) ⟨w0.heap.size, 0, none⟩ us.length c (byteCells us) hx (by rw [byteCells_length]; omega) ?_ ?_ (by omega) ?_
  · intro j u hu
    have hadd : (⟨w0.heap.size, 0, none⟩ : Addr).add j = ⟨w0.heap.size, j, none⟩ := by unfold Addr.add; split <;> simp_all
    rw [hadd, World.cell?_alloc_new]
    rw [← hxs] at hu
    simpa using hu
  · intro u hu
    unfold byteCells at hu
    obtain ⟨b, _, rfl⟩ := List.mem_map.1 hu
    rfl
  · intro w' ho' hg
    have e1 : l.length + us.length = (l ++ us).length := by simp
    have e2 : byteCells l ++ byteCells us = byteCells (l ++ us) := (byteCells_append l us).symm
    rw [e1, e2] at ho'
    rw [e1]
    exact h w' ⟨ho', grown_trans' (grown_alloc hst.2 _) hg⟩
/-- 'append' of a part of another row. -/
theorem st_append_row {ops : Array Oper} {rest : List Oper} {o : Oper} {a : Act} {Q : Exit → Act → World → Prop} {W w : World} {B g : Nat} {l : List UInt8} (us : List UInt8) (ad : Addr) (hgd : o.guard = none) (sl xo : Operand)
    (ho : o.op = .call { callee := .builtin .append, args := #[sl, xo], argTypes := #[35, 35] }) (hst : St W w B g l)
    (hc : ∀ j (hj : j < us.length), w.cell? (ad.add j) = some (.int .u8 (us[j].toNat : Nat))) (n m c : Nat) (hs : a.eval sl = .slice (some ⟨g, 0, none⟩) n 24) (hn : n = l.length) (hx : a.eval xo = .slice (some ad) m c) (hm : m = us.length) (hlen : l.length + us.length ≤ 24)
    (h : ∀ w', St W w' B g (l ++ us) → wpList Tryz.prog ops Q rest (a.put o.dst (.slice (some ⟨g, 0, none⟩) (l ++ us).length 24)) w') : wpList Tryz.prog ops Q (o :: rest) a w := by
  subst hm; subst hn
  obtain ⟨i, hi, hz, h4, h5⟩ := info_parts info_u8
  refine wpList_append_fits w hgd sl xo 35 ho B 5 i 1 Tryz.underlying35 hi h4 g l.length 24 (byteCells l) hs hst.1 ad us.length c (byteCells us) hx (by rw [byteCells_length]; omega) ?_ ?_ (by omega) ?_
  · intro j u hu
    unfold byteCells at hu
    rw [List.getElem?_map] at hu
    by_cases hj : j < us.length
    · rw [List.getElem?_eq_getElem hj] at hu
      cases hu
      exact hc j hj
    · rw [List.getElem?_eq_none (by omega)] at hu
      cases hu
  · intro u hu
    unfold byteCells at hu
    obtain ⟨b, _, rfl⟩ := List.mem_map.1 hu
    rfl
  · intro w' ho' hg
    have e1 : l.length + us.length = (l ++ us).length := by simp
    have e2 : byteCells l ++ byteCells us = byteCells (l ++ us) := (byteCells_append l us).symm
    rw [e1, e2] at ho'
    rw [e1]
    exact h w' ⟨ho', grown_trans' hst.2 hg⟩

theorem u8c {k : Nat} (h : k < 200) : (((UInt8.ofNat (48 + k)).toNat : Nat) : Int) = (k : Int) + 48 := by rw [UInt8.toNat_ofNat']; omega
/-- An exponent with its sign. -/
def expo (X : Int) : List UInt8 := (if X < 0 then 45 else 43) :: (if X.natAbs < 10 then [48, UInt8.ofNat (48 + X.natAbs)] else if X.natAbs < 100 then [UInt8.ofNat (48 + X.natAbs / 10), UInt8.ofNat (48 + X.natAbs % 10)]
  else [UInt8.ofNat (48 + X.natAbs / 100), UInt8.ofNat (48 + X.natAbs / 10 % 10), UInt8.ofNat (48 + X.natAbs % 10)])
/-- The digits with the point. -/
def mant (d0 : UInt8) (tl : List UInt8) : List UInt8 := [d0] ++ (if tl.length = 0 then [] else 46 :: tl)
/-- The text of a number at the format 'e'. -/
def eText (d0 : UInt8) (tl : List UInt8) (X : Int) : List UInt8 := mant d0 tl ++ [101] ++ expo X
def EfPost (W : World) (B g : Nat) (t : List UInt8) (r : Ending) (w' : World) : Prop := r = .returned (.slice (some ⟨g, 0, none⟩) t.length 24) ∧ St W w' B g t
def SRel (W : World) (B g : Nat) (l : List UInt8) (v : Value) (wx : World) : Prop := v = .slice (some ⟨g, 0, none⟩) l.length 24 ∧ St W wx B g l
set_option maxRecDepth 100000 in
set_option maxHeartbeats 4000000 in
theorem efg_walk (B g blk n nz : Nat) (X : Int) (d0 : UInt8) (tl : List UInt8) (w : World) (hst : St w w B g []) (hblk : blk ≠ g) (hbs : blk < w.heap.size) (hdl : tl.length = n) (hn2 : n ≤ 16) (hz1 : 1 ≤ nz) (hz2 : nz ≤ n + 1)
    (hc0 : w.cell? ⟨blk, 0, none⟩ = some (.int .u8 (d0.toNat : Nat))) (hc : ∀ t (h : t < tl.length), w.cell? ⟨blk, t + 1, none⟩ = some (.int .u8 (tl[t].toNat : Nat))) (hzero : ∀ t (h : t < tl.length), nz ≤ t + 1 → tl[t] = 48) (hX : -400 ≤ X ∧ X ≤ 400) :
    Calls Tryz.prog 165 #[.slice (some ⟨g, 0, none⟩) 0 24, .bool false, .slice (some ⟨blk, 0, none⟩) 24 24, .int .i64 (X + 1), .int .i64 nz, .int .i64 n, .int .u8 101, .bool false] w (EfPost w B g (eText d0 tl X)) := by
  have HC := hid hc
  have HZ := hid hzero
  have HDL := hid hdl
  have HST := hid hst
  clear hc hzero hdl hst
  have hnz : ((nz : Int) != 0) = true := by simp; omega
  go_enter Tryz.func165, Tryz.ntmps165
  go_upto_if 92 with (at_builtin; (with_reducible refine st_append (w0 := w) (l := []) [d0] #[.int .u8 (d0.toNat : Nat)] ?e2_1 (.tmp 87) (.tmp 89) ?e2_2 HST.out ?e2_3 ?e2_4 0 1 1 ?e2_5 ?e2_6 ?e2_7 ?e2_8 ?e2_9 ?e2_10); (case e2_1 => rfl); (case e2_2 => rfl); (case e2_3 => rfl); (case e2_5 => rfl); (case e2_4 => rfl); (case e2_6 => first | rfl | (simp; done) | (simp; omega)); (case e2_7 => rfl); (case e2_8 => rfl); (case e2_9 => first | (simp; done) | (simp; omega)); intro w1 hst1)
  have HST1 : Hid (St w w1 B g [d0]) := hid hst1
  clear hst1
  go_cut [0, 20, 21] from 92 to 120 (fun v0 _ _ wx => SRel w B g (mant d0 tl) v0 wx)
  case first =>
    by_cases hn0 : n = 0
    · have htl : tl = [] := List.eq_nil_of_length_eq_zero (HDL.out.trans hn0)
      have HM : Hid (mant d0 tl = [d0]) := hid (by rw [htl]; rfl)
      clear htl
      have h0 : decide ((0 : Int) < (n : Int)) = false := decide_eq_false (by omega)
      go_wp2_with fail
      go_meet
      case rel => exact ⟨by rw [HM.out]; rfl, by rw [HM.out]; exact HST1.out⟩
    · have h0 : decide ((0 : Int) < (n : Int)) = true := decide_eq_true (by omega)
      by_cases hnz1 : nz = 1
      · have hm : min (nz : Int) ((n : Int) + 1) = nz := by omega
        have hlt1 : decide ((1 : Int) < (nz : Int)) = false := decide_eq_false (by omega)
        have HNZ1 := hid hnz1
        clear hnz1
        go_wp2_with (at_builtin; (with_reducible refine st_append (w0 := w1) (l := [d0]) [46] #[.int .u8 46] ?e3_1 (.tmp 93) (.tmp 94) ?e3_2 HST1.out ?e3_3 ?e3_4 1 1 1 ?e3_5 ?e3_6 ?e3_7 ?e3_8 ?e3_9 ?e3_10); (case e3_1 => rfl); (case e3_2 => rfl); (case e3_3 => rfl); (case e3_5 => rfl); (case e3_4 => rfl); (case e3_6 => first | rfl | (simp; done) | (simp; omega)); (case e3_7 => rfl); (case e3_8 => rfl); (case e3_9 => first | (simp; done) | (simp; omega)); intro w2 hst2)
        have HST2 : Hid (St w w2 B g [d0, 46]) := hid hst2
        have HT : Hid (mant d0 tl = [d0, 46] ++ List.replicate n 48) := hid (by
          have e : tl = List.replicate n 48 := by
            refine List.eq_replicate_iff.2 ⟨HDL.out, fun b hb => ?_⟩
            obtain ⟨t, ht, rfl⟩ := List.getElem_of_mem hb
            exact HZ.out t ht (by have := HNZ1.out; omega)
          unfold mant
          rw [if_neg (by rw [HDL.out]; exact hn0), ← e]
          rfl)
        clear hst2 HZ
        go_loopw [0, 114] (fun v0 v wr => ∃ k : Nat, v = .int .i64 k ∧ k ≤ n ∧ v0 = .slice (some ⟨g, 0, none⟩) (2 + k) 24 ∧ Hid (St w wr B g ([d0, 46] ++ List.replicate k 48))) (fun _ v _ => n - (RowKit.intOf v).toNat)
        case atStart => exact ⟨0, rfl, Nat.zero_le _, rfl, HST2⟩
        case round =>
          obtain ⟨k, rfl, hk, rfl, HST3⟩ := hrel
          by_cases hkn : k < n
          · have h1 : decide ((k : Int) < (n : Int)) = true := decide_eq_true (by omega)
            go_wp2_with (at_builtin; (with_reducible refine st_append (w0 := wr) (l := ([d0, 46] ++ List.replicate k 48)) [48] #[.int .u8 48] ?e4_1 (.tmp 116) (.tmp 117) ?e4_2 HST3.out ?e4_3 ?e4_4 (2 + k) 1 1 ?e4_5 ?e4_6 ?e4_7 ?e4_8 ?e4_9 ?e4_10); (case e4_1 => rfl); (case e4_2 => rfl); (case e4_3 => rfl); (case e4_5 => rfl); (case e4_4 => rfl); (case e4_6 => first | rfl | (simp; done) | (simp; omega)); (case e4_7 => rfl); (case e4_8 => rfl); (case e4_9 => first | (simp; done) | (simp; omega)); intro w4 hst4)
            have HST4 := hid hst4
            clear hst4
            refine ⟨⟨k + 1, ?_, by omega, ?_, ?_⟩, ?_⟩
            · go_num
            · simp; omega
            · rw [List.replicate_succ', ← List.append_assoc]; exact HST4
            · show n - ((k : Int) + 1).toNat < n - ((k : Int)).toNat
              omega
          · have hkn' : k = n := by omega
            subst hkn'
            have h1 : decide ((k : Int) < (k : Int)) = false := decide_eq_false (by omega)
            go_wp2_with fail
            go_meet
            case rel => exact ⟨congrArg (fun m => Value.slice (some ⟨g, 0, none⟩) m 24) (by rw [HT.out]; simp; omega), by rw [HT.out]; exact HST3.out⟩
      · obtain ⟨z, rfl⟩ : ∃ z, nz = z + 2 := ⟨nz - 2, by omega⟩
        have hm : min ((z : Int) + 2) ((n : Int) + 1) = (z : Int) + 2 := by omega
        have hlt1 : decide ((1 : Int) < (z : Int) + 2) = true := decide_eq_true (by omega)
        obtain ⟨us, hus⟩ : ∃ us, tl.take (z + 1) = us := ⟨_, rfl⟩
        have husl : us.length = z + 1 := by rw [← hus, List.length_take, HDL.out]; omega
        have HUL := hid husl
        have HT : Hid (mant d0 tl = [d0, 46] ++ us ++ List.replicate (n - (z + 1)) 48) := hid (by
          have e : tl = us ++ List.replicate (n - (z + 1)) 48 := by
            have h1 := List.take_append_drop (z + 1) tl
            rw [hus] at h1
            rw [← h1]
            congr 1
            refine List.eq_replicate_iff.2 ⟨by rw [List.length_drop, HDL.out], fun b hb => ?_⟩
            obtain ⟨t, ht, rfl⟩ := List.getElem_of_mem hb
            rw [List.length_drop, HDL.out] at ht
            rw [List.getElem_drop]
            exact HZ.out (z + 1 + t) (by rw [HDL.out]; omega) (by omega)
          unfold mant
          rw [if_neg (by rw [HDL.out]; exact hn0), List.append_assoc, ← e]
          rfl)
        have hsrc : ∀ (W' : World), St w W' B g [d0, 46] → ∀ j (hj : j < us.length), W'.cell? ((⟨blk, 1, none⟩ : Addr).add j) = some (.int .u8 (us[j].toNat : Nat)) := fun W' hs j hj => by
          have hadd : (⟨blk, 1, none⟩ : Addr).add j = ⟨blk, j + 1, none⟩ := by unfold Addr.add; split <;> simp_all <;> omega
          have hj2 : j < tl.length := by rw [HDL.out]; omega
          rw [hadd, World.cell?_of_block (w := w) (hs.2.block blk hbs (fun e => hblk (Option.some.inj e))), HC.out j hj2]
          have : us[j] = tl[j] := by simp only [← hus]; exact List.getElem_take
          rw [this]
        have HSRC := hid hsrc
        have hz2' : (z : Int) + 2 ≤ 24 := by omega
        clear husl hus hsrc hnz1 HZ
        go_upto_region 28 with (at_builtin; (with_reducible refine st_append (w0 := w1) (l := [d0]) [46] #[.int .u8 46] ?e5_1 (.tmp 93) (.tmp 94) ?e5_2 HST1.out ?e5_3 ?e5_4 1 1 1 ?e5_5 ?e5_6 ?e5_7 ?e5_8 ?e5_9 ?e5_10); (case e5_1 => rfl); (case e5_2 => rfl); (case e5_3 => rfl); (case e5_5 => rfl); (case e5_4 => rfl); (case e5_6 => first | rfl | (simp; done) | (simp; omega)); (case e5_7 => rfl); (case e5_8 => rfl); (case e5_9 => first | (simp; done) | (simp; omega)); intro w2 hst2)
        have HST2 : Hid (St w w2 B g [d0, 46]) := hid hst2
        clear hst2
        have hul : us.length = z + 1 := HUL.out
        have HUL2 := hid hul
        clear hul
        go_wp2_with (at_builtin; (with_reducible refine st_append_row (w := w2) (l := [d0, 46]) us ⟨blk, 1, none⟩ ?e1_1 (.tmp 103) (.tmp 107) ?e1_2 HST2.out (HSRC.out w2 HST2.out) 2 (z + 1) 23 ?e1_5 ?e1_6 ?e1_7 ?e1_8 ?e1_9 ?e1_10); (case e1_1 => rfl); (case e1_2 => rfl); (case e1_5 => rfl); (case e1_6 => first | rfl | (simp; done) | (simp; omega)); (case e1_7 => first | rfl | (go_simp; done)); (case e1_8 => exact HUL.out.symm); (case e1_9 => rw [HUL.out]; simp; omega); intro w3 hst3)
        have HST3 : Hid (St w w3 B g ([d0, 46] ++ us)) := hid hst3
        clear hst3
        go_loopw [0, 114] (fun v0 v wr => ∃ k : Nat, v = .int .i64 k ∧ k ≤ n - (z + 1) ∧ v0 = .slice (some ⟨g, 0, none⟩) (us.length + 1 + 1 + k) 24 ∧ Hid (St w wr B g ([d0, 46] ++ us ++ List.replicate k 48))) (fun _ v _ => n - (RowKit.intOf v).toNat)
        case atStart => exact ⟨0, rfl, Nat.zero_le _, rfl, hid (by rw [List.replicate_zero, List.append_nil]; exact HST3.out)⟩
        case round =>
          obtain ⟨k, rfl, hk, rfl, HST4⟩ := hrel
          by_cases hkn : k < n - (z + 1)
          · have h1 : decide ((k : Int) < (n : Int) + 1 - ((z : Int) + 2)) = true := decide_eq_true (by omega)
            have hlen24 : us.length + 1 + 1 + k + 1 ≤ 24 := by rw [HUL2.out]; omega
            go_wp2_with (at_builtin; (with_reducible refine st_append (w0 := wr) (l := ([d0, 46] ++ us ++ List.replicate k 48)) [48] #[.int .u8 48] ?e6_1 (.tmp 116) (.tmp 117) ?e6_2 HST4.out ?e6_3 ?e6_4 (us.length + 1 + 1 + k) 1 1 ?e6_5 ?e6_6 ?e6_7 ?e6_8 ?e6_9 ?e6_10); (case e6_1 => rfl); (case e6_2 => rfl); (case e6_3 => rfl); (case e6_5 => rfl); (case e6_4 => rfl); (case e6_6 => first | rfl | (simp; done) | (simp; omega)); (case e6_7 => rfl); (case e6_8 => rfl); (case e6_9 => first | (simp; done) | (simp; omega)); intro w5 hst5)
            have HST5 := hid hst5
            clear hst5
            refine ⟨⟨k + 1, ?_, by omega, ?_, ?_⟩, ?_⟩
            · go_num
            · simp; omega
            · rw [List.replicate_succ', ← List.append_assoc]; exact HST5
            · show n - ((k : Int) + 1).toNat < n - ((k : Int)).toNat
              omega
          · have hkn' : k = n - (z + 1) := by omega
            have h1 : decide ((k : Int) < (n : Int) + 1 - ((z : Int) + 2)) = false := decide_eq_false (by omega)
            have HK := hid hkn'
            clear hkn' hkn
            go_wp2_with fail
            go_meet
            case rel => exact ⟨congrArg (fun m => Value.slice (some ⟨g, 0, none⟩) m 24) (by rw [HT.out, HK.out]; simp; omega), by rw [HT.out, ← HK.out]; exact HST4.out⟩
  case rest =>
    obtain ⟨hv0, hstc⟩ := hcut
    obtain ⟨M, hM⟩ : ∃ M, mant d0 tl = M := ⟨_, rfl⟩
    have hML : M.length ≤ 18 := by
      rw [← hM]
      unfold mant
      have := HDL.out
      split <;> simp <;> omega
    rw [hM] at hv0 hstc
    have HMX := hid hM
    have HSTC := hid hstc
    subst hv0
    clear hM hstc HST1 HST HC HZ hc0
    have he0 : M.length + 1 ≤ 24 := by omega
    go_upto_if 127 with (at_builtin; (with_reducible refine st_append (w0 := wc) (l := M) [101] #[.int .u8 101] ?e7_1 (.tmp 120) (.tmp 122) ?e7_2 HSTC.out ?e7_3 ?e7_4 M.length 1 1 ?e7_5 ?e7_6 ?e7_7 ?e7_8 ?e7_9 ?e7_10); (case e7_1 => rfl); (case e7_2 => rfl); (case e7_3 => rfl); (case e7_5 => rfl); (case e7_4 => rfl); (case e7_6 => first | rfl | (simp; done) | (simp; omega)); (case e7_7 => rfl); (case e7_8 => rfl); (case e7_9 => first | (simp; done) | (simp; omega)); intro w6 hst6)
    have HST6 : Hid (St w w6 B g (M ++ [101])) := hid hst6
    clear hst6
    by_cases hX0 : X < 0
    · obtain ⟨x, rfl⟩ : ∃ x : Nat, X = -(x : Int) := ⟨X.natAbs, by omega⟩
      have h1 : decide (-(x : Int) < 0) = true := decide_eq_true hX0
      have hx4 : x ≤ 400 := by omega
      have hXE : ∀ l, expo (-(x : Int)) = 45 :: l → EfPost w B g (M ++ [101] ++ (45 :: l)) = EfPost w B g (eText d0 tl (-(x : Int))) := fun l h => by unfold eText; rw [h, HMX.out]
      have HXE := hid hXE
      clear hXE
      go_upto_region 47 with (at_builtin; (with_reducible refine st_append (w0 := w6) (l := (M ++ [101])) [45] #[.int .u8 45] ?e8_1 (.tmp 132) (.tmp 134) ?e8_2 HST6.out ?e8_3 ?e8_4 (M.length + 1) 1 1 ?e8_5 ?e8_6 ?e8_7 ?e8_8 ?e8_9 ?e8_10); (case e8_1 => rfl); (case e8_2 => rfl); (case e8_3 => rfl); (case e8_5 => rfl); (case e8_4 => rfl); (case e8_6 => first | rfl | (simp; done) | (simp; omega)); (case e8_7 => rfl); (case e8_8 => rfl); (case e8_9 => first | (simp; done) | (simp; omega)); intro w7 hst7)
      have HST7 : Hid (St w w7 B g (M ++ [101] ++ [45])) := hid hst7
      clear hst7
      have he2 : M.length + 1 + 1 + 3 ≤ 24 := by omega
      by_cases h10 : x < 10
      · have d10 : decide ((x : Int) < 10) = true := decide_eq_true (by omega)
        have ha : (((UInt8.ofNat (48 + x)).toNat : Nat) : Int) = (x : Int) + 48 := u8c (by omega)
        have HA := hid ha
        have HE := hid (HXE.out [48, UInt8.ofNat (48 + x)] (by unfold expo; rw [show (-(x : Int)).natAbs = x by omega, if_pos h10]; first | (simp; done) | (simp; omega)))
        clear ha
        go_wp2_with (at_builtin; (with_reducible refine st_append (w0 := w7) (l := (M ++ [101] ++ [45])) [48, UInt8.ofNat (48 + x)] #[.int .u8 48, .int .u8 ((x : Int) + 48)] ?e9_1 (.tmp 155) (.tmp 159) ?e9_2 HST7.out ?e9_3 ?e9_4 (M.length + 1 + 1) 2 2 ?e9_5 ?e9_6 ?e9_7 ?e9_8 ?e9_9 ?e9_10); (case e9_1 => rfl); (case e9_2 => rfl); (case e9_3 => rfl); (case e9_5 => rfl); (case e9_4 => (simp only [byteCells, List.map_cons, List.map_nil, HA.out]; rfl)); (case e9_6 => first | rfl | (simp; done) | (simp; omega)); (case e9_7 => rfl); (case e9_8 => rfl); (case e9_9 => first | (simp; done) | (simp; omega)); intro w8 hst8)
        have hst9 : St w w8 B g (M ++ [101] ++ (45 :: [48, UInt8.ofNat (48 + x)])) := by rw [show (M ++ [101] ++ (45 :: [48, UInt8.ofNat (48 + x)])) = M ++ [101] ++ [45] ++ [48, UInt8.ofNat (48 + x)] by rw [List.append_assoc (M ++ [101])]; rfl]; exact hst8
        have HST9 := hid hst9
        clear hst8 hst9
        go_wp2_with fail
        go_ret
        rw [← HE.out]
        exact ⟨congrArg (fun m => Ending.returned (Value.slice (some ⟨g, 0, none⟩) m 24)) (by simp), HST9.out⟩
      · by_cases h100 : x < 100
        · have d10 : decide ((x : Int) < 10) = false := decide_eq_false (by omega)
          have d100 : decide ((x : Int) < 100) = true := decide_eq_true (by omega)
          have HA : Hid (((((UInt8.ofNat (48 + x / 10)).toNat : Nat) : Int) = (x : Int) / 10 + 48) ∧ ((((UInt8.ofNat (48 + x % 10)).toNat : Nat) : Int) = (x : Int) % 10 + 48)) := hid ⟨by rw [u8c (by omega)]; omega, by rw [u8c (by omega)]; omega⟩
          have HE := hid (HXE.out [UInt8.ofNat (48 + x / 10), UInt8.ofNat (48 + x % 10)] (by unfold expo; rw [show (-(x : Int)).natAbs = x by omega, if_neg h10, if_pos h100]; first | (simp; done) | (simp; omega)))
          go_wp2_with (at_builtin; (with_reducible refine st_append (w0 := w7) (l := (M ++ [101] ++ [45])) [UInt8.ofNat (48 + x / 10), UInt8.ofNat (48 + x % 10)] #[.int .u8 ((x : Int) / 10 + 48), .int .u8 ((x : Int) % 10 + 48)] ?e10_1 (.tmp 164) (.tmp 173) ?e10_2 HST7.out ?e10_3 ?e10_4 (M.length + 2) 2 2 ?e10_5 ?e10_6 ?e10_7 ?e10_8 ?e10_9 ?e10_10); (case e10_1 => rfl); (case e10_2 => rfl); (case e10_3 => rfl); (case e10_5 => rfl); (case e10_4 => (simp only [byteCells, List.map_cons, List.map_nil, HA.out.1, HA.out.2])); (case e10_6 => first | rfl | (simp; done) | (simp; omega)); (case e10_7 => rfl); (case e10_8 => rfl); (case e10_9 => first | (simp; done) | (simp; omega)); intro w8 hst8)
          have hst9 : St w w8 B g (M ++ [101] ++ (45 :: [UInt8.ofNat (48 + x / 10), UInt8.ofNat (48 + x % 10)])) := by rw [show (M ++ [101] ++ (45 :: [UInt8.ofNat (48 + x / 10), UInt8.ofNat (48 + x % 10)])) = M ++ [101] ++ [45] ++ [UInt8.ofNat (48 + x / 10), UInt8.ofNat (48 + x % 10)] by rw [List.append_assoc (M ++ [101])]; rfl]; exact hst8
          have HST9 := hid hst9
          clear hst8 hst9
          go_wp2_with fail
          go_ret
          rw [← HE.out]
          exact ⟨congrArg (fun m => Ending.returned (Value.slice (some ⟨g, 0, none⟩) m 24)) (by simp), HST9.out⟩
        · have d10 : decide ((x : Int) < 10) = false := decide_eq_false (by omega)
          have d100 : decide ((x : Int) < 100) = false := decide_eq_false (by omega)
          have HA : Hid (((((UInt8.ofNat (48 + x / 100)).toNat : Nat) : Int) = (x : Int) / 100 + 48) ∧ ((((UInt8.ofNat (48 + x / 10 % 10)).toNat : Nat) : Int) = (x : Int) / 10 % 10 + 48) ∧ ((((UInt8.ofNat (48 + x % 10)).toNat : Nat) : Int) = (x : Int) % 10 + 48)) := hid ⟨by rw [u8c (by omega)]; omega, by rw [u8c (by omega)]; omega, by rw [u8c (by omega)]; omega⟩
          have HE := hid (HXE.out [UInt8.ofNat (48 + x / 100), UInt8.ofNat (48 + x / 10 % 10), UInt8.ofNat (48 + x % 10)] (by unfold expo; rw [show (-(x : Int)).natAbs = x by omega, if_neg h10, if_neg h100]; first | (simp; done) | (simp; omega)))
          go_wp2_with (at_builtin; (with_reducible refine st_append (w0 := w7) (l := (M ++ [101] ++ [45])) [UInt8.ofNat (48 + x / 100), UInt8.ofNat (48 + x / 10 % 10), UInt8.ofNat (48 + x % 10)] #[.int .u8 ((x : Int) / 100 + 48), .int .u8 ((x : Int) / 10 % 10 + 48), .int .u8 ((x : Int) % 10 + 48)] ?e11_1 (.tmp 136) (.tmp 150) ?e11_2 HST7.out ?e11_3 ?e11_4 (M.length + 2) 3 3 ?e11_5 ?e11_6 ?e11_7 ?e11_8 ?e11_9 ?e11_10); (case e11_1 => rfl); (case e11_2 => rfl); (case e11_3 => rfl); (case e11_5 => rfl); (case e11_4 => (simp only [byteCells, List.map_cons, List.map_nil, HA.out.1, HA.out.2.1, HA.out.2.2])); (case e11_6 => first | rfl | (simp; done) | (simp; omega)); (case e11_7 => rfl); (case e11_8 => rfl); (case e11_9 => first | (simp; done) | (simp; omega)); intro w8 hst8)
          have hst9 : St w w8 B g (M ++ [101] ++ (45 :: [UInt8.ofNat (48 + x / 100), UInt8.ofNat (48 + x / 10 % 10), UInt8.ofNat (48 + x % 10)])) := by rw [show (M ++ [101] ++ (45 :: [UInt8.ofNat (48 + x / 100), UInt8.ofNat (48 + x / 10 % 10), UInt8.ofNat (48 + x % 10)])) = M ++ [101] ++ [45] ++ [UInt8.ofNat (48 + x / 100), UInt8.ofNat (48 + x / 10 % 10), UInt8.ofNat (48 + x % 10)] by rw [List.append_assoc (M ++ [101])]; rfl]; exact hst8
          have HST9 := hid hst9
          clear hst8 hst9
          go_wp2_with fail
          go_ret
          rw [← HE.out]
          exact ⟨congrArg (fun m => Ending.returned (Value.slice (some ⟨g, 0, none⟩) m 24)) (by simp), HST9.out⟩
    · obtain ⟨x, rfl⟩ : ∃ x : Nat, X = (x : Int) := ⟨X.natAbs, by omega⟩
      have h1 : decide ((x : Int) < 0) = false := decide_eq_false hX0
      have hx4 : x ≤ 400 := by omega
      have hXE : ∀ l, expo ((x : Int)) = 43 :: l → EfPost w B g (M ++ [101] ++ (43 :: l)) = EfPost w B g (eText d0 tl (x : Int)) := fun l h => by unfold eText; rw [h, HMX.out]
      have HXE := hid hXE
      clear hXE
      go_upto_region 47 with (at_builtin; (with_reducible refine st_append (w0 := w6) (l := (M ++ [101])) [43] #[.int .u8 43] ?e12_1 (.tmp 132) (.tmp 134) ?e12_2 HST6.out ?e12_3 ?e12_4 (M.length + 1) 1 1 ?e12_5 ?e12_6 ?e12_7 ?e12_8 ?e12_9 ?e12_10); (case e12_1 => rfl); (case e12_2 => rfl); (case e12_3 => rfl); (case e12_5 => rfl); (case e12_4 => rfl); (case e12_6 => first | rfl | (simp; done) | (simp; omega)); (case e12_7 => rfl); (case e12_8 => rfl); (case e12_9 => first | (simp; done) | (simp; omega)); intro w7 hst7)
      have HST7 : Hid (St w w7 B g (M ++ [101] ++ [43])) := hid hst7
      clear hst7
      have he2 : M.length + 1 + 1 + 3 ≤ 24 := by omega
      by_cases h10 : x < 10
      · have d10 : decide ((x : Int) < 10) = true := decide_eq_true (by omega)
        have ha : (((UInt8.ofNat (48 + x)).toNat : Nat) : Int) = (x : Int) + 48 := u8c (by omega)
        have HA := hid ha
        have HE := hid (HXE.out [48, UInt8.ofNat (48 + x)] (by unfold expo; rw [show ((x : Int)).natAbs = x by omega, if_pos h10]; first | (simp; done) | (simp; omega)))
        clear ha
        go_wp2_with (at_builtin; (with_reducible refine st_append (w0 := w7) (l := (M ++ [101] ++ [43])) [48, UInt8.ofNat (48 + x)] #[.int .u8 48, .int .u8 ((x : Int) + 48)] ?e13_1 (.tmp 155) (.tmp 159) ?e13_2 HST7.out ?e13_3 ?e13_4 (M.length + 1 + 1) 2 2 ?e13_5 ?e13_6 ?e13_7 ?e13_8 ?e13_9 ?e13_10); (case e13_1 => rfl); (case e13_2 => rfl); (case e13_3 => rfl); (case e13_5 => rfl); (case e13_4 => (simp only [byteCells, List.map_cons, List.map_nil, HA.out]; rfl)); (case e13_6 => first | rfl | (simp; done) | (simp; omega)); (case e13_7 => rfl); (case e13_8 => rfl); (case e13_9 => first | (simp; done) | (simp; omega)); intro w8 hst8)
        have hst9 : St w w8 B g (M ++ [101] ++ (43 :: [48, UInt8.ofNat (48 + x)])) := by rw [show (M ++ [101] ++ (43 :: [48, UInt8.ofNat (48 + x)])) = M ++ [101] ++ [43] ++ [48, UInt8.ofNat (48 + x)] by rw [List.append_assoc (M ++ [101])]; rfl]; exact hst8
        have HST9 := hid hst9
        clear hst8 hst9
        go_wp2_with fail
        go_ret
        rw [← HE.out]
        exact ⟨congrArg (fun m => Ending.returned (Value.slice (some ⟨g, 0, none⟩) m 24)) (by simp), HST9.out⟩
      · by_cases h100 : x < 100
        · have d10 : decide ((x : Int) < 10) = false := decide_eq_false (by omega)
          have d100 : decide ((x : Int) < 100) = true := decide_eq_true (by omega)
          have HA : Hid (((((UInt8.ofNat (48 + x / 10)).toNat : Nat) : Int) = (x : Int) / 10 + 48) ∧ ((((UInt8.ofNat (48 + x % 10)).toNat : Nat) : Int) = (x : Int) % 10 + 48)) := hid ⟨by rw [u8c (by omega)]; omega, by rw [u8c (by omega)]; omega⟩
          have HE := hid (HXE.out [UInt8.ofNat (48 + x / 10), UInt8.ofNat (48 + x % 10)] (by unfold expo; rw [show ((x : Int)).natAbs = x by omega, if_neg h10, if_pos h100]; first | (simp; done) | (simp; omega)))
          go_wp2_with (at_builtin; (with_reducible refine st_append (w0 := w7) (l := (M ++ [101] ++ [43])) [UInt8.ofNat (48 + x / 10), UInt8.ofNat (48 + x % 10)] #[.int .u8 ((x : Int) / 10 + 48), .int .u8 ((x : Int) % 10 + 48)] ?e14_1 (.tmp 164) (.tmp 173) ?e14_2 HST7.out ?e14_3 ?e14_4 (M.length + 2) 2 2 ?e14_5 ?e14_6 ?e14_7 ?e14_8 ?e14_9 ?e14_10); (case e14_1 => rfl); (case e14_2 => rfl); (case e14_3 => rfl); (case e14_5 => rfl); (case e14_4 => (simp only [byteCells, List.map_cons, List.map_nil, HA.out.1, HA.out.2])); (case e14_6 => first | rfl | (simp; done) | (simp; omega)); (case e14_7 => rfl); (case e14_8 => rfl); (case e14_9 => first | (simp; done) | (simp; omega)); intro w8 hst8)
          have hst9 : St w w8 B g (M ++ [101] ++ (43 :: [UInt8.ofNat (48 + x / 10), UInt8.ofNat (48 + x % 10)])) := by rw [show (M ++ [101] ++ (43 :: [UInt8.ofNat (48 + x / 10), UInt8.ofNat (48 + x % 10)])) = M ++ [101] ++ [43] ++ [UInt8.ofNat (48 + x / 10), UInt8.ofNat (48 + x % 10)] by rw [List.append_assoc (M ++ [101])]; rfl]; exact hst8
          have HST9 := hid hst9
          clear hst8 hst9
          go_wp2_with fail
          go_ret
          rw [← HE.out]
          exact ⟨congrArg (fun m => Ending.returned (Value.slice (some ⟨g, 0, none⟩) m 24)) (by simp), HST9.out⟩
        · have d10 : decide ((x : Int) < 10) = false := decide_eq_false (by omega)
          have d100 : decide ((x : Int) < 100) = false := decide_eq_false (by omega)
          have HA : Hid (((((UInt8.ofNat (48 + x / 100)).toNat : Nat) : Int) = (x : Int) / 100 + 48) ∧ ((((UInt8.ofNat (48 + x / 10 % 10)).toNat : Nat) : Int) = (x : Int) / 10 % 10 + 48) ∧ ((((UInt8.ofNat (48 + x % 10)).toNat : Nat) : Int) = (x : Int) % 10 + 48)) := hid ⟨by rw [u8c (by omega)]; omega, by rw [u8c (by omega)]; omega, by rw [u8c (by omega)]; omega⟩
          have HE := hid (HXE.out [UInt8.ofNat (48 + x / 100), UInt8.ofNat (48 + x / 10 % 10), UInt8.ofNat (48 + x % 10)] (by unfold expo; rw [show ((x : Int)).natAbs = x by omega, if_neg h10, if_neg h100]; first | (simp; done) | (simp; omega)))
          go_wp2_with (at_builtin; (with_reducible refine st_append (w0 := w7) (l := (M ++ [101] ++ [43])) [UInt8.ofNat (48 + x / 100), UInt8.ofNat (48 + x / 10 % 10), UInt8.ofNat (48 + x % 10)] #[.int .u8 ((x : Int) / 100 + 48), .int .u8 ((x : Int) / 10 % 10 + 48), .int .u8 ((x : Int) % 10 + 48)] ?e15_1 (.tmp 136) (.tmp 150) ?e15_2 HST7.out ?e15_3 ?e15_4 (M.length + 2) 3 3 ?e15_5 ?e15_6 ?e15_7 ?e15_8 ?e15_9 ?e15_10); (case e15_1 => rfl); (case e15_2 => rfl); (case e15_3 => rfl); (case e15_5 => rfl); (case e15_4 => (simp only [byteCells, List.map_cons, List.map_nil, HA.out.1, HA.out.2.1, HA.out.2.2])); (case e15_6 => first | rfl | (simp; done) | (simp; omega)); (case e15_7 => rfl); (case e15_8 => rfl); (case e15_9 => first | (simp; done) | (simp; omega)); intro w8 hst8)
          have hst9 : St w w8 B g (M ++ [101] ++ (43 :: [UInt8.ofNat (48 + x / 100), UInt8.ofNat (48 + x / 10 % 10), UInt8.ofNat (48 + x % 10)])) := by rw [show (M ++ [101] ++ (43 :: [UInt8.ofNat (48 + x / 100), UInt8.ofNat (48 + x / 10 % 10), UInt8.ofNat (48 + x % 10)])) = M ++ [101] ++ [43] ++ [UInt8.ofNat (48 + x / 100), UInt8.ofNat (48 + x / 10 % 10), UInt8.ofNat (48 + x % 10)] by rw [List.append_assoc (M ++ [101])]; rfl]; exact hst8
          have HST9 := hid hst9
          clear hst8 hst9
          go_wp2_with fail
          go_ret
          rw [← HE.out]
          exact ⟨congrArg (fun m => Ending.returned (Value.slice (some ⟨g, 0, none⟩) m 24)) (by simp), HST9.out⟩

set_option maxRecDepth 100000 in
set_option maxHeartbeats 4000000 in
theorem efg_zero (B g : Nat) (w : World) (hst : St w w B g []) :
    Calls Tryz.prog 165 #[.slice (some ⟨g, 0, none⟩) 0 24, .bool false, .slice none 0 0, .int .i64 0, .int .i64 0, .int .i64 0, .int .u8 101, .bool false] w (EfPost w B g [48, 101, 43, 48, 48]) := by
  have HST := hid hst
  clear hst
  go_enter Tryz.func165, Tryz.ntmps165
  go_upto_if 92 with (at_builtin; (with_reducible refine st_append (w0 := w) (l := []) [48] #[.int .u8 48] ?e16_1 (.tmp 87) (.tmp 89) ?e16_2 HST.out ?e16_3 ?e16_4 0 1 1 ?e16_5 ?e16_6 ?e16_7 ?e16_8 ?e16_9 ?e16_10); (case e16_1 => rfl); (case e16_2 => rfl); (case e16_3 => rfl); (case e16_5 => rfl); (case e16_4 => rfl); (case e16_6 => first | rfl | (simp; done) | (simp; omega)); (case e16_7 => rfl); (case e16_8 => rfl); (case e16_9 => first | (simp; done) | (simp; omega)); intro w1 hst1)
  have HST1 : Hid (St w w1 B g [48]) := hid hst1
  clear hst1
  go_upto_if 127 with (at_builtin; (with_reducible refine st_append (w0 := w1) (l := [48]) [101] #[.int .u8 101] ?e17_1 (.tmp 120) (.tmp 122) ?e17_2 HST1.out ?e17_3 ?e17_4 1 1 1 ?e17_5 ?e17_6 ?e17_7 ?e17_8 ?e17_9 ?e17_10); (case e17_1 => rfl); (case e17_2 => rfl); (case e17_3 => rfl); (case e17_5 => rfl); (case e17_4 => rfl); (case e17_6 => first | rfl | (simp; done) | (simp; omega)); (case e17_7 => rfl); (case e17_8 => rfl); (case e17_9 => first | (simp; done) | (simp; omega)); intro w2 hst2)
  have HST2 : Hid (St w w2 B g [48, 101]) := hid hst2
  clear hst2
  go_upto_region 47 with (at_builtin; (with_reducible refine st_append (w0 := w2) (l := [48, 101]) [43] #[.int .u8 43] ?e18_1 (.tmp 132) (.tmp 134) ?e18_2 HST2.out ?e18_3 ?e18_4 2 1 1 ?e18_5 ?e18_6 ?e18_7 ?e18_8 ?e18_9 ?e18_10); (case e18_1 => rfl); (case e18_2 => rfl); (case e18_3 => rfl); (case e18_5 => rfl); (case e18_4 => rfl); (case e18_6 => first | rfl | (simp; done) | (simp; omega)); (case e18_7 => rfl); (case e18_8 => rfl); (case e18_9 => first | (simp; done) | (simp; omega)); intro w3 hst3)
  have HST3 : Hid (St w w3 B g [48, 101, 43]) := hid hst3
  clear hst3
  go_wp2_with (at_builtin; (with_reducible refine st_append (w0 := w3) (l := [48, 101, 43]) [48, 48] #[.int .u8 48, .int .u8 48] ?e19_1 (.tmp 155) (.tmp 159) ?e19_2 HST3.out ?e19_3 ?e19_4 3 2 2 ?e19_5 ?e19_6 ?e19_7 ?e19_8 ?e19_9 ?e19_10); (case e19_1 => rfl); (case e19_2 => rfl); (case e19_3 => rfl); (case e19_5 => rfl); (case e19_4 => rfl); (case e19_6 => first | rfl | (simp; done) | (simp; omega)); (case e19_7 => rfl); (case e19_8 => rfl); (case e19_9 => first | (simp; done) | (simp; omega)); intro w4 hst4)
  have HST4 : Hid (St w w4 B g [48, 101, 43, 48, 48]) := hid hst4
  clear hst4
  go_ret
  exact ⟨rfl, HST4.out⟩
end Go.Proofs.YtlblkajnmdhmdaaGreatDoor
