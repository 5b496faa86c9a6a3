/-
  Walk: rounds of the program's match: a single with '*' or '+'.
  Walk: rounds of the program's match: a single with '-'.
-/
import Derived.Test.YtpinoolagbghnaaDoorZMatI
namespace Go.Proofs.YtpinoolagbghnaaDoor
set_option linter.unusedVariables false
open Go.RowKit Pat
theorem Pat.stepT_star {s : ByteArray} {it : It} {K : Nat → Nat → Cap → Ans} {i st : Nat} {c : Cap} {fl : Bool} {pl : Nat → Bool} (k0 : it.kind = 0) (h0 : it.sign ≠ 0) (h : it.sign ≠ 63) (h45 : it.sign ≠ 45) {n l : Nat} (hn : runLen s it.set (s.size - i) i = n) (hl : (if it.sign = 43 then 1 else 0) = l) :
    stepIt s fl pl it K i st c = if 50000 < st + n then none else down K i c (n + 1 - l) n (st + n) := by
  unfold stepIt; rw [k0]; simp only []; rw [if_neg h0, if_neg h, if_neg h45, hn, hl]; rfl

set_option maxRecDepth 1000000 in
set_option maxHeartbeats 4000000 in
theorem mat0s {lo m pc cb bm k g i st n0 : Nat} {s : ByteArray} {vi : Value} {P : Pt} {gs : List Nat} {K : Nat → Nat → Cap → Ans} {good good' : Nat → Cap → Prop} {it : It} {c : Cap} {W0 wr : World} {A : Ans} {MR : Nat → Nat → World → Prop} {u4 u5 u6 u7 u8 u9 u10 u11 u12 u13 u14 u15 u16 u17 u18 u19 u20 u21 u22 u23 u24 u25 u26 u27 u28 u29 u30 u31 u32 u33 u34 u35 u36 u37 u38 u39 u40 u41 u42 u43 u44 u45 u46 u47 u48 u49 u50 u51 u52 u53 u54 u55 u56 u57 u58 u59 u60 u61 u62 u63 u64 u65 u66 u67 u68 u69 u70 u71 u72 u73 u74 u75 u76 u77 u78 u79 u80 u81 u82 u83 u84 u85 u86 u87 u88 u89 u90 u91 u92 u93 u94 u95 u96 u97 u98 u99 u100 u101 u102 u103 u104 u105 u106 u107 u108 u109 u110 u111 u112 u113 u114 u115 u116 u117 u118 u119 u120 u121 u122 u123 u124 u125 u126 u127 u128 u129 u130 u131 u132 u133 u134 u135 u136 u137 u138 u139 u140 u141 u142 u143 u144 u145 u146 u147 u148 u149 u150 u151 u152 u153 u154 u155 u156 u157 u158 u159 u160 u161 u162 u163 u164 u165 u166 u167 u168 u169 u170 u171 u172 u173 u174 u175 u176 u177 u178 u179 u180 u181 u182 u183 u184 u185 u186 u187 u188 u189 u190 u191 u192 u193 u194 u195 u196 u197 u198 u199 u200 u201 u202 u203 u204 u205 u206 u207 u208 u209 u210 u211 u212 u213 u214 u215 u216 u217 u218 u219 u220 u221 u222 u223 u224 u225 u226 u227 u228 u229 u230 u231 u232 u233 u234 u235 u236 u237 u238 u239 u240 u241 u242 u243 u244 u245 u246 u247 u248 u249 u250 u251 u252 u253 u254 u255 u256 u257 u258 u259 u260 u261 u262 u263 u264 u265 u266 u267 u268 u269 u270 u271 u272 u273 u274 : Value} (U : UnderM lo m pc cb bm s vi P gs k K good good' it g i st c W0 wr) (hA : A = stepM s (fun _ => false) it K i st c) (hk0 : it.kind = 0) (hnext : ∀ (i' st' : Nat) (w' : World), i ≤ i' → i' ≤ s.size → st' ≤ 50000 → QS lo w' m pc s vi P gs cb st' c → Keeps W0.heap.size [m, cb] W0 w' → w'.heap[bm]? = some (.cells #[.pointer (some ⟨m, 0, none⟩)] 50 (0, 0)) → A = K i' st' c → MR (k + 1) i' w') (hset : BoolRow wr g 82 256 it.set) (l : Nat) (hsg : (it.sign = 42 ∧ l = 0) ∨ (it.sign = 43 ∧ l = 1)) (gd1 : ∀ j, i ≤ j → j ≤ s.size → good' j c)  :
    Code.wp Tryd.prog matBody (Exit.then (fun a' w' => MI m bm MR a' w' ∧ MMu P.items.length a' < MMu P.items.length ⟨#[.pointer (some ⟨m, 0, none⟩), .int .i64 k, .int .i64 i, .pointer (some ⟨bm, 0, none⟩), u4, u5, u6, u7, u8, u9, u10, u11, u12, u13, u14, u15, u16, u17, u18, u19, u20, u21, u22, u23, u24, u25, u26, u27, u28, u29, u30, u31, u32, u33, u34, u35, u36, u37, u38, u39, u40, u41, u42, u43, u44, u45, u46, u47, u48, u49, u50, u51, u52, u53, u54, u55, u56, u57, u58, u59, u60, u61, u62, u63, u64, u65, u66, u67, u68, u69, u70, u71, u72, u73, u74, u75, u76, u77, u78, u79, u80, u81, u82, u83, u84, u85, u86, u87, u88, u89, u90, u91, u92, u93, u94, u95, u96, u97, u98, u99, u100, u101, u102, u103, u104, u105, u106, u107, u108, u109, u110, u111, u112, u113, u114, u115, u116, u117, u118, u119, u120, u121, u122, u123, u124, u125, u126, u127, u128, u129, u130, u131, u132, u133, u134, u135, u136, u137, u138, u139, u140, u141, u142, u143, u144, u145, u146, u147, u148, u149, u150, u151, u152, u153, u154, u155, u156, u157, u158, u159, u160, u161, u162, u163, u164, u165, u166, u167, u168, u169, u170, u171, u172, u173, u174, u175, u176, u177, u178, u179, u180, u181, u182, u183, u184, u185, u186, u187, u188, u189, u190, u191, u192, u193, u194, u195, u196, u197, u198, u199, u200, u201, u202, u203, u204, u205, u206, u207, u208, u209, u210, u211, u212, u213, u214, u215, u216, u217, u218, u219, u220, u221, u222, u223, u224, u225, u226, u227, u228, u229, u230, u231, u232, u233, u234, u235, u236, u237, u238, u239, u240, u241, u242, u243, u244, u245, u246, u247, u248, u249, u250, u251, u252, u253, u254, u255, u256, u257, u258, u259, u260, u261, u262, u263, u264, u265, u266, u267, u268, u269, u270, u271, u272, u273, u274], []⟩) (Exit.inBlock 0 (bodyPost Tryd.prog Tryd.f39 (fun e w' => MatPost lo m pc s vi P gs cb A c W0 e w')))) ⟨#[.pointer (some ⟨m, 0, none⟩), .int .i64 k, .int .i64 i, .pointer (some ⟨bm, 0, none⟩), u4, u5, u6, u7, u8, u9, u10, u11, u12, u13, u14, u15, u16, u17, u18, u19, u20, u21, u22, u23, u24, u25, u26, u27, u28, u29, u30, u31, u32, u33, u34, u35, u36, u37, u38, u39, u40, u41, u42, u43, u44, u45, u46, u47, u48, u49, u50, u51, u52, u53, u54, u55, u56, u57, u58, u59, u60, u61, u62, u63, u64, u65, u66, u67, u68, u69, u70, u71, u72, u73, u74, u75, u76, u77, u78, u79, u80, u81, u82, u83, u84, u85, u86, u87, u88, u89, u90, u91, u92, u93, u94, u95, u96, u97, u98, u99, u100, u101, u102, u103, u104, u105, u106, u107, u108, u109, u110, u111, u112, u113, u114, u115, u116, u117, u118, u119, u120, u121, u122, u123, u124, u125, u126, u127, u128, u129, u130, u131, u132, u133, u134, u135, u136, u137, u138, u139, u140, u141, u142, u143, u144, u145, u146, u147, u148, u149, u150, u151, u152, u153, u154, u155, u156, u157, u158, u159, u160, u161, u162, u163, u164, u165, u166, u167, u168, u169, u170, u171, u172, u173, u174, u175, u176, u177, u178, u179, u180, u181, u182, u183, u184, u185, u186, u187, u188, u189, u190, u191, u192, u193, u194, u195, u196, u197, u198, u199, u200, u201, u202, u203, u204, u205, u206, u207, u208, u209, u210, u211, u212, u213, u214, u215, u216, u217, u218, u219, u220, u221, u222, u223, u224, u225, u226, u227, u228, u229, u230, u231, u232, u233, u234, u235, u236, u237, u238, u239, u240, u241, u242, u243, u244, u245, u246, u247, u248, u249, u250, u251, u252, u253, u254, u255, u256, u257, u258, u259, u260, u261, u262, u263, u264, u265, u266, u267, u268, u269, u270, u271, u272, u273, u274], []⟩ wr := by
  have HA := hid hA
  clear hA
  have hkl : k < P.items.length := (List.getElem?_eq_some_iff.1 U.e1).1
  have hi := U.hi
  have hs := U.hs
  have hl := U.hl
  have hst := U.hst
  obtain ⟨gi, cap, rfl, hgm, m0, m1, m2, m3, m4, m5⟩ := U.Q.item6 U.e1 U.e2
  have hgm1 : gi ≠ m := by simp at hgm; exact hgm.1
  have hsf : setP it g = .pointer (some ⟨g, 0, none⟩) := if_pos (Or.inl hk0)
  rw [hsf] at m1
  clear hsf hgm
  obtain ⟨c0, c1, c2, c3, f2⟩ := U.Q.cells
  obtain ⟨p0, p1, p2, q0, q1, q2⟩ := U.Q.pat.cells
  have hpm : pc ≠ m := by
    intro e
    have h1 : wr.heap[pc]? = some (.cells #[.bool P.start, .slice (some ⟨gi, 0, none⟩) P.items.length cap, .int .i64 P.caps] 49 (0, 0)) := U.Q.pat
    rw [e, U.Q.blk] at h1
    simp at h1
  have hbmo := U.Q.off U.bm0 (by decide) (by decide)
  have hbm1 : bm ≠ m := by simp at hbmo; exact hbmo.1
  have hb0 := blk_cell U.bm0 0
  have hbl := blk_lt U.bm0
  have z36 : (kb it.kind == 36) = false := by rw [hk0]; rfl
  have z40 : (kb it.kind == 40) = false := by rw [hk0]; rfl
  have z112 : (kb it.kind == 112) = false := by rw [hk0]; rfl
  have z41 : (kb it.kind == 41) = false := by rw [hk0]; rfl
  have z49 : (kb it.kind == 49) = false := by rw [hk0]; rfl
  have z98 : (kb it.kind == 98) = false := by rw [hk0]; rfl
  have z102 : (kb it.kind == 102) = false := by rw [hk0]; rfl
  have y0 : (it.sign == 0) = false := by rcases hsg with h | h <;> (rw [h.1]; rfl)
  have y63 : (it.sign == 63) = false := by rcases hsg with h | h <;> (rw [h.1]; rfl)
  have yy : ((it.sign == 42) = true ∧ (it.sign == 43) = false ∧ l = 0) ∨ ((it.sign == 42) = false ∧ (it.sign == 43) = true ∧ l = 1) := by
    rcases hsg with h | h
    · left; exact ⟨by rw [h.1]; rfl, by rw [h.1]; rfl, h.2⟩
    · right; exact ⟨by rw [h.1]; rfl, by rw [h.1]; rfl, h.2⟩
  have hl1 : l ≤ 1 := by rcases hsg with h | h <;> omega
  have hsl : it.sign ≠ 0 ∧ it.sign ≠ 63 ∧ it.sign ≠ 45 ∧ (if it.sign = 43 then 1 else 0) = l := by
    rcases hsg with h | h
    · refine ⟨by rw [h.1]; decide, by rw [h.1]; decide, by rw [h.1]; decide, by rw [h.1, h.2]; rfl⟩
    · refine ⟨by rw [h.1]; decide, by rw [h.1]; decide, by rw [h.1]; decide, by rw [h.1, h.2]; rfl⟩
  have HSL := hid hsl
  clear hsg hsl
  have hoffg : g ∉ [m, cb] := by
    obtain ⟨c0, hc0⟩ := row_blk hset
    exact U.Q.off hc0 (by decide) (by decide)
  have hmf : ∀ (fn : Fn) (first cap : Array Value) (w : World), (Instr.makeFunc fn first cap).run Tryd.prog w = .ok (.func fn first cap) w := fun _ _ _ _ => rfl
  have HK0 := hid hk0
  have HNX := hid hnext
  clear hk0 hnext
  conv => arg 2; whnf
  go_wp2_with fail
  by_cases ho : 50000 < st + 1
  · obtain rfl : st = 50000 := by omega
    refine (step_over _ c2).mono ?_
    rintro e w' ⟨rfl, rfl⟩
    go_wp2_with fail
    exact ⟨rfl, U.Kp, Or.inl ⟨HA.out.trans (if_pos ho), rfl⟩⟩
  · have HA1 : Hid (A = stepIt s true (fun _ => false) it K i (st + 1) c) := hid (HA.out.trans (if_neg ho))
    clear HA
    refine (step_ok _ c2 f2 (by omega)).mono ?_
    rintro e w' ⟨rfl, rfl⟩
    go_upto_region 5 with fail
    obtain ⟨W, hW⟩ : ∃ W, W = (wr.setCell ⟨m, 2, none⟩ (.int .i64 ((st : Int) + 1))).alloc (.cells #[.int .u8 (kb it.kind), .pointer (some ⟨g, 0, none⟩), .int .u8 it.sign, .int .i64 it.n, .int .u8 it.x, .int .u8 it.y] 77) := ⟨_, rfl⟩
    have hWb : W.heap[wr.heap.size]? = some (.cells #[.int .u8 (kb it.kind), .pointer (some ⟨g, 0, none⟩), .int .u8 it.sign, .int .i64 it.n, .int .u8 it.x, .int .u8 it.y] 77 (0, 0)) := by rw [hW, ← World.size_setCell (w := wr)]; exact blk_new _ _
    have hKa : Keeps wr.heap.size [m, cb] wr W := by rw [hW]; exact ((Keeps.refl _ _ _).setCell (Or.inl (by simp)) _).alloc (by simp) _
    have hQ : QS lo W m pc s (.slice (some ⟨gi, 0, none⟩) P.items.length cap) P gs cb (st + 1) c := by rw [hW]; exact (U.Q.setSt (v := (st : Int) + 1) (st' := st + 1) rfl).keeps ((Keeps.refl _ _ _).alloc (Nat.le_refl _) _)
    have hKW : Keeps W0.heap.size [m, cb] W0 W := U.Kp.then3 hKa
    have hbW := hKa.blk U.bm0 hbl hbmo
    have HKA := hid hKa
    rw [← hW]
    clear hW hKa m0 m1 m2 m3 m4 m5 c0 c1 c2 c3 f2 p0 p1 p2 q0 q1 q2 hb0
    obtain ⟨c0, c1, c2, c3, f2⟩ := hQ.cells
    have hb0 := blk_cell hbW 0
    have b0 := blk_cell hWb 0
    have b1 := blk_cell hWb 1
    have b2 := blk_cell hWb 2
    have b3 := blk_cell hWb 3
    have b4 := blk_cell hWb 4
    have b5 := blk_cell hWb 5
    have hsetW := HKA.out.row hset hset.lt hoffg
    have hne4 : wr.heap.size ∉ [m, cb] := hQ.off hWb (by decide) (by decide)
    obtain ⟨N, hN⟩ : ∃ N, runLen s it.set (s.size - i) i = N := ⟨_, rfl⟩
    have HG : Hid (A = if 50000 < st + 1 + N then none else down K i c (N + 1 - l) N (st + 1 + N)) := hid (HA1.out.trans (stepT_star HK0.out HSL.out.1 HSL.out.2.1 HSL.out.2.2.1 hN HSL.out.2.2.2))
    have hNle : N ≤ s.size - i := hN ▸ run_le _ _
    have HN := hid hN
    clear HA1 hN
    obtain ⟨wo, hwo⟩ : ∃ wo : World, wo = wr := ⟨_, rfl⟩
    subst hwo
    have yy2 : ((it.sign == 42) = true ∧ (it.sign == 43) = false ∧ l ≤ 0) ∨ ((it.sign == 42) = false ∧ (it.sign == 43) = true ∧ 1 ≤ l) := by
      rcases yy with ⟨a, b, h⟩ | ⟨a, b, h⟩
      · left; exact ⟨a, b, by omega⟩
      · right; exact ⟨a, b, by omega⟩
    clear yy
    rcases yy2 with ⟨y42, y43, hl0⟩ | ⟨y42, y43, hl0⟩
    all_goals
      go_wp2_with fail
      go_loopw [17] (fun v wr => ∃ n : Nat, v = .int .i64 n ∧ i + n ≤ s.size ∧ st + 1 + n ≤ 50000 ∧ QS lo wr m pc s (.slice (some ⟨gi, 0, none⟩) P.items.length cap) P gs cb (st + 1 + n) c ∧ Keeps W0.heap.size [m, cb] W0 wr ∧ Keeps W.heap.size [m, cb] W wr ∧ Hid (runLen s it.set (s.size - (i + n)) (i + n) + n = N)) (fun v _ => s.size - (intOf v).toNat)
      case atStart => exact ⟨0, rfl, by omega, by omega, hQ, hKW, Keeps.refl _ _ _, hid (by simpa using HN.out)⟩
      case round =>
        obtain ⟨n, rfl, hin, hsn, hQr, hKr, hkr, HRN⟩ := hrel
        have hbr := hkr.blk hbW (blk_lt hbW) (hQ.off hbW (by decide) (by decide))
        have htr := hkr.blk hWb (blk_lt hWb) hne4
        have hsr := hkr.row hsetW hsetW.lt (by
          obtain ⟨cc, hcc⟩ := row_blk hsetW
          exact hQ.off hcc (by decide) (by decide))
        obtain ⟨d0, d1, d2, d3, g2⟩ := hQr.cells
        have hb0' := blk_cell hbr 0
        have b1' := blk_cell htr 1
        have b2' := blk_cell htr 2
        clear c0 c1 c2 c3 f2 hb0 b0 b1 b2 b3 b4 b5
        go_wp2_with fail
        refine ((show Calls Tryd.prog 58 #[.int .i64 ((i : Int) + n), .pointer (some ⟨bm, 0, none⟩), .pointer (some ⟨wo.heap.size, 0, none⟩)] wr (fun e w' => e = .returned (.bool (has s it.set (i + n))) ∧ ∃ x, w' = wr.drewN x) from (by
          have := fits_any m bm wo.heap.size g (i + n) s it.set wr hs (by omega) hb0' d1 b1' hsr
          rwa [show (((i + n : Nat) : Int)) = (i : Int) + n by omega] at this))).mono ?_
        rintro e w' ⟨rfl, x1, rfl⟩
        obtain ⟨hb, hhb⟩ : ∃ hb, hb = has s it.set (i + n) := ⟨_, rfl⟩
        rw [← hhb]
        have HB := hid hhb
        clear hhb
        cases hb
        · have hnN : n = N := by have := HRN.out; rw [run_stop HB.out.symm] at this; omega
          subst hnN
          have HD := hid (HG.out.trans (if_neg (by omega)))
          clear HRN
          go_wp2_with fail
          clear d0 d1 d2 d3 g2 hb0' b1' b2'
          obtain ⟨w4, hw4⟩ : ∃ w4 : World, w4 = wr := ⟨_, rfl⟩
          subst hw4
          have hQ4 := hQr.drewN x1
          have hK4 := hKr.drewN x1
          go_loopg [17] (n + 1 - l) (fun gk v wr => ∃ (z : Int) (st' : Nat), v = .int .i64 z ∧ z + 1 = l + gk ∧ l + gk ≤ n + 1 ∧ QS lo wr m pc s (.slice (some ⟨gi, 0, none⟩) P.items.length cap) P gs cb st' c ∧ Keeps W0.heap.size [m, cb] W0 wr ∧ wr.heap[bm]? = some (.cells #[.pointer (some ⟨m, 0, none⟩)] 50 (0, 0)) ∧ st' ≤ 50000 ∧ Hid (A = down K i c gk z.toNat st'))
          case atStart => exact ⟨n, st + 1 + n, rfl, by omega, by omega, hQ4, hK4, hbr, hsn, hid (by simpa using HD.out)⟩
          case round =>
            obtain ⟨z, st', rfl, hz, hgm, hQz, hKz, hbz, hsz, HGz⟩ := hrel
            have hb0z := blk_cell hbz 0
            by_cases hg0 : gk = 0
            · subst hg0
              have hzl : z < l := by omega
              have HAz : Hid (A = some (st', none)) := hid HGz.out
              clear HGz
              go_wp2_with fail
              go_ret
              exact ⟨hKz, Or.inr (Or.inl ⟨st', HAz.out, hQz, hsz, rfl⟩)⟩
            · obtain ⟨gk', rfl⟩ : ∃ x, gk = x + 1 := ⟨gk - 1, by omega⟩
              obtain ⟨y, rfl⟩ : ∃ y : Nat, z = y := ⟨z.toNat, by omega⟩
              have hyl : l ≤ y := by omega
              have hym : y ≤ n := by omega
              go_wp2_with fail
              refine (U.H.at (k1 := (k : Int) + 1) (x := (i : Int) + y) (i := i + y) (c := c) (by omega) (by omega) (by omega) hsz (gd1 (i + y) (by omega) (by omega)) hQz rfl).mono ?_
              rintro e w2 ⟨hK2, hcase⟩
              have hbz2 := hK2.blk hbz (blk_lt hbz) (hQz.off hbz (by decide) (by decide))
              have hKz2 := hKz.then3 hK2
              rcases hcase with ⟨hk1, rfl⟩ | ⟨st2, hk1, hQ6, hs2, rfl⟩ | ⟨st2, e2, c2', hk1, hQ6, hs2, he2, rfl⟩
              · have HAz : Hid (A = none) := hid (HGz.out.trans (down_none (by simpa using hk1)))
                go_wp2_with fail
                exact ⟨rfl, hKz2, Or.inl ⟨HAz.out, rfl⟩⟩
              · have HAz : Hid (A = down K i c gk' (y - 1) st2) := hid (HGz.out.trans (down_go (by simpa using hk1)))
                clear hk1 HGz
                go_wp2_with fail
                go_roundg gk'
                case measure => omega
                case rel => exact ⟨_, st2, rfl, by omega, by omega, hQ6, hKz2, hbz2, hs2, hid (by rw [HAz.out]; congr 1; omega)⟩
              · have HAz : Hid (A = some (st2, some (e2, c2'))) := hid (HGz.out.trans (down_hit (by simpa using hk1)))
                have he0 : (0 : Int) ≤ e2 := by omega
                go_wp2_with fail
                go_ret
                exact ⟨hKz2, Or.inr (Or.inr ⟨st2, e2, c2', HAz.out, hQ6, hs2, he2, rfl⟩)⟩
        · have hlt := has_lt HB.out.symm
          have hnN : n + 1 ≤ N := by have := HRN.out; rw [run_step HB.out.symm] at this; omega
          have HR2 : Hid (runLen s it.set (s.size - (i + (n + 1))) (i + (n + 1)) + (n + 1) = N) := hid (by have := HRN.out; rw [run_step HB.out.symm] at this; rw [← Nat.add_assoc i n 1]; omega)
          clear HRN
          by_cases ho2 : st + 1 + n < 50000
          · go_wp2_with fail
            refine (step_ok (st := st + 1 + n) _ (by go_simp) (by go_simp) ho2).mono ?_
            rintro e w' ⟨rfl, rfl⟩
            go_wp2_with fail
            go_roundw
            case measure => simp [intOf]; omega
            case rel => exact ⟨n + 1, by go_num, by omega, by omega, (hQr.drewN _).setSt (by omega), (hKr.drewN _).setCell (Or.inl (by simp)) _, (hkr.drewN _).setCell (Or.inl (by simp)) _, HR2⟩
          · have hst5 : st + 1 + n = 50000 := by omega
            have HAN : Hid (A = none) := hid (HG.out.trans (if_pos (by omega)))
            rw [hst5] at d2
            clear hst5
            go_wp2_with fail
            refine (step_over _ (by go_simp)).mono ?_
            rintro e w' ⟨rfl, rfl⟩
            go_wp2_with fail
            exact ⟨rfl, hKr.drewN _, Or.inl ⟨HAN.out, rfl⟩⟩
end Go.Proofs.YtpinoolagbghnaaDoor

namespace Go.Proofs.YtpinoolagbghnaaDoor
set_option linter.unusedVariables false
open Go.RowKit Pat

set_option maxRecDepth 1000000 in
set_option maxHeartbeats 4000000 in
theorem mat0m {lo m pc cb bm k g i st n0 : Nat} {s : ByteArray} {vi : Value} {P : Pt} {gs : List Nat} {K : Nat → Nat → Cap → Ans} {good good' : Nat → Cap → Prop} {it : It} {c : Cap} {W0 wr : World} {A : Ans} {MR : Nat → Nat → World → Prop} {u4 u5 u6 u7 u8 u9 u10 u11 u12 u13 u14 u15 u16 u17 u18 u19 u20 u21 u22 u23 u24 u25 u26 u27 u28 u29 u30 u31 u32 u33 u34 u35 u36 u37 u38 u39 u40 u41 u42 u43 u44 u45 u46 u47 u48 u49 u50 u51 u52 u53 u54 u55 u56 u57 u58 u59 u60 u61 u62 u63 u64 u65 u66 u67 u68 u69 u70 u71 u72 u73 u74 u75 u76 u77 u78 u79 u80 u81 u82 u83 u84 u85 u86 u87 u88 u89 u90 u91 u92 u93 u94 u95 u96 u97 u98 u99 u100 u101 u102 u103 u104 u105 u106 u107 u108 u109 u110 u111 u112 u113 u114 u115 u116 u117 u118 u119 u120 u121 u122 u123 u124 u125 u126 u127 u128 u129 u130 u131 u132 u133 u134 u135 u136 u137 u138 u139 u140 u141 u142 u143 u144 u145 u146 u147 u148 u149 u150 u151 u152 u153 u154 u155 u156 u157 u158 u159 u160 u161 u162 u163 u164 u165 u166 u167 u168 u169 u170 u171 u172 u173 u174 u175 u176 u177 u178 u179 u180 u181 u182 u183 u184 u185 u186 u187 u188 u189 u190 u191 u192 u193 u194 u195 u196 u197 u198 u199 u200 u201 u202 u203 u204 u205 u206 u207 u208 u209 u210 u211 u212 u213 u214 u215 u216 u217 u218 u219 u220 u221 u222 u223 u224 u225 u226 u227 u228 u229 u230 u231 u232 u233 u234 u235 u236 u237 u238 u239 u240 u241 u242 u243 u244 u245 u246 u247 u248 u249 u250 u251 u252 u253 u254 u255 u256 u257 u258 u259 u260 u261 u262 u263 u264 u265 u266 u267 u268 u269 u270 u271 u272 u273 u274 : Value} (U : UnderM lo m pc cb bm s vi P gs k K good good' it g i st c W0 wr) (hA : A = stepM s (fun _ => false) it K i st c) (hk0 : it.kind = 0) (hnext : ∀ (i' st' : Nat) (w' : World), i ≤ i' → i' ≤ s.size → st' ≤ 50000 → QS lo w' m pc s vi P gs cb st' c → Keeps W0.heap.size [m, cb] W0 w' → w'.heap[bm]? = some (.cells #[.pointer (some ⟨m, 0, none⟩)] 50 (0, 0)) → A = K i' st' c → MR (k + 1) i' w') (hset : BoolRow wr g 82 256 it.set) (hsg : it.sign = 45) (gd1 : ∀ j, i ≤ j → j ≤ s.size → good' j c)  :
    Code.wp Tryd.prog matBody (Exit.then (fun a' w' => MI m bm MR a' w' ∧ MMu P.items.length a' < MMu P.items.length ⟨#[.pointer (some ⟨m, 0, none⟩), .int .i64 k, .int .i64 i, .pointer (some ⟨bm, 0, none⟩), u4, u5, u6, u7, u8, u9, u10, u11, u12, u13, u14, u15, u16, u17, u18, u19, u20, u21, u22, u23, u24, u25, u26, u27, u28, u29, u30, u31, u32, u33, u34, u35, u36, u37, u38, u39, u40, u41, u42, u43, u44, u45, u46, u47, u48, u49, u50, u51, u52, u53, u54, u55, u56, u57, u58, u59, u60, u61, u62, u63, u64, u65, u66, u67, u68, u69, u70, u71, u72, u73, u74, u75, u76, u77, u78, u79, u80, u81, u82, u83, u84, u85, u86, u87, u88, u89, u90, u91, u92, u93, u94, u95, u96, u97, u98, u99, u100, u101, u102, u103, u104, u105, u106, u107, u108, u109, u110, u111, u112, u113, u114, u115, u116, u117, u118, u119, u120, u121, u122, u123, u124, u125, u126, u127, u128, u129, u130, u131, u132, u133, u134, u135, u136, u137, u138, u139, u140, u141, u142, u143, u144, u145, u146, u147, u148, u149, u150, u151, u152, u153, u154, u155, u156, u157, u158, u159, u160, u161, u162, u163, u164, u165, u166, u167, u168, u169, u170, u171, u172, u173, u174, u175, u176, u177, u178, u179, u180, u181, u182, u183, u184, u185, u186, u187, u188, u189, u190, u191, u192, u193, u194, u195, u196, u197, u198, u199, u200, u201, u202, u203, u204, u205, u206, u207, u208, u209, u210, u211, u212, u213, u214, u215, u216, u217, u218, u219, u220, u221, u222, u223, u224, u225, u226, u227, u228, u229, u230, u231, u232, u233, u234, u235, u236, u237, u238, u239, u240, u241, u242, u243, u244, u245, u246, u247, u248, u249, u250, u251, u252, u253, u254, u255, u256, u257, u258, u259, u260, u261, u262, u263, u264, u265, u266, u267, u268, u269, u270, u271, u272, u273, u274], []⟩) (Exit.inBlock 0 (bodyPost Tryd.prog Tryd.f39 (fun e w' => MatPost lo m pc s vi P gs cb A c W0 e w')))) ⟨#[.pointer (some ⟨m, 0, none⟩), .int .i64 k, .int .i64 i, .pointer (some ⟨bm, 0, none⟩), u4, u5, u6, u7, u8, u9, u10, u11, u12, u13, u14, u15, u16, u17, u18, u19, u20, u21, u22, u23, u24, u25, u26, u27, u28, u29, u30, u31, u32, u33, u34, u35, u36, u37, u38, u39, u40, u41, u42, u43, u44, u45, u46, u47, u48, u49, u50, u51, u52, u53, u54, u55, u56, u57, u58, u59, u60, u61, u62, u63, u64, u65, u66, u67, u68, u69, u70, u71, u72, u73, u74, u75, u76, u77, u78, u79, u80, u81, u82, u83, u84, u85, u86, u87, u88, u89, u90, u91, u92, u93, u94, u95, u96, u97, u98, u99, u100, u101, u102, u103, u104, u105, u106, u107, u108, u109, u110, u111, u112, u113, u114, u115, u116, u117, u118, u119, u120, u121, u122, u123, u124, u125, u126, u127, u128, u129, u130, u131, u132, u133, u134, u135, u136, u137, u138, u139, u140, u141, u142, u143, u144, u145, u146, u147, u148, u149, u150, u151, u152, u153, u154, u155, u156, u157, u158, u159, u160, u161, u162, u163, u164, u165, u166, u167, u168, u169, u170, u171, u172, u173, u174, u175, u176, u177, u178, u179, u180, u181, u182, u183, u184, u185, u186, u187, u188, u189, u190, u191, u192, u193, u194, u195, u196, u197, u198, u199, u200, u201, u202, u203, u204, u205, u206, u207, u208, u209, u210, u211, u212, u213, u214, u215, u216, u217, u218, u219, u220, u221, u222, u223, u224, u225, u226, u227, u228, u229, u230, u231, u232, u233, u234, u235, u236, u237, u238, u239, u240, u241, u242, u243, u244, u245, u246, u247, u248, u249, u250, u251, u252, u253, u254, u255, u256, u257, u258, u259, u260, u261, u262, u263, u264, u265, u266, u267, u268, u269, u270, u271, u272, u273, u274], []⟩ wr := by
  have HA := hid hA
  clear hA
  have hkl : k < P.items.length := (List.getElem?_eq_some_iff.1 U.e1).1
  have hi := U.hi
  have hs := U.hs
  have hl := U.hl
  have hst := U.hst
  obtain ⟨gi, cap, rfl, hgm, m0, m1, m2, m3, m4, m5⟩ := U.Q.item6 U.e1 U.e2
  have hgm1 : gi ≠ m := by simp at hgm; exact hgm.1
  have hsf : setP it g = .pointer (some ⟨g, 0, none⟩) := if_pos (Or.inl hk0)
  rw [hsf] at m1
  clear hsf hgm
  obtain ⟨c0, c1, c2, c3, f2⟩ := U.Q.cells
  obtain ⟨p0, p1, p2, q0, q1, q2⟩ := U.Q.pat.cells
  have hpm : pc ≠ m := by
    intro e
    have h1 : wr.heap[pc]? = some (.cells #[.bool P.start, .slice (some ⟨gi, 0, none⟩) P.items.length cap, .int .i64 P.caps] 49 (0, 0)) := U.Q.pat
    rw [e, U.Q.blk] at h1
    simp at h1
  have hbmo := U.Q.off U.bm0 (by decide) (by decide)
  have hbm1 : bm ≠ m := by simp at hbmo; exact hbmo.1
  have hb0 := blk_cell U.bm0 0
  have hbl := blk_lt U.bm0
  have z36 : (kb it.kind == 36) = false := by rw [hk0]; rfl
  have z40 : (kb it.kind == 40) = false := by rw [hk0]; rfl
  have z112 : (kb it.kind == 112) = false := by rw [hk0]; rfl
  have z41 : (kb it.kind == 41) = false := by rw [hk0]; rfl
  have z49 : (kb it.kind == 49) = false := by rw [hk0]; rfl
  have z98 : (kb it.kind == 98) = false := by rw [hk0]; rfl
  have z102 : (kb it.kind == 102) = false := by rw [hk0]; rfl
  have y0 : (it.sign == 0) = false := by rw [hsg]; rfl
  have y63 : (it.sign == 63) = false := by rw [hsg]; rfl
  have y42 : (it.sign == 42) = false := by rw [hsg]; rfl
  have y43 : (it.sign == 43) = false := by rw [hsg]; rfl
  have y45 : (it.sign == 45) = true := by rw [hsg]; rfl
  have HSG := hid hsg
  clear hsg
  have hoffg : g ∉ [m, cb] := by
    obtain ⟨c0, hc0⟩ := row_blk hset
    exact U.Q.off hc0 (by decide) (by decide)
  have hmf : ∀ (fn : Fn) (first cap : Array Value) (w : World), (Instr.makeFunc fn first cap).run Tryd.prog w = .ok (.func fn first cap) w := fun _ _ _ _ => rfl
  have HK0 := hid hk0
  have HNX := hid hnext
  clear hk0 hnext
  conv => arg 2; whnf
  go_wp2_with fail
  by_cases ho : 50000 < st + 1
  · obtain rfl : st = 50000 := by omega
    refine (step_over _ c2).mono ?_
    rintro e w' ⟨rfl, rfl⟩
    go_wp2_with fail
    exact ⟨rfl, U.Kp, Or.inl ⟨HA.out.trans (if_pos ho), rfl⟩⟩
  · have HA1 : Hid (A = stepIt s true (fun _ => false) it K i (st + 1) c) := hid (HA.out.trans (if_neg ho))
    clear HA
    refine (step_ok _ c2 f2 (by omega)).mono ?_
    rintro e w' ⟨rfl, rfl⟩
    go_upto_region 5 with fail
    obtain ⟨W, hW⟩ : ∃ W, W = (wr.setCell ⟨m, 2, none⟩ (.int .i64 ((st : Int) + 1))).alloc (.cells #[.int .u8 (kb it.kind), .pointer (some ⟨g, 0, none⟩), .int .u8 it.sign, .int .i64 it.n, .int .u8 it.x, .int .u8 it.y] 77) := ⟨_, rfl⟩
    have hWb : W.heap[wr.heap.size]? = some (.cells #[.int .u8 (kb it.kind), .pointer (some ⟨g, 0, none⟩), .int .u8 it.sign, .int .i64 it.n, .int .u8 it.x, .int .u8 it.y] 77 (0, 0)) := by rw [hW, ← World.size_setCell (w := wr)]; exact blk_new _ _
    have hKa : Keeps wr.heap.size [m, cb] wr W := by rw [hW]; exact ((Keeps.refl _ _ _).setCell (Or.inl (by simp)) _).alloc (by simp) _
    have hQ : QS lo W m pc s (.slice (some ⟨gi, 0, none⟩) P.items.length cap) P gs cb (st + 1) c := by rw [hW]; exact (U.Q.setSt (v := (st : Int) + 1) (st' := st + 1) rfl).keeps ((Keeps.refl _ _ _).alloc (Nat.le_refl _) _)
    have hKW : Keeps W0.heap.size [m, cb] W0 W := U.Kp.then3 hKa
    have hbW := hKa.blk U.bm0 hbl hbmo
    have HKA := hid hKa
    rw [← hW]
    clear hW hKa m0 m1 m2 m3 m4 m5 c0 c1 c2 c3 f2 p0 p1 p2 q0 q1 q2 hb0
    obtain ⟨c0, c1, c2, c3, f2⟩ := hQ.cells
    have hb0 := blk_cell hbW 0
    have b0 := blk_cell hWb 0
    have b1 := blk_cell hWb 1
    have b2 := blk_cell hWb 2
    have b3 := blk_cell hWb 3
    have b4 := blk_cell hWb 4
    have b5 := blk_cell hWb 5
    have hsetW := HKA.out.row hset hset.lt hoffg
    have hne4 : wr.heap.size ∉ [m, cb] := hQ.off hWb (by decide) (by decide)
    have HG : Hid (A = up s it.set K c (s.size - i + 1) i (st + 1)) := hid (by rw [HA1.out]; unfold stepIt; rw [HK0.out]; simp only []; rw [if_neg (by rw [HSG.out]; decide), if_neg (by rw [HSG.out]; decide), if_pos HSG.out])
    clear HA1
    obtain ⟨wo, hwo⟩ : ∃ wo : World, wo = wr := ⟨_, rfl⟩
    subst hwo
    go_wp2_with fail
    go_loopg [2] (s.size - i + 1) (fun gk v wr => ∃ (j st' : Nat), v = .int .i64 j ∧ j + gk = s.size + 1 ∧ i ≤ j ∧ j ≤ s.size ∧ st' ≤ 50000 ∧ QS lo wr m pc s (.slice (some ⟨gi, 0, none⟩) P.items.length cap) P gs cb st' c ∧ Keeps W0.heap.size [m, cb] W0 wr ∧ Keeps W.heap.size [m, cb] W wr ∧ Hid (A = up s it.set K c gk j st'))
    case atStart => exact ⟨i, st + 1, rfl, by omega, Nat.le_refl _, hi, by omega, hQ, hKW, Keeps.refl _ _ _, HG⟩
    case round =>
      obtain ⟨j, st', rfl, hgk, hij, hjs, hs1, hQr, hKr, hkr, HGr⟩ := hrel
      obtain ⟨gk', rfl⟩ : ∃ x, gk = x + 1 := ⟨gk - 1, by omega⟩
      have hbr := hkr.blk hbW (blk_lt hbW) (hQ.off hbW (by decide) (by decide))
      have hb0' := blk_cell hbr 0
      clear c0 c1 c2 c3 f2 hb0 b0 b1 b2 b3 b4 b5
      go_wp2_with fail
      refine (U.H.at (k1 := (k : Int) + 1) (x := (j : Int)) (i := j) (c := c) (by omega) rfl hjs hs1 (gd1 j hij hjs) hQr rfl).mono ?_
      rintro e w2 ⟨hK2, hcase⟩
      have hkr2 := hkr.then3 hK2
      have hKr2 := hKr.then3 hK2
      rcases hcase with ⟨hk1, rfl⟩ | ⟨st2, hk1, hQ6, hs2, rfl⟩ | ⟨st2, e2, c2', hk1, hQ6, hs2, he2, rfl⟩
      · have HAz : Hid (A = none) := hid (HGr.out.trans (up_none hk1))
        go_wp2_with fail
        exact ⟨rfl, hKr2, Or.inl ⟨HAz.out, rfl⟩⟩
      · have HK1 := hid hk1
        have hb2r := hkr2.blk hbW (blk_lt hbW) (hQ.off hbW (by decide) (by decide))
        have ht2r := hkr2.blk hWb (blk_lt hWb) hne4
        have hs2r := hkr2.row hsetW hsetW.lt (by
          obtain ⟨cc, hcc⟩ := row_blk hsetW
          exact hQ.off hcc (by decide) (by decide))
        obtain ⟨d0, d1, d2, d3, g2⟩ := hQ6.cells
        have hb02 := blk_cell hb2r 0
        have b12 := blk_cell ht2r 1
        clear hk1 hb0'
        go_wp2_with fail
        refine (fits_any m bm wo.heap.size g j s it.set _ hs (by omega) (by go_simp) (by go_simp) (by go_simp) hs2r).mono ?_
        rintro e w' ⟨rfl, x1, rfl⟩
        obtain ⟨hb, hhb⟩ : ∃ hb, hb = has s it.set j := ⟨_, rfl⟩
        rw [← hhb]
        have HB := hid hhb
        clear hhb
        cases hb
        · have HAz : Hid (A = some (st2, none)) := hid (HGr.out.trans (up_stop HK1.out HB.out.symm))
          clear HGr
          go_wp2_with fail
          go_ret
          exact ⟨hKr2.drewN _, Or.inr (Or.inl ⟨st2, HAz.out, hQ6.drewN _, hs2, rfl⟩)⟩
        · have hlt := has_lt HB.out.symm
          by_cases ho2 : st2 < 50000
          · have HAz : Hid (A = up s it.set K c gk' (j + 1) (st2 + 1)) := hid (HGr.out.trans (up_go HK1.out HB.out.symm (by omega)))
            clear HGr
            go_wp2_with fail
            refine (step_ok (st := st2) _ (by go_simp) (by go_simp) ho2).mono ?_
            rintro e w' ⟨rfl, rfl⟩
            go_wp2_with fail
            go_roundg gk'
            case measure => omega
            case rel => exact ⟨j + 1, st2 + 1, by go_num, by omega, by omega, by omega, by omega, (hQ6.drewN _).setSt (by omega), (hKr2.drewN _).setCell (Or.inl (by simp)) _, (hkr2.drewN _).setCell (Or.inl (by simp)) _, HAz⟩
          · obtain rfl : st2 = 50000 := by omega
            have HAz : Hid (A = none) := hid (HGr.out.trans (up_over HK1.out HB.out.symm (by omega)))
            clear HGr
            go_wp2_with fail
            refine (step_over _ (by go_simp)).mono ?_
            rintro e w' ⟨rfl, rfl⟩
            go_wp2_with fail
            exact ⟨rfl, hKr2.drewN _, Or.inl ⟨HAz.out, rfl⟩⟩
      · have HAz : Hid (A = some (st2, some (e2, c2'))) := hid (HGr.out.trans (up_hit hk1))
        have he0 : (0 : Int) ≤ e2 := by omega
        go_wp2_with fail
        go_ret
        exact ⟨hKr2, Or.inr (Or.inr ⟨st2, e2, c2', HAz.out, hQ6, hs2, he2, rfl⟩)⟩
end Go.Proofs.YtpinoolagbghnaaDoor
