/-
  Walk: rounds of the program's match: captures.
-/
import Derived.Test.YtpinoolagbghnaaDoorZMatF
namespace Go.Proofs.YtpinoolagbghnaaDoor
set_option linter.unusedVariables false
open Go.RowKit Pat
theorem QS.cap_ {lo m pc cb st n : Nat} {s : ByteArray} {vi : Value} {P : Pt} {gs : List Nat} {c : Cap} {w : World} (h : QS lo w m pc s vi P gs cb st c) (p : Bool) (f t : Nat) :
    QS lo (((w.setCell ⟨cb, n * 3, none⟩ (.bool p)).setCell ⟨cb, n * 3 + 1, none⟩ (.int .i64 (f : Nat))).setCell ⟨cb, n * 3 + 2, none⟩ (.int .i64 (t : Nat))) m pc s vi P gs cb st ⟨upd c.pl n p, upd c.frm n f, upd c.to n t⟩ ∧
    Keeps w.heap.size [m, cb] w (((w.setCell ⟨cb, n * 3, none⟩ (.bool p)).setCell ⟨cb, n * 3 + 1, none⟩ (.int .i64 (f : Nat))).setCell ⟨cb, n * 3 + 2, none⟩ (.int .i64 (t : Nat))) := by
  have hk : Keeps w.heap.size [cb] w (((w.setCell ⟨cb, n * 3, none⟩ (.bool p)).setCell ⟨cb, n * 3 + 1, none⟩ (.int .i64 (f : Nat))).setCell ⟨cb, n * 3 + 2, none⟩ (.int .i64 (t : Nat))) :=
    (((Keeps.refl _ _ _).setCell (Or.inl (by simp)) _).setCell (Or.inl (by simp)) _).setCell (Or.inl (by simp)) _
  refine ⟨h.after hk (by simp) (hk.blk h.blk (blk_lt h.blk) (by simpa using Ne.symm h.ne)) ((((World.rowIs.set h.caps (n * 3) _).set (n * 3 + 1) _).set (n * 3 + 2) _).congr fun j _ => ?_), hk.mono (Nat.le_refl _) (by simp)⟩
  unfold capAt upd
  dsimp only
  by_cases e2 : j = n * 3 + 2
  · rw [if_pos e2, if_neg (by omega), if_neg (by omega), if_pos (by omega)]
  · rw [if_neg e2]
    by_cases e1 : j = n * 3 + 1
    · rw [if_pos e1, if_neg (by omega), if_pos (by omega), if_pos (by omega)]
    · rw [if_neg e1]
      by_cases e0 : j = n * 3
      · rw [if_pos e0, if_pos (by omega), if_pos (by omega)]
      · rw [if_neg e0]
        have : j / 3 ≠ n := by omega
        simp only [this, if_false]
theorem QS.to_ {lo m pc cb st n : Nat} {s : ByteArray} {vi : Value} {P : Pt} {gs : List Nat} {c : Cap} {w : World} (h : QS lo w m pc s vi P gs cb st c) (t : Nat) :
    QS lo (w.setCell ⟨cb, n * 3 + 2, none⟩ (.int .i64 (t : Nat))) m pc s vi P gs cb st ⟨c.pl, c.frm, upd c.to n t⟩ ∧ Keeps w.heap.size [m, cb] w (w.setCell ⟨cb, n * 3 + 2, none⟩ (.int .i64 (t : Nat))) := by
  have hk : Keeps w.heap.size [cb] w (w.setCell ⟨cb, n * 3 + 2, none⟩ (.int .i64 (t : Nat))) := (Keeps.refl _ _ _).setCell (Or.inl (by simp)) _
  refine ⟨h.after hk (by simp) (hk.blk h.blk (blk_lt h.blk) (by simpa using Ne.symm h.ne)) ((World.rowIs.set h.caps (n * 3 + 2) _).congr fun j _ => ?_), hk.mono (Nat.le_refl _) (by simp)⟩
  unfold capAt upd
  dsimp only
  by_cases e2 : j = n * 3 + 2
  · rw [if_pos e2, if_neg (by omega), if_neg (by omega), if_pos (by omega)]
  · rw [if_neg e2]
    by_cases e1 : j % 3 = 0
    · rw [if_pos e1, if_pos e1]
    · rw [if_neg e1, if_neg e1]
      by_cases e0 : j % 3 = 1
      · rw [if_pos e0, if_pos e0]
      · rw [if_neg e0, if_neg e0]
        have : j / 3 ≠ n := by omega
        simp only [this, if_false]

set_option maxRecDepth 1000000 in
set_option maxHeartbeats 4000000 in
theorem mat2 {lo m pc cb bm k g i st n0 : Nat} {s : ByteArray} {vi : Value} {P : Pt} {gs : List Nat} {K : Nat → Nat → Cap → Ans} {good good' : Nat → Cap → Prop} {it : It} {c : Cap} {W0 wr : World} {A : Ans} {MR : Nat → Nat → World → Prop} {u4 u5 u6 u7 u8 u9 u10 u11 u12 u13 u14 u15 u16 u17 u18 u19 u20 u21 u22 u23 u24 u25 u26 u27 u28 u29 u30 u31 u32 u33 u34 u35 u36 u37 u38 u39 u40 u41 u42 u43 u44 u45 u46 u47 u48 u49 u50 u51 u52 u53 u54 u55 u56 u57 u58 u59 u60 u61 u62 u63 u64 u65 u66 u67 u68 u69 u70 u71 u72 u73 u74 u75 u76 u77 u78 u79 u80 u81 u82 u83 u84 u85 u86 u87 u88 u89 u90 u91 u92 u93 u94 u95 u96 u97 u98 u99 u100 u101 u102 u103 u104 u105 u106 u107 u108 u109 u110 u111 u112 u113 u114 u115 u116 u117 u118 u119 u120 u121 u122 u123 u124 u125 u126 u127 u128 u129 u130 u131 u132 u133 u134 u135 u136 u137 u138 u139 u140 u141 u142 u143 u144 u145 u146 u147 u148 u149 u150 u151 u152 u153 u154 u155 u156 u157 u158 u159 u160 u161 u162 u163 u164 u165 u166 u167 u168 u169 u170 u171 u172 u173 u174 u175 u176 u177 u178 u179 u180 u181 u182 u183 u184 u185 u186 u187 u188 u189 u190 u191 u192 u193 u194 u195 u196 u197 u198 u199 u200 u201 u202 u203 u204 u205 u206 u207 u208 u209 u210 u211 u212 u213 u214 u215 u216 u217 u218 u219 u220 u221 u222 u223 u224 u225 u226 u227 u228 u229 u230 u231 u232 u233 u234 u235 u236 u237 u238 u239 u240 u241 u242 u243 u244 u245 u246 u247 u248 u249 u250 u251 u252 u253 u254 u255 u256 u257 u258 u259 u260 u261 u262 u263 u264 u265 u266 u267 u268 u269 u270 u271 u272 u273 u274 : Value} (U : UnderM lo m pc cb bm s vi P gs k K good good' it g i st c W0 wr) (hA : A = stepM s (fun _ => false) it K i st c) (hk0 : it.kind = 2)  (hnc : it.n < P.caps) (hcp : P.caps ≤ 16) (gd : good' i ⟨upd c.pl it.n false, upd c.frm it.n i, upd c.to it.n i⟩)  :
    Code.wp Tryd.prog matBody (Exit.then (fun a' w' => MI m bm MR a' w' ∧ MMu P.items.length a' < MMu P.items.length ⟨#[.pointer (some ⟨m, 0, none⟩), .int .i64 k, .int .i64 i, .pointer (some ⟨bm, 0, none⟩), u4, u5, u6, u7, u8, u9, u10, u11, u12, u13, u14, u15, u16, u17, u18, u19, u20, u21, u22, u23, u24, u25, u26, u27, u28, u29, u30, u31, u32, u33, u34, u35, u36, u37, u38, u39, u40, u41, u42, u43, u44, u45, u46, u47, u48, u49, u50, u51, u52, u53, u54, u55, u56, u57, u58, u59, u60, u61, u62, u63, u64, u65, u66, u67, u68, u69, u70, u71, u72, u73, u74, u75, u76, u77, u78, u79, u80, u81, u82, u83, u84, u85, u86, u87, u88, u89, u90, u91, u92, u93, u94, u95, u96, u97, u98, u99, u100, u101, u102, u103, u104, u105, u106, u107, u108, u109, u110, u111, u112, u113, u114, u115, u116, u117, u118, u119, u120, u121, u122, u123, u124, u125, u126, u127, u128, u129, u130, u131, u132, u133, u134, u135, u136, u137, u138, u139, u140, u141, u142, u143, u144, u145, u146, u147, u148, u149, u150, u151, u152, u153, u154, u155, u156, u157, u158, u159, u160, u161, u162, u163, u164, u165, u166, u167, u168, u169, u170, u171, u172, u173, u174, u175, u176, u177, u178, u179, u180, u181, u182, u183, u184, u185, u186, u187, u188, u189, u190, u191, u192, u193, u194, u195, u196, u197, u198, u199, u200, u201, u202, u203, u204, u205, u206, u207, u208, u209, u210, u211, u212, u213, u214, u215, u216, u217, u218, u219, u220, u221, u222, u223, u224, u225, u226, u227, u228, u229, u230, u231, u232, u233, u234, u235, u236, u237, u238, u239, u240, u241, u242, u243, u244, u245, u246, u247, u248, u249, u250, u251, u252, u253, u254, u255, u256, u257, u258, u259, u260, u261, u262, u263, u264, u265, u266, u267, u268, u269, u270, u271, u272, u273, u274], []⟩) (Exit.inBlock 0 (bodyPost Tryd.prog Tryd.f39 (fun e w' => MatPost lo m pc s vi P gs cb A c W0 e w')))) ⟨#[.pointer (some ⟨m, 0, none⟩), .int .i64 k, .int .i64 i, .pointer (some ⟨bm, 0, none⟩), u4, u5, u6, u7, u8, u9, u10, u11, u12, u13, u14, u15, u16, u17, u18, u19, u20, u21, u22, u23, u24, u25, u26, u27, u28, u29, u30, u31, u32, u33, u34, u35, u36, u37, u38, u39, u40, u41, u42, u43, u44, u45, u46, u47, u48, u49, u50, u51, u52, u53, u54, u55, u56, u57, u58, u59, u60, u61, u62, u63, u64, u65, u66, u67, u68, u69, u70, u71, u72, u73, u74, u75, u76, u77, u78, u79, u80, u81, u82, u83, u84, u85, u86, u87, u88, u89, u90, u91, u92, u93, u94, u95, u96, u97, u98, u99, u100, u101, u102, u103, u104, u105, u106, u107, u108, u109, u110, u111, u112, u113, u114, u115, u116, u117, u118, u119, u120, u121, u122, u123, u124, u125, u126, u127, u128, u129, u130, u131, u132, u133, u134, u135, u136, u137, u138, u139, u140, u141, u142, u143, u144, u145, u146, u147, u148, u149, u150, u151, u152, u153, u154, u155, u156, u157, u158, u159, u160, u161, u162, u163, u164, u165, u166, u167, u168, u169, u170, u171, u172, u173, u174, u175, u176, u177, u178, u179, u180, u181, u182, u183, u184, u185, u186, u187, u188, u189, u190, u191, u192, u193, u194, u195, u196, u197, u198, u199, u200, u201, u202, u203, u204, u205, u206, u207, u208, u209, u210, u211, u212, u213, u214, u215, u216, u217, u218, u219, u220, u221, u222, u223, u224, u225, u226, u227, u228, u229, u230, u231, u232, u233, u234, u235, u236, u237, u238, u239, u240, u241, u242, u243, u244, u245, u246, u247, u248, u249, u250, u251, u252, u253, u254, u255, u256, u257, u258, u259, u260, u261, u262, u263, u264, u265, u266, u267, u268, u269, u270, u271, u272, u273, u274], []⟩ wr := by
  have HA := hid hA
  clear hA
  have hkl : k < P.items.length := (List.getElem?_eq_some_iff.1 U.e1).1
  have hi := U.hi
  have hs := U.hs
  have hl := U.hl
  have hst := U.hst
  obtain ⟨gi, cap, rfl, hgm, m0, m1, m2, m3, m4, m5⟩ := U.Q.item6 U.e1 U.e2
  have hgm1 : gi ≠ m := by simp at hgm; exact hgm.1
  have hsf : setP it g = .pointer none := if_neg (by omega)
  rw [hsf] at m1
  clear hsf hgm
  obtain ⟨c0, c1, c2, c3, f2⟩ := U.Q.cells
  obtain ⟨p0, p1, p2, q0, q1, q2⟩ := U.Q.pat.cells
  have hpm : pc ≠ m := by
    intro e
    have h1 : wr.heap[pc]? = some (.cells #[.bool P.start, .slice (some ⟨gi, 0, none⟩) P.items.length cap, .int .i64 P.caps] 49 (0, 0)) := U.Q.pat
    rw [e, U.Q.blk] at h1
    simp at h1
  have hbmo := U.Q.off U.bm0 (by decide) (by decide)
  have hbm1 : bm ≠ m := by simp at hbmo; exact hbmo.1
  have hb0 := blk_cell U.bm0 0
  have hbl := blk_lt U.bm0
  have z36 : (kb it.kind == 36) = false := by rw [hk0]; rfl
  have z40 : (kb it.kind == 40) = true := by rw [hk0]; rfl
  have z112 : (kb it.kind == 112) = false := by rw [hk0]; rfl
  have z41 : (kb it.kind == 41) = false := by rw [hk0]; rfl
  have z49 : (kb it.kind == 49) = false := by rw [hk0]; rfl
  have z98 : (kb it.kind == 98) = false := by rw [hk0]; rfl
  have z102 : (kb it.kind == 102) = false := by rw [hk0]; rfl
  have HK0 := hid hk0
  clear hk0
  conv => arg 2; whnf
  go_wp2_with fail
  by_cases ho : 50000 < st + 1
  · obtain rfl : st = 50000 := by omega
    refine (step_over _ c2).mono ?_
    rintro e w' ⟨rfl, rfl⟩
    go_wp2_with fail
    exact ⟨rfl, U.Kp, Or.inl ⟨HA.out.trans (if_pos ho), rfl⟩⟩
  · have HA1 : Hid (A = stepIt s true (fun _ => false) it K i (st + 1) c) := hid (HA.out.trans (if_neg ho))
    clear HA
    refine (step_ok _ c2 f2 (by omega)).mono ?_
    rintro e w' ⟨rfl, rfl⟩
    go_upto_region 5 with fail
    obtain ⟨W, hW⟩ : ∃ W, W = (wr.setCell ⟨m, 2, none⟩ (.int .i64 ((st : Int) + 1))).alloc (.cells #[.int .u8 (kb it.kind), .pointer none, .int .u8 it.sign, .int .i64 it.n, .int .u8 it.x, .int .u8 it.y] 77) := ⟨_, rfl⟩
    have hWb : W.heap[wr.heap.size]? = some (.cells #[.int .u8 (kb it.kind), .pointer none, .int .u8 it.sign, .int .i64 it.n, .int .u8 it.x, .int .u8 it.y] 77 (0, 0)) := by rw [hW, ← World.size_setCell (w := wr)]; exact blk_new _ _
    have hKa : Keeps wr.heap.size [m, cb] wr W := by rw [hW]; exact ((Keeps.refl _ _ _).setCell (Or.inl (by simp)) _).alloc (by simp) _
    have hQ : QS lo W m pc s (.slice (some ⟨gi, 0, none⟩) P.items.length cap) P gs cb (st + 1) c := by rw [hW]; exact (U.Q.setSt (v := (st : Int) + 1) (st' := st + 1) rfl).keeps ((Keeps.refl _ _ _).alloc (Nat.le_refl _) _)
    have hKW : Keeps W0.heap.size [m, cb] W0 W := U.Kp.then3 hKa
    have hbW := hKa.blk U.bm0 hbl hbmo
    have HKA := hid hKa
    rw [← hW]
    clear hW hKa m0 m1 m2 m3 m4 m5 c0 c1 c2 c3 f2 p0 p1 p2 q0 q1 q2 hb0
    obtain ⟨c0, c1, c2, c3, f2⟩ := hQ.cells
    have hb0 := blk_cell hbW 0
    have b0 := blk_cell hWb 0
    have b1 := blk_cell hWb 1
    have b2 := blk_cell hWb 2
    have b3 := blk_cell hWb 3
    have b4 := blk_cell hWb 4
    have b5 := blk_cell hWb 5
    obtain ⟨r0, r1, r2⟩ := hQ.cap3 hnc
    have hnc' : (0 : Int) ≤ it.n ∧ (it.n : Int) < P.caps := ⟨by omega, by omega⟩
    have hcl := hQ.caps.lt
    have hml := blk_lt hQ.blk
    have hbl2 := blk_lt hbW
    have hwl := blk_lt hWb
    have HG : Hid (A = match K i (st + 1) ⟨upd c.pl it.n false, upd c.frm it.n i, upd c.to it.n i⟩ with | none => none | some (st', some r) => some (st', some r) | some (st', none) => some (st', none)) := hid (by rw [HA1.out]; unfold stepIt; rw [HK0.out]; rfl)
    clear HA1
    go_upto_region 46 with fail
    go_region
    go_upto_region 47 with fail
    obtain ⟨W3, hW3⟩ : ∃ W3, W3 = (W.alloc (.cells #[.bool (c.pl it.n), .int .i64 (c.frm it.n : Nat), .int .i64 (c.to it.n : Nat)] 69)).drew := ⟨_, rfl⟩
    rw [← hW3]
    have hk3 : Keeps W.heap.size [] W W3 := by rw [hW3]; exact ((Keeps.refl _ _ _).alloc (Nat.le_refl _) _).drew
    have hx3 : W3.heap[W.heap.size]? = some (.cells #[.bool (c.pl it.n), .int .i64 (c.frm it.n : Nat), .int .i64 (c.to it.n : Nat)] 69 (0, 0)) := by rw [hW3]; exact blk_new W _
    have hQ3 := hQ.keeps hk3
    have hKW3 : Keeps W0.heap.size [m, cb] W0 W3 := hKW.then3 (hk3.mono (Nat.le_refl _) (by simp))
    have hbW3 := hk3.blk hbW hbl2 (by simp)
    have hWb3 := hk3.blk hWb hwl (by simp)
    clear hW3 r0 r1 r2 c0 c1 c2 c3 f2 hb0 b0 b1 b2 b3 b4 b5
    obtain ⟨c0, c1, c2, c3, f2⟩ := hQ3.cells
    obtain ⟨r0, r1, r2⟩ := hQ3.cap3 hnc
    have hb0 := blk_cell hbW3 0
    have b0 := blk_cell hWb3 0
    have b3 := blk_cell hWb3 3
    have s0 := hQ3.caps.frozen (it.n * 3)
    have s1 := hQ3.caps.frozen (it.n * 3 + 1)
    have s2 := hQ3.caps.frozen (it.n * 3 + 2)
    have hl3 := blk_lt hx3
    have hcm : ¬ cb = m := hQ3.ne
    have hcb2 : ¬ wr.heap.size = cb := by
      intro e
      have := hQ3.caps
      obtain ⟨d, hd⟩ := row_blk this
      rw [e, hd] at hWb3
      simp at hWb3
    have hcb3 : ¬ bm = cb := by
      intro e
      obtain ⟨d, hd⟩ := row_blk hQ3.caps
      rw [e, hd] at hbW3
      simp at hbW3
    go_upto_region 50 with fail
    go_region
    go_upto_region 53 with fail
    obtain ⟨hQ4, hk4⟩ := hQ3.cap_ (n := it.n) false i i
    have hQ5 := hQ4.keeps ((Keeps.refl _ _ _).drew)
    have hk5 := hk4.drew
    have hbW5 := hk5.blk hbW3 (blk_lt hbW3) (by simp [hcb3]; exact hbm1)
    have hne3 : W.heap.size ∉ [m, cb] := by simp; omega
    have hx5 := hk5.blk hx3 hl3 hne3
    have hne4 : wr.heap.size ∉ [m, cb] := by
      have := blk_lt U.Q.blk
      simp [hcb2]; omega
    have hWb5 := hk5.blk hWb3 (blk_lt hWb3) hne4
    have hKW5 := hKW3.then3 hk5
    clear hQ4 hk4
    go_wp2_with fail
    refine (U.H.at (k1 := (k : Int) + 1) (i := i) (c := ⟨upd c.pl it.n false, upd c.frm it.n i, upd c.to it.n i⟩) (by omega) rfl hi (by omega) gd hQ5 rfl).mono ?_
    rintro e w2 ⟨hK2, hcase⟩
    have hx6 := hK2.blk hx5 (blk_lt hx5) hne3
    have hb6 := hK2.blk hbW5 (blk_lt hbW5) (by simp [hcb3]; exact hbm1)
    have hWb6 := hK2.blk hWb5 (blk_lt hWb5) hne4
    have hKW6 := hKW5.then3 hK2
    clear c0 c1 c2 c3 f2 r0 r1 r2 hb0 b0 b3 s0 s1 s2 hK2 hx5 hbW5 hWb5
    rcases hcase with ⟨hk1, rfl⟩ | ⟨st2, hk1, hQ6, hs2, rfl⟩ | ⟨st2, e2, c2', hk1, hQ6, hs2, he2, rfl⟩
    · go_wp2_with fail
      exact ⟨rfl, hKW6, Or.inl ⟨by rw [HG.out, hk1], rfl⟩⟩
    · have HN : Hid (A = some (st2, none)) := hid (by rw [HG.out, hk1])
      clear hk1 HG
      obtain ⟨c0, c1, c2, c3, f2⟩ := hQ6.cells
      obtain ⟨r0, r1, r2⟩ := hQ6.cap3 hnc
      have hb0 := blk_cell hb6 0
      have b3 := blk_cell hWb6 3
      have x0 := blk_cell hx6 0
      have x1 := blk_cell hx6 1
      have x2 := blk_cell hx6 2
      have s0 := hQ6.caps.frozen (it.n * 3)
      have s1 := hQ6.caps.frozen (it.n * 3 + 1)
      have s2 := hQ6.caps.frozen (it.n * 3 + 2)
      have l1 := blk_lt hx6
      have l2 := hQ6.caps.lt
      go_upto_region 55 with fail
      go_region
      go_wp2_with fail
      go_ret
      obtain ⟨hQ7, hk7⟩ := hQ6.cap_ (n := it.n) (c.pl it.n) (c.frm it.n) (c.to it.n)
      have hbk : ∀ f : Nat → Nat, upd (upd f it.n i) it.n (f it.n) = f := fun f => by funext j; unfold upd; split <;> simp_all
      have hbk2 : ∀ b, upd (upd c.pl it.n b) it.n (c.pl it.n) = c.pl := fun b => by funext j; unfold upd; split <;> simp_all
      have hbk3 : ∀ f : Nat → Nat, upd f it.n (f it.n) = f := fun f => by funext j; unfold upd; split <;> simp_all
      have hbk4 : upd c.pl it.n (c.pl it.n) = c.pl := by funext j; unfold upd; split <;> simp_all
      simp only [hbk, hbk2] at hQ7
      exact ⟨hKW6.then3 hk7.drew, Or.inr (Or.inl ⟨st2, HN.out, hQ7.keeps ((Keeps.refl _ _ _).drew), hs2, rfl⟩)⟩
    · have HN : Hid (A = some (st2, some (e2, c2'))) := hid (by rw [HG.out, hk1])
      have he0 : ¬ (e2 : Int) < 0 := by omega
      go_wp2_with fail
      go_ret
      exact ⟨hKW6, Or.inr (Or.inr ⟨st2, e2, c2', HN.out, hQ6, hs2, he2, rfl⟩)⟩

set_option maxRecDepth 1000000 in
set_option maxHeartbeats 4000000 in
theorem mat1 {lo m pc cb bm k g i st n0 : Nat} {s : ByteArray} {vi : Value} {P : Pt} {gs : List Nat} {K : Nat → Nat → Cap → Ans} {good good' : Nat → Cap → Prop} {it : It} {c : Cap} {W0 wr : World} {A : Ans} {MR : Nat → Nat → World → Prop} {u4 u5 u6 u7 u8 u9 u10 u11 u12 u13 u14 u15 u16 u17 u18 u19 u20 u21 u22 u23 u24 u25 u26 u27 u28 u29 u30 u31 u32 u33 u34 u35 u36 u37 u38 u39 u40 u41 u42 u43 u44 u45 u46 u47 u48 u49 u50 u51 u52 u53 u54 u55 u56 u57 u58 u59 u60 u61 u62 u63 u64 u65 u66 u67 u68 u69 u70 u71 u72 u73 u74 u75 u76 u77 u78 u79 u80 u81 u82 u83 u84 u85 u86 u87 u88 u89 u90 u91 u92 u93 u94 u95 u96 u97 u98 u99 u100 u101 u102 u103 u104 u105 u106 u107 u108 u109 u110 u111 u112 u113 u114 u115 u116 u117 u118 u119 u120 u121 u122 u123 u124 u125 u126 u127 u128 u129 u130 u131 u132 u133 u134 u135 u136 u137 u138 u139 u140 u141 u142 u143 u144 u145 u146 u147 u148 u149 u150 u151 u152 u153 u154 u155 u156 u157 u158 u159 u160 u161 u162 u163 u164 u165 u166 u167 u168 u169 u170 u171 u172 u173 u174 u175 u176 u177 u178 u179 u180 u181 u182 u183 u184 u185 u186 u187 u188 u189 u190 u191 u192 u193 u194 u195 u196 u197 u198 u199 u200 u201 u202 u203 u204 u205 u206 u207 u208 u209 u210 u211 u212 u213 u214 u215 u216 u217 u218 u219 u220 u221 u222 u223 u224 u225 u226 u227 u228 u229 u230 u231 u232 u233 u234 u235 u236 u237 u238 u239 u240 u241 u242 u243 u244 u245 u246 u247 u248 u249 u250 u251 u252 u253 u254 u255 u256 u257 u258 u259 u260 u261 u262 u263 u264 u265 u266 u267 u268 u269 u270 u271 u272 u273 u274 : Value} (U : UnderM lo m pc cb bm s vi P gs k K good good' it g i st c W0 wr) (hA : A = stepM s (fun _ => false) it K i st c) (hk0 : it.kind = 1)  (hnc : it.n < P.caps) (hcp : P.caps ≤ 16) (gd : good' i ⟨upd c.pl it.n true, upd c.frm it.n i, upd c.to it.n i⟩)  :
    Code.wp Tryd.prog matBody (Exit.then (fun a' w' => MI m bm MR a' w' ∧ MMu P.items.length a' < MMu P.items.length ⟨#[.pointer (some ⟨m, 0, none⟩), .int .i64 k, .int .i64 i, .pointer (some ⟨bm, 0, none⟩), u4, u5, u6, u7, u8, u9, u10, u11, u12, u13, u14, u15, u16, u17, u18, u19, u20, u21, u22, u23, u24, u25, u26, u27, u28, u29, u30, u31, u32, u33, u34, u35, u36, u37, u38, u39, u40, u41, u42, u43, u44, u45, u46, u47, u48, u49, u50, u51, u52, u53, u54, u55, u56, u57, u58, u59, u60, u61, u62, u63, u64, u65, u66, u67, u68, u69, u70, u71, u72, u73, u74, u75, u76, u77, u78, u79, u80, u81, u82, u83, u84, u85, u86, u87, u88, u89, u90, u91, u92, u93, u94, u95, u96, u97, u98, u99, u100, u101, u102, u103, u104, u105, u106, u107, u108, u109, u110, u111, u112, u113, u114, u115, u116, u117, u118, u119, u120, u121, u122, u123, u124, u125, u126, u127, u128, u129, u130, u131, u132, u133, u134, u135, u136, u137, u138, u139, u140, u141, u142, u143, u144, u145, u146, u147, u148, u149, u150, u151, u152, u153, u154, u155, u156, u157, u158, u159, u160, u161, u162, u163, u164, u165, u166, u167, u168, u169, u170, u171, u172, u173, u174, u175, u176, u177, u178, u179, u180, u181, u182, u183, u184, u185, u186, u187, u188, u189, u190, u191, u192, u193, u194, u195, u196, u197, u198, u199, u200, u201, u202, u203, u204, u205, u206, u207, u208, u209, u210, u211, u212, u213, u214, u215, u216, u217, u218, u219, u220, u221, u222, u223, u224, u225, u226, u227, u228, u229, u230, u231, u232, u233, u234, u235, u236, u237, u238, u239, u240, u241, u242, u243, u244, u245, u246, u247, u248, u249, u250, u251, u252, u253, u254, u255, u256, u257, u258, u259, u260, u261, u262, u263, u264, u265, u266, u267, u268, u269, u270, u271, u272, u273, u274], []⟩) (Exit.inBlock 0 (bodyPost Tryd.prog Tryd.f39 (fun e w' => MatPost lo m pc s vi P gs cb A c W0 e w')))) ⟨#[.pointer (some ⟨m, 0, none⟩), .int .i64 k, .int .i64 i, .pointer (some ⟨bm, 0, none⟩), u4, u5, u6, u7, u8, u9, u10, u11, u12, u13, u14, u15, u16, u17, u18, u19, u20, u21, u22, u23, u24, u25, u26, u27, u28, u29, u30, u31, u32, u33, u34, u35, u36, u37, u38, u39, u40, u41, u42, u43, u44, u45, u46, u47, u48, u49, u50, u51, u52, u53, u54, u55, u56, u57, u58, u59, u60, u61, u62, u63, u64, u65, u66, u67, u68, u69, u70, u71, u72, u73, u74, u75, u76, u77, u78, u79, u80, u81, u82, u83, u84, u85, u86, u87, u88, u89, u90, u91, u92, u93, u94, u95, u96, u97, u98, u99, u100, u101, u102, u103, u104, u105, u106, u107, u108, u109, u110, u111, u112, u113, u114, u115, u116, u117, u118, u119, u120, u121, u122, u123, u124, u125, u126, u127, u128, u129, u130, u131, u132, u133, u134, u135, u136, u137, u138, u139, u140, u141, u142, u143, u144, u145, u146, u147, u148, u149, u150, u151, u152, u153, u154, u155, u156, u157, u158, u159, u160, u161, u162, u163, u164, u165, u166, u167, u168, u169, u170, u171, u172, u173, u174, u175, u176, u177, u178, u179, u180, u181, u182, u183, u184, u185, u186, u187, u188, u189, u190, u191, u192, u193, u194, u195, u196, u197, u198, u199, u200, u201, u202, u203, u204, u205, u206, u207, u208, u209, u210, u211, u212, u213, u214, u215, u216, u217, u218, u219, u220, u221, u222, u223, u224, u225, u226, u227, u228, u229, u230, u231, u232, u233, u234, u235, u236, u237, u238, u239, u240, u241, u242, u243, u244, u245, u246, u247, u248, u249, u250, u251, u252, u253, u254, u255, u256, u257, u258, u259, u260, u261, u262, u263, u264, u265, u266, u267, u268, u269, u270, u271, u272, u273, u274], []⟩ wr := by
  have HA := hid hA
  clear hA
  have hkl : k < P.items.length := (List.getElem?_eq_some_iff.1 U.e1).1
  have hi := U.hi
  have hs := U.hs
  have hl := U.hl
  have hst := U.hst
  obtain ⟨gi, cap, rfl, hgm, m0, m1, m2, m3, m4, m5⟩ := U.Q.item6 U.e1 U.e2
  have hgm1 : gi ≠ m := by simp at hgm; exact hgm.1
  have hsf : setP it g = .pointer none := if_neg (by omega)
  rw [hsf] at m1
  clear hsf hgm
  obtain ⟨c0, c1, c2, c3, f2⟩ := U.Q.cells
  obtain ⟨p0, p1, p2, q0, q1, q2⟩ := U.Q.pat.cells
  have hpm : pc ≠ m := by
    intro e
    have h1 : wr.heap[pc]? = some (.cells #[.bool P.start, .slice (some ⟨gi, 0, none⟩) P.items.length cap, .int .i64 P.caps] 49 (0, 0)) := U.Q.pat
    rw [e, U.Q.blk] at h1
    simp at h1
  have hbmo := U.Q.off U.bm0 (by decide) (by decide)
  have hbm1 : bm ≠ m := by simp at hbmo; exact hbmo.1
  have hb0 := blk_cell U.bm0 0
  have hbl := blk_lt U.bm0
  have z36 : (kb it.kind == 36) = false := by rw [hk0]; rfl
  have z40 : (kb it.kind == 40) = false := by rw [hk0]; rfl
  have z112 : (kb it.kind == 112) = true := by rw [hk0]; rfl
  have z41 : (kb it.kind == 41) = false := by rw [hk0]; rfl
  have z49 : (kb it.kind == 49) = false := by rw [hk0]; rfl
  have z98 : (kb it.kind == 98) = false := by rw [hk0]; rfl
  have z102 : (kb it.kind == 102) = false := by rw [hk0]; rfl
  have HK0 := hid hk0
  clear hk0
  conv => arg 2; whnf
  go_wp2_with fail
  by_cases ho : 50000 < st + 1
  · obtain rfl : st = 50000 := by omega
    refine (step_over _ c2).mono ?_
    rintro e w' ⟨rfl, rfl⟩
    go_wp2_with fail
    exact ⟨rfl, U.Kp, Or.inl ⟨HA.out.trans (if_pos ho), rfl⟩⟩
  · have HA1 : Hid (A = stepIt s true (fun _ => false) it K i (st + 1) c) := hid (HA.out.trans (if_neg ho))
    clear HA
    refine (step_ok _ c2 f2 (by omega)).mono ?_
    rintro e w' ⟨rfl, rfl⟩
    go_upto_region 5 with fail
    obtain ⟨W, hW⟩ : ∃ W, W = (wr.setCell ⟨m, 2, none⟩ (.int .i64 ((st : Int) + 1))).alloc (.cells #[.int .u8 (kb it.kind), .pointer none, .int .u8 it.sign, .int .i64 it.n, .int .u8 it.x, .int .u8 it.y] 77) := ⟨_, rfl⟩
    have hWb : W.heap[wr.heap.size]? = some (.cells #[.int .u8 (kb it.kind), .pointer none, .int .u8 it.sign, .int .i64 it.n, .int .u8 it.x, .int .u8 it.y] 77 (0, 0)) := by rw [hW, ← World.size_setCell (w := wr)]; exact blk_new _ _
    have hKa : Keeps wr.heap.size [m, cb] wr W := by rw [hW]; exact ((Keeps.refl _ _ _).setCell (Or.inl (by simp)) _).alloc (by simp) _
    have hQ : QS lo W m pc s (.slice (some ⟨gi, 0, none⟩) P.items.length cap) P gs cb (st + 1) c := by rw [hW]; exact (U.Q.setSt (v := (st : Int) + 1) (st' := st + 1) rfl).keeps ((Keeps.refl _ _ _).alloc (Nat.le_refl _) _)
    have hKW : Keeps W0.heap.size [m, cb] W0 W := U.Kp.then3 hKa
    have hbW := hKa.blk U.bm0 hbl hbmo
    have HKA := hid hKa
    rw [← hW]
    clear hW hKa m0 m1 m2 m3 m4 m5 c0 c1 c2 c3 f2 p0 p1 p2 q0 q1 q2 hb0
    obtain ⟨c0, c1, c2, c3, f2⟩ := hQ.cells
    have hb0 := blk_cell hbW 0
    have b0 := blk_cell hWb 0
    have b1 := blk_cell hWb 1
    have b2 := blk_cell hWb 2
    have b3 := blk_cell hWb 3
    have b4 := blk_cell hWb 4
    have b5 := blk_cell hWb 5
    obtain ⟨r0, r1, r2⟩ := hQ.cap3 hnc
    have hnc' : (0 : Int) ≤ it.n ∧ (it.n : Int) < P.caps := ⟨by omega, by omega⟩
    have hcl := hQ.caps.lt
    have hml := blk_lt hQ.blk
    have hbl2 := blk_lt hbW
    have hwl := blk_lt hWb
    have HG : Hid (A = match K i (st + 1) ⟨upd c.pl it.n true, upd c.frm it.n i, upd c.to it.n i⟩ with | none => none | some (st', some r) => some (st', some r) | some (st', none) => some (st', none)) := hid (by rw [HA1.out]; unfold stepIt; rw [HK0.out]; rfl)
    clear HA1
    go_upto_region 46 with fail
    go_region
    go_upto_region 47 with fail
    obtain ⟨W3, hW3⟩ : ∃ W3, W3 = (W.alloc (.cells #[.bool (c.pl it.n), .int .i64 (c.frm it.n : Nat), .int .i64 (c.to it.n : Nat)] 69)).drew := ⟨_, rfl⟩
    rw [← hW3]
    have hk3 : Keeps W.heap.size [] W W3 := by rw [hW3]; exact ((Keeps.refl _ _ _).alloc (Nat.le_refl _) _).drew
    have hx3 : W3.heap[W.heap.size]? = some (.cells #[.bool (c.pl it.n), .int .i64 (c.frm it.n : Nat), .int .i64 (c.to it.n : Nat)] 69 (0, 0)) := by rw [hW3]; exact blk_new W _
    have hQ3 := hQ.keeps hk3
    have hKW3 : Keeps W0.heap.size [m, cb] W0 W3 := hKW.then3 (hk3.mono (Nat.le_refl _) (by simp))
    have hbW3 := hk3.blk hbW hbl2 (by simp)
    have hWb3 := hk3.blk hWb hwl (by simp)
    clear hW3 r0 r1 r2 c0 c1 c2 c3 f2 hb0 b0 b1 b2 b3 b4 b5
    obtain ⟨c0, c1, c2, c3, f2⟩ := hQ3.cells
    obtain ⟨r0, r1, r2⟩ := hQ3.cap3 hnc
    have hb0 := blk_cell hbW3 0
    have b0 := blk_cell hWb3 0
    have b3 := blk_cell hWb3 3
    have s0 := hQ3.caps.frozen (it.n * 3)
    have s1 := hQ3.caps.frozen (it.n * 3 + 1)
    have s2 := hQ3.caps.frozen (it.n * 3 + 2)
    have hl3 := blk_lt hx3
    have hcm : ¬ cb = m := hQ3.ne
    have hcb2 : ¬ wr.heap.size = cb := by
      intro e
      have := hQ3.caps
      obtain ⟨d, hd⟩ := row_blk this
      rw [e, hd] at hWb3
      simp at hWb3
    have hcb3 : ¬ bm = cb := by
      intro e
      obtain ⟨d, hd⟩ := row_blk hQ3.caps
      rw [e, hd] at hbW3
      simp at hbW3
    go_upto_region 52 with fail
    go_region
    go_upto_region 53 with fail
    obtain ⟨hQ4, hk4⟩ := hQ3.cap_ (n := it.n) true i i
    have hQ5 := hQ4.keeps ((Keeps.refl _ _ _).drew)
    have hk5 := hk4.drew
    have hbW5 := hk5.blk hbW3 (blk_lt hbW3) (by simp [hcb3]; exact hbm1)
    have hne3 : W.heap.size ∉ [m, cb] := by simp; omega
    have hx5 := hk5.blk hx3 hl3 hne3
    have hne4 : wr.heap.size ∉ [m, cb] := by
      have := blk_lt U.Q.blk
      simp [hcb2]; omega
    have hWb5 := hk5.blk hWb3 (blk_lt hWb3) hne4
    have hKW5 := hKW3.then3 hk5
    clear hQ4 hk4
    go_wp2_with fail
    refine (U.H.at (k1 := (k : Int) + 1) (i := i) (c := ⟨upd c.pl it.n true, upd c.frm it.n i, upd c.to it.n i⟩) (by omega) rfl hi (by omega) gd hQ5 rfl).mono ?_
    rintro e w2 ⟨hK2, hcase⟩
    have hx6 := hK2.blk hx5 (blk_lt hx5) hne3
    have hb6 := hK2.blk hbW5 (blk_lt hbW5) (by simp [hcb3]; exact hbm1)
    have hWb6 := hK2.blk hWb5 (blk_lt hWb5) hne4
    have hKW6 := hKW5.then3 hK2
    clear c0 c1 c2 c3 f2 r0 r1 r2 hb0 b0 b3 s0 s1 s2 hK2 hx5 hbW5 hWb5
    rcases hcase with ⟨hk1, rfl⟩ | ⟨st2, hk1, hQ6, hs2, rfl⟩ | ⟨st2, e2, c2', hk1, hQ6, hs2, he2, rfl⟩
    · go_wp2_with fail
      exact ⟨rfl, hKW6, Or.inl ⟨by rw [HG.out, hk1], rfl⟩⟩
    · have HN : Hid (A = some (st2, none)) := hid (by rw [HG.out, hk1])
      clear hk1 HG
      obtain ⟨c0, c1, c2, c3, f2⟩ := hQ6.cells
      obtain ⟨r0, r1, r2⟩ := hQ6.cap3 hnc
      have hb0 := blk_cell hb6 0
      have b3 := blk_cell hWb6 3
      have x0 := blk_cell hx6 0
      have x1 := blk_cell hx6 1
      have x2 := blk_cell hx6 2
      have s0 := hQ6.caps.frozen (it.n * 3)
      have s1 := hQ6.caps.frozen (it.n * 3 + 1)
      have s2 := hQ6.caps.frozen (it.n * 3 + 2)
      have l1 := blk_lt hx6
      have l2 := hQ6.caps.lt
      go_upto_region 55 with fail
      go_region
      go_wp2_with fail
      go_ret
      obtain ⟨hQ7, hk7⟩ := hQ6.cap_ (n := it.n) (c.pl it.n) (c.frm it.n) (c.to it.n)
      have hbk : ∀ f : Nat → Nat, upd (upd f it.n i) it.n (f it.n) = f := fun f => by funext j; unfold upd; split <;> simp_all
      have hbk2 : ∀ b, upd (upd c.pl it.n b) it.n (c.pl it.n) = c.pl := fun b => by funext j; unfold upd; split <;> simp_all
      have hbk3 : ∀ f : Nat → Nat, upd f it.n (f it.n) = f := fun f => by funext j; unfold upd; split <;> simp_all
      have hbk4 : upd c.pl it.n (c.pl it.n) = c.pl := by funext j; unfold upd; split <;> simp_all
      simp only [hbk, hbk2] at hQ7
      exact ⟨hKW6.then3 hk7.drew, Or.inr (Or.inl ⟨st2, HN.out, hQ7.keeps ((Keeps.refl _ _ _).drew), hs2, rfl⟩)⟩
    · have HN : Hid (A = some (st2, some (e2, c2'))) := hid (by rw [HG.out, hk1])
      have he0 : ¬ (e2 : Int) < 0 := by omega
      go_wp2_with fail
      go_ret
      exact ⟨hKW6, Or.inr (Or.inr ⟨st2, e2, c2', HN.out, hQ6, hs2, he2, rfl⟩)⟩

set_option maxRecDepth 1000000 in
set_option maxHeartbeats 4000000 in
theorem mat3 {lo m pc cb bm k g i st n0 : Nat} {s : ByteArray} {vi : Value} {P : Pt} {gs : List Nat} {K : Nat → Nat → Cap → Ans} {good good' : Nat → Cap → Prop} {it : It} {c : Cap} {W0 wr : World} {A : Ans} {MR : Nat → Nat → World → Prop} {u4 u5 u6 u7 u8 u9 u10 u11 u12 u13 u14 u15 u16 u17 u18 u19 u20 u21 u22 u23 u24 u25 u26 u27 u28 u29 u30 u31 u32 u33 u34 u35 u36 u37 u38 u39 u40 u41 u42 u43 u44 u45 u46 u47 u48 u49 u50 u51 u52 u53 u54 u55 u56 u57 u58 u59 u60 u61 u62 u63 u64 u65 u66 u67 u68 u69 u70 u71 u72 u73 u74 u75 u76 u77 u78 u79 u80 u81 u82 u83 u84 u85 u86 u87 u88 u89 u90 u91 u92 u93 u94 u95 u96 u97 u98 u99 u100 u101 u102 u103 u104 u105 u106 u107 u108 u109 u110 u111 u112 u113 u114 u115 u116 u117 u118 u119 u120 u121 u122 u123 u124 u125 u126 u127 u128 u129 u130 u131 u132 u133 u134 u135 u136 u137 u138 u139 u140 u141 u142 u143 u144 u145 u146 u147 u148 u149 u150 u151 u152 u153 u154 u155 u156 u157 u158 u159 u160 u161 u162 u163 u164 u165 u166 u167 u168 u169 u170 u171 u172 u173 u174 u175 u176 u177 u178 u179 u180 u181 u182 u183 u184 u185 u186 u187 u188 u189 u190 u191 u192 u193 u194 u195 u196 u197 u198 u199 u200 u201 u202 u203 u204 u205 u206 u207 u208 u209 u210 u211 u212 u213 u214 u215 u216 u217 u218 u219 u220 u221 u222 u223 u224 u225 u226 u227 u228 u229 u230 u231 u232 u233 u234 u235 u236 u237 u238 u239 u240 u241 u242 u243 u244 u245 u246 u247 u248 u249 u250 u251 u252 u253 u254 u255 u256 u257 u258 u259 u260 u261 u262 u263 u264 u265 u266 u267 u268 u269 u270 u271 u272 u273 u274 : Value} (U : UnderM lo m pc cb bm s vi P gs k K good good' it g i st c W0 wr) (hA : A = stepM s (fun _ => false) it K i st c) (hk0 : it.kind = 3)  (hnc : it.n < P.caps) (hcp : P.caps ≤ 16) (gd : good' i ⟨c.pl, c.frm, upd c.to it.n i⟩)  :
    Code.wp Tryd.prog matBody (Exit.then (fun a' w' => MI m bm MR a' w' ∧ MMu P.items.length a' < MMu P.items.length ⟨#[.pointer (some ⟨m, 0, none⟩), .int .i64 k, .int .i64 i, .pointer (some ⟨bm, 0, none⟩), u4, u5, u6, u7, u8, u9, u10, u11, u12, u13, u14, u15, u16, u17, u18, u19, u20, u21, u22, u23, u24, u25, u26, u27, u28, u29, u30, u31, u32, u33, u34, u35, u36, u37, u38, u39, u40, u41, u42, u43, u44, u45, u46, u47, u48, u49, u50, u51, u52, u53, u54, u55, u56, u57, u58, u59, u60, u61, u62, u63, u64, u65, u66, u67, u68, u69, u70, u71, u72, u73, u74, u75, u76, u77, u78, u79, u80, u81, u82, u83, u84, u85, u86, u87, u88, u89, u90, u91, u92, u93, u94, u95, u96, u97, u98, u99, u100, u101, u102, u103, u104, u105, u106, u107, u108, u109, u110, u111, u112, u113, u114, u115, u116, u117, u118, u119, u120, u121, u122, u123, u124, u125, u126, u127, u128, u129, u130, u131, u132, u133, u134, u135, u136, u137, u138, u139, u140, u141, u142, u143, u144, u145, u146, u147, u148, u149, u150, u151, u152, u153, u154, u155, u156, u157, u158, u159, u160, u161, u162, u163, u164, u165, u166, u167, u168, u169, u170, u171, u172, u173, u174, u175, u176, u177, u178, u179, u180, u181, u182, u183, u184, u185, u186, u187, u188, u189, u190, u191, u192, u193, u194, u195, u196, u197, u198, u199, u200, u201, u202, u203, u204, u205, u206, u207, u208, u209, u210, u211, u212, u213, u214, u215, u216, u217, u218, u219, u220, u221, u222, u223, u224, u225, u226, u227, u228, u229, u230, u231, u232, u233, u234, u235, u236, u237, u238, u239, u240, u241, u242, u243, u244, u245, u246, u247, u248, u249, u250, u251, u252, u253, u254, u255, u256, u257, u258, u259, u260, u261, u262, u263, u264, u265, u266, u267, u268, u269, u270, u271, u272, u273, u274], []⟩) (Exit.inBlock 0 (bodyPost Tryd.prog Tryd.f39 (fun e w' => MatPost lo m pc s vi P gs cb A c W0 e w')))) ⟨#[.pointer (some ⟨m, 0, none⟩), .int .i64 k, .int .i64 i, .pointer (some ⟨bm, 0, none⟩), u4, u5, u6, u7, u8, u9, u10, u11, u12, u13, u14, u15, u16, u17, u18, u19, u20, u21, u22, u23, u24, u25, u26, u27, u28, u29, u30, u31, u32, u33, u34, u35, u36, u37, u38, u39, u40, u41, u42, u43, u44, u45, u46, u47, u48, u49, u50, u51, u52, u53, u54, u55, u56, u57, u58, u59, u60, u61, u62, u63, u64, u65, u66, u67, u68, u69, u70, u71, u72, u73, u74, u75, u76, u77, u78, u79, u80, u81, u82, u83, u84, u85, u86, u87, u88, u89, u90, u91, u92, u93, u94, u95, u96, u97, u98, u99, u100, u101, u102, u103, u104, u105, u106, u107, u108, u109, u110, u111, u112, u113, u114, u115, u116, u117, u118, u119, u120, u121, u122, u123, u124, u125, u126, u127, u128, u129, u130, u131, u132, u133, u134, u135, u136, u137, u138, u139, u140, u141, u142, u143, u144, u145, u146, u147, u148, u149, u150, u151, u152, u153, u154, u155, u156, u157, u158, u159, u160, u161, u162, u163, u164, u165, u166, u167, u168, u169, u170, u171, u172, u173, u174, u175, u176, u177, u178, u179, u180, u181, u182, u183, u184, u185, u186, u187, u188, u189, u190, u191, u192, u193, u194, u195, u196, u197, u198, u199, u200, u201, u202, u203, u204, u205, u206, u207, u208, u209, u210, u211, u212, u213, u214, u215, u216, u217, u218, u219, u220, u221, u222, u223, u224, u225, u226, u227, u228, u229, u230, u231, u232, u233, u234, u235, u236, u237, u238, u239, u240, u241, u242, u243, u244, u245, u246, u247, u248, u249, u250, u251, u252, u253, u254, u255, u256, u257, u258, u259, u260, u261, u262, u263, u264, u265, u266, u267, u268, u269, u270, u271, u272, u273, u274], []⟩ wr := by
  have HA := hid hA
  clear hA
  have hkl : k < P.items.length := (List.getElem?_eq_some_iff.1 U.e1).1
  have hi := U.hi
  have hs := U.hs
  have hl := U.hl
  have hst := U.hst
  obtain ⟨gi, cap, rfl, hgm, m0, m1, m2, m3, m4, m5⟩ := U.Q.item6 U.e1 U.e2
  have hgm1 : gi ≠ m := by simp at hgm; exact hgm.1
  have hsf : setP it g = .pointer none := if_neg (by omega)
  rw [hsf] at m1
  clear hsf hgm
  obtain ⟨c0, c1, c2, c3, f2⟩ := U.Q.cells
  obtain ⟨p0, p1, p2, q0, q1, q2⟩ := U.Q.pat.cells
  have hpm : pc ≠ m := by
    intro e
    have h1 : wr.heap[pc]? = some (.cells #[.bool P.start, .slice (some ⟨gi, 0, none⟩) P.items.length cap, .int .i64 P.caps] 49 (0, 0)) := U.Q.pat
    rw [e, U.Q.blk] at h1
    simp at h1
  have hbmo := U.Q.off U.bm0 (by decide) (by decide)
  have hbm1 : bm ≠ m := by simp at hbmo; exact hbmo.1
  have hb0 := blk_cell U.bm0 0
  have hbl := blk_lt U.bm0
  have z36 : (kb it.kind == 36) = false := by rw [hk0]; rfl
  have z40 : (kb it.kind == 40) = false := by rw [hk0]; rfl
  have z112 : (kb it.kind == 112) = false := by rw [hk0]; rfl
  have z41 : (kb it.kind == 41) = true := by rw [hk0]; rfl
  have z49 : (kb it.kind == 49) = false := by rw [hk0]; rfl
  have z98 : (kb it.kind == 98) = false := by rw [hk0]; rfl
  have z102 : (kb it.kind == 102) = false := by rw [hk0]; rfl
  have HK0 := hid hk0
  clear hk0
  conv => arg 2; whnf
  go_wp2_with fail
  by_cases ho : 50000 < st + 1
  · obtain rfl : st = 50000 := by omega
    refine (step_over _ c2).mono ?_
    rintro e w' ⟨rfl, rfl⟩
    go_wp2_with fail
    exact ⟨rfl, U.Kp, Or.inl ⟨HA.out.trans (if_pos ho), rfl⟩⟩
  · have HA1 : Hid (A = stepIt s true (fun _ => false) it K i (st + 1) c) := hid (HA.out.trans (if_neg ho))
    clear HA
    refine (step_ok _ c2 f2 (by omega)).mono ?_
    rintro e w' ⟨rfl, rfl⟩
    go_upto_region 5 with fail
    obtain ⟨W, hW⟩ : ∃ W, W = (wr.setCell ⟨m, 2, none⟩ (.int .i64 ((st : Int) + 1))).alloc (.cells #[.int .u8 (kb it.kind), .pointer none, .int .u8 it.sign, .int .i64 it.n, .int .u8 it.x, .int .u8 it.y] 77) := ⟨_, rfl⟩
    have hWb : W.heap[wr.heap.size]? = some (.cells #[.int .u8 (kb it.kind), .pointer none, .int .u8 it.sign, .int .i64 it.n, .int .u8 it.x, .int .u8 it.y] 77 (0, 0)) := by rw [hW, ← World.size_setCell (w := wr)]; exact blk_new _ _
    have hKa : Keeps wr.heap.size [m, cb] wr W := by rw [hW]; exact ((Keeps.refl _ _ _).setCell (Or.inl (by simp)) _).alloc (by simp) _
    have hQ : QS lo W m pc s (.slice (some ⟨gi, 0, none⟩) P.items.length cap) P gs cb (st + 1) c := by rw [hW]; exact (U.Q.setSt (v := (st : Int) + 1) (st' := st + 1) rfl).keeps ((Keeps.refl _ _ _).alloc (Nat.le_refl _) _)
    have hKW : Keeps W0.heap.size [m, cb] W0 W := U.Kp.then3 hKa
    have hbW := hKa.blk U.bm0 hbl hbmo
    have HKA := hid hKa
    rw [← hW]
    clear hW hKa m0 m1 m2 m3 m4 m5 c0 c1 c2 c3 f2 p0 p1 p2 q0 q1 q2 hb0
    obtain ⟨c0, c1, c2, c3, f2⟩ := hQ.cells
    have hb0 := blk_cell hbW 0
    have b0 := blk_cell hWb 0
    have b1 := blk_cell hWb 1
    have b2 := blk_cell hWb 2
    have b3 := blk_cell hWb 3
    have b4 := blk_cell hWb 4
    have b5 := blk_cell hWb 5
    obtain ⟨r0, r1, r2⟩ := hQ.cap3 hnc
    have hnc' : (0 : Int) ≤ it.n ∧ (it.n : Int) < P.caps := ⟨by omega, by omega⟩
    have hcl := hQ.caps.lt
    have hml := blk_lt hQ.blk
    have hbl2 := blk_lt hbW
    have hwl := blk_lt hWb
    have HG : Hid (A = match K i (st + 1) ⟨c.pl, c.frm, upd c.to it.n i⟩ with | none => none | some (st', some r) => some (st', some r) | some (st', none) => some (st', none)) := hid (by rw [HA1.out]; unfold stepIt; rw [HK0.out]; rfl)
    clear HA1
    go_upto_region 46 with fail
    go_region
    go_upto_region 47 with fail
    obtain ⟨W3, hW3⟩ : ∃ W3, W3 = (W.alloc (.cells #[.bool (c.pl it.n), .int .i64 (c.frm it.n : Nat), .int .i64 (c.to it.n : Nat)] 69)).drew := ⟨_, rfl⟩
    rw [← hW3]
    have hk3 : Keeps W.heap.size [] W W3 := by rw [hW3]; exact ((Keeps.refl _ _ _).alloc (Nat.le_refl _) _).drew
    have hx3 : W3.heap[W.heap.size]? = some (.cells #[.bool (c.pl it.n), .int .i64 (c.frm it.n : Nat), .int .i64 (c.to it.n : Nat)] 69 (0, 0)) := by rw [hW3]; exact blk_new W _
    have hQ3 := hQ.keeps hk3
    have hKW3 : Keeps W0.heap.size [m, cb] W0 W3 := hKW.then3 (hk3.mono (Nat.le_refl _) (by simp))
    have hbW3 := hk3.blk hbW hbl2 (by simp)
    have hWb3 := hk3.blk hWb hwl (by simp)
    clear hW3 r0 r1 r2 c0 c1 c2 c3 f2 hb0 b0 b1 b2 b3 b4 b5
    obtain ⟨c0, c1, c2, c3, f2⟩ := hQ3.cells
    obtain ⟨r0, r1, r2⟩ := hQ3.cap3 hnc
    have hb0 := blk_cell hbW3 0
    have b0 := blk_cell hWb3 0
    have b3 := blk_cell hWb3 3
    have s0 := hQ3.caps.frozen (it.n * 3)
    have s1 := hQ3.caps.frozen (it.n * 3 + 1)
    have s2 := hQ3.caps.frozen (it.n * 3 + 2)
    have hl3 := blk_lt hx3
    have hcm : ¬ cb = m := hQ3.ne
    have hcb2 : ¬ wr.heap.size = cb := by
      intro e
      have := hQ3.caps
      obtain ⟨d, hd⟩ := row_blk this
      rw [e, hd] at hWb3
      simp at hWb3
    have hcb3 : ¬ bm = cb := by
      intro e
      obtain ⟨d, hd⟩ := row_blk hQ3.caps
      rw [e, hd] at hbW3
      simp at hbW3
    go_upto_region 48 with fail
    go_region
    go_upto_region 53 with fail
    obtain ⟨hQ4, hk4⟩ := hQ3.to_ (n := it.n) i
    have hQ5 := hQ4.keeps ((Keeps.refl _ _ _).drew)
    have hk5 := hk4.drew
    have hbW5 := hk5.blk hbW3 (blk_lt hbW3) (by simp [hcb3]; exact hbm1)
    have hne3 : W.heap.size ∉ [m, cb] := by simp; omega
    have hx5 := hk5.blk hx3 hl3 hne3
    have hne4 : wr.heap.size ∉ [m, cb] := by
      have := blk_lt U.Q.blk
      simp [hcb2]; omega
    have hWb5 := hk5.blk hWb3 (blk_lt hWb3) hne4
    have hKW5 := hKW3.then3 hk5
    clear hQ4 hk4
    go_wp2_with fail
    refine (U.H.at (k1 := (k : Int) + 1) (i := i) (c := ⟨c.pl, c.frm, upd c.to it.n i⟩) (by omega) rfl hi (by omega) gd hQ5 rfl).mono ?_
    rintro e w2 ⟨hK2, hcase⟩
    have hx6 := hK2.blk hx5 (blk_lt hx5) hne3
    have hb6 := hK2.blk hbW5 (blk_lt hbW5) (by simp [hcb3]; exact hbm1)
    have hWb6 := hK2.blk hWb5 (blk_lt hWb5) hne4
    have hKW6 := hKW5.then3 hK2
    clear c0 c1 c2 c3 f2 r0 r1 r2 hb0 b0 b3 s0 s1 s2 hK2 hx5 hbW5 hWb5
    rcases hcase with ⟨hk1, rfl⟩ | ⟨st2, hk1, hQ6, hs2, rfl⟩ | ⟨st2, e2, c2', hk1, hQ6, hs2, he2, rfl⟩
    · go_wp2_with fail
      exact ⟨rfl, hKW6, Or.inl ⟨by rw [HG.out, hk1], rfl⟩⟩
    · have HN : Hid (A = some (st2, none)) := hid (by rw [HG.out, hk1])
      clear hk1 HG
      obtain ⟨c0, c1, c2, c3, f2⟩ := hQ6.cells
      obtain ⟨r0, r1, r2⟩ := hQ6.cap3 hnc
      have hb0 := blk_cell hb6 0
      have b3 := blk_cell hWb6 3
      have x0 := blk_cell hx6 0
      have x1 := blk_cell hx6 1
      have x2 := blk_cell hx6 2
      have s0 := hQ6.caps.frozen (it.n * 3)
      have s1 := hQ6.caps.frozen (it.n * 3 + 1)
      have s2 := hQ6.caps.frozen (it.n * 3 + 2)
      have l1 := blk_lt hx6
      have l2 := hQ6.caps.lt
      go_upto_region 55 with fail
      go_region
      go_wp2_with fail
      go_ret
      obtain ⟨hQ7, hk7⟩ := hQ6.cap_ (n := it.n) (c.pl it.n) (c.frm it.n) (c.to it.n)
      have hbk : ∀ f : Nat → Nat, upd (upd f it.n i) it.n (f it.n) = f := fun f => by funext j; unfold upd; split <;> simp_all
      have hbk2 : ∀ b, upd (upd c.pl it.n b) it.n (c.pl it.n) = c.pl := fun b => by funext j; unfold upd; split <;> simp_all
      have hbk3 : ∀ f : Nat → Nat, upd f it.n (f it.n) = f := fun f => by funext j; unfold upd; split <;> simp_all
      have hbk4 : upd c.pl it.n (c.pl it.n) = c.pl := by funext j; unfold upd; split <;> simp_all
      simp only [hbk, hbk3, hbk4] at hQ7
      exact ⟨hKW6.then3 hk7.drew, Or.inr (Or.inl ⟨st2, HN.out, hQ7.keeps ((Keeps.refl _ _ _).drew), hs2, rfl⟩)⟩
    · have HN : Hid (A = some (st2, some (e2, c2'))) := hid (by rw [HG.out, hk1])
      have he0 : ¬ (e2 : Int) < 0 := by omega
      go_wp2_with fail
      go_ret
      exact ⟨hKW6, Or.inr (Or.inr ⟨st2, e2, c2', HN.out, hQ6, hs2, he2, rfl⟩)⟩
end Go.Proofs.YtpinoolagbghnaaDoor
