/-
  Walk: rounds of the program's match: the end, an edge.
  Walk: rounds of the program's match: a pair, a capture again.
-/
import Derived.Test.YtpinoolagbghnaaDoorZMatI
namespace Go.Proofs.YtpinoolagbghnaaDoor
set_option linter.unusedVariables false
open Go.RowKit Pat

set_option maxRecDepth 1000000 in
set_option maxHeartbeats 4000000 in
theorem mat7 {lo m pc cb bm k g i st n0 : Nat} {s : ByteArray} {vi : Value} {P : Pt} {gs : List Nat} {K : Nat → Nat → Cap → Ans} {good good' : Nat → Cap → Prop} {it : It} {c : Cap} {W0 wr : World} {A : Ans} {MR : Nat → Nat → World → Prop} {u4 u5 u6 u7 u8 u9 u10 u11 u12 u13 u14 u15 u16 u17 u18 u19 u20 u21 u22 u23 u24 u25 u26 u27 u28 u29 u30 u31 u32 u33 u34 u35 u36 u37 u38 u39 u40 u41 u42 u43 u44 u45 u46 u47 u48 u49 u50 u51 u52 u53 u54 u55 u56 u57 u58 u59 u60 u61 u62 u63 u64 u65 u66 u67 u68 u69 u70 u71 u72 u73 u74 u75 u76 u77 u78 u79 u80 u81 u82 u83 u84 u85 u86 u87 u88 u89 u90 u91 u92 u93 u94 u95 u96 u97 u98 u99 u100 u101 u102 u103 u104 u105 u106 u107 u108 u109 u110 u111 u112 u113 u114 u115 u116 u117 u118 u119 u120 u121 u122 u123 u124 u125 u126 u127 u128 u129 u130 u131 u132 u133 u134 u135 u136 u137 u138 u139 u140 u141 u142 u143 u144 u145 u146 u147 u148 u149 u150 u151 u152 u153 u154 u155 u156 u157 u158 u159 u160 u161 u162 u163 u164 u165 u166 u167 u168 u169 u170 u171 u172 u173 u174 u175 u176 u177 u178 u179 u180 u181 u182 u183 u184 u185 u186 u187 u188 u189 u190 u191 u192 u193 u194 u195 u196 u197 u198 u199 u200 u201 u202 u203 u204 u205 u206 u207 u208 u209 u210 u211 u212 u213 u214 u215 u216 u217 u218 u219 u220 u221 u222 u223 u224 u225 u226 u227 u228 u229 u230 u231 u232 u233 u234 u235 u236 u237 u238 u239 u240 u241 u242 u243 u244 u245 u246 u247 u248 u249 u250 u251 u252 u253 u254 u255 u256 u257 u258 u259 u260 u261 u262 u263 u264 u265 u266 u267 u268 u269 u270 u271 u272 u273 u274 : Value} (U : UnderM lo m pc cb bm s vi P gs k K good good' it g i st c W0 wr) (hA : A = stepM s (fun _ => false) it K i st c) (hk0 : it.kind = 7) (hnext : ∀ (i' st' : Nat) (w' : World), i ≤ i' → i' ≤ s.size → st' ≤ 50000 → QS lo w' m pc s vi P gs cb st' c → Keeps W0.heap.size [m, cb] W0 w' → w'.heap[bm]? = some (.cells #[.pointer (some ⟨m, 0, none⟩)] 50 (0, 0)) → A = K i' st' c → MR (k + 1) i' w')   :
    Code.wp Tryd.prog matBody (Exit.then (fun a' w' => MI m bm MR a' w' ∧ MMu P.items.length a' < MMu P.items.length ⟨#[.pointer (some ⟨m, 0, none⟩), .int .i64 k, .int .i64 i, .pointer (some ⟨bm, 0, none⟩), u4, u5, u6, u7, u8, u9, u10, u11, u12, u13, u14, u15, u16, u17, u18, u19, u20, u21, u22, u23, u24, u25, u26, u27, u28, u29, u30, u31, u32, u33, u34, u35, u36, u37, u38, u39, u40, u41, u42, u43, u44, u45, u46, u47, u48, u49, u50, u51, u52, u53, u54, u55, u56, u57, u58, u59, u60, u61, u62, u63, u64, u65, u66, u67, u68, u69, u70, u71, u72, u73, u74, u75, u76, u77, u78, u79, u80, u81, u82, u83, u84, u85, u86, u87, u88, u89, u90, u91, u92, u93, u94, u95, u96, u97, u98, u99, u100, u101, u102, u103, u104, u105, u106, u107, u108, u109, u110, u111, u112, u113, u114, u115, u116, u117, u118, u119, u120, u121, u122, u123, u124, u125, u126, u127, u128, u129, u130, u131, u132, u133, u134, u135, u136, u137, u138, u139, u140, u141, u142, u143, u144, u145, u146, u147, u148, u149, u150, u151, u152, u153, u154, u155, u156, u157, u158, u159, u160, u161, u162, u163, u164, u165, u166, u167, u168, u169, u170, u171, u172, u173, u174, u175, u176, u177, u178, u179, u180, u181, u182, u183, u184, u185, u186, u187, u188, u189, u190, u191, u192, u193, u194, u195, u196, u197, u198, u199, u200, u201, u202, u203, u204, u205, u206, u207, u208, u209, u210, u211, u212, u213, u214, u215, u216, u217, u218, u219, u220, u221, u222, u223, u224, u225, u226, u227, u228, u229, u230, u231, u232, u233, u234, u235, u236, u237, u238, u239, u240, u241, u242, u243, u244, u245, u246, u247, u248, u249, u250, u251, u252, u253, u254, u255, u256, u257, u258, u259, u260, u261, u262, u263, u264, u265, u266, u267, u268, u269, u270, u271, u272, u273, u274], []⟩) (Exit.inBlock 0 (bodyPost Tryd.prog Tryd.f39 (fun e w' => MatPost lo m pc s vi P gs cb A c W0 e w')))) ⟨#[.pointer (some ⟨m, 0, none⟩), .int .i64 k, .int .i64 i, .pointer (some ⟨bm, 0, none⟩), u4, u5, u6, u7, u8, u9, u10, u11, u12, u13, u14, u15, u16, u17, u18, u19, u20, u21, u22, u23, u24, u25, u26, u27, u28, u29, u30, u31, u32, u33, u34, u35, u36, u37, u38, u39, u40, u41, u42, u43, u44, u45, u46, u47, u48, u49, u50, u51, u52, u53, u54, u55, u56, u57, u58, u59, u60, u61, u62, u63, u64, u65, u66, u67, u68, u69, u70, u71, u72, u73, u74, u75, u76, u77, u78, u79, u80, u81, u82, u83, u84, u85, u86, u87, u88, u89, u90, u91, u92, u93, u94, u95, u96, u97, u98, u99, u100, u101, u102, u103, u104, u105, u106, u107, u108, u109, u110, u111, u112, u113, u114, u115, u116, u117, u118, u119, u120, u121, u122, u123, u124, u125, u126, u127, u128, u129, u130, u131, u132, u133, u134, u135, u136, u137, u138, u139, u140, u141, u142, u143, u144, u145, u146, u147, u148, u149, u150, u151, u152, u153, u154, u155, u156, u157, u158, u159, u160, u161, u162, u163, u164, u165, u166, u167, u168, u169, u170, u171, u172, u173, u174, u175, u176, u177, u178, u179, u180, u181, u182, u183, u184, u185, u186, u187, u188, u189, u190, u191, u192, u193, u194, u195, u196, u197, u198, u199, u200, u201, u202, u203, u204, u205, u206, u207, u208, u209, u210, u211, u212, u213, u214, u215, u216, u217, u218, u219, u220, u221, u222, u223, u224, u225, u226, u227, u228, u229, u230, u231, u232, u233, u234, u235, u236, u237, u238, u239, u240, u241, u242, u243, u244, u245, u246, u247, u248, u249, u250, u251, u252, u253, u254, u255, u256, u257, u258, u259, u260, u261, u262, u263, u264, u265, u266, u267, u268, u269, u270, u271, u272, u273, u274], []⟩ wr := by
  have HA := hid hA
  clear hA
  have hkl : k < P.items.length := (List.getElem?_eq_some_iff.1 U.e1).1
  have hi := U.hi
  have hs := U.hs
  have hl := U.hl
  have hst := U.hst
  obtain ⟨gi, cap, rfl, hgm, m0, m1, m2, m3, m4, m5⟩ := U.Q.item6 U.e1 U.e2
  have hgm1 : gi ≠ m := by simp at hgm; exact hgm.1
  have hsf : setP it g = .pointer none := if_neg (by omega)
  rw [hsf] at m1
  clear hsf hgm
  obtain ⟨c0, c1, c2, c3, f2⟩ := U.Q.cells
  obtain ⟨p0, p1, p2, q0, q1, q2⟩ := U.Q.pat.cells
  have hpm : pc ≠ m := by
    intro e
    have h1 : wr.heap[pc]? = some (.cells #[.bool P.start, .slice (some ⟨gi, 0, none⟩) P.items.length cap, .int .i64 P.caps] 49 (0, 0)) := U.Q.pat
    rw [e, U.Q.blk] at h1
    simp at h1
  have hbmo := U.Q.off U.bm0 (by decide) (by decide)
  have hbm1 : bm ≠ m := by simp at hbmo; exact hbmo.1
  have hb0 := blk_cell U.bm0 0
  have hbl := blk_lt U.bm0
  have z36 : (kb it.kind == 36) = true := by rw [hk0]; rfl
  have z40 : (kb it.kind == 40) = false := by rw [hk0]; rfl
  have z112 : (kb it.kind == 112) = false := by rw [hk0]; rfl
  have z41 : (kb it.kind == 41) = false := by rw [hk0]; rfl
  have z49 : (kb it.kind == 49) = false := by rw [hk0]; rfl
  have z98 : (kb it.kind == 98) = false := by rw [hk0]; rfl
  have z102 : (kb it.kind == 102) = false := by rw [hk0]; rfl
  have HK0 := hid hk0
  have HNX := hid hnext
  clear hk0 hnext
  conv => arg 2; whnf
  go_wp2_with fail
  by_cases ho : 50000 < st + 1
  · obtain rfl : st = 50000 := by omega
    refine (step_over _ c2).mono ?_
    rintro e w' ⟨rfl, rfl⟩
    go_wp2_with fail
    exact ⟨rfl, U.Kp, Or.inl ⟨HA.out.trans (if_pos ho), rfl⟩⟩
  · have HA1 : Hid (A = stepIt s true (fun _ => false) it K i (st + 1) c) := hid (HA.out.trans (if_neg ho))
    clear HA
    refine (step_ok _ c2 f2 (by omega)).mono ?_
    rintro e w' ⟨rfl, rfl⟩
    go_upto_region 5 with fail
    obtain ⟨W, hW⟩ : ∃ W, W = (wr.setCell ⟨m, 2, none⟩ (.int .i64 ((st : Int) + 1))).alloc (.cells #[.int .u8 (kb it.kind), .pointer none, .int .u8 it.sign, .int .i64 it.n, .int .u8 it.x, .int .u8 it.y] 77) := ⟨_, rfl⟩
    have hWb : W.heap[wr.heap.size]? = some (.cells #[.int .u8 (kb it.kind), .pointer none, .int .u8 it.sign, .int .i64 it.n, .int .u8 it.x, .int .u8 it.y] 77 (0, 0)) := by rw [hW, ← World.size_setCell (w := wr)]; exact blk_new _ _
    have hKa : Keeps wr.heap.size [m, cb] wr W := by rw [hW]; exact ((Keeps.refl _ _ _).setCell (Or.inl (by simp)) _).alloc (by simp) _
    have hQ : QS lo W m pc s (.slice (some ⟨gi, 0, none⟩) P.items.length cap) P gs cb (st + 1) c := by rw [hW]; exact (U.Q.setSt (v := (st : Int) + 1) (st' := st + 1) rfl).keeps ((Keeps.refl _ _ _).alloc (Nat.le_refl _) _)
    have hKW : Keeps W0.heap.size [m, cb] W0 W := U.Kp.then3 hKa
    have hbW := hKa.blk U.bm0 hbl hbmo
    have HKA := hid hKa
    rw [← hW]
    clear hW hKa m0 m1 m2 m3 m4 m5 c0 c1 c2 c3 f2 p0 p1 p2 q0 q1 q2 hb0
    obtain ⟨c0, c1, c2, c3, f2⟩ := hQ.cells
    have hb0 := blk_cell hbW 0
    have b0 := blk_cell hWb 0
    have b1 := blk_cell hWb 1
    have b2 := blk_cell hWb 2
    have b3 := blk_cell hWb 3
    have b4 := blk_cell hWb 4
    have b5 := blk_cell hWb 5
    by_cases hin : i = s.size
    · have hd1 : ((i : Int) != s.size) = false := by simp; omega
      have HG : Hid (A = K i (st + 1) c) := hid (by rw [HA1.out]; unfold stepIt; rw [HK0.out]; exact if_pos hin)
      have HIN := hid hin
      clear hin
      go_wp2_with fail
      exact ⟨MI_mk (k := k + 1) (i := i) (HNX.out i (st + 1) W (Nat.le_refl _) hi (by omega) hQ hKW hbW HG.out) (by omega) rfl, MMu_lt (k := k) rfl rfl (by omega) hkl⟩
    · have hd1 : ((i : Int) != s.size) = true := by simp; omega
      have HG : Hid (A = some (st + 1, none)) := hid (by rw [HA1.out]; unfold stepIt; rw [HK0.out]; exact (if_neg hin))
      clear hin
      go_wp2_with fail
      go_ret
      exact ⟨hKW, Or.inr (Or.inl ⟨st + 1, HG.out, hQ, by omega, rfl⟩)⟩

set_option maxRecDepth 1000000 in
set_option maxHeartbeats 4000000 in
theorem mat6 {lo m pc cb bm k g i st n0 : Nat} {s : ByteArray} {vi : Value} {P : Pt} {gs : List Nat} {K : Nat → Nat → Cap → Ans} {good good' : Nat → Cap → Prop} {it : It} {c : Cap} {W0 wr : World} {A : Ans} {MR : Nat → Nat → World → Prop} {u4 u5 u6 u7 u8 u9 u10 u11 u12 u13 u14 u15 u16 u17 u18 u19 u20 u21 u22 u23 u24 u25 u26 u27 u28 u29 u30 u31 u32 u33 u34 u35 u36 u37 u38 u39 u40 u41 u42 u43 u44 u45 u46 u47 u48 u49 u50 u51 u52 u53 u54 u55 u56 u57 u58 u59 u60 u61 u62 u63 u64 u65 u66 u67 u68 u69 u70 u71 u72 u73 u74 u75 u76 u77 u78 u79 u80 u81 u82 u83 u84 u85 u86 u87 u88 u89 u90 u91 u92 u93 u94 u95 u96 u97 u98 u99 u100 u101 u102 u103 u104 u105 u106 u107 u108 u109 u110 u111 u112 u113 u114 u115 u116 u117 u118 u119 u120 u121 u122 u123 u124 u125 u126 u127 u128 u129 u130 u131 u132 u133 u134 u135 u136 u137 u138 u139 u140 u141 u142 u143 u144 u145 u146 u147 u148 u149 u150 u151 u152 u153 u154 u155 u156 u157 u158 u159 u160 u161 u162 u163 u164 u165 u166 u167 u168 u169 u170 u171 u172 u173 u174 u175 u176 u177 u178 u179 u180 u181 u182 u183 u184 u185 u186 u187 u188 u189 u190 u191 u192 u193 u194 u195 u196 u197 u198 u199 u200 u201 u202 u203 u204 u205 u206 u207 u208 u209 u210 u211 u212 u213 u214 u215 u216 u217 u218 u219 u220 u221 u222 u223 u224 u225 u226 u227 u228 u229 u230 u231 u232 u233 u234 u235 u236 u237 u238 u239 u240 u241 u242 u243 u244 u245 u246 u247 u248 u249 u250 u251 u252 u253 u254 u255 u256 u257 u258 u259 u260 u261 u262 u263 u264 u265 u266 u267 u268 u269 u270 u271 u272 u273 u274 : Value} (U : UnderM lo m pc cb bm s vi P gs k K good good' it g i st c W0 wr) (hA : A = stepM s (fun _ => false) it K i st c) (hk0 : it.kind = 6) (hnext : ∀ (i' st' : Nat) (w' : World), i ≤ i' → i' ≤ s.size → st' ≤ 50000 → QS lo w' m pc s vi P gs cb st' c → Keeps W0.heap.size [m, cb] W0 w' → w'.heap[bm]? = some (.cells #[.pointer (some ⟨m, 0, none⟩)] 50 (0, 0)) → A = K i' st' c → MR (k + 1) i' w') (hset : BoolRow wr g 82 256 it.set)  :
    Code.wp Tryd.prog matBody (Exit.then (fun a' w' => MI m bm MR a' w' ∧ MMu P.items.length a' < MMu P.items.length ⟨#[.pointer (some ⟨m, 0, none⟩), .int .i64 k, .int .i64 i, .pointer (some ⟨bm, 0, none⟩), u4, u5, u6, u7, u8, u9, u10, u11, u12, u13, u14, u15, u16, u17, u18, u19, u20, u21, u22, u23, u24, u25, u26, u27, u28, u29, u30, u31, u32, u33, u34, u35, u36, u37, u38, u39, u40, u41, u42, u43, u44, u45, u46, u47, u48, u49, u50, u51, u52, u53, u54, u55, u56, u57, u58, u59, u60, u61, u62, u63, u64, u65, u66, u67, u68, u69, u70, u71, u72, u73, u74, u75, u76, u77, u78, u79, u80, u81, u82, u83, u84, u85, u86, u87, u88, u89, u90, u91, u92, u93, u94, u95, u96, u97, u98, u99, u100, u101, u102, u103, u104, u105, u106, u107, u108, u109, u110, u111, u112, u113, u114, u115, u116, u117, u118, u119, u120, u121, u122, u123, u124, u125, u126, u127, u128, u129, u130, u131, u132, u133, u134, u135, u136, u137, u138, u139, u140, u141, u142, u143, u144, u145, u146, u147, u148, u149, u150, u151, u152, u153, u154, u155, u156, u157, u158, u159, u160, u161, u162, u163, u164, u165, u166, u167, u168, u169, u170, u171, u172, u173, u174, u175, u176, u177, u178, u179, u180, u181, u182, u183, u184, u185, u186, u187, u188, u189, u190, u191, u192, u193, u194, u195, u196, u197, u198, u199, u200, u201, u202, u203, u204, u205, u206, u207, u208, u209, u210, u211, u212, u213, u214, u215, u216, u217, u218, u219, u220, u221, u222, u223, u224, u225, u226, u227, u228, u229, u230, u231, u232, u233, u234, u235, u236, u237, u238, u239, u240, u241, u242, u243, u244, u245, u246, u247, u248, u249, u250, u251, u252, u253, u254, u255, u256, u257, u258, u259, u260, u261, u262, u263, u264, u265, u266, u267, u268, u269, u270, u271, u272, u273, u274], []⟩) (Exit.inBlock 0 (bodyPost Tryd.prog Tryd.f39 (fun e w' => MatPost lo m pc s vi P gs cb A c W0 e w')))) ⟨#[.pointer (some ⟨m, 0, none⟩), .int .i64 k, .int .i64 i, .pointer (some ⟨bm, 0, none⟩), u4, u5, u6, u7, u8, u9, u10, u11, u12, u13, u14, u15, u16, u17, u18, u19, u20, u21, u22, u23, u24, u25, u26, u27, u28, u29, u30, u31, u32, u33, u34, u35, u36, u37, u38, u39, u40, u41, u42, u43, u44, u45, u46, u47, u48, u49, u50, u51, u52, u53, u54, u55, u56, u57, u58, u59, u60, u61, u62, u63, u64, u65, u66, u67, u68, u69, u70, u71, u72, u73, u74, u75, u76, u77, u78, u79, u80, u81, u82, u83, u84, u85, u86, u87, u88, u89, u90, u91, u92, u93, u94, u95, u96, u97, u98, u99, u100, u101, u102, u103, u104, u105, u106, u107, u108, u109, u110, u111, u112, u113, u114, u115, u116, u117, u118, u119, u120, u121, u122, u123, u124, u125, u126, u127, u128, u129, u130, u131, u132, u133, u134, u135, u136, u137, u138, u139, u140, u141, u142, u143, u144, u145, u146, u147, u148, u149, u150, u151, u152, u153, u154, u155, u156, u157, u158, u159, u160, u161, u162, u163, u164, u165, u166, u167, u168, u169, u170, u171, u172, u173, u174, u175, u176, u177, u178, u179, u180, u181, u182, u183, u184, u185, u186, u187, u188, u189, u190, u191, u192, u193, u194, u195, u196, u197, u198, u199, u200, u201, u202, u203, u204, u205, u206, u207, u208, u209, u210, u211, u212, u213, u214, u215, u216, u217, u218, u219, u220, u221, u222, u223, u224, u225, u226, u227, u228, u229, u230, u231, u232, u233, u234, u235, u236, u237, u238, u239, u240, u241, u242, u243, u244, u245, u246, u247, u248, u249, u250, u251, u252, u253, u254, u255, u256, u257, u258, u259, u260, u261, u262, u263, u264, u265, u266, u267, u268, u269, u270, u271, u272, u273, u274], []⟩ wr := by
  have HA := hid hA
  clear hA
  have hkl : k < P.items.length := (List.getElem?_eq_some_iff.1 U.e1).1
  have hi := U.hi
  have hs := U.hs
  have hl := U.hl
  have hst := U.hst
  obtain ⟨gi, cap, rfl, hgm, m0, m1, m2, m3, m4, m5⟩ := U.Q.item6 U.e1 U.e2
  have hgm1 : gi ≠ m := by simp at hgm; exact hgm.1
  have hsf : setP it g = .pointer (some ⟨g, 0, none⟩) := if_pos (Or.inr hk0)
  rw [hsf] at m1
  clear hsf hgm
  obtain ⟨c0, c1, c2, c3, f2⟩ := U.Q.cells
  obtain ⟨p0, p1, p2, q0, q1, q2⟩ := U.Q.pat.cells
  have hpm : pc ≠ m := by
    intro e
    have h1 : wr.heap[pc]? = some (.cells #[.bool P.start, .slice (some ⟨gi, 0, none⟩) P.items.length cap, .int .i64 P.caps] 49 (0, 0)) := U.Q.pat
    rw [e, U.Q.blk] at h1
    simp at h1
  have hbmo := U.Q.off U.bm0 (by decide) (by decide)
  have hbm1 : bm ≠ m := by simp at hbmo; exact hbmo.1
  have hb0 := blk_cell U.bm0 0
  have hbl := blk_lt U.bm0
  have z36 : (kb it.kind == 36) = false := by rw [hk0]; rfl
  have z40 : (kb it.kind == 40) = false := by rw [hk0]; rfl
  have z112 : (kb it.kind == 112) = false := by rw [hk0]; rfl
  have z41 : (kb it.kind == 41) = false := by rw [hk0]; rfl
  have z49 : (kb it.kind == 49) = false := by rw [hk0]; rfl
  have z98 : (kb it.kind == 98) = false := by rw [hk0]; rfl
  have z102 : (kb it.kind == 102) = true := by rw [hk0]; rfl
  have hoffg : g ∉ [m, cb] := by
    obtain ⟨c0, hc0⟩ := row_blk hset
    exact U.Q.off hc0 (by decide) (by decide)
  have HK0 := hid hk0
  have HNX := hid hnext
  clear hk0 hnext
  conv => arg 2; whnf
  go_wp2_with fail
  by_cases ho : 50000 < st + 1
  · obtain rfl : st = 50000 := by omega
    refine (step_over _ c2).mono ?_
    rintro e w' ⟨rfl, rfl⟩
    go_wp2_with fail
    exact ⟨rfl, U.Kp, Or.inl ⟨HA.out.trans (if_pos ho), rfl⟩⟩
  · have HA1 : Hid (A = stepIt s true (fun _ => false) it K i (st + 1) c) := hid (HA.out.trans (if_neg ho))
    clear HA
    refine (step_ok _ c2 f2 (by omega)).mono ?_
    rintro e w' ⟨rfl, rfl⟩
    go_upto_region 5 with fail
    obtain ⟨W, hW⟩ : ∃ W, W = (wr.setCell ⟨m, 2, none⟩ (.int .i64 ((st : Int) + 1))).alloc (.cells #[.int .u8 (kb it.kind), .pointer (some ⟨g, 0, none⟩), .int .u8 it.sign, .int .i64 it.n, .int .u8 it.x, .int .u8 it.y] 77) := ⟨_, rfl⟩
    have hWb : W.heap[wr.heap.size]? = some (.cells #[.int .u8 (kb it.kind), .pointer (some ⟨g, 0, none⟩), .int .u8 it.sign, .int .i64 it.n, .int .u8 it.x, .int .u8 it.y] 77 (0, 0)) := by rw [hW, ← World.size_setCell (w := wr)]; exact blk_new _ _
    have hKa : Keeps wr.heap.size [m, cb] wr W := by rw [hW]; exact ((Keeps.refl _ _ _).setCell (Or.inl (by simp)) _).alloc (by simp) _
    have hQ : QS lo W m pc s (.slice (some ⟨gi, 0, none⟩) P.items.length cap) P gs cb (st + 1) c := by rw [hW]; exact (U.Q.setSt (v := (st : Int) + 1) (st' := st + 1) rfl).keeps ((Keeps.refl _ _ _).alloc (Nat.le_refl _) _)
    have hKW : Keeps W0.heap.size [m, cb] W0 W := U.Kp.then3 hKa
    have hbW := hKa.blk U.bm0 hbl hbmo
    have HKA := hid hKa
    rw [← hW]
    clear hW hKa m0 m1 m2 m3 m4 m5 c0 c1 c2 c3 f2 p0 p1 p2 q0 q1 q2 hb0
    obtain ⟨c0, c1, c2, c3, f2⟩ := hQ.cells
    have hb0 := blk_cell hbW 0
    have b0 := blk_cell hWb 0
    have b1 := blk_cell hWb 1
    have b2 := blk_cell hWb 2
    have b3 := blk_cell hWb 3
    have b4 := blk_cell hWb 4
    have b5 := blk_cell hWb 5
    have hsetW := HKA.out.row hset hset.lt hoffg
    have hA2 : A = if it.set (if 0 < i then bt s (i - 1) else 0).toNat = true ∨ it.set (bt s i).toNat = false then some (st + 1, none) else K i (st + 1) c := by
      rw [HA1.out]; unfold stepIt; rw [HK0.out]; rfl
    have HA2 := hid hA2
    clear hA2 HA1
    have hx1 : ∃ xb : Nat, xb < 256 ∧ (if 0 < i then bt s (i - 1) else 0).toNat = xb := ⟨_, by have := bt_le s (i - 1); split <;> omega, rfl⟩
    have hx2 : ∃ xh : Nat, xh < 256 ∧ (bt s i).toNat = xh := ⟨_, by have := bt_le s i; omega, rfl⟩
    obtain ⟨xb, hxb1, hxb⟩ := hx1
    obtain ⟨xh, hxh1, hxh⟩ := hx2
    have q1 := hsetW.cell hxb1
    have q2 := hsetW.cell hxh1
    obtain ⟨sb, hsb⟩ : ∃ sb, it.set xb = sb := ⟨_, rfl⟩
    obtain ⟨sh, hsh⟩ : ∃ sh, it.set xh = sh := ⟨_, rfl⟩
    rw [hsb] at q1
    rw [hsh] at q2
    have HA3 : Hid (A = if sb = true ∨ sh = false then some (st + 1, none) else K i (st + 1) c) := hid (by rw [HA2.out, hxb, hxh, hsb, hsh])
    clear HA2 hsb hsh
    have f1 : 0 < i → ∃ h : i - 1 < s.size, s[i - 1].toNat = xb := fun h => ⟨by omega, by rw [← hxb, if_pos h, bt_of_lt (by omega)]; omega⟩
    have f2 : ¬ 0 < i → xb = 0 := fun h => by rw [← hxb, if_neg h]; rfl
    have f3 : i < s.size → ∃ h : i < s.size, s[i].toNat = xh := fun h => ⟨h, by rw [← hxh, bt_of_lt h]; omega⟩
    have f4 : ¬ i < s.size → xh = 0 := fun h => by rw [← hxh, bt_of_ge (by omega)]; rfl
    clear hxb hxh hset hsetW
    have hfin : (sb = true ∨ sh = false) → MatPost lo m pc s (.slice (some ⟨gi, 0, none⟩) P.items.length cap) P gs cb A c W0 (.returned (.int .i64 (-1))) W :=
      fun d => ⟨hKW, Or.inr (Or.inl ⟨st + 1, HA3.out.trans (if_pos d), hQ, by omega, rfl⟩)⟩
    have hgo : ¬ (sb = true ∨ sh = false) → Hid (A = K i (st + 1) c) := fun d => hid (by rw [HA3.out, if_neg d])
    have HFIN := hid hfin
    have HGO := hid hgo
    clear hfin hgo
    by_cases hi0 : 0 < i
    · obtain ⟨h1, g1⟩ := f1 hi0
      clear f1 f2
      obtain ⟨i', rfl⟩ : ∃ x, i = x + 1 := ⟨i - 1, by omega⟩
      simp only [Nat.add_sub_cancel] at g1 h1
      by_cases hin : i' + 1 < s.size
      · obtain ⟨h2, g2⟩ := f3 hin
        clear f3 f4
        have hd1 : decide (i' + 1 < s.size) = true := decide_eq_true hin
        cases sb
        all_goals cases sh
        all_goals go_wp2_with fail
        all_goals first
          | (go_ret; exact HFIN.out (by simp))
          | (exact ⟨MI_mk (k := k + 1) (i := i' + 1) (HNX.out (i' + 1) (st + 1) W (Nat.le_refl _) (by omega) (by omega) hQ hKW hbW (HGO.out (by simp)).out) (by omega) (by simp), MMu_lt (k := k) rfl rfl (by omega) hkl⟩)
      · have g2 := f4 hin
        subst g2
        clear f3 f4
        have hd1 : decide (i' + 1 < s.size) = false := decide_eq_false hin
        cases sb
        all_goals cases sh
        all_goals go_wp2_with fail
        all_goals first
          | (go_ret; exact HFIN.out (by simp))
          | (exact ⟨MI_mk (k := k + 1) (i := i' + 1) (HNX.out (i' + 1) (st + 1) W (Nat.le_refl _) (by omega) (by omega) hQ hKW hbW (HGO.out (by simp)).out) (by omega) (by simp), MMu_lt (k := k) rfl rfl (by omega) hkl⟩)
    · have g1 := f2 hi0
      subst g1
      obtain rfl : i = 0 := by omega
      clear f1 f2
      by_cases hin : 0 < s.size
      · obtain ⟨h2, g2⟩ := f3 hin
        clear f3 f4
        have hd1 : decide (0 < s.size) = true := decide_eq_true hin
        cases sb
        all_goals cases sh
        all_goals go_wp2_with fail
        all_goals first
          | (go_ret; exact HFIN.out (by simp))
          | (exact ⟨MI_mk (k := k + 1) (i := 0) (HNX.out (0) (st + 1) W (Nat.le_refl _) (by omega) (by omega) hQ hKW hbW (HGO.out (by simp)).out) (by omega) (by simp), MMu_lt (k := k) rfl rfl (by omega) hkl⟩)
      · have g2 := f4 hin
        subst g2
        clear f3 f4
        have hd1 : decide (0 < s.size) = false := decide_eq_false hin
        cases sb
        all_goals cases sh
        all_goals first
          | (exfalso; rw [q1] at q2; simp at q2; done)
          | skip
        all_goals go_wp2_with fail
        all_goals first
          | (go_ret; exact HFIN.out (by simp))
          | (exact ⟨MI_mk (k := k + 1) (i := 0) (HNX.out (0) (st + 1) W (Nat.le_refl _) (by omega) (by omega) hQ hKW hbW (HGO.out (by simp)).out) (by omega) (by simp), MMu_lt (k := k) rfl rfl (by omega) hkl⟩)
end Go.Proofs.YtpinoolagbghnaaDoor

namespace Go.Proofs.YtpinoolagbghnaaDoor
set_option linter.unusedVariables false
open Go.RowKit Pat
theorem Pat.step5 {s : ByteArray} {fl : Bool} {pl : Nat → Bool} {it : It} {K : Nat → Nat → Cap → Ans} {i st : Nat} {c : Cap} (k5 : it.kind = 5) (hst : st ≤ 50000) {B : Nat × Option Nat} (hB : pairB s it i = B) :
    stepIt s fl pl it K i st c = if 50000 < st + B.1 then none else match B.2 with | some j => K j (st + B.1) c | none => some (st + B.1, none) := by
  unfold pairB at hB
  by_cases h : i < s.size ∧ bt s i = it.x
  · rw [if_pos h] at hB
    obtain ⟨u, r⟩ := B
    cases r with
    | none => rw [pair_none k5 h hB]
    | some j => rw [pair_some k5 h hB]
  · rw [if_neg h] at hB
    subst hB
    rw [pair_no k5 h, if_neg (by dsimp only; omega)]; rfl
theorem Pat.bal_gt {s : ByteArray} {x y : Int} {r : Nat} : ∀ (g j : Nat) (n : Int), (bal s x y g j n).2 = some r → j < r := by
  intro g
  induction g with
  | zero => intro j n h; cases h
  | succ g ih =>
    intro j n h
    by_cases hj : j < s.size
    · by_cases hy : bt s j = y
      · by_cases hn : n = 1
        · rw [bal_close hj hy hn] at h; simp at h; omega
        · rw [bal_down hj hy hn] at h; have := ih _ _ h; omega
      · by_cases hx : bt s j = x
        · rw [bal_up hj hy hx] at h; have := ih _ _ h; omega
        · rw [bal_skip hj hy hx] at h; have := ih _ _ h; omega
    · rw [bal_end (by omega)] at h; cases h
theorem Pat.pairB_gt {s : ByteArray} {it : It} {i j : Nat} (h : (pairB s it i).2 = some j) : i < j := by
  unfold pairB at h
  split at h
  · have := Pat.bal_gt _ _ _ h; omega
  · cases h

set_option maxRecDepth 1000000 in
set_option maxHeartbeats 4000000 in
theorem mat5 {lo m pc cb bm k g i st n0 : Nat} {s : ByteArray} {vi : Value} {P : Pt} {gs : List Nat} {K : Nat → Nat → Cap → Ans} {good good' : Nat → Cap → Prop} {it : It} {c : Cap} {W0 wr : World} {A : Ans} {MR : Nat → Nat → World → Prop} {u4 u5 u6 u7 u8 u9 u10 u11 u12 u13 u14 u15 u16 u17 u18 u19 u20 u21 u22 u23 u24 u25 u26 u27 u28 u29 u30 u31 u32 u33 u34 u35 u36 u37 u38 u39 u40 u41 u42 u43 u44 u45 u46 u47 u48 u49 u50 u51 u52 u53 u54 u55 u56 u57 u58 u59 u60 u61 u62 u63 u64 u65 u66 u67 u68 u69 u70 u71 u72 u73 u74 u75 u76 u77 u78 u79 u80 u81 u82 u83 u84 u85 u86 u87 u88 u89 u90 u91 u92 u93 u94 u95 u96 u97 u98 u99 u100 u101 u102 u103 u104 u105 u106 u107 u108 u109 u110 u111 u112 u113 u114 u115 u116 u117 u118 u119 u120 u121 u122 u123 u124 u125 u126 u127 u128 u129 u130 u131 u132 u133 u134 u135 u136 u137 u138 u139 u140 u141 u142 u143 u144 u145 u146 u147 u148 u149 u150 u151 u152 u153 u154 u155 u156 u157 u158 u159 u160 u161 u162 u163 u164 u165 u166 u167 u168 u169 u170 u171 u172 u173 u174 u175 u176 u177 u178 u179 u180 u181 u182 u183 u184 u185 u186 u187 u188 u189 u190 u191 u192 u193 u194 u195 u196 u197 u198 u199 u200 u201 u202 u203 u204 u205 u206 u207 u208 u209 u210 u211 u212 u213 u214 u215 u216 u217 u218 u219 u220 u221 u222 u223 u224 u225 u226 u227 u228 u229 u230 u231 u232 u233 u234 u235 u236 u237 u238 u239 u240 u241 u242 u243 u244 u245 u246 u247 u248 u249 u250 u251 u252 u253 u254 u255 u256 u257 u258 u259 u260 u261 u262 u263 u264 u265 u266 u267 u268 u269 u270 u271 u272 u273 u274 : Value} (U : UnderM lo m pc cb bm s vi P gs k K good good' it g i st c W0 wr) (hA : A = stepM s (fun _ => false) it K i st c) (hk0 : it.kind = 5) (hnext : ∀ (i' st' : Nat) (w' : World), i ≤ i' → i' ≤ s.size → st' ≤ 50000 → QS lo w' m pc s vi P gs cb st' c → Keeps W0.heap.size [m, cb] W0 w' → w'.heap[bm]? = some (.cells #[.pointer (some ⟨m, 0, none⟩)] 50 (0, 0)) → A = K i' st' c → MR (k + 1) i' w')   :
    Code.wp Tryd.prog matBody (Exit.then (fun a' w' => MI m bm MR a' w' ∧ MMu P.items.length a' < MMu P.items.length ⟨#[.pointer (some ⟨m, 0, none⟩), .int .i64 k, .int .i64 i, .pointer (some ⟨bm, 0, none⟩), u4, u5, u6, u7, u8, u9, u10, u11, u12, u13, u14, u15, u16, u17, u18, u19, u20, u21, u22, u23, u24, u25, u26, u27, u28, u29, u30, u31, u32, u33, u34, u35, u36, u37, u38, u39, u40, u41, u42, u43, u44, u45, u46, u47, u48, u49, u50, u51, u52, u53, u54, u55, u56, u57, u58, u59, u60, u61, u62, u63, u64, u65, u66, u67, u68, u69, u70, u71, u72, u73, u74, u75, u76, u77, u78, u79, u80, u81, u82, u83, u84, u85, u86, u87, u88, u89, u90, u91, u92, u93, u94, u95, u96, u97, u98, u99, u100, u101, u102, u103, u104, u105, u106, u107, u108, u109, u110, u111, u112, u113, u114, u115, u116, u117, u118, u119, u120, u121, u122, u123, u124, u125, u126, u127, u128, u129, u130, u131, u132, u133, u134, u135, u136, u137, u138, u139, u140, u141, u142, u143, u144, u145, u146, u147, u148, u149, u150, u151, u152, u153, u154, u155, u156, u157, u158, u159, u160, u161, u162, u163, u164, u165, u166, u167, u168, u169, u170, u171, u172, u173, u174, u175, u176, u177, u178, u179, u180, u181, u182, u183, u184, u185, u186, u187, u188, u189, u190, u191, u192, u193, u194, u195, u196, u197, u198, u199, u200, u201, u202, u203, u204, u205, u206, u207, u208, u209, u210, u211, u212, u213, u214, u215, u216, u217, u218, u219, u220, u221, u222, u223, u224, u225, u226, u227, u228, u229, u230, u231, u232, u233, u234, u235, u236, u237, u238, u239, u240, u241, u242, u243, u244, u245, u246, u247, u248, u249, u250, u251, u252, u253, u254, u255, u256, u257, u258, u259, u260, u261, u262, u263, u264, u265, u266, u267, u268, u269, u270, u271, u272, u273, u274], []⟩) (Exit.inBlock 0 (bodyPost Tryd.prog Tryd.f39 (fun e w' => MatPost lo m pc s vi P gs cb A c W0 e w')))) ⟨#[.pointer (some ⟨m, 0, none⟩), .int .i64 k, .int .i64 i, .pointer (some ⟨bm, 0, none⟩), u4, u5, u6, u7, u8, u9, u10, u11, u12, u13, u14, u15, u16, u17, u18, u19, u20, u21, u22, u23, u24, u25, u26, u27, u28, u29, u30, u31, u32, u33, u34, u35, u36, u37, u38, u39, u40, u41, u42, u43, u44, u45, u46, u47, u48, u49, u50, u51, u52, u53, u54, u55, u56, u57, u58, u59, u60, u61, u62, u63, u64, u65, u66, u67, u68, u69, u70, u71, u72, u73, u74, u75, u76, u77, u78, u79, u80, u81, u82, u83, u84, u85, u86, u87, u88, u89, u90, u91, u92, u93, u94, u95, u96, u97, u98, u99, u100, u101, u102, u103, u104, u105, u106, u107, u108, u109, u110, u111, u112, u113, u114, u115, u116, u117, u118, u119, u120, u121, u122, u123, u124, u125, u126, u127, u128, u129, u130, u131, u132, u133, u134, u135, u136, u137, u138, u139, u140, u141, u142, u143, u144, u145, u146, u147, u148, u149, u150, u151, u152, u153, u154, u155, u156, u157, u158, u159, u160, u161, u162, u163, u164, u165, u166, u167, u168, u169, u170, u171, u172, u173, u174, u175, u176, u177, u178, u179, u180, u181, u182, u183, u184, u185, u186, u187, u188, u189, u190, u191, u192, u193, u194, u195, u196, u197, u198, u199, u200, u201, u202, u203, u204, u205, u206, u207, u208, u209, u210, u211, u212, u213, u214, u215, u216, u217, u218, u219, u220, u221, u222, u223, u224, u225, u226, u227, u228, u229, u230, u231, u232, u233, u234, u235, u236, u237, u238, u239, u240, u241, u242, u243, u244, u245, u246, u247, u248, u249, u250, u251, u252, u253, u254, u255, u256, u257, u258, u259, u260, u261, u262, u263, u264, u265, u266, u267, u268, u269, u270, u271, u272, u273, u274], []⟩ wr := by
  have HA := hid hA
  clear hA
  have hkl : k < P.items.length := (List.getElem?_eq_some_iff.1 U.e1).1
  have hi := U.hi
  have hs := U.hs
  have hl := U.hl
  have hst := U.hst
  obtain ⟨gi, cap, rfl, hgm, m0, m1, m2, m3, m4, m5⟩ := U.Q.item6 U.e1 U.e2
  have hgm1 : gi ≠ m := by simp at hgm; exact hgm.1
  have hsf : setP it g = .pointer none := if_neg (by omega)
  rw [hsf] at m1
  clear hsf hgm
  obtain ⟨c0, c1, c2, c3, f2⟩ := U.Q.cells
  obtain ⟨p0, p1, p2, q0, q1, q2⟩ := U.Q.pat.cells
  have hpm : pc ≠ m := by
    intro e
    have h1 : wr.heap[pc]? = some (.cells #[.bool P.start, .slice (some ⟨gi, 0, none⟩) P.items.length cap, .int .i64 P.caps] 49 (0, 0)) := U.Q.pat
    rw [e, U.Q.blk] at h1
    simp at h1
  have hbmo := U.Q.off U.bm0 (by decide) (by decide)
  have hbm1 : bm ≠ m := by simp at hbmo; exact hbmo.1
  have hb0 := blk_cell U.bm0 0
  have hbl := blk_lt U.bm0
  have z36 : (kb it.kind == 36) = false := by rw [hk0]; rfl
  have z40 : (kb it.kind == 40) = false := by rw [hk0]; rfl
  have z112 : (kb it.kind == 112) = false := by rw [hk0]; rfl
  have z41 : (kb it.kind == 41) = false := by rw [hk0]; rfl
  have z49 : (kb it.kind == 49) = false := by rw [hk0]; rfl
  have z98 : (kb it.kind == 98) = true := by rw [hk0]; rfl
  have z102 : (kb it.kind == 102) = false := by rw [hk0]; rfl
  have HK0 := hid hk0
  have HNX := hid hnext
  clear hk0 hnext
  conv => arg 2; whnf
  go_wp2_with fail
  by_cases ho : 50000 < st + 1
  · obtain rfl : st = 50000 := by omega
    refine (step_over _ c2).mono ?_
    rintro e w' ⟨rfl, rfl⟩
    go_wp2_with fail
    exact ⟨rfl, U.Kp, Or.inl ⟨HA.out.trans (if_pos ho), rfl⟩⟩
  · have HA1 : Hid (A = stepIt s true (fun _ => false) it K i (st + 1) c) := hid (HA.out.trans (if_neg ho))
    clear HA
    refine (step_ok _ c2 f2 (by omega)).mono ?_
    rintro e w' ⟨rfl, rfl⟩
    go_upto_region 5 with fail
    obtain ⟨W, hW⟩ : ∃ W, W = (wr.setCell ⟨m, 2, none⟩ (.int .i64 ((st : Int) + 1))).alloc (.cells #[.int .u8 (kb it.kind), .pointer none, .int .u8 it.sign, .int .i64 it.n, .int .u8 it.x, .int .u8 it.y] 77) := ⟨_, rfl⟩
    have hWb : W.heap[wr.heap.size]? = some (.cells #[.int .u8 (kb it.kind), .pointer none, .int .u8 it.sign, .int .i64 it.n, .int .u8 it.x, .int .u8 it.y] 77 (0, 0)) := by rw [hW, ← World.size_setCell (w := wr)]; exact blk_new _ _
    have hKa : Keeps wr.heap.size [m, cb] wr W := by rw [hW]; exact ((Keeps.refl _ _ _).setCell (Or.inl (by simp)) _).alloc (by simp) _
    have hQ : QS lo W m pc s (.slice (some ⟨gi, 0, none⟩) P.items.length cap) P gs cb (st + 1) c := by rw [hW]; exact (U.Q.setSt (v := (st : Int) + 1) (st' := st + 1) rfl).keeps ((Keeps.refl _ _ _).alloc (Nat.le_refl _) _)
    have hKW : Keeps W0.heap.size [m, cb] W0 W := U.Kp.then3 hKa
    have hbW := hKa.blk U.bm0 hbl hbmo
    have HKA := hid hKa
    rw [← hW]
    clear hW hKa m0 m1 m2 m3 m4 m5 c0 c1 c2 c3 f2 p0 p1 p2 q0 q1 q2 hb0
    obtain ⟨c0, c1, c2, c3, f2⟩ := hQ.cells
    have hb0 := blk_cell hbW 0
    have b0 := blk_cell hWb 0
    have b1 := blk_cell hWb 1
    have b2 := blk_cell hWb 2
    have b3 := blk_cell hWb 3
    have b4 := blk_cell hWb 4
    have b5 := blk_cell hWb 5
    go_wp2_with fail
    refine (balance_any (lo := lo) (pc := pc) (vi := .slice (some ⟨gi, 0, none⟩) P.items.length cap) (P := P) (gs := gs) (cb := cb) (st := st + 1) (c := c) (it := it) hs hi (by omega) hQ (kb it.kind) none).mono ?_
    obtain ⟨B, hB⟩ : ∃ B, pairB s it i = B := ⟨_, rfl⟩
    have hgt : ∀ j, B.2 = some j → i < j := fun j h => Pat.pairB_gt (hB ▸ h)
    rw [hB]
    have HB : Hid (A = if 50000 < st + 1 + B.1 then none else match B.2 with | some j => K j (st + 1 + B.1) c | none => some (st + 1 + B.1, none)) := hid (HA1.out.trans (Pat.step5 HK0.out (by omega) hB))
    clear hB HA1
    rintro e w2 ⟨hK2, hcase⟩
    have hbW2 := hK2.blk hbW (blk_lt hbW) (hQ.off hbW (by decide) (by decide))
    have hKW2 := hKW.then3 hK2
    rcases hcase with ⟨hov, rfl⟩ | ⟨hle, hQ2, hr⟩
    · go_wp2_with fail
      exact ⟨rfl, hKW2, Or.inl ⟨HB.out.trans (if_pos hov), rfl⟩⟩
    · have HB2 := hid (HB.out.trans (if_neg (by omega)))
      clear HB
      rcases hr with ⟨j, hj, hjs, rfl⟩ | ⟨hj, rfl⟩
      · have hij := hgt j hj
        have HN : Hid (A = K j (st + 1 + B.1) c) := hid (by rw [HB2.out, hj])
        have hj0 : ¬ (j : Int) < 0 := by omega
        clear hgt hj
        go_wp2_with fail
        exact ⟨MI_mk (k := k + 1) (i := j) (HNX.out j (st + 1 + B.1) w2 (by omega) hjs hle hQ2 hKW2 hbW2 HN.out) (by omega) rfl, MMu_lt (k := k) rfl rfl (by omega) hkl⟩
      · have HN : Hid (A = some (st + 1 + B.1, none)) := hid (by rw [HB2.out, hj])
        go_wp2_with fail
        go_ret
        exact ⟨hKW2, Or.inr (Or.inl ⟨_, HN.out, hQ2, by omega, rfl⟩)⟩
end Go.Proofs.YtpinoolagbghnaaDoor
