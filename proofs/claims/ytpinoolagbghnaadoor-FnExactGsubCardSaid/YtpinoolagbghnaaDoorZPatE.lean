/-
  Walk: rounds of the program's reader of patterns.
  Walk: rounds of the program's reader of patterns: places, openings.
  Walk: rounds of the program's reader of patterns: openings.
  Walk: rounds of the program's reader of patterns: a capture is shut.
-/
import Derived.Test.YtpinoolagbghnaaDoorZPatS
namespace Go.Proofs.YtpinoolagbghnaaDoor
set_option linter.unusedVariables false
open Go.RowKit Go.Maps Pat

set_option maxRecDepth 1000000 in
set_option maxHeartbeats 4000000 in
theorem pat_end {p : ByteArray} {B pc mp : Nat} {anch : Bool} {R : Option (List It × Rd)} {W0 wr : World} {i gk : Nat} {done : List Bool} {opened : List Nat} {its : List It} {gs : List Nat} {vi vo : Value} {K0 : Act → World → Prop} {Po : Ending → World → Prop} {u1 u7 u8 u9 u10 u11 u12 u13 u14 u15 u16 u17 u18 u19 u20 u21 u22 u23 u24 u25 u26 u27 u28 u29 u30 u31 u32 u33 u34 u35 u36 u37 u38 u39 u40 u41 u42 u43 u44 u45 u46 u47 u48 u49 u50 u51 u52 u53 u54 u55 u56 u57 u58 u59 u60 u61 u62 u63 u64 u65 u66 u67 u68 u69 u70 u71 u72 u73 u74 u75 u76 u77 u78 u79 u80 u81 u82 u83 u84 u85 u86 u87 u88 u89 u90 u91 u92 u93 u94 u95 u96 u97 u98 u99 u100 u101 u102 u103 u104 u105 u106 u107 u108 u109 u110 u111 u112 u113 u114 u115 u116 u117 u118 u119 u120 u121 u122 u123 u124 u125 u126 u127 u128 u129 u130 u131 u132 u133 u134 u135 u136 u137 u138 u139 u140 u141 u142 u143 u144 u145 u146 u147 u148 u149 u150 u151 u152 u153 u154 u155 u156 u157 u158 u159 u160 u161 u162 u163 u164 u165 u166 u167 u168 u169 u170 u171 u172 u173 u174 u175 u176 u177 u178 u179 u180 u181 u182 u183 u184 u185 u186 u187 u188 u189 u190 u191 u192 u193 u194 u195 u196 u197 u198 u199 u200 u201 u202 u203 u204 u205 u206 u207 u208 u209 u210 u211 u212 u213 u214 u215 u216 u217 u218 u219 u220 u221 u222 u223 u224 u225 u226 u227 u228 u229 u230 u231 u232 u233 u234 u235 u236 u237 u238 u239 u240 u241 u242 u243 u244 u245 u246 u247 u248 u249 u250 u251 u252 u253 u254 u255 u256 u257 u258 u259 u260 u261 u262 u263 u264 u265 u266 u267 u268 u269 u270 u271 u272 u273 u274 u275 u276 u277 u278 u279 u280 u281 u282 u283 u284 u285 u286 u287 u288 u289 u290 u291 u292 u293 u294 u295 u296 u297 u298 u299 u300 u301 u302 u303 u304 u305 u306 u307 u308 u309 u310 u311 u312 u313 u314 u315 u316 u317 u318 u319 u320 u321 u322 u323 u324 : Value}
    (hp : p.size ≤ 200) (hS : PR B p pc mp anch ⟨i, done, opened⟩ its gs vi vo wr) (hgk : p.size ≤ i + gk) (hlp : its.length ≤ p.size) (HG : Hid (R = itemsGo p gk ⟨i, done, opened⟩ its)) (hkk : Keeps B [] W0 wr)
    (hret : ∀ w' : World, R = none → Keeps B [] W0 w' → Po (.returned (.pointer none)) w') (hi : i < p.size) (hc : bt p i = 36) (he : i + 1 = p.size) :
    Code.wp Tryd.prog patBody (Exit.then (fun a' w' => PI p B pc mp anch R W0 a' w' ∧ PMu p a' < PMu p ⟨#[.string p, u1, .pointer none, .pointer (some ⟨pc, 0, none⟩), .int .i64 i, vo, .map (some mp), u7, u8, u9, u10, u11, u12, u13, u14, u15, u16, u17, u18, u19, u20, u21, u22, u23, u24, u25, u26, u27, u28, u29, u30, u31, u32, u33, u34, u35, u36, u37, u38, u39, u40, u41, u42, u43, u44, u45, u46, u47, u48, u49, u50, u51, u52, u53, u54, u55, u56, u57, u58, u59, u60, u61, u62, u63, u64, u65, u66, u67, u68, u69, u70, u71, u72, u73, u74, u75, u76, u77, u78, u79, u80, u81, u82, u83, u84, u85, u86, u87, u88, u89, u90, u91, u92, u93, u94, u95, u96, u97, u98, u99, u100, u101, u102, u103, u104, u105, u106, u107, u108, u109, u110, u111, u112, u113, u114, u115, u116, u117, u118, u119, u120, u121, u122, u123, u124, u125, u126, u127, u128, u129, u130, u131, u132, u133, u134, u135, u136, u137, u138, u139, u140, u141, u142, u143, u144, u145, u146, u147, u148, u149, u150, u151, u152, u153, u154, u155, u156, u157, u158, u159, u160, u161, u162, u163, u164, u165, u166, u167, u168, u169, u170, u171, u172, u173, u174, u175, u176, u177, u178, u179, u180, u181, u182, u183, u184, u185, u186, u187, u188, u189, u190, u191, u192, u193, u194, u195, u196, u197, u198, u199, u200, u201, u202, u203, u204, u205, u206, u207, u208, u209, u210, u211, u212, u213, u214, u215, u216, u217, u218, u219, u220, u221, u222, u223, u224, u225, u226, u227, u228, u229, u230, u231, u232, u233, u234, u235, u236, u237, u238, u239, u240, u241, u242, u243, u244, u245, u246, u247, u248, u249, u250, u251, u252, u253, u254, u255, u256, u257, u258, u259, u260, u261, u262, u263, u264, u265, u266, u267, u268, u269, u270, u271, u272, u273, u274, u275, u276, u277, u278, u279, u280, u281, u282, u283, u284, u285, u286, u287, u288, u289, u290, u291, u292, u293, u294, u295, u296, u297, u298, u299, u300, u301, u302, u303, u304, u305, u306, u307, u308, u309, u310, u311, u312, u313, u314, u315, u316, u317, u318, u319, u320, u321, u322, u323, u324], []⟩) (Exit.inBlock 0 (Exit.then K0 (bodyPost Tryd.prog Tryd.f10 Po)))) ⟨#[.string p, u1, .pointer none, .pointer (some ⟨pc, 0, none⟩), .int .i64 i, vo, .map (some mp), u7, u8, u9, u10, u11, u12, u13, u14, u15, u16, u17, u18, u19, u20, u21, u22, u23, u24, u25, u26, u27, u28, u29, u30, u31, u32, u33, u34, u35, u36, u37, u38, u39, u40, u41, u42, u43, u44, u45, u46, u47, u48, u49, u50, u51, u52, u53, u54, u55, u56, u57, u58, u59, u60, u61, u62, u63, u64, u65, u66, u67, u68, u69, u70, u71, u72, u73, u74, u75, u76, u77, u78, u79, u80, u81, u82, u83, u84, u85, u86, u87, u88, u89, u90, u91, u92, u93, u94, u95, u96, u97, u98, u99, u100, u101, u102, u103, u104, u105, u106, u107, u108, u109, u110, u111, u112, u113, u114, u115, u116, u117, u118, u119, u120, u121, u122, u123, u124, u125, u126, u127, u128, u129, u130, u131, u132, u133, u134, u135, u136, u137, u138, u139, u140, u141, u142, u143, u144, u145, u146, u147, u148, u149, u150, u151, u152, u153, u154, u155, u156, u157, u158, u159, u160, u161, u162, u163, u164, u165, u166, u167, u168, u169, u170, u171, u172, u173, u174, u175, u176, u177, u178, u179, u180, u181, u182, u183, u184, u185, u186, u187, u188, u189, u190, u191, u192, u193, u194, u195, u196, u197, u198, u199, u200, u201, u202, u203, u204, u205, u206, u207, u208, u209, u210, u211, u212, u213, u214, u215, u216, u217, u218, u219, u220, u221, u222, u223, u224, u225, u226, u227, u228, u229, u230, u231, u232, u233, u234, u235, u236, u237, u238, u239, u240, u241, u242, u243, u244, u245, u246, u247, u248, u249, u250, u251, u252, u253, u254, u255, u256, u257, u258, u259, u260, u261, u262, u263, u264, u265, u266, u267, u268, u269, u270, u271, u272, u273, u274, u275, u276, u277, u278, u279, u280, u281, u282, u283, u284, u285, u286, u287, u288, u289, u290, u291, u292, u293, u294, u295, u296, u297, u298, u299, u300, u301, u302, u303, u304, u305, u306, u307, u308, u309, u310, u311, u312, u313, u314, u315, u316, u317, u318, u319, u320, u321, u322, u323, u324], []⟩ wr := by
  have hd : decide (i < p.size) = true := decide_eq_true hi
  have t1 := rest_dollar hi
  rw [decide_eq_true ⟨hc, he⟩] at t1
  obtain ⟨gk', rfl⟩ : ∃ x, gk = x + 1 := ⟨gk - 1, by omega⟩
  have hit : itemAt p ⟨i, done, opened⟩ = some ({ kind := 7 }, ⟨i + 1, done, opened⟩) := by
    unfold itemAt; simp only []
    rw [if_neg (by omega), if_neg (by omega), if_neg (by omega), if_neg (by omega), if_neg (by omega), if_pos ⟨hc, decide_eq_false (by omega)⟩]
  have HR : Hid (R = itemsGo p gk' ⟨i + 1, done, opened⟩ (its ++ [{ kind := 7 }])) := hid (HG.out.trans (itemsGo_next hi hit))
  obtain ⟨n0, hn0, hP⟩ := hS.ps
  have hmem := hS.mem
  have hb1 := hS.b1
  have hb2 := hS.b2
  have hb3 := hS.b3
  dsimp only at hP hmem hb1 hb2 hb3
  have HM := hid hmem
  obtain ⟨av, cv, rfl⟩ := own_form hP.it
  have HP := hid hP
  have hB : B ≤ wr.heap.size := by have := hP.Bb; have := blk_lt hP.blk; omega
  have hlpc := blk_lt hP.blk
  obtain ⟨c0, c1, c2, f0, f1, f2⟩ := hP.blk.cells
  clear hS hP hit HG hc he hmem
  conv => arg 2; whnf
  go_wp2_with (at_builtin; go_must (refine append_newS (us := pItCells { kind := 7 } 0) rfl _ _ 47 rfl 77 rfl (.agg #[.int .u8 0, .pointer none, .int .u8 0, .int .i64 0, .int .u8 0, .int .u8 0]) 6 40 Tryd.underlying47 info_pitem rfl (by decide) B _ its.length (pCells its gs) rfl HP.out.it _ rfl rfl rfl (by simp [pItCells, kb, Value.oneCell']) (by unfold maxLen; omega) (by omega) hB ?_))
  intro ao cap w4 ho6 hg6 hn6
  obtain ⟨hP2, hk2⟩ := HP.out.push (m := its.length + 1) (it := { kind := 7 }) (g := 0) rfl ho6 hg6 (fun h => by simp at h) hB
  have hb4 : PBlk w4 pc anch (.slice av its.length cv) done.length := (hg6.block pc hlpc (Ne.symm (own_ne_blk HP.out.it HP.out.blk (by decide)))).trans HP.out.blk
  obtain ⟨d0, d1, d2, e0, e1, e2⟩ := hb4.cells
  have HP2 := hid hP2
  have HK2 := hid hk2
  clear ho6 hg6 hn6 c0 c1 c2 f0 f1 f2 hP2 hk2 hb4
  go_wp2_with fail
  refine ⟨PI_mk (i := i + 1) ⟨⟨i + 1, done, opened⟩, _, _, _, gk', rfl, HP2.out.pr (by simp; omega) HM.out (by simp; omega) (by simp; omega) (by simp; omega), by dsimp only; omega, by simp; omega, HR.out, hkk.trans HK2.out⟩ (by simp), PMu_lt (i := i) (j := i + 1) rfl (by simp) (by omega) hi⟩
end Go.Proofs.YtpinoolagbghnaaDoor

namespace Go.Proofs.YtpinoolagbghnaaDoor
set_option linter.unusedVariables false
open Go.RowKit Go.Maps Pat

set_option maxRecDepth 1000000 in
set_option maxHeartbeats 4000000 in
theorem pat_place {p : ByteArray} {B pc mp : Nat} {anch : Bool} {R : Option (List It × Rd)} {W0 wr : World} {i gk : Nat} {done : List Bool} {opened : List Nat} {its : List It} {gs : List Nat} {vi vo : Value} {K0 : Act → World → Prop} {Po : Ending → World → Prop} {u1 u7 u8 u9 u10 u11 u12 u13 u14 u15 u16 u17 u18 u19 u20 u21 u22 u23 u24 u25 u26 u27 u28 u29 u30 u31 u32 u33 u34 u35 u36 u37 u38 u39 u40 u41 u42 u43 u44 u45 u46 u47 u48 u49 u50 u51 u52 u53 u54 u55 u56 u57 u58 u59 u60 u61 u62 u63 u64 u65 u66 u67 u68 u69 u70 u71 u72 u73 u74 u75 u76 u77 u78 u79 u80 u81 u82 u83 u84 u85 u86 u87 u88 u89 u90 u91 u92 u93 u94 u95 u96 u97 u98 u99 u100 u101 u102 u103 u104 u105 u106 u107 u108 u109 u110 u111 u112 u113 u114 u115 u116 u117 u118 u119 u120 u121 u122 u123 u124 u125 u126 u127 u128 u129 u130 u131 u132 u133 u134 u135 u136 u137 u138 u139 u140 u141 u142 u143 u144 u145 u146 u147 u148 u149 u150 u151 u152 u153 u154 u155 u156 u157 u158 u159 u160 u161 u162 u163 u164 u165 u166 u167 u168 u169 u170 u171 u172 u173 u174 u175 u176 u177 u178 u179 u180 u181 u182 u183 u184 u185 u186 u187 u188 u189 u190 u191 u192 u193 u194 u195 u196 u197 u198 u199 u200 u201 u202 u203 u204 u205 u206 u207 u208 u209 u210 u211 u212 u213 u214 u215 u216 u217 u218 u219 u220 u221 u222 u223 u224 u225 u226 u227 u228 u229 u230 u231 u232 u233 u234 u235 u236 u237 u238 u239 u240 u241 u242 u243 u244 u245 u246 u247 u248 u249 u250 u251 u252 u253 u254 u255 u256 u257 u258 u259 u260 u261 u262 u263 u264 u265 u266 u267 u268 u269 u270 u271 u272 u273 u274 u275 u276 u277 u278 u279 u280 u281 u282 u283 u284 u285 u286 u287 u288 u289 u290 u291 u292 u293 u294 u295 u296 u297 u298 u299 u300 u301 u302 u303 u304 u305 u306 u307 u308 u309 u310 u311 u312 u313 u314 u315 u316 u317 u318 u319 u320 u321 u322 u323 u324 : Value}
    (hp : p.size ≤ 200) (hS : PR B p pc mp anch ⟨i, done, opened⟩ its gs vi vo wr) (hgk : p.size ≤ i + gk) (hlp : its.length ≤ p.size) (HG : Hid (R = itemsGo p gk ⟨i, done, opened⟩ its)) (hkk : Keeps B [] W0 wr)
    (hret : ∀ w' : World, R = none → Keeps B [] W0 w' → Po (.returned (.pointer none)) w') (hi : i < p.size) (hc : bt p i = 40) (h1 : i + 1 < p.size) (hd1 : bt p (i + 1) = 41) :
    Code.wp Tryd.prog patBody (Exit.then (fun a' w' => PI p B pc mp anch R W0 a' w' ∧ PMu p a' < PMu p ⟨#[.string p, u1, .pointer none, .pointer (some ⟨pc, 0, none⟩), .int .i64 i, vo, .map (some mp), u7, u8, u9, u10, u11, u12, u13, u14, u15, u16, u17, u18, u19, u20, u21, u22, u23, u24, u25, u26, u27, u28, u29, u30, u31, u32, u33, u34, u35, u36, u37, u38, u39, u40, u41, u42, u43, u44, u45, u46, u47, u48, u49, u50, u51, u52, u53, u54, u55, u56, u57, u58, u59, u60, u61, u62, u63, u64, u65, u66, u67, u68, u69, u70, u71, u72, u73, u74, u75, u76, u77, u78, u79, u80, u81, u82, u83, u84, u85, u86, u87, u88, u89, u90, u91, u92, u93, u94, u95, u96, u97, u98, u99, u100, u101, u102, u103, u104, u105, u106, u107, u108, u109, u110, u111, u112, u113, u114, u115, u116, u117, u118, u119, u120, u121, u122, u123, u124, u125, u126, u127, u128, u129, u130, u131, u132, u133, u134, u135, u136, u137, u138, u139, u140, u141, u142, u143, u144, u145, u146, u147, u148, u149, u150, u151, u152, u153, u154, u155, u156, u157, u158, u159, u160, u161, u162, u163, u164, u165, u166, u167, u168, u169, u170, u171, u172, u173, u174, u175, u176, u177, u178, u179, u180, u181, u182, u183, u184, u185, u186, u187, u188, u189, u190, u191, u192, u193, u194, u195, u196, u197, u198, u199, u200, u201, u202, u203, u204, u205, u206, u207, u208, u209, u210, u211, u212, u213, u214, u215, u216, u217, u218, u219, u220, u221, u222, u223, u224, u225, u226, u227, u228, u229, u230, u231, u232, u233, u234, u235, u236, u237, u238, u239, u240, u241, u242, u243, u244, u245, u246, u247, u248, u249, u250, u251, u252, u253, u254, u255, u256, u257, u258, u259, u260, u261, u262, u263, u264, u265, u266, u267, u268, u269, u270, u271, u272, u273, u274, u275, u276, u277, u278, u279, u280, u281, u282, u283, u284, u285, u286, u287, u288, u289, u290, u291, u292, u293, u294, u295, u296, u297, u298, u299, u300, u301, u302, u303, u304, u305, u306, u307, u308, u309, u310, u311, u312, u313, u314, u315, u316, u317, u318, u319, u320, u321, u322, u323, u324], []⟩) (Exit.inBlock 0 (Exit.then K0 (bodyPost Tryd.prog Tryd.f10 Po)))) ⟨#[.string p, u1, .pointer none, .pointer (some ⟨pc, 0, none⟩), .int .i64 i, vo, .map (some mp), u7, u8, u9, u10, u11, u12, u13, u14, u15, u16, u17, u18, u19, u20, u21, u22, u23, u24, u25, u26, u27, u28, u29, u30, u31, u32, u33, u34, u35, u36, u37, u38, u39, u40, u41, u42, u43, u44, u45, u46, u47, u48, u49, u50, u51, u52, u53, u54, u55, u56, u57, u58, u59, u60, u61, u62, u63, u64, u65, u66, u67, u68, u69, u70, u71, u72, u73, u74, u75, u76, u77, u78, u79, u80, u81, u82, u83, u84, u85, u86, u87, u88, u89, u90, u91, u92, u93, u94, u95, u96, u97, u98, u99, u100, u101, u102, u103, u104, u105, u106, u107, u108, u109, u110, u111, u112, u113, u114, u115, u116, u117, u118, u119, u120, u121, u122, u123, u124, u125, u126, u127, u128, u129, u130, u131, u132, u133, u134, u135, u136, u137, u138, u139, u140, u141, u142, u143, u144, u145, u146, u147, u148, u149, u150, u151, u152, u153, u154, u155, u156, u157, u158, u159, u160, u161, u162, u163, u164, u165, u166, u167, u168, u169, u170, u171, u172, u173, u174, u175, u176, u177, u178, u179, u180, u181, u182, u183, u184, u185, u186, u187, u188, u189, u190, u191, u192, u193, u194, u195, u196, u197, u198, u199, u200, u201, u202, u203, u204, u205, u206, u207, u208, u209, u210, u211, u212, u213, u214, u215, u216, u217, u218, u219, u220, u221, u222, u223, u224, u225, u226, u227, u228, u229, u230, u231, u232, u233, u234, u235, u236, u237, u238, u239, u240, u241, u242, u243, u244, u245, u246, u247, u248, u249, u250, u251, u252, u253, u254, u255, u256, u257, u258, u259, u260, u261, u262, u263, u264, u265, u266, u267, u268, u269, u270, u271, u272, u273, u274, u275, u276, u277, u278, u279, u280, u281, u282, u283, u284, u285, u286, u287, u288, u289, u290, u291, u292, u293, u294, u295, u296, u297, u298, u299, u300, u301, u302, u303, u304, u305, u306, u307, u308, u309, u310, u311, u312, u313, u314, u315, u316, u317, u318, u319, u320, u321, u322, u323, u324], []⟩ wr := by
  have hd : decide (i < p.size) = true := decide_eq_true hi
  have t1 := rest_dollar hi
  rw [decide_eq_false (fun h => by omega)] at t1
  have t2 : Go.Lib.hasPrefix (p.extract i p.size).data.toList (ByteArray.mk #[40, 41]).data.toList = true := rest_unit.trans (decide_eq_true ⟨h1, hc, hd1⟩)
  have hit : itemAt p ⟨i, done, opened⟩ = some ({ kind := 1, n := done.length }, ⟨i + 2, done ++ [true], opened⟩) := by
    unfold itemAt; simp only []
    rw [if_pos hc, if_pos ⟨decide_eq_true h1, hd1⟩]
  obtain ⟨gk', rfl⟩ : ∃ x, gk = x + 1 := ⟨gk - 1, by omega⟩
  have HR : Hid (R = itemsGo p gk' ⟨i + 2, done ++ [true], opened⟩ (its ++ [{ kind := 1, n := done.length }])) := hid (HG.out.trans (itemsGo_next hi hit))
  obtain ⟨n0, hn0, hP⟩ := hS.ps
  have hmem := hS.mem
  have hb1 := hS.b1
  have hb2 := hS.b2
  have hb3 := hS.b3
  dsimp only at hP hmem hb1 hb2 hb3
  have HM := hid hmem
  obtain ⟨av, cv, rfl⟩ := own_form hP.it
  have HP := hid hP
  have hB : B ≤ wr.heap.size := hP.lo
  have hlpc := blk_lt hP.blk
  obtain ⟨c0, c1, c2, f0, f1, f2⟩ := hP.blk.cells
  have HIT := hid hit
  clear hS hP hit HG hmem
  have hdl : done.length ≤ 200 := by omega
  have Hone : Hid (∀ u ∈ pItCells { kind := 1, n := done.length } 0, u.oneCell' = true) := hid (by simp [pItCells, kb, Value.oneCell'])
  have hm1 : its.length + 1 ≤ maxLen := by unfold maxLen; omega
  have hm2 : (its.length + 1) * 40 ≤ 140737488355328 := by omega
  have T2 := hid t2
  clear t2 hc hd1
  conv => arg 2; whnf
  go_wp2_with fail
  refine (pre_any _ _ _).mono ?_
  rintro e w' ⟨rfl, rfl⟩
  rw [T2.out]
  go_wp2_with fail
  go_region_law (refine step_append_new (W := wr.drew) (us := pItCells { kind := 1, n := done.length } 0) rfl (.tmp 57) (.tmp 63) 47 rfl 77 rfl (.agg #[.int .u8 0, .pointer none, .int .u8 0, .int .i64 0, .int .u8 0, .int .u8 0]) 6 40 Tryd.underlying47 info_pitem rfl (by decide) B (.slice av its.length cv) its.length (pCells its gs) (by first | simp [Act.eval] | simp [Act.eval, Act.put]) HP.out.drew.it (by first | simp [Act.eval] | simp [Act.eval, Act.put]) rfl Hone.out hm1 hm2 hB ?_; intro ao cap w4 ho6 hg6 hn6; have hb4 : PBlk w4 pc anch (.slice av its.length cv) done.length := (hg6.block pc hlpc (Ne.symm (own_ne_blk HP.out.it HP.out.blk (by decide)))).trans HP.out.blk; obtain ⟨d0, d1, d2, g0, g1, g2⟩ := hb4.cells)
  all_goals
    obtain ⟨hP2, hk2⟩ := HP.out.drew.push (m := its.length + 1) (it := { kind := 1, n := done.length }) (g := 0) rfl ho6 hg6 (fun h => by simp at h) hB
    have HP2 := hid hP2
    have HK2 := hid (hkk.trans ((Keeps.refl B [] wr).drew.trans hk2))
    clear ho6 hg6 hn6 hb4 c0 c1 c2 f0 f1 f2 hk2 hP2
    go_wp2_with (at_mapUpdate; go_must (refine wpList_done rfl _ _ _ rfl mp n0 done.length done (done ++ [true]) rfl rfl rfl HP2.out.dm (by omega) (by omega) getD_pushed (fun j hj => getD_push hj) ?_))
    intro w5 hd5 hg5
    obtain ⟨hP3, hk3⟩ := HP2.out.done_ hd5 hg5 HP2.out.lo
    clear d0 d1 d2 g0 g1 g2 hd5 hg5
    obtain ⟨d0, d1, d2, g0, g1, g2⟩ := hP3.blk.cells
    obtain ⟨hP4, hk4⟩ := hP3.caps_ (x := (done.length : Int) + 1) (caps' := done.length + 1) (by omega)
    have HP4 := hid hP4
    have HK4 := hid (HK2.out.trans (hk3.trans hk4))
    clear hP3 hk3 hP4 hk4
    go_wp2_with fail
    refine ⟨PI_mk (i := i + 2) ⟨⟨i + 2, done ++ [true], opened⟩, _, _, _, gk', rfl, PS.pr (n := n0 + 1) (by simpa using HP4.out) (by simp; omega) (fun m hm => by have := HM.out m hm; simp; omega) (by simp; omega) (by simp; omega) (by simp; omega), by dsimp only; omega, by simp; omega, HR.out, HK4.out⟩ (by simp), PMu_lt (i := i) (j := i + 2) rfl (by simp) (by omega) hi⟩
end Go.Proofs.YtpinoolagbghnaaDoor

namespace Go.Proofs.YtpinoolagbghnaaDoor
set_option linter.unusedVariables false
open Go.RowKit Go.Maps Pat

set_option maxRecDepth 1000000 in
set_option maxHeartbeats 4000000 in
theorem pat_open {p : ByteArray} {B pc mp : Nat} {anch : Bool} {R : Option (List It × Rd)} {W0 wr : World} {i gk : Nat} {done : List Bool} {opened : List Nat} {its : List It} {gs : List Nat} {vi vo : Value} {K0 : Act → World → Prop} {Po : Ending → World → Prop} {u1 u7 u8 u9 u10 u11 u12 u13 u14 u15 u16 u17 u18 u19 u20 u21 u22 u23 u24 u25 u26 u27 u28 u29 u30 u31 u32 u33 u34 u35 u36 u37 u38 u39 u40 u41 u42 u43 u44 u45 u46 u47 u48 u49 u50 u51 u52 u53 u54 u55 u56 u57 u58 u59 u60 u61 u62 u63 u64 u65 u66 u67 u68 u69 u70 u71 u72 u73 u74 u75 u76 u77 u78 u79 u80 u81 u82 u83 u84 u85 u86 u87 u88 u89 u90 u91 u92 u93 u94 u95 u96 u97 u98 u99 u100 u101 u102 u103 u104 u105 u106 u107 u108 u109 u110 u111 u112 u113 u114 u115 u116 u117 u118 u119 u120 u121 u122 u123 u124 u125 u126 u127 u128 u129 u130 u131 u132 u133 u134 u135 u136 u137 u138 u139 u140 u141 u142 u143 u144 u145 u146 u147 u148 u149 u150 u151 u152 u153 u154 u155 u156 u157 u158 u159 u160 u161 u162 u163 u164 u165 u166 u167 u168 u169 u170 u171 u172 u173 u174 u175 u176 u177 u178 u179 u180 u181 u182 u183 u184 u185 u186 u187 u188 u189 u190 u191 u192 u193 u194 u195 u196 u197 u198 u199 u200 u201 u202 u203 u204 u205 u206 u207 u208 u209 u210 u211 u212 u213 u214 u215 u216 u217 u218 u219 u220 u221 u222 u223 u224 u225 u226 u227 u228 u229 u230 u231 u232 u233 u234 u235 u236 u237 u238 u239 u240 u241 u242 u243 u244 u245 u246 u247 u248 u249 u250 u251 u252 u253 u254 u255 u256 u257 u258 u259 u260 u261 u262 u263 u264 u265 u266 u267 u268 u269 u270 u271 u272 u273 u274 u275 u276 u277 u278 u279 u280 u281 u282 u283 u284 u285 u286 u287 u288 u289 u290 u291 u292 u293 u294 u295 u296 u297 u298 u299 u300 u301 u302 u303 u304 u305 u306 u307 u308 u309 u310 u311 u312 u313 u314 u315 u316 u317 u318 u319 u320 u321 u322 u323 u324 : Value}
    (hp : p.size ≤ 200) (hS : PR B p pc mp anch ⟨i, done, opened⟩ its gs vi vo wr) (hgk : p.size ≤ i + gk) (hlp : its.length ≤ p.size) (HG : Hid (R = itemsGo p gk ⟨i, done, opened⟩ its)) (hkk : Keeps B [] W0 wr)
    (hret : ∀ w' : World, R = none → Keeps B [] W0 w' → Po (.returned (.pointer none)) w') (hi : i < p.size) (hc : bt p i = 40) (h1 : ¬ (i + 1 < p.size ∧ bt p (i + 1) = 41)) :
    Code.wp Tryd.prog patBody (Exit.then (fun a' w' => PI p B pc mp anch R W0 a' w' ∧ PMu p a' < PMu p ⟨#[.string p, u1, .pointer none, .pointer (some ⟨pc, 0, none⟩), .int .i64 i, vo, .map (some mp), u7, u8, u9, u10, u11, u12, u13, u14, u15, u16, u17, u18, u19, u20, u21, u22, u23, u24, u25, u26, u27, u28, u29, u30, u31, u32, u33, u34, u35, u36, u37, u38, u39, u40, u41, u42, u43, u44, u45, u46, u47, u48, u49, u50, u51, u52, u53, u54, u55, u56, u57, u58, u59, u60, u61, u62, u63, u64, u65, u66, u67, u68, u69, u70, u71, u72, u73, u74, u75, u76, u77, u78, u79, u80, u81, u82, u83, u84, u85, u86, u87, u88, u89, u90, u91, u92, u93, u94, u95, u96, u97, u98, u99, u100, u101, u102, u103, u104, u105, u106, u107, u108, u109, u110, u111, u112, u113, u114, u115, u116, u117, u118, u119, u120, u121, u122, u123, u124, u125, u126, u127, u128, u129, u130, u131, u132, u133, u134, u135, u136, u137, u138, u139, u140, u141, u142, u143, u144, u145, u146, u147, u148, u149, u150, u151, u152, u153, u154, u155, u156, u157, u158, u159, u160, u161, u162, u163, u164, u165, u166, u167, u168, u169, u170, u171, u172, u173, u174, u175, u176, u177, u178, u179, u180, u181, u182, u183, u184, u185, u186, u187, u188, u189, u190, u191, u192, u193, u194, u195, u196, u197, u198, u199, u200, u201, u202, u203, u204, u205, u206, u207, u208, u209, u210, u211, u212, u213, u214, u215, u216, u217, u218, u219, u220, u221, u222, u223, u224, u225, u226, u227, u228, u229, u230, u231, u232, u233, u234, u235, u236, u237, u238, u239, u240, u241, u242, u243, u244, u245, u246, u247, u248, u249, u250, u251, u252, u253, u254, u255, u256, u257, u258, u259, u260, u261, u262, u263, u264, u265, u266, u267, u268, u269, u270, u271, u272, u273, u274, u275, u276, u277, u278, u279, u280, u281, u282, u283, u284, u285, u286, u287, u288, u289, u290, u291, u292, u293, u294, u295, u296, u297, u298, u299, u300, u301, u302, u303, u304, u305, u306, u307, u308, u309, u310, u311, u312, u313, u314, u315, u316, u317, u318, u319, u320, u321, u322, u323, u324], []⟩) (Exit.inBlock 0 (Exit.then K0 (bodyPost Tryd.prog Tryd.f10 Po)))) ⟨#[.string p, u1, .pointer none, .pointer (some ⟨pc, 0, none⟩), .int .i64 i, vo, .map (some mp), u7, u8, u9, u10, u11, u12, u13, u14, u15, u16, u17, u18, u19, u20, u21, u22, u23, u24, u25, u26, u27, u28, u29, u30, u31, u32, u33, u34, u35, u36, u37, u38, u39, u40, u41, u42, u43, u44, u45, u46, u47, u48, u49, u50, u51, u52, u53, u54, u55, u56, u57, u58, u59, u60, u61, u62, u63, u64, u65, u66, u67, u68, u69, u70, u71, u72, u73, u74, u75, u76, u77, u78, u79, u80, u81, u82, u83, u84, u85, u86, u87, u88, u89, u90, u91, u92, u93, u94, u95, u96, u97, u98, u99, u100, u101, u102, u103, u104, u105, u106, u107, u108, u109, u110, u111, u112, u113, u114, u115, u116, u117, u118, u119, u120, u121, u122, u123, u124, u125, u126, u127, u128, u129, u130, u131, u132, u133, u134, u135, u136, u137, u138, u139, u140, u141, u142, u143, u144, u145, u146, u147, u148, u149, u150, u151, u152, u153, u154, u155, u156, u157, u158, u159, u160, u161, u162, u163, u164, u165, u166, u167, u168, u169, u170, u171, u172, u173, u174, u175, u176, u177, u178, u179, u180, u181, u182, u183, u184, u185, u186, u187, u188, u189, u190, u191, u192, u193, u194, u195, u196, u197, u198, u199, u200, u201, u202, u203, u204, u205, u206, u207, u208, u209, u210, u211, u212, u213, u214, u215, u216, u217, u218, u219, u220, u221, u222, u223, u224, u225, u226, u227, u228, u229, u230, u231, u232, u233, u234, u235, u236, u237, u238, u239, u240, u241, u242, u243, u244, u245, u246, u247, u248, u249, u250, u251, u252, u253, u254, u255, u256, u257, u258, u259, u260, u261, u262, u263, u264, u265, u266, u267, u268, u269, u270, u271, u272, u273, u274, u275, u276, u277, u278, u279, u280, u281, u282, u283, u284, u285, u286, u287, u288, u289, u290, u291, u292, u293, u294, u295, u296, u297, u298, u299, u300, u301, u302, u303, u304, u305, u306, u307, u308, u309, u310, u311, u312, u313, u314, u315, u316, u317, u318, u319, u320, u321, u322, u323, u324], []⟩ wr := by
  have hd : decide (i < p.size) = true := decide_eq_true hi
  have t1 := rest_dollar hi
  rw [decide_eq_false (by omega)] at t1
  have t2 : Go.Lib.hasPrefix (p.extract i p.size).data.toList (ByteArray.mk #[40, 41]).data.toList = false := rest_unit.trans (decide_eq_false (fun h => h1 ⟨h.1, h.2.2⟩))
  have T2 := hid t2
  clear t2
  have hrs : 0 < p.size - i := by omega
  have hrs2 : 0 < (p.extract i p.size).size := by simp; omega
  have e0 : ∀ h : 0 < (p.extract i p.size).size, (((p.extract i p.size)[0]'h).toNat : Int) = bt p i := fun h => (rest_at h).trans (by rw [Nat.add_zero])
  have c40 : (bt p i == 40) = true := by simpa using hc
  have hit : itemAt p ⟨i, done, opened⟩ = some ({ kind := 2, n := done.length }, ⟨i + 1, done ++ [false], done.length :: opened⟩) := by
    unfold itemAt; simp only []
    rw [if_pos hc, if_neg (by simpa using h1)]
  obtain ⟨gk', rfl⟩ : ∃ x, gk = x + 1 := ⟨gk - 1, by omega⟩
  have HR : Hid (R = itemsGo p gk' ⟨i + 1, done ++ [false], done.length :: opened⟩ (its ++ [{ kind := 2, n := done.length }])) := hid (HG.out.trans (itemsGo_next hi hit))
  obtain ⟨n0, hn0, hP⟩ := hS.ps
  have hmem := hS.mem
  have hb1 := hS.b1
  have hb2 := hS.b2
  have hb3 := hS.b3
  dsimp only at hP hmem hb1 hb2 hb3
  have HM := hid hmem
  obtain ⟨av, cv, rfl⟩ := own_form hP.it
  have HP := hid hP
  have hB : B ≤ wr.heap.size := hP.lo
  have hlpc := blk_lt hP.blk
  obtain ⟨c0, c1, c2, f0, f1, f2⟩ := hP.blk.cells
  have HIT := hid hit
  clear hS hP hit HG hmem
  have hdl : done.length ≤ 200 := by omega
  have Hone : Hid (∀ u ∈ pItCells { kind := 2, n := done.length } 0, u.oneCell' = true) := hid (by simp [pItCells, kb, Value.oneCell'])
  have hm1 : its.length + 1 ≤ maxLen := by unfold maxLen; omega
  have hm2 : (its.length + 1) * 40 ≤ 140737488355328 := by omega
  obtain ⟨ov, oc, hvo⟩ := own_form HP.out.op
  subst hvo
  clear hc h1
  conv => arg 2; whnf
  go_wp2_with fail
  refine (pre_any _ _ _).mono ?_
  rintro e w' ⟨rfl, rfl⟩
  rw [T2.out]
  go_wp2_with fail
  go_region_law (refine step_append_new (W := wr.drew) (us := pItCells { kind := 2, n := done.length } 0) rfl (.tmp 89) (.tmp 95) 47 rfl 77 rfl (.agg #[.int .u8 0, .pointer none, .int .u8 0, .int .i64 0, .int .u8 0, .int .u8 0]) 6 40 Tryd.underlying47 info_pitem rfl (by decide) B (.slice av its.length cv) its.length (pCells its gs) (by first | simp [Act.eval] | simp [Act.eval, Act.put]) HP.out.drew.it (by first | simp [Act.eval] | simp [Act.eval, Act.put]) rfl Hone.out hm1 hm2 hB ?_; intro ao cap w4 ho6 hg6 hn6; have hb4 : PBlk w4 pc anch (.slice av its.length cv) done.length := (hg6.block pc hlpc (Ne.symm (own_ne_blk HP.out.it HP.out.blk (by decide)))).trans HP.out.blk; obtain ⟨d0, d1, d2, g0, g1, g2⟩ := hb4.cells)
  all_goals
    obtain ⟨hP2, hk2⟩ := HP.out.drew.push (m := its.length + 1) (it := { kind := 2, n := done.length }) (g := 0) rfl ho6 hg6 (fun h => by simp at h) hB
    have HP2 := hid hP2
    have HK2 := hid (hkk.trans ((Keeps.refl B [] wr).drew.trans hk2))
    clear ho6 hg6 hn6 hb4 c0 c1 c2 f0 f1 f2 hk2 hP2
    go_wp2_with (at_builtin; go_must (refine append_newS (us := [.int .i64 (done.length : Int)]) rfl _ _ 37 rfl 3 rfl (.int .i64 0) 1 8 Tryd.underlying37 info_int rfl (by decide) B _ opened.length _ rfl HP2.out.op _ rfl (by simp) rfl (by simp [Value.oneCell']) (by unfold maxLen; omega) (by omega) HP2.out.lo ?_))
    intro ao2 cap2 w5 ho7 hg7 hn7
    obtain ⟨hP3, hk3⟩ := HP2.out.opn (m := opened.length + 1) (k := done.length) rfl (by rw [List.map_reverse]; exact ho7) hg7 HP2.out.lo
    clear d0 d1 d2 g0 g1 g2 ho7 hg7 hn7
    obtain ⟨d0, d1, d2, g0, g1, g2⟩ := hP3.blk.cells
    obtain ⟨hP4, hk4⟩ := hP3.caps_ (x := (done.length : Int) + 1) (caps' := done.length + 1) (by omega)
    have HP4 := hid ({ hP4 with dm := hP4.dm.open_ } : PS B pc mp anch (done.length + 1) n0 (done ++ [false]) _ _ _ _ _ _)
    have HK4 := hid (HK2.out.trans (hk3.trans hk4))
    clear hP3 hk3 hP4 hk4
    go_wp2_with fail
    refine ⟨PI_mk (i := i + 1) ⟨⟨i + 1, done ++ [false], done.length :: opened⟩, _, _, _, gk', rfl, PS.pr (n := n0) (by simpa using HP4.out) (by simp; omega) (fun x hx => by
      simp only [List.mem_cons] at hx
      rcases hx with rfl | hx
      · simp
      · have := HM.out x hx
        simp
        omega) (by simp; omega) (by simp; omega) (by simp; omega), by dsimp only; omega, by simp; omega, HR.out, HK4.out⟩ (by simp), PMu_lt (i := i) (j := i + 1) rfl (by simp) (by omega) hi⟩
end Go.Proofs.YtpinoolagbghnaaDoor

namespace Go.Proofs.YtpinoolagbghnaaDoor
set_option linter.unusedVariables false
open Go.RowKit Go.Maps Pat

set_option maxRecDepth 1000000 in
set_option maxHeartbeats 4000000 in
theorem pat_shut0 {p : ByteArray} {B pc mp : Nat} {anch : Bool} {R : Option (List It × Rd)} {W0 wr : World} {i gk : Nat} {done : List Bool} {opened : List Nat} {its : List It} {gs : List Nat} {vi vo : Value} {K0 : Act → World → Prop} {Po : Ending → World → Prop} {u1 u7 u8 u9 u10 u11 u12 u13 u14 u15 u16 u17 u18 u19 u20 u21 u22 u23 u24 u25 u26 u27 u28 u29 u30 u31 u32 u33 u34 u35 u36 u37 u38 u39 u40 u41 u42 u43 u44 u45 u46 u47 u48 u49 u50 u51 u52 u53 u54 u55 u56 u57 u58 u59 u60 u61 u62 u63 u64 u65 u66 u67 u68 u69 u70 u71 u72 u73 u74 u75 u76 u77 u78 u79 u80 u81 u82 u83 u84 u85 u86 u87 u88 u89 u90 u91 u92 u93 u94 u95 u96 u97 u98 u99 u100 u101 u102 u103 u104 u105 u106 u107 u108 u109 u110 u111 u112 u113 u114 u115 u116 u117 u118 u119 u120 u121 u122 u123 u124 u125 u126 u127 u128 u129 u130 u131 u132 u133 u134 u135 u136 u137 u138 u139 u140 u141 u142 u143 u144 u145 u146 u147 u148 u149 u150 u151 u152 u153 u154 u155 u156 u157 u158 u159 u160 u161 u162 u163 u164 u165 u166 u167 u168 u169 u170 u171 u172 u173 u174 u175 u176 u177 u178 u179 u180 u181 u182 u183 u184 u185 u186 u187 u188 u189 u190 u191 u192 u193 u194 u195 u196 u197 u198 u199 u200 u201 u202 u203 u204 u205 u206 u207 u208 u209 u210 u211 u212 u213 u214 u215 u216 u217 u218 u219 u220 u221 u222 u223 u224 u225 u226 u227 u228 u229 u230 u231 u232 u233 u234 u235 u236 u237 u238 u239 u240 u241 u242 u243 u244 u245 u246 u247 u248 u249 u250 u251 u252 u253 u254 u255 u256 u257 u258 u259 u260 u261 u262 u263 u264 u265 u266 u267 u268 u269 u270 u271 u272 u273 u274 u275 u276 u277 u278 u279 u280 u281 u282 u283 u284 u285 u286 u287 u288 u289 u290 u291 u292 u293 u294 u295 u296 u297 u298 u299 u300 u301 u302 u303 u304 u305 u306 u307 u308 u309 u310 u311 u312 u313 u314 u315 u316 u317 u318 u319 u320 u321 u322 u323 u324 : Value}
    (hp : p.size ≤ 200) (hS : PR B p pc mp anch ⟨i, done, opened⟩ its gs vi vo wr) (hgk : p.size ≤ i + gk) (hlp : its.length ≤ p.size) (HG : Hid (R = itemsGo p gk ⟨i, done, opened⟩ its)) (hkk : Keeps B [] W0 wr)
    (hret : ∀ w' : World, R = none → Keeps B [] W0 w' → Po (.returned (.pointer none)) w') (hi : i < p.size) (hc : bt p i = 41) (ho : opened = []) :
    Code.wp Tryd.prog patBody (Exit.then (fun a' w' => PI p B pc mp anch R W0 a' w' ∧ PMu p a' < PMu p ⟨#[.string p, u1, .pointer none, .pointer (some ⟨pc, 0, none⟩), .int .i64 i, vo, .map (some mp), u7, u8, u9, u10, u11, u12, u13, u14, u15, u16, u17, u18, u19, u20, u21, u22, u23, u24, u25, u26, u27, u28, u29, u30, u31, u32, u33, u34, u35, u36, u37, u38, u39, u40, u41, u42, u43, u44, u45, u46, u47, u48, u49, u50, u51, u52, u53, u54, u55, u56, u57, u58, u59, u60, u61, u62, u63, u64, u65, u66, u67, u68, u69, u70, u71, u72, u73, u74, u75, u76, u77, u78, u79, u80, u81, u82, u83, u84, u85, u86, u87, u88, u89, u90, u91, u92, u93, u94, u95, u96, u97, u98, u99, u100, u101, u102, u103, u104, u105, u106, u107, u108, u109, u110, u111, u112, u113, u114, u115, u116, u117, u118, u119, u120, u121, u122, u123, u124, u125, u126, u127, u128, u129, u130, u131, u132, u133, u134, u135, u136, u137, u138, u139, u140, u141, u142, u143, u144, u145, u146, u147, u148, u149, u150, u151, u152, u153, u154, u155, u156, u157, u158, u159, u160, u161, u162, u163, u164, u165, u166, u167, u168, u169, u170, u171, u172, u173, u174, u175, u176, u177, u178, u179, u180, u181, u182, u183, u184, u185, u186, u187, u188, u189, u190, u191, u192, u193, u194, u195, u196, u197, u198, u199, u200, u201, u202, u203, u204, u205, u206, u207, u208, u209, u210, u211, u212, u213, u214, u215, u216, u217, u218, u219, u220, u221, u222, u223, u224, u225, u226, u227, u228, u229, u230, u231, u232, u233, u234, u235, u236, u237, u238, u239, u240, u241, u242, u243, u244, u245, u246, u247, u248, u249, u250, u251, u252, u253, u254, u255, u256, u257, u258, u259, u260, u261, u262, u263, u264, u265, u266, u267, u268, u269, u270, u271, u272, u273, u274, u275, u276, u277, u278, u279, u280, u281, u282, u283, u284, u285, u286, u287, u288, u289, u290, u291, u292, u293, u294, u295, u296, u297, u298, u299, u300, u301, u302, u303, u304, u305, u306, u307, u308, u309, u310, u311, u312, u313, u314, u315, u316, u317, u318, u319, u320, u321, u322, u323, u324], []⟩) (Exit.inBlock 0 (Exit.then K0 (bodyPost Tryd.prog Tryd.f10 Po)))) ⟨#[.string p, u1, .pointer none, .pointer (some ⟨pc, 0, none⟩), .int .i64 i, vo, .map (some mp), u7, u8, u9, u10, u11, u12, u13, u14, u15, u16, u17, u18, u19, u20, u21, u22, u23, u24, u25, u26, u27, u28, u29, u30, u31, u32, u33, u34, u35, u36, u37, u38, u39, u40, u41, u42, u43, u44, u45, u46, u47, u48, u49, u50, u51, u52, u53, u54, u55, u56, u57, u58, u59, u60, u61, u62, u63, u64, u65, u66, u67, u68, u69, u70, u71, u72, u73, u74, u75, u76, u77, u78, u79, u80, u81, u82, u83, u84, u85, u86, u87, u88, u89, u90, u91, u92, u93, u94, u95, u96, u97, u98, u99, u100, u101, u102, u103, u104, u105, u106, u107, u108, u109, u110, u111, u112, u113, u114, u115, u116, u117, u118, u119, u120, u121, u122, u123, u124, u125, u126, u127, u128, u129, u130, u131, u132, u133, u134, u135, u136, u137, u138, u139, u140, u141, u142, u143, u144, u145, u146, u147, u148, u149, u150, u151, u152, u153, u154, u155, u156, u157, u158, u159, u160, u161, u162, u163, u164, u165, u166, u167, u168, u169, u170, u171, u172, u173, u174, u175, u176, u177, u178, u179, u180, u181, u182, u183, u184, u185, u186, u187, u188, u189, u190, u191, u192, u193, u194, u195, u196, u197, u198, u199, u200, u201, u202, u203, u204, u205, u206, u207, u208, u209, u210, u211, u212, u213, u214, u215, u216, u217, u218, u219, u220, u221, u222, u223, u224, u225, u226, u227, u228, u229, u230, u231, u232, u233, u234, u235, u236, u237, u238, u239, u240, u241, u242, u243, u244, u245, u246, u247, u248, u249, u250, u251, u252, u253, u254, u255, u256, u257, u258, u259, u260, u261, u262, u263, u264, u265, u266, u267, u268, u269, u270, u271, u272, u273, u274, u275, u276, u277, u278, u279, u280, u281, u282, u283, u284, u285, u286, u287, u288, u289, u290, u291, u292, u293, u294, u295, u296, u297, u298, u299, u300, u301, u302, u303, u304, u305, u306, u307, u308, u309, u310, u311, u312, u313, u314, u315, u316, u317, u318, u319, u320, u321, u322, u323, u324], []⟩ wr := by
  have hd : decide (i < p.size) = true := decide_eq_true hi
  have t1 := rest_dollar hi
  rw [decide_eq_false (by omega)] at t1
  have t2 : Go.Lib.hasPrefix (p.extract i p.size).data.toList (ByteArray.mk #[40, 41]).data.toList = false := rest_unit.trans (decide_eq_false (fun h => by omega))
  have T2 := hid t2
  clear t2
  have hrs : 0 < p.size - i := by omega
  have hrs2 : 0 < (p.extract i p.size).size := by simp; omega
  have e0 : ∀ h : 0 < (p.extract i p.size).size, (((p.extract i p.size)[0]'h).toNat : Int) = bt p i := fun h => (rest_at h).trans (by rw [Nat.add_zero])
  have c40 : (bt p i == 40) = false := by rw [hc]; rfl
  have c41 : (bt p i == 41) = true := by simpa using hc
  have hit : itemAt p ⟨i, done, opened⟩ = none := by
    subst ho
    unfold itemAt; simp only []
    rw [if_neg (by omega), if_pos hc]
  obtain ⟨gk', rfl⟩ : ∃ x, gk = x + 1 := ⟨gk - 1, by omega⟩
  have HR : Hid (R = none) := hid (HG.out.trans (itemsGo_bad hi hit))
  clear HG hit
  obtain ⟨ov, oc, hvo⟩ := own_form hS.op
  subst hvo
  have hol : opened.length = 0 := by rw [ho]; rfl
  clear hc ho
  conv => arg 2; whnf
  go_wp2_with fail
  refine (pre_any _ _ _).mono ?_
  rintro e w' ⟨rfl, rfl⟩
  rw [T2.out]
  go_wp2_with fail
  exact hret _ HR.out hkk

set_option maxRecDepth 1000000 in
set_option maxHeartbeats 4000000 in
theorem pat_shut {p : ByteArray} {B pc mp : Nat} {anch : Bool} {R : Option (List It × Rd)} {W0 wr : World} {i gk : Nat} {done : List Bool} {opened : List Nat} {its : List It} {gs : List Nat} {vi vo : Value} {K0 : Act → World → Prop} {Po : Ending → World → Prop} {u1 u7 u8 u9 u10 u11 u12 u13 u14 u15 u16 u17 u18 u19 u20 u21 u22 u23 u24 u25 u26 u27 u28 u29 u30 u31 u32 u33 u34 u35 u36 u37 u38 u39 u40 u41 u42 u43 u44 u45 u46 u47 u48 u49 u50 u51 u52 u53 u54 u55 u56 u57 u58 u59 u60 u61 u62 u63 u64 u65 u66 u67 u68 u69 u70 u71 u72 u73 u74 u75 u76 u77 u78 u79 u80 u81 u82 u83 u84 u85 u86 u87 u88 u89 u90 u91 u92 u93 u94 u95 u96 u97 u98 u99 u100 u101 u102 u103 u104 u105 u106 u107 u108 u109 u110 u111 u112 u113 u114 u115 u116 u117 u118 u119 u120 u121 u122 u123 u124 u125 u126 u127 u128 u129 u130 u131 u132 u133 u134 u135 u136 u137 u138 u139 u140 u141 u142 u143 u144 u145 u146 u147 u148 u149 u150 u151 u152 u153 u154 u155 u156 u157 u158 u159 u160 u161 u162 u163 u164 u165 u166 u167 u168 u169 u170 u171 u172 u173 u174 u175 u176 u177 u178 u179 u180 u181 u182 u183 u184 u185 u186 u187 u188 u189 u190 u191 u192 u193 u194 u195 u196 u197 u198 u199 u200 u201 u202 u203 u204 u205 u206 u207 u208 u209 u210 u211 u212 u213 u214 u215 u216 u217 u218 u219 u220 u221 u222 u223 u224 u225 u226 u227 u228 u229 u230 u231 u232 u233 u234 u235 u236 u237 u238 u239 u240 u241 u242 u243 u244 u245 u246 u247 u248 u249 u250 u251 u252 u253 u254 u255 u256 u257 u258 u259 u260 u261 u262 u263 u264 u265 u266 u267 u268 u269 u270 u271 u272 u273 u274 u275 u276 u277 u278 u279 u280 u281 u282 u283 u284 u285 u286 u287 u288 u289 u290 u291 u292 u293 u294 u295 u296 u297 u298 u299 u300 u301 u302 u303 u304 u305 u306 u307 u308 u309 u310 u311 u312 u313 u314 u315 u316 u317 u318 u319 u320 u321 u322 u323 u324 : Value}
    (hp : p.size ≤ 200) (hS : PR B p pc mp anch ⟨i, done, opened⟩ its gs vi vo wr) (hgk : p.size ≤ i + gk) (hlp : its.length ≤ p.size) (HG : Hid (R = itemsGo p gk ⟨i, done, opened⟩ its)) (hkk : Keeps B [] W0 wr)
    (hret : ∀ w' : World, R = none → Keeps B [] W0 w' → Po (.returned (.pointer none)) w') {m : Nat} {rest : List Nat} (hi : i < p.size) (hc : bt p i = 41) (ho : opened = m :: rest) :
    Code.wp Tryd.prog patBody (Exit.then (fun a' w' => PI p B pc mp anch R W0 a' w' ∧ PMu p a' < PMu p ⟨#[.string p, u1, .pointer none, .pointer (some ⟨pc, 0, none⟩), .int .i64 i, vo, .map (some mp), u7, u8, u9, u10, u11, u12, u13, u14, u15, u16, u17, u18, u19, u20, u21, u22, u23, u24, u25, u26, u27, u28, u29, u30, u31, u32, u33, u34, u35, u36, u37, u38, u39, u40, u41, u42, u43, u44, u45, u46, u47, u48, u49, u50, u51, u52, u53, u54, u55, u56, u57, u58, u59, u60, u61, u62, u63, u64, u65, u66, u67, u68, u69, u70, u71, u72, u73, u74, u75, u76, u77, u78, u79, u80, u81, u82, u83, u84, u85, u86, u87, u88, u89, u90, u91, u92, u93, u94, u95, u96, u97, u98, u99, u100, u101, u102, u103, u104, u105, u106, u107, u108, u109, u110, u111, u112, u113, u114, u115, u116, u117, u118, u119, u120, u121, u122, u123, u124, u125, u126, u127, u128, u129, u130, u131, u132, u133, u134, u135, u136, u137, u138, u139, u140, u141, u142, u143, u144, u145, u146, u147, u148, u149, u150, u151, u152, u153, u154, u155, u156, u157, u158, u159, u160, u161, u162, u163, u164, u165, u166, u167, u168, u169, u170, u171, u172, u173, u174, u175, u176, u177, u178, u179, u180, u181, u182, u183, u184, u185, u186, u187, u188, u189, u190, u191, u192, u193, u194, u195, u196, u197, u198, u199, u200, u201, u202, u203, u204, u205, u206, u207, u208, u209, u210, u211, u212, u213, u214, u215, u216, u217, u218, u219, u220, u221, u222, u223, u224, u225, u226, u227, u228, u229, u230, u231, u232, u233, u234, u235, u236, u237, u238, u239, u240, u241, u242, u243, u244, u245, u246, u247, u248, u249, u250, u251, u252, u253, u254, u255, u256, u257, u258, u259, u260, u261, u262, u263, u264, u265, u266, u267, u268, u269, u270, u271, u272, u273, u274, u275, u276, u277, u278, u279, u280, u281, u282, u283, u284, u285, u286, u287, u288, u289, u290, u291, u292, u293, u294, u295, u296, u297, u298, u299, u300, u301, u302, u303, u304, u305, u306, u307, u308, u309, u310, u311, u312, u313, u314, u315, u316, u317, u318, u319, u320, u321, u322, u323, u324], []⟩) (Exit.inBlock 0 (Exit.then K0 (bodyPost Tryd.prog Tryd.f10 Po)))) ⟨#[.string p, u1, .pointer none, .pointer (some ⟨pc, 0, none⟩), .int .i64 i, vo, .map (some mp), u7, u8, u9, u10, u11, u12, u13, u14, u15, u16, u17, u18, u19, u20, u21, u22, u23, u24, u25, u26, u27, u28, u29, u30, u31, u32, u33, u34, u35, u36, u37, u38, u39, u40, u41, u42, u43, u44, u45, u46, u47, u48, u49, u50, u51, u52, u53, u54, u55, u56, u57, u58, u59, u60, u61, u62, u63, u64, u65, u66, u67, u68, u69, u70, u71, u72, u73, u74, u75, u76, u77, u78, u79, u80, u81, u82, u83, u84, u85, u86, u87, u88, u89, u90, u91, u92, u93, u94, u95, u96, u97, u98, u99, u100, u101, u102, u103, u104, u105, u106, u107, u108, u109, u110, u111, u112, u113, u114, u115, u116, u117, u118, u119, u120, u121, u122, u123, u124, u125, u126, u127, u128, u129, u130, u131, u132, u133, u134, u135, u136, u137, u138, u139, u140, u141, u142, u143, u144, u145, u146, u147, u148, u149, u150, u151, u152, u153, u154, u155, u156, u157, u158, u159, u160, u161, u162, u163, u164, u165, u166, u167, u168, u169, u170, u171, u172, u173, u174, u175, u176, u177, u178, u179, u180, u181, u182, u183, u184, u185, u186, u187, u188, u189, u190, u191, u192, u193, u194, u195, u196, u197, u198, u199, u200, u201, u202, u203, u204, u205, u206, u207, u208, u209, u210, u211, u212, u213, u214, u215, u216, u217, u218, u219, u220, u221, u222, u223, u224, u225, u226, u227, u228, u229, u230, u231, u232, u233, u234, u235, u236, u237, u238, u239, u240, u241, u242, u243, u244, u245, u246, u247, u248, u249, u250, u251, u252, u253, u254, u255, u256, u257, u258, u259, u260, u261, u262, u263, u264, u265, u266, u267, u268, u269, u270, u271, u272, u273, u274, u275, u276, u277, u278, u279, u280, u281, u282, u283, u284, u285, u286, u287, u288, u289, u290, u291, u292, u293, u294, u295, u296, u297, u298, u299, u300, u301, u302, u303, u304, u305, u306, u307, u308, u309, u310, u311, u312, u313, u314, u315, u316, u317, u318, u319, u320, u321, u322, u323, u324], []⟩ wr := by
  subst ho
  have hd : decide (i < p.size) = true := decide_eq_true hi
  have t1 := rest_dollar hi
  rw [decide_eq_false (by omega)] at t1
  have t2 : Go.Lib.hasPrefix (p.extract i p.size).data.toList (ByteArray.mk #[40, 41]).data.toList = false := rest_unit.trans (decide_eq_false (fun h => by omega))
  have T2 := hid t2
  clear t2
  have hrs : 0 < p.size - i := by omega
  have hrs2 : 0 < (p.extract i p.size).size := by simp; omega
  have e0 : ∀ h : 0 < (p.extract i p.size).size, (((p.extract i p.size)[0]'h).toNat : Int) = bt p i := fun h => (rest_at h).trans (by rw [Nat.add_zero])
  have c40 : (bt p i == 40) = false := by rw [hc]; rfl
  have c41 : (bt p i == 41) = true := by simpa using hc
  have hit : itemAt p ⟨i, done, m :: rest⟩ = some ({ kind := 3, n := m }, ⟨i + 1, done.set m true, rest⟩) := by
    unfold itemAt; simp only []
    rw [if_neg (by omega), if_pos hc]
  obtain ⟨gk', rfl⟩ : ∃ x, gk = x + 1 := ⟨gk - 1, by omega⟩
  have HR : Hid (R = itemsGo p gk' ⟨i + 1, done.set m true, rest⟩ (its ++ [{ kind := 3, n := m }])) := hid (HG.out.trans (itemsGo_next hi hit))
  obtain ⟨n0, hn0, hP⟩ := hS.ps
  have hmem := hS.mem
  have hb1 := hS.b1
  have hb2 := hS.b2
  have hb3 := hS.b3
  dsimp only at hP hmem hb1 hb2 hb3
  have HM := hid hmem
  obtain ⟨av, cv, rfl⟩ := own_form hP.it
  have HP := hid hP
  have hB : B ≤ wr.heap.size := hP.lo
  have hlpc := blk_lt hP.blk
  obtain ⟨c0, c1, c2, f0, f1, f2⟩ := hP.blk.cells
  have HIT := hid hit
  clear hS hP hit HG hmem
  have hdl : done.length ≤ 200 := by omega
  have hm : m < done.length := HM.out m (by simp)
  have hb3' : rest.length + 1 ≤ i := by simpa using hb3
  have hrl : rest.length + 1 ≤ 200 := by omega
  obtain ⟨go, oc, hoc, rfl⟩ : ∃ go oc, rest.length + 1 ≤ oc ∧ vo = .slice (some ⟨go, 0, none⟩) (rest.length + 1) oc := by
    rcases HP.out.op.2 with ⟨rfl, h⟩ | ⟨g, cap, cur, rfl, _, _, hcap, _⟩
    · simp at h
    · exact ⟨g, cap, hcap, rfl⟩
  have hcell := HP.out.op.cellAt rest.length (by simp)
  have hcv : (((m :: rest).reverse.map fun (n : Nat) => Value.int .i64 (n : Int)))[rest.length]? = some (.int .i64 (m : Int)) := by
    simp
  rw [hcv] at hcell
  have q3 : (0 : Int) ≤ rest.length ∧ (rest.length : Int) < (rest.length : Int) + 1 := ⟨by omega, by omega⟩
  clear hc hcv
  conv => arg 2; whnf
  go_wp2_with fail
  refine (pre_any _ _ _).mono ?_
  rintro e w' ⟨rfl, rfl⟩
  rw [T2.out]
  go_wp2_with (at_mapUpdate; go_must (refine wpList_done rfl _ _ _ rfl mp n0 m done (done.set m true) rfl rfl rfl HP.out.dm (by omega) (by omega) (getD_setted hm) (fun j hj => getD_set hj) ?_))
  intro w5 hd5 hg5
  obtain ⟨hP3, hk3⟩ := HP.out.pop.done_ hd5 hg5 hB
  clear c0 c1 c2 f0 f1 f2 hd5 hg5 hcell
  obtain ⟨d0, d1, d2, g0, g1, g2⟩ := hP3.blk.cells
  have HP3 := hid hP3
  have HK3 := hid (hkk.trans hk3)
  have hlpc5 := blk_lt hP3.blk
  clear hP3 hk3
  go_wp2_with (at_builtin; go_must (refine append_newS (us := pItCells { kind := 3, n := m } 0) rfl _ _ 47 rfl 77 rfl (.agg #[.int .u8 0, .pointer none, .int .u8 0, .int .i64 0, .int .u8 0, .int .u8 0]) 6 40 Tryd.underlying47 info_pitem rfl (by decide) B _ its.length (pCells its gs) rfl HP3.out.it _ rfl rfl rfl (by simp [pItCells, kb, Value.oneCell']) (by unfold maxLen; omega) (by omega) HP3.out.lo ?_))
  intro ao cap w6 ho6 hg6 hn6
  obtain ⟨hP4, hk4⟩ := HP3.out.push (m := its.length + 1) (it := { kind := 3, n := m }) (g := 0) rfl ho6 hg6 (fun h => by simp at h) HP3.out.lo
  have hb4 : PBlk w6 pc anch (.slice av its.length cv) done.length := (hg6.block pc hlpc5 (Ne.symm (own_ne_blk HP3.out.it HP3.out.blk (by decide)))).trans HP3.out.blk
  clear d0 d1 d2 g0 g1 g2
  obtain ⟨d0, d1, d2, g0, g1, g2⟩ := hb4.cells
  have HP4 := hid hP4
  have HK4 := hid (HK3.out.trans hk4)
  clear ho6 hg6 hn6 hP4 hk4 hb4
  go_wp2_with fail
  refine ⟨PI_mk (i := i + 1) ⟨⟨i + 1, done.set m true, rest⟩, _, _, _, gk', rfl, PS.pr (n := n0 + 1) (by simpa using HP4.out) (by simp; omega) (fun x hx => by
      have := HM.out x (by simp [hx])
      simp
      omega) (by simp; omega) (by simp; omega) (by simp; omega), by dsimp only; omega, by simp; omega, HR.out, HK4.out⟩ (by simp), PMu_lt (i := i) (j := i + 1) rfl (by simp) (by omega) hi⟩
end Go.Proofs.YtpinoolagbghnaaDoor
