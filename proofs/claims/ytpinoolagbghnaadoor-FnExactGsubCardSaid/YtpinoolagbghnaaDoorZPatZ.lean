/-
  Walk: the program's reader of patterns: its rounds joined; pattern reads just the pattern that the plain word parse tells.
  Walk: the program's reader of patterns: pattern reads just the pattern that the plain word parse tells.
-/
import Derived.Test.YtpinoolagbghnaaDoorZPatE
import Derived.Test.YtpinoolagbghnaaDoorZPatG
import Derived.Test.YtpinoolagbghnaaDoorZPatH
import Derived.Test.YtpinoolagbghnaaDoorZPatK
import Derived.Test.YtpinoolagbghnaaDoorZPatN
namespace Go.Proofs.YtpinoolagbghnaaDoor
set_option linter.unusedVariables false
open Go.RowKit Go.Maps Pat

/-- What holds behind the loop. -/
def PatOut (p : ByteArray) (B pc mp : Nat) (anch : Bool) (R : Option (List It × Rd)) (W0 : World) (i : Nat) (vo : Value) (w' : World) : Prop :=
  ∃ r its gs vi, r.i = i ∧ PR B p pc mp anch r its gs vi vo w' ∧ its.length ≤ p.size ∧ R = some (its, r) ∧ Keeps B [] W0 w'

set_option maxRecDepth 1000000 in
set_option maxHeartbeats 4000000 in
theorem pat_exit {p : ByteArray} {B pc mp : Nat} {anch : Bool} {R : Option (List It × Rd)} {W0 : World} {K0 : Act → World → Prop} {Po : Ending → World → Prop} {wr : World} {i : Nat} {vo : Value} {u1 u7 u8 u9 u10 u11 u12 u13 u14 u15 u16 u17 u18 u19 u20 u21 u22 u23 u24 u25 u26 u27 u28 u29 u30 u31 u32 u33 u34 u35 u36 u37 u38 u39 u40 u41 u42 u43 u44 u45 u46 u47 u48 u49 u50 u51 u52 u53 u54 u55 u56 u57 u58 u59 u60 u61 u62 u63 u64 u65 u66 u67 u68 u69 u70 u71 u72 u73 u74 u75 u76 u77 u78 u79 u80 u81 u82 u83 u84 u85 u86 u87 u88 u89 u90 u91 u92 u93 u94 u95 u96 u97 u98 u99 u100 u101 u102 u103 u104 u105 u106 u107 u108 u109 u110 u111 u112 u113 u114 u115 u116 u117 u118 u119 u120 u121 u122 u123 u124 u125 u126 u127 u128 u129 u130 u131 u132 u133 u134 u135 u136 u137 u138 u139 u140 u141 u142 u143 u144 u145 u146 u147 u148 u149 u150 u151 u152 u153 u154 u155 u156 u157 u158 u159 u160 u161 u162 u163 u164 u165 u166 u167 u168 u169 u170 u171 u172 u173 u174 u175 u176 u177 u178 u179 u180 u181 u182 u183 u184 u185 u186 u187 u188 u189 u190 u191 u192 u193 u194 u195 u196 u197 u198 u199 u200 u201 u202 u203 u204 u205 u206 u207 u208 u209 u210 u211 u212 u213 u214 u215 u216 u217 u218 u219 u220 u221 u222 u223 u224 u225 u226 u227 u228 u229 u230 u231 u232 u233 u234 u235 u236 u237 u238 u239 u240 u241 u242 u243 u244 u245 u246 u247 u248 u249 u250 u251 u252 u253 u254 u255 u256 u257 u258 u259 u260 u261 u262 u263 u264 u265 u266 u267 u268 u269 u270 u271 u272 u273 u274 u275 u276 u277 u278 u279 u280 u281 u282 u283 u284 u285 u286 u287 u288 u289 u290 u291 u292 u293 u294 u295 u296 u297 u298 u299 u300 u301 u302 u303 u304 u305 u306 u307 u308 u309 u310 u311 u312 u313 u314 u315 u316 u317 u318 u319 u320 u321 u322 u323 u324 : Value} (hexit : ∀ (i : Nat) (vo u1 u7 u8 u9 u10 u11 u12 u13 u14 u15 u16 u17 u18 u19 u20 u21 u22 u23 u24 u25 u26 u27 u28 u29 u30 u31 u32 u33 u34 u35 u36 u37 u38 u39 u40 u41 u42 u43 u44 u45 u46 u47 u48 u49 u50 u51 u52 u53 u54 u55 u56 u57 u58 u59 u60 u61 u62 u63 u64 u65 u66 u67 u68 u69 u70 u71 u72 u73 u74 u75 u76 u77 u78 u79 u80 u81 u82 u83 u84 u85 u86 u87 u88 u89 u90 u91 u92 u93 u94 u95 u96 u97 u98 u99 u100 u101 u102 u103 u104 u105 u106 u107 u108 u109 u110 u111 u112 u113 u114 u115 u116 u117 u118 u119 u120 u121 u122 u123 u124 u125 u126 u127 u128 u129 u130 u131 u132 u133 u134 u135 u136 u137 u138 u139 u140 u141 u142 u143 u144 u145 u146 u147 u148 u149 u150 u151 u152 u153 u154 u155 u156 u157 u158 u159 u160 u161 u162 u163 u164 u165 u166 u167 u168 u169 u170 u171 u172 u173 u174 u175 u176 u177 u178 u179 u180 u181 u182 u183 u184 u185 u186 u187 u188 u189 u190 u191 u192 u193 u194 u195 u196 u197 u198 u199 u200 u201 u202 u203 u204 u205 u206 u207 u208 u209 u210 u211 u212 u213 u214 u215 u216 u217 u218 u219 u220 u221 u222 u223 u224 u225 u226 u227 u228 u229 u230 u231 u232 u233 u234 u235 u236 u237 u238 u239 u240 u241 u242 u243 u244 u245 u246 u247 u248 u249 u250 u251 u252 u253 u254 u255 u256 u257 u258 u259 u260 u261 u262 u263 u264 u265 u266 u267 u268 u269 u270 u271 u272 u273 u274 u275 u276 u277 u278 u279 u280 u281 u282 u283 u284 u285 u286 u287 u288 u289 u290 u291 u292 u293 u294 u295 u296 u297 u298 u299 u300 u301 u302 u303 u304 u305 u306 u307 u308 u309 u310 u311 u312 u313 u314 u315 u316 u317 u318 u319 u320 u321 u322 u323 u324 : Value) (w' : World), PatOut p B pc mp anch R W0 i vo w' → K0 ⟨#[.string p, u1, .pointer none, .pointer (some ⟨pc, 0, none⟩), .int .i64 i, vo, .map (some mp), u7, u8, u9, u10, u11, u12, u13, u14, u15, u16, u17, u18, u19, u20, u21, u22, u23, u24, u25, u26, u27, u28, u29, u30, u31, u32, u33, u34, u35, u36, u37, u38, u39, u40, u41, u42, u43, u44, u45, u46, u47, u48, u49, u50, u51, u52, u53, u54, u55, u56, u57, u58, u59, u60, u61, u62, u63, u64, u65, u66, u67, u68, u69, u70, u71, u72, u73, u74, u75, u76, u77, u78, u79, u80, u81, u82, u83, u84, u85, u86, u87, u88, u89, u90, u91, u92, u93, u94, u95, u96, u97, u98, u99, u100, u101, u102, u103, u104, u105, u106, u107, u108, u109, u110, u111, u112, u113, u114, u115, u116, u117, u118, u119, u120, u121, u122, u123, u124, u125, u126, u127, u128, u129, u130, u131, u132, u133, u134, u135, u136, u137, u138, u139, u140, u141, u142, u143, u144, u145, u146, u147, u148, u149, u150, u151, u152, u153, u154, u155, u156, u157, u158, u159, u160, u161, u162, u163, u164, u165, u166, u167, u168, u169, u170, u171, u172, u173, u174, u175, u176, u177, u178, u179, u180, u181, u182, u183, u184, u185, u186, u187, u188, u189, u190, u191, u192, u193, u194, u195, u196, u197, u198, u199, u200, u201, u202, u203, u204, u205, u206, u207, u208, u209, u210, u211, u212, u213, u214, u215, u216, u217, u218, u219, u220, u221, u222, u223, u224, u225, u226, u227, u228, u229, u230, u231, u232, u233, u234, u235, u236, u237, u238, u239, u240, u241, u242, u243, u244, u245, u246, u247, u248, u249, u250, u251, u252, u253, u254, u255, u256, u257, u258, u259, u260, u261, u262, u263, u264, u265, u266, u267, u268, u269, u270, u271, u272, u273, u274, u275, u276, u277, u278, u279, u280, u281, u282, u283, u284, u285, u286, u287, u288, u289, u290, u291, u292, u293, u294, u295, u296, u297, u298, u299, u300, u301, u302, u303, u304, u305, u306, u307, u308, u309, u310, u311, u312, u313, u314, u315, u316, u317, u318, u319, u320, u321, u322, u323, u324], []⟩ w') (h : PatOut p B pc mp anch R W0 i vo wr) (hi : ¬ i < p.size) (hp : p.size ≤ 200) (Inv : Act → World → Prop) :
    Code.wp Tryd.prog patBody (Exit.then Inv (Exit.inBlock 0 (Exit.then K0 (bodyPost Tryd.prog Tryd.f10 Po)))) ⟨#[.string p, u1, .pointer none, .pointer (some ⟨pc, 0, none⟩), .int .i64 i, vo, .map (some mp), u7, u8, u9, u10, u11, u12, u13, u14, u15, u16, u17, u18, u19, u20, u21, u22, u23, u24, u25, u26, u27, u28, u29, u30, u31, u32, u33, u34, u35, u36, u37, u38, u39, u40, u41, u42, u43, u44, u45, u46, u47, u48, u49, u50, u51, u52, u53, u54, u55, u56, u57, u58, u59, u60, u61, u62, u63, u64, u65, u66, u67, u68, u69, u70, u71, u72, u73, u74, u75, u76, u77, u78, u79, u80, u81, u82, u83, u84, u85, u86, u87, u88, u89, u90, u91, u92, u93, u94, u95, u96, u97, u98, u99, u100, u101, u102, u103, u104, u105, u106, u107, u108, u109, u110, u111, u112, u113, u114, u115, u116, u117, u118, u119, u120, u121, u122, u123, u124, u125, u126, u127, u128, u129, u130, u131, u132, u133, u134, u135, u136, u137, u138, u139, u140, u141, u142, u143, u144, u145, u146, u147, u148, u149, u150, u151, u152, u153, u154, u155, u156, u157, u158, u159, u160, u161, u162, u163, u164, u165, u166, u167, u168, u169, u170, u171, u172, u173, u174, u175, u176, u177, u178, u179, u180, u181, u182, u183, u184, u185, u186, u187, u188, u189, u190, u191, u192, u193, u194, u195, u196, u197, u198, u199, u200, u201, u202, u203, u204, u205, u206, u207, u208, u209, u210, u211, u212, u213, u214, u215, u216, u217, u218, u219, u220, u221, u222, u223, u224, u225, u226, u227, u228, u229, u230, u231, u232, u233, u234, u235, u236, u237, u238, u239, u240, u241, u242, u243, u244, u245, u246, u247, u248, u249, u250, u251, u252, u253, u254, u255, u256, u257, u258, u259, u260, u261, u262, u263, u264, u265, u266, u267, u268, u269, u270, u271, u272, u273, u274, u275, u276, u277, u278, u279, u280, u281, u282, u283, u284, u285, u286, u287, u288, u289, u290, u291, u292, u293, u294, u295, u296, u297, u298, u299, u300, u301, u302, u303, u304, u305, u306, u307, u308, u309, u310, u311, u312, u313, u314, u315, u316, u317, u318, u319, u320, u321, u322, u323, u324], []⟩ wr := by
  have hd : decide (i < p.size) = false := decide_eq_false hi
  have H := hid h
  have HX := hid hexit
  clear h hexit
  conv => arg 2; whnf
  go_wp2_with fail
  exact HX.out _ _ _ _ _ _ _ _ _ _ _ _ _ _ _ _ _ _ _ _ _ _ _ _ _ _ _ _ _ _ _ _ _ _ _ _ _ _ _ _ _ _ _ _ _ _ _ _ _ _ _ _ _ _ _ _ _ _ _ _ _ _ _ _ _ _ _ _ _ _ _ _ _ _ _ _ _ _ _ _ _ _ _ _ _ _ _ _ _ _ _ _ _ _ _ _ _ _ _ _ _ _ _ _ _ _ _ _ _ _ _ _ _ _ _ _ _ _ _ _ _ _ _ _ _ _ _ _ _ _ _ _ _ _ _ _ _ _ _ _ _ _ _ _ _ _ _ _ _ _ _ _ _ _ _ _ _ _ _ _ _ _ _ _ _ _ _ _ _ _ _ _ _ _ _ _ _ _ _ _ _ _ _ _ _ _ _ _ _ _ _ _ _ _ _ _ _ _ _ _ _ _ _ _ _ _ _ _ _ _ _ _ _ _ _ _ _ _ _ _ _ _ _ _ _ _ _ _ _ _ _ _ _ _ _ _ _ _ _ _ _ _ _ _ _ _ _ _ _ _ _ _ _ _ _ _ _ _ _ _ _ _ _ _ _ _ _ _ _ _ _ _ _ _ _ _ _ _ _ _ _ _ _ _ _ _ _ _ _ _ _ _ _ _ _ _ _ _ _ _ _ _ _ _ _ _ _ _ _ _ _ _ _ _ _ _ _ _ _ _ _ _ H.out

set_option maxRecDepth 1000000 in
set_option maxHeartbeats 8000000 in
theorem pat_round {p : ByteArray} {B pc mp : Nat} {anch : Bool} {R : Option (List It × Rd)} {W0 : World} {K0 : Act → World → Prop} {Po : Ending → World → Prop} (hp : p.size ≤ 200) (hret : ∀ w' : World, R = none → Keeps B [] W0 w' → Po (.returned (.pointer none)) w') (hexit : ∀ (i : Nat) (vo u1 u7 u8 u9 u10 u11 u12 u13 u14 u15 u16 u17 u18 u19 u20 u21 u22 u23 u24 u25 u26 u27 u28 u29 u30 u31 u32 u33 u34 u35 u36 u37 u38 u39 u40 u41 u42 u43 u44 u45 u46 u47 u48 u49 u50 u51 u52 u53 u54 u55 u56 u57 u58 u59 u60 u61 u62 u63 u64 u65 u66 u67 u68 u69 u70 u71 u72 u73 u74 u75 u76 u77 u78 u79 u80 u81 u82 u83 u84 u85 u86 u87 u88 u89 u90 u91 u92 u93 u94 u95 u96 u97 u98 u99 u100 u101 u102 u103 u104 u105 u106 u107 u108 u109 u110 u111 u112 u113 u114 u115 u116 u117 u118 u119 u120 u121 u122 u123 u124 u125 u126 u127 u128 u129 u130 u131 u132 u133 u134 u135 u136 u137 u138 u139 u140 u141 u142 u143 u144 u145 u146 u147 u148 u149 u150 u151 u152 u153 u154 u155 u156 u157 u158 u159 u160 u161 u162 u163 u164 u165 u166 u167 u168 u169 u170 u171 u172 u173 u174 u175 u176 u177 u178 u179 u180 u181 u182 u183 u184 u185 u186 u187 u188 u189 u190 u191 u192 u193 u194 u195 u196 u197 u198 u199 u200 u201 u202 u203 u204 u205 u206 u207 u208 u209 u210 u211 u212 u213 u214 u215 u216 u217 u218 u219 u220 u221 u222 u223 u224 u225 u226 u227 u228 u229 u230 u231 u232 u233 u234 u235 u236 u237 u238 u239 u240 u241 u242 u243 u244 u245 u246 u247 u248 u249 u250 u251 u252 u253 u254 u255 u256 u257 u258 u259 u260 u261 u262 u263 u264 u265 u266 u267 u268 u269 u270 u271 u272 u273 u274 u275 u276 u277 u278 u279 u280 u281 u282 u283 u284 u285 u286 u287 u288 u289 u290 u291 u292 u293 u294 u295 u296 u297 u298 u299 u300 u301 u302 u303 u304 u305 u306 u307 u308 u309 u310 u311 u312 u313 u314 u315 u316 u317 u318 u319 u320 u321 u322 u323 u324 : Value) (w' : World), PatOut p B pc mp anch R W0 i vo w' → K0 ⟨#[.string p, u1, .pointer none, .pointer (some ⟨pc, 0, none⟩), .int .i64 i, vo, .map (some mp), u7, u8, u9, u10, u11, u12, u13, u14, u15, u16, u17, u18, u19, u20, u21, u22, u23, u24, u25, u26, u27, u28, u29, u30, u31, u32, u33, u34, u35, u36, u37, u38, u39, u40, u41, u42, u43, u44, u45, u46, u47, u48, u49, u50, u51, u52, u53, u54, u55, u56, u57, u58, u59, u60, u61, u62, u63, u64, u65, u66, u67, u68, u69, u70, u71, u72, u73, u74, u75, u76, u77, u78, u79, u80, u81, u82, u83, u84, u85, u86, u87, u88, u89, u90, u91, u92, u93, u94, u95, u96, u97, u98, u99, u100, u101, u102, u103, u104, u105, u106, u107, u108, u109, u110, u111, u112, u113, u114, u115, u116, u117, u118, u119, u120, u121, u122, u123, u124, u125, u126, u127, u128, u129, u130, u131, u132, u133, u134, u135, u136, u137, u138, u139, u140, u141, u142, u143, u144, u145, u146, u147, u148, u149, u150, u151, u152, u153, u154, u155, u156, u157, u158, u159, u160, u161, u162, u163, u164, u165, u166, u167, u168, u169, u170, u171, u172, u173, u174, u175, u176, u177, u178, u179, u180, u181, u182, u183, u184, u185, u186, u187, u188, u189, u190, u191, u192, u193, u194, u195, u196, u197, u198, u199, u200, u201, u202, u203, u204, u205, u206, u207, u208, u209, u210, u211, u212, u213, u214, u215, u216, u217, u218, u219, u220, u221, u222, u223, u224, u225, u226, u227, u228, u229, u230, u231, u232, u233, u234, u235, u236, u237, u238, u239, u240, u241, u242, u243, u244, u245, u246, u247, u248, u249, u250, u251, u252, u253, u254, u255, u256, u257, u258, u259, u260, u261, u262, u263, u264, u265, u266, u267, u268, u269, u270, u271, u272, u273, u274, u275, u276, u277, u278, u279, u280, u281, u282, u283, u284, u285, u286, u287, u288, u289, u290, u291, u292, u293, u294, u295, u296, u297, u298, u299, u300, u301, u302, u303, u304, u305, u306, u307, u308, u309, u310, u311, u312, u313, u314, u315, u316, u317, u318, u319, u320, u321, u322, u323, u324], []⟩ w') (a : Act) (w' : World) (hI : PI p B pc mp anch R W0 a w') :
    Code.wp Tryd.prog patBody (Exit.then (fun a' w'' => PI p B pc mp anch R W0 a' w'' ∧ PMu p a' < PMu p a) (Exit.inBlock 0 (Exit.then K0 (bodyPost Tryd.prog Tryd.f10 Po)))) a w' := by
  obtain ⟨i, hI⟩ := hI
  obtain ⟨vo, hI⟩ := hI
  obtain ⟨u1, hI⟩ := hI
  obtain ⟨u7, hI⟩ := hI
  obtain ⟨u8, hI⟩ := hI
  obtain ⟨u9, hI⟩ := hI
  obtain ⟨u10, hI⟩ := hI
  obtain ⟨u11, hI⟩ := hI
  obtain ⟨u12, hI⟩ := hI
  obtain ⟨u13, hI⟩ := hI
  obtain ⟨u14, hI⟩ := hI
  obtain ⟨u15, hI⟩ := hI
  obtain ⟨u16, hI⟩ := hI
  obtain ⟨u17, hI⟩ := hI
  obtain ⟨u18, hI⟩ := hI
  obtain ⟨u19, hI⟩ := hI
  obtain ⟨u20, hI⟩ := hI
  obtain ⟨u21, hI⟩ := hI
  obtain ⟨u22, hI⟩ := hI
  obtain ⟨u23, hI⟩ := hI
  obtain ⟨u24, hI⟩ := hI
  obtain ⟨u25, hI⟩ := hI
  obtain ⟨u26, hI⟩ := hI
  obtain ⟨u27, hI⟩ := hI
  obtain ⟨u28, hI⟩ := hI
  obtain ⟨u29, hI⟩ := hI
  obtain ⟨u30, hI⟩ := hI
  obtain ⟨u31, hI⟩ := hI
  obtain ⟨u32, hI⟩ := hI
  obtain ⟨u33, hI⟩ := hI
  obtain ⟨u34, hI⟩ := hI
  obtain ⟨u35, hI⟩ := hI
  obtain ⟨u36, hI⟩ := hI
  obtain ⟨u37, hI⟩ := hI
  obtain ⟨u38, hI⟩ := hI
  obtain ⟨u39, hI⟩ := hI
  obtain ⟨u40, hI⟩ := hI
  obtain ⟨u41, hI⟩ := hI
  obtain ⟨u42, hI⟩ := hI
  obtain ⟨u43, hI⟩ := hI
  obtain ⟨u44, hI⟩ := hI
  obtain ⟨u45, hI⟩ := hI
  obtain ⟨u46, hI⟩ := hI
  obtain ⟨u47, hI⟩ := hI
  obtain ⟨u48, hI⟩ := hI
  obtain ⟨u49, hI⟩ := hI
  obtain ⟨u50, hI⟩ := hI
  obtain ⟨u51, hI⟩ := hI
  obtain ⟨u52, hI⟩ := hI
  obtain ⟨u53, hI⟩ := hI
  obtain ⟨u54, hI⟩ := hI
  obtain ⟨u55, hI⟩ := hI
  obtain ⟨u56, hI⟩ := hI
  obtain ⟨u57, hI⟩ := hI
  obtain ⟨u58, hI⟩ := hI
  obtain ⟨u59, hI⟩ := hI
  obtain ⟨u60, hI⟩ := hI
  obtain ⟨u61, hI⟩ := hI
  obtain ⟨u62, hI⟩ := hI
  obtain ⟨u63, hI⟩ := hI
  obtain ⟨u64, hI⟩ := hI
  obtain ⟨u65, hI⟩ := hI
  obtain ⟨u66, hI⟩ := hI
  obtain ⟨u67, hI⟩ := hI
  obtain ⟨u68, hI⟩ := hI
  obtain ⟨u69, hI⟩ := hI
  obtain ⟨u70, hI⟩ := hI
  obtain ⟨u71, hI⟩ := hI
  obtain ⟨u72, hI⟩ := hI
  obtain ⟨u73, hI⟩ := hI
  obtain ⟨u74, hI⟩ := hI
  obtain ⟨u75, hI⟩ := hI
  obtain ⟨u76, hI⟩ := hI
  obtain ⟨u77, hI⟩ := hI
  obtain ⟨u78, hI⟩ := hI
  obtain ⟨u79, hI⟩ := hI
  obtain ⟨u80, hI⟩ := hI
  obtain ⟨u81, hI⟩ := hI
  obtain ⟨u82, hI⟩ := hI
  obtain ⟨u83, hI⟩ := hI
  obtain ⟨u84, hI⟩ := hI
  obtain ⟨u85, hI⟩ := hI
  obtain ⟨u86, hI⟩ := hI
  obtain ⟨u87, hI⟩ := hI
  obtain ⟨u88, hI⟩ := hI
  obtain ⟨u89, hI⟩ := hI
  obtain ⟨u90, hI⟩ := hI
  obtain ⟨u91, hI⟩ := hI
  obtain ⟨u92, hI⟩ := hI
  obtain ⟨u93, hI⟩ := hI
  obtain ⟨u94, hI⟩ := hI
  obtain ⟨u95, hI⟩ := hI
  obtain ⟨u96, hI⟩ := hI
  obtain ⟨u97, hI⟩ := hI
  obtain ⟨u98, hI⟩ := hI
  obtain ⟨u99, hI⟩ := hI
  obtain ⟨u100, hI⟩ := hI
  obtain ⟨u101, hI⟩ := hI
  obtain ⟨u102, hI⟩ := hI
  obtain ⟨u103, hI⟩ := hI
  obtain ⟨u104, hI⟩ := hI
  obtain ⟨u105, hI⟩ := hI
  obtain ⟨u106, hI⟩ := hI
  obtain ⟨u107, hI⟩ := hI
  obtain ⟨u108, hI⟩ := hI
  obtain ⟨u109, hI⟩ := hI
  obtain ⟨u110, hI⟩ := hI
  obtain ⟨u111, hI⟩ := hI
  obtain ⟨u112, hI⟩ := hI
  obtain ⟨u113, hI⟩ := hI
  obtain ⟨u114, hI⟩ := hI
  obtain ⟨u115, hI⟩ := hI
  obtain ⟨u116, hI⟩ := hI
  obtain ⟨u117, hI⟩ := hI
  obtain ⟨u118, hI⟩ := hI
  obtain ⟨u119, hI⟩ := hI
  obtain ⟨u120, hI⟩ := hI
  obtain ⟨u121, hI⟩ := hI
  obtain ⟨u122, hI⟩ := hI
  obtain ⟨u123, hI⟩ := hI
  obtain ⟨u124, hI⟩ := hI
  obtain ⟨u125, hI⟩ := hI
  obtain ⟨u126, hI⟩ := hI
  obtain ⟨u127, hI⟩ := hI
  obtain ⟨u128, hI⟩ := hI
  obtain ⟨u129, hI⟩ := hI
  obtain ⟨u130, hI⟩ := hI
  obtain ⟨u131, hI⟩ := hI
  obtain ⟨u132, hI⟩ := hI
  obtain ⟨u133, hI⟩ := hI
  obtain ⟨u134, hI⟩ := hI
  obtain ⟨u135, hI⟩ := hI
  obtain ⟨u136, hI⟩ := hI
  obtain ⟨u137, hI⟩ := hI
  obtain ⟨u138, hI⟩ := hI
  obtain ⟨u139, hI⟩ := hI
  obtain ⟨u140, hI⟩ := hI
  obtain ⟨u141, hI⟩ := hI
  obtain ⟨u142, hI⟩ := hI
  obtain ⟨u143, hI⟩ := hI
  obtain ⟨u144, hI⟩ := hI
  obtain ⟨u145, hI⟩ := hI
  obtain ⟨u146, hI⟩ := hI
  obtain ⟨u147, hI⟩ := hI
  obtain ⟨u148, hI⟩ := hI
  obtain ⟨u149, hI⟩ := hI
  obtain ⟨u150, hI⟩ := hI
  obtain ⟨u151, hI⟩ := hI
  obtain ⟨u152, hI⟩ := hI
  obtain ⟨u153, hI⟩ := hI
  obtain ⟨u154, hI⟩ := hI
  obtain ⟨u155, hI⟩ := hI
  obtain ⟨u156, hI⟩ := hI
  obtain ⟨u157, hI⟩ := hI
  obtain ⟨u158, hI⟩ := hI
  obtain ⟨u159, hI⟩ := hI
  obtain ⟨u160, hI⟩ := hI
  obtain ⟨u161, hI⟩ := hI
  obtain ⟨u162, hI⟩ := hI
  obtain ⟨u163, hI⟩ := hI
  obtain ⟨u164, hI⟩ := hI
  obtain ⟨u165, hI⟩ := hI
  obtain ⟨u166, hI⟩ := hI
  obtain ⟨u167, hI⟩ := hI
  obtain ⟨u168, hI⟩ := hI
  obtain ⟨u169, hI⟩ := hI
  obtain ⟨u170, hI⟩ := hI
  obtain ⟨u171, hI⟩ := hI
  obtain ⟨u172, hI⟩ := hI
  obtain ⟨u173, hI⟩ := hI
  obtain ⟨u174, hI⟩ := hI
  obtain ⟨u175, hI⟩ := hI
  obtain ⟨u176, hI⟩ := hI
  obtain ⟨u177, hI⟩ := hI
  obtain ⟨u178, hI⟩ := hI
  obtain ⟨u179, hI⟩ := hI
  obtain ⟨u180, hI⟩ := hI
  obtain ⟨u181, hI⟩ := hI
  obtain ⟨u182, hI⟩ := hI
  obtain ⟨u183, hI⟩ := hI
  obtain ⟨u184, hI⟩ := hI
  obtain ⟨u185, hI⟩ := hI
  obtain ⟨u186, hI⟩ := hI
  obtain ⟨u187, hI⟩ := hI
  obtain ⟨u188, hI⟩ := hI
  obtain ⟨u189, hI⟩ := hI
  obtain ⟨u190, hI⟩ := hI
  obtain ⟨u191, hI⟩ := hI
  obtain ⟨u192, hI⟩ := hI
  obtain ⟨u193, hI⟩ := hI
  obtain ⟨u194, hI⟩ := hI
  obtain ⟨u195, hI⟩ := hI
  obtain ⟨u196, hI⟩ := hI
  obtain ⟨u197, hI⟩ := hI
  obtain ⟨u198, hI⟩ := hI
  obtain ⟨u199, hI⟩ := hI
  obtain ⟨u200, hI⟩ := hI
  obtain ⟨u201, hI⟩ := hI
  obtain ⟨u202, hI⟩ := hI
  obtain ⟨u203, hI⟩ := hI
  obtain ⟨u204, hI⟩ := hI
  obtain ⟨u205, hI⟩ := hI
  obtain ⟨u206, hI⟩ := hI
  obtain ⟨u207, hI⟩ := hI
  obtain ⟨u208, hI⟩ := hI
  obtain ⟨u209, hI⟩ := hI
  obtain ⟨u210, hI⟩ := hI
  obtain ⟨u211, hI⟩ := hI
  obtain ⟨u212, hI⟩ := hI
  obtain ⟨u213, hI⟩ := hI
  obtain ⟨u214, hI⟩ := hI
  obtain ⟨u215, hI⟩ := hI
  obtain ⟨u216, hI⟩ := hI
  obtain ⟨u217, hI⟩ := hI
  obtain ⟨u218, hI⟩ := hI
  obtain ⟨u219, hI⟩ := hI
  obtain ⟨u220, hI⟩ := hI
  obtain ⟨u221, hI⟩ := hI
  obtain ⟨u222, hI⟩ := hI
  obtain ⟨u223, hI⟩ := hI
  obtain ⟨u224, hI⟩ := hI
  obtain ⟨u225, hI⟩ := hI
  obtain ⟨u226, hI⟩ := hI
  obtain ⟨u227, hI⟩ := hI
  obtain ⟨u228, hI⟩ := hI
  obtain ⟨u229, hI⟩ := hI
  obtain ⟨u230, hI⟩ := hI
  obtain ⟨u231, hI⟩ := hI
  obtain ⟨u232, hI⟩ := hI
  obtain ⟨u233, hI⟩ := hI
  obtain ⟨u234, hI⟩ := hI
  obtain ⟨u235, hI⟩ := hI
  obtain ⟨u236, hI⟩ := hI
  obtain ⟨u237, hI⟩ := hI
  obtain ⟨u238, hI⟩ := hI
  obtain ⟨u239, hI⟩ := hI
  obtain ⟨u240, hI⟩ := hI
  obtain ⟨u241, hI⟩ := hI
  obtain ⟨u242, hI⟩ := hI
  obtain ⟨u243, hI⟩ := hI
  obtain ⟨u244, hI⟩ := hI
  obtain ⟨u245, hI⟩ := hI
  obtain ⟨u246, hI⟩ := hI
  obtain ⟨u247, hI⟩ := hI
  obtain ⟨u248, hI⟩ := hI
  obtain ⟨u249, hI⟩ := hI
  obtain ⟨u250, hI⟩ := hI
  obtain ⟨u251, hI⟩ := hI
  obtain ⟨u252, hI⟩ := hI
  obtain ⟨u253, hI⟩ := hI
  obtain ⟨u254, hI⟩ := hI
  obtain ⟨u255, hI⟩ := hI
  obtain ⟨u256, hI⟩ := hI
  obtain ⟨u257, hI⟩ := hI
  obtain ⟨u258, hI⟩ := hI
  obtain ⟨u259, hI⟩ := hI
  obtain ⟨u260, hI⟩ := hI
  obtain ⟨u261, hI⟩ := hI
  obtain ⟨u262, hI⟩ := hI
  obtain ⟨u263, hI⟩ := hI
  obtain ⟨u264, hI⟩ := hI
  obtain ⟨u265, hI⟩ := hI
  obtain ⟨u266, hI⟩ := hI
  obtain ⟨u267, hI⟩ := hI
  obtain ⟨u268, hI⟩ := hI
  obtain ⟨u269, hI⟩ := hI
  obtain ⟨u270, hI⟩ := hI
  obtain ⟨u271, hI⟩ := hI
  obtain ⟨u272, hI⟩ := hI
  obtain ⟨u273, hI⟩ := hI
  obtain ⟨u274, hI⟩ := hI
  obtain ⟨u275, hI⟩ := hI
  obtain ⟨u276, hI⟩ := hI
  obtain ⟨u277, hI⟩ := hI
  obtain ⟨u278, hI⟩ := hI
  obtain ⟨u279, hI⟩ := hI
  obtain ⟨u280, hI⟩ := hI
  obtain ⟨u281, hI⟩ := hI
  obtain ⟨u282, hI⟩ := hI
  obtain ⟨u283, hI⟩ := hI
  obtain ⟨u284, hI⟩ := hI
  obtain ⟨u285, hI⟩ := hI
  obtain ⟨u286, hI⟩ := hI
  obtain ⟨u287, hI⟩ := hI
  obtain ⟨u288, hI⟩ := hI
  obtain ⟨u289, hI⟩ := hI
  obtain ⟨u290, hI⟩ := hI
  obtain ⟨u291, hI⟩ := hI
  obtain ⟨u292, hI⟩ := hI
  obtain ⟨u293, hI⟩ := hI
  obtain ⟨u294, hI⟩ := hI
  obtain ⟨u295, hI⟩ := hI
  obtain ⟨u296, hI⟩ := hI
  obtain ⟨u297, hI⟩ := hI
  obtain ⟨u298, hI⟩ := hI
  obtain ⟨u299, hI⟩ := hI
  obtain ⟨u300, hI⟩ := hI
  obtain ⟨u301, hI⟩ := hI
  obtain ⟨u302, hI⟩ := hI
  obtain ⟨u303, hI⟩ := hI
  obtain ⟨u304, hI⟩ := hI
  obtain ⟨u305, hI⟩ := hI
  obtain ⟨u306, hI⟩ := hI
  obtain ⟨u307, hI⟩ := hI
  obtain ⟨u308, hI⟩ := hI
  obtain ⟨u309, hI⟩ := hI
  obtain ⟨u310, hI⟩ := hI
  obtain ⟨u311, hI⟩ := hI
  obtain ⟨u312, hI⟩ := hI
  obtain ⟨u313, hI⟩ := hI
  obtain ⟨u314, hI⟩ := hI
  obtain ⟨u315, hI⟩ := hI
  obtain ⟨u316, hI⟩ := hI
  obtain ⟨u317, hI⟩ := hI
  obtain ⟨u318, hI⟩ := hI
  obtain ⟨u319, hI⟩ := hI
  obtain ⟨u320, hI⟩ := hI
  obtain ⟨u321, hI⟩ := hI
  obtain ⟨u322, hI⟩ := hI
  obtain ⟨u323, hI⟩ := hI
  obtain ⟨u324, hI⟩ := hI
  obtain ⟨hrel, rfl⟩ := hI
  obtain ⟨r, its, gs, vi, gk, hri, hS, hgk, hlp, hR, hkk⟩ := hrel
  obtain ⟨ri, done, opened⟩ := r
  dsimp only at hri
  subst hri
  have HG := hid hR
  by_cases hi : ri < p.size
  · by_cases c40 : bt p ri = 40
    · by_cases h1 : ri + 1 < p.size ∧ bt p (ri + 1) = 41
      · exact pat_place hp hS hgk hlp HG hkk hret hi c40 h1.1 h1.2
      · exact pat_open hp hS hgk hlp HG hkk hret hi c40 h1
    · by_cases c41 : bt p ri = 41
      · cases opened with
        | nil => exact pat_shut0 hp hS hgk hlp HG hkk hret hi c41 rfl
        | cons m rest => exact pat_shut hp hS hgk hlp HG hkk hret hi c41 rfl
      · by_cases c37 : bt p ri = 37
        · by_cases h1 : ri + 1 < p.size
          · cases hdg : digB (bt p (ri + 1)) with
            | true =>
              by_cases h3 : bt p (ri + 1) = 48 ∨ done.getD (bt p (ri + 1) - 49).toNat false = false
              · exact pat_back0 hp hS hgk hlp HG hkk hret hi c37 h1 hdg h3
              · exact pat_back hp hS hgk hlp HG hkk hret hi c37 h1 hdg h3
            | false =>
              by_cases h98 : bt p (ri + 1) = 98
              · by_cases h3 : ri + 3 < p.size
                · exact pat_pair hp hS hgk hlp HG hkk hret hi c37 h98 h3
                · exact pat_pct98 hp hS hgk hlp HG hkk hret hi c37 h1 hdg (by rw [h98]; unfold esc; rw [if_neg (by decide), if_pos (by decide)]) h98 h3
              · by_cases hf : bt p (ri + 1) = 102 ∧ ri + 2 < p.size ∧ bt p (ri + 2) = 91
                · obtain ⟨hf1, hf2, hf3⟩ := hf
                  cases h5 : setAt p (ri + 2) with
                  | none => exact pat_pct102 hp hS hgk hlp HG hkk hret hi c37 h1 hdg (by rw [hf1]; unfold esc; rw [if_neg (by decide), if_pos (by decide)]) hf1 hf2 hf3 h5
                  | some x =>
                    obtain ⟨f, j⟩ := x
                    exact pat_edge hp hS hgk hlp HG hkk hret hi c37 hf1 hf2 hf3 h5
                · cases he : esc (bt p (ri + 1)) with
                  | none => exact pat_pct0 hp hS hgk hlp HG hkk hret hi c37 h1 hdg he h98 hf
                  | some f => exact pat_pct hp hS hgk hlp HG hkk hret hi c37 h1 hdg he
          · exact pat_short hp hS hgk hlp HG hkk hret hi c37 h1
        · by_cases c36 : bt p ri = 36 ∧ ri + 1 = p.size
          · exact pat_end hp hS hgk hlp HG hkk hret hi c36.1 c36.2
          · by_cases c46 : bt p ri = 46
            · exact pat_dot hp hS hgk hlp HG hkk hret hi c46
            · by_cases c91 : bt p ri = 91
              · cases h5 : setAt p ri with
                | none => exact pat_set0 hp hS hgk hlp HG hkk hret hi c91 h5
                | some x =>
                  obtain ⟨f, j⟩ := x
                  exact pat_set hp hS hgk hlp HG hkk hret hi c91 h5
              · exact pat_other hp hS hgk hlp HG hkk hret hi c36 c40 c41 c37 c46 c91
  · exact pat_exit hexit ⟨⟨ri, done, opened⟩, its, gs, vi, rfl, hS, hlp, hR.trans (itemsGo_end (by dsimp only; omega)), hkk⟩ hi hp _
end Go.Proofs.YtpinoolagbghnaaDoor

namespace Go.Proofs.YtpinoolagbghnaaDoor
set_option linter.unusedVariables false
open Go.RowKit Go.Maps Pat

/-- What the program's reader of patterns answers. -/
def PatPost (p : ByteArray) (w : World) (e : Ending) (w' : World) : Prop :=
  Keeps w.heap.size [] w w' ∧ (parse p = none → e = .returned (.pointer none)) ∧
  (∀ P, parse p = some P → ∃ pc vi gs, e = .returned (.pointer (some ⟨pc, 0, none⟩)) ∧ w.heap.size ≤ pc ∧ PBlk w' pc P.start vi P.caps ∧ PItemRow w.heap.size w' vi P.items.length (pCells P.items gs) ∧ P.items.length = gs.length ∧ PSetsOk w' w.heap.size P.items gs)
theorem PatPost.no {p : ByteArray} {w w' : World} (h : parse p = none) (hk : Keeps w.heap.size [] w w') : PatPost p w (.returned (.pointer none)) w' := ⟨hk, fun _ => rfl, fun P h' => (by rw [h] at h'; cases h')⟩

theorem start_pre (p : ByteArray) : Go.Lib.hasPrefix p.data.toList (ByteArray.mk #[94]).data.toList = startOf p := by
  have h := rest_prefix p (ByteArray.mk #[94]) 0
  rw [Go.Lib.extract_to_end, List.drop_zero] at h
  rw [Bool.eq_iff_iff, h]
  unfold startOf
  simp only [Bool.and_eq_true, decide_eq_true_eq]
  constructor
  · intro h
    have := h 0 (by simp)
    exact ⟨by omega, by simpa using this.2⟩
  · rintro ⟨h1, h2⟩ j hj
    match j, hj with
    | 0, _ => exact ⟨by omega, by simpa using h2⟩
    | j + 1, hj => exact absurd (show j + 1 < 1 from hj) (by omega)

theorem pr_start {p : ByteArray} {x : Nat} (w : World) (b : Bool) : PR w.heap.size p w.heap.size (w.heap.size + 1) b ⟨x, [], []⟩ [] [] (.slice none 0 0) (.slice none 0 0) ((w.alloc (.cells #[.bool b, .slice none 0 0, .int .i64 0] 49)).alloc (.map #[] 0)) := by
  refine ⟨blk_alloc (blk_new w _) _, World.ownsRow_nil _ _ _ _, World.ownsRow_nil _ _ _ _, ⟨0, Nat.le_refl _, ?_⟩, rfl, fun j it g h1 h2 h3 => by simp at h1, by simp, by simp, by simp, by simp, Nat.le_refl _, by omega⟩
  have := DoneMap.made (w.alloc (.cells #[.bool b, .slice none 0 0, .int .i64 0] 49))
  rw [World.size_alloc] at this
  exact this

set_option maxRecDepth 1000000 in
set_option maxHeartbeats 8000000 in
theorem pattern_any (p : ByteArray) (w : World) : Calls Tryd.prog 10 #[.string p] w fun e w' => PatPost p w e w' := by
  by_cases hp : 200 < p.size
  · have hd : decide ((200 : Int) < p.size) = true := decide_eq_true (by omega)
    have HN := hid (show parse p = none by unfold parse; rw [if_pos hp])
    go_enter Tryd.func10, Tryd.ntmps10
    go_wp2_with fail
    go_ret
    exact PatPost.no HN.out (Keeps.refl _ _ _)
  · have hd : decide ((200 : Int) < p.size) = false := decide_eq_false (by omega)
    obtain ⟨sb, hsb⟩ : ∃ sb, sb = startOf p := ⟨_, rfl⟩
    obtain ⟨R, hR⟩ : ∃ R, R = itemsGo p p.size { i := if startOf p then 1 else 0, done := [], opened := [] } [] := ⟨_, rfl⟩
    have hpre := start_pre p
    rw [← hsb] at hpre hR
    have hpar : parse p = R.bind fun x => if x.2.opened ≠ [] ∨ 16 < x.2.done.length then none else some { start := sb, items := x.1, caps := x.2.done.length } := by
      rw [hR, hsb]
      unfold parse
      rw [if_neg hp]
      cases itemsGo p p.size { i := if startOf p then 1 else 0, done := [], opened := [] } [] with
      | none => rfl
      | some x => rfl
    have HPAR := hid hpar
    have HSB := hid hsb
    have HPRE := hid hpre
    have HR := hid hR
    clear hsb hpre hR hpar
    have hmm := @run_makeMap Tryd.prog
    go_enter Tryd.func10, Tryd.ntmps10
    go_wp2_with fail
    refine (pre_any _ _ _).mono ?_
    rintro e w' ⟨rfl, rfl⟩
    rw [HPRE.out]
    have hret : ∀ w' : World, R = none → Keeps w.heap.size [] w w' → PatPost p w (.returned (.pointer none)) w' := fun w' h hk => PatPost.no (by rw [HPAR.out, h, Option.bind_none]) hk
    have HRET := hid hret
    clear hret
    cases sb
    · go_wp2_with fail
      refine wp_loop (PI p w.heap.size w.heap.size (w.heap.size + 1) false R w) (fun a _ => PMu p a) ?_ (fun a w'' hI => pat_round (by omega) HRET.out ?_ a w'' hI)
      · refine PI_mk (i := 0) ⟨⟨0, [], []⟩, [], [], .slice none 0 0, p.size, rfl, ?_, by simp, by simp, HR.out, ((Keeps.refl _ _ _).alloc (Nat.le_refl _) _).alloc (by simp) _⟩ rfl
        exact pr_start w false
      · intros
        rename_i w3 h3
        obtain ⟨r, its, gs, vi, rfl, hPR, hlp, hRR, hkk⟩ := h3
        obtain ⟨ri, done, opened⟩ := r
        have hb := hPR.blk
        have hop := hPR.op
        dsimp only at hb hop
        obtain ⟨ov, oc, rfl⟩ := own_form hop
        obtain ⟨c0, c1, c2, f0, f1, f2⟩ := hb.cells
        have HPR := hid hPR
        have HRR := hid hRR
        clear hPR hRR hop hb
        by_cases ho : opened = []
        · have hol : opened.length = 0 := by rw [ho]; rfl
          have HO := hid ho
          clear ho
          by_cases hc : 16 < done.length
          · have hd2 : decide ((16 : Int) < done.length) = true := decide_eq_true (by omega)
            go_wp2_with fail
            go_ret
            exact PatPost.no (by rw [HPAR.out, HRR.out, Option.bind_some]; rw [if_pos (Or.inr hc)]) hkk
          · have hd2 : decide ((16 : Int) < done.length) = false := decide_eq_false (by omega)
            go_wp2_with fail
            go_ret
            refine ⟨hkk, fun h => ?_, fun P hP => ?_⟩
            · rw [HPAR.out, HRR.out, Option.bind_some] at h
              rw [if_neg (by rw [not_or]; exact ⟨by simp [HO.out], hc⟩)] at h
              cases h
            · rw [HPAR.out, HRR.out, Option.bind_some] at hP
              rw [if_neg (by rw [not_or]; exact ⟨by simp [HO.out], hc⟩)] at hP
              simp only [Option.some.injEq] at hP
              subst hP
              exact ⟨w.heap.size, _, _, rfl, Nat.le_refl _, HPR.out.blk, HPR.out.it, HPR.out.len, HPR.out.sets⟩
        · have hol : 0 < opened.length := List.length_pos_iff.2 ho
          have hd1 : decide ((0 : Int) < opened.length) = true := decide_eq_true (by omega)
          have HO := hid ho
          clear ho
          go_wp2_with fail
          go_ret
          exact PatPost.no (by rw [HPAR.out, HRR.out, Option.bind_some]; rw [if_pos (Or.inl HO.out)]) hkk
    · go_wp2_with fail
      refine wp_loop (PI p w.heap.size w.heap.size (w.heap.size + 1) true R w) (fun a _ => PMu p a) ?_ (fun a w'' hI => pat_round (by omega) HRET.out ?_ a w'' hI)
      · refine PI_mk (i := 1) ⟨⟨1, [], []⟩, [], [], .slice none 0 0, p.size, rfl, ?_, by simp, by simp, HR.out, ((Keeps.refl _ _ _).alloc (Nat.le_refl _) _).alloc (by simp) _⟩ rfl
        exact pr_start w true
      · intros
        rename_i w3 h3
        obtain ⟨r, its, gs, vi, rfl, hPR, hlp, hRR, hkk⟩ := h3
        obtain ⟨ri, done, opened⟩ := r
        have hb := hPR.blk
        have hop := hPR.op
        dsimp only at hb hop
        obtain ⟨ov, oc, rfl⟩ := own_form hop
        obtain ⟨c0, c1, c2, f0, f1, f2⟩ := hb.cells
        have HPR := hid hPR
        have HRR := hid hRR
        clear hPR hRR hop hb
        by_cases ho : opened = []
        · have hol : opened.length = 0 := by rw [ho]; rfl
          have HO := hid ho
          clear ho
          by_cases hc : 16 < done.length
          · have hd2 : decide ((16 : Int) < done.length) = true := decide_eq_true (by omega)
            go_wp2_with fail
            go_ret
            exact PatPost.no (by rw [HPAR.out, HRR.out, Option.bind_some]; rw [if_pos (Or.inr hc)]) hkk
          · have hd2 : decide ((16 : Int) < done.length) = false := decide_eq_false (by omega)
            go_wp2_with fail
            go_ret
            refine ⟨hkk, fun h => ?_, fun P hP => ?_⟩
            · rw [HPAR.out, HRR.out, Option.bind_some] at h
              rw [if_neg (by rw [not_or]; exact ⟨by simp [HO.out], hc⟩)] at h
              cases h
            · rw [HPAR.out, HRR.out, Option.bind_some] at hP
              rw [if_neg (by rw [not_or]; exact ⟨by simp [HO.out], hc⟩)] at hP
              simp only [Option.some.injEq] at hP
              subst hP
              exact ⟨w.heap.size, _, _, rfl, Nat.le_refl _, HPR.out.blk, HPR.out.it, HPR.out.len, HPR.out.sets⟩
        · have hol : 0 < opened.length := List.length_pos_iff.2 ho
          have hd1 : decide ((0 : Int) < opened.length) = true := decide_eq_true (by omega)
          have HO := hid ho
          clear ho
          go_wp2_with fail
          go_ret
          exact PatPost.no (by rw [HPAR.out, HRR.out, Option.bind_some]; rw [if_pos (Or.inl HO.out)]) hkk
end Go.Proofs.YtpinoolagbghnaaDoor
