/-
  Walk: rounds of the program's reader of patterns: what is not right.
-/
import Derived.Test.YtpinoolagbghnaaDoorZPatS
namespace Go.Proofs.YtpinoolagbghnaaDoor
set_option linter.unusedVariables false
open Go.RowKit Go.Maps Pat

set_option maxRecDepth 1000000 in
set_option maxHeartbeats 4000000 in
theorem pat_short {p : ByteArray} {B pc mp : Nat} {anch : Bool} {R : Option (List It × Rd)} {W0 wr : World} {i gk : Nat} {done : List Bool} {opened : List Nat} {its : List It} {gs : List Nat} {vi vo : Value} {K0 : Act → World → Prop} {Po : Ending → World → Prop} {u1 u7 u8 u9 u10 u11 u12 u13 u14 u15 u16 u17 u18 u19 u20 u21 u22 u23 u24 u25 u26 u27 u28 u29 u30 u31 u32 u33 u34 u35 u36 u37 u38 u39 u40 u41 u42 u43 u44 u45 u46 u47 u48 u49 u50 u51 u52 u53 u54 u55 u56 u57 u58 u59 u60 u61 u62 u63 u64 u65 u66 u67 u68 u69 u70 u71 u72 u73 u74 u75 u76 u77 u78 u79 u80 u81 u82 u83 u84 u85 u86 u87 u88 u89 u90 u91 u92 u93 u94 u95 u96 u97 u98 u99 u100 u101 u102 u103 u104 u105 u106 u107 u108 u109 u110 u111 u112 u113 u114 u115 u116 u117 u118 u119 u120 u121 u122 u123 u124 u125 u126 u127 u128 u129 u130 u131 u132 u133 u134 u135 u136 u137 u138 u139 u140 u141 u142 u143 u144 u145 u146 u147 u148 u149 u150 u151 u152 u153 u154 u155 u156 u157 u158 u159 u160 u161 u162 u163 u164 u165 u166 u167 u168 u169 u170 u171 u172 u173 u174 u175 u176 u177 u178 u179 u180 u181 u182 u183 u184 u185 u186 u187 u188 u189 u190 u191 u192 u193 u194 u195 u196 u197 u198 u199 u200 u201 u202 u203 u204 u205 u206 u207 u208 u209 u210 u211 u212 u213 u214 u215 u216 u217 u218 u219 u220 u221 u222 u223 u224 u225 u226 u227 u228 u229 u230 u231 u232 u233 u234 u235 u236 u237 u238 u239 u240 u241 u242 u243 u244 u245 u246 u247 u248 u249 u250 u251 u252 u253 u254 u255 u256 u257 u258 u259 u260 u261 u262 u263 u264 u265 u266 u267 u268 u269 u270 u271 u272 u273 u274 u275 u276 u277 u278 u279 u280 u281 u282 u283 u284 u285 u286 u287 u288 u289 u290 u291 u292 u293 u294 u295 u296 u297 u298 u299 u300 u301 u302 u303 u304 u305 u306 u307 u308 u309 u310 u311 u312 u313 u314 u315 u316 u317 u318 u319 u320 u321 u322 u323 u324 : Value}
    (hp : p.size ≤ 200) (hS : PR B p pc mp anch ⟨i, done, opened⟩ its gs vi vo wr) (hgk : p.size ≤ i + gk) (hlp : its.length ≤ p.size) (HG : Hid (R = itemsGo p gk ⟨i, done, opened⟩ its)) (hkk : Keeps B [] W0 wr)
    (hret : ∀ w' : World, R = none → Keeps B [] W0 w' → Po (.returned (.pointer none)) w') (hi : i < p.size) (hc : bt p i = 37) (h1 : ¬ i + 1 < p.size) :
    Code.wp Tryd.prog patBody (Exit.then (fun a' w' => PI p B pc mp anch R W0 a' w' ∧ PMu p a' < PMu p ⟨#[.string p, u1, .pointer none, .pointer (some ⟨pc, 0, none⟩), .int .i64 i, vo, .map (some mp), u7, u8, u9, u10, u11, u12, u13, u14, u15, u16, u17, u18, u19, u20, u21, u22, u23, u24, u25, u26, u27, u28, u29, u30, u31, u32, u33, u34, u35, u36, u37, u38, u39, u40, u41, u42, u43, u44, u45, u46, u47, u48, u49, u50, u51, u52, u53, u54, u55, u56, u57, u58, u59, u60, u61, u62, u63, u64, u65, u66, u67, u68, u69, u70, u71, u72, u73, u74, u75, u76, u77, u78, u79, u80, u81, u82, u83, u84, u85, u86, u87, u88, u89, u90, u91, u92, u93, u94, u95, u96, u97, u98, u99, u100, u101, u102, u103, u104, u105, u106, u107, u108, u109, u110, u111, u112, u113, u114, u115, u116, u117, u118, u119, u120, u121, u122, u123, u124, u125, u126, u127, u128, u129, u130, u131, u132, u133, u134, u135, u136, u137, u138, u139, u140, u141, u142, u143, u144, u145, u146, u147, u148, u149, u150, u151, u152, u153, u154, u155, u156, u157, u158, u159, u160, u161, u162, u163, u164, u165, u166, u167, u168, u169, u170, u171, u172, u173, u174, u175, u176, u177, u178, u179, u180, u181, u182, u183, u184, u185, u186, u187, u188, u189, u190, u191, u192, u193, u194, u195, u196, u197, u198, u199, u200, u201, u202, u203, u204, u205, u206, u207, u208, u209, u210, u211, u212, u213, u214, u215, u216, u217, u218, u219, u220, u221, u222, u223, u224, u225, u226, u227, u228, u229, u230, u231, u232, u233, u234, u235, u236, u237, u238, u239, u240, u241, u242, u243, u244, u245, u246, u247, u248, u249, u250, u251, u252, u253, u254, u255, u256, u257, u258, u259, u260, u261, u262, u263, u264, u265, u266, u267, u268, u269, u270, u271, u272, u273, u274, u275, u276, u277, u278, u279, u280, u281, u282, u283, u284, u285, u286, u287, u288, u289, u290, u291, u292, u293, u294, u295, u296, u297, u298, u299, u300, u301, u302, u303, u304, u305, u306, u307, u308, u309, u310, u311, u312, u313, u314, u315, u316, u317, u318, u319, u320, u321, u322, u323, u324], []⟩) (Exit.inBlock 0 (Exit.then K0 (bodyPost Tryd.prog Tryd.f10 Po)))) ⟨#[.string p, u1, .pointer none, .pointer (some ⟨pc, 0, none⟩), .int .i64 i, vo, .map (some mp), u7, u8, u9, u10, u11, u12, u13, u14, u15, u16, u17, u18, u19, u20, u21, u22, u23, u24, u25, u26, u27, u28, u29, u30, u31, u32, u33, u34, u35, u36, u37, u38, u39, u40, u41, u42, u43, u44, u45, u46, u47, u48, u49, u50, u51, u52, u53, u54, u55, u56, u57, u58, u59, u60, u61, u62, u63, u64, u65, u66, u67, u68, u69, u70, u71, u72, u73, u74, u75, u76, u77, u78, u79, u80, u81, u82, u83, u84, u85, u86, u87, u88, u89, u90, u91, u92, u93, u94, u95, u96, u97, u98, u99, u100, u101, u102, u103, u104, u105, u106, u107, u108, u109, u110, u111, u112, u113, u114, u115, u116, u117, u118, u119, u120, u121, u122, u123, u124, u125, u126, u127, u128, u129, u130, u131, u132, u133, u134, u135, u136, u137, u138, u139, u140, u141, u142, u143, u144, u145, u146, u147, u148, u149, u150, u151, u152, u153, u154, u155, u156, u157, u158, u159, u160, u161, u162, u163, u164, u165, u166, u167, u168, u169, u170, u171, u172, u173, u174, u175, u176, u177, u178, u179, u180, u181, u182, u183, u184, u185, u186, u187, u188, u189, u190, u191, u192, u193, u194, u195, u196, u197, u198, u199, u200, u201, u202, u203, u204, u205, u206, u207, u208, u209, u210, u211, u212, u213, u214, u215, u216, u217, u218, u219, u220, u221, u222, u223, u224, u225, u226, u227, u228, u229, u230, u231, u232, u233, u234, u235, u236, u237, u238, u239, u240, u241, u242, u243, u244, u245, u246, u247, u248, u249, u250, u251, u252, u253, u254, u255, u256, u257, u258, u259, u260, u261, u262, u263, u264, u265, u266, u267, u268, u269, u270, u271, u272, u273, u274, u275, u276, u277, u278, u279, u280, u281, u282, u283, u284, u285, u286, u287, u288, u289, u290, u291, u292, u293, u294, u295, u296, u297, u298, u299, u300, u301, u302, u303, u304, u305, u306, u307, u308, u309, u310, u311, u312, u313, u314, u315, u316, u317, u318, u319, u320, u321, u322, u323, u324], []⟩ wr := by
  have hd : decide (i < p.size) = true := decide_eq_true hi
  have t1 := rest_dollar hi
  rw [decide_eq_false (by omega)] at t1
  have t2 : Go.Lib.hasPrefix (p.extract i p.size).data.toList (ByteArray.mk #[40, 41]).data.toList = false := rest_unit.trans (decide_eq_false (fun h => by omega))
  have T2 := hid t2
  clear t2
  have hrs : 0 < p.size - i := by omega
  have hrs2 : 0 < (p.extract i p.size).size := by simp; omega
  have e0 : ∀ h : 0 < (p.extract i p.size).size, (((p.extract i p.size)[0]'h).toNat : Int) = bt p i := fun h => (rest_at h).trans (by rw [Nat.add_zero])
  have t3 : Go.Lib.hasPrefix (p.extract i p.size).data.toList (ByteArray.mk #[37, 98]).data.toList = false := rest_pb.trans (decide_eq_false (fun h => by omega))
  have T3 := hid t3
  have t4 : Go.Lib.hasPrefix (p.extract i p.size).data.toList (ByteArray.mk #[37, 102, 91]).data.toList = false := rest_pf.trans (decide_eq_false (fun h => by omega))
  have T4 := hid t4
  clear t3 t4
  have c40 : (bt p i == 40) = false := by rw [hc]; rfl
  have c41 : (bt p i == 41) = false := by rw [hc]; rfl
  have c37 : (bt p i == 37) = true := by simpa using hc
  have ds1 : decide (1 < p.size - i) = false := decide_eq_false (by omega)
  have ds2 : decide (p.size - i < 2) = true := decide_eq_true (by omega)
  have hit : itemAt p ⟨i, done, opened⟩ = none := by
    unfold itemAt; simp only []
    rw [if_neg (by omega), if_neg (by omega), if_neg (fun h => h1 (of_decide_eq_true h.2.1)), if_neg (fun h => h1 (of_decide_eq_true h.2.1)), if_neg (fun h => h1 (of_decide_eq_true h.2.1)), if_neg (by omega)]
    unfold singleAt
    rw [if_neg (by omega), if_neg (by omega), if_pos hc, if_pos (by omega)]
  obtain ⟨gk', rfl⟩ : ∃ x, gk = x + 1 := ⟨gk - 1, by omega⟩
  have HR : Hid (R = none) := hid (HG.out.trans (itemsGo_bad hi hit))
  clear HG hit
  clear hS hc
  conv => arg 2; whnf
  go_wp2_with fail
  refine (pre_any _ _ _).mono ?_
  rintro e w' ⟨rfl, rfl⟩
  rw [T2.out]
  go_wp2_with fail
  refine (pre_any _ _ _).mono ?_
  rintro e w' ⟨rfl, rfl⟩
  rw [T3.out]
  go_wp2_with fail
  refine (pre_any _ _ _).mono ?_
  rintro e w' ⟨rfl, rfl⟩
  rw [T4.out]
  go_wp2_with fail
  exact hret _ HR.out hkk

set_option maxRecDepth 1000000 in
set_option maxHeartbeats 4000000 in
theorem pat_pct0 {p : ByteArray} {B pc mp : Nat} {anch : Bool} {R : Option (List It × Rd)} {W0 wr : World} {i gk : Nat} {done : List Bool} {opened : List Nat} {its : List It} {gs : List Nat} {vi vo : Value} {K0 : Act → World → Prop} {Po : Ending → World → Prop} {u1 u7 u8 u9 u10 u11 u12 u13 u14 u15 u16 u17 u18 u19 u20 u21 u22 u23 u24 u25 u26 u27 u28 u29 u30 u31 u32 u33 u34 u35 u36 u37 u38 u39 u40 u41 u42 u43 u44 u45 u46 u47 u48 u49 u50 u51 u52 u53 u54 u55 u56 u57 u58 u59 u60 u61 u62 u63 u64 u65 u66 u67 u68 u69 u70 u71 u72 u73 u74 u75 u76 u77 u78 u79 u80 u81 u82 u83 u84 u85 u86 u87 u88 u89 u90 u91 u92 u93 u94 u95 u96 u97 u98 u99 u100 u101 u102 u103 u104 u105 u106 u107 u108 u109 u110 u111 u112 u113 u114 u115 u116 u117 u118 u119 u120 u121 u122 u123 u124 u125 u126 u127 u128 u129 u130 u131 u132 u133 u134 u135 u136 u137 u138 u139 u140 u141 u142 u143 u144 u145 u146 u147 u148 u149 u150 u151 u152 u153 u154 u155 u156 u157 u158 u159 u160 u161 u162 u163 u164 u165 u166 u167 u168 u169 u170 u171 u172 u173 u174 u175 u176 u177 u178 u179 u180 u181 u182 u183 u184 u185 u186 u187 u188 u189 u190 u191 u192 u193 u194 u195 u196 u197 u198 u199 u200 u201 u202 u203 u204 u205 u206 u207 u208 u209 u210 u211 u212 u213 u214 u215 u216 u217 u218 u219 u220 u221 u222 u223 u224 u225 u226 u227 u228 u229 u230 u231 u232 u233 u234 u235 u236 u237 u238 u239 u240 u241 u242 u243 u244 u245 u246 u247 u248 u249 u250 u251 u252 u253 u254 u255 u256 u257 u258 u259 u260 u261 u262 u263 u264 u265 u266 u267 u268 u269 u270 u271 u272 u273 u274 u275 u276 u277 u278 u279 u280 u281 u282 u283 u284 u285 u286 u287 u288 u289 u290 u291 u292 u293 u294 u295 u296 u297 u298 u299 u300 u301 u302 u303 u304 u305 u306 u307 u308 u309 u310 u311 u312 u313 u314 u315 u316 u317 u318 u319 u320 u321 u322 u323 u324 : Value}
    (hp : p.size ≤ 200) (hS : PR B p pc mp anch ⟨i, done, opened⟩ its gs vi vo wr) (hgk : p.size ≤ i + gk) (hlp : its.length ≤ p.size) (HG : Hid (R = itemsGo p gk ⟨i, done, opened⟩ its)) (hkk : Keeps B [] W0 wr)
    (hret : ∀ w' : World, R = none → Keeps B [] W0 w' → Po (.returned (.pointer none)) w') (hi : i < p.size) (hc : bt p i = 37) (h1 : i + 1 < p.size) (hdg : digB (bt p (i + 1)) = false) (he : esc (bt p (i + 1)) = none) (hb : bt p (i + 1) ≠ 98) (hf : ¬ (bt p (i + 1) = 102 ∧ i + 2 < p.size ∧ bt p (i + 2) = 91)) :
    Code.wp Tryd.prog patBody (Exit.then (fun a' w' => PI p B pc mp anch R W0 a' w' ∧ PMu p a' < PMu p ⟨#[.string p, u1, .pointer none, .pointer (some ⟨pc, 0, none⟩), .int .i64 i, vo, .map (some mp), u7, u8, u9, u10, u11, u12, u13, u14, u15, u16, u17, u18, u19, u20, u21, u22, u23, u24, u25, u26, u27, u28, u29, u30, u31, u32, u33, u34, u35, u36, u37, u38, u39, u40, u41, u42, u43, u44, u45, u46, u47, u48, u49, u50, u51, u52, u53, u54, u55, u56, u57, u58, u59, u60, u61, u62, u63, u64, u65, u66, u67, u68, u69, u70, u71, u72, u73, u74, u75, u76, u77, u78, u79, u80, u81, u82, u83, u84, u85, u86, u87, u88, u89, u90, u91, u92, u93, u94, u95, u96, u97, u98, u99, u100, u101, u102, u103, u104, u105, u106, u107, u108, u109, u110, u111, u112, u113, u114, u115, u116, u117, u118, u119, u120, u121, u122, u123, u124, u125, u126, u127, u128, u129, u130, u131, u132, u133, u134, u135, u136, u137, u138, u139, u140, u141, u142, u143, u144, u145, u146, u147, u148, u149, u150, u151, u152, u153, u154, u155, u156, u157, u158, u159, u160, u161, u162, u163, u164, u165, u166, u167, u168, u169, u170, u171, u172, u173, u174, u175, u176, u177, u178, u179, u180, u181, u182, u183, u184, u185, u186, u187, u188, u189, u190, u191, u192, u193, u194, u195, u196, u197, u198, u199, u200, u201, u202, u203, u204, u205, u206, u207, u208, u209, u210, u211, u212, u213, u214, u215, u216, u217, u218, u219, u220, u221, u222, u223, u224, u225, u226, u227, u228, u229, u230, u231, u232, u233, u234, u235, u236, u237, u238, u239, u240, u241, u242, u243, u244, u245, u246, u247, u248, u249, u250, u251, u252, u253, u254, u255, u256, u257, u258, u259, u260, u261, u262, u263, u264, u265, u266, u267, u268, u269, u270, u271, u272, u273, u274, u275, u276, u277, u278, u279, u280, u281, u282, u283, u284, u285, u286, u287, u288, u289, u290, u291, u292, u293, u294, u295, u296, u297, u298, u299, u300, u301, u302, u303, u304, u305, u306, u307, u308, u309, u310, u311, u312, u313, u314, u315, u316, u317, u318, u319, u320, u321, u322, u323, u324], []⟩) (Exit.inBlock 0 (Exit.then K0 (bodyPost Tryd.prog Tryd.f10 Po)))) ⟨#[.string p, u1, .pointer none, .pointer (some ⟨pc, 0, none⟩), .int .i64 i, vo, .map (some mp), u7, u8, u9, u10, u11, u12, u13, u14, u15, u16, u17, u18, u19, u20, u21, u22, u23, u24, u25, u26, u27, u28, u29, u30, u31, u32, u33, u34, u35, u36, u37, u38, u39, u40, u41, u42, u43, u44, u45, u46, u47, u48, u49, u50, u51, u52, u53, u54, u55, u56, u57, u58, u59, u60, u61, u62, u63, u64, u65, u66, u67, u68, u69, u70, u71, u72, u73, u74, u75, u76, u77, u78, u79, u80, u81, u82, u83, u84, u85, u86, u87, u88, u89, u90, u91, u92, u93, u94, u95, u96, u97, u98, u99, u100, u101, u102, u103, u104, u105, u106, u107, u108, u109, u110, u111, u112, u113, u114, u115, u116, u117, u118, u119, u120, u121, u122, u123, u124, u125, u126, u127, u128, u129, u130, u131, u132, u133, u134, u135, u136, u137, u138, u139, u140, u141, u142, u143, u144, u145, u146, u147, u148, u149, u150, u151, u152, u153, u154, u155, u156, u157, u158, u159, u160, u161, u162, u163, u164, u165, u166, u167, u168, u169, u170, u171, u172, u173, u174, u175, u176, u177, u178, u179, u180, u181, u182, u183, u184, u185, u186, u187, u188, u189, u190, u191, u192, u193, u194, u195, u196, u197, u198, u199, u200, u201, u202, u203, u204, u205, u206, u207, u208, u209, u210, u211, u212, u213, u214, u215, u216, u217, u218, u219, u220, u221, u222, u223, u224, u225, u226, u227, u228, u229, u230, u231, u232, u233, u234, u235, u236, u237, u238, u239, u240, u241, u242, u243, u244, u245, u246, u247, u248, u249, u250, u251, u252, u253, u254, u255, u256, u257, u258, u259, u260, u261, u262, u263, u264, u265, u266, u267, u268, u269, u270, u271, u272, u273, u274, u275, u276, u277, u278, u279, u280, u281, u282, u283, u284, u285, u286, u287, u288, u289, u290, u291, u292, u293, u294, u295, u296, u297, u298, u299, u300, u301, u302, u303, u304, u305, u306, u307, u308, u309, u310, u311, u312, u313, u314, u315, u316, u317, u318, u319, u320, u321, u322, u323, u324], []⟩ wr := by
  have hd : decide (i < p.size) = true := decide_eq_true hi
  have t1 := rest_dollar hi
  rw [decide_eq_false (by omega)] at t1
  have t2 : Go.Lib.hasPrefix (p.extract i p.size).data.toList (ByteArray.mk #[40, 41]).data.toList = false := rest_unit.trans (decide_eq_false (fun h => by omega))
  have T2 := hid t2
  clear t2
  have hrs : 0 < p.size - i := by omega
  have hrs2 : 0 < (p.extract i p.size).size := by simp; omega
  have e0 : ∀ h : 0 < (p.extract i p.size).size, (((p.extract i p.size)[0]'h).toNat : Int) = bt p i := fun h => (rest_at h).trans (by rw [Nat.add_zero])
  have hrs1 : 1 < p.size - i := by omega
  have hrs3 : 1 < (p.extract i p.size).size := by simp; omega
  have e1 : ∀ h : 1 < (p.extract i p.size).size, (((p.extract i p.size)[1]'h).toNat : Int) = bt p (i + 1) := fun h => rest_at h
  have ds1 : decide (1 < p.size - i) = true := decide_eq_true (by omega)
  have c40 : (bt p i == 40) = false := by rw [hc]; rfl
  have c41 : (bt p i == 41) = false := by rw [hc]; rfl
  have c37 : (bt p i == 37) = true := by simpa using hc
  have t3 : Go.Lib.hasPrefix (p.extract i p.size).data.toList (ByteArray.mk #[37, 98]).data.toList = false := rest_pb.trans (decide_eq_false (fun h => hb h.2.2))
  have T3 := hid t3
  have t4 : Go.Lib.hasPrefix (p.extract i p.size).data.toList (ByteArray.mk #[37, 102, 91]).data.toList = false := rest_pf.trans (decide_eq_false (fun h => hf ⟨h.2.2.1, h.1, h.2.2.2⟩))
  have T4 := hid t4
  clear t3 t4
  have hit : itemAt p ⟨i, done, opened⟩ = none := by
    unfold itemAt; simp only []
    rw [if_neg (by omega), if_neg (by omega), if_neg (by rw [hdg]; simp), if_neg (fun h => hb h.2.2)]
    by_cases h102 : bt p (i + 1) = 102
    · rw [if_pos ⟨hc, decide_eq_true h1, h102⟩, if_neg (fun h => hf ⟨h102, h.1, h.2⟩)]
    rw [if_neg (fun h => h102 h.2.2), if_neg (by omega)]
    unfold singleAt
    rw [if_neg (by omega), if_neg (by omega), if_pos hc, if_neg (by omega), he]
  clear hS
  have HDG := hid hdg
  have HE := hid he
  have hb10 := bt_nonneg p (i + 1)
  have hb1255 := bt_le p (i + 1)
  obtain ⟨gk', rfl⟩ : ∃ x, gk = x + 1 := ⟨gk - 1, by omega⟩
  have HR : Hid (R = none) := hid (HG.out.trans (itemsGo_bad hi hit))
  clear HG hit
  clear hc hdg he
  conv => arg 2; whnf
  go_wp2_with fail
  refine (pre_any _ _ _).mono ?_
  rintro e w' ⟨rfl, rfl⟩
  rw [T2.out]
  go_wp2_with fail
  refine (isDigit_any _ _).mono ?_
  rintro e w' ⟨rfl, rfl⟩
  rw [HDG.out]
  go_wp2_with fail
  refine (pre_any _ _ _).mono ?_
  rintro e w' ⟨rfl, rfl⟩
  rw [T3.out]
  go_wp2_with fail
  refine (pre_any _ _ _).mono ?_
  rintro e w' ⟨rfl, rfl⟩
  rw [T4.out]
  go_wp2_with fail
  refine (percent_none _ hb10 hb1255 HE.out _).mono ?_
  rintro e w' ⟨rfl, rfl⟩
  go_wp2_with fail
  exact hret _ HR.out hkk

set_option maxRecDepth 1000000 in
set_option maxHeartbeats 4000000 in
theorem pat_pct98 {p : ByteArray} {B pc mp : Nat} {anch : Bool} {R : Option (List It × Rd)} {W0 wr : World} {i gk : Nat} {done : List Bool} {opened : List Nat} {its : List It} {gs : List Nat} {vi vo : Value} {K0 : Act → World → Prop} {Po : Ending → World → Prop} {u1 u7 u8 u9 u10 u11 u12 u13 u14 u15 u16 u17 u18 u19 u20 u21 u22 u23 u24 u25 u26 u27 u28 u29 u30 u31 u32 u33 u34 u35 u36 u37 u38 u39 u40 u41 u42 u43 u44 u45 u46 u47 u48 u49 u50 u51 u52 u53 u54 u55 u56 u57 u58 u59 u60 u61 u62 u63 u64 u65 u66 u67 u68 u69 u70 u71 u72 u73 u74 u75 u76 u77 u78 u79 u80 u81 u82 u83 u84 u85 u86 u87 u88 u89 u90 u91 u92 u93 u94 u95 u96 u97 u98 u99 u100 u101 u102 u103 u104 u105 u106 u107 u108 u109 u110 u111 u112 u113 u114 u115 u116 u117 u118 u119 u120 u121 u122 u123 u124 u125 u126 u127 u128 u129 u130 u131 u132 u133 u134 u135 u136 u137 u138 u139 u140 u141 u142 u143 u144 u145 u146 u147 u148 u149 u150 u151 u152 u153 u154 u155 u156 u157 u158 u159 u160 u161 u162 u163 u164 u165 u166 u167 u168 u169 u170 u171 u172 u173 u174 u175 u176 u177 u178 u179 u180 u181 u182 u183 u184 u185 u186 u187 u188 u189 u190 u191 u192 u193 u194 u195 u196 u197 u198 u199 u200 u201 u202 u203 u204 u205 u206 u207 u208 u209 u210 u211 u212 u213 u214 u215 u216 u217 u218 u219 u220 u221 u222 u223 u224 u225 u226 u227 u228 u229 u230 u231 u232 u233 u234 u235 u236 u237 u238 u239 u240 u241 u242 u243 u244 u245 u246 u247 u248 u249 u250 u251 u252 u253 u254 u255 u256 u257 u258 u259 u260 u261 u262 u263 u264 u265 u266 u267 u268 u269 u270 u271 u272 u273 u274 u275 u276 u277 u278 u279 u280 u281 u282 u283 u284 u285 u286 u287 u288 u289 u290 u291 u292 u293 u294 u295 u296 u297 u298 u299 u300 u301 u302 u303 u304 u305 u306 u307 u308 u309 u310 u311 u312 u313 u314 u315 u316 u317 u318 u319 u320 u321 u322 u323 u324 : Value}
    (hp : p.size ≤ 200) (hS : PR B p pc mp anch ⟨i, done, opened⟩ its gs vi vo wr) (hgk : p.size ≤ i + gk) (hlp : its.length ≤ p.size) (HG : Hid (R = itemsGo p gk ⟨i, done, opened⟩ its)) (hkk : Keeps B [] W0 wr)
    (hret : ∀ w' : World, R = none → Keeps B [] W0 w' → Po (.returned (.pointer none)) w') (hi : i < p.size) (hc : bt p i = 37) (h1 : i + 1 < p.size) (hdg : digB (bt p (i + 1)) = false) (he : esc (bt p (i + 1)) = none) (hb : bt p (i + 1) = 98) (h3 : ¬ i + 3 < p.size) :
    Code.wp Tryd.prog patBody (Exit.then (fun a' w' => PI p B pc mp anch R W0 a' w' ∧ PMu p a' < PMu p ⟨#[.string p, u1, .pointer none, .pointer (some ⟨pc, 0, none⟩), .int .i64 i, vo, .map (some mp), u7, u8, u9, u10, u11, u12, u13, u14, u15, u16, u17, u18, u19, u20, u21, u22, u23, u24, u25, u26, u27, u28, u29, u30, u31, u32, u33, u34, u35, u36, u37, u38, u39, u40, u41, u42, u43, u44, u45, u46, u47, u48, u49, u50, u51, u52, u53, u54, u55, u56, u57, u58, u59, u60, u61, u62, u63, u64, u65, u66, u67, u68, u69, u70, u71, u72, u73, u74, u75, u76, u77, u78, u79, u80, u81, u82, u83, u84, u85, u86, u87, u88, u89, u90, u91, u92, u93, u94, u95, u96, u97, u98, u99, u100, u101, u102, u103, u104, u105, u106, u107, u108, u109, u110, u111, u112, u113, u114, u115, u116, u117, u118, u119, u120, u121, u122, u123, u124, u125, u126, u127, u128, u129, u130, u131, u132, u133, u134, u135, u136, u137, u138, u139, u140, u141, u142, u143, u144, u145, u146, u147, u148, u149, u150, u151, u152, u153, u154, u155, u156, u157, u158, u159, u160, u161, u162, u163, u164, u165, u166, u167, u168, u169, u170, u171, u172, u173, u174, u175, u176, u177, u178, u179, u180, u181, u182, u183, u184, u185, u186, u187, u188, u189, u190, u191, u192, u193, u194, u195, u196, u197, u198, u199, u200, u201, u202, u203, u204, u205, u206, u207, u208, u209, u210, u211, u212, u213, u214, u215, u216, u217, u218, u219, u220, u221, u222, u223, u224, u225, u226, u227, u228, u229, u230, u231, u232, u233, u234, u235, u236, u237, u238, u239, u240, u241, u242, u243, u244, u245, u246, u247, u248, u249, u250, u251, u252, u253, u254, u255, u256, u257, u258, u259, u260, u261, u262, u263, u264, u265, u266, u267, u268, u269, u270, u271, u272, u273, u274, u275, u276, u277, u278, u279, u280, u281, u282, u283, u284, u285, u286, u287, u288, u289, u290, u291, u292, u293, u294, u295, u296, u297, u298, u299, u300, u301, u302, u303, u304, u305, u306, u307, u308, u309, u310, u311, u312, u313, u314, u315, u316, u317, u318, u319, u320, u321, u322, u323, u324], []⟩) (Exit.inBlock 0 (Exit.then K0 (bodyPost Tryd.prog Tryd.f10 Po)))) ⟨#[.string p, u1, .pointer none, .pointer (some ⟨pc, 0, none⟩), .int .i64 i, vo, .map (some mp), u7, u8, u9, u10, u11, u12, u13, u14, u15, u16, u17, u18, u19, u20, u21, u22, u23, u24, u25, u26, u27, u28, u29, u30, u31, u32, u33, u34, u35, u36, u37, u38, u39, u40, u41, u42, u43, u44, u45, u46, u47, u48, u49, u50, u51, u52, u53, u54, u55, u56, u57, u58, u59, u60, u61, u62, u63, u64, u65, u66, u67, u68, u69, u70, u71, u72, u73, u74, u75, u76, u77, u78, u79, u80, u81, u82, u83, u84, u85, u86, u87, u88, u89, u90, u91, u92, u93, u94, u95, u96, u97, u98, u99, u100, u101, u102, u103, u104, u105, u106, u107, u108, u109, u110, u111, u112, u113, u114, u115, u116, u117, u118, u119, u120, u121, u122, u123, u124, u125, u126, u127, u128, u129, u130, u131, u132, u133, u134, u135, u136, u137, u138, u139, u140, u141, u142, u143, u144, u145, u146, u147, u148, u149, u150, u151, u152, u153, u154, u155, u156, u157, u158, u159, u160, u161, u162, u163, u164, u165, u166, u167, u168, u169, u170, u171, u172, u173, u174, u175, u176, u177, u178, u179, u180, u181, u182, u183, u184, u185, u186, u187, u188, u189, u190, u191, u192, u193, u194, u195, u196, u197, u198, u199, u200, u201, u202, u203, u204, u205, u206, u207, u208, u209, u210, u211, u212, u213, u214, u215, u216, u217, u218, u219, u220, u221, u222, u223, u224, u225, u226, u227, u228, u229, u230, u231, u232, u233, u234, u235, u236, u237, u238, u239, u240, u241, u242, u243, u244, u245, u246, u247, u248, u249, u250, u251, u252, u253, u254, u255, u256, u257, u258, u259, u260, u261, u262, u263, u264, u265, u266, u267, u268, u269, u270, u271, u272, u273, u274, u275, u276, u277, u278, u279, u280, u281, u282, u283, u284, u285, u286, u287, u288, u289, u290, u291, u292, u293, u294, u295, u296, u297, u298, u299, u300, u301, u302, u303, u304, u305, u306, u307, u308, u309, u310, u311, u312, u313, u314, u315, u316, u317, u318, u319, u320, u321, u322, u323, u324], []⟩ wr := by
  have hd : decide (i < p.size) = true := decide_eq_true hi
  have t1 := rest_dollar hi
  rw [decide_eq_false (by omega)] at t1
  have t2 : Go.Lib.hasPrefix (p.extract i p.size).data.toList (ByteArray.mk #[40, 41]).data.toList = false := rest_unit.trans (decide_eq_false (fun h => by omega))
  have T2 := hid t2
  clear t2
  have hrs : 0 < p.size - i := by omega
  have hrs2 : 0 < (p.extract i p.size).size := by simp; omega
  have e0 : ∀ h : 0 < (p.extract i p.size).size, (((p.extract i p.size)[0]'h).toNat : Int) = bt p i := fun h => (rest_at h).trans (by rw [Nat.add_zero])
  have hrs1 : 1 < p.size - i := by omega
  have hrs3 : 1 < (p.extract i p.size).size := by simp; omega
  have e1 : ∀ h : 1 < (p.extract i p.size).size, (((p.extract i p.size)[1]'h).toNat : Int) = bt p (i + 1) := fun h => rest_at h
  have ds1 : decide (1 < p.size - i) = true := decide_eq_true (by omega)
  have c40 : (bt p i == 40) = false := by rw [hc]; rfl
  have c41 : (bt p i == 41) = false := by rw [hc]; rfl
  have c37 : (bt p i == 37) = true := by simpa using hc
  have t3 : Go.Lib.hasPrefix (p.extract i p.size).data.toList (ByteArray.mk #[37, 98]).data.toList = true := rest_pb.trans (decide_eq_true ⟨h1, hc, hb⟩)
  have T3 := hid t3
  have t4 : Go.Lib.hasPrefix (p.extract i p.size).data.toList (ByteArray.mk #[37, 102, 91]).data.toList = false := rest_pf.trans (decide_eq_false (fun h => by omega))
  have T4 := hid t4
  clear t3 t4
  have d4 : decide (4 ≤ p.size - i) = false := decide_eq_false (by omega)
  have hit : itemAt p ⟨i, done, opened⟩ = none := by
    unfold itemAt; simp only []
    rw [if_neg (by omega), if_neg (by omega), if_neg (by rw [hdg]; simp), if_pos ⟨hc, decide_eq_true h1, hb⟩, if_neg h3]
  clear hS hb
  have HDG := hid hdg
  have HE := hid he
  have hb10 := bt_nonneg p (i + 1)
  have hb1255 := bt_le p (i + 1)
  obtain ⟨gk', rfl⟩ : ∃ x, gk = x + 1 := ⟨gk - 1, by omega⟩
  have HR : Hid (R = none) := hid (HG.out.trans (itemsGo_bad hi hit))
  clear HG hit
  clear hc hdg he
  conv => arg 2; whnf
  go_wp2_with fail
  refine (pre_any _ _ _).mono ?_
  rintro e w' ⟨rfl, rfl⟩
  rw [T2.out]
  go_wp2_with fail
  refine (isDigit_any _ _).mono ?_
  rintro e w' ⟨rfl, rfl⟩
  rw [HDG.out]
  go_wp2_with fail
  refine (pre_any _ _ _).mono ?_
  rintro e w' ⟨rfl, rfl⟩
  rw [T3.out]
  go_wp2_with fail
  refine (pre_any _ _ _).mono ?_
  rintro e w' ⟨rfl, rfl⟩
  rw [T4.out]
  go_wp2_with fail
  refine (percent_none _ hb10 hb1255 HE.out _).mono ?_
  rintro e w' ⟨rfl, rfl⟩
  go_wp2_with fail
  exact hret _ HR.out hkk

set_option maxRecDepth 1000000 in
set_option maxHeartbeats 4000000 in
theorem pat_pct102 {p : ByteArray} {B pc mp : Nat} {anch : Bool} {R : Option (List It × Rd)} {W0 wr : World} {i gk : Nat} {done : List Bool} {opened : List Nat} {its : List It} {gs : List Nat} {vi vo : Value} {K0 : Act → World → Prop} {Po : Ending → World → Prop} {u1 u7 u8 u9 u10 u11 u12 u13 u14 u15 u16 u17 u18 u19 u20 u21 u22 u23 u24 u25 u26 u27 u28 u29 u30 u31 u32 u33 u34 u35 u36 u37 u38 u39 u40 u41 u42 u43 u44 u45 u46 u47 u48 u49 u50 u51 u52 u53 u54 u55 u56 u57 u58 u59 u60 u61 u62 u63 u64 u65 u66 u67 u68 u69 u70 u71 u72 u73 u74 u75 u76 u77 u78 u79 u80 u81 u82 u83 u84 u85 u86 u87 u88 u89 u90 u91 u92 u93 u94 u95 u96 u97 u98 u99 u100 u101 u102 u103 u104 u105 u106 u107 u108 u109 u110 u111 u112 u113 u114 u115 u116 u117 u118 u119 u120 u121 u122 u123 u124 u125 u126 u127 u128 u129 u130 u131 u132 u133 u134 u135 u136 u137 u138 u139 u140 u141 u142 u143 u144 u145 u146 u147 u148 u149 u150 u151 u152 u153 u154 u155 u156 u157 u158 u159 u160 u161 u162 u163 u164 u165 u166 u167 u168 u169 u170 u171 u172 u173 u174 u175 u176 u177 u178 u179 u180 u181 u182 u183 u184 u185 u186 u187 u188 u189 u190 u191 u192 u193 u194 u195 u196 u197 u198 u199 u200 u201 u202 u203 u204 u205 u206 u207 u208 u209 u210 u211 u212 u213 u214 u215 u216 u217 u218 u219 u220 u221 u222 u223 u224 u225 u226 u227 u228 u229 u230 u231 u232 u233 u234 u235 u236 u237 u238 u239 u240 u241 u242 u243 u244 u245 u246 u247 u248 u249 u250 u251 u252 u253 u254 u255 u256 u257 u258 u259 u260 u261 u262 u263 u264 u265 u266 u267 u268 u269 u270 u271 u272 u273 u274 u275 u276 u277 u278 u279 u280 u281 u282 u283 u284 u285 u286 u287 u288 u289 u290 u291 u292 u293 u294 u295 u296 u297 u298 u299 u300 u301 u302 u303 u304 u305 u306 u307 u308 u309 u310 u311 u312 u313 u314 u315 u316 u317 u318 u319 u320 u321 u322 u323 u324 : Value}
    (hp : p.size ≤ 200) (hS : PR B p pc mp anch ⟨i, done, opened⟩ its gs vi vo wr) (hgk : p.size ≤ i + gk) (hlp : its.length ≤ p.size) (HG : Hid (R = itemsGo p gk ⟨i, done, opened⟩ its)) (hkk : Keeps B [] W0 wr)
    (hret : ∀ w' : World, R = none → Keeps B [] W0 w' → Po (.returned (.pointer none)) w') (hi : i < p.size) (hc : bt p i = 37) (h1 : i + 1 < p.size) (hdg : digB (bt p (i + 1)) = false) (he : esc (bt p (i + 1)) = none) (hf : bt p (i + 1) = 102) (h3 : i + 2 < p.size) (h4 : bt p (i + 2) = 91) (h5 : setAt p (i + 2) = none) :
    Code.wp Tryd.prog patBody (Exit.then (fun a' w' => PI p B pc mp anch R W0 a' w' ∧ PMu p a' < PMu p ⟨#[.string p, u1, .pointer none, .pointer (some ⟨pc, 0, none⟩), .int .i64 i, vo, .map (some mp), u7, u8, u9, u10, u11, u12, u13, u14, u15, u16, u17, u18, u19, u20, u21, u22, u23, u24, u25, u26, u27, u28, u29, u30, u31, u32, u33, u34, u35, u36, u37, u38, u39, u40, u41, u42, u43, u44, u45, u46, u47, u48, u49, u50, u51, u52, u53, u54, u55, u56, u57, u58, u59, u60, u61, u62, u63, u64, u65, u66, u67, u68, u69, u70, u71, u72, u73, u74, u75, u76, u77, u78, u79, u80, u81, u82, u83, u84, u85, u86, u87, u88, u89, u90, u91, u92, u93, u94, u95, u96, u97, u98, u99, u100, u101, u102, u103, u104, u105, u106, u107, u108, u109, u110, u111, u112, u113, u114, u115, u116, u117, u118, u119, u120, u121, u122, u123, u124, u125, u126, u127, u128, u129, u130, u131, u132, u133, u134, u135, u136, u137, u138, u139, u140, u141, u142, u143, u144, u145, u146, u147, u148, u149, u150, u151, u152, u153, u154, u155, u156, u157, u158, u159, u160, u161, u162, u163, u164, u165, u166, u167, u168, u169, u170, u171, u172, u173, u174, u175, u176, u177, u178, u179, u180, u181, u182, u183, u184, u185, u186, u187, u188, u189, u190, u191, u192, u193, u194, u195, u196, u197, u198, u199, u200, u201, u202, u203, u204, u205, u206, u207, u208, u209, u210, u211, u212, u213, u214, u215, u216, u217, u218, u219, u220, u221, u222, u223, u224, u225, u226, u227, u228, u229, u230, u231, u232, u233, u234, u235, u236, u237, u238, u239, u240, u241, u242, u243, u244, u245, u246, u247, u248, u249, u250, u251, u252, u253, u254, u255, u256, u257, u258, u259, u260, u261, u262, u263, u264, u265, u266, u267, u268, u269, u270, u271, u272, u273, u274, u275, u276, u277, u278, u279, u280, u281, u282, u283, u284, u285, u286, u287, u288, u289, u290, u291, u292, u293, u294, u295, u296, u297, u298, u299, u300, u301, u302, u303, u304, u305, u306, u307, u308, u309, u310, u311, u312, u313, u314, u315, u316, u317, u318, u319, u320, u321, u322, u323, u324], []⟩) (Exit.inBlock 0 (Exit.then K0 (bodyPost Tryd.prog Tryd.f10 Po)))) ⟨#[.string p, u1, .pointer none, .pointer (some ⟨pc, 0, none⟩), .int .i64 i, vo, .map (some mp), u7, u8, u9, u10, u11, u12, u13, u14, u15, u16, u17, u18, u19, u20, u21, u22, u23, u24, u25, u26, u27, u28, u29, u30, u31, u32, u33, u34, u35, u36, u37, u38, u39, u40, u41, u42, u43, u44, u45, u46, u47, u48, u49, u50, u51, u52, u53, u54, u55, u56, u57, u58, u59, u60, u61, u62, u63, u64, u65, u66, u67, u68, u69, u70, u71, u72, u73, u74, u75, u76, u77, u78, u79, u80, u81, u82, u83, u84, u85, u86, u87, u88, u89, u90, u91, u92, u93, u94, u95, u96, u97, u98, u99, u100, u101, u102, u103, u104, u105, u106, u107, u108, u109, u110, u111, u112, u113, u114, u115, u116, u117, u118, u119, u120, u121, u122, u123, u124, u125, u126, u127, u128, u129, u130, u131, u132, u133, u134, u135, u136, u137, u138, u139, u140, u141, u142, u143, u144, u145, u146, u147, u148, u149, u150, u151, u152, u153, u154, u155, u156, u157, u158, u159, u160, u161, u162, u163, u164, u165, u166, u167, u168, u169, u170, u171, u172, u173, u174, u175, u176, u177, u178, u179, u180, u181, u182, u183, u184, u185, u186, u187, u188, u189, u190, u191, u192, u193, u194, u195, u196, u197, u198, u199, u200, u201, u202, u203, u204, u205, u206, u207, u208, u209, u210, u211, u212, u213, u214, u215, u216, u217, u218, u219, u220, u221, u222, u223, u224, u225, u226, u227, u228, u229, u230, u231, u232, u233, u234, u235, u236, u237, u238, u239, u240, u241, u242, u243, u244, u245, u246, u247, u248, u249, u250, u251, u252, u253, u254, u255, u256, u257, u258, u259, u260, u261, u262, u263, u264, u265, u266, u267, u268, u269, u270, u271, u272, u273, u274, u275, u276, u277, u278, u279, u280, u281, u282, u283, u284, u285, u286, u287, u288, u289, u290, u291, u292, u293, u294, u295, u296, u297, u298, u299, u300, u301, u302, u303, u304, u305, u306, u307, u308, u309, u310, u311, u312, u313, u314, u315, u316, u317, u318, u319, u320, u321, u322, u323, u324], []⟩ wr := by
  have hd : decide (i < p.size) = true := decide_eq_true hi
  have t1 := rest_dollar hi
  rw [decide_eq_false (by omega)] at t1
  have t2 : Go.Lib.hasPrefix (p.extract i p.size).data.toList (ByteArray.mk #[40, 41]).data.toList = false := rest_unit.trans (decide_eq_false (fun h => by omega))
  have T2 := hid t2
  clear t2
  have hrs : 0 < p.size - i := by omega
  have hrs2 : 0 < (p.extract i p.size).size := by simp; omega
  have e0 : ∀ h : 0 < (p.extract i p.size).size, (((p.extract i p.size)[0]'h).toNat : Int) = bt p i := fun h => (rest_at h).trans (by rw [Nat.add_zero])
  have hrs1 : 1 < p.size - i := by omega
  have hrs3 : 1 < (p.extract i p.size).size := by simp; omega
  have e1 : ∀ h : 1 < (p.extract i p.size).size, (((p.extract i p.size)[1]'h).toNat : Int) = bt p (i + 1) := fun h => rest_at h
  have ds1 : decide (1 < p.size - i) = true := decide_eq_true (by omega)
  have c40 : (bt p i == 40) = false := by rw [hc]; rfl
  have c41 : (bt p i == 41) = false := by rw [hc]; rfl
  have c37 : (bt p i == 37) = true := by simpa using hc
  have t3 : Go.Lib.hasPrefix (p.extract i p.size).data.toList (ByteArray.mk #[37, 98]).data.toList = false := rest_pb.trans (decide_eq_false (fun h => by omega))
  have T3 := hid t3
  have t4 : Go.Lib.hasPrefix (p.extract i p.size).data.toList (ByteArray.mk #[37, 102, 91]).data.toList = true := rest_pf.trans (decide_eq_true ⟨h3, hc, hf, h4⟩)
  have T4 := hid t4
  clear t3 t4
  have hit : itemAt p ⟨i, done, opened⟩ = none := by
    unfold itemAt; simp only []
    rw [if_neg (by omega), if_neg (by omega), if_neg (by rw [hdg]; simp), if_neg (fun h => by omega), if_pos ⟨hc, decide_eq_true h1, hf⟩, if_pos ⟨h3, h4⟩, h5]
  obtain ⟨n0, hn0, hP⟩ := hS.ps
  have hB := hP.lo
  have H5 := hid h5
  clear hS hf h4 h5 hP
  have HDG := hid hdg
  have HE := hid he
  have hb10 := bt_nonneg p (i + 1)
  have hb1255 := bt_le p (i + 1)
  obtain ⟨gk', rfl⟩ : ∃ x, gk = x + 1 := ⟨gk - 1, by omega⟩
  have HR : Hid (R = none) := hid (HG.out.trans (itemsGo_bad hi hit))
  clear HG hit
  clear hc hdg he
  conv => arg 2; whnf
  go_wp2_with fail
  refine (pre_any _ _ _).mono ?_
  rintro e w' ⟨rfl, rfl⟩
  rw [T2.out]
  go_wp2_with fail
  refine (isDigit_any _ _).mono ?_
  rintro e w' ⟨rfl, rfl⟩
  rw [HDG.out]
  go_wp2_with fail
  refine (pre_any _ _ _).mono ?_
  rintro e w' ⟨rfl, rfl⟩
  rw [T3.out]
  go_wp2_with fail
  refine (pre_any _ _ _).mono ?_
  rintro e w' ⟨rfl, rfl⟩
  rw [T4.out]
  go_wp2_with fail
  refine (by simpa using patSet_any p (i + 2) wr hp h3 : Calls Tryd.prog 25 #[.string p, .int .i64 ((i : Int) + 2)] wr (fun e w' => PSetPost (setAt p (i + 2)) wr e w')).mono ?_
  rintro e w2 ⟨hk2, hno, hyes⟩
  have he2 := hno H5.out
  subst he2
  have HK2 := hid (hkk.andThen hk2 hB (by simp) : Keeps B [] W0 w2)
  clear hno hyes hk2
  go_wp2_with fail
  refine (percent_none _ hb10 hb1255 HE.out _).mono ?_
  rintro e w' ⟨rfl, rfl⟩
  go_wp2_with fail
  exact hret _ HR.out HK2.out

set_option maxRecDepth 1000000 in
set_option maxHeartbeats 4000000 in
theorem pat_set0 {p : ByteArray} {B pc mp : Nat} {anch : Bool} {R : Option (List It × Rd)} {W0 wr : World} {i gk : Nat} {done : List Bool} {opened : List Nat} {its : List It} {gs : List Nat} {vi vo : Value} {K0 : Act → World → Prop} {Po : Ending → World → Prop} {u1 u7 u8 u9 u10 u11 u12 u13 u14 u15 u16 u17 u18 u19 u20 u21 u22 u23 u24 u25 u26 u27 u28 u29 u30 u31 u32 u33 u34 u35 u36 u37 u38 u39 u40 u41 u42 u43 u44 u45 u46 u47 u48 u49 u50 u51 u52 u53 u54 u55 u56 u57 u58 u59 u60 u61 u62 u63 u64 u65 u66 u67 u68 u69 u70 u71 u72 u73 u74 u75 u76 u77 u78 u79 u80 u81 u82 u83 u84 u85 u86 u87 u88 u89 u90 u91 u92 u93 u94 u95 u96 u97 u98 u99 u100 u101 u102 u103 u104 u105 u106 u107 u108 u109 u110 u111 u112 u113 u114 u115 u116 u117 u118 u119 u120 u121 u122 u123 u124 u125 u126 u127 u128 u129 u130 u131 u132 u133 u134 u135 u136 u137 u138 u139 u140 u141 u142 u143 u144 u145 u146 u147 u148 u149 u150 u151 u152 u153 u154 u155 u156 u157 u158 u159 u160 u161 u162 u163 u164 u165 u166 u167 u168 u169 u170 u171 u172 u173 u174 u175 u176 u177 u178 u179 u180 u181 u182 u183 u184 u185 u186 u187 u188 u189 u190 u191 u192 u193 u194 u195 u196 u197 u198 u199 u200 u201 u202 u203 u204 u205 u206 u207 u208 u209 u210 u211 u212 u213 u214 u215 u216 u217 u218 u219 u220 u221 u222 u223 u224 u225 u226 u227 u228 u229 u230 u231 u232 u233 u234 u235 u236 u237 u238 u239 u240 u241 u242 u243 u244 u245 u246 u247 u248 u249 u250 u251 u252 u253 u254 u255 u256 u257 u258 u259 u260 u261 u262 u263 u264 u265 u266 u267 u268 u269 u270 u271 u272 u273 u274 u275 u276 u277 u278 u279 u280 u281 u282 u283 u284 u285 u286 u287 u288 u289 u290 u291 u292 u293 u294 u295 u296 u297 u298 u299 u300 u301 u302 u303 u304 u305 u306 u307 u308 u309 u310 u311 u312 u313 u314 u315 u316 u317 u318 u319 u320 u321 u322 u323 u324 : Value}
    (hp : p.size ≤ 200) (hS : PR B p pc mp anch ⟨i, done, opened⟩ its gs vi vo wr) (hgk : p.size ≤ i + gk) (hlp : its.length ≤ p.size) (HG : Hid (R = itemsGo p gk ⟨i, done, opened⟩ its)) (hkk : Keeps B [] W0 wr)
    (hret : ∀ w' : World, R = none → Keeps B [] W0 w' → Po (.returned (.pointer none)) w') (hi : i < p.size) (hc : bt p i = 91) (h5 : setAt p i = none) :
    Code.wp Tryd.prog patBody (Exit.then (fun a' w' => PI p B pc mp anch R W0 a' w' ∧ PMu p a' < PMu p ⟨#[.string p, u1, .pointer none, .pointer (some ⟨pc, 0, none⟩), .int .i64 i, vo, .map (some mp), u7, u8, u9, u10, u11, u12, u13, u14, u15, u16, u17, u18, u19, u20, u21, u22, u23, u24, u25, u26, u27, u28, u29, u30, u31, u32, u33, u34, u35, u36, u37, u38, u39, u40, u41, u42, u43, u44, u45, u46, u47, u48, u49, u50, u51, u52, u53, u54, u55, u56, u57, u58, u59, u60, u61, u62, u63, u64, u65, u66, u67, u68, u69, u70, u71, u72, u73, u74, u75, u76, u77, u78, u79, u80, u81, u82, u83, u84, u85, u86, u87, u88, u89, u90, u91, u92, u93, u94, u95, u96, u97, u98, u99, u100, u101, u102, u103, u104, u105, u106, u107, u108, u109, u110, u111, u112, u113, u114, u115, u116, u117, u118, u119, u120, u121, u122, u123, u124, u125, u126, u127, u128, u129, u130, u131, u132, u133, u134, u135, u136, u137, u138, u139, u140, u141, u142, u143, u144, u145, u146, u147, u148, u149, u150, u151, u152, u153, u154, u155, u156, u157, u158, u159, u160, u161, u162, u163, u164, u165, u166, u167, u168, u169, u170, u171, u172, u173, u174, u175, u176, u177, u178, u179, u180, u181, u182, u183, u184, u185, u186, u187, u188, u189, u190, u191, u192, u193, u194, u195, u196, u197, u198, u199, u200, u201, u202, u203, u204, u205, u206, u207, u208, u209, u210, u211, u212, u213, u214, u215, u216, u217, u218, u219, u220, u221, u222, u223, u224, u225, u226, u227, u228, u229, u230, u231, u232, u233, u234, u235, u236, u237, u238, u239, u240, u241, u242, u243, u244, u245, u246, u247, u248, u249, u250, u251, u252, u253, u254, u255, u256, u257, u258, u259, u260, u261, u262, u263, u264, u265, u266, u267, u268, u269, u270, u271, u272, u273, u274, u275, u276, u277, u278, u279, u280, u281, u282, u283, u284, u285, u286, u287, u288, u289, u290, u291, u292, u293, u294, u295, u296, u297, u298, u299, u300, u301, u302, u303, u304, u305, u306, u307, u308, u309, u310, u311, u312, u313, u314, u315, u316, u317, u318, u319, u320, u321, u322, u323, u324], []⟩) (Exit.inBlock 0 (Exit.then K0 (bodyPost Tryd.prog Tryd.f10 Po)))) ⟨#[.string p, u1, .pointer none, .pointer (some ⟨pc, 0, none⟩), .int .i64 i, vo, .map (some mp), u7, u8, u9, u10, u11, u12, u13, u14, u15, u16, u17, u18, u19, u20, u21, u22, u23, u24, u25, u26, u27, u28, u29, u30, u31, u32, u33, u34, u35, u36, u37, u38, u39, u40, u41, u42, u43, u44, u45, u46, u47, u48, u49, u50, u51, u52, u53, u54, u55, u56, u57, u58, u59, u60, u61, u62, u63, u64, u65, u66, u67, u68, u69, u70, u71, u72, u73, u74, u75, u76, u77, u78, u79, u80, u81, u82, u83, u84, u85, u86, u87, u88, u89, u90, u91, u92, u93, u94, u95, u96, u97, u98, u99, u100, u101, u102, u103, u104, u105, u106, u107, u108, u109, u110, u111, u112, u113, u114, u115, u116, u117, u118, u119, u120, u121, u122, u123, u124, u125, u126, u127, u128, u129, u130, u131, u132, u133, u134, u135, u136, u137, u138, u139, u140, u141, u142, u143, u144, u145, u146, u147, u148, u149, u150, u151, u152, u153, u154, u155, u156, u157, u158, u159, u160, u161, u162, u163, u164, u165, u166, u167, u168, u169, u170, u171, u172, u173, u174, u175, u176, u177, u178, u179, u180, u181, u182, u183, u184, u185, u186, u187, u188, u189, u190, u191, u192, u193, u194, u195, u196, u197, u198, u199, u200, u201, u202, u203, u204, u205, u206, u207, u208, u209, u210, u211, u212, u213, u214, u215, u216, u217, u218, u219, u220, u221, u222, u223, u224, u225, u226, u227, u228, u229, u230, u231, u232, u233, u234, u235, u236, u237, u238, u239, u240, u241, u242, u243, u244, u245, u246, u247, u248, u249, u250, u251, u252, u253, u254, u255, u256, u257, u258, u259, u260, u261, u262, u263, u264, u265, u266, u267, u268, u269, u270, u271, u272, u273, u274, u275, u276, u277, u278, u279, u280, u281, u282, u283, u284, u285, u286, u287, u288, u289, u290, u291, u292, u293, u294, u295, u296, u297, u298, u299, u300, u301, u302, u303, u304, u305, u306, u307, u308, u309, u310, u311, u312, u313, u314, u315, u316, u317, u318, u319, u320, u321, u322, u323, u324], []⟩ wr := by
  have hd : decide (i < p.size) = true := decide_eq_true hi
  have t1 := rest_dollar hi
  rw [decide_eq_false (by omega)] at t1
  have t2 : Go.Lib.hasPrefix (p.extract i p.size).data.toList (ByteArray.mk #[40, 41]).data.toList = false := rest_unit.trans (decide_eq_false (fun h => by omega))
  have T2 := hid t2
  clear t2
  have hrs : 0 < p.size - i := by omega
  have hrs2 : 0 < (p.extract i p.size).size := by simp; omega
  have e0 : ∀ h : 0 < (p.extract i p.size).size, (((p.extract i p.size)[0]'h).toNat : Int) = bt p i := fun h => (rest_at h).trans (by rw [Nat.add_zero])
  have t3 : Go.Lib.hasPrefix (p.extract i p.size).data.toList (ByteArray.mk #[37, 98]).data.toList = false := rest_pb.trans (decide_eq_false (fun h => by omega))
  have T3 := hid t3
  have t4 : Go.Lib.hasPrefix (p.extract i p.size).data.toList (ByteArray.mk #[37, 102, 91]).data.toList = false := rest_pf.trans (decide_eq_false (fun h => by omega))
  have T4 := hid t4
  clear t3 t4
  have c40 : (bt p i == 40) = false := by rw [hc]; rfl
  have c41 : (bt p i == 41) = false := by rw [hc]; rfl
  have c37 : (bt p i == 37) = false := by rw [hc]; rfl
  have c46 : (bt p i == 46) = false := by rw [hc]; rfl
  have c91 : (bt p i == 91) = true := by rw [hc]; rfl
  have hit : itemAt p ⟨i, done, opened⟩ = none := by
    unfold itemAt; simp only []
    rw [if_neg (by omega), if_neg (by omega), if_neg (by omega), if_neg (by omega), if_neg (by omega), if_neg (by omega)]
    unfold singleAt
    rw [if_pos hc, h5]
  obtain ⟨gk', rfl⟩ : ∃ x, gk = x + 1 := ⟨gk - 1, by omega⟩
  have HR : Hid (R = none) := hid (HG.out.trans (itemsGo_bad hi hit))
  clear HG hit
  obtain ⟨n0, hn0, hP⟩ := hS.ps
  have hB := hP.lo
  have H5 := hid h5
  clear hS hc h5 hP
  conv => arg 2; whnf
  go_wp2_with fail
  refine (pre_any _ _ _).mono ?_
  rintro e w' ⟨rfl, rfl⟩
  rw [T2.out]
  go_wp2_with fail
  refine (pre_any _ _ _).mono ?_
  rintro e w' ⟨rfl, rfl⟩
  rw [T3.out]
  go_wp2_with fail
  refine (pre_any _ _ _).mono ?_
  rintro e w' ⟨rfl, rfl⟩
  rw [T4.out]
  go_wp2_with fail
  refine (patSet_any p i wr hp hi).mono ?_
  rintro e w2 ⟨hk2, hno, hyes⟩
  have he2 := hno H5.out
  subst he2
  have HK2 := hid (hkk.andThen hk2 hB (by simp) : Keeps B [] W0 w2)
  clear hno hyes hk2
  go_wp2_with fail
  exact hret _ HR.out HK2.out
end Go.Proofs.YtpinoolagbghnaaDoor
