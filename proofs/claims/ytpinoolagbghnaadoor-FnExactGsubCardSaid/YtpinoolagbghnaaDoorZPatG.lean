/-
  Walk: rounds of the program's reader of patterns: a capture again.
  Walk: rounds of the program's reader of patterns: pairs and edges.
-/
import Derived.Test.YtpinoolagbghnaaDoorZPatS
namespace Go.Proofs.YtpinoolagbghnaaDoor
set_option linter.unusedVariables false
open Go.RowKit Go.Maps Pat

set_option maxRecDepth 1000000 in
set_option maxHeartbeats 4000000 in
theorem pat_back0 {p : ByteArray} {B pc mp : Nat} {anch : Bool} {R : Option (List It × Rd)} {W0 wr : World} {i gk : Nat} {done : List Bool} {opened : List Nat} {its : List It} {gs : List Nat} {vi vo : Value} {K0 : Act → World → Prop} {Po : Ending → World → Prop} {u1 u7 u8 u9 u10 u11 u12 u13 u14 u15 u16 u17 u18 u19 u20 u21 u22 u23 u24 u25 u26 u27 u28 u29 u30 u31 u32 u33 u34 u35 u36 u37 u38 u39 u40 u41 u42 u43 u44 u45 u46 u47 u48 u49 u50 u51 u52 u53 u54 u55 u56 u57 u58 u59 u60 u61 u62 u63 u64 u65 u66 u67 u68 u69 u70 u71 u72 u73 u74 u75 u76 u77 u78 u79 u80 u81 u82 u83 u84 u85 u86 u87 u88 u89 u90 u91 u92 u93 u94 u95 u96 u97 u98 u99 u100 u101 u102 u103 u104 u105 u106 u107 u108 u109 u110 u111 u112 u113 u114 u115 u116 u117 u118 u119 u120 u121 u122 u123 u124 u125 u126 u127 u128 u129 u130 u131 u132 u133 u134 u135 u136 u137 u138 u139 u140 u141 u142 u143 u144 u145 u146 u147 u148 u149 u150 u151 u152 u153 u154 u155 u156 u157 u158 u159 u160 u161 u162 u163 u164 u165 u166 u167 u168 u169 u170 u171 u172 u173 u174 u175 u176 u177 u178 u179 u180 u181 u182 u183 u184 u185 u186 u187 u188 u189 u190 u191 u192 u193 u194 u195 u196 u197 u198 u199 u200 u201 u202 u203 u204 u205 u206 u207 u208 u209 u210 u211 u212 u213 u214 u215 u216 u217 u218 u219 u220 u221 u222 u223 u224 u225 u226 u227 u228 u229 u230 u231 u232 u233 u234 u235 u236 u237 u238 u239 u240 u241 u242 u243 u244 u245 u246 u247 u248 u249 u250 u251 u252 u253 u254 u255 u256 u257 u258 u259 u260 u261 u262 u263 u264 u265 u266 u267 u268 u269 u270 u271 u272 u273 u274 u275 u276 u277 u278 u279 u280 u281 u282 u283 u284 u285 u286 u287 u288 u289 u290 u291 u292 u293 u294 u295 u296 u297 u298 u299 u300 u301 u302 u303 u304 u305 u306 u307 u308 u309 u310 u311 u312 u313 u314 u315 u316 u317 u318 u319 u320 u321 u322 u323 u324 : Value}
    (hp : p.size ≤ 200) (hS : PR B p pc mp anch ⟨i, done, opened⟩ its gs vi vo wr) (hgk : p.size ≤ i + gk) (hlp : its.length ≤ p.size) (HG : Hid (R = itemsGo p gk ⟨i, done, opened⟩ its)) (hkk : Keeps B [] W0 wr)
    (hret : ∀ w' : World, R = none → Keeps B [] W0 w' → Po (.returned (.pointer none)) w') (hi : i < p.size) (hc : bt p i = 37) (h1 : i + 1 < p.size) (h2 : digB (bt p (i + 1)) = true) (h3 : bt p (i + 1) = 48 ∨ done.getD (bt p (i + 1) - 49).toNat false = false) :
    Code.wp Tryd.prog patBody (Exit.then (fun a' w' => PI p B pc mp anch R W0 a' w' ∧ PMu p a' < PMu p ⟨#[.string p, u1, .pointer none, .pointer (some ⟨pc, 0, none⟩), .int .i64 i, vo, .map (some mp), u7, u8, u9, u10, u11, u12, u13, u14, u15, u16, u17, u18, u19, u20, u21, u22, u23, u24, u25, u26, u27, u28, u29, u30, u31, u32, u33, u34, u35, u36, u37, u38, u39, u40, u41, u42, u43, u44, u45, u46, u47, u48, u49, u50, u51, u52, u53, u54, u55, u56, u57, u58, u59, u60, u61, u62, u63, u64, u65, u66, u67, u68, u69, u70, u71, u72, u73, u74, u75, u76, u77, u78, u79, u80, u81, u82, u83, u84, u85, u86, u87, u88, u89, u90, u91, u92, u93, u94, u95, u96, u97, u98, u99, u100, u101, u102, u103, u104, u105, u106, u107, u108, u109, u110, u111, u112, u113, u114, u115, u116, u117, u118, u119, u120, u121, u122, u123, u124, u125, u126, u127, u128, u129, u130, u131, u132, u133, u134, u135, u136, u137, u138, u139, u140, u141, u142, u143, u144, u145, u146, u147, u148, u149, u150, u151, u152, u153, u154, u155, u156, u157, u158, u159, u160, u161, u162, u163, u164, u165, u166, u167, u168, u169, u170, u171, u172, u173, u174, u175, u176, u177, u178, u179, u180, u181, u182, u183, u184, u185, u186, u187, u188, u189, u190, u191, u192, u193, u194, u195, u196, u197, u198, u199, u200, u201, u202, u203, u204, u205, u206, u207, u208, u209, u210, u211, u212, u213, u214, u215, u216, u217, u218, u219, u220, u221, u222, u223, u224, u225, u226, u227, u228, u229, u230, u231, u232, u233, u234, u235, u236, u237, u238, u239, u240, u241, u242, u243, u244, u245, u246, u247, u248, u249, u250, u251, u252, u253, u254, u255, u256, u257, u258, u259, u260, u261, u262, u263, u264, u265, u266, u267, u268, u269, u270, u271, u272, u273, u274, u275, u276, u277, u278, u279, u280, u281, u282, u283, u284, u285, u286, u287, u288, u289, u290, u291, u292, u293, u294, u295, u296, u297, u298, u299, u300, u301, u302, u303, u304, u305, u306, u307, u308, u309, u310, u311, u312, u313, u314, u315, u316, u317, u318, u319, u320, u321, u322, u323, u324], []⟩) (Exit.inBlock 0 (Exit.then K0 (bodyPost Tryd.prog Tryd.f10 Po)))) ⟨#[.string p, u1, .pointer none, .pointer (some ⟨pc, 0, none⟩), .int .i64 i, vo, .map (some mp), u7, u8, u9, u10, u11, u12, u13, u14, u15, u16, u17, u18, u19, u20, u21, u22, u23, u24, u25, u26, u27, u28, u29, u30, u31, u32, u33, u34, u35, u36, u37, u38, u39, u40, u41, u42, u43, u44, u45, u46, u47, u48, u49, u50, u51, u52, u53, u54, u55, u56, u57, u58, u59, u60, u61, u62, u63, u64, u65, u66, u67, u68, u69, u70, u71, u72, u73, u74, u75, u76, u77, u78, u79, u80, u81, u82, u83, u84, u85, u86, u87, u88, u89, u90, u91, u92, u93, u94, u95, u96, u97, u98, u99, u100, u101, u102, u103, u104, u105, u106, u107, u108, u109, u110, u111, u112, u113, u114, u115, u116, u117, u118, u119, u120, u121, u122, u123, u124, u125, u126, u127, u128, u129, u130, u131, u132, u133, u134, u135, u136, u137, u138, u139, u140, u141, u142, u143, u144, u145, u146, u147, u148, u149, u150, u151, u152, u153, u154, u155, u156, u157, u158, u159, u160, u161, u162, u163, u164, u165, u166, u167, u168, u169, u170, u171, u172, u173, u174, u175, u176, u177, u178, u179, u180, u181, u182, u183, u184, u185, u186, u187, u188, u189, u190, u191, u192, u193, u194, u195, u196, u197, u198, u199, u200, u201, u202, u203, u204, u205, u206, u207, u208, u209, u210, u211, u212, u213, u214, u215, u216, u217, u218, u219, u220, u221, u222, u223, u224, u225, u226, u227, u228, u229, u230, u231, u232, u233, u234, u235, u236, u237, u238, u239, u240, u241, u242, u243, u244, u245, u246, u247, u248, u249, u250, u251, u252, u253, u254, u255, u256, u257, u258, u259, u260, u261, u262, u263, u264, u265, u266, u267, u268, u269, u270, u271, u272, u273, u274, u275, u276, u277, u278, u279, u280, u281, u282, u283, u284, u285, u286, u287, u288, u289, u290, u291, u292, u293, u294, u295, u296, u297, u298, u299, u300, u301, u302, u303, u304, u305, u306, u307, u308, u309, u310, u311, u312, u313, u314, u315, u316, u317, u318, u319, u320, u321, u322, u323, u324], []⟩ wr := by
  have hd : decide (i < p.size) = true := decide_eq_true hi
  have t1 := rest_dollar hi
  rw [decide_eq_false (by omega)] at t1
  have t2 : Go.Lib.hasPrefix (p.extract i p.size).data.toList (ByteArray.mk #[40, 41]).data.toList = false := rest_unit.trans (decide_eq_false (fun h => by omega))
  have T2 := hid t2
  clear t2
  have hrs : 0 < p.size - i := by omega
  have hrs2 : 0 < (p.extract i p.size).size := by simp; omega
  have e0 : ∀ h : 0 < (p.extract i p.size).size, (((p.extract i p.size)[0]'h).toNat : Int) = bt p i := fun h => (rest_at h).trans (by rw [Nat.add_zero])
  have hrs1 : 1 < p.size - i := by omega
  have hrs3 : 1 < (p.extract i p.size).size := by simp; omega
  have e1 : ∀ h : 1 < (p.extract i p.size).size, (((p.extract i p.size)[1]'h).toNat : Int) = bt p (i + 1) := fun h => rest_at h
  have ds1 : decide (1 < p.size - i) = true := decide_eq_true (by omega)
  have c40 : (bt p i == 40) = false := by rw [hc]; rfl
  have c41 : (bt p i == 41) = false := by rw [hc]; rfl
  have c37 : (bt p i == 37) = true := by simpa using hc
  have hit : itemAt p ⟨i, done, opened⟩ = none := by
    unfold itemAt; simp only []
    rw [if_neg (by omega), if_neg (by omega), if_pos ⟨hc, decide_eq_true h1, h2⟩, if_pos h3]
  have hdg : 48 ≤ bt p (i + 1) ∧ bt p (i + 1) ≤ 57 := by unfold digB at h2; simpa using h2
  have hg1 := hdg.1
  have hg2 := hdg.2
  have HDG := hid h2
  clear hdg h2
  obtain ⟨gk', rfl⟩ : ∃ x, gk = x + 1 := ⟨gk - 1, by omega⟩
  have HR : Hid (R = none) := hid (HG.out.trans (itemsGo_bad hi hit))
  clear HG hit
  obtain ⟨n0, hn0, hP⟩ := hS.ps
  have HD := hid hP.dm
  clear hc hP hS
  by_cases h48 : bt p (i + 1) = 48
  · have H48 := hid h48
    have dn : decide (bt p (i + 1) - 48 - 1 < 0) = true := decide_eq_true (by omega)
    clear h48 h3
    conv => arg 2; whnf
    go_wp2_with fail
    refine (pre_any _ _ _).mono ?_
    rintro e w' ⟨rfl, rfl⟩
    rw [T2.out]
    go_wp2_with fail
    refine (isDigit_any _ _).mono ?_
    rintro e w' ⟨rfl, rfl⟩
    rw [HDG.out]
    go_wp2_with fail
    exact hret _ HR.out hkk
  · obtain ⟨k, hk⟩ : ∃ k : Nat, bt p (i + 1) = k + 49 := ⟨(bt p (i + 1) - 49).toNat, by omega⟩
    have hkd : done.getD k false = false := by
      rcases h3 with h3 | h3
      · exact absurd h3 h48
      · rwa [hk, show ((k : Int) + 49 - 49).toNat = k by omega] at h3
    have hlk := HD.out.lookup k (by omega)
    rw [hkd] at hlk
    rw [show (k : Int) = k + 49 - 48 - 1 by omega] at hlk
    have HK := hid hk
    have hk10 : k ≤ 10 := by omega
    rw [hk] at e1 HDG
    clear hk hkd h3 h48 hg1 hg2
    conv => arg 2; whnf
    go_wp2_with fail
    refine (pre_any _ _ _).mono ?_
    rintro e w' ⟨rfl, rfl⟩
    rw [T2.out]
    go_wp2_with fail
    refine (isDigit_any _ _).mono ?_
    rintro e w' ⟨rfl, rfl⟩
    rw [HDG.out]
    go_wp2_with fail
    exact hret _ HR.out hkk

set_option maxRecDepth 1000000 in
set_option maxHeartbeats 4000000 in
theorem pat_back {p : ByteArray} {B pc mp : Nat} {anch : Bool} {R : Option (List It × Rd)} {W0 wr : World} {i gk : Nat} {done : List Bool} {opened : List Nat} {its : List It} {gs : List Nat} {vi vo : Value} {K0 : Act → World → Prop} {Po : Ending → World → Prop} {u1 u7 u8 u9 u10 u11 u12 u13 u14 u15 u16 u17 u18 u19 u20 u21 u22 u23 u24 u25 u26 u27 u28 u29 u30 u31 u32 u33 u34 u35 u36 u37 u38 u39 u40 u41 u42 u43 u44 u45 u46 u47 u48 u49 u50 u51 u52 u53 u54 u55 u56 u57 u58 u59 u60 u61 u62 u63 u64 u65 u66 u67 u68 u69 u70 u71 u72 u73 u74 u75 u76 u77 u78 u79 u80 u81 u82 u83 u84 u85 u86 u87 u88 u89 u90 u91 u92 u93 u94 u95 u96 u97 u98 u99 u100 u101 u102 u103 u104 u105 u106 u107 u108 u109 u110 u111 u112 u113 u114 u115 u116 u117 u118 u119 u120 u121 u122 u123 u124 u125 u126 u127 u128 u129 u130 u131 u132 u133 u134 u135 u136 u137 u138 u139 u140 u141 u142 u143 u144 u145 u146 u147 u148 u149 u150 u151 u152 u153 u154 u155 u156 u157 u158 u159 u160 u161 u162 u163 u164 u165 u166 u167 u168 u169 u170 u171 u172 u173 u174 u175 u176 u177 u178 u179 u180 u181 u182 u183 u184 u185 u186 u187 u188 u189 u190 u191 u192 u193 u194 u195 u196 u197 u198 u199 u200 u201 u202 u203 u204 u205 u206 u207 u208 u209 u210 u211 u212 u213 u214 u215 u216 u217 u218 u219 u220 u221 u222 u223 u224 u225 u226 u227 u228 u229 u230 u231 u232 u233 u234 u235 u236 u237 u238 u239 u240 u241 u242 u243 u244 u245 u246 u247 u248 u249 u250 u251 u252 u253 u254 u255 u256 u257 u258 u259 u260 u261 u262 u263 u264 u265 u266 u267 u268 u269 u270 u271 u272 u273 u274 u275 u276 u277 u278 u279 u280 u281 u282 u283 u284 u285 u286 u287 u288 u289 u290 u291 u292 u293 u294 u295 u296 u297 u298 u299 u300 u301 u302 u303 u304 u305 u306 u307 u308 u309 u310 u311 u312 u313 u314 u315 u316 u317 u318 u319 u320 u321 u322 u323 u324 : Value}
    (hp : p.size ≤ 200) (hS : PR B p pc mp anch ⟨i, done, opened⟩ its gs vi vo wr) (hgk : p.size ≤ i + gk) (hlp : its.length ≤ p.size) (HG : Hid (R = itemsGo p gk ⟨i, done, opened⟩ its)) (hkk : Keeps B [] W0 wr)
    (hret : ∀ w' : World, R = none → Keeps B [] W0 w' → Po (.returned (.pointer none)) w') (hi : i < p.size) (hc : bt p i = 37) (h1 : i + 1 < p.size) (h2 : digB (bt p (i + 1)) = true) (h3 : ¬ (bt p (i + 1) = 48 ∨ done.getD (bt p (i + 1) - 49).toNat false = false)) :
    Code.wp Tryd.prog patBody (Exit.then (fun a' w' => PI p B pc mp anch R W0 a' w' ∧ PMu p a' < PMu p ⟨#[.string p, u1, .pointer none, .pointer (some ⟨pc, 0, none⟩), .int .i64 i, vo, .map (some mp), u7, u8, u9, u10, u11, u12, u13, u14, u15, u16, u17, u18, u19, u20, u21, u22, u23, u24, u25, u26, u27, u28, u29, u30, u31, u32, u33, u34, u35, u36, u37, u38, u39, u40, u41, u42, u43, u44, u45, u46, u47, u48, u49, u50, u51, u52, u53, u54, u55, u56, u57, u58, u59, u60, u61, u62, u63, u64, u65, u66, u67, u68, u69, u70, u71, u72, u73, u74, u75, u76, u77, u78, u79, u80, u81, u82, u83, u84, u85, u86, u87, u88, u89, u90, u91, u92, u93, u94, u95, u96, u97, u98, u99, u100, u101, u102, u103, u104, u105, u106, u107, u108, u109, u110, u111, u112, u113, u114, u115, u116, u117, u118, u119, u120, u121, u122, u123, u124, u125, u126, u127, u128, u129, u130, u131, u132, u133, u134, u135, u136, u137, u138, u139, u140, u141, u142, u143, u144, u145, u146, u147, u148, u149, u150, u151, u152, u153, u154, u155, u156, u157, u158, u159, u160, u161, u162, u163, u164, u165, u166, u167, u168, u169, u170, u171, u172, u173, u174, u175, u176, u177, u178, u179, u180, u181, u182, u183, u184, u185, u186, u187, u188, u189, u190, u191, u192, u193, u194, u195, u196, u197, u198, u199, u200, u201, u202, u203, u204, u205, u206, u207, u208, u209, u210, u211, u212, u213, u214, u215, u216, u217, u218, u219, u220, u221, u222, u223, u224, u225, u226, u227, u228, u229, u230, u231, u232, u233, u234, u235, u236, u237, u238, u239, u240, u241, u242, u243, u244, u245, u246, u247, u248, u249, u250, u251, u252, u253, u254, u255, u256, u257, u258, u259, u260, u261, u262, u263, u264, u265, u266, u267, u268, u269, u270, u271, u272, u273, u274, u275, u276, u277, u278, u279, u280, u281, u282, u283, u284, u285, u286, u287, u288, u289, u290, u291, u292, u293, u294, u295, u296, u297, u298, u299, u300, u301, u302, u303, u304, u305, u306, u307, u308, u309, u310, u311, u312, u313, u314, u315, u316, u317, u318, u319, u320, u321, u322, u323, u324], []⟩) (Exit.inBlock 0 (Exit.then K0 (bodyPost Tryd.prog Tryd.f10 Po)))) ⟨#[.string p, u1, .pointer none, .pointer (some ⟨pc, 0, none⟩), .int .i64 i, vo, .map (some mp), u7, u8, u9, u10, u11, u12, u13, u14, u15, u16, u17, u18, u19, u20, u21, u22, u23, u24, u25, u26, u27, u28, u29, u30, u31, u32, u33, u34, u35, u36, u37, u38, u39, u40, u41, u42, u43, u44, u45, u46, u47, u48, u49, u50, u51, u52, u53, u54, u55, u56, u57, u58, u59, u60, u61, u62, u63, u64, u65, u66, u67, u68, u69, u70, u71, u72, u73, u74, u75, u76, u77, u78, u79, u80, u81, u82, u83, u84, u85, u86, u87, u88, u89, u90, u91, u92, u93, u94, u95, u96, u97, u98, u99, u100, u101, u102, u103, u104, u105, u106, u107, u108, u109, u110, u111, u112, u113, u114, u115, u116, u117, u118, u119, u120, u121, u122, u123, u124, u125, u126, u127, u128, u129, u130, u131, u132, u133, u134, u135, u136, u137, u138, u139, u140, u141, u142, u143, u144, u145, u146, u147, u148, u149, u150, u151, u152, u153, u154, u155, u156, u157, u158, u159, u160, u161, u162, u163, u164, u165, u166, u167, u168, u169, u170, u171, u172, u173, u174, u175, u176, u177, u178, u179, u180, u181, u182, u183, u184, u185, u186, u187, u188, u189, u190, u191, u192, u193, u194, u195, u196, u197, u198, u199, u200, u201, u202, u203, u204, u205, u206, u207, u208, u209, u210, u211, u212, u213, u214, u215, u216, u217, u218, u219, u220, u221, u222, u223, u224, u225, u226, u227, u228, u229, u230, u231, u232, u233, u234, u235, u236, u237, u238, u239, u240, u241, u242, u243, u244, u245, u246, u247, u248, u249, u250, u251, u252, u253, u254, u255, u256, u257, u258, u259, u260, u261, u262, u263, u264, u265, u266, u267, u268, u269, u270, u271, u272, u273, u274, u275, u276, u277, u278, u279, u280, u281, u282, u283, u284, u285, u286, u287, u288, u289, u290, u291, u292, u293, u294, u295, u296, u297, u298, u299, u300, u301, u302, u303, u304, u305, u306, u307, u308, u309, u310, u311, u312, u313, u314, u315, u316, u317, u318, u319, u320, u321, u322, u323, u324], []⟩ wr := by
  have hd : decide (i < p.size) = true := decide_eq_true hi
  have t1 := rest_dollar hi
  rw [decide_eq_false (by omega)] at t1
  have t2 : Go.Lib.hasPrefix (p.extract i p.size).data.toList (ByteArray.mk #[40, 41]).data.toList = false := rest_unit.trans (decide_eq_false (fun h => by omega))
  have T2 := hid t2
  clear t2
  have hrs : 0 < p.size - i := by omega
  have hrs2 : 0 < (p.extract i p.size).size := by simp; omega
  have e0 : ∀ h : 0 < (p.extract i p.size).size, (((p.extract i p.size)[0]'h).toNat : Int) = bt p i := fun h => (rest_at h).trans (by rw [Nat.add_zero])
  have hrs1 : 1 < p.size - i := by omega
  have hrs3 : 1 < (p.extract i p.size).size := by simp; omega
  have e1 : ∀ h : 1 < (p.extract i p.size).size, (((p.extract i p.size)[1]'h).toNat : Int) = bt p (i + 1) := fun h => rest_at h
  have ds1 : decide (1 < p.size - i) = true := decide_eq_true (by omega)
  have c40 : (bt p i == 40) = false := by rw [hc]; rfl
  have c41 : (bt p i == 41) = false := by rw [hc]; rfl
  have c37 : (bt p i == 37) = true := by simpa using hc
  have hdg0 : 48 ≤ bt p (i + 1) ∧ bt p (i + 1) ≤ 57 := by unfold digB at h2; simpa using h2
  rw [not_or] at h3
  obtain ⟨k, hk⟩ : ∃ k : Nat, bt p (i + 1) = k + 49 := ⟨(bt p (i + 1) - 49).toNat, by omega⟩
  have hkn : (bt p (i + 1) - 49).toNat = k := by omega
  have hit : itemAt p ⟨i, done, opened⟩ = some ({ kind := 4, n := k }, ⟨i + 2, done, opened⟩) := by
    unfold itemAt; simp only []
    rw [if_neg (by omega), if_neg (by omega), if_pos ⟨hc, decide_eq_true h1, h2⟩, if_neg (by rw [not_or]; exact h3), hkn]
  obtain ⟨gk', rfl⟩ : ∃ x, gk = x + 1 := ⟨gk - 1, by omega⟩
  have HR : Hid (R = itemsGo p gk' ⟨i + 2, done, opened⟩ (its ++ [{ kind := 4, n := k }])) := hid (HG.out.trans (itemsGo_next hi hit))
  obtain ⟨n0, hn0, hP⟩ := hS.ps
  have hmem := hS.mem
  have hb1 := hS.b1
  have hb2 := hS.b2
  have hb3 := hS.b3
  dsimp only at hP hmem hb1 hb2 hb3
  have HM := hid hmem
  obtain ⟨av, cv, rfl⟩ := own_form hP.it
  have HP := hid hP
  have hB : B ≤ wr.heap.size := hP.lo
  have hlpc := blk_lt hP.blk
  obtain ⟨c0, c1, c2, f0, f1, f2⟩ := hP.blk.cells
  have HIT := hid hit
  clear hS hP hit HG hmem
  have hdg : 48 ≤ bt p (i + 1) ∧ bt p (i + 1) ≤ 57 := by unfold digB at h2; simpa using h2
  have HDG := hid h2
  clear h2
  have hkd : done.getD k false = true := by
    have := h3.2
    rw [hkn] at this
    simpa using this
  have hlk := HP.out.dm.lookup k (by omega)
  rw [hkd] at hlk
  rw [show (k : Int) = k + 49 - 48 - 1 by omega] at hlk
  have hus : ([.int .u8 49, .pointer none, .int .u8 0, .int .i64 ((k : Int) + 49 - 48 - 1), .int .u8 0, .int .u8 0] : List Value) = pItCells { kind := 4, n := k } 0 := by simp [pItCells, kb]; omega
  have HUS := hid hus
  have hk10 : k ≤ 10 := by omega
  rw [hk] at e1 HDG
  clear hc hk hkn hdg hdg0 h3 hkd hus
  conv => arg 2; whnf
  go_wp2_with fail
  refine (pre_any _ _ _).mono ?_
  rintro e w' ⟨rfl, rfl⟩
  rw [T2.out]
  go_wp2_with fail
  refine (isDigit_any _ _).mono ?_
  rintro e w' ⟨rfl, rfl⟩
  rw [HDG.out]
  go_wp2_with (at_builtin; go_must (refine append_newS (us := [.int .u8 49, .pointer none, .int .u8 0, .int .i64 ((k : Int) + 49 - 48 - 1), .int .u8 0, .int .u8 0]) rfl _ _ 47 rfl 77 rfl (.agg #[.int .u8 0, .pointer none, .int .u8 0, .int .i64 0, .int .u8 0, .int .u8 0]) 6 40 Tryd.underlying47 info_pitem rfl (by decide) B _ its.length (pCells its gs) rfl HP.out.it _ rfl rfl rfl (by simp [Value.oneCell']) (by unfold maxLen; omega) (by omega) hB ?_))
  intro ao cap w6 ho6 hg6 hn6
  rw [HUS.out] at ho6
  obtain ⟨hP4, hk4⟩ := HP.out.push (m := its.length + 1) (it := { kind := 4, n := k }) (g := 0) rfl ho6 hg6 (fun h => by simp at h) hB
  have hb4 : PBlk w6 pc anch (.slice av its.length cv) done.length := (hg6.block pc hlpc (Ne.symm (own_ne_blk HP.out.it HP.out.blk (by decide)))).trans HP.out.blk
  clear c0 c1 c2 f0 f1 f2 hlk
  obtain ⟨d0, d1, d2, g0, g1, g2⟩ := hb4.cells
  have HP4 := hid hP4
  have HK4 := hid (hkk.trans hk4)
  clear ho6 hg6 hn6 hP4 hk4 hb4
  go_wp2_with fail
  refine ⟨PI_mk (i := i + 2) ⟨⟨i + 2, done, opened⟩, _, _, _, gk', rfl, PS.pr (n := n0) (by simpa using HP4.out) (by simp; omega) HM.out (by simp; omega) (by simp; omega) (by simp; omega), by dsimp only; omega, by simp; omega, HR.out, HK4.out⟩ (by simp), PMu_lt (i := i) (j := i + 2) rfl (by simp) (by omega) hi⟩
end Go.Proofs.YtpinoolagbghnaaDoor

namespace Go.Proofs.YtpinoolagbghnaaDoor
set_option linter.unusedVariables false
open Go.RowKit Go.Maps Pat

set_option maxRecDepth 1000000 in
set_option maxHeartbeats 4000000 in
theorem pat_pair {p : ByteArray} {B pc mp : Nat} {anch : Bool} {R : Option (List It × Rd)} {W0 wr : World} {i gk : Nat} {done : List Bool} {opened : List Nat} {its : List It} {gs : List Nat} {vi vo : Value} {K0 : Act → World → Prop} {Po : Ending → World → Prop} {u1 u7 u8 u9 u10 u11 u12 u13 u14 u15 u16 u17 u18 u19 u20 u21 u22 u23 u24 u25 u26 u27 u28 u29 u30 u31 u32 u33 u34 u35 u36 u37 u38 u39 u40 u41 u42 u43 u44 u45 u46 u47 u48 u49 u50 u51 u52 u53 u54 u55 u56 u57 u58 u59 u60 u61 u62 u63 u64 u65 u66 u67 u68 u69 u70 u71 u72 u73 u74 u75 u76 u77 u78 u79 u80 u81 u82 u83 u84 u85 u86 u87 u88 u89 u90 u91 u92 u93 u94 u95 u96 u97 u98 u99 u100 u101 u102 u103 u104 u105 u106 u107 u108 u109 u110 u111 u112 u113 u114 u115 u116 u117 u118 u119 u120 u121 u122 u123 u124 u125 u126 u127 u128 u129 u130 u131 u132 u133 u134 u135 u136 u137 u138 u139 u140 u141 u142 u143 u144 u145 u146 u147 u148 u149 u150 u151 u152 u153 u154 u155 u156 u157 u158 u159 u160 u161 u162 u163 u164 u165 u166 u167 u168 u169 u170 u171 u172 u173 u174 u175 u176 u177 u178 u179 u180 u181 u182 u183 u184 u185 u186 u187 u188 u189 u190 u191 u192 u193 u194 u195 u196 u197 u198 u199 u200 u201 u202 u203 u204 u205 u206 u207 u208 u209 u210 u211 u212 u213 u214 u215 u216 u217 u218 u219 u220 u221 u222 u223 u224 u225 u226 u227 u228 u229 u230 u231 u232 u233 u234 u235 u236 u237 u238 u239 u240 u241 u242 u243 u244 u245 u246 u247 u248 u249 u250 u251 u252 u253 u254 u255 u256 u257 u258 u259 u260 u261 u262 u263 u264 u265 u266 u267 u268 u269 u270 u271 u272 u273 u274 u275 u276 u277 u278 u279 u280 u281 u282 u283 u284 u285 u286 u287 u288 u289 u290 u291 u292 u293 u294 u295 u296 u297 u298 u299 u300 u301 u302 u303 u304 u305 u306 u307 u308 u309 u310 u311 u312 u313 u314 u315 u316 u317 u318 u319 u320 u321 u322 u323 u324 : Value}
    (hp : p.size ≤ 200) (hS : PR B p pc mp anch ⟨i, done, opened⟩ its gs vi vo wr) (hgk : p.size ≤ i + gk) (hlp : its.length ≤ p.size) (HG : Hid (R = itemsGo p gk ⟨i, done, opened⟩ its)) (hkk : Keeps B [] W0 wr)
    (hret : ∀ w' : World, R = none → Keeps B [] W0 w' → Po (.returned (.pointer none)) w') (hi : i < p.size) (hc : bt p i = 37) (h2 : bt p (i + 1) = 98) (h3 : i + 3 < p.size) :
    Code.wp Tryd.prog patBody (Exit.then (fun a' w' => PI p B pc mp anch R W0 a' w' ∧ PMu p a' < PMu p ⟨#[.string p, u1, .pointer none, .pointer (some ⟨pc, 0, none⟩), .int .i64 i, vo, .map (some mp), u7, u8, u9, u10, u11, u12, u13, u14, u15, u16, u17, u18, u19, u20, u21, u22, u23, u24, u25, u26, u27, u28, u29, u30, u31, u32, u33, u34, u35, u36, u37, u38, u39, u40, u41, u42, u43, u44, u45, u46, u47, u48, u49, u50, u51, u52, u53, u54, u55, u56, u57, u58, u59, u60, u61, u62, u63, u64, u65, u66, u67, u68, u69, u70, u71, u72, u73, u74, u75, u76, u77, u78, u79, u80, u81, u82, u83, u84, u85, u86, u87, u88, u89, u90, u91, u92, u93, u94, u95, u96, u97, u98, u99, u100, u101, u102, u103, u104, u105, u106, u107, u108, u109, u110, u111, u112, u113, u114, u115, u116, u117, u118, u119, u120, u121, u122, u123, u124, u125, u126, u127, u128, u129, u130, u131, u132, u133, u134, u135, u136, u137, u138, u139, u140, u141, u142, u143, u144, u145, u146, u147, u148, u149, u150, u151, u152, u153, u154, u155, u156, u157, u158, u159, u160, u161, u162, u163, u164, u165, u166, u167, u168, u169, u170, u171, u172, u173, u174, u175, u176, u177, u178, u179, u180, u181, u182, u183, u184, u185, u186, u187, u188, u189, u190, u191, u192, u193, u194, u195, u196, u197, u198, u199, u200, u201, u202, u203, u204, u205, u206, u207, u208, u209, u210, u211, u212, u213, u214, u215, u216, u217, u218, u219, u220, u221, u222, u223, u224, u225, u226, u227, u228, u229, u230, u231, u232, u233, u234, u235, u236, u237, u238, u239, u240, u241, u242, u243, u244, u245, u246, u247, u248, u249, u250, u251, u252, u253, u254, u255, u256, u257, u258, u259, u260, u261, u262, u263, u264, u265, u266, u267, u268, u269, u270, u271, u272, u273, u274, u275, u276, u277, u278, u279, u280, u281, u282, u283, u284, u285, u286, u287, u288, u289, u290, u291, u292, u293, u294, u295, u296, u297, u298, u299, u300, u301, u302, u303, u304, u305, u306, u307, u308, u309, u310, u311, u312, u313, u314, u315, u316, u317, u318, u319, u320, u321, u322, u323, u324], []⟩) (Exit.inBlock 0 (Exit.then K0 (bodyPost Tryd.prog Tryd.f10 Po)))) ⟨#[.string p, u1, .pointer none, .pointer (some ⟨pc, 0, none⟩), .int .i64 i, vo, .map (some mp), u7, u8, u9, u10, u11, u12, u13, u14, u15, u16, u17, u18, u19, u20, u21, u22, u23, u24, u25, u26, u27, u28, u29, u30, u31, u32, u33, u34, u35, u36, u37, u38, u39, u40, u41, u42, u43, u44, u45, u46, u47, u48, u49, u50, u51, u52, u53, u54, u55, u56, u57, u58, u59, u60, u61, u62, u63, u64, u65, u66, u67, u68, u69, u70, u71, u72, u73, u74, u75, u76, u77, u78, u79, u80, u81, u82, u83, u84, u85, u86, u87, u88, u89, u90, u91, u92, u93, u94, u95, u96, u97, u98, u99, u100, u101, u102, u103, u104, u105, u106, u107, u108, u109, u110, u111, u112, u113, u114, u115, u116, u117, u118, u119, u120, u121, u122, u123, u124, u125, u126, u127, u128, u129, u130, u131, u132, u133, u134, u135, u136, u137, u138, u139, u140, u141, u142, u143, u144, u145, u146, u147, u148, u149, u150, u151, u152, u153, u154, u155, u156, u157, u158, u159, u160, u161, u162, u163, u164, u165, u166, u167, u168, u169, u170, u171, u172, u173, u174, u175, u176, u177, u178, u179, u180, u181, u182, u183, u184, u185, u186, u187, u188, u189, u190, u191, u192, u193, u194, u195, u196, u197, u198, u199, u200, u201, u202, u203, u204, u205, u206, u207, u208, u209, u210, u211, u212, u213, u214, u215, u216, u217, u218, u219, u220, u221, u222, u223, u224, u225, u226, u227, u228, u229, u230, u231, u232, u233, u234, u235, u236, u237, u238, u239, u240, u241, u242, u243, u244, u245, u246, u247, u248, u249, u250, u251, u252, u253, u254, u255, u256, u257, u258, u259, u260, u261, u262, u263, u264, u265, u266, u267, u268, u269, u270, u271, u272, u273, u274, u275, u276, u277, u278, u279, u280, u281, u282, u283, u284, u285, u286, u287, u288, u289, u290, u291, u292, u293, u294, u295, u296, u297, u298, u299, u300, u301, u302, u303, u304, u305, u306, u307, u308, u309, u310, u311, u312, u313, u314, u315, u316, u317, u318, u319, u320, u321, u322, u323, u324], []⟩ wr := by
  have hd : decide (i < p.size) = true := decide_eq_true hi
  have t1 := rest_dollar hi
  rw [decide_eq_false (by omega)] at t1
  have t2 : Go.Lib.hasPrefix (p.extract i p.size).data.toList (ByteArray.mk #[40, 41]).data.toList = false := rest_unit.trans (decide_eq_false (fun h => by omega))
  have T2 := hid t2
  clear t2
  have hrs : 0 < p.size - i := by omega
  have hrs2 : 0 < (p.extract i p.size).size := by simp; omega
  have e0 : ∀ h : 0 < (p.extract i p.size).size, (((p.extract i p.size)[0]'h).toNat : Int) = bt p i := fun h => (rest_at h).trans (by rw [Nat.add_zero])
  have hrs1 : 1 < p.size - i := by omega
  have hrs3 : 1 < (p.extract i p.size).size := by simp; omega
  have e1 : ∀ h : 1 < (p.extract i p.size).size, (((p.extract i p.size)[1]'h).toNat : Int) = bt p (i + 1) := fun h => rest_at h
  have ds1 : decide (1 < p.size - i) = true := decide_eq_true (by omega)
  have hrs2a : 2 < p.size - i := by omega
  have hrs2c : (2 : Int) < ((p.size - i : Nat) : Int) := by omega
  have hrs2b : 2 < (p.extract i p.size).size := by simp; omega
  have e2 : ∀ h : 2 < (p.extract i p.size).size, (((p.extract i p.size)[2]'h).toNat : Int) = bt p (i + 2) := fun h => rest_at h
  have hrs3a : 3 < p.size - i := by omega
  have hrs3c : (3 : Int) < ((p.size - i : Nat) : Int) := by omega
  have hrs3b : 3 < (p.extract i p.size).size := by simp; omega
  have e3 : ∀ h : 3 < (p.extract i p.size).size, (((p.extract i p.size)[3]'h).toNat : Int) = bt p (i + 3) := fun h => rest_at h
  have c40 : (bt p i == 40) = false := by rw [hc]; rfl
  have c41 : (bt p i == 41) = false := by rw [hc]; rfl
  have c37 : (bt p i == 37) = true := by simpa using hc
  have t3 : Go.Lib.hasPrefix (p.extract i p.size).data.toList (ByteArray.mk #[37, 98]).data.toList = true := rest_pb.trans (decide_eq_true ⟨by omega, hc, h2⟩)
  have T3 := hid t3
  have hdg : digB (bt p (i + 1)) = false := by rw [h2]; rfl
  have HDG := hid hdg
  have d4 : decide (4 ≤ p.size - i) = true := decide_eq_true (by omega)
  clear t3 hdg
  have hit : itemAt p ⟨i, done, opened⟩ = some ({ kind := 5, x := bt p (i + 2), y := bt p (i + 3) }, ⟨i + 4, done, opened⟩) := by
    unfold itemAt; simp only []
    rw [if_neg (by omega), if_neg (by omega), if_neg (by rw [HDG.out]; simp), if_pos ⟨hc, decide_eq_true (by omega), h2⟩, if_pos h3]
  obtain ⟨gk', rfl⟩ : ∃ x, gk = x + 1 := ⟨gk - 1, by omega⟩
  have HR : Hid (R = itemsGo p gk' ⟨i + 4, done, opened⟩ (its ++ [{ kind := 5, x := bt p (i + 2), y := bt p (i + 3) }])) := hid (HG.out.trans (itemsGo_next hi hit))
  obtain ⟨n0, hn0, hP⟩ := hS.ps
  have hmem := hS.mem
  have hb1 := hS.b1
  have hb2 := hS.b2
  have hb3 := hS.b3
  dsimp only at hP hmem hb1 hb2 hb3
  have HM := hid hmem
  obtain ⟨av, cv, rfl⟩ := own_form hP.it
  have HP := hid hP
  have hB : B ≤ wr.heap.size := hP.lo
  have hlpc := blk_lt hP.blk
  obtain ⟨c0, c1, c2, f0, f1, f2⟩ := hP.blk.cells
  have HIT := hid hit
  clear hS hP hit HG hmem
  have Hone : Hid (∀ u ∈ pItCells { kind := 5, x := bt p (i + 2), y := bt p (i + 3) } 0, u.oneCell' = true) := hid (by simp [pItCells, kb, Value.oneCell'])
  have hm1 : its.length + 1 ≤ maxLen := by unfold maxLen; omega
  have hm2 : (its.length + 1) * 40 ≤ 140737488355328 := by omega
  clear hc h2
  conv => arg 2; whnf
  go_wp2_with fail
  refine (pre_any _ _ _).mono ?_
  rintro e w' ⟨rfl, rfl⟩
  rw [T2.out]
  go_wp2_with fail
  refine (isDigit_any _ _).mono ?_
  rintro e w' ⟨rfl, rfl⟩
  rw [HDG.out]
  go_wp2_with fail
  refine (pre_any _ _ _).mono ?_
  rintro e w' ⟨rfl, rfl⟩
  rw [T3.out]
  go_wp2_with fail
  go_region_law (refine step_append_new (W := wr.drew) (us := pItCells { kind := 5, x := bt p (i + 2), y := bt p (i + 3) } 0) rfl (.tmp 200) (.tmp 206) 47 rfl 77 rfl (.agg #[.int .u8 0, .pointer none, .int .u8 0, .int .i64 0, .int .u8 0, .int .u8 0]) 6 40 Tryd.underlying47 info_pitem rfl (by decide) B (.slice av its.length cv) its.length (pCells its gs) (by first | simp [Act.eval] | simp [Act.eval, Act.put]) HP.out.drew.it (by first | simp [Act.eval] | simp [Act.eval, Act.put]) rfl Hone.out hm1 hm2 hB ?_; intro ao cap w4 ho6 hg6 hn6; have hb4 : PBlk w4 pc anch (.slice av its.length cv) done.length := (hg6.block pc hlpc (Ne.symm (own_ne_blk HP.out.it HP.out.blk (by decide)))).trans HP.out.blk; obtain ⟨d0, d1, d2, g0, g1, g2⟩ := hb4.cells)
  all_goals
    obtain ⟨hP2, hk2⟩ := HP.out.drew.push (m := its.length + 1) (it := { kind := 5, x := bt p (i + 2), y := bt p (i + 3) }) (g := 0) rfl ho6 hg6 (fun h => by simp at h) hB
    have HP2 := hid hP2
    have HK2 := hid (hkk.trans ((Keeps.refl B [] wr).drew.trans hk2))
    clear ho6 hg6 hn6 hb4 c0 c1 c2 f0 f1 f2 hk2 hP2
    go_wp2_with fail
    refine ⟨PI_mk (i := i + 4) ⟨⟨i + 4, done, opened⟩, _, _, _, gk', rfl, PS.pr (n := n0) (by simpa using HP2.out) (by simp; omega) HM.out (by simp; omega) (by simp; omega) (by simp; omega), by dsimp only; omega, by simp; omega, HR.out, HK2.out⟩ (by simp), PMu_lt (i := i) (j := i + 4) rfl (by simp) (by omega) hi⟩

set_option maxRecDepth 1000000 in
set_option maxHeartbeats 4000000 in
theorem pat_edge {p : ByteArray} {B pc mp : Nat} {anch : Bool} {R : Option (List It × Rd)} {W0 wr : World} {i gk : Nat} {done : List Bool} {opened : List Nat} {its : List It} {gs : List Nat} {vi vo : Value} {K0 : Act → World → Prop} {Po : Ending → World → Prop} {u1 u7 u8 u9 u10 u11 u12 u13 u14 u15 u16 u17 u18 u19 u20 u21 u22 u23 u24 u25 u26 u27 u28 u29 u30 u31 u32 u33 u34 u35 u36 u37 u38 u39 u40 u41 u42 u43 u44 u45 u46 u47 u48 u49 u50 u51 u52 u53 u54 u55 u56 u57 u58 u59 u60 u61 u62 u63 u64 u65 u66 u67 u68 u69 u70 u71 u72 u73 u74 u75 u76 u77 u78 u79 u80 u81 u82 u83 u84 u85 u86 u87 u88 u89 u90 u91 u92 u93 u94 u95 u96 u97 u98 u99 u100 u101 u102 u103 u104 u105 u106 u107 u108 u109 u110 u111 u112 u113 u114 u115 u116 u117 u118 u119 u120 u121 u122 u123 u124 u125 u126 u127 u128 u129 u130 u131 u132 u133 u134 u135 u136 u137 u138 u139 u140 u141 u142 u143 u144 u145 u146 u147 u148 u149 u150 u151 u152 u153 u154 u155 u156 u157 u158 u159 u160 u161 u162 u163 u164 u165 u166 u167 u168 u169 u170 u171 u172 u173 u174 u175 u176 u177 u178 u179 u180 u181 u182 u183 u184 u185 u186 u187 u188 u189 u190 u191 u192 u193 u194 u195 u196 u197 u198 u199 u200 u201 u202 u203 u204 u205 u206 u207 u208 u209 u210 u211 u212 u213 u214 u215 u216 u217 u218 u219 u220 u221 u222 u223 u224 u225 u226 u227 u228 u229 u230 u231 u232 u233 u234 u235 u236 u237 u238 u239 u240 u241 u242 u243 u244 u245 u246 u247 u248 u249 u250 u251 u252 u253 u254 u255 u256 u257 u258 u259 u260 u261 u262 u263 u264 u265 u266 u267 u268 u269 u270 u271 u272 u273 u274 u275 u276 u277 u278 u279 u280 u281 u282 u283 u284 u285 u286 u287 u288 u289 u290 u291 u292 u293 u294 u295 u296 u297 u298 u299 u300 u301 u302 u303 u304 u305 u306 u307 u308 u309 u310 u311 u312 u313 u314 u315 u316 u317 u318 u319 u320 u321 u322 u323 u324 : Value}
    (hp : p.size ≤ 200) (hS : PR B p pc mp anch ⟨i, done, opened⟩ its gs vi vo wr) (hgk : p.size ≤ i + gk) (hlp : its.length ≤ p.size) (HG : Hid (R = itemsGo p gk ⟨i, done, opened⟩ its)) (hkk : Keeps B [] W0 wr)
    (hret : ∀ w' : World, R = none → Keeps B [] W0 w' → Po (.returned (.pointer none)) w') {f : Nat → Bool} {j : Nat} (hi : i < p.size) (hc : bt p i = 37) (h2 : bt p (i + 1) = 102) (h3 : i + 2 < p.size) (h4 : bt p (i + 2) = 91) (h5 : setAt p (i + 2) = some (f, j)) :
    Code.wp Tryd.prog patBody (Exit.then (fun a' w' => PI p B pc mp anch R W0 a' w' ∧ PMu p a' < PMu p ⟨#[.string p, u1, .pointer none, .pointer (some ⟨pc, 0, none⟩), .int .i64 i, vo, .map (some mp), u7, u8, u9, u10, u11, u12, u13, u14, u15, u16, u17, u18, u19, u20, u21, u22, u23, u24, u25, u26, u27, u28, u29, u30, u31, u32, u33, u34, u35, u36, u37, u38, u39, u40, u41, u42, u43, u44, u45, u46, u47, u48, u49, u50, u51, u52, u53, u54, u55, u56, u57, u58, u59, u60, u61, u62, u63, u64, u65, u66, u67, u68, u69, u70, u71, u72, u73, u74, u75, u76, u77, u78, u79, u80, u81, u82, u83, u84, u85, u86, u87, u88, u89, u90, u91, u92, u93, u94, u95, u96, u97, u98, u99, u100, u101, u102, u103, u104, u105, u106, u107, u108, u109, u110, u111, u112, u113, u114, u115, u116, u117, u118, u119, u120, u121, u122, u123, u124, u125, u126, u127, u128, u129, u130, u131, u132, u133, u134, u135, u136, u137, u138, u139, u140, u141, u142, u143, u144, u145, u146, u147, u148, u149, u150, u151, u152, u153, u154, u155, u156, u157, u158, u159, u160, u161, u162, u163, u164, u165, u166, u167, u168, u169, u170, u171, u172, u173, u174, u175, u176, u177, u178, u179, u180, u181, u182, u183, u184, u185, u186, u187, u188, u189, u190, u191, u192, u193, u194, u195, u196, u197, u198, u199, u200, u201, u202, u203, u204, u205, u206, u207, u208, u209, u210, u211, u212, u213, u214, u215, u216, u217, u218, u219, u220, u221, u222, u223, u224, u225, u226, u227, u228, u229, u230, u231, u232, u233, u234, u235, u236, u237, u238, u239, u240, u241, u242, u243, u244, u245, u246, u247, u248, u249, u250, u251, u252, u253, u254, u255, u256, u257, u258, u259, u260, u261, u262, u263, u264, u265, u266, u267, u268, u269, u270, u271, u272, u273, u274, u275, u276, u277, u278, u279, u280, u281, u282, u283, u284, u285, u286, u287, u288, u289, u290, u291, u292, u293, u294, u295, u296, u297, u298, u299, u300, u301, u302, u303, u304, u305, u306, u307, u308, u309, u310, u311, u312, u313, u314, u315, u316, u317, u318, u319, u320, u321, u322, u323, u324], []⟩) (Exit.inBlock 0 (Exit.then K0 (bodyPost Tryd.prog Tryd.f10 Po)))) ⟨#[.string p, u1, .pointer none, .pointer (some ⟨pc, 0, none⟩), .int .i64 i, vo, .map (some mp), u7, u8, u9, u10, u11, u12, u13, u14, u15, u16, u17, u18, u19, u20, u21, u22, u23, u24, u25, u26, u27, u28, u29, u30, u31, u32, u33, u34, u35, u36, u37, u38, u39, u40, u41, u42, u43, u44, u45, u46, u47, u48, u49, u50, u51, u52, u53, u54, u55, u56, u57, u58, u59, u60, u61, u62, u63, u64, u65, u66, u67, u68, u69, u70, u71, u72, u73, u74, u75, u76, u77, u78, u79, u80, u81, u82, u83, u84, u85, u86, u87, u88, u89, u90, u91, u92, u93, u94, u95, u96, u97, u98, u99, u100, u101, u102, u103, u104, u105, u106, u107, u108, u109, u110, u111, u112, u113, u114, u115, u116, u117, u118, u119, u120, u121, u122, u123, u124, u125, u126, u127, u128, u129, u130, u131, u132, u133, u134, u135, u136, u137, u138, u139, u140, u141, u142, u143, u144, u145, u146, u147, u148, u149, u150, u151, u152, u153, u154, u155, u156, u157, u158, u159, u160, u161, u162, u163, u164, u165, u166, u167, u168, u169, u170, u171, u172, u173, u174, u175, u176, u177, u178, u179, u180, u181, u182, u183, u184, u185, u186, u187, u188, u189, u190, u191, u192, u193, u194, u195, u196, u197, u198, u199, u200, u201, u202, u203, u204, u205, u206, u207, u208, u209, u210, u211, u212, u213, u214, u215, u216, u217, u218, u219, u220, u221, u222, u223, u224, u225, u226, u227, u228, u229, u230, u231, u232, u233, u234, u235, u236, u237, u238, u239, u240, u241, u242, u243, u244, u245, u246, u247, u248, u249, u250, u251, u252, u253, u254, u255, u256, u257, u258, u259, u260, u261, u262, u263, u264, u265, u266, u267, u268, u269, u270, u271, u272, u273, u274, u275, u276, u277, u278, u279, u280, u281, u282, u283, u284, u285, u286, u287, u288, u289, u290, u291, u292, u293, u294, u295, u296, u297, u298, u299, u300, u301, u302, u303, u304, u305, u306, u307, u308, u309, u310, u311, u312, u313, u314, u315, u316, u317, u318, u319, u320, u321, u322, u323, u324], []⟩ wr := by
  have hd : decide (i < p.size) = true := decide_eq_true hi
  have t1 := rest_dollar hi
  rw [decide_eq_false (by omega)] at t1
  have t2 : Go.Lib.hasPrefix (p.extract i p.size).data.toList (ByteArray.mk #[40, 41]).data.toList = false := rest_unit.trans (decide_eq_false (fun h => by omega))
  have T2 := hid t2
  clear t2
  have hrs : 0 < p.size - i := by omega
  have hrs2 : 0 < (p.extract i p.size).size := by simp; omega
  have e0 : ∀ h : 0 < (p.extract i p.size).size, (((p.extract i p.size)[0]'h).toNat : Int) = bt p i := fun h => (rest_at h).trans (by rw [Nat.add_zero])
  have hrs1 : 1 < p.size - i := by omega
  have hrs3 : 1 < (p.extract i p.size).size := by simp; omega
  have e1 : ∀ h : 1 < (p.extract i p.size).size, (((p.extract i p.size)[1]'h).toNat : Int) = bt p (i + 1) := fun h => rest_at h
  have ds1 : decide (1 < p.size - i) = true := decide_eq_true (by omega)
  have c40 : (bt p i == 40) = false := by rw [hc]; rfl
  have c41 : (bt p i == 41) = false := by rw [hc]; rfl
  have c37 : (bt p i == 37) = true := by simpa using hc
  have t3 : Go.Lib.hasPrefix (p.extract i p.size).data.toList (ByteArray.mk #[37, 98]).data.toList = false := rest_pb.trans (decide_eq_false (fun h => by omega))
  have T3 := hid t3
  have t4 : Go.Lib.hasPrefix (p.extract i p.size).data.toList (ByteArray.mk #[37, 102, 91]).data.toList = true := rest_pf.trans (decide_eq_true ⟨h3, hc, h2, h4⟩)
  have T4 := hid t4
  have hdg : digB (bt p (i + 1)) = false := by rw [h2]; rfl
  have HDG := hid hdg
  clear t3 t4 hdg
  have hij : i + 2 < j ∧ j ≤ p.size := setAt_le h5
  have hij1 := hij.1
  have hij2 := hij.2
  have hit : itemAt p ⟨i, done, opened⟩ = some ({ kind := 6, set := f }, ⟨j, done, opened⟩) := by
    unfold itemAt; simp only []
    rw [if_neg (by omega), if_neg (by omega), if_neg (by rw [HDG.out]; simp), if_neg (fun h => by omega), if_pos ⟨hc, decide_eq_true (by omega), h2⟩, if_pos ⟨h3, h4⟩, h5]
  obtain ⟨gk', rfl⟩ : ∃ x, gk = x + 1 := ⟨gk - 1, by omega⟩
  have HR : Hid (R = itemsGo p gk' ⟨j, done, opened⟩ (its ++ [{ kind := 6, set := f }])) := hid (HG.out.trans (itemsGo_next hi hit))
  obtain ⟨n0, hn0, hP⟩ := hS.ps
  have hmem := hS.mem
  have hb1 := hS.b1
  have hb2 := hS.b2
  have hb3 := hS.b3
  dsimp only at hP hmem hb1 hb2 hb3
  have HM := hid hmem
  obtain ⟨av, cv, rfl⟩ := own_form hP.it
  have HP := hid hP
  have hB : B ≤ wr.heap.size := hP.lo
  have hlpc := blk_lt hP.blk
  obtain ⟨c0, c1, c2, f0, f1, f2⟩ := hP.blk.cells
  have HIT := hid hit
  clear hS hP hit HG hmem
  have H5 := hid h5
  clear hc h2 h4 h5 hij
  conv => arg 2; whnf
  go_wp2_with fail
  refine (pre_any _ _ _).mono ?_
  rintro e w' ⟨rfl, rfl⟩
  rw [T2.out]
  go_wp2_with fail
  refine (isDigit_any _ _).mono ?_
  rintro e w' ⟨rfl, rfl⟩
  rw [HDG.out]
  go_wp2_with fail
  refine (pre_any _ _ _).mono ?_
  rintro e w' ⟨rfl, rfl⟩
  rw [T3.out]
  go_wp2_with fail
  refine (pre_any _ _ _).mono ?_
  rintro e w' ⟨rfl, rfl⟩
  rw [T4.out]
  go_wp2_with fail
  refine (by simpa using patSet_any p (i + 2) wr hp h3 : Calls Tryd.prog 25 #[.string p, .int .i64 ((i : Int) + 2)] wr (fun e w' => PSetPost (setAt p (i + 2)) wr e w')).mono ?_
  rintro e w2 ⟨hk2, hno, hyes⟩
  obtain ⟨g, rfl, hg, hrow⟩ := hyes f j H5.out
  have hP2 := HP.out.keeps hk2
  have HP2 := hid hP2
  have HK2 := hid (hkk.andThen hk2 hB (by simp) : Keeps B [] W0 w2)
  have HROW := hid hrow
  have hBg : B ≤ g := by omega
  have hj0 : (0 : Int) < j := by omega
  have hlpc2 := blk_lt hP2.blk
  clear c0 c1 c2 f0 f1 f2 hno hyes hk2 hrow
  obtain ⟨c0, c1, c2, f0, f1, f2⟩ := hP2.blk.cells
  have hB2 := hP2.lo
  clear hP2
  go_wp2_with (at_builtin; go_must (refine append_newS (us := pItCells { kind := 6, set := f } g) rfl _ _ 47 rfl 77 rfl (.agg #[.int .u8 0, .pointer none, .int .u8 0, .int .i64 0, .int .u8 0, .int .u8 0]) 6 40 Tryd.underlying47 info_pitem rfl (by decide) B _ its.length (pCells its gs) rfl HP2.out.it _ rfl rfl rfl (by simp [pItCells, kb, Value.oneCell']) (by unfold maxLen; omega) (by omega) hB2 ?_))
  intro ao cap w6 ho6 hg6 hn6
  obtain ⟨hP4, hk4⟩ := HP2.out.push (m := its.length + 1) (it := { kind := 6, set := f }) (g := g) rfl ho6 hg6 (fun _ => ⟨hBg, HROW.out⟩) hB2
  have hb4 : PBlk w6 pc anch (.slice av its.length cv) done.length := (hg6.block pc hlpc2 (Ne.symm (own_ne_blk HP2.out.it HP2.out.blk (by decide)))).trans HP2.out.blk
  clear c0 c1 c2 f0 f1 f2
  obtain ⟨d0, d1, d2, g0, g1, g2⟩ := hb4.cells
  have HP4 := hid hP4
  have HK4 := hid (HK2.out.trans hk4)
  clear ho6 hg6 hn6 hP4 hk4 hb4
  go_wp2_with fail
  refine ⟨PI_mk (i := j) ⟨⟨j, done, opened⟩, _, _, _, gk', rfl, PS.pr (n := n0) (by simpa using HP4.out) (by simp; omega) HM.out (by simp; omega) (by simp; omega) (by simp; omega), by dsimp only; omega, by simp; omega, HR.out, HK4.out⟩ (by simp), PMu_lt (i := i) (j := j) rfl (by simp) (by omega) hi⟩
end Go.Proofs.YtpinoolagbghnaaDoor
