/-
  Walk: rounds of the program's reader of patterns: singles.
  Walk: rounds of the program's reader of patterns: any byte.
-/
import Derived.Test.YtpinoolagbghnaaDoorZPatS
namespace Go.Proofs.YtpinoolagbghnaaDoor
set_option linter.unusedVariables false
open Go.RowKit Go.Maps Pat

set_option maxRecDepth 1000000 in
set_option maxHeartbeats 4000000 in
theorem pat_other {p : ByteArray} {B pc mp : Nat} {anch : Bool} {R : Option (List It × Rd)} {W0 wr : World} {i gk : Nat} {done : List Bool} {opened : List Nat} {its : List It} {gs : List Nat} {vi vo : Value} {K0 : Act → World → Prop} {Po : Ending → World → Prop} {u1 u7 u8 u9 u10 u11 u12 u13 u14 u15 u16 u17 u18 u19 u20 u21 u22 u23 u24 u25 u26 u27 u28 u29 u30 u31 u32 u33 u34 u35 u36 u37 u38 u39 u40 u41 u42 u43 u44 u45 u46 u47 u48 u49 u50 u51 u52 u53 u54 u55 u56 u57 u58 u59 u60 u61 u62 u63 u64 u65 u66 u67 u68 u69 u70 u71 u72 u73 u74 u75 u76 u77 u78 u79 u80 u81 u82 u83 u84 u85 u86 u87 u88 u89 u90 u91 u92 u93 u94 u95 u96 u97 u98 u99 u100 u101 u102 u103 u104 u105 u106 u107 u108 u109 u110 u111 u112 u113 u114 u115 u116 u117 u118 u119 u120 u121 u122 u123 u124 u125 u126 u127 u128 u129 u130 u131 u132 u133 u134 u135 u136 u137 u138 u139 u140 u141 u142 u143 u144 u145 u146 u147 u148 u149 u150 u151 u152 u153 u154 u155 u156 u157 u158 u159 u160 u161 u162 u163 u164 u165 u166 u167 u168 u169 u170 u171 u172 u173 u174 u175 u176 u177 u178 u179 u180 u181 u182 u183 u184 u185 u186 u187 u188 u189 u190 u191 u192 u193 u194 u195 u196 u197 u198 u199 u200 u201 u202 u203 u204 u205 u206 u207 u208 u209 u210 u211 u212 u213 u214 u215 u216 u217 u218 u219 u220 u221 u222 u223 u224 u225 u226 u227 u228 u229 u230 u231 u232 u233 u234 u235 u236 u237 u238 u239 u240 u241 u242 u243 u244 u245 u246 u247 u248 u249 u250 u251 u252 u253 u254 u255 u256 u257 u258 u259 u260 u261 u262 u263 u264 u265 u266 u267 u268 u269 u270 u271 u272 u273 u274 u275 u276 u277 u278 u279 u280 u281 u282 u283 u284 u285 u286 u287 u288 u289 u290 u291 u292 u293 u294 u295 u296 u297 u298 u299 u300 u301 u302 u303 u304 u305 u306 u307 u308 u309 u310 u311 u312 u313 u314 u315 u316 u317 u318 u319 u320 u321 u322 u323 u324 : Value}
    (hp : p.size ≤ 200) (hS : PR B p pc mp anch ⟨i, done, opened⟩ its gs vi vo wr) (hgk : p.size ≤ i + gk) (hlp : its.length ≤ p.size) (HG : Hid (R = itemsGo p gk ⟨i, done, opened⟩ its)) (hkk : Keeps B [] W0 wr)
    (hret : ∀ w' : World, R = none → Keeps B [] W0 w' → Po (.returned (.pointer none)) w') (hi : i < p.size) (hne : ¬ (bt p i = 36 ∧ i + 1 = p.size)) (h40 : bt p i ≠ 40) (h41 : bt p i ≠ 41) (h37 : bt p i ≠ 37) (h46 : bt p i ≠ 46) (h91 : bt p i ≠ 91) :
    Code.wp Tryd.prog patBody (Exit.then (fun a' w' => PI p B pc mp anch R W0 a' w' ∧ PMu p a' < PMu p ⟨#[.string p, u1, .pointer none, .pointer (some ⟨pc, 0, none⟩), .int .i64 i, vo, .map (some mp), u7, u8, u9, u10, u11, u12, u13, u14, u15, u16, u17, u18, u19, u20, u21, u22, u23, u24, u25, u26, u27, u28, u29, u30, u31, u32, u33, u34, u35, u36, u37, u38, u39, u40, u41, u42, u43, u44, u45, u46, u47, u48, u49, u50, u51, u52, u53, u54, u55, u56, u57, u58, u59, u60, u61, u62, u63, u64, u65, u66, u67, u68, u69, u70, u71, u72, u73, u74, u75, u76, u77, u78, u79, u80, u81, u82, u83, u84, u85, u86, u87, u88, u89, u90, u91, u92, u93, u94, u95, u96, u97, u98, u99, u100, u101, u102, u103, u104, u105, u106, u107, u108, u109, u110, u111, u112, u113, u114, u115, u116, u117, u118, u119, u120, u121, u122, u123, u124, u125, u126, u127, u128, u129, u130, u131, u132, u133, u134, u135, u136, u137, u138, u139, u140, u141, u142, u143, u144, u145, u146, u147, u148, u149, u150, u151, u152, u153, u154, u155, u156, u157, u158, u159, u160, u161, u162, u163, u164, u165, u166, u167, u168, u169, u170, u171, u172, u173, u174, u175, u176, u177, u178, u179, u180, u181, u182, u183, u184, u185, u186, u187, u188, u189, u190, u191, u192, u193, u194, u195, u196, u197, u198, u199, u200, u201, u202, u203, u204, u205, u206, u207, u208, u209, u210, u211, u212, u213, u214, u215, u216, u217, u218, u219, u220, u221, u222, u223, u224, u225, u226, u227, u228, u229, u230, u231, u232, u233, u234, u235, u236, u237, u238, u239, u240, u241, u242, u243, u244, u245, u246, u247, u248, u249, u250, u251, u252, u253, u254, u255, u256, u257, u258, u259, u260, u261, u262, u263, u264, u265, u266, u267, u268, u269, u270, u271, u272, u273, u274, u275, u276, u277, u278, u279, u280, u281, u282, u283, u284, u285, u286, u287, u288, u289, u290, u291, u292, u293, u294, u295, u296, u297, u298, u299, u300, u301, u302, u303, u304, u305, u306, u307, u308, u309, u310, u311, u312, u313, u314, u315, u316, u317, u318, u319, u320, u321, u322, u323, u324], []⟩) (Exit.inBlock 0 (Exit.then K0 (bodyPost Tryd.prog Tryd.f10 Po)))) ⟨#[.string p, u1, .pointer none, .pointer (some ⟨pc, 0, none⟩), .int .i64 i, vo, .map (some mp), u7, u8, u9, u10, u11, u12, u13, u14, u15, u16, u17, u18, u19, u20, u21, u22, u23, u24, u25, u26, u27, u28, u29, u30, u31, u32, u33, u34, u35, u36, u37, u38, u39, u40, u41, u42, u43, u44, u45, u46, u47, u48, u49, u50, u51, u52, u53, u54, u55, u56, u57, u58, u59, u60, u61, u62, u63, u64, u65, u66, u67, u68, u69, u70, u71, u72, u73, u74, u75, u76, u77, u78, u79, u80, u81, u82, u83, u84, u85, u86, u87, u88, u89, u90, u91, u92, u93, u94, u95, u96, u97, u98, u99, u100, u101, u102, u103, u104, u105, u106, u107, u108, u109, u110, u111, u112, u113, u114, u115, u116, u117, u118, u119, u120, u121, u122, u123, u124, u125, u126, u127, u128, u129, u130, u131, u132, u133, u134, u135, u136, u137, u138, u139, u140, u141, u142, u143, u144, u145, u146, u147, u148, u149, u150, u151, u152, u153, u154, u155, u156, u157, u158, u159, u160, u161, u162, u163, u164, u165, u166, u167, u168, u169, u170, u171, u172, u173, u174, u175, u176, u177, u178, u179, u180, u181, u182, u183, u184, u185, u186, u187, u188, u189, u190, u191, u192, u193, u194, u195, u196, u197, u198, u199, u200, u201, u202, u203, u204, u205, u206, u207, u208, u209, u210, u211, u212, u213, u214, u215, u216, u217, u218, u219, u220, u221, u222, u223, u224, u225, u226, u227, u228, u229, u230, u231, u232, u233, u234, u235, u236, u237, u238, u239, u240, u241, u242, u243, u244, u245, u246, u247, u248, u249, u250, u251, u252, u253, u254, u255, u256, u257, u258, u259, u260, u261, u262, u263, u264, u265, u266, u267, u268, u269, u270, u271, u272, u273, u274, u275, u276, u277, u278, u279, u280, u281, u282, u283, u284, u285, u286, u287, u288, u289, u290, u291, u292, u293, u294, u295, u296, u297, u298, u299, u300, u301, u302, u303, u304, u305, u306, u307, u308, u309, u310, u311, u312, u313, u314, u315, u316, u317, u318, u319, u320, u321, u322, u323, u324], []⟩ wr := by
  have hd : decide (i < p.size) = true := decide_eq_true hi
  have t1 := rest_dollar hi
  rw [decide_eq_false hne] at t1
  have t2 : Go.Lib.hasPrefix (p.extract i p.size).data.toList (ByteArray.mk #[40, 41]).data.toList = false := rest_unit.trans (decide_eq_false (fun h => by omega))
  have T2 := hid t2
  clear t2
  have hrs : 0 < p.size - i := by omega
  have hrs2 : 0 < (p.extract i p.size).size := by simp; omega
  have e0 : ∀ h : 0 < (p.extract i p.size).size, (((p.extract i p.size)[0]'h).toNat : Int) = bt p i := fun h => (rest_at h).trans (by rw [Nat.add_zero])
  have t3 : Go.Lib.hasPrefix (p.extract i p.size).data.toList (ByteArray.mk #[37, 98]).data.toList = false := rest_pb.trans (decide_eq_false (fun h => by omega))
  have T3 := hid t3
  have t4 : Go.Lib.hasPrefix (p.extract i p.size).data.toList (ByteArray.mk #[37, 102, 91]).data.toList = false := rest_pf.trans (decide_eq_false (fun h => by omega))
  have T4 := hid t4
  clear t3 t4
  have c40 : (bt p i == 40) = false := by simpa using h40
  have c41 : (bt p i == 41) = false := by simpa using h41
  have c37 : (bt p i == 37) = false := by simpa using h37
  have c46 : (bt p i == 46) = false := by simpa using h46
  have c91 : (bt p i == 91) = false := by simpa using h91
  have hb0 := bt_nonneg p i
  have hb255 := bt_le p i
  have hit : itemAt p ⟨i, done, opened⟩ = if signAt p (i + 1) = true then some ({ kind := 0, set := (fun b : Nat => decide ((b : Int) = bt p i)), sign := bt p (i + 1) }, (⟨i + 1 + 1, done, opened⟩ : Rd)) else some ({ kind := 0, set := (fun b : Nat => decide ((b : Int) = bt p i)) }, (⟨i + 1, done, opened⟩ : Rd)) := by
    unfold itemAt; simp only []
    rw [if_neg h40, if_neg h41, if_neg (fun h => h37 h.1), if_neg (fun h => h37 h.1), if_neg (fun h => h37 h.1), if_neg (fun h => hne ⟨h.1, by have := of_decide_eq_false h.2; omega⟩)]
    unfold singleAt
    rw [if_neg h91, if_neg h46, if_neg h37]
  have HIT := hid hit
  clear hit hne h40 h41 h37 h46 h91
  obtain ⟨gk', rfl⟩ : ∃ x, gk = x + 1 := ⟨gk - 1, by omega⟩
  obtain ⟨n0, hn0, hP⟩ := hS.ps
  have hmem := hS.mem
  have hb1 := hS.b1
  have hb2 := hS.b2
  have hb3 := hS.b3
  dsimp only at hP hmem hb1 hb2 hb3
  have HM := hid hmem
  obtain ⟨av, cv, rfl⟩ := own_form hP.it
  have HP := hid hP
  have hB : B ≤ wr.heap.size := hP.lo
  have hlpc := blk_lt hP.blk
  obtain ⟨c0, c1, c2, f0, f1, f2⟩ := hP.blk.cells
  clear hS hP hmem
  have hz := zero_set
  conv => arg 2; whnf
  go_wp2_with fail
  refine (pre_any _ _ _).mono ?_
  rintro e w' ⟨rfl, rfl⟩
  rw [T2.out]
  go_wp2_with fail
  refine (pre_any _ _ _).mono ?_
  rintro e w' ⟨rfl, rfl⟩
  rw [T3.out]
  go_wp2_with fail
  refine (pre_any _ _ _).mono ?_
  rintro e w' ⟨rfl, rfl⟩
  rw [T4.out]
  go_upto_region 50 with fail
  obtain ⟨W1, hW1⟩ : ∃ W1, W1 = wr.alloc (.cells (madeCells #[.bool false] 256) 82) := ⟨_, rfl⟩
  have hk1 : Keeps wr.heap.size [] wr W1 := by rw [hW1]; exact (Keeps.refl _ _ _).alloc (Nat.le_refl _) _
  have hrow0 : BoolRow W1 wr.heap.size 82 256 (fun _ => false) := by rw [hW1]; exact World.rowIs_made wr (.bool false) 256 82
  rw [← hW1]
  clear hW1
  have r1 := hrow0.cell (i := (bt p i).toNat) (by omega)
  have r2 := hrow0.frozen (bt p i).toNat
  have r3 := hrow0.lt
  go_region
  go_upto_region 72 with fail
  obtain ⟨W2, hW2⟩ : ∃ W2, W2 = (W1.setCell ⟨wr.heap.size, (bt p i).toNat, none⟩ (.bool true)).drew := ⟨_, rfl⟩
  rw [← hW2]
  have hk2 : Keeps wr.heap.size [] wr W2 := by rw [hW2]; exact (hk1.setCell (Or.inr (Nat.le_refl _)) _).drew
  have HROW : Hid (BoolRow W2 wr.heap.size 82 256 (fun b : Nat => decide ((b : Int) = bt p i))) := hid (by
    rw [hW2]
    exact (BoolRow.set hrow0 (bt p i).toNat true).drew.congr fun j hj => by
      have := one_add hb0 (fun _ => false) j
      rw [Bool.false_or] at this
      exact congrArg Value.bool this)
  have HP2 := hid (HP.out.keeps hk2)
  have HK2 := hid (hkk.andThen hk2 hB (by simp))
  have hBg : B ≤ wr.heap.size := hB
  have hBw : B ≤ W2.heap.size := HP2.out.lo
  have hij1 : i < i + 1 := by omega
  clear hW2 hk2 hk1 hrow0 r1 r2 r3
  have hm1 : its.length + 1 ≤ maxLen := by unfold maxLen; omega
  have hm2 : (its.length + 1) * 40 ≤ 140737488355328 := by omega
  have hbj0 := bt_nonneg p (i + 1)
  have hbj255 := bt_le p (i + 1)
  have hW2s := hBw
  by_cases hsg : signAt p (i + 1) = true
  · have hsg2 : i + 1 < p.size ∧ (bt p (i + 1) = 42 ∨ bt p (i + 1) = 43 ∨ bt p (i + 1) = 45 ∨ bt p (i + 1) = 63) := by unfold signAt at hsg; simpa [or_assoc] using hsg
    obtain ⟨hjl, hjc⟩ := hsg2
    have HJC := hid hjc
    have HSG := hid hsg
    have ej : ∀ h : i + 1 < p.size, ((p[i + 1]'h).toNat : Int) = bt p (i + 1) := fun h => (bt_of_lt h).symm
    have dj : decide (i + 1 < p.size) = true := decide_eq_true hjl
    have djI : decide (((i + 1 : Nat) : Int) < p.size) = true := decide_eq_true (by omega)
    clear hjc hsg
    have HR : Hid (R = itemsGo p gk' ⟨i + 1 + 1, done, opened⟩ (its ++ [{ kind := 0, set := (fun b : Nat => decide ((b : Int) = bt p i)), sign := bt p (i + 1) }])) := hid (HG.out.trans (itemsGo_next hi (HIT.out.trans (if_pos HSG.out))))
    go_upto_region 76 with (refine (ib_yes _ HJC.out _).mono ?_; rintro e w' ⟨x, hx, rfl, rfl⟩)
    obtain ⟨W3, hW3⟩ : ∃ W3, W3 = W2.alloc (.cells #[.int .u8 115, .pointer (some ⟨wr.heap.size, 0, none⟩), .int .u8 (bt p (i + 1)), .int .i64 0, .int .u8 0, .int .u8 0] 77) := ⟨_, rfl⟩
    rw [← hW3]
    have hk3 : Keeps W2.heap.size [] W2 W3 := by rw [hW3]; exact (Keeps.refl _ _ _).alloc (Nat.le_refl _) _
    have hb3 : W3.heap[W2.heap.size]? = some (.cells #[.int .u8 115, .pointer (some ⟨wr.heap.size, 0, none⟩), .int .u8 (bt p (i + 1)), .int .i64 0, .int .u8 0, .int .u8 0] 77 (0, 0)) := by rw [hW3]; exact blk_new _ _
    have HP3 := hid (HP2.out.keeps hk3)
    have HROW3 := hid (hk3.row HROW.out HROW.out.lt (by simp))
    have HK3 := hid (HK2.out.andThen hk3 hBw (by simp))
    have k0 := blk_cell hb3 0
    have k1 := blk_cell hb3 1
    have k2 := blk_cell hb3 2
    have k3 := blk_cell hb3 3
    have k4 := blk_cell hb3 4
    have k5 := blk_cell hb3 5
    have hl3 := blk_lt hb3
    have hB3 := HP3.out.lo
    have hlpc3 := blk_lt HP3.out.blk
    have Hone : Hid (∀ u ∈ pItCells { kind := 0, set := (fun b : Nat => decide ((b : Int) = bt p i)), sign := bt p (i + 1) } wr.heap.size, u.oneCell' = true) := hid (by simp [pItCells, kb, Value.oneCell'])
    clear hW3 hk3 hb3 c0 c1 c2 f0 f1 f2
    obtain ⟨c0, c1, c2, f0, f1, f2⟩ := HP3.out.blk.cells
    go_region_law (refine step_append_new (W := W3.drew) (us := pItCells { kind := 0, set := (fun b : Nat => decide ((b : Int) = bt p i)), sign := bt p (i + 1) } wr.heap.size) rfl (.tmp 308) (.tmp 310) 47 rfl 77 rfl (.agg #[.int .u8 0, .pointer none, .int .u8 0, .int .i64 0, .int .u8 0, .int .u8 0]) 6 40 Tryd.underlying47 info_pitem rfl (by decide) B (.slice av its.length cv) its.length (pCells its gs) (by first | simp [Act.eval] | simp [Act.eval, Act.put]) HP3.out.drew.it (by first | simp [Act.eval] | simp [Act.eval, Act.put]) rfl Hone.out hm1 hm2 hB3 ?_; intro ao cap w4 ho6 hg6 hn6; have hb4 : PBlk w4 pc anch (.slice av its.length cv) done.length := (hg6.block pc hlpc3 (Ne.symm (own_ne_blk HP3.out.it HP3.out.blk (by decide)))).trans HP3.out.blk; obtain ⟨d0, d1, d2, g0, g1, g2⟩ := hb4.cells)
    all_goals
      obtain ⟨hP5, hk5⟩ := HP3.out.drew.push (m := its.length + 1) (it := { kind := 0, set := (fun b : Nat => decide ((b : Int) = bt p i)), sign := bt p (i + 1) }) (g := wr.heap.size) rfl ho6 hg6 (fun _ => ⟨hBg, HROW3.out⟩) hB3
      have HP5 := hid hP5
      have HK5 := hid (HK3.out.trans ((Keeps.refl B [] W3).drew.trans hk5))
      clear ho6 hg6 hn6 hb4 c0 c1 c2 f0 f1 f2 hk5 hP5
      go_wp2_with fail
      refine ⟨PI_mk (i := i + 1 + 1) ⟨⟨i + 1 + 1, done, opened⟩, _, _, _, gk', rfl, PS.pr (n := n0) (by simpa using HP5.out) (by simp; omega) HM.out (by simp; omega) (by simp; omega) (by simp; omega), by dsimp only; omega, by simp; omega, HR.out, HK5.out⟩ (by simp), PMu_lt (i := i) (j := i + 1 + 1) rfl (by simp) (by omega) hi⟩
  · have HSG := hid hsg
    have ej : ∀ h : i + 1 < p.size, ((p[i + 1]'h).toNat : Int) = bt p (i + 1) := fun h => (bt_of_lt h).symm
    by_cases hjl : i + 1 < p.size
    · have hjc : ¬ (bt p (i + 1) = 42 ∨ bt p (i + 1) = 43 ∨ bt p (i + 1) = 45 ∨ bt p (i + 1) = 63) := by
        intro h; apply hsg; unfold signAt; simpa [or_assoc] using ⟨hjl, h⟩
      have HJC := hid hjc
      have dj : decide (i + 1 < p.size) = true := decide_eq_true hjl
      clear hjc hsg
      have HR : Hid (R = itemsGo p gk' ⟨i + 1, done, opened⟩ (its ++ [{ kind := 0, set := (fun b : Nat => decide ((b : Int) = bt p i)) }])) := hid (HG.out.trans (itemsGo_next hi (HIT.out.trans (if_neg HSG.out))))
      go_upto_region 76 with (refine (ib_no _ hbj0 hbj255 HJC.out _).mono ?_; rintro e w' ⟨x, hx, rfl, rfl⟩)
      obtain ⟨W3, hW3⟩ : ∃ W3, W3 = W2.alloc (.cells #[.int .u8 115, .pointer (some ⟨wr.heap.size, 0, none⟩), .int .u8 (0), .int .i64 0, .int .u8 0, .int .u8 0] 77) := ⟨_, rfl⟩
      rw [← hW3]
      have hk3 : Keeps W2.heap.size [] W2 W3 := by rw [hW3]; exact (Keeps.refl _ _ _).alloc (Nat.le_refl _) _
      have hb3 : W3.heap[W2.heap.size]? = some (.cells #[.int .u8 115, .pointer (some ⟨wr.heap.size, 0, none⟩), .int .u8 (0), .int .i64 0, .int .u8 0, .int .u8 0] 77 (0, 0)) := by rw [hW3]; exact blk_new _ _
      have HP3 := hid (HP2.out.keeps hk3)
      have HROW3 := hid (hk3.row HROW.out HROW.out.lt (by simp))
      have HK3 := hid (HK2.out.andThen hk3 hBw (by simp))
      have k0 := blk_cell hb3 0
      have k1 := blk_cell hb3 1
      have k2 := blk_cell hb3 2
      have k3 := blk_cell hb3 3
      have k4 := blk_cell hb3 4
      have k5 := blk_cell hb3 5
      have hl3 := blk_lt hb3
      have hB3 := HP3.out.lo
      have hlpc3 := blk_lt HP3.out.blk
      have Hone : Hid (∀ u ∈ pItCells { kind := 0, set := (fun b : Nat => decide ((b : Int) = bt p i)) } wr.heap.size, u.oneCell' = true) := hid (by simp [pItCells, kb, Value.oneCell'])
      clear hW3 hk3 hb3 c0 c1 c2 f0 f1 f2
      obtain ⟨c0, c1, c2, f0, f1, f2⟩ := HP3.out.blk.cells
      go_region_law (refine step_append_new (W := W3.drew) (us := pItCells { kind := 0, set := (fun b : Nat => decide ((b : Int) = bt p i)) } wr.heap.size) rfl (.tmp 308) (.tmp 310) 47 rfl 77 rfl (.agg #[.int .u8 0, .pointer none, .int .u8 0, .int .i64 0, .int .u8 0, .int .u8 0]) 6 40 Tryd.underlying47 info_pitem rfl (by decide) B (.slice av its.length cv) its.length (pCells its gs) (by first | simp [Act.eval] | simp [Act.eval, Act.put]) HP3.out.drew.it (by first | simp [Act.eval] | simp [Act.eval, Act.put]) rfl Hone.out hm1 hm2 hB3 ?_; intro ao cap w4 ho6 hg6 hn6; have hb4 : PBlk w4 pc anch (.slice av its.length cv) done.length := (hg6.block pc hlpc3 (Ne.symm (own_ne_blk HP3.out.it HP3.out.blk (by decide)))).trans HP3.out.blk; obtain ⟨d0, d1, d2, g0, g1, g2⟩ := hb4.cells)
      all_goals
        obtain ⟨hP5, hk5⟩ := HP3.out.drew.push (m := its.length + 1) (it := { kind := 0, set := (fun b : Nat => decide ((b : Int) = bt p i)) }) (g := wr.heap.size) rfl ho6 hg6 (fun _ => ⟨hBg, HROW3.out⟩) hB3
        have HP5 := hid hP5
        have HK5 := hid (HK3.out.trans ((Keeps.refl B [] W3).drew.trans hk5))
        clear ho6 hg6 hn6 hb4 c0 c1 c2 f0 f1 f2 hk5 hP5
        go_wp2_with fail
        refine ⟨PI_mk (i := i + 1) ⟨⟨i + 1, done, opened⟩, _, _, _, gk', rfl, PS.pr (n := n0) (by simpa using HP5.out) (by simp; omega) HM.out (by simp; omega) (by simp; omega) (by simp; omega), by dsimp only; omega, by simp; omega, HR.out, HK5.out⟩ (by simp), PMu_lt (i := i) (j := i + 1) rfl (by simp) (by omega) hi⟩
    · have dj : decide (i + 1 < p.size) = false := decide_eq_false hjl
      clear hsg
      have HR : Hid (R = itemsGo p gk' ⟨i + 1, done, opened⟩ (its ++ [{ kind := 0, set := (fun b : Nat => decide ((b : Int) = bt p i)) }])) := hid (HG.out.trans (itemsGo_next hi (HIT.out.trans (if_neg HSG.out))))
      go_upto_region 76 with fail
      obtain ⟨W3, hW3⟩ : ∃ W3, W3 = W2.alloc (.cells #[.int .u8 115, .pointer (some ⟨wr.heap.size, 0, none⟩), .int .u8 (0), .int .i64 0, .int .u8 0, .int .u8 0] 77) := ⟨_, rfl⟩
      rw [← hW3]
      have hk3 : Keeps W2.heap.size [] W2 W3 := by rw [hW3]; exact (Keeps.refl _ _ _).alloc (Nat.le_refl _) _
      have hb3 : W3.heap[W2.heap.size]? = some (.cells #[.int .u8 115, .pointer (some ⟨wr.heap.size, 0, none⟩), .int .u8 (0), .int .i64 0, .int .u8 0, .int .u8 0] 77 (0, 0)) := by rw [hW3]; exact blk_new _ _
      have HP3 := hid (HP2.out.keeps hk3)
      have HROW3 := hid (hk3.row HROW.out HROW.out.lt (by simp))
      have HK3 := hid (HK2.out.andThen hk3 hBw (by simp))
      have k0 := blk_cell hb3 0
      have k1 := blk_cell hb3 1
      have k2 := blk_cell hb3 2
      have k3 := blk_cell hb3 3
      have k4 := blk_cell hb3 4
      have k5 := blk_cell hb3 5
      have hl3 := blk_lt hb3
      have hB3 := HP3.out.lo
      have hlpc3 := blk_lt HP3.out.blk
      have Hone : Hid (∀ u ∈ pItCells { kind := 0, set := (fun b : Nat => decide ((b : Int) = bt p i)) } wr.heap.size, u.oneCell' = true) := hid (by simp [pItCells, kb, Value.oneCell'])
      clear hW3 hk3 hb3 c0 c1 c2 f0 f1 f2
      obtain ⟨c0, c1, c2, f0, f1, f2⟩ := HP3.out.blk.cells
      go_region_law (refine step_append_new (W := W3.drew) (us := pItCells { kind := 0, set := (fun b : Nat => decide ((b : Int) = bt p i)) } wr.heap.size) rfl (.tmp 308) (.tmp 310) 47 rfl 77 rfl (.agg #[.int .u8 0, .pointer none, .int .u8 0, .int .i64 0, .int .u8 0, .int .u8 0]) 6 40 Tryd.underlying47 info_pitem rfl (by decide) B (.slice av its.length cv) its.length (pCells its gs) (by first | simp [Act.eval] | simp [Act.eval, Act.put]) HP3.out.drew.it (by first | simp [Act.eval] | simp [Act.eval, Act.put]) rfl Hone.out hm1 hm2 hB3 ?_; intro ao cap w4 ho6 hg6 hn6; have hb4 : PBlk w4 pc anch (.slice av its.length cv) done.length := (hg6.block pc hlpc3 (Ne.symm (own_ne_blk HP3.out.it HP3.out.blk (by decide)))).trans HP3.out.blk; obtain ⟨d0, d1, d2, g0, g1, g2⟩ := hb4.cells)
      all_goals
        obtain ⟨hP5, hk5⟩ := HP3.out.drew.push (m := its.length + 1) (it := { kind := 0, set := (fun b : Nat => decide ((b : Int) = bt p i)) }) (g := wr.heap.size) rfl ho6 hg6 (fun _ => ⟨hBg, HROW3.out⟩) hB3
        have HP5 := hid hP5
        have HK5 := hid (HK3.out.trans ((Keeps.refl B [] W3).drew.trans hk5))
        clear ho6 hg6 hn6 hb4 c0 c1 c2 f0 f1 f2 hk5 hP5
        go_wp2_with fail
        refine ⟨PI_mk (i := i + 1) ⟨⟨i + 1, done, opened⟩, _, _, _, gk', rfl, PS.pr (n := n0) (by simpa using HP5.out) (by simp; omega) HM.out (by simp; omega) (by simp; omega) (by simp; omega), by dsimp only; omega, by simp; omega, HR.out, HK5.out⟩ (by simp), PMu_lt (i := i) (j := i + 1) rfl (by simp) (by omega) hi⟩
end Go.Proofs.YtpinoolagbghnaaDoor

namespace Go.Proofs.YtpinoolagbghnaaDoor
set_option linter.unusedVariables false
open Go.RowKit Go.Maps Pat

set_option maxRecDepth 1000000 in
set_option maxHeartbeats 4000000 in
theorem pat_dot {p : ByteArray} {B pc mp : Nat} {anch : Bool} {R : Option (List It × Rd)} {W0 wr : World} {i gk : Nat} {done : List Bool} {opened : List Nat} {its : List It} {gs : List Nat} {vi vo : Value} {K0 : Act → World → Prop} {Po : Ending → World → Prop} {u1 u7 u8 u9 u10 u11 u12 u13 u14 u15 u16 u17 u18 u19 u20 u21 u22 u23 u24 u25 u26 u27 u28 u29 u30 u31 u32 u33 u34 u35 u36 u37 u38 u39 u40 u41 u42 u43 u44 u45 u46 u47 u48 u49 u50 u51 u52 u53 u54 u55 u56 u57 u58 u59 u60 u61 u62 u63 u64 u65 u66 u67 u68 u69 u70 u71 u72 u73 u74 u75 u76 u77 u78 u79 u80 u81 u82 u83 u84 u85 u86 u87 u88 u89 u90 u91 u92 u93 u94 u95 u96 u97 u98 u99 u100 u101 u102 u103 u104 u105 u106 u107 u108 u109 u110 u111 u112 u113 u114 u115 u116 u117 u118 u119 u120 u121 u122 u123 u124 u125 u126 u127 u128 u129 u130 u131 u132 u133 u134 u135 u136 u137 u138 u139 u140 u141 u142 u143 u144 u145 u146 u147 u148 u149 u150 u151 u152 u153 u154 u155 u156 u157 u158 u159 u160 u161 u162 u163 u164 u165 u166 u167 u168 u169 u170 u171 u172 u173 u174 u175 u176 u177 u178 u179 u180 u181 u182 u183 u184 u185 u186 u187 u188 u189 u190 u191 u192 u193 u194 u195 u196 u197 u198 u199 u200 u201 u202 u203 u204 u205 u206 u207 u208 u209 u210 u211 u212 u213 u214 u215 u216 u217 u218 u219 u220 u221 u222 u223 u224 u225 u226 u227 u228 u229 u230 u231 u232 u233 u234 u235 u236 u237 u238 u239 u240 u241 u242 u243 u244 u245 u246 u247 u248 u249 u250 u251 u252 u253 u254 u255 u256 u257 u258 u259 u260 u261 u262 u263 u264 u265 u266 u267 u268 u269 u270 u271 u272 u273 u274 u275 u276 u277 u278 u279 u280 u281 u282 u283 u284 u285 u286 u287 u288 u289 u290 u291 u292 u293 u294 u295 u296 u297 u298 u299 u300 u301 u302 u303 u304 u305 u306 u307 u308 u309 u310 u311 u312 u313 u314 u315 u316 u317 u318 u319 u320 u321 u322 u323 u324 : Value}
    (hp : p.size ≤ 200) (hS : PR B p pc mp anch ⟨i, done, opened⟩ its gs vi vo wr) (hgk : p.size ≤ i + gk) (hlp : its.length ≤ p.size) (HG : Hid (R = itemsGo p gk ⟨i, done, opened⟩ its)) (hkk : Keeps B [] W0 wr)
    (hret : ∀ w' : World, R = none → Keeps B [] W0 w' → Po (.returned (.pointer none)) w') (hi : i < p.size) (hc : bt p i = 46) :
    Code.wp Tryd.prog patBody (Exit.then (fun a' w' => PI p B pc mp anch R W0 a' w' ∧ PMu p a' < PMu p ⟨#[.string p, u1, .pointer none, .pointer (some ⟨pc, 0, none⟩), .int .i64 i, vo, .map (some mp), u7, u8, u9, u10, u11, u12, u13, u14, u15, u16, u17, u18, u19, u20, u21, u22, u23, u24, u25, u26, u27, u28, u29, u30, u31, u32, u33, u34, u35, u36, u37, u38, u39, u40, u41, u42, u43, u44, u45, u46, u47, u48, u49, u50, u51, u52, u53, u54, u55, u56, u57, u58, u59, u60, u61, u62, u63, u64, u65, u66, u67, u68, u69, u70, u71, u72, u73, u74, u75, u76, u77, u78, u79, u80, u81, u82, u83, u84, u85, u86, u87, u88, u89, u90, u91, u92, u93, u94, u95, u96, u97, u98, u99, u100, u101, u102, u103, u104, u105, u106, u107, u108, u109, u110, u111, u112, u113, u114, u115, u116, u117, u118, u119, u120, u121, u122, u123, u124, u125, u126, u127, u128, u129, u130, u131, u132, u133, u134, u135, u136, u137, u138, u139, u140, u141, u142, u143, u144, u145, u146, u147, u148, u149, u150, u151, u152, u153, u154, u155, u156, u157, u158, u159, u160, u161, u162, u163, u164, u165, u166, u167, u168, u169, u170, u171, u172, u173, u174, u175, u176, u177, u178, u179, u180, u181, u182, u183, u184, u185, u186, u187, u188, u189, u190, u191, u192, u193, u194, u195, u196, u197, u198, u199, u200, u201, u202, u203, u204, u205, u206, u207, u208, u209, u210, u211, u212, u213, u214, u215, u216, u217, u218, u219, u220, u221, u222, u223, u224, u225, u226, u227, u228, u229, u230, u231, u232, u233, u234, u235, u236, u237, u238, u239, u240, u241, u242, u243, u244, u245, u246, u247, u248, u249, u250, u251, u252, u253, u254, u255, u256, u257, u258, u259, u260, u261, u262, u263, u264, u265, u266, u267, u268, u269, u270, u271, u272, u273, u274, u275, u276, u277, u278, u279, u280, u281, u282, u283, u284, u285, u286, u287, u288, u289, u290, u291, u292, u293, u294, u295, u296, u297, u298, u299, u300, u301, u302, u303, u304, u305, u306, u307, u308, u309, u310, u311, u312, u313, u314, u315, u316, u317, u318, u319, u320, u321, u322, u323, u324], []⟩) (Exit.inBlock 0 (Exit.then K0 (bodyPost Tryd.prog Tryd.f10 Po)))) ⟨#[.string p, u1, .pointer none, .pointer (some ⟨pc, 0, none⟩), .int .i64 i, vo, .map (some mp), u7, u8, u9, u10, u11, u12, u13, u14, u15, u16, u17, u18, u19, u20, u21, u22, u23, u24, u25, u26, u27, u28, u29, u30, u31, u32, u33, u34, u35, u36, u37, u38, u39, u40, u41, u42, u43, u44, u45, u46, u47, u48, u49, u50, u51, u52, u53, u54, u55, u56, u57, u58, u59, u60, u61, u62, u63, u64, u65, u66, u67, u68, u69, u70, u71, u72, u73, u74, u75, u76, u77, u78, u79, u80, u81, u82, u83, u84, u85, u86, u87, u88, u89, u90, u91, u92, u93, u94, u95, u96, u97, u98, u99, u100, u101, u102, u103, u104, u105, u106, u107, u108, u109, u110, u111, u112, u113, u114, u115, u116, u117, u118, u119, u120, u121, u122, u123, u124, u125, u126, u127, u128, u129, u130, u131, u132, u133, u134, u135, u136, u137, u138, u139, u140, u141, u142, u143, u144, u145, u146, u147, u148, u149, u150, u151, u152, u153, u154, u155, u156, u157, u158, u159, u160, u161, u162, u163, u164, u165, u166, u167, u168, u169, u170, u171, u172, u173, u174, u175, u176, u177, u178, u179, u180, u181, u182, u183, u184, u185, u186, u187, u188, u189, u190, u191, u192, u193, u194, u195, u196, u197, u198, u199, u200, u201, u202, u203, u204, u205, u206, u207, u208, u209, u210, u211, u212, u213, u214, u215, u216, u217, u218, u219, u220, u221, u222, u223, u224, u225, u226, u227, u228, u229, u230, u231, u232, u233, u234, u235, u236, u237, u238, u239, u240, u241, u242, u243, u244, u245, u246, u247, u248, u249, u250, u251, u252, u253, u254, u255, u256, u257, u258, u259, u260, u261, u262, u263, u264, u265, u266, u267, u268, u269, u270, u271, u272, u273, u274, u275, u276, u277, u278, u279, u280, u281, u282, u283, u284, u285, u286, u287, u288, u289, u290, u291, u292, u293, u294, u295, u296, u297, u298, u299, u300, u301, u302, u303, u304, u305, u306, u307, u308, u309, u310, u311, u312, u313, u314, u315, u316, u317, u318, u319, u320, u321, u322, u323, u324], []⟩ wr := by
  have hd : decide (i < p.size) = true := decide_eq_true hi
  have t1 := rest_dollar hi
  rw [decide_eq_false (by omega)] at t1
  have t2 : Go.Lib.hasPrefix (p.extract i p.size).data.toList (ByteArray.mk #[40, 41]).data.toList = false := rest_unit.trans (decide_eq_false (fun h => by omega))
  have T2 := hid t2
  clear t2
  have hrs : 0 < p.size - i := by omega
  have hrs2 : 0 < (p.extract i p.size).size := by simp; omega
  have e0 : ∀ h : 0 < (p.extract i p.size).size, (((p.extract i p.size)[0]'h).toNat : Int) = bt p i := fun h => (rest_at h).trans (by rw [Nat.add_zero])
  have t3 : Go.Lib.hasPrefix (p.extract i p.size).data.toList (ByteArray.mk #[37, 98]).data.toList = false := rest_pb.trans (decide_eq_false (fun h => by omega))
  have T3 := hid t3
  have t4 : Go.Lib.hasPrefix (p.extract i p.size).data.toList (ByteArray.mk #[37, 102, 91]).data.toList = false := rest_pf.trans (decide_eq_false (fun h => by omega))
  have T4 := hid t4
  clear t3 t4
  have c40 : (bt p i == 40) = false := by rw [hc]; rfl
  have c41 : (bt p i == 41) = false := by rw [hc]; rfl
  have c37 : (bt p i == 37) = false := by rw [hc]; rfl
  have c46 : (bt p i == 46) = true := by rw [hc]; rfl
  have hit : itemAt p ⟨i, done, opened⟩ = if signAt p (i + 1) = true then some ({ kind := 0, set := (fun _ : Nat => true), sign := bt p (i + 1) }, (⟨i + 1 + 1, done, opened⟩ : Rd)) else some ({ kind := 0, set := (fun _ : Nat => true) }, (⟨i + 1, done, opened⟩ : Rd)) := by
    unfold itemAt; simp only []
    rw [if_neg (by omega), if_neg (by omega), if_neg (by omega), if_neg (by omega), if_neg (by omega), if_neg (by omega)]
    unfold singleAt
    rw [if_neg (by omega), if_pos hc]
  have HIT := hid hit
  clear hit hc
  obtain ⟨gk', rfl⟩ : ∃ x, gk = x + 1 := ⟨gk - 1, by omega⟩
  obtain ⟨n0, hn0, hP⟩ := hS.ps
  have hmem := hS.mem
  have hb1 := hS.b1
  have hb2 := hS.b2
  have hb3 := hS.b3
  dsimp only at hP hmem hb1 hb2 hb3
  have HM := hid hmem
  obtain ⟨av, cv, rfl⟩ := own_form hP.it
  have HP := hid hP
  have hB : B ≤ wr.heap.size := hP.lo
  have hlpc := blk_lt hP.blk
  obtain ⟨c0, c1, c2, f0, f1, f2⟩ := hP.blk.cells
  clear hS hP hmem
  have hz := zero_set
  conv => arg 2; whnf
  go_wp2_with fail
  refine (pre_any _ _ _).mono ?_
  rintro e w' ⟨rfl, rfl⟩
  rw [T2.out]
  go_wp2_with fail
  refine (pre_any _ _ _).mono ?_
  rintro e w' ⟨rfl, rfl⟩
  rw [T3.out]
  go_wp2_with fail
  refine (pre_any _ _ _).mono ?_
  rintro e w' ⟨rfl, rfl⟩
  rw [T4.out]
  go_upto_region 54 with fail
  obtain ⟨W1, hW1⟩ : ∃ W1, W1 = wr.alloc (.cells (madeCells #[.bool false] 256) 82) := ⟨_, rfl⟩
  have hk1 : Keeps wr.heap.size [] wr W1 := by rw [hW1]; exact (Keeps.refl _ _ _).alloc (Nat.le_refl _) _
  have hrow0 : BoolRow W1 wr.heap.size 82 256 (fun b => decide (b < 0)) := by rw [hW1]; exact (World.rowIs_made wr (.bool false) 256 82).congr fun j _ => by simp
  rw [← hW1]
  clear hW1
  obtain ⟨wo, hwo⟩ : ∃ wo : World, wo = wr := ⟨_, rfl⟩
  subst hwo
  go_wp2_with fail
  go_loopw [251] (fun c wr => ∃ n : Nat, n ≤ 256 ∧ c = .int .i64 n ∧ BoolRow wr wo.heap.size 82 256 (fun b => decide (b < n)) ∧ Keeps wo.heap.size [] wo wr) (fun c _ => 256 - (intOf c).toNat)
  case atStart => exact ⟨0, by omega, rfl, hrow0, hk1⟩
  case round =>
    obtain ⟨n, hn, rfl, hrow3, hkp3⟩ := hrel
    have hl3 := hrow3.lt
    by_cases hlt : n < 256
    · have hcell := hrow3.cell hlt
      have hfree := hrow3.frozen n
      go_wp2_with fail
      go_roundw
      case rel =>
        refine ⟨n + 1, by omega, by go_num, (BoolRow.set hrow3 n true).congr fun j hj => ?_, hkp3.setCell (Or.inr (by simp)) _⟩
        by_cases h1 : j = n
        · subst h1; simp
        · have : (j < n + 1) ↔ j < n := by omega
          simp [h1, this]
      case measure => simp [intOf]; omega
    · obtain rfl : n = 256 := by omega
      obtain ⟨W2, hW2⟩ : ∃ W2, W2 = wr := ⟨_, rfl⟩
      subst hW2
      have HROW : Hid (BoolRow W2 wo.heap.size 82 256 (fun _ : Nat => true)) := hid (hrow3.congr fun j hj => by simp [hj])
      have HP2 := hid (HP.out.keeps hkp3)
      have HK2 := hid (hkk.andThen hkp3 hB (by simp))
      have hBg : B ≤ wo.heap.size := hB
      have hBw : B ≤ W2.heap.size := HP2.out.lo
      have hij1 : i < i + 1 := by omega
      clear hkp3 hrow3 hrow0 hk1 c0 c1 c2 f0 f1 f2
      obtain ⟨c0, c1, c2, f0, f1, f2⟩ := HP2.out.blk.cells
      go_upto_region 72 with fail
      have hm1 : its.length + 1 ≤ maxLen := by unfold maxLen; omega
      have hm2 : (its.length + 1) * 40 ≤ 140737488355328 := by omega
      have hbj0 := bt_nonneg p (i + 1)
      have hbj255 := bt_le p (i + 1)
      have hW2s := hBw
      by_cases hsg : signAt p (i + 1) = true
      · have hsg2 : i + 1 < p.size ∧ (bt p (i + 1) = 42 ∨ bt p (i + 1) = 43 ∨ bt p (i + 1) = 45 ∨ bt p (i + 1) = 63) := by unfold signAt at hsg; simpa [or_assoc] using hsg
        obtain ⟨hjl, hjc⟩ := hsg2
        have HJC := hid hjc
        have HSG := hid hsg
        have ej : ∀ h : i + 1 < p.size, ((p[i + 1]'h).toNat : Int) = bt p (i + 1) := fun h => (bt_of_lt h).symm
        have dj : decide (i + 1 < p.size) = true := decide_eq_true hjl
        have djI : decide (((i + 1 : Nat) : Int) < p.size) = true := decide_eq_true (by omega)
        clear hjc hsg
        have HR : Hid (R = itemsGo p gk' ⟨i + 1 + 1, done, opened⟩ (its ++ [{ kind := 0, set := (fun _ : Nat => true), sign := bt p (i + 1) }])) := hid (HG.out.trans (itemsGo_next hi (HIT.out.trans (if_pos HSG.out))))
        go_upto_region 76 with (refine (ib_yes _ HJC.out _).mono ?_; rintro e w' ⟨x, hx, rfl, rfl⟩)
        obtain ⟨W3, hW3⟩ : ∃ W3, W3 = W2.alloc (.cells #[.int .u8 115, .pointer (some ⟨wo.heap.size, 0, none⟩), .int .u8 (bt p (i + 1)), .int .i64 0, .int .u8 0, .int .u8 0] 77) := ⟨_, rfl⟩
        rw [← hW3]
        have hk3 : Keeps W2.heap.size [] W2 W3 := by rw [hW3]; exact (Keeps.refl _ _ _).alloc (Nat.le_refl _) _
        have hb3 : W3.heap[W2.heap.size]? = some (.cells #[.int .u8 115, .pointer (some ⟨wo.heap.size, 0, none⟩), .int .u8 (bt p (i + 1)), .int .i64 0, .int .u8 0, .int .u8 0] 77 (0, 0)) := by rw [hW3]; exact blk_new _ _
        have HP3 := hid (HP2.out.keeps hk3)
        have HROW3 := hid (hk3.row HROW.out HROW.out.lt (by simp))
        have HK3 := hid (HK2.out.andThen hk3 hBw (by simp))
        have k0 := blk_cell hb3 0
        have k1 := blk_cell hb3 1
        have k2 := blk_cell hb3 2
        have k3 := blk_cell hb3 3
        have k4 := blk_cell hb3 4
        have k5 := blk_cell hb3 5
        have hl3 := blk_lt hb3
        have hB3 := HP3.out.lo
        have hlpc3 := blk_lt HP3.out.blk
        have Hone : Hid (∀ u ∈ pItCells { kind := 0, set := (fun _ : Nat => true), sign := bt p (i + 1) } wo.heap.size, u.oneCell' = true) := hid (by simp [pItCells, kb, Value.oneCell'])
        clear hW3 hk3 hb3 c0 c1 c2 f0 f1 f2
        obtain ⟨c0, c1, c2, f0, f1, f2⟩ := HP3.out.blk.cells
        go_region_law (refine step_append_new (W := W3.drew) (us := pItCells { kind := 0, set := (fun _ : Nat => true), sign := bt p (i + 1) } wo.heap.size) rfl (.tmp 308) (.tmp 310) 47 rfl 77 rfl (.agg #[.int .u8 0, .pointer none, .int .u8 0, .int .i64 0, .int .u8 0, .int .u8 0]) 6 40 Tryd.underlying47 info_pitem rfl (by decide) B (.slice av its.length cv) its.length (pCells its gs) (by first | simp [Act.eval] | simp [Act.eval, Act.put]) HP3.out.drew.it (by first | simp [Act.eval] | simp [Act.eval, Act.put]) rfl Hone.out hm1 hm2 hB3 ?_; intro ao cap w4 ho6 hg6 hn6; have hb4 : PBlk w4 pc anch (.slice av its.length cv) done.length := (hg6.block pc hlpc3 (Ne.symm (own_ne_blk HP3.out.it HP3.out.blk (by decide)))).trans HP3.out.blk; obtain ⟨d0, d1, d2, g0, g1, g2⟩ := hb4.cells)
        all_goals
          obtain ⟨hP5, hk5⟩ := HP3.out.drew.push (m := its.length + 1) (it := { kind := 0, set := (fun _ : Nat => true), sign := bt p (i + 1) }) (g := wo.heap.size) rfl ho6 hg6 (fun _ => ⟨hBg, HROW3.out⟩) hB3
          have HP5 := hid hP5
          have HK5 := hid (HK3.out.trans ((Keeps.refl B [] W3).drew.trans hk5))
          clear ho6 hg6 hn6 hb4 c0 c1 c2 f0 f1 f2 hk5 hP5
          go_wp2_with fail
          refine ⟨PI_mk (i := i + 1 + 1) ⟨⟨i + 1 + 1, done, opened⟩, _, _, _, gk', rfl, PS.pr (n := n0) (by simpa using HP5.out) (by simp; omega) HM.out (by simp; omega) (by simp; omega) (by simp; omega), by dsimp only; omega, by simp; omega, HR.out, HK5.out⟩ (by simp), PMu_lt (i := i) (j := i + 1 + 1) rfl (by simp) (by omega) hi⟩
      · have HSG := hid hsg
        have ej : ∀ h : i + 1 < p.size, ((p[i + 1]'h).toNat : Int) = bt p (i + 1) := fun h => (bt_of_lt h).symm
        by_cases hjl : i + 1 < p.size
        · have hjc : ¬ (bt p (i + 1) = 42 ∨ bt p (i + 1) = 43 ∨ bt p (i + 1) = 45 ∨ bt p (i + 1) = 63) := by
            intro h; apply hsg; unfold signAt; simpa [or_assoc] using ⟨hjl, h⟩
          have HJC := hid hjc
          have dj : decide (i + 1 < p.size) = true := decide_eq_true hjl
          clear hjc hsg
          have HR : Hid (R = itemsGo p gk' ⟨i + 1, done, opened⟩ (its ++ [{ kind := 0, set := (fun _ : Nat => true) }])) := hid (HG.out.trans (itemsGo_next hi (HIT.out.trans (if_neg HSG.out))))
          go_upto_region 76 with (refine (ib_no _ hbj0 hbj255 HJC.out _).mono ?_; rintro e w' ⟨x, hx, rfl, rfl⟩)
          obtain ⟨W3, hW3⟩ : ∃ W3, W3 = W2.alloc (.cells #[.int .u8 115, .pointer (some ⟨wo.heap.size, 0, none⟩), .int .u8 (0), .int .i64 0, .int .u8 0, .int .u8 0] 77) := ⟨_, rfl⟩
          rw [← hW3]
          have hk3 : Keeps W2.heap.size [] W2 W3 := by rw [hW3]; exact (Keeps.refl _ _ _).alloc (Nat.le_refl _) _
          have hb3 : W3.heap[W2.heap.size]? = some (.cells #[.int .u8 115, .pointer (some ⟨wo.heap.size, 0, none⟩), .int .u8 (0), .int .i64 0, .int .u8 0, .int .u8 0] 77 (0, 0)) := by rw [hW3]; exact blk_new _ _
          have HP3 := hid (HP2.out.keeps hk3)
          have HROW3 := hid (hk3.row HROW.out HROW.out.lt (by simp))
          have HK3 := hid (HK2.out.andThen hk3 hBw (by simp))
          have k0 := blk_cell hb3 0
          have k1 := blk_cell hb3 1
          have k2 := blk_cell hb3 2
          have k3 := blk_cell hb3 3
          have k4 := blk_cell hb3 4
          have k5 := blk_cell hb3 5
          have hl3 := blk_lt hb3
          have hB3 := HP3.out.lo
          have hlpc3 := blk_lt HP3.out.blk
          have Hone : Hid (∀ u ∈ pItCells { kind := 0, set := (fun _ : Nat => true) } wo.heap.size, u.oneCell' = true) := hid (by simp [pItCells, kb, Value.oneCell'])
          clear hW3 hk3 hb3 c0 c1 c2 f0 f1 f2
          obtain ⟨c0, c1, c2, f0, f1, f2⟩ := HP3.out.blk.cells
          go_region_law (refine step_append_new (W := W3.drew) (us := pItCells { kind := 0, set := (fun _ : Nat => true) } wo.heap.size) rfl (.tmp 308) (.tmp 310) 47 rfl 77 rfl (.agg #[.int .u8 0, .pointer none, .int .u8 0, .int .i64 0, .int .u8 0, .int .u8 0]) 6 40 Tryd.underlying47 info_pitem rfl (by decide) B (.slice av its.length cv) its.length (pCells its gs) (by first | simp [Act.eval] | simp [Act.eval, Act.put]) HP3.out.drew.it (by first | simp [Act.eval] | simp [Act.eval, Act.put]) rfl Hone.out hm1 hm2 hB3 ?_; intro ao cap w4 ho6 hg6 hn6; have hb4 : PBlk w4 pc anch (.slice av its.length cv) done.length := (hg6.block pc hlpc3 (Ne.symm (own_ne_blk HP3.out.it HP3.out.blk (by decide)))).trans HP3.out.blk; obtain ⟨d0, d1, d2, g0, g1, g2⟩ := hb4.cells)
          all_goals
            obtain ⟨hP5, hk5⟩ := HP3.out.drew.push (m := its.length + 1) (it := { kind := 0, set := (fun _ : Nat => true) }) (g := wo.heap.size) rfl ho6 hg6 (fun _ => ⟨hBg, HROW3.out⟩) hB3
            have HP5 := hid hP5
            have HK5 := hid (HK3.out.trans ((Keeps.refl B [] W3).drew.trans hk5))
            clear ho6 hg6 hn6 hb4 c0 c1 c2 f0 f1 f2 hk5 hP5
            go_wp2_with fail
            refine ⟨PI_mk (i := i + 1) ⟨⟨i + 1, done, opened⟩, _, _, _, gk', rfl, PS.pr (n := n0) (by simpa using HP5.out) (by simp; omega) HM.out (by simp; omega) (by simp; omega) (by simp; omega), by dsimp only; omega, by simp; omega, HR.out, HK5.out⟩ (by simp), PMu_lt (i := i) (j := i + 1) rfl (by simp) (by omega) hi⟩
        · have dj : decide (i + 1 < p.size) = false := decide_eq_false hjl
          clear hsg
          have HR : Hid (R = itemsGo p gk' ⟨i + 1, done, opened⟩ (its ++ [{ kind := 0, set := (fun _ : Nat => true) }])) := hid (HG.out.trans (itemsGo_next hi (HIT.out.trans (if_neg HSG.out))))
          go_upto_region 76 with fail
          obtain ⟨W3, hW3⟩ : ∃ W3, W3 = W2.alloc (.cells #[.int .u8 115, .pointer (some ⟨wo.heap.size, 0, none⟩), .int .u8 (0), .int .i64 0, .int .u8 0, .int .u8 0] 77) := ⟨_, rfl⟩
          rw [← hW3]
          have hk3 : Keeps W2.heap.size [] W2 W3 := by rw [hW3]; exact (Keeps.refl _ _ _).alloc (Nat.le_refl _) _
          have hb3 : W3.heap[W2.heap.size]? = some (.cells #[.int .u8 115, .pointer (some ⟨wo.heap.size, 0, none⟩), .int .u8 (0), .int .i64 0, .int .u8 0, .int .u8 0] 77 (0, 0)) := by rw [hW3]; exact blk_new _ _
          have HP3 := hid (HP2.out.keeps hk3)
          have HROW3 := hid (hk3.row HROW.out HROW.out.lt (by simp))
          have HK3 := hid (HK2.out.andThen hk3 hBw (by simp))
          have k0 := blk_cell hb3 0
          have k1 := blk_cell hb3 1
          have k2 := blk_cell hb3 2
          have k3 := blk_cell hb3 3
          have k4 := blk_cell hb3 4
          have k5 := blk_cell hb3 5
          have hl3 := blk_lt hb3
          have hB3 := HP3.out.lo
          have hlpc3 := blk_lt HP3.out.blk
          have Hone : Hid (∀ u ∈ pItCells { kind := 0, set := (fun _ : Nat => true) } wo.heap.size, u.oneCell' = true) := hid (by simp [pItCells, kb, Value.oneCell'])
          clear hW3 hk3 hb3 c0 c1 c2 f0 f1 f2
          obtain ⟨c0, c1, c2, f0, f1, f2⟩ := HP3.out.blk.cells
          go_region_law (refine step_append_new (W := W3.drew) (us := pItCells { kind := 0, set := (fun _ : Nat => true) } wo.heap.size) rfl (.tmp 308) (.tmp 310) 47 rfl 77 rfl (.agg #[.int .u8 0, .pointer none, .int .u8 0, .int .i64 0, .int .u8 0, .int .u8 0]) 6 40 Tryd.underlying47 info_pitem rfl (by decide) B (.slice av its.length cv) its.length (pCells its gs) (by first | simp [Act.eval] | simp [Act.eval, Act.put]) HP3.out.drew.it (by first | simp [Act.eval] | simp [Act.eval, Act.put]) rfl Hone.out hm1 hm2 hB3 ?_; intro ao cap w4 ho6 hg6 hn6; have hb4 : PBlk w4 pc anch (.slice av its.length cv) done.length := (hg6.block pc hlpc3 (Ne.symm (own_ne_blk HP3.out.it HP3.out.blk (by decide)))).trans HP3.out.blk; obtain ⟨d0, d1, d2, g0, g1, g2⟩ := hb4.cells)
          all_goals
            obtain ⟨hP5, hk5⟩ := HP3.out.drew.push (m := its.length + 1) (it := { kind := 0, set := (fun _ : Nat => true) }) (g := wo.heap.size) rfl ho6 hg6 (fun _ => ⟨hBg, HROW3.out⟩) hB3
            have HP5 := hid hP5
            have HK5 := hid (HK3.out.trans ((Keeps.refl B [] W3).drew.trans hk5))
            clear ho6 hg6 hn6 hb4 c0 c1 c2 f0 f1 f2 hk5 hP5
            go_wp2_with fail
            refine ⟨PI_mk (i := i + 1) ⟨⟨i + 1, done, opened⟩, _, _, _, gk', rfl, PS.pr (n := n0) (by simpa using HP5.out) (by simp; omega) HM.out (by simp; omega) (by simp; omega) (by simp; omega), by dsimp only; omega, by simp; omega, HR.out, HK5.out⟩ (by simp), PMu_lt (i := i) (j := i + 1) rfl (by simp) (by omega) hi⟩
end Go.Proofs.YtpinoolagbghnaaDoor
