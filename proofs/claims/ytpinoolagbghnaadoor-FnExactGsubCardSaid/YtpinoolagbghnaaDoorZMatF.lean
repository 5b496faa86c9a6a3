/-
  Walk: rounds of the program's match: a capture again.
  Walk: rounds of the program's match: a single without a sign, or with '?'.
-/
import Derived.Test.YtpinoolagbghnaaDoorZMatI
namespace Go.Proofs.YtpinoolagbghnaaDoor
set_option linter.unusedVariables false
open Go.RowKit Pat
theorem Pat.pre_stands {s : ByteArray} {a b i : Nat} (h1 : a ≤ b) (h2 : b ≤ s.size) (hi : i ≤ s.size) : Go.Lib.hasPrefix (s.extract i s.size).data.toList (s.extract a b).data.toList = standsAt s a b i := by
  have hlen : (s.extract a b).data.toList.length = b - a := by rw [Go.Lib.extract_data]; simp; omega
  have hget : ∀ j (h : j < (s.extract a b).data.toList.length), ((s.extract a b).data.toList[j].toNat : Int) = bt s (a + j) := by
    intro j h
    have h3 : a + j < s.size := by omega
    have h4 : (s.extract a b).data.toList[j]? = s.data.toList[a + j]? := by
      rw [Go.Lib.extract_data, List.getElem?_take, if_pos (by omega), List.getElem?_drop]
    rw [Go.Lib.data_getElem? s (a + j) h3, List.getElem?_eq_getElem h] at h4
    simp only [Option.some.injEq] at h4
    rw [h4, bt_of_lt h3]
  rw [Bool.eq_iff_iff, rest_prefix]
  unfold standsAt
  simp only [Bool.and_eq_true, decide_eq_true_eq, List.all_eq_true, List.mem_range]
  constructor
  · intro h
    refine ⟨?_, fun j hj => ?_⟩
    · by_cases h0 : b - a = 0
      · omega
      · have := (h (b - a - 1) (by omega)).1
        omega
    · rw [← hget j (by omega)]
      exact ((h j (by omega)).2).symm
  · rintro ⟨h3, h4⟩ j hj
    exact ⟨by omega, by rw [hget j hj]; exact (h4 j (by omega)).symm⟩
theorem QS.cap3 {lo m pc cb st n : Nat} {s : ByteArray} {vi : Value} {P : Pt} {gs : List Nat} {c : Cap} {w : World} (h : QS lo w m pc s vi P gs cb st c) (hn : n < P.caps) :
    w.cell? ⟨cb, n * 3, none⟩ = some (.bool (c.pl n)) ∧ w.cell? ⟨cb, n * 3 + 1, none⟩ = some (.int .i64 (c.frm n : Nat)) ∧ w.cell? ⟨cb, n * 3 + 2, none⟩ = some (.int .i64 (c.to n : Nat)) := by
  have h0 := h.caps.cell (i := n * 3) (by omega)
  have h1 := h.caps.cell (i := n * 3 + 1) (by omega)
  have h2 := h.caps.cell (i := n * 3 + 2) (by omega)
  refine ⟨h0.trans ?_, h1.trans ?_, h2.trans ?_⟩
  · unfold capAt; rw [if_pos (by omega), show n * 3 / 3 = n by omega]
  · unfold capAt; rw [if_neg (by omega), if_pos (by omega), show (n * 3 + 1) / 3 = n by omega]
  · unfold capAt; rw [if_neg (by omega), if_neg (by omega), show (n * 3 + 2) / 3 = n by omega]

set_option maxRecDepth 1000000 in
set_option maxHeartbeats 4000000 in
theorem mat4 {lo m pc cb bm k g i st n0 : Nat} {s : ByteArray} {vi : Value} {P : Pt} {gs : List Nat} {K : Nat → Nat → Cap → Ans} {good good' : Nat → Cap → Prop} {it : It} {c : Cap} {W0 wr : World} {A : Ans} {MR : Nat → Nat → World → Prop} {u4 u5 u6 u7 u8 u9 u10 u11 u12 u13 u14 u15 u16 u17 u18 u19 u20 u21 u22 u23 u24 u25 u26 u27 u28 u29 u30 u31 u32 u33 u34 u35 u36 u37 u38 u39 u40 u41 u42 u43 u44 u45 u46 u47 u48 u49 u50 u51 u52 u53 u54 u55 u56 u57 u58 u59 u60 u61 u62 u63 u64 u65 u66 u67 u68 u69 u70 u71 u72 u73 u74 u75 u76 u77 u78 u79 u80 u81 u82 u83 u84 u85 u86 u87 u88 u89 u90 u91 u92 u93 u94 u95 u96 u97 u98 u99 u100 u101 u102 u103 u104 u105 u106 u107 u108 u109 u110 u111 u112 u113 u114 u115 u116 u117 u118 u119 u120 u121 u122 u123 u124 u125 u126 u127 u128 u129 u130 u131 u132 u133 u134 u135 u136 u137 u138 u139 u140 u141 u142 u143 u144 u145 u146 u147 u148 u149 u150 u151 u152 u153 u154 u155 u156 u157 u158 u159 u160 u161 u162 u163 u164 u165 u166 u167 u168 u169 u170 u171 u172 u173 u174 u175 u176 u177 u178 u179 u180 u181 u182 u183 u184 u185 u186 u187 u188 u189 u190 u191 u192 u193 u194 u195 u196 u197 u198 u199 u200 u201 u202 u203 u204 u205 u206 u207 u208 u209 u210 u211 u212 u213 u214 u215 u216 u217 u218 u219 u220 u221 u222 u223 u224 u225 u226 u227 u228 u229 u230 u231 u232 u233 u234 u235 u236 u237 u238 u239 u240 u241 u242 u243 u244 u245 u246 u247 u248 u249 u250 u251 u252 u253 u254 u255 u256 u257 u258 u259 u260 u261 u262 u263 u264 u265 u266 u267 u268 u269 u270 u271 u272 u273 u274 : Value} (U : UnderM lo m pc cb bm s vi P gs k K good good' it g i st c W0 wr) (hA : A = stepM s (fun _ => false) it K i st c) (hk0 : it.kind = 4) (hnext : ∀ (i' st' : Nat) (w' : World), i ≤ i' → i' ≤ s.size → st' ≤ 50000 → QS lo w' m pc s vi P gs cb st' c → Keeps W0.heap.size [m, cb] W0 w' → w'.heap[bm]? = some (.cells #[.pointer (some ⟨m, 0, none⟩)] 50 (0, 0)) → A = K i' st' c → MR (k + 1) i' w') (hnc : it.n < P.caps) (hcp : P.caps ≤ 16) (hok : c.pl it.n = false → c.frm it.n ≤ c.to it.n ∧ c.to it.n ≤ s.size)  :
    Code.wp Tryd.prog matBody (Exit.then (fun a' w' => MI m bm MR a' w' ∧ MMu P.items.length a' < MMu P.items.length ⟨#[.pointer (some ⟨m, 0, none⟩), .int .i64 k, .int .i64 i, .pointer (some ⟨bm, 0, none⟩), u4, u5, u6, u7, u8, u9, u10, u11, u12, u13, u14, u15, u16, u17, u18, u19, u20, u21, u22, u23, u24, u25, u26, u27, u28, u29, u30, u31, u32, u33, u34, u35, u36, u37, u38, u39, u40, u41, u42, u43, u44, u45, u46, u47, u48, u49, u50, u51, u52, u53, u54, u55, u56, u57, u58, u59, u60, u61, u62, u63, u64, u65, u66, u67, u68, u69, u70, u71, u72, u73, u74, u75, u76, u77, u78, u79, u80, u81, u82, u83, u84, u85, u86, u87, u88, u89, u90, u91, u92, u93, u94, u95, u96, u97, u98, u99, u100, u101, u102, u103, u104, u105, u106, u107, u108, u109, u110, u111, u112, u113, u114, u115, u116, u117, u118, u119, u120, u121, u122, u123, u124, u125, u126, u127, u128, u129, u130, u131, u132, u133, u134, u135, u136, u137, u138, u139, u140, u141, u142, u143, u144, u145, u146, u147, u148, u149, u150, u151, u152, u153, u154, u155, u156, u157, u158, u159, u160, u161, u162, u163, u164, u165, u166, u167, u168, u169, u170, u171, u172, u173, u174, u175, u176, u177, u178, u179, u180, u181, u182, u183, u184, u185, u186, u187, u188, u189, u190, u191, u192, u193, u194, u195, u196, u197, u198, u199, u200, u201, u202, u203, u204, u205, u206, u207, u208, u209, u210, u211, u212, u213, u214, u215, u216, u217, u218, u219, u220, u221, u222, u223, u224, u225, u226, u227, u228, u229, u230, u231, u232, u233, u234, u235, u236, u237, u238, u239, u240, u241, u242, u243, u244, u245, u246, u247, u248, u249, u250, u251, u252, u253, u254, u255, u256, u257, u258, u259, u260, u261, u262, u263, u264, u265, u266, u267, u268, u269, u270, u271, u272, u273, u274], []⟩) (Exit.inBlock 0 (bodyPost Tryd.prog Tryd.f39 (fun e w' => MatPost lo m pc s vi P gs cb A c W0 e w')))) ⟨#[.pointer (some ⟨m, 0, none⟩), .int .i64 k, .int .i64 i, .pointer (some ⟨bm, 0, none⟩), u4, u5, u6, u7, u8, u9, u10, u11, u12, u13, u14, u15, u16, u17, u18, u19, u20, u21, u22, u23, u24, u25, u26, u27, u28, u29, u30, u31, u32, u33, u34, u35, u36, u37, u38, u39, u40, u41, u42, u43, u44, u45, u46, u47, u48, u49, u50, u51, u52, u53, u54, u55, u56, u57, u58, u59, u60, u61, u62, u63, u64, u65, u66, u67, u68, u69, u70, u71, u72, u73, u74, u75, u76, u77, u78, u79, u80, u81, u82, u83, u84, u85, u86, u87, u88, u89, u90, u91, u92, u93, u94, u95, u96, u97, u98, u99, u100, u101, u102, u103, u104, u105, u106, u107, u108, u109, u110, u111, u112, u113, u114, u115, u116, u117, u118, u119, u120, u121, u122, u123, u124, u125, u126, u127, u128, u129, u130, u131, u132, u133, u134, u135, u136, u137, u138, u139, u140, u141, u142, u143, u144, u145, u146, u147, u148, u149, u150, u151, u152, u153, u154, u155, u156, u157, u158, u159, u160, u161, u162, u163, u164, u165, u166, u167, u168, u169, u170, u171, u172, u173, u174, u175, u176, u177, u178, u179, u180, u181, u182, u183, u184, u185, u186, u187, u188, u189, u190, u191, u192, u193, u194, u195, u196, u197, u198, u199, u200, u201, u202, u203, u204, u205, u206, u207, u208, u209, u210, u211, u212, u213, u214, u215, u216, u217, u218, u219, u220, u221, u222, u223, u224, u225, u226, u227, u228, u229, u230, u231, u232, u233, u234, u235, u236, u237, u238, u239, u240, u241, u242, u243, u244, u245, u246, u247, u248, u249, u250, u251, u252, u253, u254, u255, u256, u257, u258, u259, u260, u261, u262, u263, u264, u265, u266, u267, u268, u269, u270, u271, u272, u273, u274], []⟩ wr := by
  have HA := hid hA
  clear hA
  have hkl : k < P.items.length := (List.getElem?_eq_some_iff.1 U.e1).1
  have hi := U.hi
  have hs := U.hs
  have hl := U.hl
  have hst := U.hst
  obtain ⟨gi, cap, rfl, hgm, m0, m1, m2, m3, m4, m5⟩ := U.Q.item6 U.e1 U.e2
  have hgm1 : gi ≠ m := by simp at hgm; exact hgm.1
  have hsf : setP it g = .pointer none := if_neg (by omega)
  rw [hsf] at m1
  clear hsf hgm
  obtain ⟨c0, c1, c2, c3, f2⟩ := U.Q.cells
  obtain ⟨p0, p1, p2, q0, q1, q2⟩ := U.Q.pat.cells
  have hpm : pc ≠ m := by
    intro e
    have h1 : wr.heap[pc]? = some (.cells #[.bool P.start, .slice (some ⟨gi, 0, none⟩) P.items.length cap, .int .i64 P.caps] 49 (0, 0)) := U.Q.pat
    rw [e, U.Q.blk] at h1
    simp at h1
  have hbmo := U.Q.off U.bm0 (by decide) (by decide)
  have hbm1 : bm ≠ m := by simp at hbmo; exact hbmo.1
  have hb0 := blk_cell U.bm0 0
  have hbl := blk_lt U.bm0
  have z36 : (kb it.kind == 36) = false := by rw [hk0]; rfl
  have z40 : (kb it.kind == 40) = false := by rw [hk0]; rfl
  have z112 : (kb it.kind == 112) = false := by rw [hk0]; rfl
  have z41 : (kb it.kind == 41) = false := by rw [hk0]; rfl
  have z49 : (kb it.kind == 49) = true := by rw [hk0]; rfl
  have z98 : (kb it.kind == 98) = false := by rw [hk0]; rfl
  have z102 : (kb it.kind == 102) = false := by rw [hk0]; rfl
  have HK0 := hid hk0
  have HNX := hid hnext
  clear hk0 hnext
  conv => arg 2; whnf
  go_wp2_with fail
  by_cases ho : 50000 < st + 1
  · obtain rfl : st = 50000 := by omega
    refine (step_over _ c2).mono ?_
    rintro e w' ⟨rfl, rfl⟩
    go_wp2_with fail
    exact ⟨rfl, U.Kp, Or.inl ⟨HA.out.trans (if_pos ho), rfl⟩⟩
  · have HA1 : Hid (A = stepIt s true (fun _ => false) it K i (st + 1) c) := hid (HA.out.trans (if_neg ho))
    clear HA
    refine (step_ok _ c2 f2 (by omega)).mono ?_
    rintro e w' ⟨rfl, rfl⟩
    go_upto_region 5 with fail
    obtain ⟨W, hW⟩ : ∃ W, W = (wr.setCell ⟨m, 2, none⟩ (.int .i64 ((st : Int) + 1))).alloc (.cells #[.int .u8 (kb it.kind), .pointer none, .int .u8 it.sign, .int .i64 it.n, .int .u8 it.x, .int .u8 it.y] 77) := ⟨_, rfl⟩
    have hWb : W.heap[wr.heap.size]? = some (.cells #[.int .u8 (kb it.kind), .pointer none, .int .u8 it.sign, .int .i64 it.n, .int .u8 it.x, .int .u8 it.y] 77 (0, 0)) := by rw [hW, ← World.size_setCell (w := wr)]; exact blk_new _ _
    have hKa : Keeps wr.heap.size [m, cb] wr W := by rw [hW]; exact ((Keeps.refl _ _ _).setCell (Or.inl (by simp)) _).alloc (by simp) _
    have hQ : QS lo W m pc s (.slice (some ⟨gi, 0, none⟩) P.items.length cap) P gs cb (st + 1) c := by rw [hW]; exact (U.Q.setSt (v := (st : Int) + 1) (st' := st + 1) rfl).keeps ((Keeps.refl _ _ _).alloc (Nat.le_refl _) _)
    have hKW : Keeps W0.heap.size [m, cb] W0 W := U.Kp.then3 hKa
    have hbW := hKa.blk U.bm0 hbl hbmo
    have HKA := hid hKa
    rw [← hW]
    clear hW hKa m0 m1 m2 m3 m4 m5 c0 c1 c2 c3 f2 p0 p1 p2 q0 q1 q2 hb0
    obtain ⟨c0, c1, c2, c3, f2⟩ := hQ.cells
    have hb0 := blk_cell hbW 0
    have b0 := blk_cell hWb 0
    have b1 := blk_cell hWb 1
    have b2 := blk_cell hWb 2
    have b3 := blk_cell hWb 3
    have b4 := blk_cell hWb 4
    have b5 := blk_cell hWb 5
    obtain ⟨r0, r1, r2⟩ := hQ.cap3 hnc
    have hnc' : (0 : Int) ≤ it.n ∧ (it.n : Int) < P.caps := ⟨by omega, by omega⟩
    have hcl := hQ.caps.lt
    have hml := blk_lt hQ.blk
    have hbl2 := blk_lt hbW
    have hwl := blk_lt hWb
    obtain ⟨pb, hpb⟩ : ∃ pb, c.pl it.n = pb := ⟨_, rfl⟩
    rw [hpb] at r0 hok
    cases pb
    · obtain ⟨a1, a2⟩ := hok rfl
      clear hok
      obtain ⟨q, hq⟩ : ∃ q, q = standsAt s (c.frm it.n) (c.to it.n) i := ⟨_, rfl⟩
      have HN : Hid (A = if q then K (i + (c.to it.n - c.frm it.n)) (st + 1) c else some (st + 1, none)) := hid (by rw [HA1.out, hq]; unfold stepIt; rw [HK0.out]; simp [hpb])
      have hpre := pre_stands a1 a2 hi
      rw [← hq] at hpre
      have HPRE := hid hpre
      clear hq hpre HA1 hpb
      go_upto_region 58 with fail
      go_region
      go_upto_region 61 with fail
      obtain ⟨W3, hW3⟩ : ∃ W3, W3 = (W.alloc (.cells #[.bool false, .int .i64 (c.frm it.n : Nat), .int .i64 (c.to it.n : Nat)] 69)).drew := ⟨_, rfl⟩
      rw [← hW3]
      have hk3 : Keeps W.heap.size [] W W3 := by rw [hW3]; exact ((Keeps.refl _ _ _).alloc (Nat.le_refl _) _).drew
      have hx3 : W3.heap[W.heap.size]? = some (.cells #[.bool false, .int .i64 (c.frm it.n : Nat), .int .i64 (c.to it.n : Nat)] 69 (0, 0)) := by rw [hW3]; exact blk_new W _
      have hQ3 := hQ.keeps hk3
      have hKW3 : Keeps W0.heap.size [m, cb] W0 W3 := hKW.then3 (hk3.mono (Nat.le_refl _) (by simp))
      have hbW3 := hk3.blk hbW hbl2 (by simp)
      have x0 := blk_cell hx3 0
      have x1 := blk_cell hx3 1
      have x2 := blk_cell hx3 2
      clear hW3 r0 r1 r2 c0 c1 c2 c3 f2 hb0 b0 b1 b2 b3 b4 b5
      obtain ⟨c0, c1, c2, c3, f2⟩ := hQ3.cells
      have hb0 := blk_cell hbW3 0
      obtain ⟨L, hL⟩ : ∃ L, c.to it.n - c.frm it.n = L := ⟨_, rfl⟩
      have HL := hid hL
      go_quiet (fail)
      go_wp2_with fail
      refine (pre_any _ _ _).mono ?_
      rintro e w' ⟨rfl, rfl⟩
      rw [HPRE.out]
      cases q
      · go_wp2_with fail
        go_ret
        exact ⟨hKW3.drewN _, Or.inr (Or.inl ⟨st + 1, HN.out, hQ3.drewN _, by omega, rfl⟩)⟩
      · have hst3 : i + L ≤ s.size := by
          have := HPRE.out
          have h5 : standsAt s (c.frm it.n) (c.to it.n) i = true := by rw [← pre_stands a1 a2 hi]; exact this
          unfold standsAt at h5
          rw [Bool.and_eq_true, decide_eq_true_iff] at h5
          omega
        have HN2 : Hid (A = K (i + L) (st + 1) c) := hid (by rw [HN.out, HL.out]; rfl)
        go_wp2_with fail
        exact ⟨MI_mk (k := k + 1) (i := i + L) (HNX.out (i + L) (st + 1) _ (by omega) hst3 (by omega) (hQ3.drewN _) (hKW3.drewN _) hbW3 HN2.out) (by omega) (by simp), MMu_lt (k := k) rfl rfl (by omega) hkl⟩
    · have HN : Hid (A = some (st + 1, none)) := hid (by rw [HA1.out]; unfold stepIt; rw [HK0.out]; simp [hpb])
      clear hok hpb HA1
      go_upto_region 58 with fail
      go_region
      go_wp2_with fail
      go_ret
      exact ⟨(hKW.then3 ((((Keeps.refl W.heap.size [] W).alloc (Nat.le_refl _) _).drew).mono (Nat.le_refl _) (by simp))), Or.inr (Or.inl ⟨st + 1, HN.out, hQ.keeps (((Keeps.refl W.heap.size [] W).alloc (Nat.le_refl _) _).drew), by omega, rfl⟩)⟩
end Go.Proofs.YtpinoolagbghnaaDoor

namespace Go.Proofs.YtpinoolagbghnaaDoor
set_option linter.unusedVariables false
open Go.RowKit Pat

set_option maxRecDepth 1000000 in
set_option maxHeartbeats 4000000 in
theorem mat0 {lo m pc cb bm k g i st n0 : Nat} {s : ByteArray} {vi : Value} {P : Pt} {gs : List Nat} {K : Nat → Nat → Cap → Ans} {good good' : Nat → Cap → Prop} {it : It} {c : Cap} {W0 wr : World} {A : Ans} {MR : Nat → Nat → World → Prop} {u4 u5 u6 u7 u8 u9 u10 u11 u12 u13 u14 u15 u16 u17 u18 u19 u20 u21 u22 u23 u24 u25 u26 u27 u28 u29 u30 u31 u32 u33 u34 u35 u36 u37 u38 u39 u40 u41 u42 u43 u44 u45 u46 u47 u48 u49 u50 u51 u52 u53 u54 u55 u56 u57 u58 u59 u60 u61 u62 u63 u64 u65 u66 u67 u68 u69 u70 u71 u72 u73 u74 u75 u76 u77 u78 u79 u80 u81 u82 u83 u84 u85 u86 u87 u88 u89 u90 u91 u92 u93 u94 u95 u96 u97 u98 u99 u100 u101 u102 u103 u104 u105 u106 u107 u108 u109 u110 u111 u112 u113 u114 u115 u116 u117 u118 u119 u120 u121 u122 u123 u124 u125 u126 u127 u128 u129 u130 u131 u132 u133 u134 u135 u136 u137 u138 u139 u140 u141 u142 u143 u144 u145 u146 u147 u148 u149 u150 u151 u152 u153 u154 u155 u156 u157 u158 u159 u160 u161 u162 u163 u164 u165 u166 u167 u168 u169 u170 u171 u172 u173 u174 u175 u176 u177 u178 u179 u180 u181 u182 u183 u184 u185 u186 u187 u188 u189 u190 u191 u192 u193 u194 u195 u196 u197 u198 u199 u200 u201 u202 u203 u204 u205 u206 u207 u208 u209 u210 u211 u212 u213 u214 u215 u216 u217 u218 u219 u220 u221 u222 u223 u224 u225 u226 u227 u228 u229 u230 u231 u232 u233 u234 u235 u236 u237 u238 u239 u240 u241 u242 u243 u244 u245 u246 u247 u248 u249 u250 u251 u252 u253 u254 u255 u256 u257 u258 u259 u260 u261 u262 u263 u264 u265 u266 u267 u268 u269 u270 u271 u272 u273 u274 : Value} (U : UnderM lo m pc cb bm s vi P gs k K good good' it g i st c W0 wr) (hA : A = stepM s (fun _ => false) it K i st c) (hk0 : it.kind = 0) (hnext : ∀ (i' st' : Nat) (w' : World), i ≤ i' → i' ≤ s.size → st' ≤ 50000 → QS lo w' m pc s vi P gs cb st' c → Keeps W0.heap.size [m, cb] W0 w' → w'.heap[bm]? = some (.cells #[.pointer (some ⟨m, 0, none⟩)] 50 (0, 0)) → A = K i' st' c → MR (k + 1) i' w') (hset : BoolRow wr g 82 256 it.set) (hsg : it.sign = 0)  :
    Code.wp Tryd.prog matBody (Exit.then (fun a' w' => MI m bm MR a' w' ∧ MMu P.items.length a' < MMu P.items.length ⟨#[.pointer (some ⟨m, 0, none⟩), .int .i64 k, .int .i64 i, .pointer (some ⟨bm, 0, none⟩), u4, u5, u6, u7, u8, u9, u10, u11, u12, u13, u14, u15, u16, u17, u18, u19, u20, u21, u22, u23, u24, u25, u26, u27, u28, u29, u30, u31, u32, u33, u34, u35, u36, u37, u38, u39, u40, u41, u42, u43, u44, u45, u46, u47, u48, u49, u50, u51, u52, u53, u54, u55, u56, u57, u58, u59, u60, u61, u62, u63, u64, u65, u66, u67, u68, u69, u70, u71, u72, u73, u74, u75, u76, u77, u78, u79, u80, u81, u82, u83, u84, u85, u86, u87, u88, u89, u90, u91, u92, u93, u94, u95, u96, u97, u98, u99, u100, u101, u102, u103, u104, u105, u106, u107, u108, u109, u110, u111, u112, u113, u114, u115, u116, u117, u118, u119, u120, u121, u122, u123, u124, u125, u126, u127, u128, u129, u130, u131, u132, u133, u134, u135, u136, u137, u138, u139, u140, u141, u142, u143, u144, u145, u146, u147, u148, u149, u150, u151, u152, u153, u154, u155, u156, u157, u158, u159, u160, u161, u162, u163, u164, u165, u166, u167, u168, u169, u170, u171, u172, u173, u174, u175, u176, u177, u178, u179, u180, u181, u182, u183, u184, u185, u186, u187, u188, u189, u190, u191, u192, u193, u194, u195, u196, u197, u198, u199, u200, u201, u202, u203, u204, u205, u206, u207, u208, u209, u210, u211, u212, u213, u214, u215, u216, u217, u218, u219, u220, u221, u222, u223, u224, u225, u226, u227, u228, u229, u230, u231, u232, u233, u234, u235, u236, u237, u238, u239, u240, u241, u242, u243, u244, u245, u246, u247, u248, u249, u250, u251, u252, u253, u254, u255, u256, u257, u258, u259, u260, u261, u262, u263, u264, u265, u266, u267, u268, u269, u270, u271, u272, u273, u274], []⟩) (Exit.inBlock 0 (bodyPost Tryd.prog Tryd.f39 (fun e w' => MatPost lo m pc s vi P gs cb A c W0 e w')))) ⟨#[.pointer (some ⟨m, 0, none⟩), .int .i64 k, .int .i64 i, .pointer (some ⟨bm, 0, none⟩), u4, u5, u6, u7, u8, u9, u10, u11, u12, u13, u14, u15, u16, u17, u18, u19, u20, u21, u22, u23, u24, u25, u26, u27, u28, u29, u30, u31, u32, u33, u34, u35, u36, u37, u38, u39, u40, u41, u42, u43, u44, u45, u46, u47, u48, u49, u50, u51, u52, u53, u54, u55, u56, u57, u58, u59, u60, u61, u62, u63, u64, u65, u66, u67, u68, u69, u70, u71, u72, u73, u74, u75, u76, u77, u78, u79, u80, u81, u82, u83, u84, u85, u86, u87, u88, u89, u90, u91, u92, u93, u94, u95, u96, u97, u98, u99, u100, u101, u102, u103, u104, u105, u106, u107, u108, u109, u110, u111, u112, u113, u114, u115, u116, u117, u118, u119, u120, u121, u122, u123, u124, u125, u126, u127, u128, u129, u130, u131, u132, u133, u134, u135, u136, u137, u138, u139, u140, u141, u142, u143, u144, u145, u146, u147, u148, u149, u150, u151, u152, u153, u154, u155, u156, u157, u158, u159, u160, u161, u162, u163, u164, u165, u166, u167, u168, u169, u170, u171, u172, u173, u174, u175, u176, u177, u178, u179, u180, u181, u182, u183, u184, u185, u186, u187, u188, u189, u190, u191, u192, u193, u194, u195, u196, u197, u198, u199, u200, u201, u202, u203, u204, u205, u206, u207, u208, u209, u210, u211, u212, u213, u214, u215, u216, u217, u218, u219, u220, u221, u222, u223, u224, u225, u226, u227, u228, u229, u230, u231, u232, u233, u234, u235, u236, u237, u238, u239, u240, u241, u242, u243, u244, u245, u246, u247, u248, u249, u250, u251, u252, u253, u254, u255, u256, u257, u258, u259, u260, u261, u262, u263, u264, u265, u266, u267, u268, u269, u270, u271, u272, u273, u274], []⟩ wr := by
  have HA := hid hA
  clear hA
  have hkl : k < P.items.length := (List.getElem?_eq_some_iff.1 U.e1).1
  have hi := U.hi
  have hs := U.hs
  have hl := U.hl
  have hst := U.hst
  obtain ⟨gi, cap, rfl, hgm, m0, m1, m2, m3, m4, m5⟩ := U.Q.item6 U.e1 U.e2
  have hgm1 : gi ≠ m := by simp at hgm; exact hgm.1
  have hsf : setP it g = .pointer (some ⟨g, 0, none⟩) := if_pos (Or.inl hk0)
  rw [hsf] at m1
  clear hsf hgm
  obtain ⟨c0, c1, c2, c3, f2⟩ := U.Q.cells
  obtain ⟨p0, p1, p2, q0, q1, q2⟩ := U.Q.pat.cells
  have hpm : pc ≠ m := by
    intro e
    have h1 : wr.heap[pc]? = some (.cells #[.bool P.start, .slice (some ⟨gi, 0, none⟩) P.items.length cap, .int .i64 P.caps] 49 (0, 0)) := U.Q.pat
    rw [e, U.Q.blk] at h1
    simp at h1
  have hbmo := U.Q.off U.bm0 (by decide) (by decide)
  have hbm1 : bm ≠ m := by simp at hbmo; exact hbmo.1
  have hb0 := blk_cell U.bm0 0
  have hbl := blk_lt U.bm0
  have z36 : (kb it.kind == 36) = false := by rw [hk0]; rfl
  have z40 : (kb it.kind == 40) = false := by rw [hk0]; rfl
  have z112 : (kb it.kind == 112) = false := by rw [hk0]; rfl
  have z41 : (kb it.kind == 41) = false := by rw [hk0]; rfl
  have z49 : (kb it.kind == 49) = false := by rw [hk0]; rfl
  have z98 : (kb it.kind == 98) = false := by rw [hk0]; rfl
  have z102 : (kb it.kind == 102) = false := by rw [hk0]; rfl
  have y0 : (it.sign == 0) = true := by simpa using hsg
  have HSG := hid hsg
  clear hsg
  have hoffg : g ∉ [m, cb] := by
    obtain ⟨c0, hc0⟩ := row_blk hset
    exact U.Q.off hc0 (by decide) (by decide)
  have hmf : ∀ (fn : Fn) (first cap : Array Value) (w : World), (Instr.makeFunc fn first cap).run Tryd.prog w = .ok (.func fn first cap) w := fun _ _ _ _ => rfl
  have HK0 := hid hk0
  have HNX := hid hnext
  clear hk0 hnext
  conv => arg 2; whnf
  go_wp2_with fail
  by_cases ho : 50000 < st + 1
  · obtain rfl : st = 50000 := by omega
    refine (step_over _ c2).mono ?_
    rintro e w' ⟨rfl, rfl⟩
    go_wp2_with fail
    exact ⟨rfl, U.Kp, Or.inl ⟨HA.out.trans (if_pos ho), rfl⟩⟩
  · have HA1 : Hid (A = stepIt s true (fun _ => false) it K i (st + 1) c) := hid (HA.out.trans (if_neg ho))
    clear HA
    refine (step_ok _ c2 f2 (by omega)).mono ?_
    rintro e w' ⟨rfl, rfl⟩
    go_upto_region 5 with fail
    obtain ⟨W, hW⟩ : ∃ W, W = (wr.setCell ⟨m, 2, none⟩ (.int .i64 ((st : Int) + 1))).alloc (.cells #[.int .u8 (kb it.kind), .pointer (some ⟨g, 0, none⟩), .int .u8 it.sign, .int .i64 it.n, .int .u8 it.x, .int .u8 it.y] 77) := ⟨_, rfl⟩
    have hWb : W.heap[wr.heap.size]? = some (.cells #[.int .u8 (kb it.kind), .pointer (some ⟨g, 0, none⟩), .int .u8 it.sign, .int .i64 it.n, .int .u8 it.x, .int .u8 it.y] 77 (0, 0)) := by rw [hW, ← World.size_setCell (w := wr)]; exact blk_new _ _
    have hKa : Keeps wr.heap.size [m, cb] wr W := by rw [hW]; exact ((Keeps.refl _ _ _).setCell (Or.inl (by simp)) _).alloc (by simp) _
    have hQ : QS lo W m pc s (.slice (some ⟨gi, 0, none⟩) P.items.length cap) P gs cb (st + 1) c := by rw [hW]; exact (U.Q.setSt (v := (st : Int) + 1) (st' := st + 1) rfl).keeps ((Keeps.refl _ _ _).alloc (Nat.le_refl _) _)
    have hKW : Keeps W0.heap.size [m, cb] W0 W := U.Kp.then3 hKa
    have hbW := hKa.blk U.bm0 hbl hbmo
    have HKA := hid hKa
    rw [← hW]
    clear hW hKa m0 m1 m2 m3 m4 m5 c0 c1 c2 c3 f2 p0 p1 p2 q0 q1 q2 hb0
    obtain ⟨c0, c1, c2, c3, f2⟩ := hQ.cells
    have hb0 := blk_cell hbW 0
    have b0 := blk_cell hWb 0
    have b1 := blk_cell hWb 1
    have b2 := blk_cell hWb 2
    have b3 := blk_cell hWb 3
    have b4 := blk_cell hWb 4
    have b5 := blk_cell hWb 5
    have hsetW := HKA.out.row hset hset.lt hoffg
    have HG : Hid (A = if has s it.set i then K (i + 1) (st + 1) c else some (st + 1, none)) := hid (by rw [HA1.out]; unfold stepIt; rw [HK0.out]; simp only []; rw [if_pos HSG.out])
    clear HA1
    go_wp2_with fail
    refine (fits_any m bm wr.heap.size g i s it.set _ hs (by omega) (by go_simp) (by go_simp) (by go_simp) hsetW).mono ?_
    rintro e w' ⟨rfl, n1, rfl⟩
    obtain ⟨hb, hhb⟩ : ∃ hb, hb = has s it.set i := ⟨_, rfl⟩
    rw [← hhb]
    have HB := hid hhb
    clear hhb
    cases hb
    · have HN : Hid (A = some (st + 1, none)) := hid (by rw [HG.out, ← HB.out]; rfl)
      go_wp2_with fail
      go_ret
      exact ⟨hKW.drewN _, Or.inr (Or.inl ⟨st + 1, HN.out, hQ.drewN _, by omega, rfl⟩)⟩
    · have hlt := has_lt HB.out.symm
      have HN : Hid (A = K (i + 1) (st + 1) c) := hid (by rw [HG.out, ← HB.out]; rfl)
      go_wp2_with fail
      exact ⟨MI_mk (k := k + 1) (i := i + 1) (HNX.out (i + 1) (st + 1) _ (by omega) hlt (by omega) (hQ.drewN _) (hKW.drewN _) hbW HN.out) (by omega) (by simp), MMu_lt (k := k) rfl rfl (by omega) hkl⟩

set_option maxRecDepth 1000000 in
set_option maxHeartbeats 4000000 in
theorem mat0q {lo m pc cb bm k g i st n0 : Nat} {s : ByteArray} {vi : Value} {P : Pt} {gs : List Nat} {K : Nat → Nat → Cap → Ans} {good good' : Nat → Cap → Prop} {it : It} {c : Cap} {W0 wr : World} {A : Ans} {MR : Nat → Nat → World → Prop} {u4 u5 u6 u7 u8 u9 u10 u11 u12 u13 u14 u15 u16 u17 u18 u19 u20 u21 u22 u23 u24 u25 u26 u27 u28 u29 u30 u31 u32 u33 u34 u35 u36 u37 u38 u39 u40 u41 u42 u43 u44 u45 u46 u47 u48 u49 u50 u51 u52 u53 u54 u55 u56 u57 u58 u59 u60 u61 u62 u63 u64 u65 u66 u67 u68 u69 u70 u71 u72 u73 u74 u75 u76 u77 u78 u79 u80 u81 u82 u83 u84 u85 u86 u87 u88 u89 u90 u91 u92 u93 u94 u95 u96 u97 u98 u99 u100 u101 u102 u103 u104 u105 u106 u107 u108 u109 u110 u111 u112 u113 u114 u115 u116 u117 u118 u119 u120 u121 u122 u123 u124 u125 u126 u127 u128 u129 u130 u131 u132 u133 u134 u135 u136 u137 u138 u139 u140 u141 u142 u143 u144 u145 u146 u147 u148 u149 u150 u151 u152 u153 u154 u155 u156 u157 u158 u159 u160 u161 u162 u163 u164 u165 u166 u167 u168 u169 u170 u171 u172 u173 u174 u175 u176 u177 u178 u179 u180 u181 u182 u183 u184 u185 u186 u187 u188 u189 u190 u191 u192 u193 u194 u195 u196 u197 u198 u199 u200 u201 u202 u203 u204 u205 u206 u207 u208 u209 u210 u211 u212 u213 u214 u215 u216 u217 u218 u219 u220 u221 u222 u223 u224 u225 u226 u227 u228 u229 u230 u231 u232 u233 u234 u235 u236 u237 u238 u239 u240 u241 u242 u243 u244 u245 u246 u247 u248 u249 u250 u251 u252 u253 u254 u255 u256 u257 u258 u259 u260 u261 u262 u263 u264 u265 u266 u267 u268 u269 u270 u271 u272 u273 u274 : Value} (U : UnderM lo m pc cb bm s vi P gs k K good good' it g i st c W0 wr) (hA : A = stepM s (fun _ => false) it K i st c) (hk0 : it.kind = 0) (hnext : ∀ (i' st' : Nat) (w' : World), i ≤ i' → i' ≤ s.size → st' ≤ 50000 → QS lo w' m pc s vi P gs cb st' c → Keeps W0.heap.size [m, cb] W0 w' → w'.heap[bm]? = some (.cells #[.pointer (some ⟨m, 0, none⟩)] 50 (0, 0)) → A = K i' st' c → MR (k + 1) i' w') (hset : BoolRow wr g 82 256 it.set) (hsg : it.sign = 63) (gd : good' i c) (gd1 : ∀ j, i ≤ j → j ≤ s.size → good' j c)  :
    Code.wp Tryd.prog matBody (Exit.then (fun a' w' => MI m bm MR a' w' ∧ MMu P.items.length a' < MMu P.items.length ⟨#[.pointer (some ⟨m, 0, none⟩), .int .i64 k, .int .i64 i, .pointer (some ⟨bm, 0, none⟩), u4, u5, u6, u7, u8, u9, u10, u11, u12, u13, u14, u15, u16, u17, u18, u19, u20, u21, u22, u23, u24, u25, u26, u27, u28, u29, u30, u31, u32, u33, u34, u35, u36, u37, u38, u39, u40, u41, u42, u43, u44, u45, u46, u47, u48, u49, u50, u51, u52, u53, u54, u55, u56, u57, u58, u59, u60, u61, u62, u63, u64, u65, u66, u67, u68, u69, u70, u71, u72, u73, u74, u75, u76, u77, u78, u79, u80, u81, u82, u83, u84, u85, u86, u87, u88, u89, u90, u91, u92, u93, u94, u95, u96, u97, u98, u99, u100, u101, u102, u103, u104, u105, u106, u107, u108, u109, u110, u111, u112, u113, u114, u115, u116, u117, u118, u119, u120, u121, u122, u123, u124, u125, u126, u127, u128, u129, u130, u131, u132, u133, u134, u135, u136, u137, u138, u139, u140, u141, u142, u143, u144, u145, u146, u147, u148, u149, u150, u151, u152, u153, u154, u155, u156, u157, u158, u159, u160, u161, u162, u163, u164, u165, u166, u167, u168, u169, u170, u171, u172, u173, u174, u175, u176, u177, u178, u179, u180, u181, u182, u183, u184, u185, u186, u187, u188, u189, u190, u191, u192, u193, u194, u195, u196, u197, u198, u199, u200, u201, u202, u203, u204, u205, u206, u207, u208, u209, u210, u211, u212, u213, u214, u215, u216, u217, u218, u219, u220, u221, u222, u223, u224, u225, u226, u227, u228, u229, u230, u231, u232, u233, u234, u235, u236, u237, u238, u239, u240, u241, u242, u243, u244, u245, u246, u247, u248, u249, u250, u251, u252, u253, u254, u255, u256, u257, u258, u259, u260, u261, u262, u263, u264, u265, u266, u267, u268, u269, u270, u271, u272, u273, u274], []⟩) (Exit.inBlock 0 (bodyPost Tryd.prog Tryd.f39 (fun e w' => MatPost lo m pc s vi P gs cb A c W0 e w')))) ⟨#[.pointer (some ⟨m, 0, none⟩), .int .i64 k, .int .i64 i, .pointer (some ⟨bm, 0, none⟩), u4, u5, u6, u7, u8, u9, u10, u11, u12, u13, u14, u15, u16, u17, u18, u19, u20, u21, u22, u23, u24, u25, u26, u27, u28, u29, u30, u31, u32, u33, u34, u35, u36, u37, u38, u39, u40, u41, u42, u43, u44, u45, u46, u47, u48, u49, u50, u51, u52, u53, u54, u55, u56, u57, u58, u59, u60, u61, u62, u63, u64, u65, u66, u67, u68, u69, u70, u71, u72, u73, u74, u75, u76, u77, u78, u79, u80, u81, u82, u83, u84, u85, u86, u87, u88, u89, u90, u91, u92, u93, u94, u95, u96, u97, u98, u99, u100, u101, u102, u103, u104, u105, u106, u107, u108, u109, u110, u111, u112, u113, u114, u115, u116, u117, u118, u119, u120, u121, u122, u123, u124, u125, u126, u127, u128, u129, u130, u131, u132, u133, u134, u135, u136, u137, u138, u139, u140, u141, u142, u143, u144, u145, u146, u147, u148, u149, u150, u151, u152, u153, u154, u155, u156, u157, u158, u159, u160, u161, u162, u163, u164, u165, u166, u167, u168, u169, u170, u171, u172, u173, u174, u175, u176, u177, u178, u179, u180, u181, u182, u183, u184, u185, u186, u187, u188, u189, u190, u191, u192, u193, u194, u195, u196, u197, u198, u199, u200, u201, u202, u203, u204, u205, u206, u207, u208, u209, u210, u211, u212, u213, u214, u215, u216, u217, u218, u219, u220, u221, u222, u223, u224, u225, u226, u227, u228, u229, u230, u231, u232, u233, u234, u235, u236, u237, u238, u239, u240, u241, u242, u243, u244, u245, u246, u247, u248, u249, u250, u251, u252, u253, u254, u255, u256, u257, u258, u259, u260, u261, u262, u263, u264, u265, u266, u267, u268, u269, u270, u271, u272, u273, u274], []⟩ wr := by
  have HA := hid hA
  clear hA
  have hkl : k < P.items.length := (List.getElem?_eq_some_iff.1 U.e1).1
  have hi := U.hi
  have hs := U.hs
  have hl := U.hl
  have hst := U.hst
  obtain ⟨gi, cap, rfl, hgm, m0, m1, m2, m3, m4, m5⟩ := U.Q.item6 U.e1 U.e2
  have hgm1 : gi ≠ m := by simp at hgm; exact hgm.1
  have hsf : setP it g = .pointer (some ⟨g, 0, none⟩) := if_pos (Or.inl hk0)
  rw [hsf] at m1
  clear hsf hgm
  obtain ⟨c0, c1, c2, c3, f2⟩ := U.Q.cells
  obtain ⟨p0, p1, p2, q0, q1, q2⟩ := U.Q.pat.cells
  have hpm : pc ≠ m := by
    intro e
    have h1 : wr.heap[pc]? = some (.cells #[.bool P.start, .slice (some ⟨gi, 0, none⟩) P.items.length cap, .int .i64 P.caps] 49 (0, 0)) := U.Q.pat
    rw [e, U.Q.blk] at h1
    simp at h1
  have hbmo := U.Q.off U.bm0 (by decide) (by decide)
  have hbm1 : bm ≠ m := by simp at hbmo; exact hbmo.1
  have hb0 := blk_cell U.bm0 0
  have hbl := blk_lt U.bm0
  have z36 : (kb it.kind == 36) = false := by rw [hk0]; rfl
  have z40 : (kb it.kind == 40) = false := by rw [hk0]; rfl
  have z112 : (kb it.kind == 112) = false := by rw [hk0]; rfl
  have z41 : (kb it.kind == 41) = false := by rw [hk0]; rfl
  have z49 : (kb it.kind == 49) = false := by rw [hk0]; rfl
  have z98 : (kb it.kind == 98) = false := by rw [hk0]; rfl
  have z102 : (kb it.kind == 102) = false := by rw [hk0]; rfl
  have y0 : (it.sign == 0) = false := by rw [hsg]; rfl
  have y63 : (it.sign == 63) = true := by rw [hsg]; rfl
  have HSG := hid hsg
  clear hsg
  have hoffg : g ∉ [m, cb] := by
    obtain ⟨c0, hc0⟩ := row_blk hset
    exact U.Q.off hc0 (by decide) (by decide)
  have hmf : ∀ (fn : Fn) (first cap : Array Value) (w : World), (Instr.makeFunc fn first cap).run Tryd.prog w = .ok (.func fn first cap) w := fun _ _ _ _ => rfl
  have HK0 := hid hk0
  have HNX := hid hnext
  clear hk0 hnext
  conv => arg 2; whnf
  go_wp2_with fail
  by_cases ho : 50000 < st + 1
  · obtain rfl : st = 50000 := by omega
    refine (step_over _ c2).mono ?_
    rintro e w' ⟨rfl, rfl⟩
    go_wp2_with fail
    exact ⟨rfl, U.Kp, Or.inl ⟨HA.out.trans (if_pos ho), rfl⟩⟩
  · have HA1 : Hid (A = stepIt s true (fun _ => false) it K i (st + 1) c) := hid (HA.out.trans (if_neg ho))
    clear HA
    refine (step_ok _ c2 f2 (by omega)).mono ?_
    rintro e w' ⟨rfl, rfl⟩
    go_upto_region 5 with fail
    obtain ⟨W, hW⟩ : ∃ W, W = (wr.setCell ⟨m, 2, none⟩ (.int .i64 ((st : Int) + 1))).alloc (.cells #[.int .u8 (kb it.kind), .pointer (some ⟨g, 0, none⟩), .int .u8 it.sign, .int .i64 it.n, .int .u8 it.x, .int .u8 it.y] 77) := ⟨_, rfl⟩
    have hWb : W.heap[wr.heap.size]? = some (.cells #[.int .u8 (kb it.kind), .pointer (some ⟨g, 0, none⟩), .int .u8 it.sign, .int .i64 it.n, .int .u8 it.x, .int .u8 it.y] 77 (0, 0)) := by rw [hW, ← World.size_setCell (w := wr)]; exact blk_new _ _
    have hKa : Keeps wr.heap.size [m, cb] wr W := by rw [hW]; exact ((Keeps.refl _ _ _).setCell (Or.inl (by simp)) _).alloc (by simp) _
    have hQ : QS lo W m pc s (.slice (some ⟨gi, 0, none⟩) P.items.length cap) P gs cb (st + 1) c := by rw [hW]; exact (U.Q.setSt (v := (st : Int) + 1) (st' := st + 1) rfl).keeps ((Keeps.refl _ _ _).alloc (Nat.le_refl _) _)
    have hKW : Keeps W0.heap.size [m, cb] W0 W := U.Kp.then3 hKa
    have hbW := hKa.blk U.bm0 hbl hbmo
    have HKA := hid hKa
    rw [← hW]
    clear hW hKa m0 m1 m2 m3 m4 m5 c0 c1 c2 c3 f2 p0 p1 p2 q0 q1 q2 hb0
    obtain ⟨c0, c1, c2, c3, f2⟩ := hQ.cells
    have hb0 := blk_cell hbW 0
    have b0 := blk_cell hWb 0
    have b1 := blk_cell hWb 1
    have b2 := blk_cell hWb 2
    have b3 := blk_cell hWb 3
    have b4 := blk_cell hWb 4
    have b5 := blk_cell hWb 5
    have hsetW := HKA.out.row hset hset.lt hoffg
    have hne4 : wr.heap.size ∉ [m, cb] := hQ.off hWb (by decide) (by decide)
    have HG : Hid (A = if has s it.set i then (match K (i + 1) (st + 1) c with | none => none | some (st', some r) => some (st', some r) | some (st', none) => K i st' c) else K i (st + 1) c) := hid (by rw [HA1.out]; unfold stepIt; rw [HK0.out]; simp only []; rw [if_neg (by rw [HSG.out]; decide), if_pos HSG.out]; rfl)
    clear HA1
    go_wp2_with fail
    refine (fits_any m bm wr.heap.size g i s it.set _ hs (by omega) (by go_simp) (by go_simp) (by go_simp) hsetW).mono ?_
    rintro e w' ⟨rfl, n1, rfl⟩
    obtain ⟨hb, hhb⟩ : ∃ hb, hb = has s it.set i := ⟨_, rfl⟩
    rw [← hhb]
    have HB := hid hhb
    clear hhb
    cases hb
    · have HN : Hid (A = K i (st + 1) c) := hid (by rw [HG.out, ← HB.out]; rfl)
      go_wp2_with fail
      exact ⟨MI_mk (k := k + 1) (i := i) (HNX.out i (st + 1) _ (by omega) hi (by omega) (hQ.drewN _) (hKW.drewN _) hbW HN.out) (by omega) rfl, MMu_lt (k := k) rfl rfl (by omega) hkl⟩
    · have hlt := has_lt HB.out.symm
      have HG2 := hid (HG.out.trans (if_pos HB.out.symm))
      clear HG
      go_wp2_with fail
      refine (U.H.at (k1 := (k : Int) + 1) (i := i + 1) (c := c) (by omega) (by simp) hlt (by omega) (gd1 (i + 1) (by omega) hlt) (hQ.drewN _) rfl).mono ?_
      rintro e w2 ⟨hK2, hcase⟩
      have hbW2 := hK2.blk hbW (blk_lt hbW) (hQ.off hbW (by decide) (by decide))
      have hKW2 := (hKW.drewN n1).then3 hK2
      rcases hcase with ⟨hk1, rfl⟩ | ⟨st2, hk1, hQ6, hs2, rfl⟩ | ⟨st2, e2, c2', hk1, hQ6, hs2, he2, rfl⟩
      · go_wp2_with fail
        exact ⟨rfl, hKW2, Or.inl ⟨by rw [HG2.out, hk1], rfl⟩⟩
      · have HN : Hid (A = K i st2 c) := hid (by rw [HG2.out, hk1])
        clear hk1 HG2
        go_wp2_with fail
        exact ⟨MI_mk (k := k + 1) (i := i) (HNX.out i st2 _ (by omega) hi (by omega) hQ6 hKW2 hbW2 HN.out) (by omega) rfl, MMu_lt (k := k) rfl rfl (by omega) hkl⟩
      · have HN : Hid (A = some (st2, some (e2, c2'))) := hid (by rw [HG2.out, hk1])
        have he0 : (0 : Int) ≤ e2 := by omega
        go_wp2_with fail
        go_ret
        exact ⟨hKW2, Or.inr (Or.inr ⟨st2, e2, c2', HN.out, hQ6, hs2, he2, rfl⟩)⟩
end Go.Proofs.YtpinoolagbghnaaDoor
