/-
  The program's matcher: what a call of match leaves, what holds at the head of each round of its loop.
-/
import Derived.Test.YtpinoolagbghnaaDoorZQB
import Derived.Test.YtpinoolagbghnaaDoorZTryW
namespace Go.Proofs.YtpinoolagbghnaaDoor
set_option linter.unusedVariables false
open Go.RowKit Pat

noncomputable def matBody : Code := ((Tryd.f39.body.bind firstLoop).getD .skip)

/-- What a call of match leaves. -/
def MatPost (lo m pc : Nat) (s : ByteArray) (vi : Value) (P : Pt) (gs : List Nat) (cb : Nat) (A : Ans) (c : Cap) (w : World) (e : Ending) (w' : World) : Prop :=
  Keeps w.heap.size [m, cb] w w' ∧ ((A = none ∧ e = .panicked [{ v := manyPanic, recovered := false }]) ∨
    (∃ st', A = some (st', none) ∧ QS lo w' m pc s vi P gs cb st' c ∧ st' ≤ 50000 ∧ e = .returned (.int .i64 (-1))) ∨
    (∃ st' e2 c', A = some (st', some (e2, c')) ∧ QS lo w' m pc s vi P gs cb st' c' ∧ st' ≤ 50000 ∧ (e2 : Nat) ≤ s.size ∧ e = .returned (.int .i64 e2)))
/-- What is known of the matching of the items from k on. -/
def QGoes (lo m pc : Nat) (s : ByteArray) (vi : Value) (P : Pt) (gs : List Nat) (cb k : Nat) (K : Nat → Nat → Cap → Ans) (good : Nat → Cap → Prop) : Prop :=
  ∀ i st c w, i ≤ s.size → st ≤ 50000 → good i c → QS lo w m pc s vi P gs cb st c →
    Calls Tryd.prog 39 #[.pointer (some ⟨m, 0, none⟩), .int .i64 k, .int .i64 i] w fun e w' => MatPost lo m pc s vi P gs cb (K i st c) c w e w'
theorem QGoes.at {lo m pc cb k i st : Nat} {s : ByteArray} {vi : Value} {P : Pt} {gs : List Nat} {K : Nat → Nat → Cap → Ans} {good : Nat → Cap → Prop} {c : Cap} {w : World} {A : Ans} (H : QGoes lo m pc s vi P gs cb k K good) {x k1 : Int} (hk : k1 = k) (hx : x = i) (hi : i ≤ s.size) (hst : st ≤ 50000) (hg : good i c) (hQ : QS lo w m pc s vi P gs cb st c) (hA : K i st c = A) :
    Calls Tryd.prog 39 #[.pointer (some ⟨m, 0, none⟩), .int .i64 k1, .int .i64 x] w fun e w' => MatPost lo m pc s vi P gs cb A c w e w' := by
  subst hx; subst hk; subst hA; exact H i st c w hi hst hg hQ

set_option maxRecDepth 1000000 in
/-- What holds at the head of a round. -/
def MI (m bm : Nat) (MR : Nat → Nat → World → Prop) (a : Act) (w' : World) : Prop :=
  ∃ (k i : Nat) (u4 u5 u6 u7 u8 u9 u10 u11 u12 u13 u14 u15 u16 u17 u18 u19 u20 u21 u22 u23 u24 u25 u26 u27 u28 u29 u30 u31 u32 u33 u34 u35 u36 u37 u38 u39 u40 u41 u42 u43 u44 u45 u46 u47 u48 u49 u50 u51 u52 u53 u54 u55 u56 u57 u58 u59 u60 u61 u62 u63 u64 u65 u66 u67 u68 u69 u70 u71 u72 u73 u74 u75 u76 u77 u78 u79 u80 u81 u82 u83 u84 u85 u86 u87 u88 u89 u90 u91 u92 u93 u94 u95 u96 u97 u98 u99 u100 u101 u102 u103 u104 u105 u106 u107 u108 u109 u110 u111 u112 u113 u114 u115 u116 u117 u118 u119 u120 u121 u122 u123 u124 u125 u126 u127 u128 u129 u130 u131 u132 u133 u134 u135 u136 u137 u138 u139 u140 u141 u142 u143 u144 u145 u146 u147 u148 u149 u150 u151 u152 u153 u154 u155 u156 u157 u158 u159 u160 u161 u162 u163 u164 u165 u166 u167 u168 u169 u170 u171 u172 u173 u174 u175 u176 u177 u178 u179 u180 u181 u182 u183 u184 u185 u186 u187 u188 u189 u190 u191 u192 u193 u194 u195 u196 u197 u198 u199 u200 u201 u202 u203 u204 u205 u206 u207 u208 u209 u210 u211 u212 u213 u214 u215 u216 u217 u218 u219 u220 u221 u222 u223 u224 u225 u226 u227 u228 u229 u230 u231 u232 u233 u234 u235 u236 u237 u238 u239 u240 u241 u242 u243 u244 u245 u246 u247 u248 u249 u250 u251 u252 u253 u254 u255 u256 u257 u258 u259 u260 u261 u262 u263 u264 u265 u266 u267 u268 u269 u270 u271 u272 u273 u274 : Value), MR k i w' ∧ a = ⟨#[.pointer (some ⟨m, 0, none⟩), .int .i64 k, .int .i64 i, .pointer (some ⟨bm, 0, none⟩), u4, u5, u6, u7, u8, u9, u10, u11, u12, u13, u14, u15, u16, u17, u18, u19, u20, u21, u22, u23, u24, u25, u26, u27, u28, u29, u30, u31, u32, u33, u34, u35, u36, u37, u38, u39, u40, u41, u42, u43, u44, u45, u46, u47, u48, u49, u50, u51, u52, u53, u54, u55, u56, u57, u58, u59, u60, u61, u62, u63, u64, u65, u66, u67, u68, u69, u70, u71, u72, u73, u74, u75, u76, u77, u78, u79, u80, u81, u82, u83, u84, u85, u86, u87, u88, u89, u90, u91, u92, u93, u94, u95, u96, u97, u98, u99, u100, u101, u102, u103, u104, u105, u106, u107, u108, u109, u110, u111, u112, u113, u114, u115, u116, u117, u118, u119, u120, u121, u122, u123, u124, u125, u126, u127, u128, u129, u130, u131, u132, u133, u134, u135, u136, u137, u138, u139, u140, u141, u142, u143, u144, u145, u146, u147, u148, u149, u150, u151, u152, u153, u154, u155, u156, u157, u158, u159, u160, u161, u162, u163, u164, u165, u166, u167, u168, u169, u170, u171, u172, u173, u174, u175, u176, u177, u178, u179, u180, u181, u182, u183, u184, u185, u186, u187, u188, u189, u190, u191, u192, u193, u194, u195, u196, u197, u198, u199, u200, u201, u202, u203, u204, u205, u206, u207, u208, u209, u210, u211, u212, u213, u214, u215, u216, u217, u218, u219, u220, u221, u222, u223, u224, u225, u226, u227, u228, u229, u230, u231, u232, u233, u234, u235, u236, u237, u238, u239, u240, u241, u242, u243, u244, u245, u246, u247, u248, u249, u250, u251, u252, u253, u254, u255, u256, u257, u258, u259, u260, u261, u262, u263, u264, u265, u266, u267, u268, u269, u270, u271, u272, u273, u274], []⟩
def MMu (n0 : Nat) (a : Act) : Nat := n0 + 10 - (intOf (a.tmps.getD 1 (.int .i64 0))).toNat
set_option maxRecDepth 1000000 in
theorem MI_mk {m bm k i : Nat} {xk xi : Int} {MR : Nat → Nat → World → Prop} {w' : World} {u4 u5 u6 u7 u8 u9 u10 u11 u12 u13 u14 u15 u16 u17 u18 u19 u20 u21 u22 u23 u24 u25 u26 u27 u28 u29 u30 u31 u32 u33 u34 u35 u36 u37 u38 u39 u40 u41 u42 u43 u44 u45 u46 u47 u48 u49 u50 u51 u52 u53 u54 u55 u56 u57 u58 u59 u60 u61 u62 u63 u64 u65 u66 u67 u68 u69 u70 u71 u72 u73 u74 u75 u76 u77 u78 u79 u80 u81 u82 u83 u84 u85 u86 u87 u88 u89 u90 u91 u92 u93 u94 u95 u96 u97 u98 u99 u100 u101 u102 u103 u104 u105 u106 u107 u108 u109 u110 u111 u112 u113 u114 u115 u116 u117 u118 u119 u120 u121 u122 u123 u124 u125 u126 u127 u128 u129 u130 u131 u132 u133 u134 u135 u136 u137 u138 u139 u140 u141 u142 u143 u144 u145 u146 u147 u148 u149 u150 u151 u152 u153 u154 u155 u156 u157 u158 u159 u160 u161 u162 u163 u164 u165 u166 u167 u168 u169 u170 u171 u172 u173 u174 u175 u176 u177 u178 u179 u180 u181 u182 u183 u184 u185 u186 u187 u188 u189 u190 u191 u192 u193 u194 u195 u196 u197 u198 u199 u200 u201 u202 u203 u204 u205 u206 u207 u208 u209 u210 u211 u212 u213 u214 u215 u216 u217 u218 u219 u220 u221 u222 u223 u224 u225 u226 u227 u228 u229 u230 u231 u232 u233 u234 u235 u236 u237 u238 u239 u240 u241 u242 u243 u244 u245 u246 u247 u248 u249 u250 u251 u252 u253 u254 u255 u256 u257 u258 u259 u260 u261 u262 u263 u264 u265 u266 u267 u268 u269 u270 u271 u272 u273 u274 : Value} (h : MR k i w') (hk : xk = k) (hi : xi = i) : MI m bm MR ⟨#[.pointer (some ⟨m, 0, none⟩), .int .i64 xk, .int .i64 xi, .pointer (some ⟨bm, 0, none⟩), u4, u5, u6, u7, u8, u9, u10, u11, u12, u13, u14, u15, u16, u17, u18, u19, u20, u21, u22, u23, u24, u25, u26, u27, u28, u29, u30, u31, u32, u33, u34, u35, u36, u37, u38, u39, u40, u41, u42, u43, u44, u45, u46, u47, u48, u49, u50, u51, u52, u53, u54, u55, u56, u57, u58, u59, u60, u61, u62, u63, u64, u65, u66, u67, u68, u69, u70, u71, u72, u73, u74, u75, u76, u77, u78, u79, u80, u81, u82, u83, u84, u85, u86, u87, u88, u89, u90, u91, u92, u93, u94, u95, u96, u97, u98, u99, u100, u101, u102, u103, u104, u105, u106, u107, u108, u109, u110, u111, u112, u113, u114, u115, u116, u117, u118, u119, u120, u121, u122, u123, u124, u125, u126, u127, u128, u129, u130, u131, u132, u133, u134, u135, u136, u137, u138, u139, u140, u141, u142, u143, u144, u145, u146, u147, u148, u149, u150, u151, u152, u153, u154, u155, u156, u157, u158, u159, u160, u161, u162, u163, u164, u165, u166, u167, u168, u169, u170, u171, u172, u173, u174, u175, u176, u177, u178, u179, u180, u181, u182, u183, u184, u185, u186, u187, u188, u189, u190, u191, u192, u193, u194, u195, u196, u197, u198, u199, u200, u201, u202, u203, u204, u205, u206, u207, u208, u209, u210, u211, u212, u213, u214, u215, u216, u217, u218, u219, u220, u221, u222, u223, u224, u225, u226, u227, u228, u229, u230, u231, u232, u233, u234, u235, u236, u237, u238, u239, u240, u241, u242, u243, u244, u245, u246, u247, u248, u249, u250, u251, u252, u253, u254, u255, u256, u257, u258, u259, u260, u261, u262, u263, u264, u265, u266, u267, u268, u269, u270, u271, u272, u273, u274], []⟩ w' := by
  subst hk; subst hi
  exact ⟨k, i, u4, u5, u6, u7, u8, u9, u10, u11, u12, u13, u14, u15, u16, u17, u18, u19, u20, u21, u22, u23, u24, u25, u26, u27, u28, u29, u30, u31, u32, u33, u34, u35, u36, u37, u38, u39, u40, u41, u42, u43, u44, u45, u46, u47, u48, u49, u50, u51, u52, u53, u54, u55, u56, u57, u58, u59, u60, u61, u62, u63, u64, u65, u66, u67, u68, u69, u70, u71, u72, u73, u74, u75, u76, u77, u78, u79, u80, u81, u82, u83, u84, u85, u86, u87, u88, u89, u90, u91, u92, u93, u94, u95, u96, u97, u98, u99, u100, u101, u102, u103, u104, u105, u106, u107, u108, u109, u110, u111, u112, u113, u114, u115, u116, u117, u118, u119, u120, u121, u122, u123, u124, u125, u126, u127, u128, u129, u130, u131, u132, u133, u134, u135, u136, u137, u138, u139, u140, u141, u142, u143, u144, u145, u146, u147, u148, u149, u150, u151, u152, u153, u154, u155, u156, u157, u158, u159, u160, u161, u162, u163, u164, u165, u166, u167, u168, u169, u170, u171, u172, u173, u174, u175, u176, u177, u178, u179, u180, u181, u182, u183, u184, u185, u186, u187, u188, u189, u190, u191, u192, u193, u194, u195, u196, u197, u198, u199, u200, u201, u202, u203, u204, u205, u206, u207, u208, u209, u210, u211, u212, u213, u214, u215, u216, u217, u218, u219, u220, u221, u222, u223, u224, u225, u226, u227, u228, u229, u230, u231, u232, u233, u234, u235, u236, u237, u238, u239, u240, u241, u242, u243, u244, u245, u246, u247, u248, u249, u250, u251, u252, u253, u254, u255, u256, u257, u258, u259, u260, u261, u262, u263, u264, u265, u266, u267, u268, u269, u270, u271, u272, u273, u274, h, rfl⟩
theorem MMu_lt {n0 : Nat} {a a' : Act} {k : Nat} {x : Int} (h1 : a.tmps.getD 1 (.int .i64 0) = .int .i64 k) (h2 : a'.tmps.getD 1 (.int .i64 0) = .int .i64 x) (hx : x = ((k + 1 : Nat) : Int)) (hk : k < n0) : MMu n0 a' < MMu n0 a := by
  unfold MMu
  rw [h1, h2, hx]
  simp [intOf]
  omega
/-- What a round is walked under, at item k. -/
structure UnderM (lo m pc cb bm : Nat) (s : ByteArray) (vi : Value) (P : Pt) (gs : List Nat) (k : Nat) (K : Nat → Nat → Cap → Ans) (good good' : Nat → Cap → Prop) (it : It) (g i st : Nat) (c : Cap) (W0 wr : World) : Prop where
  H : QGoes lo m pc s vi P gs cb (k + 1) K good'
  hs : s.size ≤ 65536
  hl : P.items.length ≤ 200
  e1 : P.items[k]? = some it
  e2 : gs[k]? = some g
  hi : i ≤ s.size
  hst : st ≤ 50000
  hg : good i c
  Q : QS lo wr m pc s vi P gs cb st c
  Kp : Keeps W0.heap.size [m, cb] W0 wr
  bm0 : wr.heap[bm]? = some (.cells #[.pointer (some ⟨m, 0, none⟩)] 50 (0, 0))
def setP (it : It) (g : Nat) : Value := if it.kind = 0 ∨ it.kind = 6 then .pointer (some ⟨g, 0, none⟩) else .pointer none
theorem QS.item6 {lo m pc cb k g st : Nat} {s : ByteArray} {vi : Value} {P : Pt} {gs : List Nat} {it : It} {c : Cap} {w : World} (h : QS lo w m pc s vi P gs cb st c) (e1 : P.items[k]? = some it) (e2 : gs[k]? = some g) : ∃ gi cap, vi = .slice (some ⟨gi, 0, none⟩) P.items.length cap ∧ gi ∉ [m, cb] ∧
    w.cell? ⟨gi, k * 6, none⟩ = some (.int .u8 (kb it.kind)) ∧ w.cell? ⟨gi, k * 6 + 1, none⟩ = some (setP it g) ∧ w.cell? ⟨gi, k * 6 + 2, none⟩ = some (.int .u8 it.sign) ∧
    w.cell? ⟨gi, k * 6 + 3, none⟩ = some (.int .i64 it.n) ∧ w.cell? ⟨gi, k * 6 + 4, none⟩ = some (.int .u8 it.x) ∧ w.cell? ⟨gi, k * 6 + 5, none⟩ = some (.int .u8 it.y) := by
  have hk : k < P.items.length := (List.getElem?_eq_some_iff.1 e1).1
  obtain ⟨a, cap, rfl⟩ := own_form h.it
  obtain ⟨gi, rfl⟩ := own_some h.it (by omega)
  have hcl := h.it.cells (g := gi) rfl
  have hcc : ∀ j v, j < 6 → (pItCells it g)[j]? = some v → w.cell? ⟨gi, k * 6 + j, none⟩ = some v := by
    intro j v hj hv
    have := hcl (k * 6 + j) v (by rw [pCells_get j e1 e2 hj]; exact hv)
    rw [own_add] at this
    exact this
  have hne : gi ∉ [m, cb] := by
    rcases h.it.2 with ⟨h1, _⟩ | ⟨g', cap', cur, h1, _, hg', _⟩
    · cases h1
    · simp only [Value.slice.injEq, Option.some.injEq, Addr.mk.injEq] at h1
      obtain ⟨⟨rfl, _⟩, _⟩ := h1
      exact h.off hg' (by decide) (by decide)
  exact ⟨gi, cap, rfl, hne, hcc 0 _ (by omega) rfl, hcc 1 _ (by omega) rfl, hcc 2 _ (by omega) rfl, hcc 3 _ (by omega) rfl, hcc 4 _ (by omega) rfl, hcc 5 _ (by omega) rfl⟩
/-- What the program's match comes to at an item. -/
def stepM (s : ByteArray) (pl : Nat → Bool) (it : It) (K : Nat → Nat → Cap → Ans) (i st : Nat) (c : Cap) : Ans := if 50000 < st + 1 then none else stepIt s true pl it K i (st + 1) c
end Go.Proofs.YtpinoolagbghnaaDoor
