/-
  Walk: the program's matcher: the rounds of match joined; match comes to the plain word tryP (the program's way) at every item of a well formed pattern.
  Walk: the program's matcher: match comes to the plain word tryP (the program's way) at every item of a well formed pattern.
-/
import Derived.Test.YtpinoolagbghnaaDoorZMatB
import Derived.Test.YtpinoolagbghnaaDoorZMatF
import Derived.Test.YtpinoolagbghnaaDoorZMatE
import Derived.Test.YtpinoolagbghnaaDoorZMatH
namespace Go.Proofs.YtpinoolagbghnaaDoor
set_option linter.unusedVariables false
open Go.RowKit Pat

namespace Pat
/-- What is known of the program's captures while a pattern is matched. -/
structure POk (s : ByteArray) (dn : List Bool) (op : List Nat) (i : Nat) (c : Cap) : Prop where
  done : ∀ n, dn.getD n false = true → c.pl n = false → c.frm n ≤ c.to n ∧ c.to n ≤ s.size
  opn : ∀ n ∈ op, c.frm n ≤ i
theorem POk.mono {s : ByteArray} {dn : List Bool} {op : List Nat} {i j : Nat} {c : Cap} (h : POk s dn op i c) (hij : i ≤ j) : POk s dn op j c := ⟨h.done, fun n hn => Nat.le_trans (h.opn n hn) hij⟩
theorem POk.zero (s : ByteArray) (i : Nat) : POk s [] [] i Cap.zero := ⟨fun n h => by simp at h, fun n h => by simp at h⟩
section
variable {s : ByteArray} {places : Nat → Bool} {dn : List Bool} {op : List Nat} {it : It} {l : List It} {i : Nat} {c : Cap}
theorem POk.place (h : POk s dn op i c) (hm : ∀ n ∈ op, n < dn.length) (hn : it.n = dn.length) : POk s (dn ++ [true]) op i ⟨upd c.pl it.n true, upd c.frm it.n i, upd c.to it.n i⟩ := by
  refine ⟨fun n h1 h2 => ?_, fun n h1 => ?_⟩
  · by_cases hnn : n = it.n
    · dsimp only at h2; rw [hnn, upd_self] at h2; cases h2
    · rw [getD_push (by omega)] at h1
      simp only [upd_ne _ _ hnn] at h2 ⊢
      exact h.done n h1 h2
  · have hnn : n ≠ it.n := by have := hm n h1; omega
    simp only [upd_ne _ _ hnn]
    exact h.opn n h1
theorem POk.open_ (h : POk s dn op i c) (hn : it.n = dn.length) : POk s (dn ++ [false]) (dn.length :: op) i ⟨upd c.pl it.n false, upd c.frm it.n i, upd c.to it.n i⟩ := by
  refine ⟨fun n h1 h2 => ?_, fun n h1 => ?_⟩
  · by_cases hnn : n = it.n
    · rw [hnn, hn, getD_pushed] at h1; cases h1
    · rw [getD_push (by omega)] at h1
      simp only [upd_ne _ _ hnn] at h2 ⊢
      exact h.done n h1 h2
  · by_cases hnn : n = it.n
    · dsimp only; rw [hnn, upd_self]; exact Nat.le_refl _
    · simp only [upd_ne _ _ hnn]
      simp only [List.mem_cons] at h1
      rcases h1 with h1 | h1
      · exact absurd (h1.trans hn.symm) hnn
      · exact h.opn n h1
theorem POk.shut (h : POk s dn (it.n :: op) i c) (hi : i ≤ s.size) : POk s (dn.set it.n true) op i ⟨c.pl, c.frm, upd c.to it.n i⟩ := by
  refine ⟨fun n h1 h2 => ?_, fun n h1 => h.opn n (by simp [h1])⟩
  by_cases hnn : n = it.n
  · dsimp only; rw [hnn, upd_self]
    exact ⟨h.opn _ (by simp), hi⟩
  · rw [getD_set hnn] at h1
    simp only [upd_ne _ _ hnn] at h2 ⊢
    exact h.done n h1 h2
end
/-- The signs that a single may bear. -/
def SgnOk (l : List It) : Prop := ∀ it ∈ l, it.kind = 0 → it.sign = 0 ∨ it.sign = 42 ∨ it.sign = 43 ∨ it.sign = 45 ∨ it.sign = 63
end Pat

/-- What holds at the head of a round of match, at item k and place i. -/
def MRel (lo m pc cb bm : Nat) (s : ByteArray) (vi : Value) (P : Pt) (gs : List Nat) (dn2 : List Bool) (c : Cap) (W0 : World) (A : Ans) (k i : Nat) (w' : World) : Prop :=
  ∃ st dn op, k ≤ P.items.length ∧ i ≤ s.size ∧ st ≤ 50000 ∧ POk s dn op i c ∧ Wf dn op (P.items.drop k) dn2 [] ∧ Ctx (placesOf P.items) dn op (P.items.drop k) ∧ QS lo w' m pc s vi P gs cb st c ∧ Keeps W0.heap.size [m, cb] W0 w' ∧
    w'.heap[bm]? = some (.cells #[.pointer (some ⟨m, 0, none⟩)] 50 (0, 0)) ∧ A = tryP s true (fun _ => false) (P.items.drop k) i st c

set_option maxRecDepth 1000000 in
set_option maxHeartbeats 4000000 in
theorem mat_end {lo m pc cb bm : Nat} {s : ByteArray} {vi : Value} {P : Pt} {gs : List Nat} {dn2 : List Bool} {c : Cap} {W0 : World} {A : Ans} {wr : World} {i st : Nat} {u4 u5 u6 u7 u8 u9 u10 u11 u12 u13 u14 u15 u16 u17 u18 u19 u20 u21 u22 u23 u24 u25 u26 u27 u28 u29 u30 u31 u32 u33 u34 u35 u36 u37 u38 u39 u40 u41 u42 u43 u44 u45 u46 u47 u48 u49 u50 u51 u52 u53 u54 u55 u56 u57 u58 u59 u60 u61 u62 u63 u64 u65 u66 u67 u68 u69 u70 u71 u72 u73 u74 u75 u76 u77 u78 u79 u80 u81 u82 u83 u84 u85 u86 u87 u88 u89 u90 u91 u92 u93 u94 u95 u96 u97 u98 u99 u100 u101 u102 u103 u104 u105 u106 u107 u108 u109 u110 u111 u112 u113 u114 u115 u116 u117 u118 u119 u120 u121 u122 u123 u124 u125 u126 u127 u128 u129 u130 u131 u132 u133 u134 u135 u136 u137 u138 u139 u140 u141 u142 u143 u144 u145 u146 u147 u148 u149 u150 u151 u152 u153 u154 u155 u156 u157 u158 u159 u160 u161 u162 u163 u164 u165 u166 u167 u168 u169 u170 u171 u172 u173 u174 u175 u176 u177 u178 u179 u180 u181 u182 u183 u184 u185 u186 u187 u188 u189 u190 u191 u192 u193 u194 u195 u196 u197 u198 u199 u200 u201 u202 u203 u204 u205 u206 u207 u208 u209 u210 u211 u212 u213 u214 u215 u216 u217 u218 u219 u220 u221 u222 u223 u224 u225 u226 u227 u228 u229 u230 u231 u232 u233 u234 u235 u236 u237 u238 u239 u240 u241 u242 u243 u244 u245 u246 u247 u248 u249 u250 u251 u252 u253 u254 u255 u256 u257 u258 u259 u260 u261 u262 u263 u264 u265 u266 u267 u268 u269 u270 u271 u272 u273 u274 : Value} (hl : P.items.length ≤ 200) (hi : i ≤ s.size) (hst : st ≤ 50000) (hQ : QS lo wr m pc s vi P gs cb st c) (hK : Keeps W0.heap.size [m, cb] W0 wr) (hb : wr.heap[bm]? = some (.cells #[.pointer (some ⟨m, 0, none⟩)] 50 (0, 0))) (hA : A = some (st, some (i, c))) (Inv : Act → World → Prop) :
    Code.wp Tryd.prog matBody (Exit.then Inv (Exit.inBlock 0 (bodyPost Tryd.prog Tryd.f39 (fun e w' => MatPost lo m pc s vi P gs cb A c W0 e w')))) ⟨#[.pointer (some ⟨m, 0, none⟩), .int .i64 (P.items.length : Nat), .int .i64 i, .pointer (some ⟨bm, 0, none⟩), u4, u5, u6, u7, u8, u9, u10, u11, u12, u13, u14, u15, u16, u17, u18, u19, u20, u21, u22, u23, u24, u25, u26, u27, u28, u29, u30, u31, u32, u33, u34, u35, u36, u37, u38, u39, u40, u41, u42, u43, u44, u45, u46, u47, u48, u49, u50, u51, u52, u53, u54, u55, u56, u57, u58, u59, u60, u61, u62, u63, u64, u65, u66, u67, u68, u69, u70, u71, u72, u73, u74, u75, u76, u77, u78, u79, u80, u81, u82, u83, u84, u85, u86, u87, u88, u89, u90, u91, u92, u93, u94, u95, u96, u97, u98, u99, u100, u101, u102, u103, u104, u105, u106, u107, u108, u109, u110, u111, u112, u113, u114, u115, u116, u117, u118, u119, u120, u121, u122, u123, u124, u125, u126, u127, u128, u129, u130, u131, u132, u133, u134, u135, u136, u137, u138, u139, u140, u141, u142, u143, u144, u145, u146, u147, u148, u149, u150, u151, u152, u153, u154, u155, u156, u157, u158, u159, u160, u161, u162, u163, u164, u165, u166, u167, u168, u169, u170, u171, u172, u173, u174, u175, u176, u177, u178, u179, u180, u181, u182, u183, u184, u185, u186, u187, u188, u189, u190, u191, u192, u193, u194, u195, u196, u197, u198, u199, u200, u201, u202, u203, u204, u205, u206, u207, u208, u209, u210, u211, u212, u213, u214, u215, u216, u217, u218, u219, u220, u221, u222, u223, u224, u225, u226, u227, u228, u229, u230, u231, u232, u233, u234, u235, u236, u237, u238, u239, u240, u241, u242, u243, u244, u245, u246, u247, u248, u249, u250, u251, u252, u253, u254, u255, u256, u257, u258, u259, u260, u261, u262, u263, u264, u265, u266, u267, u268, u269, u270, u271, u272, u273, u274], []⟩ wr := by
  have HA := hid hA
  clear hA
  obtain ⟨a, cap, hv⟩ := own_form hQ.it
  subst hv
  obtain ⟨c0, c1, c2, c3, f2⟩ := hQ.cells
  obtain ⟨p0, p1, p2, q0, q1, q2⟩ := hQ.pat.cells
  have hb0 := blk_cell hb 0
  conv => arg 2; whnf
  go_wp2_with fail
  go_ret
  exact ⟨hK, Or.inr (Or.inr ⟨st, i, c, HA.out, hQ, hst, hi, rfl⟩)⟩

set_option maxRecDepth 1000000 in
set_option maxHeartbeats 8000000 in
theorem mat_round {lo m pc cb bm : Nat} {s : ByteArray} {vi : Value} {P : Pt} {gs : List Nat} {dn2 : List Bool} {c : Cap} {W0 : World} {A : Ans} (k0 : Nat) (hs : s.size ≤ 65536) (hl : P.items.length ≤ 200) (hcp : P.caps ≤ 16) (hdn : dn2.length = P.caps) (hgs : P.items.length = gs.length) (hsgn : SgnOk P.items)
    (IH : ∀ k dn op, k0 < k → k ≤ P.items.length → Wf dn op (P.items.drop k) dn2 [] → Ctx (placesOf P.items) dn op (P.items.drop k) → QGoes lo m pc s vi P gs cb k (tryP s true (fun _ => false) (P.items.drop k)) (POk s dn op))
    (a : Act) (w' : World) (hI : MI m bm (fun k i w' => k0 ≤ k ∧ MRel lo m pc cb bm s vi P gs dn2 c W0 A k i w') a w') :
    Code.wp Tryd.prog matBody (Exit.then (fun a' w'' => MI m bm (fun k i w' => k0 ≤ k ∧ MRel lo m pc cb bm s vi P gs dn2 c W0 A k i w') a' w'' ∧ MMu P.items.length a' < MMu P.items.length a) (Exit.inBlock 0 (bodyPost Tryd.prog Tryd.f39 (fun e w' => MatPost lo m pc s vi P gs cb A c W0 e w')))) a w' := by
  obtain ⟨k, hI⟩ := hI
  obtain ⟨i, hI⟩ := hI
  obtain ⟨u4, hI⟩ := hI
  obtain ⟨u5, hI⟩ := hI
  obtain ⟨u6, hI⟩ := hI
  obtain ⟨u7, hI⟩ := hI
  obtain ⟨u8, hI⟩ := hI
  obtain ⟨u9, hI⟩ := hI
  obtain ⟨u10, hI⟩ := hI
  obtain ⟨u11, hI⟩ := hI
  obtain ⟨u12, hI⟩ := hI
  obtain ⟨u13, hI⟩ := hI
  obtain ⟨u14, hI⟩ := hI
  obtain ⟨u15, hI⟩ := hI
  obtain ⟨u16, hI⟩ := hI
  obtain ⟨u17, hI⟩ := hI
  obtain ⟨u18, hI⟩ := hI
  obtain ⟨u19, hI⟩ := hI
  obtain ⟨u20, hI⟩ := hI
  obtain ⟨u21, hI⟩ := hI
  obtain ⟨u22, hI⟩ := hI
  obtain ⟨u23, hI⟩ := hI
  obtain ⟨u24, hI⟩ := hI
  obtain ⟨u25, hI⟩ := hI
  obtain ⟨u26, hI⟩ := hI
  obtain ⟨u27, hI⟩ := hI
  obtain ⟨u28, hI⟩ := hI
  obtain ⟨u29, hI⟩ := hI
  obtain ⟨u30, hI⟩ := hI
  obtain ⟨u31, hI⟩ := hI
  obtain ⟨u32, hI⟩ := hI
  obtain ⟨u33, hI⟩ := hI
  obtain ⟨u34, hI⟩ := hI
  obtain ⟨u35, hI⟩ := hI
  obtain ⟨u36, hI⟩ := hI
  obtain ⟨u37, hI⟩ := hI
  obtain ⟨u38, hI⟩ := hI
  obtain ⟨u39, hI⟩ := hI
  obtain ⟨u40, hI⟩ := hI
  obtain ⟨u41, hI⟩ := hI
  obtain ⟨u42, hI⟩ := hI
  obtain ⟨u43, hI⟩ := hI
  obtain ⟨u44, hI⟩ := hI
  obtain ⟨u45, hI⟩ := hI
  obtain ⟨u46, hI⟩ := hI
  obtain ⟨u47, hI⟩ := hI
  obtain ⟨u48, hI⟩ := hI
  obtain ⟨u49, hI⟩ := hI
  obtain ⟨u50, hI⟩ := hI
  obtain ⟨u51, hI⟩ := hI
  obtain ⟨u52, hI⟩ := hI
  obtain ⟨u53, hI⟩ := hI
  obtain ⟨u54, hI⟩ := hI
  obtain ⟨u55, hI⟩ := hI
  obtain ⟨u56, hI⟩ := hI
  obtain ⟨u57, hI⟩ := hI
  obtain ⟨u58, hI⟩ := hI
  obtain ⟨u59, hI⟩ := hI
  obtain ⟨u60, hI⟩ := hI
  obtain ⟨u61, hI⟩ := hI
  obtain ⟨u62, hI⟩ := hI
  obtain ⟨u63, hI⟩ := hI
  obtain ⟨u64, hI⟩ := hI
  obtain ⟨u65, hI⟩ := hI
  obtain ⟨u66, hI⟩ := hI
  obtain ⟨u67, hI⟩ := hI
  obtain ⟨u68, hI⟩ := hI
  obtain ⟨u69, hI⟩ := hI
  obtain ⟨u70, hI⟩ := hI
  obtain ⟨u71, hI⟩ := hI
  obtain ⟨u72, hI⟩ := hI
  obtain ⟨u73, hI⟩ := hI
  obtain ⟨u74, hI⟩ := hI
  obtain ⟨u75, hI⟩ := hI
  obtain ⟨u76, hI⟩ := hI
  obtain ⟨u77, hI⟩ := hI
  obtain ⟨u78, hI⟩ := hI
  obtain ⟨u79, hI⟩ := hI
  obtain ⟨u80, hI⟩ := hI
  obtain ⟨u81, hI⟩ := hI
  obtain ⟨u82, hI⟩ := hI
  obtain ⟨u83, hI⟩ := hI
  obtain ⟨u84, hI⟩ := hI
  obtain ⟨u85, hI⟩ := hI
  obtain ⟨u86, hI⟩ := hI
  obtain ⟨u87, hI⟩ := hI
  obtain ⟨u88, hI⟩ := hI
  obtain ⟨u89, hI⟩ := hI
  obtain ⟨u90, hI⟩ := hI
  obtain ⟨u91, hI⟩ := hI
  obtain ⟨u92, hI⟩ := hI
  obtain ⟨u93, hI⟩ := hI
  obtain ⟨u94, hI⟩ := hI
  obtain ⟨u95, hI⟩ := hI
  obtain ⟨u96, hI⟩ := hI
  obtain ⟨u97, hI⟩ := hI
  obtain ⟨u98, hI⟩ := hI
  obtain ⟨u99, hI⟩ := hI
  obtain ⟨u100, hI⟩ := hI
  obtain ⟨u101, hI⟩ := hI
  obtain ⟨u102, hI⟩ := hI
  obtain ⟨u103, hI⟩ := hI
  obtain ⟨u104, hI⟩ := hI
  obtain ⟨u105, hI⟩ := hI
  obtain ⟨u106, hI⟩ := hI
  obtain ⟨u107, hI⟩ := hI
  obtain ⟨u108, hI⟩ := hI
  obtain ⟨u109, hI⟩ := hI
  obtain ⟨u110, hI⟩ := hI
  obtain ⟨u111, hI⟩ := hI
  obtain ⟨u112, hI⟩ := hI
  obtain ⟨u113, hI⟩ := hI
  obtain ⟨u114, hI⟩ := hI
  obtain ⟨u115, hI⟩ := hI
  obtain ⟨u116, hI⟩ := hI
  obtain ⟨u117, hI⟩ := hI
  obtain ⟨u118, hI⟩ := hI
  obtain ⟨u119, hI⟩ := hI
  obtain ⟨u120, hI⟩ := hI
  obtain ⟨u121, hI⟩ := hI
  obtain ⟨u122, hI⟩ := hI
  obtain ⟨u123, hI⟩ := hI
  obtain ⟨u124, hI⟩ := hI
  obtain ⟨u125, hI⟩ := hI
  obtain ⟨u126, hI⟩ := hI
  obtain ⟨u127, hI⟩ := hI
  obtain ⟨u128, hI⟩ := hI
  obtain ⟨u129, hI⟩ := hI
  obtain ⟨u130, hI⟩ := hI
  obtain ⟨u131, hI⟩ := hI
  obtain ⟨u132, hI⟩ := hI
  obtain ⟨u133, hI⟩ := hI
  obtain ⟨u134, hI⟩ := hI
  obtain ⟨u135, hI⟩ := hI
  obtain ⟨u136, hI⟩ := hI
  obtain ⟨u137, hI⟩ := hI
  obtain ⟨u138, hI⟩ := hI
  obtain ⟨u139, hI⟩ := hI
  obtain ⟨u140, hI⟩ := hI
  obtain ⟨u141, hI⟩ := hI
  obtain ⟨u142, hI⟩ := hI
  obtain ⟨u143, hI⟩ := hI
  obtain ⟨u144, hI⟩ := hI
  obtain ⟨u145, hI⟩ := hI
  obtain ⟨u146, hI⟩ := hI
  obtain ⟨u147, hI⟩ := hI
  obtain ⟨u148, hI⟩ := hI
  obtain ⟨u149, hI⟩ := hI
  obtain ⟨u150, hI⟩ := hI
  obtain ⟨u151, hI⟩ := hI
  obtain ⟨u152, hI⟩ := hI
  obtain ⟨u153, hI⟩ := hI
  obtain ⟨u154, hI⟩ := hI
  obtain ⟨u155, hI⟩ := hI
  obtain ⟨u156, hI⟩ := hI
  obtain ⟨u157, hI⟩ := hI
  obtain ⟨u158, hI⟩ := hI
  obtain ⟨u159, hI⟩ := hI
  obtain ⟨u160, hI⟩ := hI
  obtain ⟨u161, hI⟩ := hI
  obtain ⟨u162, hI⟩ := hI
  obtain ⟨u163, hI⟩ := hI
  obtain ⟨u164, hI⟩ := hI
  obtain ⟨u165, hI⟩ := hI
  obtain ⟨u166, hI⟩ := hI
  obtain ⟨u167, hI⟩ := hI
  obtain ⟨u168, hI⟩ := hI
  obtain ⟨u169, hI⟩ := hI
  obtain ⟨u170, hI⟩ := hI
  obtain ⟨u171, hI⟩ := hI
  obtain ⟨u172, hI⟩ := hI
  obtain ⟨u173, hI⟩ := hI
  obtain ⟨u174, hI⟩ := hI
  obtain ⟨u175, hI⟩ := hI
  obtain ⟨u176, hI⟩ := hI
  obtain ⟨u177, hI⟩ := hI
  obtain ⟨u178, hI⟩ := hI
  obtain ⟨u179, hI⟩ := hI
  obtain ⟨u180, hI⟩ := hI
  obtain ⟨u181, hI⟩ := hI
  obtain ⟨u182, hI⟩ := hI
  obtain ⟨u183, hI⟩ := hI
  obtain ⟨u184, hI⟩ := hI
  obtain ⟨u185, hI⟩ := hI
  obtain ⟨u186, hI⟩ := hI
  obtain ⟨u187, hI⟩ := hI
  obtain ⟨u188, hI⟩ := hI
  obtain ⟨u189, hI⟩ := hI
  obtain ⟨u190, hI⟩ := hI
  obtain ⟨u191, hI⟩ := hI
  obtain ⟨u192, hI⟩ := hI
  obtain ⟨u193, hI⟩ := hI
  obtain ⟨u194, hI⟩ := hI
  obtain ⟨u195, hI⟩ := hI
  obtain ⟨u196, hI⟩ := hI
  obtain ⟨u197, hI⟩ := hI
  obtain ⟨u198, hI⟩ := hI
  obtain ⟨u199, hI⟩ := hI
  obtain ⟨u200, hI⟩ := hI
  obtain ⟨u201, hI⟩ := hI
  obtain ⟨u202, hI⟩ := hI
  obtain ⟨u203, hI⟩ := hI
  obtain ⟨u204, hI⟩ := hI
  obtain ⟨u205, hI⟩ := hI
  obtain ⟨u206, hI⟩ := hI
  obtain ⟨u207, hI⟩ := hI
  obtain ⟨u208, hI⟩ := hI
  obtain ⟨u209, hI⟩ := hI
  obtain ⟨u210, hI⟩ := hI
  obtain ⟨u211, hI⟩ := hI
  obtain ⟨u212, hI⟩ := hI
  obtain ⟨u213, hI⟩ := hI
  obtain ⟨u214, hI⟩ := hI
  obtain ⟨u215, hI⟩ := hI
  obtain ⟨u216, hI⟩ := hI
  obtain ⟨u217, hI⟩ := hI
  obtain ⟨u218, hI⟩ := hI
  obtain ⟨u219, hI⟩ := hI
  obtain ⟨u220, hI⟩ := hI
  obtain ⟨u221, hI⟩ := hI
  obtain ⟨u222, hI⟩ := hI
  obtain ⟨u223, hI⟩ := hI
  obtain ⟨u224, hI⟩ := hI
  obtain ⟨u225, hI⟩ := hI
  obtain ⟨u226, hI⟩ := hI
  obtain ⟨u227, hI⟩ := hI
  obtain ⟨u228, hI⟩ := hI
  obtain ⟨u229, hI⟩ := hI
  obtain ⟨u230, hI⟩ := hI
  obtain ⟨u231, hI⟩ := hI
  obtain ⟨u232, hI⟩ := hI
  obtain ⟨u233, hI⟩ := hI
  obtain ⟨u234, hI⟩ := hI
  obtain ⟨u235, hI⟩ := hI
  obtain ⟨u236, hI⟩ := hI
  obtain ⟨u237, hI⟩ := hI
  obtain ⟨u238, hI⟩ := hI
  obtain ⟨u239, hI⟩ := hI
  obtain ⟨u240, hI⟩ := hI
  obtain ⟨u241, hI⟩ := hI
  obtain ⟨u242, hI⟩ := hI
  obtain ⟨u243, hI⟩ := hI
  obtain ⟨u244, hI⟩ := hI
  obtain ⟨u245, hI⟩ := hI
  obtain ⟨u246, hI⟩ := hI
  obtain ⟨u247, hI⟩ := hI
  obtain ⟨u248, hI⟩ := hI
  obtain ⟨u249, hI⟩ := hI
  obtain ⟨u250, hI⟩ := hI
  obtain ⟨u251, hI⟩ := hI
  obtain ⟨u252, hI⟩ := hI
  obtain ⟨u253, hI⟩ := hI
  obtain ⟨u254, hI⟩ := hI
  obtain ⟨u255, hI⟩ := hI
  obtain ⟨u256, hI⟩ := hI
  obtain ⟨u257, hI⟩ := hI
  obtain ⟨u258, hI⟩ := hI
  obtain ⟨u259, hI⟩ := hI
  obtain ⟨u260, hI⟩ := hI
  obtain ⟨u261, hI⟩ := hI
  obtain ⟨u262, hI⟩ := hI
  obtain ⟨u263, hI⟩ := hI
  obtain ⟨u264, hI⟩ := hI
  obtain ⟨u265, hI⟩ := hI
  obtain ⟨u266, hI⟩ := hI
  obtain ⟨u267, hI⟩ := hI
  obtain ⟨u268, hI⟩ := hI
  obtain ⟨u269, hI⟩ := hI
  obtain ⟨u270, hI⟩ := hI
  obtain ⟨u271, hI⟩ := hI
  obtain ⟨u272, hI⟩ := hI
  obtain ⟨u273, hI⟩ := hI
  obtain ⟨u274, hI⟩ := hI
  obtain ⟨⟨hk0, st, dn, op, hk, hi, hst, hok, hw, hx, hQ, hK, hb, hA⟩, rfl⟩ := hI
  by_cases hkl : k < P.items.length
  · have e1 : P.items[k]? = some P.items[k] := List.getElem?_eq_getElem hkl
    have e2 : gs[k]? = some (gs[k]'(by omega)) := List.getElem?_eq_getElem _
    have hmem : P.items[k] ∈ P.items := List.getElem_mem hkl
    have hdrop : P.items.drop k = P.items[k] :: P.items.drop (k + 1) := List.drop_eq_getElem_cons hkl
    rw [hdrop] at hw hx hA
    generalize P.items[k] = it at *
    cases hw with
    | cons h t =>
      rename_i dn' op'
      have hx' := hx.next h t
      have H := IH (k + 1) dn' op' (by omega) (by omega) t hx'
      have hk7 := h.kind_le
      have hnlt : 1 ≤ it.kind → it.kind ≤ 4 → it.n < P.caps := fun h1 h4 => by
        have := h.n_lt (fun n hn => (hx.mem n hn).1) h1 h4
        have := t.le
        omega
      have U : UnderM lo m pc cb bm s vi P gs k (tryP s true (fun _ => false) (P.items.drop (k + 1))) (POk s dn op) (POk s dn' op') it (gs[k]'(by omega)) i st c W0 w' := ⟨H, hs, hl, e1, e2, hi, hst, hok, hQ, hK, hb⟩
      have hA' : A = stepM s (fun _ => false) it (tryP s true (fun _ => false) (P.items.drop (k + 1))) i st c := hA
      have hsets := fun h => (hQ.sets k it _ e1 e2 h).2
      cases h with
      | place hk1 hn => exact mat1 (n0 := 0) U hA' hk1 (hnlt (by omega) (by omega)) hcp (hok.place (fun n hn => (hx.mem n hn).1) hn)
      | opn hk1 hn => exact mat2 (n0 := 0) U hA' hk1 (hnlt (by omega) (by omega)) hcp (hok.open_ hn)
      | shut hk1 => exact mat3 (n0 := 0) U hA' hk1 (hnlt (by omega) (by omega)) hcp (hok.shut hi)
      | back hk1 hd =>
        exact mat4 (n0 := 0) U hA' hk1 (fun i' st' w2 a1 a2 a3 a4 a5 a6 a7 => ⟨by omega, st', _, _, by omega, a2, a3, hok.mono a1, t, hx', a4, a5, a6, a7⟩) (hnlt (by omega) (by omega)) hcp (hok.done _ hd)
      | other hk1 h7 =>
        have hnx : ∀ (i' st' : Nat) (w' : World), i ≤ i' → i' ≤ s.size → st' ≤ 50000 → QS lo w' m pc s vi P gs cb st' c → Keeps W0.heap.size [m, cb] W0 w' → w'.heap[bm]? = some (.cells #[.pointer (some ⟨m, 0, none⟩)] 50 (0, 0)) →
            A = tryP s true (fun _ => false) (P.items.drop (k + 1)) i' st' c → k0 ≤ k + 1 ∧ MRel lo m pc cb bm s vi P gs dn2 c W0 A (k + 1) i' w' := fun i' st' w2 a1 a2 a3 a4 a5 a6 a7 => ⟨by omega, st', _, _, by omega, a2, a3, hok.mono a1, t, hx', a4, a5, a6, a7⟩
        have gd1 : ∀ j, i ≤ j → j ≤ s.size → POk s dn op j c := fun j hj _ => hok.mono hj
        by_cases k0' : it.kind = 0
        · rcases hsgn it hmem k0' with h1 | h1 | h1 | h1 | h1
          · exact mat0 (n0 := 0) U hA' k0' hnx (hsets (Or.inl k0')) h1
          · exact mat0s (n0 := 0) U hA' k0' hnx (hsets (Or.inl k0')) 0 (Or.inl ⟨h1, rfl⟩) gd1
          · exact mat0s (n0 := 0) U hA' k0' hnx (hsets (Or.inl k0')) 1 (Or.inr ⟨h1, rfl⟩) gd1
          · exact mat0m (n0 := 0) U hA' k0' hnx (hsets (Or.inl k0')) h1 gd1
          · exact mat0q (n0 := 0) U hA' k0' hnx (hsets (Or.inl k0')) h1 hok gd1
        · by_cases k5 : it.kind = 5
          · exact mat5 (n0 := 0) U hA' k5 hnx
          · by_cases k6 : it.kind = 6
            · exact mat6 (n0 := 0) U hA' k6 hnx (hsets (Or.inr k6))
            · exact mat7 (n0 := 0) U hA' (by omega) hnx
  · obtain rfl : k = P.items.length := by omega
    rw [List.drop_length] at hA
    exact mat_end (dn2 := dn2) hl hi hst hQ hK hb hA _
end Go.Proofs.YtpinoolagbghnaaDoor

namespace Go.Proofs.YtpinoolagbghnaaDoor
set_option linter.unusedVariables false
open Go.RowKit Pat

section
variable {lo m pc cb : Nat} {s : ByteArray} {vi : Value} {P : Pt} {gs : List Nat} {dn2 : List Bool}

set_option maxRecDepth 1000000 in
set_option maxHeartbeats 4000000 in
theorem match_all (hs : s.size ≤ 65536) (hl : P.items.length ≤ 200) (hcp : P.caps ≤ 16) (hdn : dn2.length = P.caps) (hgs : P.items.length = gs.length) (hsgn : SgnOk P.items) :
    ∀ d k dn op, P.items.length - k < d → k ≤ P.items.length → Wf dn op (P.items.drop k) dn2 [] → Ctx (placesOf P.items) dn op (P.items.drop k) →
      QGoes lo m pc s vi P gs cb k (tryP s true (fun _ => false) (P.items.drop k)) (POk s dn op) := by
  intro d
  induction d with
  | zero => intro k dn op hd; omega
  | succ d ih =>
    intro k dn op hd hk hw hx i st c w hi hst hok hQ
    have IH : ∀ k' dn op, k < k' → k' ≤ P.items.length → Wf dn op (P.items.drop k') dn2 [] → Ctx (placesOf P.items) dn op (P.items.drop k') → QGoes lo m pc s vi P gs cb k' (tryP s true (fun _ => false) (P.items.drop k')) (POk s dn op) :=
      fun k' dn op h1 h2 h3 h4 => ih k' dn op (by omega) h2 h3 h4
    obtain ⟨A, hA⟩ : ∃ A, A = tryP s true (fun _ => false) (P.items.drop k) i st c := ⟨_, rfl⟩
    rw [← hA]
    have HA := hid hA
    clear hA
    have HIH := hid IH
    have HIX := hid ih
    clear IH ih
    have hk1 : Keeps w.heap.size [m, cb] w (w.alloc (.cells #[.pointer (some ⟨m, 0, none⟩)] 50)) := (Keeps.refl _ _ _).alloc (Nat.le_refl _) _
    have hQ1 := hQ.keeps ((Keeps.refl w.heap.size [] w).alloc (Nat.le_refl _) (.cells #[.pointer (some ⟨m, 0, none⟩)] 50))
    have hb1 := blk_new w (.cells #[.pointer (some ⟨m, 0, none⟩)] 50)
    have HK := hid hk1
    have HQ := hid hQ1
    have HB := hid hb1
    clear hk1 hQ1 hb1
    go_enter Tryd.func39, Tryd.ntmps39
    go_wp2_with fail
    refine wp_loop (MI m w.heap.size (fun k' i' w' => k ≤ k' ∧ MRel lo m pc cb w.heap.size s vi P gs dn2 c w A k' i' w')) (fun a _ => MMu P.items.length a) ?_ (fun a w'' hI => mat_round k hs hl hcp hdn hgs hsgn HIH.out a w'' hI)
    exact MI_mk (k := k) (i := i) ⟨Nat.le_refl _, st, dn, op, hk, hi, hst, hok, hw, hx, HQ.out, HK.out, HB.out, HA.out⟩ rfl rfl
end
end Go.Proofs.YtpinoolagbghnaaDoor
