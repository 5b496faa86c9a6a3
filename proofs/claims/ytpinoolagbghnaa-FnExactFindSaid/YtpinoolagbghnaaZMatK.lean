/-
  Walk: the program's matcher: match comes to the plain word tryP (the program's way) at every item of a well formed pattern.
-/
import Derived.Test.YtpinoolagbghnaaZMatJ
namespace Go.Proofs.Ytpinoolagbghnaa
set_option linter.unusedVariables false
open Go.RowKit Pat

section
variable {lo m pc cb : Nat} {s : ByteArray} {vi : Value} {P : Pt} {gs : List Nat} {dn2 : List Bool}

set_option maxRecDepth 1000000 in
set_option maxHeartbeats 4000000 in
theorem match_all (hs : s.size ≤ 65536) (hl : P.items.length ≤ 200) (hcp : P.caps ≤ 16) (hdn : dn2.length = P.caps) (hgs : P.items.length = gs.length) (hsgn : SgnOk P.items) :
    ∀ d k dn op, P.items.length - k < d → k ≤ P.items.length → Wf dn op (P.items.drop k) dn2 [] → Ctx (placesOf P.items) dn op (P.items.drop k) →
      QGoes lo m pc s vi P gs cb k (tryP s true (fun _ => false) (P.items.drop k)) (POk s dn op) := by
  intro d
  induction d with
  | zero => intro k dn op hd; omega
  | succ d ih =>
    intro k dn op hd hk hw hx i st c w hi hst hok hQ
    have IH : ∀ k' dn op, k < k' → k' ≤ P.items.length → Wf dn op (P.items.drop k') dn2 [] → Ctx (placesOf P.items) dn op (P.items.drop k') → QGoes lo m pc s vi P gs cb k' (tryP s true (fun _ => false) (P.items.drop k')) (POk s dn op) :=
      fun k' dn op h1 h2 h3 h4 => ih k' dn op (by omega) h2 h3 h4
    obtain ⟨A, hA⟩ : ∃ A, A = tryP s true (fun _ => false) (P.items.drop k) i st c := ⟨_, rfl⟩
    rw [← hA]
    have HA := hid hA
    clear hA
    have HIH := hid IH
    have HIX := hid ih
    clear IH ih
    have hk1 : Keeps w.heap.size [m, cb] w (w.alloc (.cells #[.pointer (some ⟨m, 0, none⟩)] 38)) := (Keeps.refl _ _ _).alloc (Nat.le_refl _) _
    have hQ1 := hQ.keeps ((Keeps.refl w.heap.size [] w).alloc (Nat.le_refl _) (.cells #[.pointer (some ⟨m, 0, none⟩)] 38))
    have hb1 := blk_new w (.cells #[.pointer (some ⟨m, 0, none⟩)] 38)
    have HK := hid hk1
    have HQ := hid hQ1
    have HB := hid hb1
    clear hk1 hQ1 hb1
    go_enter Try.func27, Try.ntmps27
    go_wp2_with fail
    refine wp_loop (MI m w.heap.size (fun k' i' w' => k ≤ k' ∧ MRel lo m pc cb w.heap.size s vi P gs dn2 c w A k' i' w')) (fun a _ => MMu P.items.length a) ?_ (fun a w'' hI => mat_round k hs hl hcp hdn hgs hsgn HIH.out a w'' hI)
    exact MI_mk (k := k) (i := i) ⟨Nat.le_refl _, st, dn, op, hk, hi, hst, hok, hw, hx, HQ.out, HK.out, HB.out, HA.out⟩ rfl rfl
end
end Go.Proofs.Ytpinoolagbghnaa
