/-
  The reader of the reference: l10Read reads just the pattern that the plain word parse tells.
-/
import Derived.Test.YtpinoolagbghnaaDoorZReadP
import Derived.BigRegion
import Derived.BigQuiet
import Derived.Deep.QuietTactic
import Derived.RegionTactic
import Derived.Deep.RegionLaw
import Derived.Deep.CutRange
import Derived.Deep.DeepMust
import Derived.Handy
namespace Go.Proofs.YtpinoolagbghnaaDoor
set_option linter.unusedVariables false
open Go.RowKit Pat

/-- What the reference's reader of patterns answers. -/
def ReadPost (p : ByteArray) (w : World) (e : Ending) (w' : World) : Prop :=
  Keeps w.heap.size [] w w' ∧
  (parse p = none → e = .returned (.tuple #[.agg #[.slice none 0 0, .slice none 0 0, .bool false], .bool false])) ∧
  (∀ P, parse p = some P → ∃ vi g gs, e = .returned (.tuple #[.agg #[vi, .slice (some ⟨g, 0, none⟩) P.caps P.caps, .bool P.start], .bool true]) ∧ w.heap.size ≤ g ∧ ItemRow w.heap.size w' vi P.items.length (itCells P.items gs) ∧
    P.items.length = gs.length ∧ SetsOk w' w.heap.size (.slice none 0 0) P.items gs ∧ BoolRow w' g 4 P.caps (placesOf P.items))

theorem Pat.itemsGo_n {p : ByteArray} {fuel i0 : Nat} {l : List It} {r : Rd} (h : itemsGo p fuel { i := i0, done := [], opened := [] } [] = some (l, r)) : ∀ it ∈ l, 1 ≤ it.kind → it.kind ≤ 4 → it.n < r.done.length := by
  refine (itemsGo_ind (fun r l => (∀ m ∈ r.opened, m < r.done.length) ∧ ∀ it ∈ l, 1 ≤ it.kind → it.kind ≤ 4 → it.n < r.done.length) ?_ ⟨by simp, by simp⟩ h).2
  intro r l it r' ⟨h1, h2⟩ hlt hi
  have ok := itemAt_ok hi
  refine ⟨ok.mem h1, fun x hx a b => ?_⟩
  simp only [List.mem_append, List.mem_singleton] at hx
  rcases hx with hx | rfl
  · have := h2 x hx a b
    have := ok.done
    omega
  · exact ok.n h1 a b
theorem placesOf_take {l : List It} {n : Nat} {it : It} (h : l[n]? = some it) (k : Nat) : placesOf (l.take (n + 1)) k = (placesOf (l.take n) k || (decide (it.kind = 1) && decide (it.n = k))) := by
  unfold placesOf
  rw [List.take_add_one, h]
  simp
theorem own_lower {w : World} {B B' e size n : Nat} {v : Value} {xs : List Value} (h : w.ownsRow B e size v n xs) (hB : B' ≤ B) : w.ownsRow B' e size v n xs := by
  refine ⟨h.1, ?_⟩
  rcases h.2 with hn | ⟨g, cap, cur, rfl, hb, rest⟩
  · exact .inl hn
  · exact .inr ⟨g, cap, cur, rfl, Nat.le_trans hB hb, rest⟩
theorem own_add {g k : Nat} : (⟨g, 0, none⟩ : Addr).add k = ⟨g, k, none⟩ := by cases k <;> simp [Addr.add]
theorem own_some {w : World} {B e size n cap : Nat} {a : Option Addr} {xs : List Value} (h : w.ownsRow B e size (.slice a n cap) n xs) (hn : 0 < n) : ∃ g, a = some ⟨g, 0, none⟩ := by
  rcases h.2 with ⟨h1, h2⟩ | ⟨g, c, cur, h1, _⟩
  · omega
  · simp only [Value.slice.injEq] at h1
    exact ⟨g, h1.1⟩
theorem res_read {W : World} {b : Nat} {c : Array Value} {x y z v : Value} {tmps : Array Value} (h : W.heap[b]? = some (.cells c 36 (0, 0))) (hc : c = #[x, y, z]) (h2 : tmps[2]? = some (.pointer (some ⟨b, 0, none⟩))) (h3 : tmps[3]? = some v) :
    (results Tryd.f20 tmps).run Tryd.prog W = .ok (.tuple #[.agg #[x, y, z], v]) W := by
  subst hc
  have q0 := blk_cell h 0
  have q1 := blk_cell h 1
  have q2 := blk_cell h 2
  simp at q0 q1 q2
  simp [results, Tryd.results20, go_sem, h2, h3, q0, q1, q2]
theorem ReadPost.no {p : ByteArray} {w w' : World} {e : Ending} (h : parse p = none) (he : e = .returned (.tuple #[.agg #[.slice none 0 0, .slice none 0 0, .bool false], .bool false])) (hk : Keeps w.heap.size [] w w') : ReadPost p w e w' :=
  ⟨hk, fun _ => he, fun P h' => (by rw [h] at h'; cases h')⟩

set_option maxRecDepth 100000 in
set_option maxHeartbeats 2000000 in
theorem read_any (p : ByteArray) (w : World) :
    Calls Tryd.prog 20 #[.string p] w fun e w' => ReadPost p w e w' := by
  by_cases hp : 200 < p.size
  · have hp' : decide ((200 : Int) < p.size) = true := by simp; omega
    go_enter Tryd.func20, Tryd.ntmps20
    go_wp2_with fail
    go_returns
    have hpn : parse p = none := by unfold parse; rw [if_pos hp]
    exact ⟨by repeat (first | exact Keeps.refl _ _ _ | (refine Keeps.setCell ?_ (Or.inr (by simp)) _) | (refine Keeps.alloc ?_ (by simp) _)), fun _ => rfl, fun P h => (by rw [hpn] at h; cases h)⟩
  · have hp' : decide ((200 : Int) < p.size) = false := by simp; omega
    obtain ⟨st, hst⟩ : ∃ st, st = startOf p := ⟨_, rfl⟩
    have HST := hid hst
    have hc : (0 < p.size ∧ ∃ h : 0 < p.size, (((p[0]'h).toNat : Int) == 94) = true ∧ st = true) ∨ (0 < p.size ∧ ∃ h : 0 < p.size, (((p[0]'h).toNat : Int) == 94) = false ∧ st = false) ∨ (¬ 0 < p.size ∧ st = false) := by
      by_cases h0 : 0 < p.size
      · have hb := bt_of_lt h0
        have hs : st = decide (bt p 0 = 94) := by rw [hst]; unfold startOf; simp [h0]
        rw [hb] at hs
        by_cases h9 : ((p[0]'h0).toNat : Int) = 94
        · left; exact ⟨h0, h0, beq_iff_eq.2 h9, by rw [hs]; exact decide_eq_true h9⟩
        · right; left; exact ⟨h0, h0, beq_eq_false_iff_ne.2 h9, by rw [hs]; exact decide_eq_false h9⟩
      · right; right; exact ⟨h0, by rw [hst]; unfold startOf; simp [h0]⟩
    clear hst
    go_enter Tryd.func20, Tryd.ntmps20
    go_upto_region 4 with fail
    obtain ⟨W0, hW0⟩ : ∃ W, W = (w.alloc (.cells #[.slice none 0 0, .slice none 0 0, .bool false] 36)).alloc (.cells #[.string p, .int .i64 0, .bool false, .slice none 0 0, .slice none 0 0, .slice none 0 0] 92) := ⟨_, rfl⟩
    rw [← hW0]
    have HW0 := hid hW0
    clear hW0
    go_cut [5] from 16 to 23 (fun v wx => v = .bool st ∧ wx = W0)
    case first =>
      rcases hc with ⟨h0, h1, h2, rfl⟩ | ⟨h0, h1, h2, rfl⟩ | ⟨h0, rfl⟩
      all_goals
        go_wp2_with fail
        go_meet
        exact ⟨rfl, rfl⟩
    case rest =>
      obtain ⟨rfl, rfl⟩ := hcut
      go_upto_if 24 with fail
      go_cut [] from 25 to 27 (fun wx => RdBlk wx (w.heap.size + 1) 92 p (if st then 1 else 0) false (.slice none 0 0) (.slice none 0 0) (.slice none 0 0) ∧ wx.heap[w.heap.size]? = some (.cells #[.slice none 0 0, .slice none 0 0, .bool false] 36 (0, 0)) ∧ Keeps w.heap.size [] w wx)
      case first =>
        have hbX : RdBlk wc (w.heap.size + 1) 92 p 0 false (.slice none 0 0) (.slice none 0 0) (.slice none 0 0) := by
          rw [HW0.out]
          have := blk_new (w.alloc (.cells #[.slice none 0 0, .slice none 0 0, .bool false] 36)) (.cells #[.string p, .int .i64 0, .bool false, .slice none 0 0, .slice none 0 0, .slice none 0 0] 92)
          rw [World.size_alloc] at this
          exact this
        have hrX : wc.heap[w.heap.size]? = some (.cells #[.slice none 0 0, .slice none 0 0, .bool false] 36 (0, 0)) := by
          rw [HW0.out]
          exact blk_alloc (blk_new _ _) _
        have hkX : Keeps w.heap.size [] w wc := by
          rw [HW0.out]
          exact ((Keeps.refl _ _ _).alloc (Nat.le_refl _) _).alloc (by simp) _
        obtain ⟨c0, c1, c2, c3, c4, c5, f1, f2, f3, f4, f5⟩ := hbX.cells
        have hlt := blk_lt hbX
        have HbX := hid hbX
        have HrX := hid hrX
        have HkX := hid hkX
        clear hbX hrX hkX
        rcases hc with ⟨h0, h1, h2, rfl⟩ | ⟨h0, h1, h2, rfl⟩ | ⟨h0, rfl⟩
        all_goals
          go_wp2_with fail
          go_meet
        · exact ⟨HbX.out.at_ (j := 1) rfl, blk_set_other HrX.out (by simp) _, HkX.out.setCell (Or.inr (by simp)) _⟩
        · exact ⟨HbX.out, HrX.out, HkX.out⟩
        · exact ⟨HbX.out, HrX.out, HkX.out⟩
      case rest =>
        obtain ⟨hb0, hr0, hk0⟩ := hcut
        obtain ⟨R, hR⟩ : ∃ R, R = itemsGo p p.size { i := if startOf p then 1 else 0, done := [], opened := [] } [] := ⟨_, rfl⟩
        have HR := hid hR
        clear hR
        have hS0 : RdState (w.heap.size + 1) (w.heap.size + 1) p (w.heap.size + 1) { i := if st then 1 else 0, done := [], opened := [] } [] [] (.slice none 0 0) (.slice none 0 0) (.slice none 0 0) wc :=
          ⟨by simpa using hb0, World.ownsRow_nil _ _ _ _, World.ownsRow_nil _ _ _ _, World.ownsRow_nil _ _ _ _, rfl, fun j it g h => by simp at h, fun m h => by simp at h, by simp, by simp, by simp⟩
        have HS0 := hid hS0
        clear hb0 hS0
        go_wp2_with fail
        go_loopg [] p.size (fun gk wr => ((∃ r its gs vi vo vd, RdState (w.heap.size + 1) (w.heap.size + 1) p (w.heap.size + 1) r its gs vi vo vd wr ∧ p.size ≤ r.i + gk ∧ its.length ≤ p.size ∧ Hid (R = itemsGo p gk r its)) ∨ (∃ i vi vo vd, RdBlk wr (w.heap.size + 1) 92 p i true vi vo vd ∧ Hid (R = none))) ∧
          wr.heap[w.heap.size]? = some (.cells #[.slice none 0 0, .slice none 0 0, .bool false] 36 (0, 0)) ∧ Keeps w.heap.size [] w wr)
        case atStart => exact ⟨Or.inl ⟨_, _, _, _, _, _, HS0.out, by simp, by simp, hid (by rw [HR.out, HST.out])⟩, hr0, hk0⟩
        case round =>
          obtain ⟨hrr, hres, hkk⟩ := hrel
          rcases hrr with ⟨r, its, gs, vi, vo, vd, hS, hgk, hlp, HG⟩ | ⟨i, vi, vo, vd, hblk, HG⟩
          · have hblk := hS.blk
            have hsz := blk_lt hres
            have hsb := blk_lt hblk
            by_cases hlt : r.i < p.size
            · have hlt' : decide ((r.i : Int) < p.size) = true := by simpa using hlt
              obtain ⟨c0, c1, c2, c3, c4, c5, f1, f2, f3, f4, f5⟩ := hblk.cells
              have hb1 := hS.b1
              have hb2 := hS.b2
              have hb3 := hS.b3
              go_wp2_with fail
              refine (item_any (w.heap.size + 1) p (w.heap.size + 1) r.i its.length (itCells its gs) r.done r.opened vi vo vd _ (by omega) hlt (by omega) (by omega) (by omega) (Nat.le_refl _) hS.blk hS.it hS.op hS.dn hS.mem).mono ?_
              rintro e w' hany
              obtain ⟨gk', rfl⟩ : ∃ m, gk = m + 1 := ⟨gk - 1, by omega⟩
              obtain ⟨A, hA⟩ : ∃ A, itemAt p r = A := ⟨_, rfl⟩
              have hA' : itemAt p ⟨r.i, r.done, r.opened⟩ = A := hA
              cases A with
              | none =>
                obtain ⟨vi', vo', vd', i', rfl, hb', hk'⟩ := hany.2 hA'
                have HN : Hid (R = none) := hid (by rw [HG.out, itemsGo_bad hlt hA])
                clear HG hany hA hA'
                go_wp2_with fail
                go_roundg gk'
                case measure => omega
                case rel => exact ⟨Or.inr ⟨_, _, _, _, hb', HN⟩, hk'.blk hres (by omega) (by simp), hkk.andThen hk' (by omega) (by simp)⟩
              | some x =>
                obtain ⟨it, r'⟩ := x
                obtain ⟨gs', vi', vo', vd', rfl, hS', hk'⟩ := hS.next (by omega) hA (hany.1 it r' hA')
                have HN : Hid (R = itemsGo p gk' r' (its ++ [it])) := hid (by rw [HG.out, itemsGo_next hlt hA])
                have hi' := (itemAt_ok hA).i
                have hks : ∀ k, k ∈ ((w.heap.size + 1) :: (obl vi ++ obl vo ++ obl vd)) → w.heap.size < k := by
                  intro k hk
                  simp only [List.mem_cons, List.mem_append, mem_obl] at hk
                  rcases hk with rfl | (hk | hk) | hk
                  · omega
                  · exact (hS.it.lt k hk).1
                  · exact (hS.op.lt k hk).1
                  · exact (hS.dn.lt k hk).1
                have hres' := hk'.blk hres hsz (fun h => Nat.lt_irrefl _ (hks _ h))
                have hkk' := hkk.andThen hk' hkk.size (fun k hk hlt => absurd (hks k hk) (by omega))
                clear HG hany hA hA' hk'
                go_wp2_with fail
                go_roundg gk'
                case measure => omega
                case rel => exact ⟨Or.inl ⟨_, _, _, _, _, _, hS', by omega, by simp; omega, HN⟩, hres', hkk'⟩
            · have hlt' : decide ((r.i : Int) < p.size) = false := by simpa using hlt
              obtain ⟨c0, c1, c2, c3, c4, c5, f1, f2, f3, f4, f5⟩ := hblk.cells
              have hne : ¬ w.heap.size = w.heap.size + 1 := by omega
              have r0 := blk_cell hres 0
              have r1 := blk_cell hres 1
              have r2 := blk_cell hres 2
              have q0 := blk_free hres 0
              have q1 := blk_free hres 1
              have q2 := blk_free hres 2
              obtain ⟨ao, co, hvo⟩ := own_form hS.op
              obtain ⟨ad, cd, hvd⟩ := own_form hS.dn
              rw [hvo] at c4
              rw [hvd] at c5
              obtain ⟨ai, ci, hvi⟩ := own_form hS.it
              rw [hvi] at c3
              have hRR : R = some (its, r) := by rw [HG.out, itemsGo_end (by omega)]
              by_cases hop : r.opened = []
              · have ho1 : decide ((0 : Int) < r.opened.length) = false := by rw [hop]; rfl
                by_cases hdl : 16 < r.done.length
                · have hd1 : decide ((16 : Int) < r.done.length) = true := by simp; omega
                  have HRR := hid hRR
                  have ho2 : r.opened.length = 0 := by rw [hop]; rfl
                  have hd2 : (16 : Int) < r.done.length := by omega
                  clear HG hRR hop
                  go_wp2_with fail
                  refine bodyPost_ret (res_read (blk_set (blk_set (blk_set hres 0 _) 1 _) 2 _) rfl rfl rfl) rfl ?_
                  exact ReadPost.no (by unfold parse; rw [if_neg hp, ← HR.out, HRR.out]; simp only []; rw [if_pos (Or.inr hdl)]) rfl (by repeat (first | assumption | (refine Keeps.setCell ?_ (Or.inr (by simp)) _) | (refine Keeps.drewN ?_ _)))
                · have hd1 : decide ((16 : Int) < r.done.length) = false := by simp; omega
                  have hpar : parse p = some { start := st, items := its, caps := r.done.length } := by
                    unfold parse; rw [if_neg hp, ← HR.out, hRR]; simp only []; rw [if_neg (by simp [hop]; omega), HST.out]
                  have hmk := run_make_row' (P := Tryd.prog) 34 4 (.bool false) 1 Tryd.underlying34 info_bool rfl .i64 .i64 r.done.length (by omega) (by omega)
                  have HP := hid hpar
                  have HMN := hid (itemsGo_n (HR.out.symm.trans hRR))
                  have ho2 : r.opened.length = 0 := by rw [hop]; rfl
                  have hd2 : ¬ (16 : Int) < r.done.length := by omega
                  clear HG hRR hop hpar
                  go_upto_region 11 with fail
                  have hmn : ∀ it ∈ its, 1 ≤ it.kind → it.kind ≤ 4 → it.n < r.done.length := HMN.out
                  go_cut [6] from 65 to 76 (fun v wx => ∃ o g, v = .pointer (some ⟨o, 0, none⟩) ∧ wr.heap.size ≤ o ∧ wr.heap.size ≤ g ∧ o ≠ g ∧ wx.heap[o]? = some (.cells #[.slice ai its.length ci, .slice (some ⟨g, 0, none⟩) r.done.length r.done.length, .bool st] 36 (0, 0)) ∧ BoolRow wx g 4 r.done.length (fun _ => false) ∧ Keeps wr.heap.size [] wr wx)
                  case first =>
                    have hgl : ∀ (W : World) (n : Nat), BoolRow (W.alloc (.cells (madeCells #[.bool false] n) 4)) W.heap.size 4 n (fun _ => false) := fun W n => World.rowIs_made W (.bool false) n 4
                    go_region
                    all_goals
                      go_wp2_with fail
                      go_meet
                    · refine ⟨wr.heap.size + 1, wr.heap.size, rfl, by omega, by omega, by omega, ?_, (hgl wr _).alloc _, (((Keeps.refl _ _ _).alloc (Nat.le_refl _) _).alloc (by simp) _).drew⟩
                      have := blk_new (wr.alloc (.cells (madeCells #[.bool false] r.done.length) 4)) (.cells #[.slice ai its.length ci, .slice (some ⟨wr.heap.size, 0, none⟩) r.done.length r.done.length, .bool st] 36)
                      rw [World.size_alloc] at this
                      exact this
                    · refine ⟨wr.heap.size, wr.heap.size + 1, rfl, by omega, by omega, by omega, ?_, ?_, (((Keeps.refl _ _ _).alloc (Nat.le_refl _) _).alloc (by simp) _).drew⟩
                      · exact blk_alloc (blk_new wr (.cells #[.slice ai its.length ci, .slice (some ⟨wr.heap.size + 1, 0, none⟩) r.done.length r.done.length, .bool st] 36)) (.cells (madeCells #[.bool false] r.done.length) 4)
                      · have := hgl (wr.alloc (.cells #[.slice ai its.length ci, .slice (some ⟨wr.heap.size + 1, 0, none⟩) r.done.length r.done.length, .bool st] 36)) r.done.length
                        rw [World.size_alloc] at this
                        exact this
                  case rest =>
                    obtain ⟨o, g, rfl, ho, hg, hog, hob, hrow, hkw⟩ := hcut
                    have HKW := hid hkw
                    have HITC := hid (own_keeps hS.it hkw (Nat.le_refl _) (fun _ _ => by simp))
                    have HRW := hid (hkw.blk hres hsz (by simp))
                    clear c0 c1 c2 c3 c4 c5 f1 f2 f3 f4 f5 hmk r0 r1 r2 q0 q1 q2
                    obtain ⟨c0, c1, c2, c3, c4, c5, f1, f2, f3, f4, f5⟩ := (RdBlk.kept hblk hkw hsb (by simp)).cells
                    rw [hvi] at c3
                    have hn200 : its.length ≤ 1000 := by omega
                    have Hob := hid hob
                    have Hrow := hid hrow
                    clear hob hrow hkw
                    go_wp2_with fail
                    clear c0 c1 c2 c3 c4 c5 f1 f2 f3 f4 f5
                    obtain ⟨wo, hwo⟩ : ∃ wo : World, wo = wr := ⟨_, rfl⟩
                    subst hwo
                    go_loopg [82] its.length (fun gk c wx => ∃ n : Nat, c = .int .i64 n ∧ n + gk = its.length ∧ wx.heap[o]? = some (.cells #[.slice ai its.length ci, .slice (some ⟨g, 0, none⟩) r.done.length r.done.length, .bool st] 36 (0, 0)) ∧ BoolRow wx g 4 r.done.length (placesOf (its.take n)) ∧ Keeps wo.heap.size [] wo wx)
                    case atStart => exact ⟨0, rfl, by omega, Hob.out, Hrow.out, HKW.out⟩
                    case round =>
                      obtain ⟨n, rfl, hng, hob, hrow, hkx⟩ := hrel
                      have hox := blk_lt hob
                      have hgx := World.rowIs.lt hrow
                      have hxs := hkx.size
                      have o0 := blk_cell hob 0
                      have o1 := blk_cell hob 1
                      have o2 := blk_cell hob 2
                      by_cases hn : n < its.length
                      · obtain ⟨gk', rfl⟩ : ∃ m, gk = m + 1 := ⟨gk - 1, by omega⟩
                        obtain ⟨gi, rfl⟩ := own_some (hvi ▸ hS.it) (by omega)
                        have hcl := (own_keeps (hvi ▸ hS.it) hkx (Nat.le_refl _) (fun _ _ => by simp)).cells (g := gi) rfl
                        have e1 : its[n]? = some its[n] := List.getElem?_eq_getElem hn
                        have e2 : gs[n]? = some (gs[n]'(by rw [← hS.len]; exact hn)) := List.getElem?_eq_getElem _
                        have hcc : ∀ j v, j < 6 → (itemCells its[n] (gs[n]'(by rw [← hS.len]; exact hn)))[j]? = some v → wr.cell? ⟨gi, n * 6 + j, none⟩ = some v := by
                          intro j v hj hv
                          have := hcl (n * 6 + j) v (by rw [itCells_get j e1 e2 hj]; exact hv)
                          rw [own_add] at this
                          exact this
                        obtain ⟨it, hit⟩ : ∃ it, it = its[n] := ⟨_, rfl⟩
                        rw [← hit] at hcc e1
                        have m0 : wr.cell? ⟨gi, n * 6, none⟩ = _ := hcc 0 _ (by omega) rfl
                        obtain ⟨sa, sn, sc, m1⟩ : ∃ sa sn sc, wr.cell? ⟨gi, n * 6 + 1, none⟩ = some (.slice sa sn sc) := by
                          have := hcc 1 _ (by omega) rfl
                          split at this
                          · exact ⟨_, _, _, this⟩
                          · exact ⟨_, _, _, this⟩
                        have m2 := hcc 2 _ (by omega) rfl
                        have m3 := hcc 3 _ (by omega) rfl
                        have m4 := hcc 4 _ (by omega) rfl
                        have m5 := hcc 5 _ (by omega) rfl
                        have hnn : it.kind = 1 → it.n < r.done.length := fun hk => hmn it (by rw [hit]; exact List.getElem_mem hn) (by omega) (by omega)
                        clear hcl hcc hit
                        have hgo : ¬ g = o := fun h => hog h.symm
                        by_cases hk : it.kind = 1
                        · have hk' : ((it.kind : Int) == 1) = true := by rw [hk]; rfl
                          have hnn := hnn hk
                          have w0 := World.rowIs.cell hrow hnn
                          have w1 := World.rowIs.frozen hrow it.n
                          have Hk := hid hk
                          clear hk
                          go_wp2_with fail
                          go_roundg gk'
                          case measure => omega
                          case rel =>
                            refine ⟨n + 1, by go_num, by omega, blk_alloc (blk_set_other hob (a := ⟨g, it.n, none⟩) hog _) _, World.rowIs.alloc ((BoolRow.set hrow it.n true).congr fun j hj => ?_) _, (hkx.setCell (p := ⟨g, it.n, none⟩) (Or.inr hg) _).alloc (by simpa using hxs) _⟩
                            dsimp only
                            rw [placesOf_take e1 j, Hk.out]
                            by_cases hj : j = it.n
                            · rw [if_pos hj, hj]; simp
                            · rw [if_neg hj]; simp [Ne.symm hj]
                        · have hk' : ((it.kind : Int) == 1) = false := by simp; omega
                          have Hk := hid hk
                          clear hk
                          go_wp2_with fail
                          go_roundg gk'
                          case measure => omega
                          case rel =>
                            refine ⟨n + 1, by go_num, by omega, blk_alloc hob _, (hrow.alloc _).congr fun j hj => ?_, hkx.alloc hxs _⟩
                            rw [placesOf_take e1 j, decide_eq_false Hk.out, Bool.false_and, Bool.or_false]
                      · obtain rfl : n = its.length := by omega
                        have hresx := hkx.blk hres hsz (by simp)
                        have r0 := blk_cell hresx 0
                        have r1 := blk_cell hresx 1
                        have r2 := blk_cell hresx 2
                        have q0 := blk_free hresx 0
                        have q1 := blk_free hresx 1
                        have q2 := blk_free hresx 2
                        go_wp2_with fail
                        refine bodyPost_ret (res_read (blk_set (blk_set (blk_set hresx 0 _) 1 _) 2 _) rfl rfl rfl) rfl ?_
                        rw [List.take_length] at hrow
                        have hkf := hkk.andThen hkx hkk.size (by simp)
                        have hitx := own_keeps (hvi ▸ hS.it) hkx (Nat.le_refl _) (fun _ _ => by simp)
                        refine ⟨?_, fun h => (by rw [HP.out] at h; cases h), fun P h => ?_⟩
                        · exact ((hkf.setCell (Or.inr (by simp)) _).setCell (Or.inr (by simp)) _).setCell (Or.inr (by simp)) _
                        · rw [HP.out] at h
                          simp only [Option.some.injEq] at h
                          subst h
                          have hkz : Keeps wo.heap.size [w.heap.size] wo (((wr.setCell ⟨w.heap.size, 0, none⟩ (.slice ai its.length ci)).setCell ⟨w.heap.size, 1, none⟩ (.slice (some ⟨g, 0, none⟩) r.done.length r.done.length)).setCell ⟨w.heap.size, 2, none⟩ (.bool st)) :=
                            (((hkx.mono (Nat.le_refl _) (by simp)).setCell (Or.inl (by simp)) _).setCell (Or.inl (by simp)) _).setCell (Or.inl (by simp)) _
                          have hgw : g ≠ w.heap.size := by omega
                          refine ⟨_, g, gs, rfl, by omega, own_lower (own_keeps (hvi ▸ hS.it) hkz (Nat.le_refl _) (fun k hk => ?_)) (by omega), hS.len, ?_, ?_⟩
                          · have h1 := ((hvi ▸ hS.it : ItemRow _ wo (.slice ai its.length ci) its.length (itCells its gs)).lt k hk).1
                            simp; omega
                          · intro j it g' e1 e2 e3
                            obtain ⟨a1, a2, a3⟩ := hS.sets j it g' e1 e2 e3
                            exact ⟨by omega, hkz.row a2 a2.lt (by simp; omega), by simp [Value.ownBlock]⟩
                          · exact ((hrow.setOther (by simpa using hgw) _).setOther (by simpa using hgw) _).setOther (by simpa using hgw) _
              · have ho1 : decide ((0 : Int) < r.opened.length) = true := by
                  have := List.length_pos_iff.2 hop
                  simp; omega
                have HRR := hid hRR
                have ho2 : 0 < r.opened.length := List.length_pos_iff.2 hop
                clear HG hRR
                go_wp2_with fail
                refine bodyPost_ret (res_read (blk_set (blk_set (blk_set hres 0 _) 1 _) 2 _) rfl rfl rfl) rfl ?_
                exact ReadPost.no (by unfold parse; rw [if_neg hp, ← HR.out, HRR.out]; simp only []; rw [if_pos (Or.inl hop)]) rfl (by repeat (first | assumption | (refine Keeps.setCell ?_ (Or.inr (by simp)) _) | (refine Keeps.drewN ?_ _)))
          · obtain ⟨c0, c1, c2, c3, c4, c5, f1, f2, f3, f4, f5⟩ := hblk.cells
            have hne : ¬ w.heap.size = w.heap.size + 1 := by omega
            have hsz := blk_lt hres
            have r0 := blk_cell hres 0
            have r1 := blk_cell hres 1
            have r2 := blk_cell hres 2
            have q0 := blk_free hres 0
            have q1 := blk_free hres 1
            have q2 := blk_free hres 2
            by_cases hlt : (i : Int) < p.size
            all_goals
              go_wp2_with fail
              refine bodyPost_ret (res_read (blk_set (blk_set (blk_set hres 0 _) 1 _) 2 _) rfl rfl rfl) rfl ?_
              exact ReadPost.no (by unfold parse; rw [if_neg hp, ← HR.out, HG.out]) rfl (by repeat (first | assumption | (refine Keeps.setCell ?_ (Or.inr (by simp)) _) | (refine Keeps.drewN ?_ _)))
end Go.Proofs.YtpinoolagbghnaaDoor
