/-
  From the row's listed tables (what its condition says of them) to the facts that the walks want; the row's wrap with the world's shape.
-/
import Derived.Test.YtlblkajnmdhmdaaGreatDoorZNSu
import Derived.Test.YtlblkajnmdhmdaaGreatDoorZNTab
import Derived.Test.YtlblkajnmdhmdaaGreatDoorRows
import Derived.ProofKit
import Derived.OpenShut
import Derived.LaidMore
import Derived.Stop.LaidErr
import Derived.Lib.LaidTab
import Derived.HandedShaped
import Derived.Shelf.Vars
namespace Go.Proofs.YtlblkajnmdhmdaaGreatDoor
set_option linter.unusedVariables false
open Go.RowKit Lib Go.ChangeShapes Go.WideShapes Go.ChangeAt
section
variable {P : Program} {w : World}
theorem laid_head {n : String} {d : DataW Unit} {r : List (String × DataW Unit)} {g : Nat} {t : TypeId} (h : laidMet P ((n, d) :: r) w) (hg : P.globalNamed n = some g) (ht : (P.globals[g]?).map (·.type) = some t) :
    ∃ cs fuel p, DataW.trod (fun _ => ()) P w 0 (fun _ => true) false fuel t cs = some (d, p) ∧ ∀ i, w.cell? ⟨g, i, none⟩ = cs[i]? := by
  obtain ⟨ps, ⟨g', t', cs, fuel, p, q, hg', ht', hvar, hd, _, _⟩, _⟩ := h
  obtain rfl := Option.some.inj (hg.symm.trans hg')
  obtain rfl := Option.some.inj (ht.symm.trans ht')
  exact ⟨cs.toList, fuel, p, hd, fun i => by rw [World.var?_cell hg hvar i, Array.getElem?_toList]⟩
theorem trod_float {H : Type} {enc : TypeId × Value → H} {base : Nat} {sp : Nat → Bool} {held : Bool} {fuel : Nat} {t : TypeId} {cs : List Value} {x : DataW H × List MemPlace} {k : FloatKind} (ht : P.underlying t = some (.float k)) (h : DataW.trod enc P w base sp held fuel t cs = some x) :
    ∃ b, cs = [.float k b] ∧ x.1 = .lit (.float k b) := by
  cases fuel with
  | zero => simp [DataW.trod] at h
  | succ n =>
    unfold DataW.trod at h
    rw [ht] at h
    split at h <;> simp_all
    obtain ⟨_, rfl⟩ := h
    rfl
theorem laid_bool {n : String} {b : Bool} {r : List (String × DataW Unit)} {g : Nat} {t : TypeId} (h : laidMet P ((n, .lit (.bool b)) :: r) w) (hg : P.globalNamed n = some g) (ht : (P.globals[g]?).map (·.type) = some t) (hu : P.underlying t = some .bool) :
    w.cell? ⟨g, 0, none⟩ = some (.bool b) := by
  obtain ⟨cs, fuel, p, hd, hc⟩ := laid_head h hg ht
  obtain ⟨b', rfl, hx⟩ := DataW.trod_bool hu hd
  rw [hc 0]
  simp only [Prod.mk.injEq, DataW.lit.injEq, Lit.bool.injEq] at hx
  rw [hx.1]
  rfl
theorem laid_iface {n nm : String} {d : DataW Unit} {r : List (String × DataW Unit)} {g : Nat} {t : TypeId} {ms : Array (String × TypeId)} (h : laidMet P ((n, .iface nm d) :: r) w) (hg : P.globalNamed n = some g) (ht : (P.globals[g]?).map (·.type) = some t) (hu : P.underlying t = some (.interface ms)) :
    ∃ u v, w.cell? ⟨g, 0, none⟩ = some (.iface u v) := by
  obtain ⟨cs, fuel, p, hd, hc⟩ := laid_head h hg ht
  obtain ⟨f', u, v, rfl, _, _⟩ := iface_of_trod hu hd
  exact ⟨u, v, by rw [hc 0]; rfl⟩
/-- The first field of a struct of integers. -/
theorem laid_field0 {n : String} {k : IntKind} {z : Int} {ds : List (DataW Unit)} {r : List (String × DataW Unit)} {g : Nat} {t : TypeId} {fs : Array Field} {f : Field} (h : laidMet P ((n, .agg (.lit (.int k z) :: ds)) :: r) w) (hg : P.globalNamed n = some g) (ht : (P.globals[g]?).map (·.type) = some t)
    (hu : P.underlying t = some (.struct fs)) (hf : fs[0]? = some f) (h0 : f.offset = 0) (h1 : P.cellsOf f.type = 1) (hk : P.underlying f.type = some (.int k)) : w.cell? ⟨g, 0, none⟩ = some (.int k z) := by
  obtain ⟨cs, fuel, p, hd, hc⟩ := laid_head h hg ht
  obtain ⟨xs, m, rfl, hx, hl, hxl, hall⟩ := DataW.trod_struct hu hd
  have h2 := hall 0 f hf
  rw [h0, h1, List.drop_zero] at h2
  simp only [Prod.mk.injEq, DataW.agg.injEq] at hx
  cases xs with
  | nil => simp at hx
  | cons x xs =>
    rw [List.map_cons, List.cons.injEq] at hx
    obtain ⟨z', e1, e2, _⟩ := DataW.trod_int hk h2
    have e3 := hx.1.1
    rw [e2] at e3
    simp only [DataW.lit.injEq, Lit.int.injEq, true_and] at e3
    rw [hc 0, e3]
    have := congrArg (·[0]?) e1
    simpa [List.getElem?_take] using this
/-- An array of pairs of integers. -/
theorem laid_pairs {n : String} {k : IntKind} {zs : List (Nat × Nat)} {r : List (String × DataW Unit)} {g m : Nat} {t e : TypeId} {f0 f1 : Field} (h : laidMet P ((n, .agg (zs.map fun x => .agg [.lit (.int k x.1), .lit (.int k x.2)])) :: r) w) (hg : P.globalNamed n = some g) (ht : (P.globals[g]?).map (·.type) = some t)
    (hu : P.underlying t = some (.array m e)) (he : P.underlying e = some (.struct #[f0, f1])) (hc2 : P.cellsOf e = 2) (h00 : f0.offset = 0) (h01 : P.cellsOf f0.type = 1) (hk0 : P.underlying f0.type = some (.int k)) (h10 : f1.offset = 1) (h11 : P.cellsOf f1.type = 1) (hk1 : P.underlying f1.type = some (.int k))
    {i a b : Nat} (hi : zs[i]? = some (a, b)) : w.cell? ⟨g, i * 2, none⟩ = some (.int k a) ∧ w.cell? ⟨g, i * 2 + 1, none⟩ = some (.int k b) := by
  obtain ⟨cs, fuel, p, hd, hc⟩ := laid_head h hg ht
  obtain ⟨xs, q, rfl, hx, hl, hxl, hall⟩ := DataW.trod_array hu hd
  simp only [Prod.mk.injEq, DataW.agg.injEq] at hx
  have hzl : zs.length = m := by
    have := congrArg List.length hx.1
    simp at this
    omega
  have him : i < m := by rw [← hzl]; exact (List.getElem?_eq_some_iff.1 hi).1
  have h2 := hall i him
  rw [hc2] at h2
  have hxi : xs[i]? = some xs[i] := List.getElem?_eq_getElem (by omega)
  rw [hxi] at h2
  have hd2 : (xs[i]).1 = .agg [.lit (.int k a), .lit (.int k b)] := by
    have := congrArg (·[i]?) hx.1
    simp only [List.getElem?_map, hi, hxi, Option.map_some, Option.some.injEq] at this
    exact this.symm
  obtain ⟨ys, q2, rfl, hy, hyl, hyl2, hall2⟩ := DataW.trod_struct he h2
  rw [hy] at hd2
  simp only [DataW.agg.injEq] at hd2
  have g0 := hall2 0 f0 rfl
  have g1 := hall2 1 f1 rfl
  rw [h00, h01, List.drop_zero] at g0
  rw [h10, h11] at g1
  match ys, hd2 with
  | [y0, y1], hd2 =>
    simp only [List.map_cons, List.map_nil, List.cons.injEq, and_true] at hd2
    obtain ⟨z0, e0, e0', _⟩ := DataW.trod_int hk0 g0
    obtain ⟨z1, e1, e1', _⟩ := DataW.trod_int hk1 g1
    have d0 := hd2.1
    have d1 := hd2.2
    rw [e0'] at d0
    rw [e1'] at d1
    simp only [DataW.lit.injEq, Lit.int.injEq, true_and] at d0 d1
    refine ⟨?_, ?_⟩
    · rw [hc (i * 2), ← d0]
      have := congrArg (·[0]?) e0
      simpa [List.getElem?_take, List.getElem?_drop] using this
    · rw [hc (i * 2 + 1), ← d1]
      have := congrArg (·[0]?) e1
      simpa [List.getElem?_take, List.getElem?_drop] using this
theorem cell_lt {a : Addr} {v : Value} (h : w.cell? a = some v) : a.block < w.heap.size := by
  apply Nat.lt_of_not_le
  intro hle
  unfold World.cell? at h
  rw [Array.getElem?_eq_none hle] at h
  cases h
/-- A slice of floats. -/
theorem laid_floats {n : String} {k : FloatKind} {zs : List Nat} {r : List (String × DataW Unit)} {g : Nat} {t e : TypeId} (h : laidMet P ((n, .slice (zs.map fun z => .lit (.float k z)) []) :: r) w) (hg : P.globalNamed n = some g) (ht : (P.globals[g]?).map (·.type) = some t)
    (hu : P.underlying t = some (.slice e)) (he : P.underlying e = some (.float k)) (hc1 : P.cellsOf e = 1) (h0 : 0 < zs.length) :
    ∃ (a : Addr) (c : Nat), w.cell? ⟨g, 0, none⟩ = some (.slice (some a) zs.length c) ∧ a.block < w.heap.size ∧ ∀ i z, zs[i]? = some z → w.cell? (a.add i) = some (.float k z) := by
  obtain ⟨cs, fuel, p, hd, hc⟩ := laid_head h hg ht
  obtain ⟨a, cap, rfl, hl, hall⟩ := open_row hu hc1 hd
  have hcell : ∀ i z, zs[i]? = some z → w.cell? (a.add i) = some (.float k z) := fun i z hz => by
    obtain ⟨v, n, q, h1, h2⟩ := hall i (.lit (.float k z)) (by rw [List.getElem?_map, hz]; rfl)
    obtain ⟨b, h3, h4⟩ := trod_float he h2
    simp only [List.cons.injEq, and_true] at h3
    simp only [DataW.lit.injEq, Lit.float.injEq, true_and] at h4
    rw [h1, h3, h4]
  refine ⟨a, cap, by rw [hc 0]; simp, ?_, hcell⟩
  have := cell_lt (hcell 0 zs[0] (List.getElem?_eq_getElem h0))
  have e0 : (a.add 0).block = a.block := by unfold Addr.add; split <;> rfl
  rwa [e0] at this
end
/-- The plain wrap of a row that lists variables, with the world's shape for the contract. -/
theorem returnsInHanded_shaped_and {H : Type} {enc : TypeId × Value → H} {a : Assume} {C : Checked} {os : Os} {f : FuncId} {fn : Func} {s : ChangeSpec} {conds : List PathCond} {apart fresh handsOn again : Bool} {X : World → Array Value → Prop}
    (hX : ∀ (w w' : World) (args : Array Value), w.heap = w'.heap → X w args → X w' args)
    (own : ownKnob C.prog.godebug = none) (started : os.Started) (noInit : C.prog.inits.idxOf? f = none) (hfn : C.prog.funcs[f]? = some fn)
    (witness : ∃ (w : World) (tape : Tape) (i : Input), w.os = os ∧ (w.forCall tape i).Shaped C.prog ∧ i.vars = [] ∧ Input.okWide C.prog (w.forCall tape i) .any w.heap.size f i ∧
      ((s.pre enc C.prog fn conds apart (w.forCall tape i).memory i.args ∧ X (w.forCall tape i).memory i.args) ∧ sizedMet enc C.prog fn (OpenSpec.ofChange s) apart (w.forCall tape i).memory i.args) ∧ a.holds C.prog (lone (Frame.enter C.prog f i.args .normal) [] (w.forCall tape i)))
    (contract : ∀ (W : World) (base : Nat) (args : Array Value) (ds gs : List (DataW H)) (before : List MemPlace),
      (∀ (j : Nat) t v, fn.params[j]? = some t → args[j]? = some v → Value.okWide C.prog W .any base t v) →
      DataW.Whole enc C.prog fn.params.toList s.vars apart W args.toList ds gs before → X W args → W.ShapedOpen C.prog →
      Calls C.prog f args W fun e W' => ∃ v, e = .returned v ∧ s.post enc C.prog fn apart fresh handsOn again W args v W') :
    ReturnsInHanded a C os f .any (fun w args => (s.pre enc C.prog fn conds apart w args ∧ X w args) ∧ sizedMet enc C.prog fn (OpenSpec.ofChange s) apart w args) (s.post enc C.prog fn apart fresh handsOn again) := by
  refine returnsInHanded_of_calls own started noInit witness ?_
  intro w tape i _ hsh _ hok hpre _
  obtain ⟨_, _, _, fn', hfn', _, _, _, _, hval⟩ := hok
  have e : fn' = fn := Option.some.inj (hfn'.symm.trans hfn)
  subst e
  obtain ⟨⟨⟨ds, gs, before, hw, hc⟩, hx⟩, hz⟩ := hpre
  have hw' := DataW.Whole.of_heap (w' := w.forCall tape i) (by rfl) hw
  refine (contract (w.forCall tape i) w.heap.size i.args ds gs before hval hw' (hX _ _ _ (by rfl) hx) hsh).mono fun e W' ⟨v, he, hp⟩ => ?_
  subst he
  exact ChangeSpec.post_blind hp
theorem f10_eq : (Rows.laid_internal_strconv_float64pow10 : DataW Unit) = .slice (NU.pwTab.map fun z => .lit (.float .f64 z)) [] := by kernel_rfl
theorem pow_eq : (Rows.laid_internal_strconv_uint64pow10 : DataW Unit) = Lib.tabData .u64 Lib.pow10Tab := by kernel_rfl
theorem t10_list : ∀ i : Fin 20, Lib.pow10Tab.getD i.val 0 = ((10 ^ i.val : Nat) : Int) := by decide +kernel
theorem maxL_of {W : World} (h : W.ShapedOpen Tryz.prog) : MaxL W := cell_of_shapedOpen_int (zero := #[.int .i64 0]) (t := 3) h (of_decide_eq_true (by kernel_rfl)) (by kernel_rfl) rfl (by kernel_rfl) (by kernel_rfl) Tryz.underlying3
theorem size_of_shape {W : World} (h : W.ShapedOpen Tryz.prog) : 16 < W.heap.size := by
  obtain ⟨cs, hh, _⟩ := h.1 16 #[.slice none 0 0] 249 (of_decide_eq_true (by kernel_rfl)) (by kernel_rfl)
  exact (Array.getElem?_eq_some_iff.1 hh).1
theorem p10_of {W : World} {r : List (String × DataW Unit)} (h : laidMet Tryz.prog (("internal/strconv.pow10Tab", Rows.laid_internal_strconv_pow10Tab) :: r) W) : P10 W := fun i hi => by
  have h' : laidMet Tryz.prog (("internal/strconv.pow10Tab", .agg (Go.Pinned.pow10Rows.map fun x => .agg [.lit (.int .u64 x.1), .lit (.int .u64 x.2)])) :: r) W := h
  exact laid_pairs (g := 15) h' (by kernel_rfl) (by kernel_rfl) Tryz.underlying245 Tryz.underlying244 (by kernel_rfl) (by kernel_rfl) (by kernel_rfl) (by kernel_rfl) (by kernel_rfl) (by kernel_rfl) (by kernel_rfl) (NU.tab_at hi).1
theorem f10_of {W : World} {r : List (String × DataW Unit)} (h : laidMet Tryz.prog (("internal/strconv.float64pow10", Rows.laid_internal_strconv_float64pow10) :: r) W) : F10 W := by
  rw [f10_eq] at h
  obtain ⟨a, c, h1, h2, h3⟩ := laid_floats (g := 12) h (by kernel_rfl) (by kernel_rfl) Tryz.underlying239 Tryz.underlying48 (by kernel_rfl) (by decide)
  refine ⟨a, c, h1, h2, fun i hi => ?_⟩
  rw [NU.pow_tab hi]
  have hl : NU.pwTab.length = 23 := rfl
  exact h3 i _ (by rw [List.getD_eq_getElem?_getD, List.getElem?_eq_getElem (by omega)]; rfl)
theorem i7_of {W : World} {r : List (String × DataW Unit)} (h : laidMet Tryz.prog (("internal/strconv.float64info", Rows.laid_internal_strconv_float64info) :: r) W) : I7 W :=
  laid_field0 (g := 7) h (by kernel_rfl) (by kernel_rfl) Tryz.underlying205 rfl (by kernel_rfl) (by kernel_rfl) (by kernel_rfl)
theorem opt_of {W : World} {r : List (String × DataW Unit)} (h : laidMet Tryz.prog (("internal/strconv.optimize", Rows.laid_internal_strconv_optimize) :: r) W) : W.cell? ⟨4, 0, none⟩ = some (.bool true) :=
  laid_bool (g := 4) h (by kernel_rfl) (by kernel_rfl) Tryz.underlying4
theorem tab_of {W : World} {r : List (String × DataW Unit)} (h : laidMet Tryz.prog (("internal/strconv.uint64pow10", Rows.laid_internal_strconv_uint64pow10) :: r) W) : Lib.TabIs Tryz.prog W "internal/strconv.uint64pow10" .u64 Lib.pow10Tab := by
  rw [pow_eq] at h
  exact Lib.tabIs_of_head (g := 3) (by kernel_rfl) (by kernel_rfl) Tryz.underlying174 Tryz.underlying22 (by kernel_rfl) (by kernel_rfl) h
theorem t10_of {W : World} (h : Lib.TabIs Tryz.prog W "internal/strconv.uint64pow10" .u64 Lib.pow10Tab) : T10 W := fun i hi => by
  rw [h.cell (g := 3) (by kernel_rfl) i (by show i < 20; exact hi)]
  exact congrArg (fun z => some (Value.int .u64 z)) (t10_list ⟨i, hi⟩)
theorem rng_of {W : World} {r : List (String × DataW Unit)} (h : laidMet Tryz.prog (("strconv.ErrRange", Rows.laid_strconv_ErrRange) :: r) W) : ∃ ev, W.cell? ⟨2, 0, none⟩ = some ev ∧ (ev = .nilIface ∨ ∃ te pe, ev = .iface te pe) := by
  obtain ⟨u, v, h1⟩ := laid_iface (g := 2) h (by kernel_rfl) (by kernel_rfl) Tryz.underlying75
  exact ⟨_, h1, Or.inr ⟨u, v, rfl⟩⟩
end Go.Proofs.YtlblkajnmdhmdaaGreatDoor
