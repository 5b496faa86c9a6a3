/-
  From the row's listed tables (what its condition says of them) to the facts that the walks want; the row's wrap with the world's shape.
  From the row's listed tables to the facts that the slow way of reading wants: float64info's three fields, powtab, leftcheats.
-/
import Derived.Test.YtlblkajnmdhmdaaGreatDoorZNSu
import Derived.Test.YtlblkajnmdhmdaaGreatDoorZNTab
import Derived.Test.YtlblkajnmdhmdaaGreatDoorRows
import Derived.ProofKit
import Derived.OpenShut
import Derived.LaidMore
import Derived.Stop.LaidErr
import Derived.Lib.LaidTab
import Derived.HandedShaped
import Derived.Shelf.Vars
import Derived.Test.YtlblkajnmdhmdaaGreatDoorZNGb
namespace Go.Proofs.YtlblkajnmdhmdaaGreatDoor
set_option linter.unusedVariables false
open Go.RowKit Lib Go.ChangeShapes Go.WideShapes Go.ChangeAt
section
variable {P : Program} {w : World}
theorem laid_head {n : String} {d : DataW Unit} {r : List (String × DataW Unit)} {g : Nat} {t : TypeId} (h : laidMet P ((n, d) :: r) w) (hg : P.globalNamed n = some g) (ht : (P.globals[g]?).map (·.type) = some t) :
  ∃ cs fuel p, DataW.trod (fun _ => ()) P w 0 (fun _ => true) false fuel t cs = some (d, p) ∧ ∀ i, w.cell? ⟨g, i, none⟩ = cs[i]? := by
 obtain ⟨ps, ⟨g', t', cs, fuel, p, q, hg', ht', hvar, hd, _, _⟩, _⟩ := h;obtain rfl := Option.some.inj (hg.symm.trans hg');obtain rfl := Option.some.inj (ht.symm.trans ht');exact ⟨cs.toList, fuel, p, hd, fun i => by rw [World.var?_cell hg hvar i, Array.getElem?_toList]⟩
theorem trod_float {H : Type} {enc : TypeId × Value → H} {base : Nat} {sp : Nat → Bool} {held : Bool} {fuel : Nat} {t : TypeId} {cs : List Value} {x : DataW H × List MemPlace} {k : FloatKind} (ht : P.underlying t = some (.float k)) (h : DataW.trod enc P w base sp held fuel t cs = some x) :
  ∃ b, cs = [.float k b] ∧ x.1 = .lit (.float k b) := by
 cases fuel with
 | zero => simp [DataW.trod] at h
 | succ n =>
  unfold DataW.trod at h;rw [ht] at h;split at h <;> simp_all
  obtain ⟨_, rfl⟩ := h;rfl
theorem laid_bool {n : String} {b : Bool} {r : List (String × DataW Unit)} {g : Nat} {t : TypeId} (h : laidMet P ((n, .lit (.bool b)) :: r) w) (hg : P.globalNamed n = some g) (ht : (P.globals[g]?).map (·.type) = some t) (hu : P.underlying t = some .bool) :
  w.cell? ⟨g, 0, none⟩ = some (.bool b) := by
 obtain ⟨cs, fuel, p, hd, hc⟩ := laid_head h hg ht;obtain ⟨b', rfl, hx⟩ := DataW.trod_bool hu hd;rw [hc 0];simp only [Prod.mk.injEq, DataW.lit.injEq, Lit.bool.injEq] at hx;rw [hx.1];rfl
theorem laid_iface {n nm : String} {d : DataW Unit} {r : List (String × DataW Unit)} {g : Nat} {t : TypeId} {ms : Array (String × TypeId)} (h : laidMet P ((n, .iface nm d) :: r) w) (hg : P.globalNamed n = some g) (ht : (P.globals[g]?).map (·.type) = some t) (hu : P.underlying t = some (.interface ms)) :
  ∃ u v, w.cell? ⟨g, 0, none⟩ = some (.iface u v) := by
 obtain ⟨cs, fuel, p, hd, hc⟩ := laid_head h hg ht;obtain ⟨f', u, v, rfl, _, _⟩ := iface_of_trod hu hd;exact ⟨u, v, by rw [hc 0]; rfl⟩
/-- The first field of a struct of integers. -/
theorem laid_field0 {n : String} {k : IntKind} {z : Int} {ds : List (DataW Unit)} {r : List (String × DataW Unit)} {g : Nat} {t : TypeId} {fs : Array Field} {f : Field} (h : laidMet P ((n, .agg (.lit (.int k z) :: ds)) :: r) w) (hg : P.globalNamed n = some g) (ht : (P.globals[g]?).map (·.type) = some t)
  (hu : P.underlying t = some (.struct fs)) (hf : fs[0]? = some f) (h0 : f.offset = 0) (h1 : P.cellsOf f.type = 1) (hk : P.underlying f.type = some (.int k)) : w.cell? ⟨g, 0, none⟩ = some (.int k z) := by
 obtain ⟨cs, fuel, p, hd, hc⟩ := laid_head h hg ht;obtain ⟨xs, m, rfl, hx, hl, hxl, hall⟩ := DataW.trod_struct hu hd;have h2 := hall 0 f hf;rw [h0, h1, List.drop_zero] at h2;simp only [Prod.mk.injEq, DataW.agg.injEq] at hx
 cases xs with
 | nil => simp at hx
 | cons x xs =>
  rw [List.map_cons, List.cons.injEq] at hx;obtain ⟨z', e1, e2, _⟩ := DataW.trod_int hk h2;have e3 := hx.1.1;rw [e2] at e3;simp only [DataW.lit.injEq, Lit.int.injEq, true_and] at e3;rw [hc 0, e3]
  have := congrArg (·[0]?) e1
  simpa [List.getElem?_take] using this
/-- An array of pairs of integers. -/
theorem laid_pairs {n : String} {k : IntKind} {zs : List (Nat × Nat)} {r : List (String × DataW Unit)} {g m : Nat} {t e : TypeId} {f0 f1 : Field} (h : laidMet P ((n, .agg (zs.map fun x => .agg [.lit (.int k x.1), .lit (.int k x.2)])) :: r) w) (hg : P.globalNamed n = some g) (ht : (P.globals[g]?).map (·.type) = some t)
  (hu : P.underlying t = some (.array m e)) (he : P.underlying e = some (.struct #[f0, f1])) (hc2 : P.cellsOf e = 2) (h00 : f0.offset = 0) (h01 : P.cellsOf f0.type = 1) (hk0 : P.underlying f0.type = some (.int k)) (h10 : f1.offset = 1) (h11 : P.cellsOf f1.type = 1) (hk1 : P.underlying f1.type = some (.int k))
  {i a b : Nat} (hi : zs[i]? = some (a, b)) : w.cell? ⟨g, i * 2, none⟩ = some (.int k a) ∧ w.cell? ⟨g, i * 2 + 1, none⟩ = some (.int k b) := by
 obtain ⟨cs, fuel, p, hd, hc⟩ := laid_head h hg ht;obtain ⟨xs, q, rfl, hx, hl, hxl, hall⟩ := DataW.trod_array hu hd;simp only [Prod.mk.injEq, DataW.agg.injEq] at hx
 have hzl : zs.length = m := by
  have := congrArg List.length hx.1;simp at this;omega
 have him : i < m := (by rw [← hzl]; exact (List.getElem?_eq_some_iff.1 hi).1);have h2 := hall i him;rw [hc2] at h2;have hxi : xs[i]? = some xs[i] := List.getElem?_eq_getElem (by omega);rw [hxi] at h2
 have hd2 : (xs[i]).1 = .agg [.lit (.int k a), .lit (.int k b)] := by
  have := congrArg (·[i]?) hx.1
  simp only [List.getElem?_map, hi, hxi, Option.map_some, Option.some.injEq] at this;exact this.symm
 obtain ⟨ys, q2, rfl, hy, hyl, hyl2, hall2⟩ := DataW.trod_struct he h2;rw [hy] at hd2;simp only [DataW.agg.injEq] at hd2;have g0 := hall2 0 f0 rfl;have g1 := hall2 1 f1 rfl;rw [h00, h01, List.drop_zero] at g0;rw [h10, h11] at g1
 match ys, hd2 with
 | [y0, y1], hd2 =>
  simp only [List.map_cons, List.map_nil, List.cons.injEq, and_true] at hd2;obtain ⟨z0, e0, e0', _⟩ := DataW.trod_int hk0 g0;obtain ⟨z1, e1, e1', _⟩ := DataW.trod_int hk1 g1;have d0 := hd2.1;have d1 := hd2.2;rw [e0'] at d0;rw [e1'] at d1;simp only [DataW.lit.injEq, Lit.int.injEq, true_and] at d0 d1;refine ⟨?_, ?_⟩
  ·rw [hc (i * 2), ← d0]
   have := congrArg (·[0]?) e0
   simpa [List.getElem?_take, List.getElem?_drop] using this
  ·rw [hc (i * 2 + 1), ← d1]
   have := congrArg (·[0]?) e1
   simpa [List.getElem?_take, List.getElem?_drop] using this
theorem cell_lt {a : Addr} {v : Value} (h : w.cell? a = some v) : a.block < w.heap.size := by
 apply Nat.lt_of_not_le;intro hle;unfold World.cell? at h;rw [Array.getElem?_eq_none hle] at h;cases h
/-- A slice of floats. -/
theorem laid_floats {n : String} {k : FloatKind} {zs : List Nat} {r : List (String × DataW Unit)} {g : Nat} {t e : TypeId} (h : laidMet P ((n, .slice (zs.map fun z => .lit (.float k z)) []) :: r) w) (hg : P.globalNamed n = some g) (ht : (P.globals[g]?).map (·.type) = some t)
  (hu : P.underlying t = some (.slice e)) (he : P.underlying e = some (.float k)) (hc1 : P.cellsOf e = 1) (h0 : 0 < zs.length) :
  ∃ (a : Addr) (c : Nat), w.cell? ⟨g, 0, none⟩ = some (.slice (some a) zs.length c) ∧ a.block < w.heap.size ∧ ∀ i z, zs[i]? = some z → w.cell? (a.add i) = some (.float k z) := by
 obtain ⟨cs, fuel, p, hd, hc⟩ := laid_head h hg ht;obtain ⟨a, cap, rfl, hl, hall⟩ := open_row hu hc1 hd
 have hcell : ∀ i z, zs[i]? = some z → w.cell? (a.add i) = some (.float k z) := fun i z hz => by
  obtain ⟨v, n, q, h1, h2⟩ := hall i (.lit (.float k z)) (by rw [List.getElem?_map, hz]; rfl);obtain ⟨b, h3, h4⟩ := trod_float he h2;simp only [List.cons.injEq, and_true] at h3;simp only [DataW.lit.injEq, Lit.float.injEq, true_and] at h4;rw [h1, h3, h4]
 refine ⟨a, cap, by rw [hc 0]; simp, ?_, hcell⟩;have := cell_lt (hcell 0 zs[0] (List.getElem?_eq_getElem h0));have e0 : (a.add 0).block = a.block := (by unfold Addr.add; split <;> rfl)
 rwa [e0] at this
end
/-- The plain wrap of a row that lists variables, with the world's shape for the contract. -/
theorem returnsInHanded_shaped_and {H : Type} {enc : TypeId × Value → H} {a : Assume} {C : Checked} {os : Os} {f : FuncId} {fn : Func} {s : ChangeSpec} {conds : List PathCond} {apart fresh handsOn again : Bool} {X : World → Array Value → Prop}
  (hX : ∀ (w w' : World) (args : Array Value), w.heap = w'.heap → X w args → X w' args)
  (own : ownKnob C.prog.godebug = none) (started : os.Started) (noInit : C.prog.inits.idxOf? f = none) (hfn : C.prog.funcs[f]? = some fn)
  (witness : ∃ (w : World) (tape : Tape) (i : Input), w.os = os ∧ (w.forCall tape i).Shaped C.prog ∧ i.vars = [] ∧ Input.okWide C.prog (w.forCall tape i) .any w.heap.size f i ∧
   ((s.pre enc C.prog fn conds apart (w.forCall tape i).memory i.args ∧ X (w.forCall tape i).memory i.args) ∧ sizedMet enc C.prog fn (OpenSpec.ofChange s) apart (w.forCall tape i).memory i.args) ∧ a.holds C.prog (lone (Frame.enter C.prog f i.args .normal) [] (w.forCall tape i)))
  (contract : ∀ (W : World) (base : Nat) (args : Array Value) (ds gs : List (DataW H)) (before : List MemPlace),
   (∀ (j : Nat) t v, fn.params[j]? = some t → args[j]? = some v → Value.okWide C.prog W .any base t v) →
   DataW.Whole enc C.prog fn.params.toList s.vars apart W args.toList ds gs before → X W args → W.ShapedOpen C.prog →
   Calls C.prog f args W fun e W' => ∃ v, e = .returned v ∧ s.post enc C.prog fn apart fresh handsOn again W args v W') :
  ReturnsInHanded a C os f .any (fun w args => (s.pre enc C.prog fn conds apart w args ∧ X w args) ∧ sizedMet enc C.prog fn (OpenSpec.ofChange s) apart w args) (s.post enc C.prog fn apart fresh handsOn again) := by
 refine returnsInHanded_of_calls own started noInit witness ?_;intro w tape i _ hsh _ hok hpre _;obtain ⟨_, _, _, fn', hfn', _, _, _, _, hval⟩ := hok;have e : fn' = fn := Option.some.inj (hfn'.symm.trans hfn);subst e;obtain ⟨⟨⟨ds, gs, before, hw, hc⟩, hx⟩, hz⟩ := hpre;have hw' := DataW.Whole.of_heap (w' := w.forCall tape i) (by rfl) hw;refine (contract (w.forCall tape i) w.heap.size i.args ds gs before hval hw' (hX _ _ _ (by rfl) hx) hsh).mono fun e W' ⟨v, he, hp⟩ => ?_;subst he;exact ChangeSpec.post_blind hp
/-- The row's last step where of the world behind the call it is known that what was there stands. -/
theorem post_below {H : Type} {enc : TypeId × Value → H} {P : Program} {f : Func} {s : ChangeSpec} {apart fresh handsOn again : Bool} {W W' : World} {args : Array Value} {v : Value} {ds gs : List (DataW H)} {before pa pv : List MemPlace}
  (hW : DataW.Whole enc P f.params.toList s.vars apart W args.toList ds gs before)
  (hres : ∀ (b : Nat) (sp : Nat → Bool) (hd : Bool), DataW.TrodAll enc P W' b sp hd f.resultTypes.toList (v.resultList f.resultTypes.size) (s.fn H (ds ++ gs)).results [])
  (hargs : ∀ sp : Nat → Bool, (∀ p ∈ before, sp p.block = true) → DataW.TrodAll enc P W' 0 sp true f.params.toList args.toList (s.fn H (ds ++ gs)).args pa)
  (hvars : ∀ sp : Nat → Bool, (∀ p ∈ before, sp p.block = true) → DataW.TrodVars enc P W' sp s.vars (s.fn H (ds ++ gs)).vars pv)
  (hps : before = pa ++ pv) (hb : Below W.heap.size W W')
  (hok : ∀ (j : Nat) (t : TypeId) (r : Value), f.resultTypes[j]? = some t → (v.resultList f.resultTypes.size)[j]? = some r → Value.okWide P W' .any 0 t r) :
  s.post enc P f apart fresh handsOn again W args v W' := by
 have hin : ∀ p ∈ before, p.block < W.heap.size := fun p hp => hW.lt p hp;subst hps;have hz0 := hW;obtain ⟨_, _, _, _, _, hz, hn⟩ := hz0
 refine ⟨ds, gs, pa ++ pv, [], pa, pv, hW, hres _ _ _, hargs _ fun p hp => decide_eq_true (hin p hp), hvars _ fun p hp => decide_eq_true (hin p hp), World.keptBut_mono (fun p hp => ⟨hp, Or.inr (List.mem_append.1 hp)⟩) (hb.frame (· ∈ pa ++ pv)), fun _ => ?_⟩
 refine ⟨hok, _, _, ([] ++ pa) ++ pv, ⟨[] ++ pa, pv, trodAll_append (hargs _ (fun _ _ => rfl)) (hres _ _ _), hvars _ (fun _ _ => rfl), rfl, fun b off hp => ?_, fun ha => ?_⟩, fun p hp _ => ?_⟩
 ·have hp' : MemPlace.cell b off ∈ pa ++ pv := (by simpa using hp);exact (hb.frozen (hin _ hp')).trans (hz b off hp')
 ·simpa using hn ha
 ·simpa using hp
theorem f10_eq : (Rows.laid_internal_strconv_float64pow10 : DataW Unit) = .slice (NU.pwTab.map fun z => .lit (.float .f64 z)) [] := by kernel_rfl
theorem pow_eq : (Rows.laid_internal_strconv_uint64pow10 : DataW Unit) = Lib.tabData .u64 Lib.pow10Tab := by kernel_rfl
theorem size_of_shape {W : World} (h : W.ShapedOpen Tryz.prog) : 16 < W.heap.size := by
 obtain ⟨cs, hh, _⟩ := h.1 16 #[.slice none 0 0] 249 (of_decide_eq_true (by kernel_rfl)) (by kernel_rfl);exact (Array.getElem?_eq_some_iff.1 hh).1
theorem p10_of {W : World} {r : List (String × DataW Unit)} (h : laidMet Tryz.prog (("internal/strconv.pow10Tab", Rows.laid_internal_strconv_pow10Tab) :: r) W) : P10 W := fun i hi => by
 have h' : laidMet Tryz.prog (("internal/strconv.pow10Tab", .agg (Go.Pinned.pow10Rows.map fun x => .agg [.lit (.int .u64 x.1), .lit (.int .u64 x.2)])) :: r) W := h;exact laid_pairs (g := 15) h' (by kernel_rfl) (by kernel_rfl) Tryz.underlying245 Tryz.underlying244 (by kernel_rfl) (by kernel_rfl) (by kernel_rfl) (by kernel_rfl) (by kernel_rfl) (by kernel_rfl) (by kernel_rfl) (NU.tab_at hi).1
theorem f10_of {W : World} {r : List (String × DataW Unit)} (h : laidMet Tryz.prog (("internal/strconv.float64pow10", Rows.laid_internal_strconv_float64pow10) :: r) W) : F10 W := by
 rw [f10_eq] at h;obtain ⟨a, c, h1, h2, h3⟩ := laid_floats (g := 12) h (by kernel_rfl) (by kernel_rfl) Tryz.underlying239 Tryz.underlying48 (by kernel_rfl) (by decide);refine ⟨a, c, h1, h2, fun i hi => ?_⟩;rw [NU.pow_tab hi];have hl : NU.pwTab.length = 23 := rfl;exact h3 i _ (by rw [List.getD_eq_getElem?_getD, List.getElem?_eq_getElem (by omega)]; rfl)
theorem i7_of {W : World} {r : List (String × DataW Unit)} (h : laidMet Tryz.prog (("internal/strconv.float64info", Rows.laid_internal_strconv_float64info) :: r) W) : I7 W :=
 laid_field0 (g := 7) h (by kernel_rfl) (by kernel_rfl) Tryz.underlying205 rfl (by kernel_rfl) (by kernel_rfl) (by kernel_rfl)
theorem opt_of {W : World} {r : List (String × DataW Unit)} (h : laidMet Tryz.prog (("internal/strconv.optimize", Rows.laid_internal_strconv_optimize) :: r) W) : W.cell? ⟨4, 0, none⟩ = some (.bool true) :=
 laid_bool (g := 4) h (by kernel_rfl) (by kernel_rfl) Tryz.underlying4
theorem tab_of {W : World} {r : List (String × DataW Unit)} (h : laidMet Tryz.prog (("internal/strconv.uint64pow10", Rows.laid_internal_strconv_uint64pow10) :: r) W) : Lib.TabIs Tryz.prog W "internal/strconv.uint64pow10" .u64 Lib.pow10Tab := by
 rw [pow_eq] at h;exact Lib.tabIs_of_head (g := 3) (by kernel_rfl) (by kernel_rfl) Tryz.underlying174 Tryz.underlying22 (by kernel_rfl) (by kernel_rfl) h
theorem rng_of {W : World} {r : List (String × DataW Unit)} (h : laidMet Tryz.prog (("strconv.ErrRange", Rows.laid_strconv_ErrRange) :: r) W) : ∃ ev, W.cell? ⟨2, 0, none⟩ = some ev ∧ (ev = .nilIface ∨ ∃ te pe, ev = .iface te pe) := by
 obtain ⟨u, v, h1⟩ := laid_iface (g := 2) h (by kernel_rfl) (by kernel_rfl) Tryz.underlying75;exact ⟨_, h1, Or.inr ⟨u, v, rfl⟩⟩
end Go.Proofs.YtlblkajnmdhmdaaGreatDoor
namespace Go.Proofs.YtlblkajnmdhmdaaGreatDoor
set_option linter.unusedVariables false
open Go.RowKit Lib Go.ChangeShapes Go.WideShapes Go.ChangeAt
section
variable {P : Program} {w : World}
/-- A slice of integers. -/
theorem laid_ints {n : String} {k : IntKind} {zs : List Int} {r : List (String × DataW Unit)} {g : Nat} {t e : TypeId} (h : laidMet P ((n, .slice (zs.map fun z => .lit (.int k z)) []) :: r) w) (hg : P.globalNamed n = some g) (ht : (P.globals[g]?).map (·.type) = some t)
  (hu : P.underlying t = some (.slice e)) (he : P.underlying e = some (.int k)) (hc1 : P.cellsOf e = 1) (h0 : 0 < zs.length) :
  ∃ (a : Addr) (c : Nat), w.cell? ⟨g, 0, none⟩ = some (.slice (some a) zs.length c) ∧ a.block < w.heap.size ∧ ∀ i z, zs[i]? = some z → w.cell? (a.add i) = some (.int k z) := by
 obtain ⟨cs, fuel, p, hd, hc⟩ := laid_head h hg ht;obtain ⟨a, cap, rfl, hl, hall⟩ := open_row hu hc1 hd
 have hcell : ∀ i z, zs[i]? = some z → w.cell? (a.add i) = some (.int k z) := fun i z hz => by
  obtain ⟨v, n, q, h1, h2⟩ := hall i (.lit (.int k z)) (by rw [List.getElem?_map, hz]; rfl);obtain ⟨b, h3, h4, _⟩ := DataW.trod_int he h2;simp only [List.cons.injEq, and_true] at h3;simp only [Prod.mk.injEq, DataW.lit.injEq, Lit.int.injEq, true_and] at h4;rw [h1, h3, h4.1]
 refine ⟨a, cap, by rw [hc 0]; simp, ?_, hcell⟩;have := cell_lt (hcell 0 zs[0] (List.getElem?_eq_getElem h0))
 rwa [block_add] at this
/-- Three fields of one cell each. -/
theorem laid_three {n : String} {k0 k1 k2 : IntKind} {z0 z1 z2 : Int} {r : List (String × DataW Unit)} {g : Nat} {t : TypeId} {x0 x1 x2 : Field} (h : laidMet P ((n, .agg [.lit (.int k0 z0), .lit (.int k1 z1), .lit (.int k2 z2)]) :: r) w) (hg : P.globalNamed n = some g) (ht : (P.globals[g]?).map (·.type) = some t)
  (hu : P.underlying t = some (.struct #[x0, x1, x2])) (o0 : x0.offset = 0) (o1 : x1.offset = 1) (o2 : x2.offset = 2) (s0 : P.cellsOf x0.type = 1) (s1 : P.cellsOf x1.type = 1) (s2 : P.cellsOf x2.type = 1)
  (t0 : P.underlying x0.type = some (.int k0)) (t1 : P.underlying x1.type = some (.int k1)) (t2 : P.underlying x2.type = some (.int k2)) :
  w.cell? ⟨g, 0, none⟩ = some (.int k0 z0) ∧ w.cell? ⟨g, 1, none⟩ = some (.int k1 z1) ∧ w.cell? ⟨g, 2, none⟩ = some (.int k2 z2) := by
 obtain ⟨cs, fuel, p, hd, hc⟩ := laid_head h hg ht;obtain ⟨xs, m, rfl, hx, hl, hxl, hall⟩ := DataW.trod_struct hu hd;simp only [Prod.mk.injEq, DataW.agg.injEq] at hx;have g0 := hall 0 x0 rfl;have g1 := hall 1 x1 rfl;have g2 := hall 2 x2 rfl;rw [o0, s0] at g0;rw [o1, s1] at g1;rw [o2, s2] at g2
 match xs, hx with
 | [y0, y1, y2], hx =>
  simp only [List.map_cons, List.map_nil, List.cons.injEq, and_true] at hx;obtain ⟨a0, e0, f0, _⟩ := DataW.trod_int t0 g0;obtain ⟨a1, e1, f1, _⟩ := DataW.trod_int t1 g1;obtain ⟨a2, e2, f2, _⟩ := DataW.trod_int t2 g2;obtain ⟨⟨d0, d1, d2⟩, _⟩ := hx;rw [f0] at d0;rw [f1] at d1;rw [f2] at d2;simp only [DataW.lit.injEq, Lit.int.injEq, true_and] at d0 d1 d2;refine ⟨?_, ?_, ?_⟩
  ·rw [hc 0, d0]
   have := congrArg (·[0]?) e0
   simpa [List.getElem?_take, List.getElem?_drop] using this
  ·rw [hc 1, d1]
   have := congrArg (·[0]?) e1
   simpa [List.getElem?_take, List.getElem?_drop] using this
  ·rw [hc 2, d2]
   have := congrArg (·[0]?) e2
   simpa [List.getElem?_take, List.getElem?_drop] using this
/-- A slice of pairs: an integer and a string. -/
theorem laid_cheats {n : String} {k : IntKind} {zs : List (Nat × List UInt8)} {r : List (String × DataW Unit)} {g : Nat} {t e : TypeId} {x0 x1 : Field} (h : laidMet P ((n, .slice (zs.map fun x => .agg [.lit (.int k x.1), .lit (.string x.2)]) []) :: r) w) (hg : P.globalNamed n = some g) (ht : (P.globals[g]?).map (·.type) = some t)
  (hu : P.underlying t = some (.slice e)) (he : P.underlying e = some (.struct #[x0, x1])) (hc2 : P.cellsOf e = 2) (o0 : x0.offset = 0) (o1 : x1.offset = 1) (s0 : P.cellsOf x0.type = 1) (s1 : P.cellsOf x1.type = 1)
  (t0 : P.underlying x0.type = some (.int k)) (t1 : P.underlying x1.type = some .string) (h0 : 0 < zs.length) :
  ∃ (a : Addr) (c : Nat), w.cell? ⟨g, 0, none⟩ = some (.slice (some a) zs.length c) ∧ a.block < w.heap.size ∧ ∀ (i d : Nat) (bs : List UInt8), zs[i]? = some (d, bs) → w.cell? (a.add (i * 2)) = some (.int k d) ∧ w.cell? ⟨(a.add (i * 2)).block, (a.add (i * 2)).off + 1, none⟩ = some (.string ⟨bs.toArray⟩) := by
 obtain ⟨cs, fuel, p, hd, hc⟩ := laid_head h hg ht
 rcases DataW.trod_slice hu hd with ⟨_, hx⟩ | ⟨a, len, cap, elems, rest, m, _, hcs, hx, _, hl, _, hlen, hel, _⟩
 ·simp at hx
 ·simp only [Prod.mk.injEq, DataW.slice.injEq] at hx;obtain ⟨⟨hx, _⟩, _⟩ := hx
  have hzl : zs.length = len := by
   have := congrArg List.length hx;simp at this;omega
  have hcell : ∀ (i d : Nat) (bs : List UInt8), zs[i]? = some (d, bs) → w.cell? (a.add (i * 2)) = some (.int k d) ∧ w.cell? ⟨(a.add (i * 2)).block, (a.add (i * 2)).off + 1, none⟩ = some (.string ⟨bs.toArray⟩) := fun i d bs hz => by
   have hi : i < len := (by rw [← hzl]; exact (List.getElem?_eq_some_iff.1 hz).1);have hE := hel i hi;rw [hc2] at hE;have hxi : elems[i]? = some elems[i] := List.getElem?_eq_getElem (by omega);rw [hxi] at hE
   have hd2 : (elems[i]).1 = .agg [.lit (.int k d), .lit (.string bs)] := by
    have := congrArg (·[i]?) hx
    simp only [List.getElem?_map, hz, hxi, Option.map_some, Option.some.injEq] at this;exact this.symm
   simp only [Option.bind_eq_some_iff] at hE;obtain ⟨c1, hc1, hy1⟩ := hE;have e0 : (a.add (i * 2)).add 0 = a.add (i * 2) := (by simp [Addr.add]);have e1 : (a.add (i * 2)).add 1 = ⟨(a.add (i * 2)).block, (a.add (i * 2)).off + 1, none⟩ := (by simp [Addr.add])
   have hcc : ∃ v0 v1, c1 = [v0, v1] ∧ w.cell? (a.add (i * 2)) = some v0 ∧ w.cell? ⟨(a.add (i * 2)).block, (a.add (i * 2)).off + 1, none⟩ = some v1 := by
    unfold World.cells? at hc1;split at hc1
    ·simp only [List.range_succ, List.range_zero, List.nil_append, List.cons_append, List.mapM_cons, List.mapM_nil, e0, e1] at hc1
     cases hc0 : w.cell? (a.add (i * 2)) with
     | none => simp [hc0] at hc1
     | some v0 =>
      cases hc1' : w.cell? ⟨(a.add (i * 2)).block, (a.add (i * 2)).off + 1, none⟩ with
      | none => simp [hc0, hc1'] at hc1
      | some v1 =>
       simp [hc0, hc1'] at hc1;exact ⟨v0, v1, hc1.symm, rfl, rfl⟩
    ·cases hc1
   obtain ⟨v0, v1, rfl, q0, q1⟩ := hcc;obtain ⟨ys, q2, hyv, hy, hyl, hyl2, hall2⟩ := DataW.trod_struct he hy1;rw [hy] at hd2;simp only [DataW.agg.injEq] at hd2;have g0 := hall2 0 x0 rfl;have g1 := hall2 1 x1 rfl;rw [o0, s0] at g0;rw [o1, s1] at g1
   match ys, hd2 with
   | [y0, y1], hd2 =>
    simp only [List.map_cons, List.map_nil, List.cons.injEq, and_true] at hd2;obtain ⟨u0, p0, p0', _⟩ := DataW.trod_int t0 g0;obtain ⟨u1, p1, p1', _⟩ := DataW.trod_string t1 g1;obtain ⟨d0, d1⟩ := hd2;rw [p0'] at d0;rw [p1'] at d1;simp only [DataW.lit.injEq, Lit.int.injEq, Lit.string.injEq, true_and] at d0 d1
    have e0' := congrArg (·[0]?) p0
    have e1' := congrArg (·[0]?) p1
    simp at e0' e1';refine ⟨by rw [q0, e0', d0], ?_⟩;rw [q1, e1', ← d1]
  refine ⟨a, cap, by rw [hc 0, hcs, hzl]; rfl, ?_, hcell⟩;obtain ⟨⟨d, bs⟩, hz⟩ : ∃ x, zs[0]? = some x := ⟨zs[0], List.getElem?_eq_getElem h0⟩;have := cell_lt (hcell 0 d bs hz).1
  rwa [block_add] at this
end
/-- A row of the table of left shifts is right. -/
def cheatOk (k : Nat) : Bool := match Go.Pinned.cheatRows[k]? with
 | some (d, bs) => decide (5 ^ k < 10 ^ bs.length) && decide (10 ^ (bs.length - 1) ≤ 5 ^ k) && decide (1 ≤ bs.length ∧ bs.length ≤ k ∧ d + bs.length = k + 1) && decide (5 ^ k % 10 ≠ 0) && (List.range bs.length).all fun i => (bs.getD i 0).toNat == 48 + 5 ^ k / 10 ^ (bs.length - 1 - i) % 10
 | none => false
theorem cheat_all : ∀ k : Fin 60, cheatOk (k.val + 1) = true := by decide +kernel
theorem cheat_row {k : Nat} (h1 : 1 ≤ k) (h2 : k ≤ 60) : ∃ d bs, Go.Pinned.cheatRows[k]? = some (d, bs) ∧ DigS ⟨bs.toArray⟩ (5 ^ k) bs.length ∧ 10 ^ (bs.length - 1) ≤ 5 ^ k ∧ 1 ≤ bs.length ∧ bs.length ≤ k ∧ d + bs.length = k + 1 := by
 have h := cheat_all ⟨k - 1, by omega⟩;rw [show k - 1 + 1 = k by omega] at h;unfold cheatOk at h;split at h
 ·rename_i d bs hz
  simp only [Bool.and_eq_true, decide_eq_true_eq, List.all_eq_true, List.mem_range, beq_iff_eq] at h;obtain ⟨⟨⟨⟨a1, a2⟩, a3⟩, a4⟩, a5⟩ := h;refine ⟨d, bs, hz, ⟨rfl, fun i hi => ?_, a1, a4⟩, a2, a3⟩;have hi' : i < bs.length := hi;have := a5 i hi';rw [List.getD_eq_getElem?_getD, List.getElem?_eq_getElem hi'] at this;exact this
 ·cases h
theorem pt_eq : (Rows.laid_internal_strconv_powtab : DataW Unit) = .slice (([1, 3, 6, 9, 13, 16, 19, 23, 26] : List Int).map fun z => .lit (.int .i64 z)) [] := by kernel_rfl
theorem pt_list : ∀ i : Fin 9, ([1, 3, 6, 9, 13, 16, 19, 23, 26] : List Int)[i.val]? = some ((powT i.val : Nat) : Int) := by decide
theorem slow_of {W : World} {r1 r2 r3 : List (String × DataW Unit)} (hs : 16 < W.heap.size)
  (h1 : laidMet Tryz.prog (("internal/strconv.float64info", Rows.laid_internal_strconv_float64info) :: r1) W)
  (h2 : laidMet Tryz.prog (("internal/strconv.powtab", Rows.laid_internal_strconv_powtab) :: r2) W)
  (h3 : laidMet Tryz.prog (("internal/strconv.leftcheats", Rows.laid_internal_strconv_leftcheats) :: r3) W) : SlowT W W.heap.size := by
 obtain ⟨m0, m1, m2⟩ := laid_three (g := 7) h1 (by kernel_rfl) (by kernel_rfl) Tryz.underlying205 rfl rfl rfl (by kernel_rfl) (by kernel_rfl) (by kernel_rfl) (by kernel_rfl) (by kernel_rfl) (by kernel_rfl);rw [pt_eq] at h2;obtain ⟨a, c, p1, p2, p3⟩ := laid_ints (g := 11) h2 (by kernel_rfl) (by kernel_rfl) Tryz.underlying67 Tryz.underlying3 (by kernel_rfl) (by decide);have h3' : laidMet Tryz.prog (("internal/strconv.leftcheats", .slice (Go.Pinned.cheatRows.map fun x => .agg [.lit (.int .i64 x.1), .lit (.string x.2)]) []) :: r3) W := h3;obtain ⟨b, c', q1, q2, q3⟩ := laid_cheats (g := 16) h3' (by kernel_rfl) (by kernel_rfl) Tryz.underlying249 Tryz.underlying248 (by kernel_rfl) rfl rfl (by kernel_rfl) (by kernel_rfl) (by kernel_rfl) (by kernel_rfl) (by decide);refine ⟨⟨hs, fun k k1 k2 => ?_⟩, m0, m1, m2, a, c, p1, p2, fun i hi => ⟨block_add _ _, p3 i _ (pt_list ⟨i, hi⟩)⟩⟩;obtain ⟨d, bs, hz, hdig, hlo, hl1, hl2, hl3⟩ := cheat_row k1 k2;obtain ⟨z1, z2⟩ := q3 k d bs hz;exact ⟨b, c', d, bs.length, ⟨bs.toArray⟩, ⟨q1, z1, z2, hdig, hlo, hl1, hl2, hl3⟩, q2, block_add _ _⟩
end Go.Proofs.YtlblkajnmdhmdaaGreatDoor
