/-
  Walk: the reference's l10Fill comes to the plain words fillP and okP.
  Walk: the program's replOk comes to the plain word okP.
-/
import Derived.Test.YtpinoolagbghnaaDoorZByteApp
import Derived.Test.YtpinoolagbghnaaDoorZFillP
import Derived.Test.YtpinoolagbghnaaDoorZBytes
import Derived.Test.YtpinoolagbghnaaDoorZItemSingle
import Derived.StillTailTactics
namespace Go.Proofs.YtpinoolagbghnaaDoor
set_option linter.unusedVariables false
open Go.RowKit Pat

/-- A slice of captures that reads as so many captures. -/
def MtAt (w : World) (aa : Option Addr) (l : List (Bool × Nat × Nat)) : Prop := ∀ (k : Nat) (b : Bool) (f t : Nat), l[k]? = some (b, f, t) → ∃ g, aa = some ⟨g, 0, none⟩ ∧ g < w.heap.size ∧
  w.cell? ⟨g, k * 3, none⟩ = some (.bool b) ∧ w.cell? ⟨g, k * 3 + 1, none⟩ = some (.int .i64 f) ∧ w.cell? ⟨g, k * 3 + 2, none⟩ = some (.int .i64 t)

theorem MtAt.keeps {w w' : World} {B : Nat} {S : List Nat} {aa : Option Addr} {l : List (Bool × Nat × Nat)} (h : MtAt w aa l) (hk : Keeps B S w w') (hB : w.heap.size ≤ B) (hS : ∀ k ∈ S, ∀ g, aa = some ⟨g, 0, none⟩ → k ≠ g) : MtAt w' aa l := fun k b f t hl => by
  obtain ⟨g, h1, h2, h3, h4, h5⟩ := h k b f t hl
  have key : ∀ j, w'.cell? ⟨g, j, none⟩ = w.cell? ⟨g, j, none⟩ := fun j => hk.cell (p := ⟨g, j, none⟩) (by dsimp only; omega) (fun hm => hS _ hm g h1 rfl)
  exact ⟨g, h1, Nat.lt_of_lt_of_le h2 hk.size, (key _).trans h3, (key _).trans h4, (key _).trans h5⟩

/-- What l10Fill answers. -/
def FillPost (T : List UInt8) (ok : Bool) (w : World) (e : Ending) (w' : World) : Prop :=
  Keeps w.heap.size [] w w' ∧ ((ok = true ∧ e = .returned (.tuple #[.string ⟨T.toArray⟩, .bool true])) ∨ (ok = false ∧ e = .returned (.tuple #[.string ⟨#[]⟩, .bool false])))

namespace Pat
section
variable {s r : ByteArray} {caps k k1 fu : Nat} {m : Mt} {acc pc T : List UInt8} {ok : Bool}
theorem fill_next (hlt : k < r.size) (hc : bt r k = 37) (hk1 : k1 = k + 1) (h1 : k1 < r.size) (hp : pieceP s caps m (bt r k1) = pc) (hok : okD caps (bt r k1) = true)
    (HF : r.size < fu + 1 + k ∧ acc ++ fillP s r caps m (fu + 1) k = T ∧ okP r caps (fu + 1) k = ok) : r.size < fu + (k1 + 1) ∧ (acc ++ pc) ++ fillP s r caps m fu (k1 + 1) = T ∧ okP r caps fu (k1 + 1) = ok := by
  subst hk1
  obtain ⟨a1, a2, a3⟩ := HF
  rw [fillP_esc hlt hc, hp] at a2
  rw [okP_esc hlt hc h1, hok, Bool.true_and] at a3
  exact ⟨by omega, by rw [← a2, List.append_assoc], a3⟩
theorem fill_bad (hlt : k < r.size) (hc : bt r k = 37) (hk1 : k1 = k + 1) (h1 : k1 < r.size) (hok : okD caps (bt r k1) = false) (HF : r.size < fu + 1 + k ∧ acc ++ fillP s r caps m (fu + 1) k = T ∧ okP r caps (fu + 1) k = ok) : ok = false := by
  subst hk1
  obtain ⟨a1, a2, a3⟩ := HF
  rw [okP_esc hlt hc h1, hok, Bool.false_and] at a3
  exact a3.symm
theorem okD_37 : okD caps 37 = true := rfl
theorem okD_sub {d : Int} (h : d = 48 ∨ (d = 49 ∧ caps = 0)) : okD caps d = true := by
  unfold okD
  rcases h with rfl | ⟨rfl, rfl⟩
  · simp
  · simp
theorem okD_cap {d : Int} (h1 : 49 ≤ d) (h2 : d ≤ 57) (h3 : d - 49 < caps) : okD caps d = true := by
  unfold okD
  rw [decide_eq_true h1, decide_eq_true h2, decide_eq_true (p := d - 48 ≤ (caps : Int)) (by omega)]
  simp
theorem okD_no {d : Int} (h0 : d ≠ 37) (h1 : ¬ (d = 48 ∨ (d = 49 ∧ caps = 0))) (h2 : d < 49 ∨ 57 < d ∨ (caps : Int) ≤ d - 49) : okD caps d = false := by
  unfold okD
  simp only [Bool.or_eq_false_iff, Bool.and_eq_false_iff, decide_eq_false_iff_not]
  omega
theorem piece_37 : pieceP s caps m 37 = [37] := rfl
theorem piece_sub {d : Int} (h : d = 48 ∨ (d = 49 ∧ caps = 0)) : pieceP s caps m d = sub s m.a m.e := by
  unfold pieceP
  rw [if_neg (by omega), if_pos h]
theorem piece_cap {d : Int} {j : Nat} (h1 : d - 49 = j) (h2 : ¬ (d = 48 ∨ (d = 49 ∧ caps = 0))) : pieceP s caps m d = match m.caps[j]? with | none => [] | some (true, f, _) => Lib.itoa ((f : Int) + 1) | some (false, f, t) => sub s f t := by
  unfold pieceP
  rw [if_neg (by omega), if_neg h2, show (d - 49).toNat = j by omega]
  rfl
end
end Pat

theorem box_facts {w : World} {b : Nat} {a x y : Value} (h : w.heap[b]? = some (.cells #[a, x, y] 32 (0, 0))) :
    w.cell? ⟨b, 0, none⟩ = some a ∧ w.cell? ⟨b, 1, none⟩ = some x ∧ w.cell? ⟨b, 2, none⟩ = some y := ⟨blk_cell h 0, blk_cell h 1, blk_cell h 2⟩

set_option maxRecDepth 100000 in
set_option maxHeartbeats 8000000 in
theorem fillS_any {s r : ByteArray} {m : Mt} {caps ca : Nat} {aa : Option Addr} {w : World} (hs : s.size ≤ 65536) (hr : r.size ≤ 1048576) (hcp : caps ≤ 16) (hl : m.caps.length ≤ 16) (hm : MtOk s m.caps.length m) (ha : MtAt w aa m.caps) :
    Calls Tryd.prog 7 #[.string s, .string r, .agg #[.int .i64 m.a, .int .i64 m.e, .slice aa m.caps.length ca], .int .i64 caps] w fun e w' => FillPost (fillP s r caps m (r.size + 1) 0) (okP r caps (r.size + 1) 0) w e w' := by
  obtain ⟨T, hT⟩ : ∃ T, fillP s r caps m (r.size + 1) 0 = T := ⟨_, rfl⟩
  obtain ⟨ok, hok⟩ : ∃ ok, okP r caps (r.size + 1) 0 = ok := ⟨_, rfl⟩
  rw [hT, hok]
  have HT := hid hT
  have HOK := hid hok
  have HA := hid ha
  clear hT hok ha
  have hmI : (0 : Int) ≤ m.a ∧ (m.a : Int) ≤ m.e ∧ (m.e : Int) ≤ s.size := by have := hm.ae; have := hm.es; omega
  obtain ⟨W0, hW0⟩ : ∃ W0, W0 = w.alloc (.cells #[.int .i64 m.a, .int .i64 m.e, .slice aa m.caps.length ca] 32) := ⟨_, rfl⟩
  have hb0 : W0.heap[w.heap.size]? = some (.cells #[.int .i64 m.a, .int .i64 m.e, .slice aa m.caps.length ca] 32 (0, 0)) := by rw [hW0]; exact blk_new _ _
  have hs0 : W0.heap.size = w.heap.size + 1 := by rw [hW0, World.size_alloc]
  have hk0 : Keeps w.heap.size [] w W0 := by rw [hW0]; exact (Keeps.refl _ _ _).alloc (Nat.le_refl _) _
  have HA0 := hid (HA.out.keeps hk0 (Nat.le_refl _) (by simp))
  have HW0 := hid hW0
  clear hW0 HA
  go_enter Tryd.func7, Tryd.ntmps7
  go_upto_region 1 with fail
  rw [← HW0.out]
  go_wp2_with fail
  go_loopw [10, 11] (fun v kv wr => ∃ (k : Nat) (acc : List UInt8) (ao : Option Addr) (n cap fu : Nat), kv = .int .i64 k ∧ k ≤ r.size ∧ v = .slice ao n cap ∧ n = acc.length ∧ ByteOwn wr (w.heap.size + 1) (.slice ao n cap) acc ∧ Keeps (w.heap.size + 1) [] W0 wr ∧
    Hid (r.size < fu + k ∧ acc ++ fillP s r caps m fu k = T ∧ okP r caps fu k = ok) ∧ acc.length ≤ 65560 * k) (fun _ kv _ => r.size - (intOf kv).toNat)
  case atStart =>
    refine ⟨0, [], _, _, _, r.size + 1, rfl, Nat.zero_le _, rfl, rfl, ?_, (Keeps.refl _ _ _).alloc (by omega) _, hid ⟨by omega, HT.out, HOK.out⟩, by simp⟩
    have := World.ownsRow_lit (base := w.heap.size + 1) (e := 5) (size := 1) W0 #[] 0 (by omega) (by unfold maxLen; omega) rfl
    rw [hs0] at this
    exact this
  case round =>
    obtain ⟨k, acc, ao, n, cap, fu, rfl, hk, rfl, hn, hown, hkw, HF, hacc⟩ := hrel
    have HNL := hid hn
    have hnI : n ≤ 65560 * k := by omega
    clear hn
    have hbr := hkw.blk hb0 (by omega) (by simp)
    have hbl := hkw.size
    obtain ⟨f0, f1, f2⟩ := box_facts hbr
    have HO := hid hown
    have HK := hid hkw
    clear hown hkw hbr
    by_cases hlt : k < r.size
    · obtain ⟨fu', rfl⟩ : ∃ x, fu = x + 1 := ⟨fu - 1, by have := HF.out.1; omega⟩
      have hcb := bt_of_lt hlt
      have h1 : (0 : Int) ≤ k ∧ (k : Int) < r.size := ⟨by omega, by omega⟩
      by_cases hc : bt r k = 37
      · have z1 : ((r[k].toNat : Int) != 37) = false := by rw [hcb] at hc; simpa using hc
        obtain ⟨k1, hk1⟩ : ∃ k1 : Nat, k1 = k + 1 := ⟨_, rfl⟩
        have HK1 := hid hk1
        have hkI : (0 : Int) ≤ k1 ∧ (k1 : Int) ≤ 1048577 := ⟨by omega, by omega⟩
        have hk1s : k1 ≤ r.size := by omega
        have hcc := hid hc
        clear hc hcb hk1
        go_upto_region 7 with fail
        go_cut [11] from 30 to 32 (fun v wx => v = .int .i64 (k1 : Int) ∧ wr = wx)
        case first =>
          go_wp2_with fail
          go_meet
          exact ⟨by rw [HK1.out]; simp, rfl⟩
        case rest =>
        obtain ⟨rfl, rfl⟩ := hcut
        by_cases hsh : k1 < r.size
        · have z2 : ((k1 : Int) == (r.size : Int)) = false := by simp; omega
          obtain ⟨d, hd⟩ : ∃ d : Int, (r[k1].toNat : Int) = d := ⟨_, rfl⟩
          have HD : Hid (bt r k1 = d) := hid ((bt_of_lt hsh).trans hd)
          have hdI : 0 ≤ d ∧ d ≤ 255 := by have := bt_nonneg r k1; have := bt_le r k1; have := HD.out; omega
          have h3 : (0 : Int) ≤ k1 ∧ (k1 : Int) < r.size := ⟨by omega, by omega⟩
          have HS1 := hid hsh
          go_upto_region 10 with fail
          obtain ⟨z, hz⟩ : ∃ z : Int, z = d - 49 := ⟨_, rfl⟩
          have HZ := hid hz
          have hzI : -49 ≤ z ∧ z ≤ 206 := by omega
          clear hz
          go_cut [12] from 36 to 41 (fun v wx => v = .int .i64 z ∧ wr = wx)
          case first =>
            go_wp2_with fail
            go_meet
            exact ⟨by rw [HZ.out], rfl⟩
          case rest =>
          obtain ⟨rfl, rfl⟩ := hcut
          by_cases h37 : d = 37
          · have HFF := hid (fill_next hlt hcc.out HK1.out hsh (pc := [37]) (by rw [HD.out, h37]; exact piece_37) (by rw [HD.out, h37]; exact okD_37) HF.out)
            have y37 : (d == 37) = true := by simpa using h37
            clear HF h37
            go_wp2_with (at_builtin; go_must (refine append_byte (W := wr) rfl (.tmp 46) (.tmp 47) rfl rfl (w.heap.size + 1) _ acc rfl HO.out 37 rfl rfl (by omega) (by omega) ?_))
            intro ao' cap' w2 ho' hg'
            have HO2 := hid ho'
            have HK2 := hid (HK.out.grown hg' (by omega) (fun k hk => Or.inr (HO.out.lt k hk).1))
            clear ho' hg' HO HK
            go_wp2_with fail
            go_roundw
            case rel => exact ⟨k1 + 1, _, _, _, _, fu', by go_num, by omega, rfl, by simp, HO2.out, HK2.out, HFF, by have := HK1.out; simp; omega⟩
            case measure => have := HK1.out; simp [intOf]; omega
          · have y37 : (d == 37) = false := by simpa using h37
            by_cases h48 : d = 48 ∨ (d = 49 ∧ caps = 0)
            · have HFF := hid (fill_next hlt hcc.out HK1.out hsh (pc := sub s m.a m.e) (by rw [HD.out]; exact piece_sub h48) (by rw [HD.out]; exact okD_sub h48) HF.out)
              have hsl := sub_len (s := s) m.a m.e
              have hse : (s.extract m.a m.e).data.toList = sub s m.a m.e := rfl
              have hsz : (s.extract m.a m.e).size ≤ s.size := by rw [ByteArray.size_extract]; omega
              clear HF h37
              rcases h48 with rfl | ⟨rfl, hc0⟩
              · go_wp2_with (at_builtin; go_must (refine append_str rfl (.tmp 64) (.tmp 70) rfl (w.heap.size + 1) _ acc rfl HO.out (s.extract m.a m.e) _ hse rfl (by omega) (by omega) ?_))
                intro ao' cap' w2 ho' hg'
                have HO2 := hid ho'
                have HK2 := hid (HK.out.grown hg' (by omega) (fun k hk => Or.inr (HO.out.lt k hk).1))
                clear ho' hg' HO HK
                go_wp2_with fail
                go_roundw
                case rel => exact ⟨k1 + 1, _, _, _, _, fu', by go_num, by omega, rfl, by simp, HO2.out, HK2.out, HFF, by have := HK1.out; rw [List.length_append]; omega⟩
                case measure => have := HK1.out; simp [intOf]; omega
              · have yc : ((caps : Int) == 0) = true := by rw [hc0]; rfl
                clear hc0
                go_wp2_with (at_builtin; go_must (refine append_str rfl (.tmp 64) (.tmp 70) rfl (w.heap.size + 1) _ acc rfl HO.out (s.extract m.a m.e) _ hse rfl (by omega) (by omega) ?_))
                intro ao' cap' w2 ho' hg'
                have HO2 := hid ho'
                have HK2 := hid (HK.out.grown hg' (by omega) (fun k hk => Or.inr (HO.out.lt k hk).1))
                clear ho' hg' HO HK
                go_wp2_with fail
                go_roundw
                case rel => exact ⟨k1 + 1, _, _, _, _, fu', by go_num, by omega, rfl, by simp, HO2.out, HK2.out, HFF, by have := HK1.out; rw [List.length_append]; omega⟩
                case measure => have := HK1.out; simp [intOf]; omega
            · have y48 : (d == 48) = false := by simp; omega
              have HN48 := hid h48
              by_cases hbad : z < 0 ∨ 8 < z ∨ (caps : Int) ≤ z
              · have HBAD : Hid (ok = false) := hid (fill_bad hlt hcc.out HK1.out hsh (by rw [HD.out]; exact okD_no h37 h48 (by have := HZ.out; omega)) HF.out)
                clear HF h37 h48
                by_cases hz0 : z < 0
                · have e0 : decide (z < 0) = true := decide_eq_true hz0
                  have y49 : (d == 49) = false := by have := HZ.out; simp; omega
                  go_wp2_with fail
                  go_ret2
                  exact ⟨hk0.andThen HK.out (by omega) (by simp), Or.inr ⟨HBAD.out, rfl⟩⟩
                · have e0 : decide (z < 0) = false := decide_eq_false hz0
                  have hy : (d == 49) = false ∨ ((d == 49) = true ∧ ((caps : Int) == 0) = false) := by
                    by_cases h49 : d = 49
                    · exact Or.inr ⟨by simpa using h49, by have := HN48.out; simp; omega⟩
                    · exact Or.inl (by simpa using h49)
                  have he : decide (8 < z) = true ∨ (decide (8 < z) = false ∧ decide ((caps : Int) ≤ z) = true) := by
                    by_cases h8 : 8 < z
                    · exact Or.inl (decide_eq_true h8)
                    · exact Or.inr ⟨decide_eq_false h8, decide_eq_true (by omega)⟩
                  clear hbad hz0
                  rcases hy with y49 | ⟨y49, yc⟩ <;> rcases he with e8 | ⟨e8, ec⟩
                  all_goals
                    go_wp2_with fail
                    go_ret2
                    exact ⟨hk0.andThen HK.out (by omega) (by simp), Or.inr ⟨HBAD.out, rfl⟩⟩
              · have e0 : decide (z < 0) = false := decide_eq_false (by omega)
                have e8 : decide (8 < z) = false := decide_eq_false (by omega)
                have ec : decide ((caps : Int) ≤ z) = false := decide_eq_false (by omega)
                obtain ⟨j, rfl⟩ : ∃ j : Nat, z = j := ⟨z.toNat, by omega⟩
                have hjc : j < caps := by omega
                have hj8 : j ≤ 8 := by omega
                have hpc := piece_cap (s := s) (m := m) (caps := caps) (d := d) (j := j) HZ.out.symm h48
                have hok1 : okD caps d = true := okD_cap (by have := HZ.out; omega) (by have := HZ.out; omega) (by have := HZ.out; omega)
                have hy : (d == 49) = false ∨ ((d == 49) = true ∧ ((caps : Int) == 0) = false) := by
                  by_cases h49 : d = 49
                  · exact Or.inr ⟨by simpa using h49, by have := HN48.out; simp; omega⟩
                  · exact Or.inl (by simpa using h49)
                cases hget : m.caps[j]? with
                | none =>
                  have hlen := List.getElem?_eq_none_iff.1 hget
                  rw [hget] at hpc
                  have HFF := hid (fill_next hlt hcc.out HK1.out hsh (pc := []) (by rw [HD.out]; exact hpc) (by rw [HD.out]; exact hok1) HF.out)
                  have l1 : decide (j < m.caps.length) = false := decide_eq_false (by omega)
                  have l2 : decide ((j : Int) < m.caps.length) = false := decide_eq_false (by omega)
                  clear HF h37 h48 hbad hpc hok1 hget hlen
                  rcases hy with y49 | ⟨y49, yc⟩
                  all_goals
                    go_wp2_with fail
                    go_roundw
                    case rel => exact ⟨k1 + 1, _, _, _, _, fu', by go_num, by omega, rfl, by simpa using HNL.out, by simpa using HO.out, HK.out, HFF, by have := HK1.out; simp; omega⟩
                    case measure => have := HK1.out; simp [intOf]; omega
                | some x =>
                  obtain ⟨b, f, t⟩ := x
                  have hlen := (List.getElem?_eq_some_iff.1 hget).1
                  have hfs := hm.frm _ _ _ _ hget
                  have hft := hm.cap _ _ _ _ hget
                  obtain ⟨g, rfl, hgl, hc0, hc1, hc2⟩ := HA0.out _ _ _ _ hget
                  have c0 := (HK.out.cell (p := ⟨g, j * 3, none⟩) (by dsimp only; omega) (by simp)).trans hc0
                  have c1 := (HK.out.cell (p := ⟨g, j * 3 + 1, none⟩) (by dsimp only; omega) (by simp)).trans hc1
                  have c2 := (HK.out.cell (p := ⟨g, j * 3 + 2, none⟩) (by dsimp only; omega) (by simp)).trans hc2
                  rw [hget] at hpc
                  have l1 : decide (j < m.caps.length) = true := decide_eq_true (by omega)
                  have l2 : decide ((j : Int) < m.caps.length) = true := decide_eq_true (by omega)
                  have l3 : (0 : Int) ≤ j ∧ (j : Int) < m.caps.length := ⟨by omega, by omega⟩
                  have HGET := hid hget
                  clear hc0 hc1 hc2 hget
                  cases b with
                  | true =>
                    have HFF := hid (fill_next hlt hcc.out HK1.out hsh (pc := Lib.itoa ((f : Int) + 1)) (by rw [HD.out]; exact hpc) (by rw [HD.out]; exact hok1) HF.out)
                    have hdec : ∀ w, Calls Tryd.prog 21 #[.int .i64 ((f : Int) + 1)] w fun e w' => e = .returned (.string ⟨(Lib.itoa ((f : Int) + 1)).toArray⟩) ∧ Keeps w.heap.size [] w w' := fun w => dec_any (f + 1) (by omega) w
                    have hil : (Lib.itoa ((f : Int) + 1)).length ≤ 8 := by
                      have := nDigits_le (f + 1) (by omega)
                      unfold Lib.itoa
                      rw [if_neg (by omega)]
                      exact this
                    have HDEC := hid hdec
                    clear HF h37 h48 hbad hpc hok1 hft hdec
                    rcases hy with y49 | ⟨y49, yc⟩
                    all_goals
                      go_wp2_with fail
                      refine (HDEC.out _).mono ?_
                      rintro e w3 ⟨rfl, hk3⟩
                      have HO3 := hid (own_keeps HO.out hk3 (Nat.le_refl _) (by simp))
                      have HK3 := hid (HK.out.andThen hk3 (by omega) (by simp))
                      have hsz3 := HK3.out.size
                      have hsl3 : (⟨(Lib.itoa ((f : Int) + 1)).toArray⟩ : ByteArray).size ≤ 8 := by
                        show (Lib.itoa ((f : Int) + 1)).toArray.size ≤ 8
                        rw [List.size_toArray]; exact hil
                      clear hk3 c0 c1 c2 HO HK
                      go_wp2_with (at_builtin; go_must (refine append_str rfl (.tmp 98) (.tmp 106) rfl (w.heap.size + 1) _ acc rfl HO3.out ⟨(Lib.itoa ((f : Int) + 1)).toArray⟩ (Lib.itoa ((f : Int) + 1)) rfl rfl (by omega) (by omega) ?_))
                      intro ao' cap' w2 ho' hg'
                      have HO2 := hid ho'
                      have HK2 := hid (HK3.out.grown hg' (by omega) (fun k hk => Or.inr (HO3.out.lt k hk).1))
                      clear ho' hg' HO3 HK3 hsl3
                      go_wp2_with fail
                      go_roundw
                      case rel => exact ⟨k1 + 1, _, _, _, _, fu', by go_num, by omega, rfl, by simp, HO2.out, HK2.out, HFF, by have := HK1.out; rw [List.length_append]; omega⟩
                      case measure => have := HK1.out; simp [intOf]; omega
                  | false =>
                    obtain ⟨hft1, hft2⟩ := hft rfl
                    have HFF := hid (fill_next hlt hcc.out HK1.out hsh (pc := sub s f t) (by rw [HD.out]; exact hpc) (by rw [HD.out]; exact hok1) HF.out)
                    have hftI : (0 : Int) ≤ f ∧ (f : Int) ≤ t ∧ (t : Int) ≤ s.size := by omega
                    have hse : (s.extract f t).data.toList = sub s f t := rfl
                    have hsl := sub_len (s := s) f t
                    have hsz : (s.extract f t).size ≤ s.size := by rw [ByteArray.size_extract]; omega
                    clear HF h37 h48 hbad hpc hok1 hft
                    rcases hy with y49 | ⟨y49, yc⟩
                    all_goals
                      go_upto_region 20 with fail
                      go_still_tail 15, (by kernel_rfl)
                      change wpList _ _ _ _ _ wr.drew
                      have HOd : Hid (ByteOwn wr.drew (w.heap.size + 1) (.slice ao n cap) acc) := hid HO.out
                      go_wp2_with (at_builtin; go_must (refine append_str (w := wr.drew) rfl (.tmp 114) (.tmp 128) rfl (w.heap.size + 1) _ acc rfl HOd.out (s.extract f t) _ hse rfl (by omega) (by show _ ≤ wr.heap.size; omega) ?_))
                      intro ao' cap' w2 ho' hg'
                      have HO2 := hid ho'
                      have HK2 := hid (HK.out.drew.grown hg' (by show _ ≤ wr.heap.size; omega) (fun k hk => Or.inr (HO.out.lt k hk).1))
                      clear ho' hg' HO HK HOd
                      go_wp2_with fail
                      go_roundw
                      case rel => exact ⟨k1 + 1, _, _, _, _, fu', by go_num, by omega, rfl, by simp, HO2.out, HK2.out, HFF, by have := HK1.out; rw [List.length_append]; omega⟩
                      case measure => have := HK1.out; simp [intOf]; omega
        · have z2 : ((k1 : Int) == (r.size : Int)) = true := by simp; omega
          have HSH : Hid (ok = false) := hid (by rw [← HF.out.2.2]; exact okP_short hlt hcc.out (by have := HK1.out; omega))
          clear HF
          go_wp2_with fail
          go_ret2
          exact ⟨hk0.andThen HK.out (by omega) (by simp), Or.inr ⟨HSH.out, rfl⟩⟩
      · have z1 : ((r[k].toNat : Int) != 37) = true := by rw [hcb] at hc; simpa using hc
        have HFF : Hid (r.size < fu' + (k + 1) ∧ (acc ++ [r[k]]) ++ fillP s r caps m fu' (k + 1) = T ∧ okP r caps fu' (k + 1) = ok) := hid (by
          obtain ⟨a1, a2, a3⟩ := HF.out
          rw [fillP_plain hlt hc] at a2
          rw [okP_plain hlt hc] at a3
          exact ⟨by omega, by rw [← a2]; simp, a3⟩)
        have hcb' := hid hcb
        clear HF hc hcb
        go_wp2_with (at_builtin; go_must (refine append_byte (W := wr) rfl (.tmp 24) (.tmp 28) rfl rfl (w.heap.size + 1) _ acc rfl HO.out r[k] rfl rfl (by omega) (by omega) ?_))
        intro ao' cap' w2 ho' hg'
        have HO2 := hid ho'
        have HK2 := hid (HK.out.grown hg' (by omega) (fun k hk => Or.inr (HO.out.lt k hk).1))
        clear ho' hg' HO HK
        go_wp2_with fail
        go_roundw
        case rel => exact ⟨k + 1, _, _, _, _, fu', by go_num, by omega, rfl, by simp, HO2.out, HK2.out, HFF, by simp; omega⟩
        case measure => simp [intOf]; omega
    · have h1 : ¬ ((k : Int) < r.size) := by omega
      have hend : Hid (acc = T ∧ ok = true) := hid (by
        obtain ⟨a1, a2, a3⟩ := HF.out
        rw [fillP_end (by omega)] at a2
        rw [okP_end (by omega)] at a3
        exact ⟨by rw [← a2]; simp, a3.symm⟩)
      have hcv := byteOwn_string HO.out
      clear HF
      go_wp2_with fail
      go_ret2
      exact ⟨hk0.andThen HK.out (by omega) (by simp), Or.inl ⟨hend.out.2, by rw [← hend.out.1]; rfl⟩⟩
end Go.Proofs.YtpinoolagbghnaaDoor

namespace Go.Proofs.YtpinoolagbghnaaDoor
set_option linter.unusedVariables false
open Go.RowKit Pat

namespace Pat
theorem ok_next {r : ByteArray} {caps k k1 fu : Nat} {ok : Bool} (hlt : k < r.size) (hc : bt r k = 37) (hk1 : k1 = k + 1) (h1 : k1 < r.size) (hok : okD caps (bt r k1) = true)
    (HF : r.size < fu + 1 + k ∧ okP r caps (fu + 1) k = ok) : r.size < fu + (k1 + 1) ∧ okP r caps fu (k1 + 1) = ok := by
  subst hk1
  obtain ⟨a1, a3⟩ := HF
  rw [okP_esc hlt hc h1, hok, Bool.true_and] at a3
  exact ⟨by omega, a3⟩
theorem ok_bad {r : ByteArray} {caps k k1 fu : Nat} {ok : Bool} (hlt : k < r.size) (hc : bt r k = 37) (hk1 : k1 = k + 1) (h1 : k1 < r.size) (hok : okD caps (bt r k1) = false) (HF : r.size < fu + 1 + k ∧ okP r caps (fu + 1) k = ok) : ok = false := by
  subst hk1
  obtain ⟨a1, a3⟩ := HF
  rw [okP_esc hlt hc h1, hok, Bool.false_and] at a3
  exact a3.symm
theorem okD_nodig {caps : Nat} {d : Int} (h0 : d ≠ 37) (h : digB d = false) : okD caps d = false := by
  unfold digB at h
  unfold okD
  simp only [Bool.or_eq_false_iff, Bool.and_eq_false_iff, decide_eq_false_iff_not] at h ⊢
  omega
theorem okD_dig {caps : Nat} {d : Int} (h : digB d = true) (hok : d - 48 ≤ caps ∨ (d = 49 ∧ caps = 0)) : okD caps d = true := by
  unfold digB at h
  unfold okD
  simp only [Bool.and_eq_true, decide_eq_true_eq] at h
  simp only [Bool.or_eq_true, Bool.and_eq_true, decide_eq_true_eq]
  omega
theorem okD_large {caps : Nat} {d : Int} (h : digB d = true) (hok : ¬ (d - 48 ≤ caps ∨ (d = 49 ∧ caps = 0))) : okD caps d = false := by
  unfold digB at h
  unfold okD
  simp only [Bool.and_eq_true, decide_eq_true_eq] at h
  simp only [Bool.or_eq_false_iff, Bool.and_eq_false_iff, decide_eq_false_iff_not]
  omega
end Pat

set_option maxRecDepth 100000 in
set_option maxHeartbeats 4000000 in
theorem replOk_any {r : ByteArray} {caps : Nat} (hr : r.size ≤ 1048576) (hcp : caps ≤ 16) (w : World) :
    Calls Tryd.prog 11 #[.string r, .int .i64 caps] w fun e w' => e = .returned (.bool (okP r caps (r.size + 1) 0)) ∧ w = w' := by
  obtain ⟨ok, hok⟩ : ∃ ok, okP r caps (r.size + 1) 0 = ok := ⟨_, rfl⟩
  rw [hok]
  have HOK := hid hok
  clear hok
  go_enter Tryd.func11, Tryd.ntmps11
  go_wp2_with fail
  go_loop [5] (fun kv => ∃ (k fu : Nat), kv = .int .i64 k ∧ k ≤ r.size ∧ Hid (r.size < fu + k ∧ okP r caps fu k = ok)) (fun kv => r.size - (intOf kv).toNat)
  case atStart => exact ⟨0, r.size + 1, rfl, Nat.zero_le _, hid ⟨by omega, HOK.out⟩⟩
  case round =>
    obtain ⟨k, fu, rfl, hk, HF⟩ := hrel
    by_cases hlt : k < r.size
    · obtain ⟨fu', rfl⟩ : ∃ x, fu = x + 1 := ⟨fu - 1, by have := HF.out.1; omega⟩
      have hcb := bt_of_lt hlt
      have h1 : (0 : Int) ≤ k ∧ (k : Int) < r.size := ⟨by omega, by omega⟩
      by_cases hc : bt r k = 37
      · have z1 : ((r[k].toNat : Int) != 37) = false := by rw [hcb] at hc; simpa using hc
        obtain ⟨k1, hk1⟩ : ∃ k1 : Nat, k1 = k + 1 := ⟨_, rfl⟩
        have HK1 := hid hk1
        have hkI : (0 : Int) ≤ k1 ∧ (k1 : Int) ≤ 1048577 := ⟨by omega, by omega⟩
        have hk1s : k1 ≤ r.size := by omega
        have hcc := hid hc
        clear hc hcb hk1
        go_upto_region 5 with fail
        go_cut [5] from 17 to 19 (fun v wx => v = .int .i64 (k1 : Int) ∧ w = wx)
        case first =>
          go_wp2_with fail
          go_meet
          exact ⟨by rw [HK1.out]; simp, rfl⟩
        case rest =>
        obtain ⟨rfl, rfl⟩ := hcut
        by_cases hsh : k1 < r.size
        · have z2 : decide ((r.size : Int) ≤ k1) = false := decide_eq_false (by omega)
          have z2n : decide (r.size ≤ k1) = false := decide_eq_false (by omega)
          obtain ⟨d, hd⟩ : ∃ d : Int, (r[k1].toNat : Int) = d := ⟨_, rfl⟩
          have HD : Hid (bt r k1 = d) := hid ((bt_of_lt hsh).trans hd)
          have hdI : 0 ≤ d ∧ d ≤ 255 := by have := bt_nonneg r k1; have := bt_le r k1; have := HD.out; omega
          have h3 : (0 : Int) ≤ k1 ∧ (k1 : Int) < r.size := ⟨by omega, by omega⟩
          by_cases h37 : d = 37
          · have HFF := hid (ok_next hlt hcc.out HK1.out hsh (by rw [HD.out, h37]; exact okD_37) HF.out)
            have y37 : (d == 37) = true := by simpa using h37
            clear HF h37
            go_wp2_with fail
            go_round
            case rel => exact ⟨k1 + 1, fu', by go_num, by omega, HFF⟩
            case measure => have := HK1.out; simp [intOf]; omega
          · have y37 : (d == 37) = false := by simpa using h37
            cases hdg : digB d with
            | false =>
              have HBAD : Hid (ok = false) := hid (ok_bad hlt hcc.out HK1.out hsh (by rw [HD.out]; exact okD_nodig h37 hdg) HF.out)
              clear HF h37
              go_wp2_with fail
              refine (isDigit_any _ _).mono ?_
              rintro e w' ⟨rfl, rfl⟩
              rw [hdg]
              go_wp2_with fail
              go_ret
              exact ⟨ret_b HBAD.out.symm, rfl⟩
            | true =>
              have hdI2 : 48 ≤ d ∧ d ≤ 57 := by unfold digB at hdg; simpa using hdg
              by_cases hgo : d - 48 ≤ caps ∨ (d = 49 ∧ caps = 0)
              · have HFF := hid (ok_next hlt hcc.out HK1.out hsh (by rw [HD.out]; exact okD_dig hdg hgo) HF.out)
                have hy : decide ((caps : Int) < d - 48) = false ∨ (decide ((caps : Int) < d - 48) = true ∧ (d - 48 == 1) = true ∧ ((caps : Int) == 0) = true) := by
                  by_cases h5 : d - 48 ≤ caps
                  · exact Or.inl (decide_eq_false (by omega))
                  · exact Or.inr ⟨decide_eq_true (by omega), by simp; omega, by simp; omega⟩
                clear HF h37 hgo
                go_wp2_with fail
                refine (isDigit_any _ _).mono ?_
                rintro e w' ⟨rfl, rfl⟩
                rw [hdg]
                rcases hy with y1 | ⟨y1, y2, y3⟩
                all_goals
                  go_wp2_with fail
                  go_round
                  case rel => exact ⟨k1 + 1, fu', by go_num, by omega, HFF⟩
                  case measure => have := HK1.out; simp [intOf]; omega
              · have HBAD : Hid (ok = false) := hid (ok_bad hlt hcc.out HK1.out hsh (by rw [HD.out]; exact okD_large hdg hgo) HF.out)
                have y1 : decide ((caps : Int) < d - 48) = true := decide_eq_true (by omega)
                have hy : (d - 48 == 1) = false ∨ ((d - 48 == 1) = true ∧ ((caps : Int) == 0) = false) := by
                  by_cases h5 : d - 48 = 1
                  · exact Or.inr ⟨by simpa using h5, by simp; omega⟩
                  · exact Or.inl (by simpa using h5)
                clear HF h37 hgo
                go_wp2_with fail
                refine (isDigit_any _ _).mono ?_
                rintro e w' ⟨rfl, rfl⟩
                rw [hdg]
                rcases hy with y2 | ⟨y2, y3⟩
                all_goals
                  go_wp2_with fail
                  go_ret
                  exact ⟨ret_b HBAD.out.symm, rfl⟩
        · have z2 : decide ((r.size : Int) ≤ k1) = true := decide_eq_true (by omega)
          have z2n : decide (r.size ≤ k1) = true := decide_eq_true (by omega)
          have HSH : Hid (ok = false) := hid (by rw [← HF.out.2]; exact okP_short hlt hcc.out (by have := HK1.out; omega))
          clear HF
          go_wp2_with fail
          go_ret
          exact ⟨ret_b HSH.out.symm, rfl⟩
      · have z1 : ((r[k].toNat : Int) != 37) = true := by rw [hcb] at hc; simpa using hc
        have HFF : Hid (r.size < fu' + (k + 1) ∧ okP r caps fu' (k + 1) = ok) := hid (by
          obtain ⟨a1, a3⟩ := HF.out
          rw [okP_plain hlt hc] at a3
          exact ⟨by omega, a3⟩)
        have hcb' := hid hcb
        clear HF hc hcb
        go_wp2_with fail
        go_round
        case rel => exact ⟨k + 1, fu', by go_num, by omega, HFF⟩
        case measure => simp [intOf]; omega
    · have h1 : ¬ ((k : Int) < r.size) := by omega
      have hend : Hid (ok = true) := hid (by
        obtain ⟨a1, a3⟩ := HF.out
        rw [okP_end (by omega)] at a3
        exact a3.symm)
      clear HF
      go_wp2_with fail
      go_ret
      exact ⟨ret_b hend.out.symm, rfl⟩
end Go.Proofs.YtpinoolagbghnaaDoor
