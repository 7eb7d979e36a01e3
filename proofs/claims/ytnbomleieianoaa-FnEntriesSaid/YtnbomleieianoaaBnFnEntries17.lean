/- Contracts and plain laws for the statement FnEntries, part 17. No conditions but those stated in each. -/
import Derived.Test.YtnbomleieianoaaBnFnEntries16
import Derived.Test.YtnbomleieianoaaBnFnEntries6
import Derived.Test.YtnbomleieianoaaBnFnEntries11
import Derived.Test.YtnbomleieianoaaBnFnEntries5
import Derived.Test.YtnbomleieianoaaBnFnEntries14
/- Contracts: the greatest number on the way to each end, and how often a process crosses on it, by both. -/
namespace Go.Proofs.Ytnbomleieianoaa
open Go.RowKit

def hiF (ps l : List Int) (e : Int) : Int := hiN ps l e.toNat
def hiV (ps ws l : List Int) : List Int := if paysB ps ws l then (ends ps).map (hiF ps l) else []
theorem hiV_no {ps ws l : List Int} (h : paysB ps ws l = false) : hiV ps ws l = [] := by rw [hiV, h]; rfl
theorem hiV_yes {ps ws l : List Int} (h : paysB ps ws l = true) : hiV ps ws l = (ends ps).map (hiF ps l) := by rw [hiV, if_pos h]
theorem ends_len {ps : List Int} (h : Pa ps) : (ends ps).length ≤ 24 := by have := filt_length (endB ps) ps.length; have := h.n24; unfold ends; omega
theorem hiV_len {ps ws l : List Int} : (hiV ps ws l).length ≤ 24 := by
  cases h : paysB ps ws l
  · rw [hiV_no h]; exact Nat.zero_le _
  · rw [hiV_yes h, List.length_map]; exact ends_len (paysB_t h).1.toPa
def crB (ps ws l : List Int) (lo hi : Int) : Bool := paysB ps ws l && decide (lo < hi)
def crF (ps l : List Int) (lo hi : Int) (e : Int) : Int := (crN ps l lo hi e.toNat).1
def crV (ps ws l : List Int) (lo hi : Int) : List Int := if crB ps ws l lo hi then (ends ps).map (crF ps l lo hi) else []
theorem cr_no1 {ps ws l : List Int} {lo hi : Int} (h : paysB ps ws l = false) : crB ps ws l lo hi = false := by rw [crB, h]; rfl
theorem cr_no2 {ps ws l : List Int} {lo hi : Int} (h : lo ≥ hi) : crB ps ws l lo hi = false := by rw [crB, decide_eq_false (by omega)]; simp
theorem cr_yes {ps ws l : List Int} {lo hi : Int} (h : paysB ps ws l = true) (h2 : ¬ lo ≥ hi) : crB ps ws l lo hi = true := by rw [crB, h, decide_eq_true (by omega)]; rfl
theorem crV_no {ps ws l : List Int} {lo hi : Int} (h : crB ps ws l lo hi = false) : crV ps ws l lo hi = [] := by rw [crV, h]; rfl
theorem crV_yes {ps ws l : List Int} {lo hi : Int} (h : crB ps ws l lo hi = true) : crV ps ws l lo hi = (ends ps).map (crF ps l lo hi) := by rw [crV, if_pos h]
theorem crB_t {ps ws l : List Int} {lo hi : Int} (h : crB ps ws l lo hi = true) : paysB ps ws l = true ∧ lo < hi := by simpa [crB] using h
theorem crV_len {ps ws l : List Int} {lo hi : Int} : (crV ps ws l lo hi).length ≤ 24 := by
  cases h : crB ps ws l lo hi
  · rw [crV_no h]; exact Nat.zero_le _
  · rw [crV_yes h, List.length_map]; exact ends_len (paysB_t (crB_t h).1).1.toPa
theorem max_t {a b : Int} (h : a < b) : max a b = b := by omega
theorem max_f {a b : Int} (h : ¬ a < b) : max a b = a := by omega
theorem crS_1 {lo hi n c : Int} (h : n ≤ lo) : crS lo hi n (c, false) = (c, true) := by simp [crS, h]
theorem crS_2 {lo hi n c : Int} (h : ¬ n ≤ lo) : crS lo hi n (c, false) = (c, false) := by simp [crS, h]
theorem crS_3 {lo hi n c : Int} (h : n ≥ hi) : crS lo hi n (c, true) = (c + 1, false) := by simp [crS]; omega
theorem crS_4 {lo hi n c : Int} (h : ¬ n ≥ hi) : crS lo hi n (c, true) = (c, true) := by simp [crS]; omega
theorem pair_snd {s : Int × Bool} {b : Bool} (h : s.2 = b) : s = (s.1, b) := by subst h; rfl
set_option maxRecDepth 100000 in
set_option maxHeartbeats 2000000 in
theorem impl_HighestOf (aP : Option Addr) (nP cP : Nat) (aW : Option Addr) (nW cW : Nat) (ps ws : List Int) (aL : Option Addr) (nL cL : Nat) (l : List Int) (w : World) (h : Tre w aP nP cP aW nW cW ps ws) (hL : Ints w aL nL l) (_hLc : aL = none → cL = 0) (hn : nL ≤ 1048576) :
    Calls Try.prog 14 #[.agg #[.slice aP nP cP, .slice aW nW cW], .slice aL nL cL] w fun e w' => ∃ v, e = .returned (.tuple #[v, .bool (paysB ps ws l)]) ∧ Own w' w.heap.size v (hiV ps ws l) ∧ Below w.heap.size w w' := by
  have hl := h.p.1
  have hlw := h.w.1
  have hpn := h.pn
  have hwn := h.wn
  have hb1 := below_new w (.cells #[.slice aP nP cP, .slice aW nW cW] 26)
  have hP1 := Lib.hid (Pair.new w (.slice aP nP cP) (.slice aW nW cW) 26)
  have H := Lib.hid h
  have Hl := Lib.hid hl
  have Hlw := Lib.hid hlw
  clear h hl hlw
  have HL := Lib.hid hL
  have hll := Lib.hid hL.1
  clear hL
  have hlt2 := hP1.out.lt
  go_enter Try.func14, Try.ntmps14
  have c0 := hP1.out.c0
  have c1 := hP1.out.c1
  go_wp2_with fail
  generalize (w.alloc (.cells #[.slice aP nP cP, .slice aW nW cW] 26)) = w2 at *
  refine (impl_IsTree _ _ _ _ _ _ ps ws _ (H.out.below hb1)).mono ?_
  rintro e w3 ⟨rfl, hb3⟩
  have hP3 := hP1.out.below hb3
  have d0 := hP3.c0
  have d1 := hP3.c1
  have HP3 := Lib.hid hP3
  have hb13 := hb1.trans (hb3.mono hb1.size)
  clear hP3 c0 c1 hb3
  cases hT : treeB ps ws
  · have Hv := Lib.hid (pays_no1 (l := l) hT)
    clear hT
    go_wp2_with fail
    go_ret2
    exact ⟨_, by rw [Hv.out]; rfl, by rw [hiV_no Hv.out]; exact Own.nil _ _, hb13⟩
  have HT := Lib.hid hT
  clear hT
  go_wp2_with fail
  refine (impl_isProcess _ _ _ _ _ _ ps ws _ _ _ l _ (H.out.below hb13) (HL.out.below hb13) hn).mono ?_
  rintro e w4 ⟨rfl, hb4⟩
  have hb14 := hb13.trans (hb4.mono hb13.size)
  have hP4 := HP3.out.below hb4
  have e0 := hP4.c0
  have e1 := hP4.c1
  have HP4 := Lib.hid hP4
  clear d0 d1 hP4 hb4
  cases hp : procB ps.length l
  · have Hv := Lib.hid (pays_no2 (ws := ws) hp)
    clear hp
    go_wp2_with fail
    go_ret2
    exact ⟨_, by rw [Hv.out]; rfl, by rw [hiV_no Hv.out]; exact Own.nil _ _, hb14⟩
  have Hpays := Lib.hid (pays_both HT.out hp)
  have hpp := procB_t hp
  have hTr := treeB_t HT.out
  have hn24 := hTr.n24
  have hn1 := hTr.n1
  have hnL : nP = nL := by have := hll.out; have := hpp.1; have := Hl.out; omega
  have hnW : nP = nW := by have := Hlw.out; have := hTr.wl; have := Hl.out; omega
  have hnP : 1 ≤ nP ∧ nP ≤ 24 := by have := Hl.out; omega
  have Hpp := Lib.hid hpp
  have HTr := Lib.hid hTr
  have HnW := Lib.hid hnW
  have hnW2 : nP ≤ nW := by omega
  clear hp hpp hn24 hn1 hTr hpn hwn hnW
  subst hnL
  have hnil := own_nil0 w4
  have hb24 : Below w.heap.size w (w4.alloc (.cells #[] 3)) := hb14.alloc hb14.size _
  have HP24 := Lib.hid (HP4.out.alloc (.cells #[] 3))
  have hs24 : (w4.alloc (.cells #[] 3)).heap.size = w4.heap.size + 1 := by simp
  have Hlt := Lib.hid HP4.out.lt
  have c0 := HP24.out.c0
  have c1 := HP24.out.c1
  clear e0 e1
  go_upto_region 4 with fail
  generalize (w4.alloc (.cells #[] 3)) = w5 at *
  go_wp2_with fail
  refine (impl_ends _ _ _ _ _ _ ps ws _ (H.out.below hb24) HTr.out.toPa).mono ?_
  rintro e w6 ⟨v, rfl, ho, hb6⟩
  obtain ⟨a3, c3, rfl⟩ := ho.shape
  have HE := Lib.hid ho.ints
  have HP6 := Lib.hid (HP24.out.below hb6)
  have HO6 := Lib.hid (hnil.below hb6)
  have hb16 := hb24.trans (hb6.mono hb24.size)
  have hel : (ends ps).length ≤ 24 := ends_len HTr.out.toPa
  have hap0 : Hid (0 < (ends ps).length → Apart a3 (Value.slice (some ⟨w4.heap.size, 0, none⟩) 0 0)) := Lib.hid fun h0 p hp e => by
    obtain ⟨g, cap, he, hg, _⟩ := ho.form h0
    cases he
    cases hp
    simp [Value.ownBlock] at e
    omega
  have hsz0 : w4.heap.size ≤ w6.heap.size := by have := hb6.size; omega
  have Hen : Hid (∀ i, i < (ends ps).length → ∃ e : Nat, e < nP ∧ endB ps e = true ∧ nth (ends ps) i = (e : Int)) := Lib.hid fun i hi => by
    obtain ⟨e, h1, h2, h3⟩ := end_nth hi
    exact ⟨e, by have := Hl.out; omega, h2, h3⟩
  clear ho hnil hb6 hb24 HP24 hs24 c0 c1
  generalize hes : ends ps = es at *
  have Hes := Lib.hid hes
  clear hes
  go_wp2_with fail
  go_loopw [6, 25] (fun v6 v25 wr => ∃ k : Nat, k ≤ es.length ∧ v25 = .int .i64 (k : Int) ∧ Own wr (w4.heap.size) v6 ((es.take k).map (hiF ps l)) ∧ Ints wr a3 es.length es ∧ (0 < es.length → Apart a3 v6) ∧ Pair wr w.heap.size (.slice aP nP cP) (.slice aW nW cW) ∧ Below w.heap.size w wr ∧ w4.heap.size ≤ wr.heap.size) (fun _ v25 _ => es.length - (intOf v25).toNat)
  case atStart => exact ⟨0, Nat.zero_le _, rfl, by simpa using HO6.out, HE.out, hap0.out, HP6.out, hb16, hsz0⟩
  case round =>
    clear hb16 HO6 HE hap0 HP6 hsz0
    obtain ⟨k, hk, rfl, hown, hE, hap, hP, hbel, hsz⟩ := hrel
    have HE := Lib.hid hE
    have Hap := Lib.hid hap
    have HP := Lib.hid hP
    have HO := Lib.hid hown
    have x0 := hP.c0
    have x1 := hP.c1
    clear hE hap hP hown
    obtain ⟨wo, rfl⟩ : ∃ wo, wo = wr := ⟨_, rfl⟩
    by_cases hlt : (k : Int) < es.length
    · obtain ⟨be, oe, rfl, hce⟩ := HE.out.at (i := k) (Below.refl _ _) (by omega)
      obtain ⟨e, he, he2, hei⟩ := Hen.out k (by omega)
      rw [hei] at hce
      have hlen : ((es.take k).map (hiF ps l)).length ≤ 24 := by rw [List.length_map, List.length_take]; omega
      have Hf : Hid ((es.take (k + 1)).map (hiF ps l) = (es.take k).map (hiF ps l) ++ [hiF ps l (e : Int)]) := Lib.hid (by rw [take_succ_nth (by omega), List.map_append, hei]; rfl)
      have he' : e < ps.length := by have := Hl.out; omega
      have hwl := way_length HTr.out.toPa e he'
      have Hwn : Hid (∀ j, j < (way ps e).length → ∃ X : Nat, X < nP ∧ nth (way ps e) j = (X : Int)) := Lib.hid fun j hj => by
        obtain ⟨X, h1, h2⟩ := nth_way HTr.out.toPa he' hj
        exact ⟨X, by omega, h2⟩
      have Hv : Hid (hiF ps l (e : Int) = mxT (fun y => nth l y.toNat) (way ps e) (way ps e).length) := Lib.hid (by rw [hiF, hiN, Int.toNat_natCast])
      have Hmx0 : Hid (mxT (fun y => nth l y.toNat) (way ps e) 0 = nth l 0) := Lib.hid rfl
      have Hmx : Hid (∀ j X : Nat, nth (way ps e) j = (X : Int) → mxT (fun y => nth l y.toNat) (way ps e) (j + 1) = max (mxT (fun y => nth l y.toNat) (way ps e) j) (nth l X)) := Lib.hid fun j X hX => by rw [mxT, hX, Int.toNat_natCast]
      clear he2 hei
      generalize (es.take k).map (hiF ps l) = acc at *
      obtain ⟨bL0, oL0, hL0e, hcL0⟩ := HL.out.at (i := 0) hbel (by omega)
      rw [Nat.add_zero] at hcL0
      cases hL0e
      go_upto_region 8 with fail
      go_wp2_with (go_at_call 93; refine (impl_way _ _ _ _ _ _ ps ws e _ (H.out.below hbel) HTr.out.toPa he).mono ?_; rintro e' w7 ⟨v7, rfl, o7, b7⟩; obtain ⟨a7, c7, rfl⟩ := o7.shape)
      have W7 := Lib.hid o7.ints
      have hb17 := hbel.trans (b7.mono hbel.size)
      have HL7 := Lib.hid (HL.out.below hb17)
      have HO7 := Lib.hid (HO.out.below b7)
      have HE7 := Lib.hid (HE.out.below b7)
      have HP7 := Lib.hid (HP.out.below b7)
      have hsz7 : w4.heap.size ≤ w7.heap.size := Nat.le_trans hsz b7.size
      have hk1 : k + 1 ≤ es.length := by omega
      clear o7 HO HE HP x0 x1 hce hlt
      generalize hwy : way ps e = wy at *
      clear hwy
      generalize hL0 : nth l 0 = q0 at *
      generalize hmf : mxT (fun y => nth l y.toNat) wy = mf at *
      clear hmf
      go_loop [9, 36] (fun v9 v36 => ∃ i : Nat, i ≤ wy.length ∧ v36 = .int .i64 (i : Int) ∧ v9 = .int .i64 (mf i)) (fun _ v36 => wy.length - (intOf v36).toNat)
      case atStart => exact ⟨0, Nat.zero_le _, rfl, by rw [Hmx0.out]⟩
      case round =>
        obtain ⟨i, hi, rfl, rfl⟩ := hrel
        by_cases hlt : (i : Int) < wy.length
        · obtain ⟨b8, o8, rfl, hc8⟩ := W7.out.at (i := i) (Below.refl _ _) (by omega)
          obtain ⟨X, hX, hXe⟩ := Hwn.out i (by omega)
          rw [hXe] at hc8
          obtain ⟨bL, oL, hLe, hcL⟩ := HL7.out.at (i := X) (Below.refl _ _) (by omega)
          cases hLe
          have hst := Hmx.out i X hXe
          have k4 : (0 : Int) ≤ (X : Int) := by omega
          have k5 : (X : Int) < (nP : Int) := by omega
          clear hXe
          generalize nth l X = u at *
          have Hst := Lib.hid hst
          clear hst
          generalize hcur : mf i = cur at *
          go_wp2_with fail
          go_round
          case rel => exact ⟨i + 1, by omega, by go_num, by rw [Hst.out]⟩
          case measure => simp [intOf] <;> omega
        · obtain rfl : i = wy.length := by omega
          have hval : mf wy.length = hiF ps l (e : Int) := Hv.out.symm
          rw [hval]
          clear hval
          go_wp2_with (at_builtin; refine wp_push2 (.tmp 47) (.tmp 49) rfl rfl (w4.heap.size) _ _ rfl HO7.out rfl (by omega) hsz7 ?_; intro v' w' ho hb hm)
          have hE2 := HE7.out.moved hm Hap.out
          go_roundw
          case rel => exact ⟨k + 1, hk1, by go_num, by rw [Hf.out]; exact ho, hE2.1, hE2.2, HP7.out.up hb (by have := Hlt.out; omega), hb17.trans (hb.mono (by have := Hlt.out; omega)), Nat.le_trans hsz7 hb.size⟩
          case measure => simp [intOf] <;> omega
    · obtain rfl : k = es.length := by omega
      have hown := HO.out
      rw [List.take_length] at hown
      have HO2 := Lib.hid hown
      clear hown HO
      go_wp2_with fail
      go_ret2
      exact ⟨_, by rw [Hpays.out]; rfl, by rw [hiV_yes Hpays.out, Hes.out]; exact HO2.out.mono (by have := Hlt.out; omega), hbel⟩
set_option maxRecDepth 100000 in
set_option maxHeartbeats 2000000 in
theorem spec_HighestOf (aP : Option Addr) (nP cP : Nat) (aW : Option Addr) (nW cW : Nat) (ps ws : List Int) (aL : Option Addr) (nL cL : Nat) (l : List Int) (w : World) (h : Tre w aP nP cP aW nW cW ps ws) (hL : Ints w aL nL l) (_hLc : aL = none → cL = 0) (hn : nL ≤ 1048576) :
    Calls Try.prog 15 #[.agg #[.slice aP nP cP, .slice aW nW cW], .slice aL nL cL] w fun e w' => ∃ v, e = .returned (.tuple #[v, .bool (paysB ps ws l)]) ∧ Own w' w.heap.size v (hiV ps ws l) ∧ Below w.heap.size w w' := by
  have hl := h.p.1
  have hlw := h.w.1
  have hpn := h.pn
  have hwn := h.wn
  have hb1 := below_new w (.cells #[.slice aP nP cP, .slice aW nW cW] 26)
  have hP1 := Lib.hid (Pair.new w (.slice aP nP cP) (.slice aW nW cW) 26)
  have H := Lib.hid h
  have Hl := Lib.hid hl
  have Hlw := Lib.hid hlw
  clear h hl hlw
  have HL := Lib.hid hL
  have hll := Lib.hid hL.1
  clear hL
  have hnil := own_nil0 (w.alloc (.cells #[.slice aP nP cP, .slice aW nW cW] 26))
  rw [show (w.alloc (.cells #[.slice aP nP cP, .slice aW nW cW] 26)).heap.size = w.heap.size + 1 by simp] at hnil
  have hb2 : Below w.heap.size w ((w.alloc (.cells #[.slice aP nP cP, .slice aW nW cW] 26)).alloc (.cells #[] 3)) := hb1.alloc (by simp) _
  have hP2 := Lib.hid (hP1.out.alloc (.cells #[] 3))
  have hs2 : ((w.alloc (.cells #[.slice aP nP cP, .slice aW nW cW] 26)).alloc (.cells #[] 3)).heap.size = w.heap.size + 2 := by simp
  have c0 := hP2.out.c0
  have c1 := hP2.out.c1
  go_enter Try.func15, Try.ntmps15
  go_wp2_with fail
  generalize ((w.alloc (.cells #[.slice aP nP cP, .slice aW nW cW] 26)).alloc (.cells #[] 3)) = w2 at *
  clear hP1 hb1
  refine (spec_l3Good _ _ _ _ _ _ ps ws _ _ _ l _ (H.out.below hb2) (HL.out.below hb2) hn).mono ?_
  rintro e w3 ⟨rfl, hb3⟩
  have hP3 := hP2.out.below hb3
  have d0 := hP3.c0
  have d1 := hP3.c1
  have HP24 := Lib.hid hP3
  have hnil := hnil.below hb3
  have hb24 := hb2.trans (hb3.mono hb2.size)
  have hs24 : w.heap.size + 2 ≤ w3.heap.size := by have := hb3.size; omega
  have Hlt : Hid (w.heap.size < w.heap.size + 1) := Lib.hid (by omega)
  clear hP3 hb3 hb2 hP2 hs2
  try clear c0 c1
  cases hT : paysB ps ws l
  · have Hno := Lib.hid hT
    clear hT
    go_wp2_with fail
    go_ret2
    exact ⟨_, by rw [Hno.out]; rfl, by rw [hiV_no Hno.out]; exact hnil.mono (Nat.le_succ _), hb24⟩
  have Hpays := Lib.hid hT
  have hpt := paysB_t hT
  have hTr := hpt.1
  have hn24 := hTr.n24
  have hn1 := hTr.n1
  have hnL : nP = nL := by have := hll.out; have := hpt.2.2.2.1; have := Hl.out; omega
  have hnP : 1 ≤ nP ∧ nP ≤ 24 := by have := Hl.out; omega
  have Hpp := Lib.hid hpt.2.2.2.2
  have HTr := Lib.hid hTr
  clear hT hpt hn24 hn1 hTr hpn hwn
  subst hnL
  have c0 := HP24.out.c0
  have c1 := HP24.out.c1
  clear d0 d1
  go_wp2_with fail
  refine (spec_l2Ends _ _ _ _ _ _ ps ws _ (H.out.below hb24) HTr.out.toPa).mono ?_
  rintro e w6 ⟨v, rfl, ho, hb6⟩
  obtain ⟨a3, c3, rfl⟩ := ho.shape
  have HE := Lib.hid ho.ints
  have HP6 := Lib.hid (HP24.out.below hb6)
  have HO6 := Lib.hid (hnil.below hb6)
  have hb16 := hb24.trans (hb6.mono hb24.size)
  have hel : (ends ps).length ≤ 24 := ends_len HTr.out.toPa
  have hap0 : Hid (0 < (ends ps).length → Apart a3 (Value.slice (some ⟨w.heap.size + 1, 0, none⟩) 0 0)) := Lib.hid fun h0 p hp e => by
    obtain ⟨g, cap, he, hg, _⟩ := ho.form h0
    cases he
    cases hp
    simp [Value.ownBlock] at e
    omega
  have hsz0 : w.heap.size + 1 ≤ w6.heap.size := by have := hb6.size; omega
  have Hen : Hid (∀ i, i < (ends ps).length → ∃ e : Nat, e < nP ∧ endB ps e = true ∧ nth (ends ps) i = (e : Int)) := Lib.hid fun i hi => by
    obtain ⟨e, h1, h2, h3⟩ := end_nth hi
    exact ⟨e, by have := Hl.out; omega, h2, h3⟩
  clear ho hnil hb6 hb24 HP24 hs24 c0 c1
  generalize hes : ends ps = es at *
  have Hes := Lib.hid hes
  clear hes
  go_wp2_with fail
  go_loopw [6, 8] (fun v6 v8 wr => ∃ k : Nat, k ≤ es.length ∧ v8 = .int .i64 (k : Int) ∧ Own wr (w.heap.size + 1) v6 ((es.take k).map (hiF ps l)) ∧ Ints wr a3 es.length es ∧ (0 < es.length → Apart a3 v6) ∧ Pair wr w.heap.size (.slice aP nP cP) (.slice aW nW cW) ∧ Below w.heap.size w wr ∧ w.heap.size + 1 ≤ wr.heap.size) (fun _ v8 _ => es.length - (intOf v8).toNat)
  case atStart => exact ⟨0, Nat.zero_le _, rfl, by simpa using HO6.out, HE.out, hap0.out, HP6.out, hb16, hsz0⟩
  case round =>
    clear hb16 HO6 HE hap0 HP6 hsz0
    obtain ⟨k, hk, rfl, hown, hE, hap, hP, hbel, hsz⟩ := hrel
    have HE := Lib.hid hE
    have Hap := Lib.hid hap
    have HP := Lib.hid hP
    have HO := Lib.hid hown
    have x0 := hP.c0
    have x1 := hP.c1
    clear hE hap hP hown
    obtain ⟨wo, rfl⟩ : ∃ wo, wo = wr := ⟨_, rfl⟩
    by_cases hlt : (k : Int) < es.length
    · obtain ⟨be, oe, rfl, hce⟩ := HE.out.at (i := k) (Below.refl _ _) (by omega)
      obtain ⟨e, he, he2, hei⟩ := Hen.out k (by omega)
      rw [hei] at hce
      have hlen : ((es.take k).map (hiF ps l)).length ≤ 24 := by rw [List.length_map, List.length_take]; omega
      have Hf : Hid ((es.take (k + 1)).map (hiF ps l) = (es.take k).map (hiF ps l) ++ [hiF ps l (e : Int)]) := Lib.hid (by rw [take_succ_nth (by omega), List.map_append, hei]; rfl)
      have he' : e < ps.length := by have := Hl.out; omega
      have hwl := way_length HTr.out.toPa e he'
      have Hwn : Hid (∀ j, j < (way ps e).length → ∃ X : Nat, X < nP ∧ nth (way ps e) j = (X : Int)) := Lib.hid fun j hj => by
        obtain ⟨X, h1, h2⟩ := nth_way HTr.out.toPa he' hj
        exact ⟨X, by omega, h2⟩
      have Hv : Hid (hiF ps l (e : Int) = mxT (fun y => nth l y.toNat) (way ps e) (way ps e).length) := Lib.hid (by rw [hiF, hiN, Int.toNat_natCast])
      have Hmx0 : Hid (mxT (fun y => nth l y.toNat) (way ps e) 0 = nth l 0) := Lib.hid rfl
      have Hmx : Hid (∀ j X : Nat, nth (way ps e) j = (X : Int) → mxT (fun y => nth l y.toNat) (way ps e) (j + 1) = max (mxT (fun y => nth l y.toNat) (way ps e) j) (nth l X)) := Lib.hid fun j X hX => by rw [mxT, hX, Int.toNat_natCast]
      clear he2 hei
      generalize (es.take k).map (hiF ps l) = acc at *
      have Hcw : Hid (∀ W : World, KeepR wo W → Calls Try.prog 90 #[.agg #[.slice aP nP cP, .slice aW nW cW], .int .i64 (e : Int)] W fun e' w' => ∃ v, e' = .returned v ∧ Own w' W.heap.size v (way ps e) ∧ Below W.heap.size W w') := Lib.hid fun W hW => spec_l2Way _ _ _ _ _ _ ps ws e W (H.out.below (hbel.trans (Below.mono hW hbel.size))) HTr.out.toPa he
      go_wp2_with fail
      go_region_held3 (fun W' => KeepR wo W' ∧ W'.cell? ⟨w.heap.size, 0, none⟩ = some (.slice aP nP cP) ∧ W'.cell? ⟨w.heap.size, 1, none⟩ = some (.slice aW nW cW) ∧ W'.cell? ⟨be, oe + k, none⟩ = some (.int .i64 (e : Int)))
        (first | exact keepC3 (by assumption) x0 x1 hce | exact keepC3 (KeepR.start _) x0 x1 hce)
        (first
          | (go_at_call 90; refine (Hcw.out _ (by assumption : KeepR wo _ ∧ _).1).mono ?_; rintro e' w7 ⟨v7, rfl, o7, b7'⟩; have hk7 := KeepR.next b7' (by assumption : KeepR wo _ ∧ _).1; obtain ⟨a7, c7, rfl⟩ := o7.shape))
      have b7 : Below wo.heap.size wo w7 := hk7
      obtain ⟨bL0, oL0, hL0e, hcL0⟩ := HL.out.at (i := 0) (hbel.trans (b7.mono hbel.size)) (by omega)
      rw [Nat.add_zero] at hcL0
      cases hL0e
      go_wp2_with fail
      have W7 := Lib.hid o7.ints
      have hb17 := hbel.trans (b7.mono hbel.size)
      have HL7 := Lib.hid (HL.out.below hb17)
      have HO7 := Lib.hid (HO.out.below b7)
      have HE7 := Lib.hid (HE.out.below b7)
      have HP7 := Lib.hid (HP.out.below b7)
      have hsz7 : w.heap.size + 1 ≤ w7.heap.size := Nat.le_trans hsz b7.size
      have hk1 : k + 1 ≤ es.length := by omega
      clear o7 HO HE HP x0 x1 hce hlt
      generalize hwy : way ps e = wy at *
      clear hwy
      generalize hL0 : nth l 0 = q0 at *
      generalize hmf : mxT (fun y => nth l y.toNat) wy = mf at *
      clear hmf
      go_loop [10, 11] (fun v10 v11 => ∃ i : Nat, i ≤ wy.length ∧ v11 = .int .i64 (i : Int) ∧ v10 = .int .i64 (mf i)) (fun _ v11 => wy.length - (intOf v11).toNat)
      case atStart => exact ⟨0, Nat.zero_le _, rfl, by rw [Hmx0.out]⟩
      case round =>
        obtain ⟨i, hi, rfl, rfl⟩ := hrel
        by_cases hlt : (i : Int) < wy.length
        · obtain ⟨b8, o8, rfl, hc8⟩ := W7.out.at (i := i) (Below.refl _ _) (by omega)
          obtain ⟨X, hX, hXe⟩ := Hwn.out i (by omega)
          rw [hXe] at hc8
          obtain ⟨bL, oL, hLe, hcL⟩ := HL7.out.at (i := X) (Below.refl _ _) (by omega)
          cases hLe
          have hst := Hmx.out i X hXe
          have k4 : (0 : Int) ≤ (X : Int) := by omega
          have k5 : (X : Int) < (nP : Int) := by omega
          clear hXe
          generalize nth l X = u at *
          have Hst := Lib.hid hst
          have HcM : Hid (∀ W : World, Calls Try.prog 94 #[.int .i64 (mf i), .int .i64 u] W fun e' w' => e' = .returned (.int .i64 (mf (i + 1))) ∧ W = w') := Lib.hid fun W => by
            have hz := spec_l1Most (mf i) u W
            rw [show most (mf i) u = mf (i + 1) by rw [Hst.out]; unfold most; omega] at hz
            exact hz
          clear hst
          generalize hcur : mf i = cur at *
          generalize hnx : mf (i + 1) = nx at *
          go_wp2_with (go_at_call 94; refine (HcM.out _).mono ?_; rintro e' w' ⟨rfl, rfl⟩)
          go_round
          case rel => exact ⟨i + 1, by omega, by go_num, by rw [hnx]⟩
          case measure => simp [intOf] <;> omega
        · obtain rfl : i = wy.length := by omega
          have hval : mf wy.length = hiF ps l (e : Int) := Hv.out.symm
          rw [hval]
          clear hval
          go_wp2_with (at_builtin; refine wp_push2 (.tmp 50) (.tmp 52) rfl rfl (w.heap.size + 1) _ _ rfl HO7.out rfl (by omega) hsz7 ?_; intro v' w' ho hb hm)
          have hE2 := HE7.out.moved hm Hap.out
          go_roundw
          case rel => exact ⟨k + 1, hk1, by go_num, by rw [Hf.out]; exact ho, hE2.1, hE2.2, HP7.out.up hb (by omega), hb17.trans (hb.mono (by omega)), Nat.le_trans hsz7 hb.size⟩
          case measure => simp [intOf] <;> omega
    · obtain rfl : k = es.length := by omega
      have hown := HO.out
      rw [List.take_length] at hown
      have HO2 := Lib.hid hown
      clear hown HO
      go_wp2_with fail
      go_ret2
      exact ⟨_, by rw [Hpays.out]; rfl, by rw [hiV_yes Hpays.out, Hes.out]; exact HO2.out.mono (by omega), hbel⟩
set_option maxRecDepth 100000 in
set_option maxHeartbeats 2000000 in
theorem impl_Crossings (aP : Option Addr) (nP cP : Nat) (aW : Option Addr) (nW cW : Nat) (ps ws : List Int) (aL : Option Addr) (nL cL : Nat) (l : List Int) (lo hi' : Int) (w : World) (h : Tre w aP nP cP aW nW cW ps ws) (hL : Ints w aL nL l) (_hLc : aL = none → cL = 0) (hn : nL ≤ 1048576) :
    Calls Try.prog 18 #[.agg #[.slice aP nP cP, .slice aW nW cW], .slice aL nL cL, .int .i64 lo, .int .i64 hi'] w fun e w' => ∃ v, e = .returned (.tuple #[v, .bool (crB ps ws l lo hi')]) ∧ Own w' w.heap.size v (crV ps ws l lo hi') ∧ Below w.heap.size w w' := by
  have hl := h.p.1
  have hlw := h.w.1
  have hpn := h.pn
  have hwn := h.wn
  have hb1 := below_new w (.cells #[.slice aP nP cP, .slice aW nW cW] 26)
  have hP1 := Lib.hid (Pair.new w (.slice aP nP cP) (.slice aW nW cW) 26)
  have H := Lib.hid h
  have Hl := Lib.hid hl
  have Hlw := Lib.hid hlw
  clear h hl hlw
  have HL := Lib.hid hL
  have hll := Lib.hid hL.1
  clear hL
  have hlt2 := hP1.out.lt
  go_enter Try.func18, Try.ntmps18
  have c0 := hP1.out.c0
  have c1 := hP1.out.c1
  go_wp2_with fail
  generalize (w.alloc (.cells #[.slice aP nP cP, .slice aW nW cW] 26)) = w2 at *
  refine (impl_IsTree _ _ _ _ _ _ ps ws _ (H.out.below hb1)).mono ?_
  rintro e w3 ⟨rfl, hb3⟩
  have hP3 := hP1.out.below hb3
  have d0 := hP3.c0
  have d1 := hP3.c1
  have HP3 := Lib.hid hP3
  have hb13 := hb1.trans (hb3.mono hb1.size)
  clear hP3 c0 c1 hb3
  cases hT : treeB ps ws
  · have Hv := Lib.hid (pays_no1 (l := l) hT)
    clear hT
    go_wp2_with fail
    go_ret2
    exact ⟨_, by rw [cr_no1 Hv.out]; rfl, by rw [crV_no (cr_no1 Hv.out)]; exact Own.nil _ _, hb13⟩
  have HT := Lib.hid hT
  clear hT
  go_wp2_with fail
  refine (impl_isProcess _ _ _ _ _ _ ps ws _ _ _ l _ (H.out.below hb13) (HL.out.below hb13) hn).mono ?_
  rintro e w4 ⟨rfl, hb4⟩
  have hb14 := hb13.trans (hb4.mono hb13.size)
  have hP4 := HP3.out.below hb4
  have e0 := hP4.c0
  have e1 := hP4.c1
  have HP4 := Lib.hid hP4
  clear d0 d1 hP4 hb4
  cases hp : procB ps.length l
  · have Hv := Lib.hid (pays_no2 (ws := ws) hp)
    clear hp
    go_wp2_with fail
    go_ret2
    exact ⟨_, by rw [cr_no1 Hv.out]; rfl, by rw [crV_no (cr_no1 Hv.out)]; exact Own.nil _ _, hb14⟩
  have Hpays := Lib.hid (pays_both HT.out hp)
  have hpp := procB_t hp
  have hTr := treeB_t HT.out
  have hn24 := hTr.n24
  have hn1 := hTr.n1
  have hnL : nP = nL := by have := hll.out; have := hpp.1; have := Hl.out; omega
  have hnW : nP = nW := by have := Hlw.out; have := hTr.wl; have := Hl.out; omega
  have hnP : 1 ≤ nP ∧ nP ≤ 24 := by have := Hl.out; omega
  have Hpp := Lib.hid hpp
  have HTr := Lib.hid hTr
  have HnW := Lib.hid hnW
  have hnW2 : nP ≤ nW := by omega
  clear hp hpp hn24 hn1 hTr hpn hwn hnW
  subst hnL
  by_cases hlh : lo ≥ hi'
  · have Hv := Lib.hid (cr_no2 (ps := ps) (ws := ws) (l := l) hlh)
    go_wp2_with fail
    go_ret2
    exact ⟨_, by rw [Hv.out]; rfl, by rw [crV_no Hv.out]; exact Own.nil _ _, hb14⟩
  have Hy := Lib.hid (cr_yes Hpays.out hlh)
  have Hlh : Hid (lo < hi') := Lib.hid (by omega)
  have hnil := own_nil0 w4
  have hb24 : Below w.heap.size w (w4.alloc (.cells #[] 3)) := hb14.alloc hb14.size _
  have HP24 := Lib.hid (HP4.out.alloc (.cells #[] 3))
  have hs24 : (w4.alloc (.cells #[] 3)).heap.size = w4.heap.size + 1 := by simp
  have Hlt := Lib.hid HP4.out.lt
  have c0 := HP24.out.c0
  have c1 := HP24.out.c1
  clear e0 e1
  go_upto_region 4 with fail
  generalize (w4.alloc (.cells #[] 3)) = w5 at *
  go_wp2_with fail
  refine (impl_ends _ _ _ _ _ _ ps ws _ (H.out.below hb24) HTr.out.toPa).mono ?_
  rintro e w6 ⟨v, rfl, ho, hb6⟩
  obtain ⟨a3, c3, rfl⟩ := ho.shape
  have HE := Lib.hid ho.ints
  have HP6 := Lib.hid (HP24.out.below hb6)
  have HO6 := Lib.hid (hnil.below hb6)
  have hb16 := hb24.trans (hb6.mono hb24.size)
  have hel : (ends ps).length ≤ 24 := ends_len HTr.out.toPa
  have hap0 : Hid (0 < (ends ps).length → Apart a3 (Value.slice (some ⟨w4.heap.size, 0, none⟩) 0 0)) := Lib.hid fun h0 p hp e => by
    obtain ⟨g, cap, he, hg, _⟩ := ho.form h0
    cases he
    cases hp
    simp [Value.ownBlock] at e
    omega
  have hsz0 : w4.heap.size ≤ w6.heap.size := by have := hb6.size; omega
  have Hen : Hid (∀ i, i < (ends ps).length → ∃ e : Nat, e < nP ∧ endB ps e = true ∧ nth (ends ps) i = (e : Int)) := Lib.hid fun i hi => by
    obtain ⟨e, h1, h2, h3⟩ := end_nth hi
    exact ⟨e, by have := Hl.out; omega, h2, h3⟩
  clear ho hnil hb6 hb24 HP24 hs24 c0 c1
  generalize hes : ends ps = es at *
  have Hes := Lib.hid hes
  clear hes
  go_wp2_with fail
  go_loopw [10, 35] (fun v10 v35 wr => ∃ k : Nat, k ≤ es.length ∧ v35 = .int .i64 (k : Int) ∧ Own wr (w4.heap.size) v10 ((es.take k).map (crF ps l lo hi')) ∧ Ints wr a3 es.length es ∧ (0 < es.length → Apart a3 v10) ∧ Pair wr w.heap.size (.slice aP nP cP) (.slice aW nW cW) ∧ Below w.heap.size w wr ∧ w4.heap.size ≤ wr.heap.size) (fun _ v35 _ => es.length - (intOf v35).toNat)
  case atStart => exact ⟨0, Nat.zero_le _, rfl, by simpa using HO6.out, HE.out, hap0.out, HP6.out, hb16, hsz0⟩
  case round =>
    clear hb16 HO6 HE hap0 HP6 hsz0
    obtain ⟨k, hk, rfl, hown, hE, hap, hP, hbel, hsz⟩ := hrel
    have HE := Lib.hid hE
    have Hap := Lib.hid hap
    have HP := Lib.hid hP
    have HO := Lib.hid hown
    have x0 := hP.c0
    have x1 := hP.c1
    clear hE hap hP hown
    obtain ⟨wo, rfl⟩ : ∃ wo, wo = wr := ⟨_, rfl⟩
    by_cases hlt : (k : Int) < es.length
    · obtain ⟨be, oe, rfl, hce⟩ := HE.out.at (i := k) (Below.refl _ _) (by omega)
      obtain ⟨e, he, he2, hei⟩ := Hen.out k (by omega)
      rw [hei] at hce
      have hlen : ((es.take k).map (crF ps l lo hi')).length ≤ 24 := by rw [List.length_map, List.length_take]; omega
      have Hf : Hid ((es.take (k + 1)).map (crF ps l lo hi') = (es.take k).map (crF ps l lo hi') ++ [crF ps l lo hi' (e : Int)]) := Lib.hid (by rw [take_succ_nth (by omega), List.map_append, hei]; rfl)
      have he' : e < ps.length := by have := Hl.out; omega
      have hwl := way_length HTr.out.toPa e he'
      have Hwn : Hid (∀ j, j < (way ps e).length → ∃ X : Nat, X < nP ∧ nth (way ps e) j = (X : Int)) := Lib.hid fun j hj => by
        obtain ⟨X, h1, h2⟩ := nth_way HTr.out.toPa he' hj
        exact ⟨X, by omega, h2⟩
      have Hv : Hid (crF ps l lo hi' (e : Int) = (crL (fun y => nth l y.toNat) lo hi' (way ps e) (way ps e).length).1) := Lib.hid (by rw [crF, crN, Int.toNat_natCast])
      have Hcr0 : Hid (crL (fun y => nth l y.toNat) lo hi' (way ps e) 0 = (0, false)) := Lib.hid rfl
      have Hcr : Hid (∀ j X : Nat, nth (way ps e) j = (X : Int) → crL (fun y => nth l y.toNat) lo hi' (way ps e) (j + 1) = crS lo hi' (nth l X) (crL (fun y => nth l y.toNat) lo hi' (way ps e) j)) := Lib.hid fun j X hX => by rw [crL, hX, Int.toNat_natCast]
      have Hcb := Lib.hid (crL_bd (fun y => nth l y.toNat) lo hi' (way ps e))
      clear he2 hei
      generalize (es.take k).map (crF ps l lo hi') = acc at *
      go_upto_region 8 with fail
      go_wp2_with (go_at_call 93; refine (impl_way _ _ _ _ _ _ ps ws e _ (H.out.below hbel) HTr.out.toPa he).mono ?_; rintro e' w7 ⟨v7, rfl, o7, b7⟩; obtain ⟨a7, c7, rfl⟩ := o7.shape)
      have W7 := Lib.hid o7.ints
      have hb17 := hbel.trans (b7.mono hbel.size)
      have HL7 := Lib.hid (HL.out.below hb17)
      have HO7 := Lib.hid (HO.out.below b7)
      have HE7 := Lib.hid (HE.out.below b7)
      have HP7 := Lib.hid (HP.out.below b7)
      have hsz7 : w4.heap.size ≤ w7.heap.size := Nat.le_trans hsz b7.size
      have hk1 : k + 1 ≤ es.length := by omega
      clear o7 HO HE HP x0 x1 hce hlt
      generalize hwy : way ps e = wy at *
      clear hwy
      generalize hmf : crL (fun y => nth l y.toNat) lo hi' wy = mf at *
      clear hmf
      go_loop [13, 14, 43] (fun v13 v14 v43 => ∃ i : Nat, i ≤ wy.length ∧ v43 = .int .i64 (i : Int) ∧ v13 = .int .i64 (mf i).1 ∧ v14 = .bool (mf i).2) (fun _ _ v43 => wy.length - (intOf v43).toNat)
      case atStart => exact ⟨0, Nat.zero_le _, rfl, by rw [Hcr0.out], by rw [Hcr0.out]⟩
      case round =>
        obtain ⟨i, hi, rfl, rfl, rfl⟩ := hrel
        by_cases hlt : (i : Int) < wy.length
        · obtain ⟨b8, o8, rfl, hc8⟩ := W7.out.at (i := i) (Below.refl _ _) (by omega)
          obtain ⟨X, hX, hXe⟩ := Hwn.out i (by omega)
          rw [hXe] at hc8
          obtain ⟨bL, oL, hLe, hcL⟩ := HL7.out.at (i := X) (Below.refl _ _) (by omega)
          cases hLe
          have hst := Hcr.out i X hXe
          have hcb := Hcb.out i
          have k4 : (0 : Int) ≤ (X : Int) := by omega
          have k5 : (X : Int) < (nP : Int) := by omega
          clear hXe
          generalize nth l X = u at *
          have k6 : IntKind.i64.wrap ((mf i).1 + 1) = (mf i).1 + 1 := IntWalk.i64_in _ (by omega)
          clear hcb
          cases hb : (mf i).2
          · rw [pair_snd hb] at hst
            clear hb
            by_cases hu : u ≤ lo
            · rw [crS_1 hu] at hst
              have Hst := Lib.hid hst
              clear hst
              generalize (mf i).1 = cu at *
              go_wp2_with fail
              go_round
              case rel => exact ⟨i + 1, by omega, by go_num, by rw [Hst.out], by rw [Hst.out]⟩
              case measure => simp [intOf] <;> omega
            · rw [crS_2 hu] at hst
              have Hst := Lib.hid hst
              clear hst
              generalize (mf i).1 = cu at *
              go_wp2_with fail
              go_round
              case rel => exact ⟨i + 1, by omega, by go_num, by rw [Hst.out], by rw [Hst.out]⟩
              case measure => simp [intOf] <;> omega
          · rw [pair_snd hb] at hst
            clear hb
            by_cases hu : u ≥ hi'
            · rw [crS_3 hu] at hst
              have hnl : ¬ u ≤ lo := by have := Hlh.out; omega
              have Hst := Lib.hid hst
              clear hst
              generalize (mf i).1 = cu at *
              go_wp2_with fail
              go_round
              case rel => exact ⟨i + 1, by omega, by go_num, by rw [Hst.out], by rw [Hst.out]⟩
              case measure => simp [intOf] <;> omega
            · rw [crS_4 hu] at hst
              have Hst := Lib.hid hst
              clear hst
              generalize (mf i).1 = cu at *
              go_wp2_with fail
              go_round
              case rel => exact ⟨i + 1, by omega, by go_num, by rw [Hst.out], by rw [Hst.out]⟩
              case measure => simp [intOf] <;> omega
        · obtain rfl : i = wy.length := by omega
          have hval : (mf wy.length).1 = crF ps l lo hi' (e : Int) := Hv.out.symm
          rw [hval]
          clear hval
          generalize (mf wy.length).2 = fb at *
          go_wp2_with (at_builtin; refine wp_push2 (.tmp 71) (.tmp 73) rfl rfl (w4.heap.size) _ _ rfl HO7.out rfl (by omega) hsz7 ?_; intro v' w' ho hb hm)
          have hE2 := HE7.out.moved hm Hap.out
          go_roundw
          case rel => exact ⟨k + 1, hk1, by go_num, by rw [Hf.out]; exact ho, hE2.1, hE2.2, HP7.out.up hb (by have := Hlt.out; omega), hb17.trans (hb.mono (by have := Hlt.out; omega)), Nat.le_trans hsz7 hb.size⟩
          case measure => simp [intOf] <;> omega
    · obtain rfl : k = es.length := by omega
      have hown := HO.out
      rw [List.take_length] at hown
      have HO2 := Lib.hid hown
      clear hown HO
      go_wp2_with fail
      go_ret2
      exact ⟨_, by rw [Hy.out]; rfl, by rw [crV_yes Hy.out, Hes.out]; exact HO2.out.mono (by have := Hlt.out; omega), hbel⟩
set_option maxRecDepth 100000 in
set_option maxHeartbeats 2000000 in
theorem spec_Crossings (aP : Option Addr) (nP cP : Nat) (aW : Option Addr) (nW cW : Nat) (ps ws : List Int) (aL : Option Addr) (nL cL : Nat) (l : List Int) (lo hi' : Int) (w : World) (h : Tre w aP nP cP aW nW cW ps ws) (hL : Ints w aL nL l) (_hLc : aL = none → cL = 0) (hn : nL ≤ 1048576) :
    Calls Try.prog 19 #[.agg #[.slice aP nP cP, .slice aW nW cW], .slice aL nL cL, .int .i64 lo, .int .i64 hi'] w fun e w' => ∃ v, e = .returned (.tuple #[v, .bool (crB ps ws l lo hi')]) ∧ Own w' w.heap.size v (crV ps ws l lo hi') ∧ Below w.heap.size w w' := by
  have hl := h.p.1
  have hlw := h.w.1
  have hpn := h.pn
  have hwn := h.wn
  have hb1 := below_new w (.cells #[.slice aP nP cP, .slice aW nW cW] 26)
  have hP1 := Lib.hid (Pair.new w (.slice aP nP cP) (.slice aW nW cW) 26)
  have H := Lib.hid h
  have Hl := Lib.hid hl
  have Hlw := Lib.hid hlw
  clear h hl hlw
  have HL := Lib.hid hL
  have hll := Lib.hid hL.1
  clear hL
  have hnil := own_nil0 (w.alloc (.cells #[.slice aP nP cP, .slice aW nW cW] 26))
  rw [show (w.alloc (.cells #[.slice aP nP cP, .slice aW nW cW] 26)).heap.size = w.heap.size + 1 by simp] at hnil
  have hb2 : Below w.heap.size w ((w.alloc (.cells #[.slice aP nP cP, .slice aW nW cW] 26)).alloc (.cells #[] 3)) := hb1.alloc (by simp) _
  have hP2 := Lib.hid (hP1.out.alloc (.cells #[] 3))
  have hs2 : ((w.alloc (.cells #[.slice aP nP cP, .slice aW nW cW] 26)).alloc (.cells #[] 3)).heap.size = w.heap.size + 2 := by simp
  have c0 := hP2.out.c0
  have c1 := hP2.out.c1
  go_enter Try.func19, Try.ntmps19
  go_wp2_with fail
  generalize ((w.alloc (.cells #[.slice aP nP cP, .slice aW nW cW] 26)).alloc (.cells #[] 3)) = w2 at *
  clear hP1 hb1
  refine (spec_l3Good _ _ _ _ _ _ ps ws _ _ _ l _ (H.out.below hb2) (HL.out.below hb2) hn).mono ?_
  rintro e w3 ⟨rfl, hb3⟩
  have hP3 := hP2.out.below hb3
  have d0 := hP3.c0
  have d1 := hP3.c1
  have HP24 := Lib.hid hP3
  have hnil := hnil.below hb3
  have hb24 := hb2.trans (hb3.mono hb2.size)
  have hs24 : w.heap.size + 2 ≤ w3.heap.size := by have := hb3.size; omega
  have Hlt : Hid (w.heap.size < w.heap.size + 1) := Lib.hid (by omega)
  clear hP3 hb3 hb2 hP2 hs2
  try clear c0 c1
  cases hT : paysB ps ws l
  · have Hno := Lib.hid hT
    clear hT
    go_wp2_with fail
    go_ret2
    exact ⟨_, by rw [cr_no1 Hno.out]; rfl, by rw [crV_no (cr_no1 Hno.out)]; exact hnil.mono (Nat.le_succ _), hb24⟩
  have Hpays := Lib.hid hT
  have hpt := paysB_t hT
  have hTr := hpt.1
  have hn24 := hTr.n24
  have hn1 := hTr.n1
  have hnL : nP = nL := by have := hll.out; have := hpt.2.2.2.1; have := Hl.out; omega
  have hnP : 1 ≤ nP ∧ nP ≤ 24 := by have := Hl.out; omega
  have Hpp := Lib.hid hpt.2.2.2.2
  have HTr := Lib.hid hTr
  clear hT hpt hn24 hn1 hTr hpn hwn
  subst hnL
  by_cases hlh : lo ≥ hi'
  · have Hv := Lib.hid (cr_no2 (ps := ps) (ws := ws) (l := l) hlh)
    go_wp2_with fail
    go_ret2
    exact ⟨_, by rw [Hv.out]; rfl, by rw [crV_no Hv.out]; exact hnil.mono (Nat.le_succ _), hb24⟩
  have Hy := Lib.hid (cr_yes Hpays.out hlh)
  have Hlh : Hid (lo < hi') := Lib.hid (by omega)
  have c0 := HP24.out.c0
  have c1 := HP24.out.c1
  clear d0 d1
  go_wp2_with fail
  refine (spec_l2Ends _ _ _ _ _ _ ps ws _ (H.out.below hb24) HTr.out.toPa).mono ?_
  rintro e w6 ⟨v, rfl, ho, hb6⟩
  obtain ⟨a3, c3, rfl⟩ := ho.shape
  have HE := Lib.hid ho.ints
  have HP6 := Lib.hid (HP24.out.below hb6)
  have HO6 := Lib.hid (hnil.below hb6)
  have hb16 := hb24.trans (hb6.mono hb24.size)
  have hel : (ends ps).length ≤ 24 := ends_len HTr.out.toPa
  have hap0 : Hid (0 < (ends ps).length → Apart a3 (Value.slice (some ⟨w.heap.size + 1, 0, none⟩) 0 0)) := Lib.hid fun h0 p hp e => by
    obtain ⟨g, cap, he, hg, _⟩ := ho.form h0
    cases he
    cases hp
    simp [Value.ownBlock] at e
    omega
  have hsz0 : w.heap.size + 1 ≤ w6.heap.size := by have := hb6.size; omega
  have Hen : Hid (∀ i, i < (ends ps).length → ∃ e : Nat, e < nP ∧ endB ps e = true ∧ nth (ends ps) i = (e : Int)) := Lib.hid fun i hi => by
    obtain ⟨e, h1, h2, h3⟩ := end_nth hi
    exact ⟨e, by have := Hl.out; omega, h2, h3⟩
  clear ho hnil hb6 hb24 HP24 hs24 c0 c1
  generalize hes : ends ps = es at *
  have Hes := Lib.hid hes
  clear hes
  go_wp2_with fail
  go_loopw [10, 12] (fun v10 v12 wr => ∃ k : Nat, k ≤ es.length ∧ v12 = .int .i64 (k : Int) ∧ Own wr (w.heap.size + 1) v10 ((es.take k).map (crF ps l lo hi')) ∧ Ints wr a3 es.length es ∧ (0 < es.length → Apart a3 v10) ∧ Pair wr w.heap.size (.slice aP nP cP) (.slice aW nW cW) ∧ Below w.heap.size w wr ∧ w.heap.size + 1 ≤ wr.heap.size) (fun _ v12 _ => es.length - (intOf v12).toNat)
  case atStart => exact ⟨0, Nat.zero_le _, rfl, by simpa using HO6.out, HE.out, hap0.out, HP6.out, hb16, hsz0⟩
  case round =>
    clear hb16 HO6 HE hap0 HP6 hsz0
    obtain ⟨k, hk, rfl, hown, hE, hap, hP, hbel, hsz⟩ := hrel
    have HE := Lib.hid hE
    have Hap := Lib.hid hap
    have HP := Lib.hid hP
    have HO := Lib.hid hown
    have x0 := hP.c0
    have x1 := hP.c1
    clear hE hap hP hown
    obtain ⟨wo, rfl⟩ : ∃ wo, wo = wr := ⟨_, rfl⟩
    by_cases hlt : (k : Int) < es.length
    · obtain ⟨be, oe, rfl, hce⟩ := HE.out.at (i := k) (Below.refl _ _) (by omega)
      obtain ⟨e, he, he2, hei⟩ := Hen.out k (by omega)
      rw [hei] at hce
      have hlen : ((es.take k).map (crF ps l lo hi')).length ≤ 24 := by rw [List.length_map, List.length_take]; omega
      have Hf : Hid ((es.take (k + 1)).map (crF ps l lo hi') = (es.take k).map (crF ps l lo hi') ++ [crF ps l lo hi' (e : Int)]) := Lib.hid (by rw [take_succ_nth (by omega), List.map_append, hei]; rfl)
      have he' : e < ps.length := by have := Hl.out; omega
      have hwl := way_length HTr.out.toPa e he'
      have Hwn : Hid (∀ j, j < (way ps e).length → ∃ X : Nat, X < nP ∧ nth (way ps e) j = (X : Int)) := Lib.hid fun j hj => by
        obtain ⟨X, h1, h2⟩ := nth_way HTr.out.toPa he' hj
        exact ⟨X, by omega, h2⟩
      have Hv : Hid (crF ps l lo hi' (e : Int) = (crL (fun y => nth l y.toNat) lo hi' (way ps e) (way ps e).length).1) := Lib.hid (by rw [crF, crN, Int.toNat_natCast])
      have Hcr0 : Hid (crL (fun y => nth l y.toNat) lo hi' (way ps e) 0 = (0, false)) := Lib.hid rfl
      have Hcr : Hid (∀ j X : Nat, nth (way ps e) j = (X : Int) → crL (fun y => nth l y.toNat) lo hi' (way ps e) (j + 1) = crS lo hi' (nth l X) (crL (fun y => nth l y.toNat) lo hi' (way ps e) j)) := Lib.hid fun j X hX => by rw [crL, hX, Int.toNat_natCast]
      have Hcb := Lib.hid (crL_bd (fun y => nth l y.toNat) lo hi' (way ps e))
      clear he2 hei
      generalize (es.take k).map (crF ps l lo hi') = acc at *
      have Hcw : Hid (∀ W : World, KeepR wo W → Calls Try.prog 90 #[.agg #[.slice aP nP cP, .slice aW nW cW], .int .i64 (e : Int)] W fun e' w' => ∃ v, e' = .returned v ∧ Own w' W.heap.size v (way ps e) ∧ Below W.heap.size W w') := Lib.hid fun W hW => spec_l2Way _ _ _ _ _ _ ps ws e W (H.out.below (hbel.trans (Below.mono hW hbel.size))) HTr.out.toPa he
      go_wp2_with fail
      go_region_held3 (fun W' => KeepR wo W' ∧ W'.cell? ⟨w.heap.size, 0, none⟩ = some (.slice aP nP cP) ∧ W'.cell? ⟨w.heap.size, 1, none⟩ = some (.slice aW nW cW) ∧ W'.cell? ⟨be, oe + k, none⟩ = some (.int .i64 (e : Int)))
        (first | exact keepC3 (by assumption) x0 x1 hce | exact keepC3 (KeepR.start _) x0 x1 hce)
        (first
          | (go_at_call 90; refine (Hcw.out _ (by assumption : KeepR wo _ ∧ _).1).mono ?_; rintro e' w7 ⟨v7, rfl, o7, b7'⟩; have hk7 := KeepR.next b7' (by assumption : KeepR wo _ ∧ _).1; obtain ⟨a7, c7, rfl⟩ := o7.shape))
      have b7 : Below wo.heap.size wo w7 := hk7
      go_wp2_with fail
      have W7 := Lib.hid o7.ints
      have hb17 := hbel.trans (b7.mono hbel.size)
      have HL7 := Lib.hid (HL.out.below hb17)
      have HO7 := Lib.hid (HO.out.below b7)
      have HE7 := Lib.hid (HE.out.below b7)
      have HP7 := Lib.hid (HP.out.below b7)
      have hsz7 : w.heap.size + 1 ≤ w7.heap.size := Nat.le_trans hsz b7.size
      have hk1 : k + 1 ≤ es.length := by omega
      clear o7 HO HE HP x0 x1 hce hlt
      generalize hwy : way ps e = wy at *
      clear hwy
      generalize hmf : crL (fun y => nth l y.toNat) lo hi' wy = mf at *
      clear hmf
      go_loop [14, 15, 16] (fun v14 v15 v16 => ∃ i : Nat, i ≤ wy.length ∧ v16 = .int .i64 (i : Int) ∧ v14 = .int .i64 (mf i).1 ∧ v15 = .bool (mf i).2) (fun _ _ v16 => wy.length - (intOf v16).toNat)
      case atStart => exact ⟨0, Nat.zero_le _, rfl, by rw [Hcr0.out], by rw [Hcr0.out]⟩
      case round =>
        obtain ⟨i, hi, rfl, rfl, rfl⟩ := hrel
        by_cases hlt : (i : Int) < wy.length
        · obtain ⟨b8, o8, rfl, hc8⟩ := W7.out.at (i := i) (Below.refl _ _) (by omega)
          obtain ⟨X, hX, hXe⟩ := Hwn.out i (by omega)
          rw [hXe] at hc8
          obtain ⟨bL, oL, hLe, hcL⟩ := HL7.out.at (i := X) (Below.refl _ _) (by omega)
          cases hLe
          have hst := Hcr.out i X hXe
          have hcb := Hcb.out i
          have k4 : (0 : Int) ≤ (X : Int) := by omega
          have k5 : (X : Int) < (nP : Int) := by omega
          clear hXe
          generalize nth l X = u at *
          have k6 : IntKind.i64.wrap ((mf i).1 + 1) = (mf i).1 + 1 := IntWalk.i64_in _ (by omega)
          clear hcb
          cases hb : (mf i).2
          · rw [pair_snd hb] at hst
            clear hb
            by_cases hu : u ≤ lo
            · rw [crS_1 hu] at hst
              have Hst := Lib.hid hst
              clear hst
              generalize (mf i).1 = cu at *
              go_wp2_with fail
              go_round
              case rel => exact ⟨i + 1, by omega, by go_num, by rw [Hst.out], by rw [Hst.out]⟩
              case measure => simp [intOf] <;> omega
            · rw [crS_2 hu] at hst
              have Hst := Lib.hid hst
              clear hst
              generalize (mf i).1 = cu at *
              go_wp2_with fail
              go_round
              case rel => exact ⟨i + 1, by omega, by go_num, by rw [Hst.out], by rw [Hst.out]⟩
              case measure => simp [intOf] <;> omega
          · rw [pair_snd hb] at hst
            clear hb
            by_cases hu : u ≥ hi'
            · rw [crS_3 hu] at hst
              have hnl : ¬ u ≤ lo := by have := Hlh.out; omega
              have Hst := Lib.hid hst
              clear hst
              generalize (mf i).1 = cu at *
              go_wp2_with fail
              go_round
              case rel => exact ⟨i + 1, by omega, by go_num, by rw [Hst.out], by rw [Hst.out]⟩
              case measure => simp [intOf] <;> omega
            · rw [crS_4 hu] at hst
              have Hst := Lib.hid hst
              clear hst
              generalize (mf i).1 = cu at *
              go_wp2_with fail
              go_round
              case rel => exact ⟨i + 1, by omega, by go_num, by rw [Hst.out], by rw [Hst.out]⟩
              case measure => simp [intOf] <;> omega
        · obtain rfl : i = wy.length := by omega
          have hval : (mf wy.length).1 = crF ps l lo hi' (e : Int) := Hv.out.symm
          rw [hval]
          clear hval
          generalize (mf wy.length).2 = fb at *
          go_wp2_with (at_builtin; refine wp_push2 (.tmp 74) (.tmp 76) rfl rfl (w.heap.size + 1) _ _ rfl HO7.out rfl (by omega) hsz7 ?_; intro v' w' ho hb hm)
          have hE2 := HE7.out.moved hm Hap.out
          go_roundw
          case rel => exact ⟨k + 1, hk1, by go_num, by rw [Hf.out]; exact ho, hE2.1, hE2.2, HP7.out.up hb (by omega), hb17.trans (hb.mono (by omega)), Nat.le_trans hsz7 hb.size⟩
          case measure => simp [intOf] <;> omega
    · obtain rfl : k = es.length := by omega
      have hown := HO.out
      rw [List.take_length] at hown
      have HO2 := Lib.hid hown
      clear hown HO
      go_wp2_with fail
      go_ret2
      exact ⟨_, by rw [Hy.out]; rfl, by rw [crV_yes Hy.out, Hes.out]; exact HO2.out.mono (by omega), hbel⟩
end Go.Proofs.Ytnbomleieianoaa

/- Plain law behind FnEntries: what the sums over the ends come to. No conditions but those stated. -/
namespace Go.Proofs.Ytnbomleieianoaa

theorem enG_sums {ps ws : List Int} (h : Tr ps ws) : ∀ x, x < ps.length → enG ps (fun e => nth ws e) x = nth (sums ps ws) x := by
  refine h.toPa.below ?_
  intro x hx ih
  cases he : endB ps x
  · rw [enG_inner h.toPa _ hx he, kidSum_congr (g := fun y => nth (sums ps ws) y) fun y hy e => ih y hy e, ← s_inner h hx he]
  · rw [enG_end h.toPa _ hx he, s_end h he]
theorem sums_ends {ps ws : List Int} (h : Tr ps ws) : nth (sums ps ws) 0 = sumOf (fun e => nth ws e.toNat) (ends ps) := by
  rw [← enG_sums h 0 (by have := h.n1; omega), enG_root h.toPa]
theorem sumOf_mem_abs {f : Int → Int} {B : Int} (hB : 0 ≤ B) : ∀ xs : List Int, (∀ x, x ∈ xs → -B ≤ f x ∧ f x ≤ B) → -(B * xs.length) ≤ sumOf f xs ∧ sumOf f xs ≤ B * xs.length
  | [], _ => by simp [sumOf]
  | x :: xs, h => by
    have ih := sumOf_mem_abs hB xs fun y hy => h y (by simp [hy])
    have := h x (by simp)
    rw [List.length_cons, Int.natCast_add, Int.mul_add]
    simp only [sumOf, Int.natCast_one, Int.mul_one]
    omega
theorem sumOf_mulc (c : Int) (g : Int → Int) : ∀ xs : List Int, sumOf (fun e => c * g e) xs = c * sumOf g xs
  | [] => by simp [sumOf]
  | x :: xs => by rw [sumOf, sumOf, sumOf_mulc c g xs, Int.mul_add]
theorem ends_mem {ps : List Int} {x : Int} (h : x ∈ ends ps) : ∃ e : Nat, e < ps.length ∧ x = (e : Int) := by
  obtain ⟨i, h1, _, h2⟩ := mem_filt.1 h
  exact ⟨i, h1, h2⟩
/-- A sum over the first ends of numbers within a bound. -/
theorem endSum_bd {ps : List Int} (hp : Pa ps) {f : Int → Int} {B : Int} (hB : 0 ≤ B) (hf : ∀ e : Nat, e < ps.length → -B ≤ f (e : Int) ∧ f (e : Int) ≤ B) (k : Nat) : -(B * 24) ≤ sumOf f ((ends ps).take k) ∧ sumOf f ((ends ps).take k) ≤ B * 24 := by
  have h := sumOf_mem_abs hB ((ends ps).take k) fun x hx => by
    obtain ⟨e, h1, rfl⟩ := ends_mem (List.mem_of_mem_take hx)
    exact hf e h1
  have hl : ((ends ps).take k).length ≤ 24 := by have := ends_len hp; rw [List.length_take]; omega
  have hm : B * (((ends ps).take k).length : Int) ≤ B * 24 := Int.mul_le_mul_of_nonneg_left (by omega) hB
  omega
theorem endSum_step {ps : List Int} (f : Int → Int) {k e : Nat} (hk : k < (ends ps).length) (he : nth (ends ps) k = (e : Int)) : sumOf f ((ends ps).take (k + 1)) = sumOf f ((ends ps).take k) + f (e : Int) := by
  rw [sumOf_take_succ f _ _ hk, he]
theorem cr_bd {ps l : List Int} (hp : Pa ps) {lo hi : Int} {e : Nat} (he : e < ps.length) : 0 ≤ crF ps l lo hi (e : Int) ∧ crF ps l lo hi (e : Int) ≤ 24 := by
  have h1 := crL_bd (fun y => nth l y.toNat) lo hi (way ps e) (way ps e).length
  have h2 := way_length hp e he
  have h3 := hp.n24
  rw [crF, crN, Int.toNat_natCast]; omega
theorem nth_map2 {xs : List Int} {f : Int → Int} {i : Nat} (h : i < xs.length) : nth (xs.map f) i = f (nth xs i) := by
  rw [nth_lt (by simpa using h), nth_lt h]; simp
theorem mul_bd {a b A B : Int} (ha : 0 ≤ a ∧ a ≤ A) (hb : -B ≤ b ∧ b ≤ B) (hA : 0 ≤ A) (hB : 0 ≤ B) : -(A * B) ≤ a * b ∧ a * b ≤ A * B := by
  have h1 : a * b ≤ A * B := Int.le_trans (Int.mul_le_mul_of_nonneg_left hb.2 ha.1) (Int.mul_le_mul_of_nonneg_right ha.2 hB)
  have h2 : a * (-b) ≤ A * B := Int.le_trans (Int.mul_le_mul_of_nonneg_left (show -b ≤ B by omega) ha.1) (Int.mul_le_mul_of_nonneg_right ha.2 hB)
  rw [Int.mul_neg] at h2
  omega
theorem mul_abs2 {a b M N : Int} (h1 : -M ≤ a ∧ a ≤ M) (h2 : -N ≤ b ∧ b ≤ N) : -(M * N) ≤ a * b ∧ a * b ≤ M * N := by
  have e1 : a.natAbs * b.natAbs ≤ M.natAbs * N.natAbs := Nat.mul_le_mul (by omega) (by omega)
  have e2 : (a * b).natAbs = a.natAbs * b.natAbs := Int.natAbs_mul a b
  have e3 : (M * N).natAbs = M.natAbs * N.natAbs := Int.natAbs_mul M N
  have e4 : 0 ≤ M * N := Int.mul_nonneg (by omega) (by omega)
  omega
/-- How often a process crosses, and what it lacks at the ends. -/
theorem cross_facts {ps ws l : List Int} {lo hi : Int} (h : crB ps ws l lo hi = true) (hlo : -6 ≤ lo ∧ lo ≤ 13) (hhi : hi ≤ 20) : ∃ up bw : Nat → Int, up 0 = 0 ∧ bw 0 = 0 ∧
    (∀ k, k < (ends ps).length → ∃ e : Nat, e < ps.length ∧ nth (ends ps) k = (e : Int) ∧ up (k + 1) = up k + nth ws e * nth (crV ps ws l lo hi) k ∧ (lo - nth l e > 0 → bw (k + 1) = bw k + nth ws e * (lo - nth l e)) ∧ (¬ lo - nth l e > 0 → bw (k + 1) = bw k) ∧ (-480 ≤ nth ws e * nth (crV ps ws l lo hi) k ∧ nth ws e * nth (crV ps ws l lo hi) k ≤ 480) ∧ (-22000 ≤ nth ws e * (lo - nth l e) ∧ nth ws e * (lo - nth l e) ≤ 22000) ∧ -1100 ≤ lo - nth l e ∧ lo - nth l e ≤ 1100) ∧
    (∀ k, (-11520 ≤ up k ∧ up k ≤ 11520) ∧ -528000 ≤ bw k ∧ bw k ≤ 528000) ∧ (fallB ps ws l = true → (hi - lo) * up (ends ps).length ≤ bw (ends ps).length) ∧ lo < hi := by
  obtain ⟨hp, hlh⟩ := crB_t h
  obtain ⟨hT, _, _, hll, hl⟩ := paysB_t hp
  have hmiss : ∀ e : Nat, -1100 ≤ missN l lo e ∧ missN l lo e ≤ 1100 := fun e => by have := hl e; unfold missN; split <;> omega
  have hw : ∀ e : Nat, 0 ≤ nth ws e ∧ nth ws e ≤ 20 := hT.w0
  refine ⟨fun k => sumOf (fun e => nth ws e.toNat * crF ps l lo hi e) ((ends ps).take k), fun k => sumOf (fun e => nth ws e.toNat * missN l lo e.toNat) ((ends ps).take k), rfl, rfl, ?_, ?_, ?_, hlh⟩
  · intro k hk
    obtain ⟨e, h1, h2, h3⟩ := end_nth hk
    have hv : nth (crV ps ws l lo hi) k = crF ps l lo hi (e : Int) := by rw [crV_yes h, nth_map2 hk, h3]
    have hc := cr_bd (l := l) hT.toPa (lo := lo) (hi := hi) h1
    have hle := hl e
    have m1 := mul_bd (hw e) (show -24 ≤ crF ps l lo hi (e : Int) ∧ crF ps l lo hi (e : Int) ≤ 24 by omega) (by omega) (by omega)
    have m2 := mul_bd (hw e) (show -1100 ≤ lo - nth l e ∧ lo - nth l e ≤ 1100 by omega) (by omega) (by omega)
    have s1 := endSum_step (ps := ps) (fun e => nth ws e.toNat * crF ps l lo hi e) hk h3
    have s2 := endSum_step (ps := ps) (fun e => nth ws e.toNat * missN l lo e.toNat) hk h3
    simp only [Int.toNat_natCast] at s1 s2
    refine ⟨e, h1, h3, ?_, ?_, ?_, ?_, ?_, by omega, by omega⟩
    · rw [hv]; exact s1
    · intro h0
      have : missN l lo e = lo - nth l e := by unfold missN; rw [if_pos (by omega)]
      rw [this] at s2; exact s2
    · intro h0
      have : missN l lo e = 0 := by unfold missN; rw [if_neg (by omega)]
      rw [this] at s2; simpa using s2
    · rw [hv]; omega
    · omega
  · intro k
    have b1 := endSum_bd hT.toPa (B := 480) (f := fun e => nth ws e.toNat * crF ps l lo hi e) (by omega) (fun e he => by
      have hc := cr_bd (l := l) hT.toPa (lo := lo) (hi := hi) he
      have := mul_bd (hw e) (show -24 ≤ crF ps l lo hi (e : Int) ∧ crF ps l lo hi (e : Int) ≤ 24 by omega) (by omega) (by omega)
      simp only [Int.toNat_natCast]; omega) k
    have b2 := endSum_bd hT.toPa (B := 22000) (f := fun e => nth ws e.toNat * missN l lo e.toNat) (by omega) (fun e he => by
      have := mul_bd (hw e) (hmiss e) (by omega) (by omega)
      simp only [Int.toNat_natCast]; omega) k
    simp only
    omega
  · intro hf
    have := cr_fall hT hf hlh
    simp only [List.take_length]
    exact this
def hiW (ps ws l : List Int) (lev : Int) (e : Int) : Int := if lev ≤ hiF ps l e then nth ws e.toNat else 0
/-- How seldom a falling process comes up to a level. -/
theorem hit_facts {ps ws l : List Int} {lev : Int} (h : paysB ps ws l = true) : ∃ hi al : Nat → Int, hi 0 = 0 ∧ al 0 = 0 ∧
    (∀ k, k < (ends ps).length → ∃ e : Nat, e < ps.length ∧ nth (ends ps) k = (e : Int) ∧ al (k + 1) = al k + nth ws e ∧ (nth (hiV ps ws l) k ≥ lev → hi (k + 1) = hi k + nth ws e) ∧ (¬ nth (hiV ps ws l) k ≥ lev → hi (k + 1) = hi k) ∧ 0 ≤ nth ws e ∧ nth ws e ≤ 20) ∧
    (∀ k, (-480 ≤ hi k ∧ hi k ≤ 480) ∧ -480 ≤ al k ∧ al k ≤ 480) ∧ (fallB ps ws l = true → (∀ x, x < ps.length → 0 ≤ nth l x) → 1 ≤ lev → lev * hi (ends ps).length ≤ nth l 0 * al (ends ps).length) := by
  obtain ⟨hT, _, _, hll, hl⟩ := paysB_t h
  have hw : ∀ e : Nat, 0 ≤ nth ws e ∧ nth ws e ≤ 20 := hT.w0
  refine ⟨fun k => sumOf (hiW ps ws l lev) ((ends ps).take k), fun k => sumOf (fun e => nth ws e.toNat) ((ends ps).take k), rfl, rfl, ?_, ?_, ?_⟩
  · intro k hk
    obtain ⟨e, h1, h2, h3⟩ := end_nth hk
    have hv : nth (hiV ps ws l) k = hiF ps l (e : Int) := by rw [hiV_yes h, nth_map2 hk, h3]
    have s1 := endSum_step (ps := ps) (hiW ps ws l lev) hk h3
    have s2 := endSum_step (ps := ps) (fun e => nth ws e.toNat) hk h3
    simp only [Int.toNat_natCast] at s2
    refine ⟨e, h1, h3, s2, ?_, ?_, (hw e).1, (hw e).2⟩
    · intro h0
      rw [hv] at h0
      show sumOf (hiW ps ws l lev) ((ends ps).take (k + 1)) = sumOf (hiW ps ws l lev) ((ends ps).take k) + nth ws e
      rw [s1, hiW, if_pos h0, Int.toNat_natCast]
    · intro h0
      rw [hv] at h0
      show sumOf (hiW ps ws l lev) ((ends ps).take (k + 1)) = sumOf (hiW ps ws l lev) ((ends ps).take k)
      rw [s1, hiW, if_neg h0, Int.add_zero]
  · intro k
    have b1 := endSum_bd hT.toPa (B := 20) (f := hiW ps ws l lev) (by omega) (fun e he => by
      have := hw e
      unfold hiW; rw [Int.toNat_natCast]; split <;> omega) k
    have b2 := endSum_bd hT.toPa (B := 20) (f := fun e => nth ws e.toNat) (by omega) (fun e he => by
      have := hw e
      simp only [Int.toNat_natCast]; omega) k
    simp only
    omega
  · intro hf hn h1
    have hh := hit_fall hT hf hn h1
    rw [enG_root hT.toPa] at hh
    have e1 : sumOf (fun e => nth ws e.toNat * (hitN ps l lev e.toNat * lev)) (ends ps) = lev * sumOf (hiW ps ws l lev) (ends ps) := by
      rw [← sumOf_mulc]
      refine sumOf_congr fun x _ => ?_
      unfold hiW hiF hitN
      split
      · rw [Int.one_mul, Int.mul_comm]
      · simp
    rw [e1, show ownW ps ws l 0 = nth (sums ps ws) 0 * nth l 0 from rfl, sums_ends hT, Int.mul_comm (sumOf _ _) (nth l 0)] at hh
    simp only [List.take_length]
    exact hh
/-- The first entry is a stopping. -/
theorem entry_stop {ps ws l : List Int} (h : paysB ps ws l = true) (lev : Int) : isRuleV ps ws (entryV ps ws l lev) = true := by
  obtain ⟨hT, ht, _, _, _⟩ := paysB_t h
  rw [isRule_yes ht, entryV_yes h]
  refine firsts_stop2 hT.toPa fun x hx he => stop_end hT.toPa _ hx ?_
  rw [fS, levB, Int.toNat_natCast, he]; rfl
end Go.Proofs.Ytnbomleieianoaa

/- Contract: the first entry, by the reference. -/
namespace Go.Proofs.Ytnbomleieianoaa
open Go.RowKit

theorem way_last {ps : List Int} (h : Pa ps) {x : Nat} (hx : x < ps.length) : nth (way ps x) ((way ps x).length - 1) = (x : Int) := by
  rcases Nat.eq_zero_or_pos x with rfl | h0
  · rw [way_zero]; rfl
  · rw [way_up h h0 hx, List.length_append]
    simp only [List.length_cons, List.length_nil]
    have := nth_append_r (xs := way ps (par ps x)) (y := (x : Int))
    rwa [show (way ps (par ps x)).length + (0 + 1) - 1 = (way ps (par ps x)).length by omega]
/-- A node on a way that is not its last one has children. -/
theorem way_inner {ps : List Int} (h : Pa ps) : ∀ x, x < ps.length → ∀ (j X : Nat), j + 1 < (way ps x).length → nth (way ps x) j = (X : Int) → endB ps X = false := by
  refine h.above ?_ ?_
  · intro j X hj; rw [way_zero] at hj; simp at hj
  · intro x h1 h2 ih j X hj hX
    rw [way_up h h1 h2] at hj hX
    rw [List.length_append] at hj
    simp only [List.length_cons, List.length_nil] at hj
    have hp := h.upN h1 h2
    rw [nth_append_l (by omega)] at hX
    by_cases e : j + 1 < (way ps (par ps x)).length
    · exact ih j X e hX
    · have hl := way_last h (x := par ps x) (by omega)
      rw [show (way ps (par ps x)).length - 1 = j by omega, hX] at hl
      exact endB_f h2 (by rw [hp.1]; omega)
set_option maxRecDepth 100000 in
set_option maxHeartbeats 2000000 in
theorem spec_FirstEntry (aP : Option Addr) (nP cP : Nat) (aW : Option Addr) (nW cW : Nat) (ps ws : List Int) (aL : Option Addr) (nL cL : Nat) (l : List Int) (lev : Int) (w : World) (h : Tre w aP nP cP aW nW cW ps ws) (hL : Ints w aL nL l) (_hLc : aL = none → cL = 0) (hn : nL ≤ 1048576) :
    Calls Try.prog 13 #[.agg #[.slice aP nP cP, .slice aW nW cW], .slice aL nL cL, .int .i64 lev] w fun e w' => ∃ v, e = .returned (.tuple #[v, .bool (paysB ps ws l)]) ∧ Own w' w.heap.size v (entryV ps ws l lev) ∧ Below w.heap.size w w' := by
  have hl := h.p.1
  have hlw := h.w.1
  have hpn := h.pn
  have hwn := h.wn
  have hb1 := below_new w (.cells #[.slice aP nP cP, .slice aW nW cW] 26)
  have hP1 := Lib.hid (Pair.new w (.slice aP nP cP) (.slice aW nW cW) 26)
  have H := Lib.hid h
  have Hl := Lib.hid hl
  have Hlw := Lib.hid hlw
  clear h hl hlw
  have HL := Lib.hid hL
  have hll := Lib.hid hL.1
  clear hL
  have hnil := own_nil0 (w.alloc (.cells #[.slice aP nP cP, .slice aW nW cW] 26))
  rw [show (w.alloc (.cells #[.slice aP nP cP, .slice aW nW cW] 26)).heap.size = w.heap.size + 1 by simp] at hnil
  have hb2 : Below w.heap.size w ((w.alloc (.cells #[.slice aP nP cP, .slice aW nW cW] 26)).alloc (.cells #[] 3)) := hb1.alloc (by simp) _
  have hP2 := Lib.hid (hP1.out.alloc (.cells #[] 3))
  have hs2 : ((w.alloc (.cells #[.slice aP nP cP, .slice aW nW cW] 26)).alloc (.cells #[] 3)).heap.size = w.heap.size + 2 := by simp
  have c0 := hP2.out.c0
  have c1 := hP2.out.c1
  go_enter Try.func13, Try.ntmps13
  go_wp2_with fail
  generalize ((w.alloc (.cells #[.slice aP nP cP, .slice aW nW cW] 26)).alloc (.cells #[] 3)) = w2 at *
  clear hP1 hb1
  refine (spec_l3Good _ _ _ _ _ _ ps ws _ _ _ l _ (H.out.below hb2) (HL.out.below hb2) hn).mono ?_
  rintro e w3 ⟨rfl, hb3⟩
  have hP3 := hP2.out.below hb3
  have d0 := hP3.c0
  have d1 := hP3.c1
  have HP24 := Lib.hid hP3
  have hnil := hnil.below hb3
  have hb24 := hb2.trans (hb3.mono hb2.size)
  have hs24 : w.heap.size + 2 ≤ w3.heap.size := by have := hb3.size; omega
  have Hlt : Hid (w.heap.size < w.heap.size + 1) := Lib.hid (by omega)
  clear hP3 hb3 hb2 hP2 hs2
  try clear c0 c1
  cases hT : paysB ps ws l
  · have Hno := Lib.hid hT
    clear hT
    go_wp2_with fail
    go_ret2
    exact ⟨_, by rw [Hno.out]; rfl, by rw [entryV_no Hno.out]; exact hnil.mono (Nat.le_succ _), hb24⟩
  have Hpays := Lib.hid hT
  have hpt := paysB_t hT
  have hTr := hpt.1
  have hn24 := hTr.n24
  have hn1 := hTr.n1
  have hnL : nP = nL := by have := hll.out; have := hpt.2.2.2.1; have := Hl.out; omega
  have hnP : 1 ≤ nP ∧ nP ≤ 24 := by have := Hl.out; omega
  have Hpp := Lib.hid hpt.2.2.2.2
  have HTr := Lib.hid hTr
  clear hT hpt hn24 hn1 hTr hpn hwn
  subst hnL
  have c0 := HP24.out.c0
  have c1 := HP24.out.c1
  clear d0 d1
  go_wp2_with fail
  refine (spec_l2Ends _ _ _ _ _ _ ps ws _ (H.out.below hb24) HTr.out.toPa).mono ?_
  rintro e w6 ⟨v, rfl, ho, hb6⟩
  obtain ⟨a3, c3, rfl⟩ := ho.shape
  have HE := Lib.hid ho.ints
  have HP6 := Lib.hid (HP24.out.below hb6)
  have HO6 := Lib.hid (hnil.below hb6)
  have hb16 := hb24.trans (hb6.mono hb24.size)
  have hel : (ends ps).length ≤ 24 := ends_len HTr.out.toPa
  have hap0 : Hid (0 < (ends ps).length → Apart a3 (Value.slice (some ⟨w.heap.size + 1, 0, none⟩) 0 0)) := Lib.hid fun h0 p hp e => by
    obtain ⟨g, cap, he, hg, _⟩ := ho.form h0
    cases he
    cases hp
    simp [Value.ownBlock] at e
    omega
  have hsz0 : w.heap.size + 1 ≤ w6.heap.size := by have := hb6.size; omega
  have Hen : Hid (∀ i, i < (ends ps).length → ∃ e : Nat, e < nP ∧ endB ps e = true ∧ nth (ends ps) i = (e : Int)) := Lib.hid fun i hi => by
    obtain ⟨e, h1, h2, h3⟩ := end_nth hi
    exact ⟨e, by have := Hl.out; omega, h2, h3⟩
  clear ho hnil hb6 hb24 HP24 hs24 c0 c1
  obtain ⟨S, hS⟩ : ∃ S, S = fS (levB ps l lev) := ⟨_, rfl⟩
  have HS : Hid (∀ X : Nat, S (X : Int) = (endB ps X || decide (nth l X ≥ lev))) := Lib.hid fun X => by rw [hS, fS, levB, Int.toNat_natCast]
  have Hfin : Hid (filt (isStop ps S (ends ps)) nP = entryV ps ws l lev) := Lib.hid (by
    rw [entryV_yes Hpays.out, ← hS]; unfold firsts; rw [Hl.out]
    exact filt_congr fun y hy => isStop_ends HTr.out.toPa _ (by have := Hl.out; omega))
  clear hS
  generalize hes : ends ps = es at *
  have Hes := Lib.hid hes
  clear hes
  go_wp2_with fail
  go_loopw [8, 10] (fun v8 v10 wr => ∃ k : Nat, k ≤ es.length ∧ v10 = .int .i64 (k : Int) ∧ Own wr (w.heap.size + 1) v8 (filt (isStop ps S (es.take k)) nP) ∧ Ints wr a3 es.length es ∧ Pair wr w.heap.size (.slice aP nP cP) (.slice aW nW cW) ∧ Below w.heap.size w wr ∧ w.heap.size + 1 ≤ wr.heap.size) (fun _ v10 _ => es.length - (intOf v10).toNat)
  case atStart => exact ⟨0, Nat.zero_le _, rfl, by rw [List.take_zero, isStop_nil]; exact HO6.out, HE.out, HP6.out, hb16, hsz0⟩
  case round =>
    clear hb16 HO6 HE hap0 HP6 hsz0
    obtain ⟨k, hk, rfl, hown, hE, hP, hbel, hsz⟩ := hrel
    have HE := Lib.hid hE
    have HP := Lib.hid hP
    have HO := Lib.hid hown
    have x0 := hP.c0
    have x1 := hP.c1
    clear hE hP hown
    obtain ⟨wo, rfl⟩ : ∃ wo, wo = wr := ⟨_, rfl⟩
    by_cases hlt : (k : Int) < es.length
    · obtain ⟨be, oe, rfl, hce⟩ := HE.out.at (i := k) (Below.refl _ _) (by omega)
      obtain ⟨e, he, he2, hei⟩ := Hen.out k (by omega)
      rw [hei] at hce
      have hlen := filt_length (isStop ps S (es.take k)) nP
      have he' : e < ps.length := by have := Hl.out; omega
      have hwl := way_length HTr.out.toPa e he'
      have Hwn : Hid (∀ j, j < (way ps e).length → ∃ X : Nat, X < nP ∧ nth (way ps e) j = (X : Int)) := Lib.hid fun j hj => by
        obtain ⟨X, h1, h2⟩ := nth_way HTr.out.toPa he' hj
        exact ⟨X, by omega, h2⟩
      have Hin : Hid (∀ (j X : Nat), j + 1 < (way ps e).length → nth (way ps e) j = (X : Int) → endB ps X = false) := Lib.hid (way_inner HTr.out.toPa e he')
      have Hlast : Hid (S (nth (way ps e) ((way ps e).length - 1)) = true) := Lib.hid (by rw [way_last HTr.out.toPa he', HS.out, he2]; rfl)
      have Hnext : Hid (∀ j Y : Nat, j < (way ps e).length → nth (way ps e) j = (Y : Int) → S (Y : Int) = true → (∀ i, i < j → S (nth (way ps e) i) = false) → filt (fun z => isStop ps S (es.take k) z || z == Y) nP = filt (isStop ps S (es.take (k + 1))) nP) := Lib.hid fun j Y hj hY hSY hb => filt_congr fun z hz => by
        have hst : stop ps S e = (Y : Int) := by rw [stop, stopL_at hj hb (by rw [hY]; exact hSY), hY]
        rw [take_succ_nth (by omega), hei, isStop_app, Int.toNat_natCast, hst]
        congr 1
        rw [Bool.eq_iff_iff, beq_iff_eq, beq_iff_eq]; omega
      clear he2 hei
      have Hcw : Hid (∀ W : World, KeepR wo W → Calls Try.prog 90 #[.agg #[.slice aP nP cP, .slice aW nW cW], .int .i64 (e : Int)] W fun e' w' => ∃ v, e' = .returned v ∧ Own w' W.heap.size v (way ps e) ∧ Below W.heap.size W w') := Lib.hid fun W hW => spec_l2Way _ _ _ _ _ _ ps ws e W (H.out.below (hbel.trans (Below.mono hW hbel.size))) HTr.out.toPa he
      go_wp2_with fail
      go_region_held3 (fun W' => KeepR wo W' ∧ W'.cell? ⟨w.heap.size, 0, none⟩ = some (.slice aP nP cP) ∧ W'.cell? ⟨w.heap.size, 1, none⟩ = some (.slice aW nW cW) ∧ W'.cell? ⟨be, oe + k, none⟩ = some (.int .i64 (e : Int)))
        (first | exact keepC3 (by assumption) x0 x1 hce | exact keepC3 (KeepR.start _) x0 x1 hce)
        (first
          | (go_at_call 90; refine (Hcw.out _ (by assumption : KeepR wo _ ∧ _).1).mono ?_; rintro e' w7 ⟨v7, rfl, o7, b7'⟩; have hk7 := KeepR.next b7' (by assumption : KeepR wo _ ∧ _).1; obtain ⟨a7, c7, rfl⟩ := o7.shape))
      have b7 : Below wo.heap.size wo w7 := hk7
      go_wp2_with fail
      have W7 := Lib.hid o7.ints
      have hb17 := hbel.trans (b7.mono hbel.size)
      have HL7 := Lib.hid (HL.out.below hb17)
      have HO7 := Lib.hid (HO.out.below b7)
      have HE7 := Lib.hid (HE.out.below b7)
      have HP7 := Lib.hid (HP.out.below b7)
      have hsz7 : w.heap.size + 1 ≤ w7.heap.size := Nat.le_trans hsz b7.size
      have hk1 : k + 1 ≤ es.length := by omega
      clear o7 HO HE HP x0 x1 hce hlt
      generalize hwy : way ps e = wy at *
      clear hwy
      go_loop [12] (fun v12 => ∃ i : Nat, i < wy.length ∧ v12 = .int .i64 (i : Int) ∧ ∀ m, m < i → S (nth wy m) = false) (fun v12 => wy.length - (intOf v12).toNat)
      case atStart => exact ⟨0, by omega, rfl, fun m hm => by omega⟩
      case round =>
        obtain ⟨i, hi, rfl, hall⟩ := hrel
        have Hall := Lib.hid hall
        clear hall
        obtain ⟨b8, o8, rfl, hc8⟩ := W7.out.at (i := i) (Below.refl _ _) (by omega)
        obtain ⟨X, hX, hXe⟩ := Hwn.out i (by omega)
        have HXe := Lib.hid hXe
        rw [hXe] at hc8
        obtain ⟨bL, oL, hLe, hcL⟩ := HL7.out.at (i := X) (Below.refl _ _) (by omega)
        cases hLe
        have k4 : (0 : Int) ≤ (X : Int) := by omega
        have k5 : (X : Int) < (nP : Int) := by omega
        have k6 : IntKind.i64.wrap ((i : Int) + 1) = (i : Int) + 1 := IntWalk.i64_in _ (by omega)
        have hSX := HS.out X
        clear hXe
        by_cases hlt : (i : Int) + 1 < wy.length
        · have hin := Hin.out i X (by omega) HXe.out
          rw [hin, Bool.false_or] at hSX
          clear hin
          by_cases hq : nth l X < lev
          · have HSX : Hid (S (X : Int) = false) := Lib.hid (by rw [hSX]; exact decide_eq_false (by omega))
            clear hSX
            generalize nth l X = q at *
            go_wp2_with fail
            go_round
            case rel => exact ⟨i + 1, by omega, by go_num, fun m hm => by
              by_cases e1 : m = i
              · subst e1; rw [HXe.out]; exact HSX.out
              · exact Hall.out m (by omega)⟩
            case measure => simp [intOf] <;> omega
          · have HSX : Hid (S (X : Int) = true) := Lib.hid (by rw [hSX]; exact decide_eq_true (by omega))
            clear hSX
            generalize nth l X = q at *
            obtain ⟨a9, c9, rfl⟩ := HO7.out.shape
            go_wp2_with (go_at_call 91; refine (spec_l1Put _ _ _ (isStop ps S (es.take k)) nP X (w.heap.size + 1) _ (by omega) hX hsz7 HO7.out).mono ?_; rintro e' w8 ⟨v8, rfl, ho8, hb8⟩)
            rw [Hnext.out i X hi HXe.out HSX.out Hall.out] at ho8
            go_roundw
            case rel => exact ⟨k + 1, hk1, by go_num, ho8, HE7.out.below hb8, HP7.out.below hb8, hb17.trans (hb8.mono hb17.size), Nat.le_trans hsz7 hb8.size⟩
            case measure => simp [intOf] <;> omega
        · have HSX : Hid (S (X : Int) = true) := Lib.hid (by
            have h0 := Hlast.out
            rw [show wy.length - 1 = i by omega, HXe.out] at h0
            exact h0)
          clear hSX
          generalize nth l X = q at *
          obtain ⟨a9, c9, rfl⟩ := HO7.out.shape
          go_wp2_with (go_at_call 91; refine (spec_l1Put _ _ _ (isStop ps S (es.take k)) nP X (w.heap.size + 1) _ (by omega) hX hsz7 HO7.out).mono ?_; rintro e' w8 ⟨v8, rfl, ho8, hb8⟩)
          rw [Hnext.out i X hi HXe.out HSX.out Hall.out] at ho8
          go_roundw
          case rel => exact ⟨k + 1, hk1, by go_num, ho8, HE7.out.below hb8, HP7.out.below hb8, hb17.trans (hb8.mono hb17.size), Nat.le_trans hsz7 hb8.size⟩
          case measure => simp [intOf] <;> omega
    · obtain rfl : k = es.length := by omega
      have hown := HO.out
      rw [List.take_length, Hfin.out] at hown
      have HO2 := Lib.hid hown
      clear hown HO
      go_wp2_with fail
      go_ret2
      exact ⟨_, by rw [Hpays.out]; rfl, HO2.out.mono (Nat.le_succ _), hbel⟩
end Go.Proofs.Ytnbomleieianoaa

/- Contracts: is a process falling, and its drifts, by the program. -/
namespace Go.Proofs.Ytnbomleieianoaa
open Go.RowKit

def falV (ps ws l : List Int) : Bool := paysB ps ws l && fallB ps ws l
theorem falV_no {ps ws l : List Int} (h : paysB ps ws l = false) : falV ps ws l = false := by rw [falV, h]; rfl
theorem falV_yes {ps ws l : List Int} (h : paysB ps ws l = true) : falV ps ws l = fallB ps ws l := by rw [falV, h]; rfl
theorem fal_no {ps ws l : List Int} {x : Nat} (hx : x < ps.length) (h : 0 < drA ps ws l x) : fallB ps ws l = false := all_f hx (by simp; omega)
theorem fal_yes {ps ws l : List Int} (h : ∀ x, x < ps.length → drA ps ws l x ≤ 0) : fallB ps ws l = true := all_t fun x hx => by simp [h x hx]
theorem nm_low {a b : Int} (hb : 0 < b) : nm a b ≤ 0 ↔ a ≤ 0 := by
  have hg := gcdI_pos (a := a) (b := b) (by omega)
  rw [nm, if_neg (by omega)]
  have h := Int.mul_ediv_cancel' (gcdI_dvd_l a b)
  generalize a / gcdI a b = q at *
  generalize gcdI a b = g at *
  subst h
  constructor
  · intro hq
    have := Int.mul_le_mul_of_nonneg_left hq (show 0 ≤ g by omega)
    omega
  · intro hq
    rcases Int.lt_or_le 0 q with h0 | h0
    · have := Int.mul_pos (show 0 < g by omega) h0
      omega
    · exact h0
def dofV (ps ws l : List Int) : List (Int × Int) := if paysB ps ws l then driftL ps ws l else []
theorem dofV_no {ps ws l : List Int} (h : paysB ps ws l = false) : dofV ps ws l = [] := by rw [dofV, h]; rfl
theorem dofV_yes {ps ws l : List Int} (h : paysB ps ws l = true) : dofV ps ws l = driftL ps ws l := by rw [dofV, if_pos h]
theorem dofV_len {ps ws l : List Int} : (dofV ps ws l).length ≤ 24 := by
  cases h : paysB ps ws l
  · rw [dofV_no h]; exact Nat.zero_le _
  · rw [dofV_yes h, driftL_length]; exact (paysB_t h).1.n24
set_option maxRecDepth 100000 in
set_option maxHeartbeats 1000000 in
theorem impl_IsFalling (aP : Option Addr) (nP cP : Nat) (aW : Option Addr) (nW cW : Nat) (ps ws : List Int) (aL : Option Addr) (nL cL : Nat) (l : List Int) (w : World) (h : Tre w aP nP cP aW nW cW ps ws) (hL : Ints w aL nL l) (_hLc : aL = none → cL = 0) (hn : nL ≤ 1048576) :
    Calls Try.prog 21 #[.agg #[.slice aP nP cP, .slice aW nW cW], .slice aL nL cL] w fun e w' => e = .returned (.tuple #[.bool (falV ps ws l), .bool (paysB ps ws l)]) ∧ Below w.heap.size w w' := by
  have hl := h.p.1
  have hlw := h.w.1
  have hpn := h.pn
  have hwn := h.wn
  have hb1 := below_new w (.cells #[.slice aP nP cP, .slice aW nW cW] 26)
  have hP1 := Lib.hid (Pair.new w (.slice aP nP cP) (.slice aW nW cW) 26)
  have H := Lib.hid h
  have Hl := Lib.hid hl
  have Hlw := Lib.hid hlw
  clear h hl hlw
  have HL := Lib.hid hL
  have hll := Lib.hid hL.1
  clear hL
  go_enter Try.func21, Try.ntmps21
  have c0 := hP1.out.c0
  have c1 := hP1.out.c1
  go_wp2_with fail
  generalize (w.alloc (.cells #[.slice aP nP cP, .slice aW nW cW] 26)) = w2 at *
  refine (impl_IsTree _ _ _ _ _ _ ps ws _ (H.out.below hb1)).mono ?_
  rintro e w3 ⟨rfl, hb3⟩
  have HP3 := Lib.hid (hP1.out.below hb3)
  have d0 := HP3.out.c0
  have d1 := HP3.out.c1
  have hb13 := hb1.trans (hb3.mono hb1.size)
  clear c0 c1 hb3 hP1
  cases hT : treeB ps ws
  · have Hv := Lib.hid (pays_no1 (l := l) hT)
    clear hT
    go_wp2_with fail
    go_ret2
    exact ⟨by rw [falV_no Hv.out, Hv.out]; rfl, hb13⟩
  have HT := Lib.hid hT
  clear hT
  go_wp2_with fail
  refine (impl_isProcess _ _ _ _ _ _ ps ws _ _ _ l _ (H.out.below hb13) (HL.out.below hb13) hn).mono ?_
  rintro e w4 ⟨rfl, hb4⟩
  have HP4 := Lib.hid (HP3.out.below hb4)
  have e0 := HP4.out.c0
  have e1 := HP4.out.c1
  have hb14 := hb13.trans (hb4.mono hb13.size)
  clear d0 d1 hb4 HP3
  cases hp : procB ps.length l
  · have Hv := Lib.hid (pays_no2 (ws := ws) hp)
    clear hp
    go_wp2_with fail
    go_ret2
    exact ⟨by rw [falV_no Hv.out, Hv.out]; rfl, hb14⟩
  have Hpays := Lib.hid (pays_both HT.out hp)
  obtain ⟨hTr, _, _, hleq, hlb⟩ := paysB_t Hpays.out
  have hnL : nP = nL := by have := hll.out; have := Hl.out; omega
  have HTr := Lib.hid hTr
  have Hlb := Lib.hid hlb
  have Hbv := Lib.hid (falV_yes Hpays.out)
  have hn24 := hTr.n24
  have hnP : 1 ≤ nP ∧ nP ≤ 24 := by have := hTr.n1; have := Hl.out; omega
  clear hp hTr hleq hlb hn24 hn hpn hwn
  subst hnL
  go_wp2_with fail
  refine (impl_drifts _ _ _ _ _ _ ps ws _ _ _ l _ (H.out.below hb14) HTr.out (HL.out.below hb14) rfl Hlb.out).mono ?_
  rintro e w5 ⟨v5, rfl, ho5, hb5⟩
  obtain ⟨a5, c5, rfl⟩ := ho5.shape
  have hdl : (driftL ps ws l).length = nP := by rw [driftL_length]; exact Hl.out
  rw [hdl] at ho5 ⊢
  have D5 := Lib.hid ho5.ints
  have hb15 := hb14.trans (hb5.mono hb14.size)
  have Hat : Hid (∀ x, x < nP → ∃ b : Int, 0 < b ∧ Fr.at1 (driftL ps ws l) x = nm (drA ps ws l x) b) := Lib.hid fun x hx => ⟨nth (sums ps ws) x, by have := sums_pos HTr.out x (by have := Hl.out; omega); omega, by
    rw [Fr.at1, driftL]
    simp [List.getD, show x < ps.length by have := Hl.out; omega]⟩
  have Hno : Hid (∀ x, x < nP → 0 < drA ps ws l x → fallB ps ws l = false) := Lib.hid fun x hx h => fal_no (by have := Hl.out; omega) h
  have Hyes : Hid ((∀ x, x < nP → drA ps ws l x ≤ 0) → fallB ps ws l = true) := Lib.hid fun h => fal_yes fun x hx => h x (by have := Hl.out; omega)
  clear ho5 hb5 HP4 e0 e1 hdl
  generalize driftL ps ws l = dl at *
  go_wp2_with fail
  go_loopw [21] (fun v21 wr => ∃ x : Nat, x ≤ nP ∧ v21 = .int .i64 (x : Int) ∧ (∀ y, y < x → drA ps ws l y ≤ 0) ∧ Below w5.heap.size w5 wr ∧ Below w.heap.size w wr) (fun v21 _ => nP - (intOf v21).toNat)
  case atStart => exact ⟨0, Nat.zero_le _, rfl, fun y hy => by omega, Below.refl _ _, hb15⟩
  case round =>
    clear hb15
    obtain ⟨x, hx, rfl, hall, hb6, hbel⟩ := hrel
    have Hall := Lib.hid hall
    clear hall
    by_cases hlt : (x : Int) < nP
    · obtain ⟨b5, o5, rfl, hb5, hcs⟩ := D5.out.2 (by omega)
      obtain ⟨hA, hB⟩ := hcs x (by omega)
      have hA' := (hb6.cell (p := ⟨b5, o5 + x * 2, none⟩) hb5).trans hA
      have hB' := (hb6.cell (p := ⟨b5, o5 + x * 2 + 1, none⟩) hb5).trans hB
      obtain ⟨bq, hbq, hat⟩ := Hat.out x (by omega)
      have hz := nm_low (a := drA ps ws l x) hbq
      rw [← hat] at hz
      have Hz := Lib.hid hz
      have HnoX := Lib.hid (Hno.out x (by omega))
      have hx0 : (0 : Int) ≤ (x : Int) := by omega
      clear hcs hA hB hat hz
      generalize Fr.at1 dl x = g1 at *
      generalize Fr.at2 dl x = g2 at *
      have q := Pair.new wr (.int .i64 0) (.int .i64 0) 48
      have q0 := q.c0
      have q1 := q.c1
      have q2 := q.f0
      have q3 := q.f1
      have qn := Pair.new wr (.int .i64 g1) (.int .i64 g2) 48
      have n0 := qn.c0
      have n1 := qn.c1
      have hnew := below_new wr (.cells #[.int .i64 g1, .int .i64 g2] 48)
      by_cases hg : g1 ≤ 0
      · have Hd := Lib.hid (Hz.out.1 hg)
        have hgb : ¬ g1 > 0 := by omega
        clear hg
        go_wp2_with fail
        go_roundw
        case rel => exact ⟨x + 1, by omega, by go_num, fun y hy => by
          by_cases e : y = x
          · subst e; exact Hd.out
          · exact Hall.out y (by omega), hb6.trans (hnew.mono hb6.size), hbel.trans (hnew.mono hbel.size)⟩
        case measure => simp [intOf]; omega
      · have Hb := Lib.hid (HnoX.out (by have := Hz.out; omega))
        have hgb : g1 > 0 := by omega
        go_wp2_with fail
        go_ret2
        exact ⟨by rw [Hbv.out, Hb.out, Hpays.out]; rfl, hbel.trans (hnew.mono hbel.size)⟩
    · obtain rfl : x = nP := by omega
      have Hb := Lib.hid (Hyes.out Hall.out)
      go_wp2_with fail
      go_ret2
      exact ⟨by rw [Hbv.out, Hb.out, Hpays.out]; rfl, hbel⟩
set_option maxRecDepth 100000 in
set_option maxHeartbeats 1000000 in
theorem impl_DriftsOf (aP : Option Addr) (nP cP : Nat) (aW : Option Addr) (nW cW : Nat) (ps ws : List Int) (aL : Option Addr) (nL cL : Nat) (l : List Int) (w : World) (h : Tre w aP nP cP aW nW cW ps ws) (hL : Ints w aL nL l) (_hLc : aL = none → cL = 0) (hn : nL ≤ 1048576) :
    Calls Try.prog 28 #[.agg #[.slice aP nP cP, .slice aW nW cW], .slice aL nL cL] w fun e w' => ∃ v, e = .returned (.tuple #[v, .bool (paysB ps ws l)]) ∧ Fr.Own w' w.heap.size v (dofV ps ws l) ∧ Below w.heap.size w w' := by
  have hl := h.p.1
  have hlw := h.w.1
  have hpn := h.pn
  have hwn := h.wn
  have hb1 := below_new w (.cells #[.slice aP nP cP, .slice aW nW cW] 26)
  have hP1 := Lib.hid (Pair.new w (.slice aP nP cP) (.slice aW nW cW) 26)
  have H := Lib.hid h
  have Hl := Lib.hid hl
  have Hlw := Lib.hid hlw
  clear h hl hlw
  have HL := Lib.hid hL
  have hll := Lib.hid hL.1
  clear hL
  have hlt2 := hP1.out.lt
  go_enter Try.func28, Try.ntmps28
  have c0 := hP1.out.c0
  have c1 := hP1.out.c1
  go_wp2_with fail
  generalize (w.alloc (.cells #[.slice aP nP cP, .slice aW nW cW] 26)) = w2 at *
  refine (impl_IsTree _ _ _ _ _ _ ps ws _ (H.out.below hb1)).mono ?_
  rintro e w3 ⟨rfl, hb3⟩
  have hP3 := hP1.out.below hb3
  have d0 := hP3.c0
  have d1 := hP3.c1
  have HP3 := Lib.hid hP3
  have hb13 := hb1.trans (hb3.mono hb1.size)
  clear hP3 c0 c1 hb3
  cases hT : treeB ps ws
  · have Hv := Lib.hid (pays_no1 (l := l) hT)
    clear hT
    go_wp2_with fail
    go_ret2
    exact ⟨_, by rw [Hv.out]; rfl, by rw [dofV_no Hv.out]; exact Fr.Own.nil _ _, hb13⟩
  have HT := Lib.hid hT
  clear hT
  go_wp2_with fail
  refine (impl_isProcess _ _ _ _ _ _ ps ws _ _ _ l _ (H.out.below hb13) (HL.out.below hb13) hn).mono ?_
  rintro e w4 ⟨rfl, hb4⟩
  have hb14 := hb13.trans (hb4.mono hb13.size)
  have hP4 := HP3.out.below hb4
  have e0 := hP4.c0
  have e1 := hP4.c1
  have HP4 := Lib.hid hP4
  clear d0 d1 hP4 hb4
  cases hp : procB ps.length l
  · have Hv := Lib.hid (pays_no2 (ws := ws) hp)
    clear hp
    go_wp2_with fail
    go_ret2
    exact ⟨_, by rw [Hv.out]; rfl, by rw [dofV_no Hv.out]; exact Fr.Own.nil _ _, hb14⟩
  have Hpays := Lib.hid (pays_both HT.out hp)
  have hpp := procB_t hp
  have hTr := treeB_t HT.out
  have hn24 := hTr.n24
  have hn1 := hTr.n1
  have hnL : nP = nL := by have := hll.out; have := hpp.1; have := Hl.out; omega
  have hnW : nP = nW := by have := Hlw.out; have := hTr.wl; have := Hl.out; omega
  have hnP : 1 ≤ nP ∧ nP ≤ 24 := by have := Hl.out; omega
  have Hpp := Lib.hid hpp
  have HTr := Lib.hid hTr
  have HnW := Lib.hid hnW
  have hnW2 : nP ≤ nW := by omega
  clear hp hpp hn24 hn1 hTr hpn hwn hnW
  subst hnL
  go_wp2_with fail
  refine (impl_drifts _ _ _ _ _ _ ps ws _ _ _ l _ (H.out.below hb14) HTr.out (HL.out.below hb14) rfl Hpp.out.2).mono ?_
  rintro e w5 ⟨v5, rfl, ho5, hb5⟩
  go_wp2_with fail
  go_ret2
  exact ⟨_, by rw [Hpays.out]; rfl, by rw [dofV_yes Hpays.out]; exact ho5.mono hb14.size, hb14.trans (hb5.mono hb14.size)⟩
end Go.Proofs.Ytnbomleieianoaa

/- Contracts of the small words of the laws on rules and fractions. No conditions but those stated. -/
namespace Go.Proofs.Ytnbomleieianoaa
open Go.RowKit

theorem laws_vBig (a : Option Addr) (n cap : Nat) (w : World) :
    Calls Try.prog 10 #[.slice a n cap] w fun e w' => e = .returned (.bool (decide ((n : Int) > 65536))) ∧ w = w' := by
  by_cases h : (n : Int) > 65536
  all_goals
    go_enter Try.func10, Try.ntmps10
    go_wp2_with fail
    go_ret
    exact ⟨by simp [h], rfl⟩
set_option maxHeartbeats 400000 in
/-- Two slices that read alike are found equal. -/
theorem laws_vInts_q (a b : Option Addr) (n ca cb : Nat) (xs : List Int) (w : World) (hn : n ≤ 4294967296) (ha : Ints w a n xs) (hb : Ints w b n xs) :
    Calls Try.prog 20 #[.slice a n ca, .slice b n cb] w fun e w' => e = .returned (.bool true) ∧ ∃ m, w' = w.drewN m := by
  have Ha := Lib.hid ha
  have Hb := Lib.hid hb
  clear ha hb
  go_enter Try.func20, Try.ntmps20
  go_wp2_with fail
  go_loopw [5] (fun v5 wr => ∃ i m : Nat, i ≤ n ∧ v5 = .int .i64 i ∧ wr = w.drewN m) (fun v5 _ => n - (intOf v5).toNat)
  case atStart => exact ⟨0, 0, Nat.zero_le _, rfl, rfl⟩
  case round =>
    obtain ⟨i, m, hi, rfl, hwr⟩ := hrel
    have hbel : Below w.heap.size w wr := by rw [hwr]; exact below_drewN (Below.refl _ _) m
    have Hwr := Lib.hid hwr
    clear hwr
    by_cases hlt : (i : Int) < n
    · obtain ⟨ba, oa, rfl, hba, hca⟩ := Ha.out.2 (by omega)
      obtain ⟨bb, ob, rfl, hbb, hcb⟩ := Hb.out.2 (by omega)
      have h1 := (hbel.cell (p := ⟨ba, oa + i, none⟩) hba).trans (hca i (by omega))
      have h2 := (hbel.cell (p := ⟨bb, ob + i, none⟩) hbb).trans (hcb i (by omega))
      clear hca hcb hbel
      generalize nth xs i = c at h1 h2
      go_wp2_with fail
      go_quiet (fail)
      go_wp2_with fail
      go_roundw
      case rel => exact ⟨i + 1, _, by omega, by go_num, by rw [Hwr.out, World.drewN_drewN]⟩
      case measure => simp [intOf]; omega
    · go_wp2_with fail
      go_ret
      exact ⟨rfl, m, Hwr.out⟩
theorem laws_vInts (a b : Option Addr) (n ca cb : Nat) (xs : List Int) (w : World) (hn : n ≤ 4294967296) (ha : Ints w a n xs) (hb : Ints w b n xs) :
    Calls Try.prog 20 #[.slice a n ca, .slice b n cb] w fun e w' => e = .returned (.bool true) ∧ Below w.heap.size w w' :=
  (laws_vInts_q a b n ca cb xs w hn ha hb).mono fun _ _ ⟨he, m, hm⟩ => ⟨he, by rw [hm]; exact below_drewN (Below.refl _ _) m⟩
theorem laws_rBig (a : Option Addr) (n cap : Nat) (w : World) :
    Calls Try.prog 43 #[.slice a n cap] w fun e w' => e = .returned (.bool (decide ((n : Int) > 65536))) ∧ w = w' := by
  by_cases h : (n : Int) > 65536
  all_goals
    go_enter Try.func43, Try.ntmps43
    go_wp2_with fail
    go_ret
    exact ⟨by simp [h], rfl⟩
set_option maxHeartbeats 400000 in
/-- Two slices that read alike are found equal. -/
theorem laws_rInts_q (a b : Option Addr) (n ca cb : Nat) (xs : List Int) (w : World) (hn : n ≤ 4294967296) (ha : Ints w a n xs) (hb : Ints w b n xs) :
    Calls Try.prog 54 #[.slice a n ca, .slice b n cb] w fun e w' => e = .returned (.bool true) ∧ ∃ m, w' = w.drewN m := by
  have Ha := Lib.hid ha
  have Hb := Lib.hid hb
  clear ha hb
  go_enter Try.func54, Try.ntmps54
  go_wp2_with fail
  go_loopw [5] (fun v5 wr => ∃ i m : Nat, i ≤ n ∧ v5 = .int .i64 i ∧ wr = w.drewN m) (fun v5 _ => n - (intOf v5).toNat)
  case atStart => exact ⟨0, 0, Nat.zero_le _, rfl, rfl⟩
  case round =>
    obtain ⟨i, m, hi, rfl, hwr⟩ := hrel
    have hbel : Below w.heap.size w wr := by rw [hwr]; exact below_drewN (Below.refl _ _) m
    have Hwr := Lib.hid hwr
    clear hwr
    by_cases hlt : (i : Int) < n
    · obtain ⟨ba, oa, rfl, hba, hca⟩ := Ha.out.2 (by omega)
      obtain ⟨bb, ob, rfl, hbb, hcb⟩ := Hb.out.2 (by omega)
      have h1 := (hbel.cell (p := ⟨ba, oa + i, none⟩) hba).trans (hca i (by omega))
      have h2 := (hbel.cell (p := ⟨bb, ob + i, none⟩) hbb).trans (hcb i (by omega))
      clear hca hcb hbel
      generalize nth xs i = c at h1 h2
      go_wp2_with fail
      go_quiet (fail)
      go_wp2_with fail
      go_roundw
      case rel => exact ⟨i + 1, _, by omega, by go_num, by rw [Hwr.out, World.drewN_drewN]⟩
      case measure => simp [intOf]; omega
    · go_wp2_with fail
      go_ret
      exact ⟨rfl, m, Hwr.out⟩
theorem laws_rInts (a b : Option Addr) (n ca cb : Nat) (xs : List Int) (w : World) (hn : n ≤ 4294967296) (ha : Ints w a n xs) (hb : Ints w b n xs) :
    Calls Try.prog 54 #[.slice a n ca, .slice b n cb] w fun e w' => e = .returned (.bool true) ∧ Below w.heap.size w w' :=
  (laws_rInts_q a b n ca cb xs w hn ha hb).mono fun _ _ ⟨he, m, hm⟩ => ⟨he, by rw [hm]; exact below_drewN (Below.refl _ _) m⟩
set_option maxHeartbeats 400000 in
/-- Two slices of pairs that read alike are found equal. -/
theorem laws_rFracs_q (a b : Option Addr) (n ca cb : Nat) (xs : List (Int × Int)) (w : World) (hn : n ≤ 4294967296) (ha : Fr.Ints w a n xs) (hb : Fr.Ints w b n xs) :
    Calls Try.prog 57 #[.slice a n ca, .slice b n cb] w fun e w' => e = .returned (.bool true) ∧ ∃ m, w' = w.drewN m := by
  have Ha := Lib.hid ha
  have Hb := Lib.hid hb
  clear ha hb
  go_enter Try.func57, Try.ntmps57
  go_wp2_with fail
  go_loopw [5] (fun v5 wr => ∃ i m : Nat, i ≤ n ∧ v5 = .int .i64 i ∧ wr = w.drewN m) (fun v5 _ => n - (intOf v5).toNat)
  case atStart => exact ⟨0, 0, Nat.zero_le _, rfl, rfl⟩
  case round =>
    obtain ⟨i, m, hi, rfl, hwr⟩ := hrel
    have hbel : Below w.heap.size w wr := by rw [hwr]; exact below_drewN (Below.refl _ _) m
    have Hwr := Lib.hid hwr
    clear hwr
    by_cases hlt : (i : Int) < n
    · obtain ⟨ba, oa, rfl, hba, hca⟩ := Ha.out.2 (by omega)
      obtain ⟨bb, ob, rfl, hbb, hcb⟩ := Hb.out.2 (by omega)
      have h1 := (hbel.cell (p := ⟨ba, oa + i * 2, none⟩) hba).trans (hca i (by omega)).1
      have h2 := (hbel.cell (p := ⟨ba, oa + i * 2 + 1, none⟩) hba).trans (hca i (by omega)).2
      have h3 := (hbel.cell (p := ⟨bb, ob + i * 2, none⟩) hbb).trans (hcb i (by omega)).1
      have h4 := (hbel.cell (p := ⟨bb, ob + i * 2 + 1, none⟩) hbb).trans (hcb i (by omega)).2
      clear hca hcb hbel
      generalize Fr.at1 xs i = c at h1 h3
      generalize Fr.at2 xs i = d at h2 h4
      have hqA : ∀ W, (Op.equalIn 10000 48 (.agg #[.int .i64 c, .int .i64 d]) (.agg #[.int .i64 c, .int .i64 d])).run Try.prog W = .ok true W := fun W => by rw [eqA2]; simp
      go_wp2_with fail
      go_quiet (fail)
      go_wp2_with fail
      go_roundw
      case rel => exact ⟨i + 1, _, by omega, by go_num, by rw [Hwr.out, World.drewN_drewN]⟩
      case measure => simp [intOf]; omega
    · go_wp2_with fail
      go_ret
      exact ⟨rfl, m, Hwr.out⟩
theorem laws_rFracs (a b : Option Addr) (n ca cb : Nat) (xs : List (Int × Int)) (w : World) (hn : n ≤ 4294967296) (ha : Fr.Ints w a n xs) (hb : Fr.Ints w b n xs) :
    Calls Try.prog 57 #[.slice a n ca, .slice b n cb] w fun e w' => e = .returned (.bool true) ∧ Below w.heap.size w w' :=
  (laws_rFracs_q a b n ca cb xs w hn ha hb).mono fun _ _ ⟨he, m, hm⟩ => ⟨he, by rw [hm]; exact below_drewN (Below.refl _ _) m⟩
set_option maxHeartbeats 400000 in
/-- Two slices of pairs that read alike are found equal. -/
theorem laws_vPairs_q (a b : Option Addr) (n ca cb : Nat) (xs : List (Int × Int)) (w : World) (hn : n ≤ 4294967296) (ha : Fr.Ints w a n xs) (hb : Fr.Ints w b n xs) :
    Calls Try.prog 27 #[.slice a n ca, .slice b n cb] w fun e w' => e = .returned (.bool true) ∧ ∃ m, w' = w.drewN m := by
  have Ha := Lib.hid ha
  have Hb := Lib.hid hb
  clear ha hb
  go_enter Try.func27, Try.ntmps27
  go_wp2_with fail
  go_loopw [5] (fun v5 wr => ∃ i m : Nat, i ≤ n ∧ v5 = .int .i64 i ∧ wr = w.drewN m) (fun v5 _ => n - (intOf v5).toNat)
  case atStart => exact ⟨0, 0, Nat.zero_le _, rfl, rfl⟩
  case round =>
    obtain ⟨i, m, hi, rfl, hwr⟩ := hrel
    have hbel : Below w.heap.size w wr := by rw [hwr]; exact below_drewN (Below.refl _ _) m
    have Hwr := Lib.hid hwr
    clear hwr
    by_cases hlt : (i : Int) < n
    · obtain ⟨ba, oa, rfl, hba, hca⟩ := Ha.out.2 (by omega)
      obtain ⟨bb, ob, rfl, hbb, hcb⟩ := Hb.out.2 (by omega)
      have h1 := (hbel.cell (p := ⟨ba, oa + i * 2, none⟩) hba).trans (hca i (by omega)).1
      have h2 := (hbel.cell (p := ⟨ba, oa + i * 2 + 1, none⟩) hba).trans (hca i (by omega)).2
      have h3 := (hbel.cell (p := ⟨bb, ob + i * 2, none⟩) hbb).trans (hcb i (by omega)).1
      have h4 := (hbel.cell (p := ⟨bb, ob + i * 2 + 1, none⟩) hbb).trans (hcb i (by omega)).2
      clear hca hcb hbel
      generalize Fr.at1 xs i = c at h1 h3
      generalize Fr.at2 xs i = d at h2 h4
      have hqA : ∀ W, (Op.equalIn 10000 48 (.agg #[.int .i64 c, .int .i64 d]) (.agg #[.int .i64 c, .int .i64 d])).run Try.prog W = .ok true W := fun W => by rw [eqA2]; simp
      go_wp2_with fail
      go_quiet (fail)
      go_wp2_with fail
      go_roundw
      case rel => exact ⟨i + 1, _, by omega, by go_num, by rw [Hwr.out, World.drewN_drewN]⟩
      case measure => simp [intOf]; omega
    · go_wp2_with fail
      go_ret
      exact ⟨rfl, m, Hwr.out⟩
theorem laws_vPairs (a b : Option Addr) (n ca cb : Nat) (xs : List (Int × Int)) (w : World) (hn : n ≤ 4294967296) (ha : Fr.Ints w a n xs) (hb : Fr.Ints w b n xs) :
    Calls Try.prog 27 #[.slice a n ca, .slice b n cb] w fun e w' => e = .returned (.bool true) ∧ Below w.heap.size w w' :=
  (laws_vPairs_q a b n ca cb xs w hn ha hb).mono fun _ _ ⟨he, m, hm⟩ => ⟨he, by rw [hm]; exact below_drewN (Below.refl _ _) m⟩
set_option maxHeartbeats 400000 in
theorem laws_rLess (a b c d : Int) (w : World) (h1 : -4611686018427387904 ≤ a * d ∧ a * d ≤ 4611686018427387904) (h2 : -4611686018427387904 ≤ c * b ∧ c * b ≤ 4611686018427387904) :
    Calls Try.prog 58 #[.agg #[.int .i64 a, .int .i64 b], .agg #[.int .i64 c, .int .i64 d]] w fun e w' => e = .returned (.bool (decide (a * d < c * b))) ∧ Below w.heap.size w w' := by
  have hbb : Below w.heap.size w ((w.alloc (.cells #[.int .i64 a, .int .i64 b] 48)).alloc (.cells #[.int .i64 c, .int .i64 d] 48)) := (below_new w _).alloc (by simp) _
  have hp := (Pair.new w (.int .i64 a) (.int .i64 b) 48).alloc (.cells #[.int .i64 c, .int .i64 d] 48)
  have hq := Pair.new (w.alloc (.cells #[.int .i64 a, .int .i64 b] 48)) (.int .i64 c) (.int .i64 d) 48
  rw [show (w.alloc (.cells #[.int .i64 a, .int .i64 b] 48)).heap.size = w.heap.size + 1 by simp] at hq
  have c0 := hp.c0
  have c1 := hp.c1
  have d0 := hq.c0
  have d1 := hq.c1
  have k1 : IntKind.i64.wrap (a * d) = a * d := IntWalk.i64_in _ (by omega)
  have k2 : IntKind.i64.wrap (c * b) = c * b := IntWalk.i64_in _ (by omega)
  clear hp hq h1 h2
  have HB := Lib.hid hbb
  clear hbb
  go_enter Try.func58, Try.ntmps58
  go_wp2_with fail
  go_ret
  exact ⟨rfl, HB.out⟩
end Go.Proofs.Ytnbomleieianoaa
