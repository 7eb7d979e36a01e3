/- Contracts: the envelope of each node, by the program and by the reference. -/
import Derived.Test.YtjkkfjipgomkdaaFr
import Derived.Test.YtjkkfjipgomkdaaLow
import Derived.Test.YtjkkfjipgomkdaaCaps
import Derived.Test.YtjkkfjipgomkdaaWorth
import Derived.Test.YtjkkfjipgomkdaaKeepB
import Derived.Test.YtjkkfjipgomkdaaCost
import Derived.Deep.DeepCutAuto
import Derived.Deep.Cut
namespace Go.Proofs.Ytjkkfjipgomkdaa
open Go.RowKit

/-- The envelopes. -/
def envL (ps ws l : List Int) : List (Int × Int) := (List.range ps.length).map fun x => (nm (nth (capW ps ws l) x) (nth (sums ps ws) x), dn (nth (capW ps ws l) x) (nth (sums ps ws) x))
theorem envL_length (ps ws l : List Int) : (envL ps ws l).length = ps.length := by simp [envL]
theorem envL_take (ps ws l : List Int) {x : Nat} (hx : x < ps.length) : (envL ps ws l).take (x + 1) = (envL ps ws l).take x ++ [(nm (nth (capW ps ws l) x) (nth (sums ps ws) x), dn (nth (capW ps ws l) x) (nth (sums ps ws) x))] := by
  rw [List.take_succ_eq_append_getElem (by rw [envL_length]; exact hx)]
  simp [envL]
def envV (ps ws l : List Int) : List (Int × Int) := if paysB ps ws l then envL ps ws l else []
theorem envV_no {ps ws l : List Int} (h : paysB ps ws l = false) : envV ps ws l = [] := by rw [envV, h]; rfl
theorem envV_yes {ps ws l : List Int} (h : paysB ps ws l = true) : envV ps ws l = envL ps ws l := by rw [envV, h]; rfl
theorem envV_len {ps ws l : List Int} : (envV ps ws l).length ≤ 24 := by
  cases h : paysB ps ws l
  · rw [envV_no h]; simp
  · rw [envV_yes h, envL_length]; exact (paysB_t h).1.n24
set_option maxRecDepth 100000 in
set_option maxHeartbeats 2000000 in
theorem impl_EnvelopeOf (aP : Option Addr) (nP cP : Nat) (aW : Option Addr) (nW cW : Nat) (ps ws : List Int) (aL : Option Addr) (nL cL : Nat) (l : List Int) (w : World) (h : Tre w aP nP cP aW nW cW ps ws) (hL : Ints w aL nL l) (_hLc : aL = none → cL = 0) (hn : nL ≤ 1048576) :
    Calls Try.prog 26 #[.agg #[.slice aP nP cP, .slice aW nW cW], .slice aL nL cL] w fun e w' => ∃ v, e = .returned (.tuple #[v, .bool (paysB ps ws l)]) ∧ Fr.Own w' w.heap.size v (envV ps ws l) ∧ Below w.heap.size w w' := by
  have hl := h.p.1
  have hlw := h.w.1
  have hpn := h.pn
  have hwn := h.wn
  have hb1 := below_new w (.cells #[.slice aP nP cP, .slice aW nW cW] 28)
  have hP1 := Lib.hid (Pair.new w (.slice aP nP cP) (.slice aW nW cW) 28)
  have H := Lib.hid h
  have Hl := Lib.hid hl
  have Hlw := Lib.hid hlw
  clear h hl hlw
  have HL := Lib.hid hL
  have hll := Lib.hid hL.1
  clear hL
  go_enter Try.func26, Try.ntmps26
  have c0 := hP1.out.c0
  have c1 := hP1.out.c1
  go_wp2_with fail
  generalize (w.alloc (.cells #[.slice aP nP cP, .slice aW nW cW] 28)) = w2 at *
  refine (impl_IsTree _ _ _ _ _ _ ps ws _ (H.out.below hb1)).mono ?_
  rintro e w3 ⟨rfl, hb3⟩
  have HP3 := Lib.hid (hP1.out.below hb3)
  have d0 := HP3.out.c0
  have d1 := HP3.out.c1
  have hb13 := hb1.trans (hb3.mono hb1.size)
  clear c0 c1 hb3 hP1
  cases hT : treeB ps ws
  · have Hv := Lib.hid (pays_no1 (l := l) hT)
    clear hT
    go_wp2_with fail
    go_ret2
    exact ⟨_, by rw [Hv.out]; rfl, by rw [envV_no Hv.out]; exact Fr.Own.nil _ _, hb13⟩
  have HT := Lib.hid hT
  clear hT
  go_wp2_with fail
  refine (impl_isProcess _ _ _ _ _ _ ps ws _ _ _ l _ (H.out.below hb13) (HL.out.below hb13) hn).mono ?_
  rintro e w4 ⟨rfl, hb4⟩
  have HP4 := Lib.hid (HP3.out.below hb4)
  have e0 := HP4.out.c0
  have e1 := HP4.out.c1
  have hb14 := hb13.trans (hb4.mono hb13.size)
  clear d0 d1 hb4 HP3
  cases hp : procB ps.length l
  · have Hv := Lib.hid (pays_no2 (ws := ws) hp)
    clear hp
    go_wp2_with fail
    go_ret2
    exact ⟨_, by rw [Hv.out]; rfl, by rw [envV_no Hv.out]; exact Fr.Own.nil _ _, hb14⟩
  have Hpays := Lib.hid (pays_both HT.out hp)
  obtain ⟨hTr, _, _, hleq, hlb⟩ := paysB_t Hpays.out
  have hnL : nP = nL := by have := hll.out; have := Hl.out; omega
  have HTT := Lib.hid hTr
  have Hlb := Lib.hid hlb
  have hn24 := hTr.n24
  have hnP : 1 ≤ nP ∧ nP ≤ 24 := by have := hTr.n1; have := Hl.out; omega
  have Hval := Lib.hid (envV_yes Hpays.out)
  clear hp hTr hleq hlb hn24 hn hpn hwn
  subst hnL
  have Hsl : Hid ((sums ps ws).length = nP) := Lib.hid (by rw [sums_length HTT.out]; exact Hl.out)
  have hnil := Fr.own_nil0 w4
  have hnew := below_new w4 (.cells #[] 34)
  have HP4' := Lib.hid (HP4.out.below hnew)
  have hb14' := hb14.trans (hnew.mono hb14.size)
  have f0 := HP4'.out.c0
  have f1 := HP4'.out.c1
  have hw4 : w.heap.size + 1 ≤ w4.heap.size := HP4.out.lt
  have hw4' : w4.heap.size ≤ (w4.alloc (.cells #[] 34)).heap.size := hnew.size
  have hw4n : (w4.alloc (.cells #[] 34)).heap.size = w4.heap.size + 1 := by simp
  clear hb14 HP4 hnew
  have hnil' := Lib.hid hnil
  clear hnil
  go_wp2_with fail
  generalize w4.alloc (.cells #[] 34) = w5 at *
  refine (impl_sums _ _ _ _ _ _ ps ws _ (H.out.below hb14') HTT.out).mono ?_
  rintro e w6 ⟨v6, rfl, ho6, hb6⟩
  obtain ⟨a6, c6, rfl⟩ := ho6.shape
  rw [Hsl.out] at ho6 ⊢
  have G6 := Lib.hid ho6.ints
  have HP6 := Lib.hid (HP4'.out.below hb6)
  have HO6 := Lib.hid (hnil'.out.below hb6)
  have hb16 := hb14'.trans (hb6.mono hb14'.size)
  generalize hg5 : w4.heap.size = g5 at *
  have Hap6 : Hid (Apart a6 (Value.slice (some ⟨g5, 0, none⟩) 0 0)) := Lib.hid fun p hp e => by
    obtain ⟨g, cap, he, hg, _⟩ := ho6.form (by rw [sums_length HTT.out]; have := Hl.out; omega)
    cases he
    cases hp
    simp [Value.ownBlock] at e
    omega
  have hs6 : w5.heap.size ≤ w6.heap.size := hb6.size
  clear ho6 hb6 hnil' HP4' hb14' f0 f1 e0 e1 hg5
  have f0 := HP6.out.c0
  have f1 := HP6.out.c1
  go_wp2_with fail
  refine (impl_worth _ _ _ _ _ _ ps ws _ _ _ l _ 24 _ (H.out.below hb16) HTT.out (HL.out.below hb16) rfl Hlb.out (.inl ⟨by omega, rfl⟩)).mono ?_
  rintro e w7 ⟨a1, k1, a2, k2, rfl, o1, o2, b7⟩
  have hb17 := hb16.trans (b7.mono hb16.size)
  have G7 := Lib.hid o1.ints
  have G6' := Lib.hid (G6.out.below b7)
  have HP7 := Lib.hid (HP6.out.below b7)
  have HO7 := Lib.hid (HO6.out.below b7)
  have Hap7 : Hid (Apart a1 (Value.slice (some ⟨g5, 0, none⟩) 0 0)) := Lib.hid fun p hp e => by
    obtain ⟨g, cap, he, hg, _⟩ := o1.form (by rw [worthL_length]; have := Hl.out; omega)
    cases he
    cases hp
    simp [Value.ownBlock] at e
    omega
  have hs7 : g5 ≤ w7.heap.size := by have := b7.size; omega
  have Hcl : Hid ((capW ps ws l).length = nP) := Lib.hid (by rw [capW_length]; exact Hl.out)
  have Hca := Lib.hid (worth_abs HTT.out Hlb.out 24)
  clear o1 o2 b7 G6 HP6 HO6 hb16 f0 f1 hs6
  go_wp2_with fail
  go_loopw [6, 34] (fun v6 v34 wr => ∃ x : Nat, x ≤ nP ∧ v34 = .int .i64 (x : Int) ∧ Fr.Own wr g5 v6 ((envL ps ws l).take x) ∧ Ints wr a6 nP (sums ps ws) ∧ Ints wr a1 nP (capW ps ws l) ∧ Apart a6 v6 ∧ Apart a1 v6 ∧ Pair wr w.heap.size (.slice aP nP cP) (.slice aW nW cW) ∧ Below w.heap.size w wr ∧ g5 ≤ wr.heap.size) (fun _ v34 _ => nP - (intOf v34).toNat)
  case atStart => exact ⟨0, Nat.zero_le _, rfl, by rw [List.take_zero]; exact HO7.out, G6'.out, G7.out, Hap6.out, Hap7.out, HP7.out, hb17, hs7⟩
  case round =>
    clear HO7 G6' G7 Hap6 Hap7 HP7 hb17 hs7
    obtain ⟨x, hx, rfl, hou, h6, h7, p6, p7, hP, hbel, hsz⟩ := hrel
    have HP := Lib.hid hP
    have HO := Lib.hid hou
    have G6 := Lib.hid h6
    have G7 := Lib.hid h7
    have P6 := Lib.hid p6
    have P7 := Lib.hid p7
    clear hP hou h6 h7 p6 p7
    by_cases hlt : (x : Int) < nP
    · obtain ⟨b6, o6, rfl, hc6⟩ := G6.out.at (i := x) (Below.refl _ _) (by omega)
      obtain ⟨b7, o7, rfl, hc7⟩ := G7.out.at (i := x) (Below.refl _ _) (by omega)
      have Hml := Lib.hid (envL_take ps ws l (x := x) (by have := Hl.out; omega))
      have hol : ((envL ps ws l).take x).length ≤ 24 := by rw [List.length_take]; omega
      have hs1 := sums_pos HTT.out x (by have := Hl.out; omega)
      have hs2 := (sums_bd HTT.out x).2
      have hcx : -479520 ≤ nth (capW ps ws l) x ∧ nth (capW ps ws l) x ≤ 479520 := Hca.out x
      have HcL : Hid (∀ W : World, Calls Try.prog 65 #[.int .i64 (nth (capW ps ws l) x), .int .i64 (nth (sums ps ws) x)] W fun e w' => e = .returned (.tuple #[.agg #[.int .i64 (nm (nth (capW ps ws l) x) (nth (sums ps ws) x)), .int .i64 (dn (nth (capW ps ws l) x) (nth (sums ps ws) x))], .bool true]) ∧ Below W.heap.size W w') := Lib.hid fun W => impl_lowest_s _ _ W (by omega) (by omega)
      clear hs1 hs2 hcx
      generalize nm (nth (capW ps ws l) x) (nth (sums ps ws) x) = gn at *
      generalize dn (nth (capW ps ws l) x) (nth (sums ps ws) x) = gd at *
      generalize nth (capW ps ws l) x = cx at *
      generalize nth (sums ps ws) x = sx at *
      generalize (envL ps ws l).take x = acc at *
      have k2 : (0 : Int) ≤ (x : Int) := by omega
      obtain ⟨wo, rfl⟩ : ∃ wo, wo = wr := ⟨_, rfl⟩
      go_upto_region 9 with (go_at_call 65; refine (HcL.out _).mono ?_; rintro e w7 ⟨rfl, b7⟩
                             have q := Pair.new w7 (.int .i64 0) (.int .i64 0) 34
                             have q0 := q.c0
                             have q1 := q.c1
                             have q2 := q.f0
                             have q3 := q.f1)
      have hb17 := hbel.trans (b7.mono hbel.size)
      have hnew := below_new w7 (.cells #[.int .i64 gn, .int .i64 gd] 34)
      have HF := Lib.hid (Pair.new w7 (.int .i64 gn) (.int .i64 gd) 34)
      have G6n := Lib.hid ((G6.out.below b7).below hnew)
      have G7n := Lib.hid ((G7.out.below b7).below hnew)
      have HP8 := Lib.hid ((HP.out.below b7).below hnew)
      have HO8 := Lib.hid ((HO.out.below b7).below hnew)
      have hb18 := hb17.trans (hnew.mono hb17.size)
      have hsz8 : g5 ≤ (w7.alloc (.cells #[.int .i64 gn, .int .i64 gd] 34)).heap.size := Nat.le_trans hsz (Nat.le_trans b7.size hnew.size)
      clear q q0 q1 q2 q3 b7 hnew hb17 hc6 hc7 HP HO G6 G7
      generalize w7.alloc (.cells #[.int .i64 gn, .int .i64 gd] 34) = w8 at *
      have z0 := HF.out.c0
      have z1 := HF.out.c1
      have hgw : w.heap.size ≤ g5 := by omega
      go_wp2_with (at_builtin; refine Fr.wp_push2 _ _ rfl rfl g5 _ _ rfl HO8.out rfl (by omega) hsz8 ?_; intro v' w' ho hb hm)
      have h6' := G6n.out.moved hm (fun _ => P6.out)
      have h7' := G7n.out.moved hm (fun _ => P7.out)
      go_roundw
      case rel => exact ⟨x + 1, by omega, by go_num, by rw [Hml.out]; exact ho, h6'.1, h7'.1, h6'.2 (by omega), h7'.2 (by omega), HP8.out.up hb (by omega), hb18.trans (hb.mono hgw), Nat.le_trans hsz8 hb.size⟩
      case measure => simp [intOf]; omega
    · obtain rfl : x = nP := by omega
      have hfin : (envL ps ws l).take x = envL ps ws l := List.take_of_length_le (by rw [envL_length]; have := Hl.out; omega)
      have HO2 := HO.out
      rw [hfin] at HO2
      go_wp2_with fail
      go_ret2
      exact ⟨_, by rw [Hpays.out]; rfl, by rw [Hval.out]; exact HO2.mono (by omega), hbel⟩
end Go.Proofs.Ytjkkfjipgomkdaa
