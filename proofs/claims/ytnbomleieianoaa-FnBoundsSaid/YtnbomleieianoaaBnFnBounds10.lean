/- Contracts and plain laws for the statement FnBounds, part 10. No conditions but those stated in each. -/
import Derived.Test.YtnbomleieianoaaBnFnBounds5
import Derived.Test.YtnbomleieianoaaBnFnBounds9
/- Contract: payments less a cost of each step, of the reference. -/
namespace Go.Proofs.Ytnbomleieianoaa
open Go.RowKit

theorem costV_len (ps ws l : List Int) (c : Int) : (costV ps ws l c).length ≤ 4294967296 := by
  cases h : costB ps ws l c
  · rw [costV_no h]; simp
  · rw [costV_yes h, costL_length]
    have : paysB ps ws l = true := by simp only [costB, Bool.and_eq_true] at h; exact h.1
    have := (paysB_t this).1.n24
    omega
set_option maxRecDepth 100000 in
set_option maxHeartbeats 2000000 in
theorem spec_CostlySteps (aP : Option Addr) (nP cP : Nat) (aW : Option Addr) (nW cW : Nat) (ps ws : List Int) (aL : Option Addr) (nL cL : Nat) (l : List Int) (c : Int) (w : World) (h : Tre w aP nP cP aW nW cW ps ws) (hL : Ints w aL nL l) (_hLc : aL = none → cL = 0) (hn : nL ≤ 1048576) :
    Calls Try.prog 53 #[.agg #[.slice aP nP cP, .slice aW nW cW], .slice aL nL cL, .int .i64 c] w fun e w' => ∃ v, e = .returned (.tuple #[v, .bool (costB ps ws l c)]) ∧ Own w' w.heap.size v (costV ps ws l c) ∧ Below w.heap.size w w' := by
  have hl := h.p.1
  have hlw := h.w.1
  have hpn := h.pn
  have hwn := h.wn
  have hb1 := below_new w (.cells #[.slice aP nP cP, .slice aW nW cW] 26)
  have hP1 := Lib.hid (Pair.new w (.slice aP nP cP) (.slice aW nW cW) 26)
  have H := Lib.hid h
  have Hl := Lib.hid hl
  have Hlw := Lib.hid hlw
  clear h hl hlw
  have HL := Lib.hid hL
  have hll := Lib.hid hL.1
  clear hL
  have hnil := own_nil0 (w.alloc (.cells #[.slice aP nP cP, .slice aW nW cW] 26))
  rw [show (w.alloc (.cells #[.slice aP nP cP, .slice aW nW cW] 26)).heap.size = w.heap.size + 1 by simp] at hnil
  have Hnil := Lib.hid hnil
  clear hnil
  go_enter Try.func53, Try.ntmps53
  go_wp2_with fail
  have hb2 : Below w.heap.size w ((w.alloc (.cells #[.slice aP nP cP, .slice aW nW cW] 26)).alloc (.cells #[] 3)) := hb1.alloc (by simp) _
  have hP2 := hP1.out.alloc (.cells #[] 3)
  generalize ((w.alloc (.cells #[.slice aP nP cP, .slice aW nW cW] 26)).alloc (.cells #[] 3)) = w2 at *
  have HP2 := Lib.hid hP2
  clear hP2 hP1 hb1
  refine (spec_l4Pays _ _ _ _ _ _ ps ws _ _ _ l _ (H.out.below hb2) (HL.out.below hb2) hn).mono ?_
  rintro e w3 ⟨rfl, hb3⟩
  have hP3 := HP2.out.below hb3
  have d0 := hP3.c0
  have d1 := hP3.c1
  have HP3 := Lib.hid hP3
  have hb13 := hb2.trans (hb3.mono hb2.size)
  have Hnil3 := Lib.hid (Hnil.out.below hb3)
  clear hP3 hb3
  cases hT : paysB ps ws l
  · have Hv := Lib.hid (cost_no1 (c := c) hT)
    clear hT
    go_wp2_with fail
    go_ret2
    exact ⟨_, by rw [Hv.out]; rfl, by rw [costV_no Hv.out]; exact Hnil3.out.mono (by omega), hb13⟩
  · have hpt := paysB_t hT
    have Hpays := Lib.hid hT
    have Hpt := Lib.hid hpt
    clear hT hpt
    cases hc : inB c 0 999
    · have Hv := Lib.hid (cost_no2 (ps := ps) (ws := ws) (l := l) hc)
      have Hc := Lib.hid hc
      clear hc
      go_wp2_with (go_at_call 123; refine (spec_l1In _ _ _ _).mono ?_; rintro e w' ⟨rfl, rfl⟩; rw [Hc.out])
      go_ret2
      exact ⟨_, by rw [Hv.out]; rfl, by rw [costV_no Hv.out]; exact Hnil3.out.mono (by omega), hb13⟩
    · have Hc := Lib.hid hc
      have hcb := inB_t hc
      have hn24 := Hpt.out.1.n24
      have hn1 := Hpt.out.1.n1
      have hnL : nP = nL := by have := hll.out; have := Hpt.out.2.2.2.1; have := Hl.out; omega
      have hnP : 1 ≤ nP ∧ nP ≤ 24 := by have := Hl.out; omega
      clear hc hn24 hn1
      subst hnL
      go_wp2_with (go_at_call 123; refine (spec_l1In _ _ _ _).mono ?_; rintro e w' ⟨rfl, rfl⟩; rw [Hc.out])
      refine (spec_l2Depths _ _ _ _ _ _ ps ws _ (H.out.below hb13) Hpt.out.1.toPa).mono ?_
      rintro e w4 ⟨v4, rfl, ho4, hb4⟩
      obtain ⟨a4, c4, rfl⟩ := ho4.shape
      have hdl : (deps ps).length = nP := by rw [deps_length]; exact Hl.out
      rw [hdl] at ho4 ⊢
      have hb14 := hb13.trans (hb4.mono hb13.size)
      have HP4 := Lib.hid (HP3.out.below hb4)
      have Hnil4 := Lib.hid (Hnil3.out.below hb4)
      have HD4 := Lib.hid ho4.ints
      have hap0 : Hid (0 < nP → Apart a4 (Value.slice (some ⟨w.heap.size + 1, 0, none⟩) 0 0)) := Lib.hid fun h0 p hp e => by
        obtain ⟨g, cap, he, hg, _⟩ := ho4.form (by omega)
        cases he
        cases hp
        simp [Value.ownBlock] at e
        have := Hnil3.out.lt.2
        omega
      have Hcl : Hid (costL ps l c = (List.range nP).map fun x => nth l x - c * dep ps x) := Lib.hid (by rw [costL, Hl.out])
      clear ho4 hdl hb4 d0 d1
      go_wp2_with fail
      go_loopw [8, 10] (fun v8 v10 wr => ∃ k : Nat, k ≤ nP ∧ v10 = .int .i64 (k : Int) ∧ Own wr (w.heap.size + 1) v8 ((List.range k).map fun x => nth l x - c * dep ps x) ∧ Ints wr a4 nP (deps ps) ∧ (0 < nP → Apart a4 v8) ∧ Pair wr w.heap.size (.slice aP nP cP) (.slice aW nW cW) ∧ Below w.heap.size w wr) (fun _ v10 _ => nP - (intOf v10).toNat)
      case atStart => exact ⟨0, Nat.zero_le _, rfl, Hnil4.out, HD4.out, hap0.out, HP4.out, hb14⟩
      case round =>
        clear hb14 hb13 hb2
        obtain ⟨k, hk, rfl, hown, hD, hap, hP, hbel⟩ := hrel
        have HD := Lib.hid hD
        have Hap := Lib.hid hap
        have HP := Lib.hid hP
        have Hown := Lib.hid hown
        clear hD hap hP hown
        by_cases hlt : (k : Int) < nP
        · obtain ⟨bD, oD, rfl, hcD⟩ := HD.out.at (i := k) (Below.refl _ _) (by omega)
          obtain ⟨bL, oL, rfl, hbL, hcL⟩ := HL.out.at2 (i := k) hbel (by omega)
          have hdb := dep_bd Hpt.out.1.toPa k (by have := Hl.out; omega)
          rw [nth_deps (by have := Hl.out; omega)] at hcD
          have hlb := Hpt.out.2.2.2.2 k
          have hmb : 0 ≤ c * dep ps k ∧ c * dep ps k ≤ 999 * 24 := ⟨Int.mul_nonneg (by omega) (by omega), Int.mul_le_mul (by omega) (by omega) (by omega) (by omega)⟩
          have hnx : ((List.range (k + 1)).map fun x => nth l x - c * dep ps x) = ((List.range k).map fun x => nth l x - c * dep ps x) ++ [nth l k - c * dep ps k] := by rw [List.range_succ, List.map_append]; rfl
          have Hnx := Lib.hid hnx
          clear hnx
          generalize dep ps k = D at *
          generalize nth l k = u at *
          have k1 : IntKind.i64.wrap (c * D) = c * D := IntWalk.i64_in _ (by omega)
          have k2 : IntKind.i64.wrap (u - c * D) = u - c * D := IntWalk.i64_in _ (by omega)
          have k7 : (0 : Int) ≤ (k : Int) := by omega
          have hle : w.heap.size + 1 ≤ wr.heap.size := by have := HP.out.lt; omega
          have hlD := World.block_lt_of_cell? wr _ hcD
          have hlL := World.block_lt_of_cell? wr _ hcL
          have HnD := Lib.hid (Hap.out (by omega) _ rfl)
          have HnL := Lib.hid (own_low Hown.out (show bL < w.heap.size + 1 by omega))
          go_wp2_with fail
          go_region_held3 (fun w' => w'.cell? ⟨bD, oD + k, none⟩ = some (.int .i64 D) ∧ w'.cell? ⟨bL, oL + k, none⟩ = some (.int .i64 u))
            (first | go_keep | (go_split_ands; exact ⟨hm.cell hcD HnD.out, hm.cell hcL HnL.out⟩))
            ((refine step_push2 (by rfl) _ _ (by rfl) (w.heap.size + 1) _ _ (by rfl) Hown.out (by rfl) (by simp; omega) hle ?_; intro v' w' ho hb hm))
          have hD2 := HD.out.moved hm Hap.out
          have hbk := hbel.trans (hb.mono (Nat.le_succ _))
          have hPk := HP.out.up hb (Nat.lt_succ_self _)
          have HD2 := Lib.hid hD2
          have HPk := Lib.hid hPk
          have HO := Lib.hid ho
          clear hD2 hPk hm hb ho
          go_wp2_with fail
          go_roundw
          case rel => exact ⟨k + 1, by omega, by go_num, by rw [Hnx.out]; exact HO.out, HD2.out.1, HD2.out.2, HPk.out, hbk⟩
          case measure => simp [intOf]; omega
        · obtain rfl : k = nP := by omega
          have f0 := HP.out.c0
          have f1 := HP.out.c1
          have hown := Hown.out
          rw [← Hcl.out] at hown
          obtain ⟨a8, c8, rfl⟩ := hown.shape
          have hclen : (costL ps l c).length = k := by rw [costL_length]; exact Hl.out
          rw [hclen] at hown ⊢
          have HOw := Lib.hid hown
          have hci := Lib.hid hown.ints
          clear hown hclen
          go_wp2_with fail
          refine (spec_l4Pays _ _ _ _ _ _ ps ws _ _ _ (costL ps l c) _ (H.out.below hbel) hci.out (by omega)).mono ?_
          rintro e w7 ⟨rfl, hb7⟩
          have hb17 := hbel.trans (hb7.mono hbel.size)
          have HOw7 := Lib.hid (HOw.out.below hb7)
          clear hb7 f0 f1
          cases hpc : procB ps.length (costL ps l c)
          · have Hv := Lib.hid (cost_no3 (ws := ws) hpc)
            have Hpb := Lib.hid (pays_no2 (ws := ws) hpc)
            clear hpc
            rw [Hpb.out]
            have hnil := own_nil0 w7
            have Hnil7 := Lib.hid hnil
            clear hnil
            go_wp2_with fail
            go_ret2
            exact ⟨_, by rw [Hv.out]; rfl, by rw [costV_no Hv.out]; exact Hnil7.out.mono hb17.size, hb17.alloc hb17.size _⟩
          · have Hv := Lib.hid (cost_yes Hpays.out Hc.out hpc)
            have Hpb := Lib.hid (pays_both Hpt.out.2.1 hpc)
            clear hpc
            rw [Hpb.out]
            go_wp2_with fail
            go_ret2
            exact ⟨_, by rw [Hv.out]; rfl, by rw [costV_yes Hv.out]; exact HOw7.out.mono (by omega), hb17⟩
end Go.Proofs.Ytnbomleieianoaa
