/- Contracts: payments less a cost of each step, of the program and of the reference. -/
import Derived.Test.YtfnmhoidgnihoaaTree7
import Derived.Test.YtfnmhoidgnihoaaB3
namespace Go.Proofs.Ytfnmhoidgnihoaa
open Go.RowKit

def costL (ps l : List Int) (c : Int) : List Int := (List.range ps.length).map fun x => nth l x - c * dep ps x
theorem costL_length (ps l : List Int) (c : Int) : (costL ps l c).length = ps.length := by simp [costL]
def costB (ps ws l : List Int) (c : Int) : Bool := paysB ps ws l && (inB c 0 999 && procB ps.length (costL ps l c))
def costV (ps ws l : List Int) (c : Int) : List Int := if costB ps ws l c then costL ps l c else []
theorem cost_no1 {ps ws l : List Int} {c : Int} (h : paysB ps ws l = false) : costB ps ws l c = false := by rw [costB, h]; rfl
theorem cost_no2 {ps ws l : List Int} {c : Int} (h : inB c 0 999 = false) : costB ps ws l c = false := by rw [costB, h]; simp
theorem cost_no3 {ps ws l : List Int} {c : Int} (h : procB ps.length (costL ps l c) = false) : costB ps ws l c = false := by rw [costB, h]; simp
theorem cost_yes {ps ws l : List Int} {c : Int} (h1 : paysB ps ws l = true) (h2 : inB c 0 999 = true) (h3 : procB ps.length (costL ps l c) = true) : costB ps ws l c = true := by rw [costB, h1, h2, h3]; rfl
theorem costV_no {ps ws l : List Int} {c : Int} (h : costB ps ws l c = false) : costV ps ws l c = [] := by rw [costV, h]; rfl
theorem costV_yes {ps ws l : List Int} {c : Int} (h : costB ps ws l c = true) : costV ps ws l c = costL ps l c := by rw [costV, h]; rfl
theorem paysB_t {ps ws l : List Int} (h : paysB ps ws l = true) : Tr ps ws ∧ treeB ps ws = true ∧ procB ps.length l = true ∧ l.length = ps.length ∧ ∀ i, -999 ≤ nth l i ∧ nth l i ≤ 999 := by
  simp only [paysB, Bool.and_eq_true] at h
  exact ⟨treeB_t h.1, h.1, h.2, procB_t h.2⟩
theorem pays_no1 {ps ws l : List Int} (h : treeB ps ws = false) : paysB ps ws l = false := by rw [paysB, h]; rfl
theorem pays_no2 {ps ws l : List Int} (h : procB ps.length l = false) : paysB ps ws l = false := by rw [paysB, h]; simp
theorem pays_both {ps ws l : List Int} (h : treeB ps ws = true) (h2 : procB ps.length l = true) : paysB ps ws l = true := by rw [paysB, h, h2]; rfl
/-- The first i numbers less their costs, then the numbers. -/
def costP (ps l : List Int) (c : Int) (i : Nat) : List Int := (List.range l.length).map fun x => if x < i then nth l x - c * dep ps x else nth l x
theorem costP_length (ps l : List Int) (c : Int) (i : Nat) : (costP ps l c i).length = l.length := by simp [costP]
theorem costP_zero (ps l : List Int) (c : Int) : costP ps l c 0 = l := ext_nth (costP_length _ _ _ _) fun i hi => by
  rw [costP_length] at hi
  rw [costP, nth_map_range hi]; simp
theorem costP_succ (ps l : List Int) (c : Int) (i : Nat) (h : i < l.length) : costP ps l c (i + 1) = (costP ps l c i).set i (nth l i - c * dep ps i) := ext_nth (by simp [costP_length]) fun j hj => by
  rw [costP_length] at hj
  rw [nth_set (by rw [costP_length]; exact h), costP, costP, nth_map_range hj, nth_map_range hj]
  by_cases e : i = j
  · subst e; rw [if_pos (by omega), if_pos rfl]
  · rw [if_neg e]
    by_cases e2 : j < i
    · rw [if_pos e2, if_pos (by omega)]
    · rw [if_neg e2, if_neg (by omega)]
theorem nth_costP_ge {ps l : List Int} {c : Int} {i : Nat} (h : i < l.length) : nth (costP ps l c i) i = nth l i := by rw [costP, nth_map_range h, if_neg (by omega)]
theorem costP_all {ps l : List Int} (c : Int) (h : l.length = ps.length) : costP ps l c l.length = costL ps l c := ext_nth (by rw [costP_length, costL_length, h]) fun i hi => by
  rw [costP_length] at hi
  rw [costP, costL, nth_map_range hi, nth_map_range (by omega), if_pos hi]
set_option maxRecDepth 100000 in
set_option maxHeartbeats 2000000 in
theorem impl_CostlySteps (aP : Option Addr) (nP cP : Nat) (aW : Option Addr) (nW cW : Nat) (ps ws : List Int) (aL : Option Addr) (nL cL : Nat) (l : List Int) (c : Int) (w : World) (h : Tre w aP nP cP aW nW cW ps ws) (hL : Ints w aL nL l) (hLc : aL = none → cL = 0) (hn : nL ≤ 1048576) :
    Calls Try.prog 28 #[.agg #[.slice aP nP cP, .slice aW nW cW], .slice aL nL cL, .int .i64 c] w fun e w' => ∃ v, e = .returned (.tuple #[v, .bool (costB ps ws l c)]) ∧ Own w' w.heap.size v (costV ps ws l c) ∧ Below w.heap.size w w' := by
  have hl := h.p.1
  have hlw := h.w.1
  have hpn := h.pn
  have hwn := h.wn
  have hb1 := below_new w (.cells #[.slice aP nP cP, .slice aW nW cW] 29)
  have hP1 := Lib.hid (Pair.new w (.slice aP nP cP) (.slice aW nW cW) 29)
  have H := Lib.hid h
  have Hl := Lib.hid hl
  have Hlw := Lib.hid hlw
  clear h hl hlw
  have HL := Lib.hid hL
  have hll := Lib.hid hL.1
  clear hL
  have hlt2 := hP1.out.lt
  go_enter Try.func28, Try.ntmps28
  have c0 := hP1.out.c0
  have c1 := hP1.out.c1
  go_wp2_with fail
  generalize (w.alloc (.cells #[.slice aP nP cP, .slice aW nW cW] 29)) = w2 at *
  refine (impl_IsTree _ _ _ _ _ _ ps ws _ (H.out.below hb1)).mono ?_
  rintro e w3 ⟨rfl, hb3⟩
  have hP3 := hP1.out.below hb3
  have d0 := hP3.c0
  have d1 := hP3.c1
  have HP3 := Lib.hid hP3
  have hb13 := hb1.trans (hb3.mono hb1.size)
  clear hP3 c0 c1 hb3
  cases hT : treeB ps ws
  · have Hv := Lib.hid (cost_no1 (c := c) (pays_no1 (l := l) hT))
    clear hT
    go_wp2_with fail
    go_ret2
    exact ⟨_, by rw [Hv.out]; rfl, by rw [costV_no Hv.out]; exact Own.nil _ _, hb13⟩
  · have HT := Lib.hid hT
    clear hT
    go_wp2_with fail
    refine (impl_isProcess _ _ _ _ _ _ ps ws _ _ _ l _ (H.out.below hb13) (HL.out.below hb13) hn).mono ?_
    rintro e w4 ⟨rfl, hb4⟩
    have hb14 := hb13.trans (hb4.mono hb13.size)
    have hP4 := HP3.out.below hb4
    have e0 := hP4.c0
    have e1 := hP4.c1
    have HP4 := Lib.hid hP4
    clear d0 d1 hP4 hb4
    cases hp : procB ps.length l
    · have Hv := Lib.hid (cost_no1 (c := c) (pays_no2 (ws := ws) hp))
      clear hp
      go_wp2_with fail
      go_ret2
      exact ⟨_, by rw [Hv.out]; rfl, by rw [costV_no Hv.out]; exact Own.nil _ _, hb14⟩
    · have Hpays := Lib.hid (pays_both HT.out hp)
      have hpp := procB_t hp
      have Hpp := Lib.hid hpp
      clear hp hpp
      cases hc : inB c 0 999
      · have Hv := Lib.hid (cost_no2 (ps := ps) (ws := ws) (l := l) hc)
        have Hc := Lib.hid hc
        clear hc
        go_wp2_with (go_at_call 64; refine (impl_within _ _ _ _).mono ?_; rintro e w' ⟨rfl, rfl⟩; rw [Hc.out])
        go_ret2
        exact ⟨_, by rw [Hv.out]; rfl, by rw [costV_no Hv.out]; exact Own.nil _ _, hb14⟩
      · have Hc := Lib.hid hc
        have hcb := inB_t hc
        have hTr := treeB_t HT.out
        have hn24 := hTr.n24
        have hn1 := hTr.n1
        have hnL : nP = nL := by have := hll.out; have := Hpp.out.1; have := Hl.out; omega
        have hnP : 1 ≤ nP ∧ nP ≤ 24 := by have := Hl.out; omega
        have HTr := Lib.hid hTr
        clear hc hTr hn24 hn1
        subst hnL
        go_wp2_with (go_at_call 64; refine (impl_within _ _ _ _).mono ?_; rintro e w' ⟨rfl, rfl⟩; rw [Hc.out])
        refine (impl_copied _ _ _ l _ (by omega) hLc (HL.out.below hb14)).mono ?_
        rintro e w5 ⟨v5, rfl, ho5, hb5⟩
        obtain ⟨g, cg, rfl, hg1, hg2⟩ := ho5.form (by have := hll.out; omega)
        rw [hll.out] at ho5 ⊢
        have hb15 := hb14.trans (hb5.mono hb14.size)
        have hP5 := HP4.out.below hb5
        have d0 := hP5.c0
        have d1 := hP5.c1
        have HP5 := Lib.hid hP5
        have HO5 := Lib.hid ho5
        clear e0 e1 hP5 ho5 hb5
        go_wp2_with fail
        refine (impl_depths _ _ _ _ _ _ ps ws _ (H.out.below hb15) HTr.out.toPa).mono ?_
        rintro e w6 ⟨v6, rfl, ho6, hb6⟩
        obtain ⟨a6, c6, rfl⟩ := ho6.shape
        have hdl : (deps ps).length = nP := by rw [deps_length]; exact Hl.out
        rw [hdl] at ho6 ⊢
        have hb16 := hb15.trans (hb6.mono hb15.size)
        have HO6 := Lib.hid (HO5.out.below hb6)
        have HP6 := Lib.hid (HP5.out.below hb6)
        have hDown := Lib.hid ho6
        have hg4 : w.heap.size < g := by have := hb14.size; have := HP4.out.lt; omega
        have H0 : Hid (Own w6 w4.heap.size (.slice (some ⟨g, 0, none⟩) nP cg) (costP ps l c 0)) := Lib.hid (by rw [costP_zero]; exact HO6.out)
        have hgD : Hid (∀ p, a6 = some p → p.block ≠ g) := Lib.hid fun p hp e => by
          subst hp
          obtain ⟨g', c', he, hgb, _⟩ := ho6.form (by omega)
          cases he
          have : g < w5.heap.size := hg2
          have e2 : g' = g := e
          omega
        clear ho6 hdl hb6 d0 d1
        have hDI := Lib.hid hDown.out.ints
        go_wp2_with fail
        go_loopw [30] (fun v30 wr => ∃ k : Nat, k ≤ nP ∧ v30 = .int .i64 (k : Int) ∧ Own wr w4.heap.size (.slice (some ⟨g, 0, none⟩) nP cg) (costP ps l c k) ∧ Ints wr a6 nP (deps ps) ∧ Pair wr w.heap.size (.slice aP nP cP) (.slice aW nW cW) ∧ Below w.heap.size w wr) (fun v30 _ => nP - (intOf v30).toNat)
        case atStart => exact ⟨0, Nat.zero_le _, rfl, H0.out, hDI.out, HP6.out, hb16⟩
        case round =>
          clear hb16
          obtain ⟨k, hk, rfl, hown, hD, hP, hbel⟩ := hrel
          have HD := Lib.hid hD
          clear hD
          by_cases hlt : (k : Int) < nP
          · obtain ⟨bD, oD, rfl, hcD⟩ := HD.out.at (i := k) (Below.refl _ _) (by omega)
            have hdb := dep_bd HTr.out.toPa k (by have := Hl.out; omega)
            rw [nth_deps (by have := Hl.out; omega)] at hcD
            have hlen : (costP ps l c k).length = nP := by rw [costP_length]; exact hll.out
            have hcO := hown.cell (i := k) (by omega)
            rw [nth_costP_ge (by have := hll.out; omega)] at hcO
            have hfO := hown.free hlen.symm k
            have hset := hown.set hlen.symm k (nth l k - c * dep ps k)
            rw [← costP_succ _ _ _ _ (by have := hll.out; omega)] at hset
            have hlb := Hpp.out.2 k
            have hbne := hgD.out _ rfl
            have HP' := Lib.hid (hP.far (b := g) (i := k) (show g ≠ w.heap.size by omega) (.int .i64 (nth l k - c * dep ps k)))
            have HD' := Lib.hid (ints_far HD.out (b := g) (i := k) (fun p hp => hgD.out p hp) (.int .i64 (nth l k - c * dep ps k)))
            have hmb : 0 ≤ c * dep ps k ∧ c * dep ps k ≤ 999 * 24 := ⟨Int.mul_nonneg (by omega) (by omega), Int.mul_le_mul (by omega) (by omega) (by omega) (by omega)⟩
            generalize dep ps k = D at *
            generalize nth l k = u at *
            have Hset := Lib.hid hset
            clear hset hown hP hlen
            go_wp2_with fail
            go_roundw
            case rel => exact ⟨k + 1, by omega, by go_num, Hset.out, HD'.out, HP'.out, hbel.setCell (by simp; omega) _⟩
            case measure => simp [intOf]; omega
          · obtain rfl : k = nP := by omega
            have hfin : costP ps l c k = costL ps l c := by have := costP_all (ps := ps) c Hpp.out.1; rwa [hll.out] at this
            rw [hfin] at hown
            have HOw := Lib.hid hown
            have f0 := hP.c0
            have f1 := hP.c1
            clear hfin hown hP
            have hclen : (costL ps l c).length = k := by rw [costL_length]; exact Hl.out
            have hci := Lib.hid HOw.out.ints
            clear hclen
            go_wp2_with fail
            refine (impl_isProcess _ _ _ _ _ _ ps ws _ _ _ (costL ps l c) _ (H.out.below hbel) hci.out (by omega)).mono ?_
            rintro e w7 ⟨rfl, hb7⟩
            have hb17 := hbel.trans (hb7.mono hbel.size)
            have HOw7 := Lib.hid (HOw.out.below hb7)
            cases hpc : procB ps.length (costL ps l c)
            · have Hv := Lib.hid (cost_no3 (ws := ws) hpc)
              clear hpc
              go_wp2_with fail
              go_ret2
              exact ⟨_, by rw [Hv.out]; rfl, by rw [costV_no Hv.out]; exact Own.nil _ _, hb17⟩
            · have Hv := Lib.hid (cost_yes Hpays.out Hc.out hpc)
              clear hpc
              go_wp2_with fail
              go_ret2
              exact ⟨_, by rw [Hv.out]; rfl, by rw [costV_yes Hv.out]; exact HOw7.out.mono hb14.size, hb17⟩
end Go.Proofs.Ytfnmhoidgnihoaa
