/- Contracts and plain laws for the statement FnRules, part 18. No conditions but those stated in each. -/
import Derived.Test.YtnbomleieianoaaGreatBnFnRules17
import Derived.Test.YtnbomleieianoaaGreatBnFnRules5
/- Contracts: two rules, the earlier and the later one, whether one is no later, by the reference. -/
namespace Go.Proofs.YtnbomleieianoaaGreat
open Go.RowKit

theorem pick_least (x y : Int) : least x y = pickI true x y := by
  rw [pick_t, least]; split <;> split <;> omega
theorem pick_most (x y : Int) : most x y = pickI false x y := by
  rw [pick_f, most]; split <;> split <;> omega
theorem pick_nat (early : Bool) {x y : Int} (hx : 0 ≤ x) (hy : 0 ≤ y) {n : Nat} (hx2 : x < n) (hy2 : y < n) : ∃ Y : Nat, pickI early x y = (Y : Int) ∧ Y < n := by
  rcases pick_is early x y with h | h
  · exact ⟨x.toNat, by omega, by omega⟩
  · exact ⟨y.toNat, by omega, by omega⟩
theorem noLater_cut {ps a b : List Int} {i : Nat} {x : Nat} (hi : i < (ends ps).length) (hx : nth (ends ps) i = (x : Int)) (h : stop ps (hasB a) x > stop ps (hasB b) x) : noLaterB ps a b = false := by
  cases hh : noLaterB ps a b
  · rfl
  · rw [noLaterB, all_iff] at hh
    have := hh i hi
    rw [hx, Int.toNat_natCast] at this
    simp at this
    omega
theorem noLater_all {ps a b : List Int} (h : ∀ i, i < (ends ps).length → stop ps (hasB a) (nth (ends ps) i).toNat ≤ stop ps (hasB b) (nth (ends ps) i).toNat) : noLaterB ps a b = true := by
  rw [noLaterB, all_iff]
  intro i hi
  exact decide_eq_true (h i hi)
set_option maxRecDepth 100000 in
set_option maxHeartbeats 1000000 in
theorem spec_l4Two (aP : Option Addr) (nP cP : Nat) (aW : Option Addr) (nW cW : Nat) (ps ws : List Int) (aA : Option Addr) (nA cA : Nat) (a : List Int) (aB : Option Addr) (nB cB : Nat) (b : List Int) (w : World) (h : Tre w aP nP cP aW nW cW ps ws) (hA : Ints w aA nA a) (_hAc : aA = none → cA = 0) (hnA : nA ≤ 1048576) (hB : Ints w aB nB b) (_hBc : aB = none → cB = 0) (hnB : nB ≤ 1048576) :
    Calls Tryz.prog 114 #[.agg #[.slice aP nP cP, .slice aW nW cW], .slice aA nA cA, .slice aB nB cB] w fun e w' => e = .returned (.bool (twoB ps ws a b)) ∧ Below w.heap.size w w' := by
  have hl := h.p.1
  have hlw := h.w.1
  have hpn := h.pn
  have hwn := h.wn
  have hb1 := below_new w (.cells #[.slice aP nP cP, .slice aW nW cW] 26)
  have hP1 := Lib.hid (Pair.new w (.slice aP nP cP) (.slice aW nW cW) 26)
  have H := Lib.hid h
  have Hl := Lib.hid hl
  have Hlw := Lib.hid hlw
  clear h hl hlw
  have HA := Lib.hid hA
  have HB := Lib.hid hB
  clear hA hB
  go_enter Tryz.func114, Tryz.ntmps114
  have c0 := hP1.out.c0
  have c1 := hP1.out.c1
  go_wp2_with fail
  generalize (w.alloc (.cells #[.slice aP nP cP, .slice aW nW cW] 26)) = w2 at *
  refine (spec_l2Good _ _ _ _ _ _ ps ws _ (H.out.below hb1)).mono ?_
  rintro e w3 ⟨rfl, hb3⟩
  have HP3 := Lib.hid (hP1.out.below hb3)
  have d0 := HP3.out.c0
  have d1 := HP3.out.c1
  have hb13 := hb1.trans (hb3.mono hb1.size)
  clear c0 c1 hb3 hP1
  cases hT : treeB ps ws
  · have Hv := Lib.hid (two_no1 (a := a) (b := b) hT)
    clear hT
    go_wp2_with fail
    go_ret
    exact ⟨by rw [Hv.out]; rfl, hb13⟩
  have HT := Lib.hid hT
  have HTr := Lib.hid (treeB_t hT)
  clear hT
  go_wp2_with fail
  refine (spec_l4Rule _ _ _ _ _ _ ps ws _ _ _ a _ (H.out.below hb13) HTr.out.toPa (HA.out.below hb13) hnA).mono ?_
  rintro e w4 ⟨rfl, hb4⟩
  have HP4 := Lib.hid (HP3.out.below hb4)
  have e0 := HP4.out.c0
  have e1 := HP4.out.c1
  have hb14 := hb13.trans (hb4.mono hb13.size)
  clear d0 d1 hb4 HP3
  rw [rule_stop HTr.out.toPa]
  cases hS : stopB ps a
  · have Hv := Lib.hid (two_no2 (ws := ws) (b := b) hS)
    clear hS
    go_wp2_with fail
    go_ret
    exact ⟨by rw [Hv.out]; rfl, hb14⟩
  have HS := Lib.hid hS
  clear hS
  go_wp2_with fail
  refine (spec_l4Rule _ _ _ _ _ _ ps ws _ _ _ b _ (H.out.below hb14) HTr.out.toPa (HB.out.below hb14) hnB).mono ?_
  rintro e w5 ⟨rfl, hb5⟩
  have hb15 := hb14.trans (hb5.mono hb14.size)
  have Hv : Hid (ruleB ps b = twoB ps ws a b) := Lib.hid (by rw [rule_stop HTr.out.toPa, twoB, HT.out, HS.out]; rfl)
  go_wp2_with fail
  go_ret
  exact ⟨by rw [← Hv.out]; rfl, hb15⟩
set_option maxRecDepth 100000 in
set_option maxHeartbeats 1000000 in
theorem spec_EarlierRule (aP : Option Addr) (nP cP : Nat) (aW : Option Addr) (nW cW : Nat) (ps ws : List Int) (aA : Option Addr) (nA cA : Nat) (a : List Int) (aB : Option Addr) (nB cB : Nat) (b : List Int) (w : World) (h : Tre w aP nP cP aW nW cW ps ws) (hA : Ints w aA nA a) (hAc : aA = none → cA = 0) (hnA : nA ≤ 1048576) (hB : Ints w aB nB b) (hBc : aB = none → cB = 0) (hnB : nB ≤ 1048576) :
    Calls Tryz.prog 52 #[.agg #[.slice aP nP cP, .slice aW nW cW], .slice aA nA cA, .slice aB nB cB] w fun e w' => ∃ v, e = .returned (.tuple #[v, .bool (twoB ps ws a b)]) ∧ Own w' w.heap.size v (erlV ps ws a b true) ∧ Below w.heap.size w w' := by
  have hl := h.p.1
  have hlw := h.w.1
  have hpn := h.pn
  have hwn := h.wn
  have hb1 := below_new w (.cells #[.slice aP nP cP, .slice aW nW cW] 26)
  have hP1 := Lib.hid (Pair.new w (.slice aP nP cP) (.slice aW nW cW) 26)
  have H := Lib.hid h
  have Hl := Lib.hid hl
  have Hlw := Lib.hid hlw
  clear h hl hlw
  have HA := Lib.hid hA
  have HB := Lib.hid hB
  clear hA hB
  go_enter Tryz.func52, Tryz.ntmps52
  have c0 := hP1.out.c0
  have c1 := hP1.out.c1
  go_wp2_with fail
  have hnil := own_nil0 (w.alloc (.cells #[.slice aP nP cP, .slice aW nW cW] 26))
  rw [show (w.alloc (.cells #[.slice aP nP cP, .slice aW nW cW] 26)).heap.size = w.heap.size + 1 by simp] at hnil
  have hb2 : Below w.heap.size w ((w.alloc (.cells #[.slice aP nP cP, .slice aW nW cW] 26)).alloc (.cells #[] 3)) := hb1.alloc (by simp) _
  have hP2 := Lib.hid (hP1.out.alloc (.cells #[] 3))
  have hs2 : ((w.alloc (.cells #[.slice aP nP cP, .slice aW nW cW] 26)).alloc (.cells #[] 3)).heap.size = w.heap.size + 2 := by simp
  have d0 := hP2.out.c0
  have d1 := hP2.out.c1
  generalize ((w.alloc (.cells #[.slice aP nP cP, .slice aW nW cW] 26)).alloc (.cells #[] 3)) = w2 at *
  clear hP1 hb1 c0 c1
  refine (spec_l4Two _ _ _ _ _ _ ps ws _ _ _ a _ _ _ b _ (H.out.below hb2) (HA.out.below hb2) hAc hnA (HB.out.below hb2) hBc hnB).mono ?_
  rintro e w3 ⟨rfl, hb3⟩
  have HP3 := Lib.hid (hP2.out.below hb3)
  have hown3 := Lib.hid (hnil.below hb3)
  have hb13 := hb2.trans (hb3.mono hb2.size)
  have hs3 : w.heap.size + 2 ≤ w3.heap.size := by have := hb3.size; omega
  have e0 := HP3.out.c0
  have e1 := HP3.out.c1
  clear hnil hb3 hb2 hP2 hs2 d0 d1 hAc hBc
  cases hT : twoB ps ws a b
  · have Hv := Lib.hid hT
    clear hT
    go_wp2_with fail
    go_ret2
    exact ⟨_, by rw [Hv.out]; rfl, by rw [erl_no Hv.out]; exact hown3.out.mono (Nat.le_succ _), hb13⟩
  have HT := Lib.hid hT
  obtain ⟨hTr, hsa, hsb⟩ := two_t hT
  have hp := (treeB_t hTr).toPa
  have Hp := Lib.hid hp
  have hn24 : nP ≤ 24 := by have := hp.n24; have := Hl.out; omega
  have Hval := Lib.hid (erl_yes (early := true) hT)
  have Hap := Lib.hid (mergeP_app ps a b true)
  have Hcase : Hid (∀ i, i < (ends ps).length → ∃ (e : Nat) (s1 s2 : Int) (Y : Nat), e < nP ∧ nth (ends ps) i = (e : Int) ∧ stop ps (hasB a) e = s1 ∧ stop ps (hasB b) e = s2 ∧ least s1 s2 = (Y : Int) ∧ Y < nP ∧ filt (fun z => mergeP ps a b true ((ends ps).take i) z || z == Y) nP = filt (mergeP ps a b true ((ends ps).take (i + 1))) nP) := Lib.hid fun i hi => by
    obtain ⟨e, h1, h2, h3⟩ := end_nth hi
    obtain ⟨s1, q1, q2, _⟩ := sole_mem hsa hp h1 h2
    obtain ⟨s2, r1, r2, _⟩ := sole_mem hsb hp h1 h2
    have hl := Hl.out
    obtain ⟨Y, y1, y2⟩ := pick_nat true (x := (s1 : Int)) (y := (s2 : Int)) (n := nP) (by omega) (by omega) (by omega) (by omega)
    refine ⟨e, s1, s2, Y, by omega, h3, q2, r2, by rw [pick_least, y1], y2, filt_congr fun z hz => ?_⟩
    rw [take_succ_nth hi, h3, Hap.out, Int.toNat_natCast, q2, r2, y1]
    congr 1
    rw [Bool.eq_iff_iff, beq_iff_eq, beq_iff_eq]; omega
  clear hT hTr hsa hsb hp Hap
  go_wp2_with fail
  refine (spec_l2Ends _ _ _ _ _ _ ps ws _ (H.out.below hb13) Hp.out).mono ?_
  rintro e w4 ⟨v4, rfl, ho4, hb4⟩
  obtain ⟨a4, c4, rfl⟩ := ho4.shape
  have HE := Lib.hid ho4.ints
  have HP4 := Lib.hid (HP3.out.below hb4)
  have HO4 := Lib.hid (hown3.out.below hb4)
  have hb14 := hb13.trans (hb4.mono hb13.size)
  have hs4 : w.heap.size + 2 ≤ w4.heap.size := by have := hb4.size; omega
  have hel : (ends ps).length ≤ 24 := by have := filt_length (endB ps) ps.length; have := Hl.out; rw [ends]; omega
  have Hmv : Hid (mergeV ps a b true = filt (mergeP ps a b true (ends ps)) nP) := Lib.hid (by rw [mergeV, Hl.out])
  have Hnil0 : Hid (filt (mergeP ps a b true ([] : List Int)) nP = []) := Lib.hid (mergeP_nil ps a b true nP)
  clear ho4 hb4 hown3 HP3 hb13 hs3 e0 e1
  generalize hes : ends ps = es at *
  clear hes
  go_wp2_with fail
  go_loopw [8, 10] (fun v5 v11 wr => ∃ i : Nat, i ≤ es.length ∧ v11 = .int .i64 (i : Int) ∧ Own wr (w.heap.size + 1) v5 (filt (mergeP ps a b true (es.take i)) nP) ∧ Ints wr a4 es.length es ∧ Pair wr w.heap.size (.slice aP nP cP) (.slice aW nW cW) ∧ Below w.heap.size w wr) (fun _ v11 _ => es.length - (intOf v11).toNat)
  case atStart => exact ⟨0, Nat.zero_le _, rfl, by rw [List.take_zero, Hnil0.out]; exact HO4.out, HE.out, HP4.out, hb14⟩
  case round =>
    clear hb14 HE HO4 HP4 hs4 Hnil0
    obtain ⟨i, hi, rfl, hou, hen, hP, hbel⟩ := hrel
    have x0 := hP.c0
    have x1 := hP.c1
    have HP := Lib.hid hP
    have HO := Lib.hid hou
    have HE := Lib.hid hen
    clear hP hou hen
    by_cases hlt : (i : Int) < es.length
    · obtain ⟨be, oe, rfl, hce⟩ := HE.out.at (i := i) (Below.refl _ _) (by omega)
      obtain ⟨e, s1, s2, Y, he, hen, h1, h2, h3, hY, hnext⟩ := Hcase.out i (by omega)
      rw [hen] at hce
      have Hnext := Lib.hid hnext
      have HcA : Hid (∀ W : World, Below w.heap.size w W → Calls Tryz.prog 118 #[.agg #[.slice aP nP cP, .slice aW nW cW], .slice aA nA cA, .int .i64 (e : Int)] W fun e' w' => e' = .returned (.int .i64 s1) ∧ Below W.heap.size W w') := Lib.hid fun W hW => by
        have := spec_l4Stop _ _ _ _ _ _ ps ws aA nA cA a e W (H.out.below hW) Hp.out (HA.out.below hW) hnA he
        rw [h1] at this
        exact this
      have HcB : Hid (∀ W : World, Below w.heap.size w W → Calls Tryz.prog 118 #[.agg #[.slice aP nP cP, .slice aW nW cW], .slice aB nB cB, .int .i64 (e : Int)] W fun e' w' => e' = .returned (.int .i64 s2) ∧ Below W.heap.size W w') := Lib.hid fun W hW => by
        have := spec_l4Stop _ _ _ _ _ _ ps ws aB nB cB b e W (H.out.below hW) Hp.out (HB.out.below hW) hnB he
        rw [h2] at this
        exact this
      have HcP : Hid (∀ W : World, Calls Tryz.prog 117 #[.int .i64 s1, .int .i64 s2] W fun e' w' => e' = .returned (.int .i64 (Y : Int)) ∧ W = w') := Lib.hid fun W => by
        have := spec_l1Least s1 s2 W
        rw [h3] at this
        exact this
      obtain ⟨a5, c5, rfl⟩ := HO.out.shape
      have hbs : w.heap.size + 1 ≤ wr.heap.size := by have := HP.out.lt; omega
      have hol := filt_length (mergeP ps a b true (es.take i)) nP
      clear h1 h2 h3 hnext hen
      go_wp2_with fail
      refine wp_region_noPanic ?_
      refine wp_region_held_drew (S := fun W' => KeepR wr W' ∧ W'.cell? ⟨w.heap.size, 0, none⟩ = some (.slice aP nP cP) ∧ W'.cell? ⟨w.heap.size, 1, none⟩ = some (.slice aW nW cW) ∧ W'.cell? ⟨be, oe + i, none⟩ = some (.int .i64 (e : Int))) (by kernel_rfl) ?_ (fun hHeld0 => ?_)
      · (try dsimp only); first | exact keepC3 (by assumption) x0 x1 hce | exact keepC3 (KeepR.start _) x0 x1 hce
      refine takeH (i := 0) (oi := _) (v := ?_) rfl (by kernel_rfl) (by kernel_rfl) (by kernel_rfl) (fun _ _ _ h => h) (Or.inl ⟨by rfl, ?_⟩) (by assumption) ?_
      rotate_left
      · first | (intro w hSw; (try dsimp only at hSw); go_simp; done) | (intro w hSw; (try dsimp only at hSw); go_simp; with_reducible rfl)
      (try simp only [Act.put, List.setIfInBounds_toArray, List.set_cons_zero, List.set_cons_succ])
      refine takeH (i := 1) (oi := _) (v := ?_) rfl (by kernel_rfl) (by kernel_rfl) (by kernel_rfl) (fun _ _ _ h => h) (Or.inl ⟨by rfl, ?_⟩) (by assumption) ?_
      rotate_left
      · first | (intro w hSw; (try dsimp only at hSw); go_simp; done) | (intro w hSw; (try dsimp only at hSw); go_simp; with_reducible rfl)
      (try simp only [Act.put, List.setIfInBounds_toArray, List.set_cons_zero, List.set_cons_succ])
      refine takeH (i := 2) (oi := _) (v := ?_) rfl (by kernel_rfl) (by kernel_rfl) (by kernel_rfl) (fun _ _ _ h => h) (Or.inl ⟨by rfl, ?_⟩) (by assumption) ?_
      rotate_left
      · first | (intro w hSw; (try dsimp only at hSw); go_simp; done) | (intro w hSw; (try dsimp only at hSw); go_simp; with_reducible rfl)
      (try simp only [Act.put, List.setIfInBounds_toArray, List.set_cons_zero, List.set_cons_succ])
      refine takeH (i := 3) (oi := _) (v := ?_) rfl (by kernel_rfl) (by kernel_rfl) (by kernel_rfl) (fun _ _ _ h => h) (Or.inl ⟨by rfl, ?_⟩) (by assumption) ?_
      rotate_left
      · first | (intro w hSw; (try dsimp only at hSw); go_simp; done) | (intro w hSw; (try dsimp only at hSw); go_simp; with_reducible rfl)
      (try simp only [Act.put, List.setIfInBounds_toArray, List.set_cons_zero, List.set_cons_succ])
      refine takeH (i := 4) (oi := _) (v := ?_) rfl (by kernel_rfl) (by kernel_rfl) (by kernel_rfl) (fun _ _ _ h => h) (Or.inl ⟨by rfl, ?_⟩) (by assumption) ?_
      rotate_left
      · first | (intro w hSw; (try dsimp only at hSw); go_simp; done) | (intro w hSw; (try dsimp only at hSw); go_simp; with_reducible rfl)
      (try simp only [Act.put, List.setIfInBounds_toArray, List.set_cons_zero, List.set_cons_succ])
      refine takeH (i := 5) (oi := _) (v := ?_) rfl (by kernel_rfl) (by kernel_rfl) (by kernel_rfl) (fun _ _ _ h => h) (Or.inl ⟨by rfl, ?_⟩) (by assumption) ?_
      rotate_left
      · first | (intro w hSw; (try dsimp only at hSw); go_simp; done) | (intro w hSw; (try dsimp only at hSw); go_simp; with_reducible rfl)
      (try simp only [Act.put, List.setIfInBounds_toArray, List.set_cons_zero, List.set_cons_succ])
      refine takeH (i := 6) (oi := _) (v := ?_) rfl (by kernel_rfl) (by kernel_rfl) (by kernel_rfl) (fun _ _ _ h => h) (Or.inl ⟨by rfl, ?_⟩) (by assumption) ?_
      rotate_left
      · first | (intro w hSw; (try dsimp only at hSw); go_simp; done) | (intro w hSw; (try dsimp only at hSw); go_simp; with_reducible rfl)
      (try simp only [Act.put, List.setIfInBounds_toArray, List.set_cons_zero, List.set_cons_succ])
      refine takeH (i := 8) (oi := _) (v := ?_) rfl (by kernel_rfl) (by kernel_rfl) (by kernel_rfl) (fun _ _ _ h => h) (Or.inl ⟨by rfl, ?_⟩) (by assumption) ?_
      rotate_left
      · first | (intro w hSw; (try dsimp only at hSw); go_simp; done) | (intro w hSw; (try dsimp only at hSw); go_simp; with_reducible rfl)
      (try simp only [Act.put, List.setIfInBounds_toArray, List.set_cons_zero, List.set_cons_succ])
      refine takeH (i := 9) (oi := _) (v := ?_) rfl (by kernel_rfl) (by kernel_rfl) (by kernel_rfl) (fun _ _ _ h => h) (Or.inl ⟨by rfl, ?_⟩) (by assumption) ?_
      rotate_left
      · first | (intro w hSw; (try dsimp only at hSw); go_simp; done) | (intro w hSw; (try dsimp only at hSw); go_simp; with_reducible rfl)
      (try simp only [Act.put, List.setIfInBounds_toArray, List.set_cons_zero, List.set_cons_succ])
      refine takeH (i := 10) (oi := _) (v := ?_) rfl (by kernel_rfl) (by kernel_rfl) (by kernel_rfl) (fun _ _ _ h => h) (Or.inl ⟨by rfl, ?_⟩) (by assumption) ?_
      rotate_left
      · first | (intro w hSw; (try dsimp only at hSw); go_simp; done) | (intro w hSw; (try dsimp only at hSw); go_simp; with_reducible rfl)
      (try simp only [Act.put, List.setIfInBounds_toArray, List.set_cons_zero, List.set_cons_succ])
      refine takeH (i := 11) (oi := _) (v := ?_) rfl (by kernel_rfl) (by kernel_rfl) (by kernel_rfl) (fun _ _ _ h => h) (Or.inl ⟨by rfl, ?_⟩) (by assumption) ?_
      rotate_left
      · first | (intro w hSw; (try dsimp only at hSw); go_simp; done) | (intro w hSw; (try dsimp only at hSw); go_simp; with_reducible rfl)
      (try simp only [Act.put, List.setIfInBounds_toArray, List.set_cons_zero, List.set_cons_succ])
      refine takeH (i := 12) (oi := _) (v := ?_) rfl (by kernel_rfl) (by kernel_rfl) (by kernel_rfl) (fun _ _ _ h => h) (Or.inl ⟨by rfl, ?_⟩) (by assumption) ?_
      rotate_left
      · first | (intro w hSw; (try dsimp only at hSw); go_simp; done) | (intro w hSw; (try dsimp only at hSw); go_simp; with_reducible rfl)
      (try simp only [Act.put, List.setIfInBounds_toArray, List.set_cons_zero, List.set_cons_succ])
      refine takeH (i := 13) (oi := _) (v := ?_) rfl (by kernel_rfl) (by kernel_rfl) (by kernel_rfl) (fun _ _ _ h => h) (Or.inl ⟨by rfl, ?_⟩) (by assumption) ?_
      rotate_left
      · first | (intro w hSw; (try dsimp only at hSw); go_simp; done) | (intro w hSw; (try dsimp only at hSw); go_simp; with_reducible rfl)
      (try simp only [Act.put, List.setIfInBounds_toArray, List.set_cons_zero, List.set_cons_succ])
      refine wpAnyH_ready (rs := [7]) (by kernel_rfl) (by simp) ?_
      refine consH rfl (fun Kq hKq => ?_)
      go_simp
      (go_at_call 118; refine (HcA.out _ (hbel.trans (Below.mono (by assumption : KeepR wr _ ∧ _).1 hbel.size))).mono ?_; rintro e' w5 ⟨rfl, b5⟩; have hk5 := KeepR.next b5 (by assumption : KeepR wr _ ∧ _).1)
      refine hKq.out _ _ ?_ (fun hHeld1 => ?_)
      · (try dsimp only); first | exact keepC3 (by assumption) x0 x1 hce | exact keepC3 (KeepR.start _) x0 x1 hce
      clear hKq Kq
      (try simp only [Act.put, List.setIfInBounds_toArray, List.set_cons_zero, List.set_cons_succ])
      clear hHeld0
      refine wpAnyH_ready (rs := [14]) (by kernel_rfl) (by simp) ?_
      refine consH rfl (fun Kq hKq => ?_)
      go_simp
      (go_at_call 118; refine (HcB.out _ (hbel.trans (Below.mono (by assumption : KeepR wr _ ∧ _).1 hbel.size))).mono ?_; rintro e' w6 ⟨rfl, b6⟩; have hk6 := KeepR.next b6 (by assumption : KeepR wr _ ∧ _).1)
      refine hKq.out _ _ ?_ (fun hHeld2 => ?_)
      · (try dsimp only); first | exact keepC3 (by assumption) x0 x1 hce | exact keepC3 (KeepR.start _) x0 x1 hce
      clear hKq Kq
      (try simp only [Act.put, List.setIfInBounds_toArray, List.set_cons_zero, List.set_cons_succ])
      clear hHeld1
      refine wpAnyH_ready (rs := [15]) (by kernel_rfl) (by simp) ?_
      refine consH rfl (fun Kq hKq => ?_)
      go_simp
      (go_at_call 117; refine (HcP.out _).mono ?_; rintro e' w7 ⟨rfl, rfl⟩)
      refine hKq.out _ _ ?_ (fun hHeld3 => ?_)
      · (try dsimp only); first | exact keepC3 (by assumption) x0 x1 hce | exact keepC3 (KeepR.start _) x0 x1 hce
      clear hKq Kq
      (try simp only [Act.put, List.setIfInBounds_toArray, List.set_cons_zero, List.set_cons_succ])
      clear hHeld2
      refine wpAnyH_ready (rs := [16]) (by kernel_rfl) (by simp) ?_
      refine consH rfl (fun Kq hKq => ?_)
      go_simp
      (go_at_call 116; refine (spec_l1Put _ _ _ (mergeP ps a b true (es.take i)) nP Y (w.heap.size + 1) _ (by omega) hY (Nat.le_trans hbs (by assumption : KeepR wr _ ∧ _).1.size) (HO.out.below (by assumption : KeepR wr _ ∧ _).1)).mono ?_; rintro e' w8 ⟨v8, rfl, ho8, b8⟩; have hk8 := KeepR.next b8 (by assumption : KeepR wr _ ∧ _).1)
      refine hKq.out _ _ ?_ (fun hHeld4 => ?_)
      · (try dsimp only); first | exact keepC3 (by assumption) x0 x1 hce | exact keepC3 (KeepR.start _) x0 x1 hce
      clear hKq Kq
      (try simp only [Act.put, List.setIfInBounds_toArray, List.set_cons_zero, List.set_cons_succ])
      clear hHeld3
      refine takeH (i := 17) (oi := _) (v := ?_) rfl (by kernel_rfl) (by kernel_rfl) (by kernel_rfl) (fun _ _ _ h => h) (Or.inl ⟨by rfl, ?_⟩) (by assumption) ?_
      rotate_left
      · first | (intro w hSw; (try dsimp only at hSw); go_simp; done) | (intro w hSw; (try dsimp only at hSw); go_simp; with_reducible rfl)
      (try simp only [Act.put, List.setIfInBounds_toArray, List.set_cons_zero, List.set_cons_succ])
      refine wpAnyH_done (by kernel_rfl) ?_ _
      refine NoPanic.normal ?_
      go_wp2_with fail
      rw [Hnext.out] at ho8
      have hk8' : Below wr.heap.size wr w8 := hk8
      go_roundw
      case rel => exact ⟨i + 1, by omega, by go_num, ho8, HE.out.below hk8', HP.out.below hk8', hbel.trans (hk8'.mono hbel.size)⟩
      case measure => simp [intOf]; omega
    · obtain rfl : i = es.length := by omega
      have HO2 : Hid (Own wr (w.heap.size + 1) _ (erlV ps ws a b true)) := Lib.hid (by
        have := HO.out
        rw [List.take_length, ← Hmv.out, ← Hval.out] at this
        exact this)
      clear HO
      go_wp2_with fail
      go_ret2
      exact ⟨_, by rw [HT.out]; rfl, HO2.out.mono (Nat.le_succ _), hbel⟩
set_option maxRecDepth 100000 in
set_option maxHeartbeats 1000000 in
theorem spec_LaterRule (aP : Option Addr) (nP cP : Nat) (aW : Option Addr) (nW cW : Nat) (ps ws : List Int) (aA : Option Addr) (nA cA : Nat) (a : List Int) (aB : Option Addr) (nB cB : Nat) (b : List Int) (w : World) (h : Tre w aP nP cP aW nW cW ps ws) (hA : Ints w aA nA a) (hAc : aA = none → cA = 0) (hnA : nA ≤ 1048576) (hB : Ints w aB nB b) (hBc : aB = none → cB = 0) (hnB : nB ≤ 1048576) :
    Calls Tryz.prog 54 #[.agg #[.slice aP nP cP, .slice aW nW cW], .slice aA nA cA, .slice aB nB cB] w fun e w' => ∃ v, e = .returned (.tuple #[v, .bool (twoB ps ws a b)]) ∧ Own w' w.heap.size v (erlV ps ws a b false) ∧ Below w.heap.size w w' := by
  have hl := h.p.1
  have hlw := h.w.1
  have hpn := h.pn
  have hwn := h.wn
  have hb1 := below_new w (.cells #[.slice aP nP cP, .slice aW nW cW] 26)
  have hP1 := Lib.hid (Pair.new w (.slice aP nP cP) (.slice aW nW cW) 26)
  have H := Lib.hid h
  have Hl := Lib.hid hl
  have Hlw := Lib.hid hlw
  clear h hl hlw
  have HA := Lib.hid hA
  have HB := Lib.hid hB
  clear hA hB
  go_enter Tryz.func54, Tryz.ntmps54
  have c0 := hP1.out.c0
  have c1 := hP1.out.c1
  go_wp2_with fail
  have hnil := own_nil0 (w.alloc (.cells #[.slice aP nP cP, .slice aW nW cW] 26))
  rw [show (w.alloc (.cells #[.slice aP nP cP, .slice aW nW cW] 26)).heap.size = w.heap.size + 1 by simp] at hnil
  have hb2 : Below w.heap.size w ((w.alloc (.cells #[.slice aP nP cP, .slice aW nW cW] 26)).alloc (.cells #[] 3)) := hb1.alloc (by simp) _
  have hP2 := Lib.hid (hP1.out.alloc (.cells #[] 3))
  have hs2 : ((w.alloc (.cells #[.slice aP nP cP, .slice aW nW cW] 26)).alloc (.cells #[] 3)).heap.size = w.heap.size + 2 := by simp
  have d0 := hP2.out.c0
  have d1 := hP2.out.c1
  generalize ((w.alloc (.cells #[.slice aP nP cP, .slice aW nW cW] 26)).alloc (.cells #[] 3)) = w2 at *
  clear hP1 hb1 c0 c1
  refine (spec_l4Two _ _ _ _ _ _ ps ws _ _ _ a _ _ _ b _ (H.out.below hb2) (HA.out.below hb2) hAc hnA (HB.out.below hb2) hBc hnB).mono ?_
  rintro e w3 ⟨rfl, hb3⟩
  have HP3 := Lib.hid (hP2.out.below hb3)
  have hown3 := Lib.hid (hnil.below hb3)
  have hb13 := hb2.trans (hb3.mono hb2.size)
  have hs3 : w.heap.size + 2 ≤ w3.heap.size := by have := hb3.size; omega
  have e0 := HP3.out.c0
  have e1 := HP3.out.c1
  clear hnil hb3 hb2 hP2 hs2 d0 d1 hAc hBc
  cases hT : twoB ps ws a b
  · have Hv := Lib.hid hT
    clear hT
    go_wp2_with fail
    go_ret2
    exact ⟨_, by rw [Hv.out]; rfl, by rw [erl_no Hv.out]; exact hown3.out.mono (Nat.le_succ _), hb13⟩
  have HT := Lib.hid hT
  obtain ⟨hTr, hsa, hsb⟩ := two_t hT
  have hp := (treeB_t hTr).toPa
  have Hp := Lib.hid hp
  have hn24 : nP ≤ 24 := by have := hp.n24; have := Hl.out; omega
  have Hval := Lib.hid (erl_yes (early := false) hT)
  have Hap := Lib.hid (mergeP_app ps a b false)
  have Hcase : Hid (∀ i, i < (ends ps).length → ∃ (e : Nat) (s1 s2 : Int) (Y : Nat), e < nP ∧ nth (ends ps) i = (e : Int) ∧ stop ps (hasB a) e = s1 ∧ stop ps (hasB b) e = s2 ∧ most s1 s2 = (Y : Int) ∧ Y < nP ∧ filt (fun z => mergeP ps a b false ((ends ps).take i) z || z == Y) nP = filt (mergeP ps a b false ((ends ps).take (i + 1))) nP) := Lib.hid fun i hi => by
    obtain ⟨e, h1, h2, h3⟩ := end_nth hi
    obtain ⟨s1, q1, q2, _⟩ := sole_mem hsa hp h1 h2
    obtain ⟨s2, r1, r2, _⟩ := sole_mem hsb hp h1 h2
    have hl := Hl.out
    obtain ⟨Y, y1, y2⟩ := pick_nat false (x := (s1 : Int)) (y := (s2 : Int)) (n := nP) (by omega) (by omega) (by omega) (by omega)
    refine ⟨e, s1, s2, Y, by omega, h3, q2, r2, by rw [pick_most, y1], y2, filt_congr fun z hz => ?_⟩
    rw [take_succ_nth hi, h3, Hap.out, Int.toNat_natCast, q2, r2, y1]
    congr 1
    rw [Bool.eq_iff_iff, beq_iff_eq, beq_iff_eq]; omega
  clear hT hTr hsa hsb hp Hap
  go_wp2_with fail
  refine (spec_l2Ends _ _ _ _ _ _ ps ws _ (H.out.below hb13) Hp.out).mono ?_
  rintro e w4 ⟨v4, rfl, ho4, hb4⟩
  obtain ⟨a4, c4, rfl⟩ := ho4.shape
  have HE := Lib.hid ho4.ints
  have HP4 := Lib.hid (HP3.out.below hb4)
  have HO4 := Lib.hid (hown3.out.below hb4)
  have hb14 := hb13.trans (hb4.mono hb13.size)
  have hs4 : w.heap.size + 2 ≤ w4.heap.size := by have := hb4.size; omega
  have hel : (ends ps).length ≤ 24 := by have := filt_length (endB ps) ps.length; have := Hl.out; rw [ends]; omega
  have Hmv : Hid (mergeV ps a b false = filt (mergeP ps a b false (ends ps)) nP) := Lib.hid (by rw [mergeV, Hl.out])
  have Hnil0 : Hid (filt (mergeP ps a b false ([] : List Int)) nP = []) := Lib.hid (mergeP_nil ps a b false nP)
  clear ho4 hb4 hown3 HP3 hb13 hs3 e0 e1
  generalize hes : ends ps = es at *
  clear hes
  go_wp2_with fail
  go_loopw [8, 10] (fun v5 v11 wr => ∃ i : Nat, i ≤ es.length ∧ v11 = .int .i64 (i : Int) ∧ Own wr (w.heap.size + 1) v5 (filt (mergeP ps a b false (es.take i)) nP) ∧ Ints wr a4 es.length es ∧ Pair wr w.heap.size (.slice aP nP cP) (.slice aW nW cW) ∧ Below w.heap.size w wr) (fun _ v11 _ => es.length - (intOf v11).toNat)
  case atStart => exact ⟨0, Nat.zero_le _, rfl, by rw [List.take_zero, Hnil0.out]; exact HO4.out, HE.out, HP4.out, hb14⟩
  case round =>
    clear hb14 HE HO4 HP4 hs4 Hnil0
    obtain ⟨i, hi, rfl, hou, hen, hP, hbel⟩ := hrel
    have x0 := hP.c0
    have x1 := hP.c1
    have HP := Lib.hid hP
    have HO := Lib.hid hou
    have HE := Lib.hid hen
    clear hP hou hen
    by_cases hlt : (i : Int) < es.length
    · obtain ⟨be, oe, rfl, hce⟩ := HE.out.at (i := i) (Below.refl _ _) (by omega)
      obtain ⟨e, s1, s2, Y, he, hen, h1, h2, h3, hY, hnext⟩ := Hcase.out i (by omega)
      rw [hen] at hce
      have Hnext := Lib.hid hnext
      have HcA : Hid (∀ W : World, Below w.heap.size w W → Calls Tryz.prog 118 #[.agg #[.slice aP nP cP, .slice aW nW cW], .slice aA nA cA, .int .i64 (e : Int)] W fun e' w' => e' = .returned (.int .i64 s1) ∧ Below W.heap.size W w') := Lib.hid fun W hW => by
        have := spec_l4Stop _ _ _ _ _ _ ps ws aA nA cA a e W (H.out.below hW) Hp.out (HA.out.below hW) hnA he
        rw [h1] at this
        exact this
      have HcB : Hid (∀ W : World, Below w.heap.size w W → Calls Tryz.prog 118 #[.agg #[.slice aP nP cP, .slice aW nW cW], .slice aB nB cB, .int .i64 (e : Int)] W fun e' w' => e' = .returned (.int .i64 s2) ∧ Below W.heap.size W w') := Lib.hid fun W hW => by
        have := spec_l4Stop _ _ _ _ _ _ ps ws aB nB cB b e W (H.out.below hW) Hp.out (HB.out.below hW) hnB he
        rw [h2] at this
        exact this
      have HcP : Hid (∀ W : World, Calls Tryz.prog 119 #[.int .i64 s1, .int .i64 s2] W fun e' w' => e' = .returned (.int .i64 (Y : Int)) ∧ W = w') := Lib.hid fun W => by
        have := spec_l1Most s1 s2 W
        rw [h3] at this
        exact this
      obtain ⟨a5, c5, rfl⟩ := HO.out.shape
      have hbs : w.heap.size + 1 ≤ wr.heap.size := by have := HP.out.lt; omega
      have hol := filt_length (mergeP ps a b false (es.take i)) nP
      clear h1 h2 h3 hnext hen
      go_wp2_with fail
      refine wp_region_noPanic ?_
      refine wp_region_held_drew (S := fun W' => KeepR wr W' ∧ W'.cell? ⟨w.heap.size, 0, none⟩ = some (.slice aP nP cP) ∧ W'.cell? ⟨w.heap.size, 1, none⟩ = some (.slice aW nW cW) ∧ W'.cell? ⟨be, oe + i, none⟩ = some (.int .i64 (e : Int))) (by kernel_rfl) ?_ (fun hHeld0 => ?_)
      · (try dsimp only); first | exact keepC3 (by assumption) x0 x1 hce | exact keepC3 (KeepR.start _) x0 x1 hce
      refine takeH (i := 0) (oi := _) (v := ?_) rfl (by kernel_rfl) (by kernel_rfl) (by kernel_rfl) (fun _ _ _ h => h) (Or.inl ⟨by rfl, ?_⟩) (by assumption) ?_
      rotate_left
      · first | (intro w hSw; (try dsimp only at hSw); go_simp; done) | (intro w hSw; (try dsimp only at hSw); go_simp; with_reducible rfl)
      (try simp only [Act.put, List.setIfInBounds_toArray, List.set_cons_zero, List.set_cons_succ])
      refine takeH (i := 1) (oi := _) (v := ?_) rfl (by kernel_rfl) (by kernel_rfl) (by kernel_rfl) (fun _ _ _ h => h) (Or.inl ⟨by rfl, ?_⟩) (by assumption) ?_
      rotate_left
      · first | (intro w hSw; (try dsimp only at hSw); go_simp; done) | (intro w hSw; (try dsimp only at hSw); go_simp; with_reducible rfl)
      (try simp only [Act.put, List.setIfInBounds_toArray, List.set_cons_zero, List.set_cons_succ])
      refine takeH (i := 2) (oi := _) (v := ?_) rfl (by kernel_rfl) (by kernel_rfl) (by kernel_rfl) (fun _ _ _ h => h) (Or.inl ⟨by rfl, ?_⟩) (by assumption) ?_
      rotate_left
      · first | (intro w hSw; (try dsimp only at hSw); go_simp; done) | (intro w hSw; (try dsimp only at hSw); go_simp; with_reducible rfl)
      (try simp only [Act.put, List.setIfInBounds_toArray, List.set_cons_zero, List.set_cons_succ])
      refine takeH (i := 3) (oi := _) (v := ?_) rfl (by kernel_rfl) (by kernel_rfl) (by kernel_rfl) (fun _ _ _ h => h) (Or.inl ⟨by rfl, ?_⟩) (by assumption) ?_
      rotate_left
      · first | (intro w hSw; (try dsimp only at hSw); go_simp; done) | (intro w hSw; (try dsimp only at hSw); go_simp; with_reducible rfl)
      (try simp only [Act.put, List.setIfInBounds_toArray, List.set_cons_zero, List.set_cons_succ])
      refine takeH (i := 4) (oi := _) (v := ?_) rfl (by kernel_rfl) (by kernel_rfl) (by kernel_rfl) (fun _ _ _ h => h) (Or.inl ⟨by rfl, ?_⟩) (by assumption) ?_
      rotate_left
      · first | (intro w hSw; (try dsimp only at hSw); go_simp; done) | (intro w hSw; (try dsimp only at hSw); go_simp; with_reducible rfl)
      (try simp only [Act.put, List.setIfInBounds_toArray, List.set_cons_zero, List.set_cons_succ])
      refine takeH (i := 5) (oi := _) (v := ?_) rfl (by kernel_rfl) (by kernel_rfl) (by kernel_rfl) (fun _ _ _ h => h) (Or.inl ⟨by rfl, ?_⟩) (by assumption) ?_
      rotate_left
      · first | (intro w hSw; (try dsimp only at hSw); go_simp; done) | (intro w hSw; (try dsimp only at hSw); go_simp; with_reducible rfl)
      (try simp only [Act.put, List.setIfInBounds_toArray, List.set_cons_zero, List.set_cons_succ])
      refine takeH (i := 6) (oi := _) (v := ?_) rfl (by kernel_rfl) (by kernel_rfl) (by kernel_rfl) (fun _ _ _ h => h) (Or.inl ⟨by rfl, ?_⟩) (by assumption) ?_
      rotate_left
      · first | (intro w hSw; (try dsimp only at hSw); go_simp; done) | (intro w hSw; (try dsimp only at hSw); go_simp; with_reducible rfl)
      (try simp only [Act.put, List.setIfInBounds_toArray, List.set_cons_zero, List.set_cons_succ])
      refine takeH (i := 8) (oi := _) (v := ?_) rfl (by kernel_rfl) (by kernel_rfl) (by kernel_rfl) (fun _ _ _ h => h) (Or.inl ⟨by rfl, ?_⟩) (by assumption) ?_
      rotate_left
      · first | (intro w hSw; (try dsimp only at hSw); go_simp; done) | (intro w hSw; (try dsimp only at hSw); go_simp; with_reducible rfl)
      (try simp only [Act.put, List.setIfInBounds_toArray, List.set_cons_zero, List.set_cons_succ])
      refine takeH (i := 9) (oi := _) (v := ?_) rfl (by kernel_rfl) (by kernel_rfl) (by kernel_rfl) (fun _ _ _ h => h) (Or.inl ⟨by rfl, ?_⟩) (by assumption) ?_
      rotate_left
      · first | (intro w hSw; (try dsimp only at hSw); go_simp; done) | (intro w hSw; (try dsimp only at hSw); go_simp; with_reducible rfl)
      (try simp only [Act.put, List.setIfInBounds_toArray, List.set_cons_zero, List.set_cons_succ])
      refine takeH (i := 10) (oi := _) (v := ?_) rfl (by kernel_rfl) (by kernel_rfl) (by kernel_rfl) (fun _ _ _ h => h) (Or.inl ⟨by rfl, ?_⟩) (by assumption) ?_
      rotate_left
      · first | (intro w hSw; (try dsimp only at hSw); go_simp; done) | (intro w hSw; (try dsimp only at hSw); go_simp; with_reducible rfl)
      (try simp only [Act.put, List.setIfInBounds_toArray, List.set_cons_zero, List.set_cons_succ])
      refine takeH (i := 11) (oi := _) (v := ?_) rfl (by kernel_rfl) (by kernel_rfl) (by kernel_rfl) (fun _ _ _ h => h) (Or.inl ⟨by rfl, ?_⟩) (by assumption) ?_
      rotate_left
      · first | (intro w hSw; (try dsimp only at hSw); go_simp; done) | (intro w hSw; (try dsimp only at hSw); go_simp; with_reducible rfl)
      (try simp only [Act.put, List.setIfInBounds_toArray, List.set_cons_zero, List.set_cons_succ])
      refine takeH (i := 12) (oi := _) (v := ?_) rfl (by kernel_rfl) (by kernel_rfl) (by kernel_rfl) (fun _ _ _ h => h) (Or.inl ⟨by rfl, ?_⟩) (by assumption) ?_
      rotate_left
      · first | (intro w hSw; (try dsimp only at hSw); go_simp; done) | (intro w hSw; (try dsimp only at hSw); go_simp; with_reducible rfl)
      (try simp only [Act.put, List.setIfInBounds_toArray, List.set_cons_zero, List.set_cons_succ])
      refine takeH (i := 13) (oi := _) (v := ?_) rfl (by kernel_rfl) (by kernel_rfl) (by kernel_rfl) (fun _ _ _ h => h) (Or.inl ⟨by rfl, ?_⟩) (by assumption) ?_
      rotate_left
      · first | (intro w hSw; (try dsimp only at hSw); go_simp; done) | (intro w hSw; (try dsimp only at hSw); go_simp; with_reducible rfl)
      (try simp only [Act.put, List.setIfInBounds_toArray, List.set_cons_zero, List.set_cons_succ])
      refine wpAnyH_ready (rs := [7]) (by kernel_rfl) (by simp) ?_
      refine consH rfl (fun Kq hKq => ?_)
      go_simp
      (go_at_call 118; refine (HcA.out _ (hbel.trans (Below.mono (by assumption : KeepR wr _ ∧ _).1 hbel.size))).mono ?_; rintro e' w5 ⟨rfl, b5⟩; have hk5 := KeepR.next b5 (by assumption : KeepR wr _ ∧ _).1)
      refine hKq.out _ _ ?_ (fun hHeld1 => ?_)
      · (try dsimp only); first | exact keepC3 (by assumption) x0 x1 hce | exact keepC3 (KeepR.start _) x0 x1 hce
      clear hKq Kq
      (try simp only [Act.put, List.setIfInBounds_toArray, List.set_cons_zero, List.set_cons_succ])
      clear hHeld0
      refine wpAnyH_ready (rs := [14]) (by kernel_rfl) (by simp) ?_
      refine consH rfl (fun Kq hKq => ?_)
      go_simp
      (go_at_call 118; refine (HcB.out _ (hbel.trans (Below.mono (by assumption : KeepR wr _ ∧ _).1 hbel.size))).mono ?_; rintro e' w6 ⟨rfl, b6⟩; have hk6 := KeepR.next b6 (by assumption : KeepR wr _ ∧ _).1)
      refine hKq.out _ _ ?_ (fun hHeld2 => ?_)
      · (try dsimp only); first | exact keepC3 (by assumption) x0 x1 hce | exact keepC3 (KeepR.start _) x0 x1 hce
      clear hKq Kq
      (try simp only [Act.put, List.setIfInBounds_toArray, List.set_cons_zero, List.set_cons_succ])
      clear hHeld1
      refine wpAnyH_ready (rs := [15]) (by kernel_rfl) (by simp) ?_
      refine consH rfl (fun Kq hKq => ?_)
      go_simp
      (go_at_call 119; refine (HcP.out _).mono ?_; rintro e' w7 ⟨rfl, rfl⟩)
      refine hKq.out _ _ ?_ (fun hHeld3 => ?_)
      · (try dsimp only); first | exact keepC3 (by assumption) x0 x1 hce | exact keepC3 (KeepR.start _) x0 x1 hce
      clear hKq Kq
      (try simp only [Act.put, List.setIfInBounds_toArray, List.set_cons_zero, List.set_cons_succ])
      clear hHeld2
      refine wpAnyH_ready (rs := [16]) (by kernel_rfl) (by simp) ?_
      refine consH rfl (fun Kq hKq => ?_)
      go_simp
      (go_at_call 116; refine (spec_l1Put _ _ _ (mergeP ps a b false (es.take i)) nP Y (w.heap.size + 1) _ (by omega) hY (Nat.le_trans hbs (by assumption : KeepR wr _ ∧ _).1.size) (HO.out.below (by assumption : KeepR wr _ ∧ _).1)).mono ?_; rintro e' w8 ⟨v8, rfl, ho8, b8⟩; have hk8 := KeepR.next b8 (by assumption : KeepR wr _ ∧ _).1)
      refine hKq.out _ _ ?_ (fun hHeld4 => ?_)
      · (try dsimp only); first | exact keepC3 (by assumption) x0 x1 hce | exact keepC3 (KeepR.start _) x0 x1 hce
      clear hKq Kq
      (try simp only [Act.put, List.setIfInBounds_toArray, List.set_cons_zero, List.set_cons_succ])
      clear hHeld3
      refine takeH (i := 17) (oi := _) (v := ?_) rfl (by kernel_rfl) (by kernel_rfl) (by kernel_rfl) (fun _ _ _ h => h) (Or.inl ⟨by rfl, ?_⟩) (by assumption) ?_
      rotate_left
      · first | (intro w hSw; (try dsimp only at hSw); go_simp; done) | (intro w hSw; (try dsimp only at hSw); go_simp; with_reducible rfl)
      (try simp only [Act.put, List.setIfInBounds_toArray, List.set_cons_zero, List.set_cons_succ])
      refine wpAnyH_done (by kernel_rfl) ?_ _
      refine NoPanic.normal ?_
      go_wp2_with fail
      rw [Hnext.out] at ho8
      have hk8' : Below wr.heap.size wr w8 := hk8
      go_roundw
      case rel => exact ⟨i + 1, by omega, by go_num, ho8, HE.out.below hk8', HP.out.below hk8', hbel.trans (hk8'.mono hbel.size)⟩
      case measure => simp [intOf]; omega
    · obtain rfl : i = es.length := by omega
      have HO2 : Hid (Own wr (w.heap.size + 1) _ (erlV ps ws a b false)) := Lib.hid (by
        have := HO.out
        rw [List.take_length, ← Hmv.out, ← Hval.out] at this
        exact this)
      clear HO
      go_wp2_with fail
      go_ret2
      exact ⟨_, by rw [HT.out]; rfl, HO2.out.mono (Nat.le_succ _), hbel⟩
set_option maxRecDepth 100000 in
set_option maxHeartbeats 1000000 in
theorem spec_IsNoLater (aP : Option Addr) (nP cP : Nat) (aW : Option Addr) (nW cW : Nat) (ps ws : List Int) (aA : Option Addr) (nA cA : Nat) (a : List Int) (aB : Option Addr) (nB cB : Nat) (b : List Int) (w : World) (h : Tre w aP nP cP aW nW cW ps ws) (hA : Ints w aA nA a) (hAc : aA = none → cA = 0) (hnA : nA ≤ 1048576) (hB : Ints w aB nB b) (hBc : aB = none → cB = 0) (hnB : nB ≤ 1048576) :
    Calls Tryz.prog 56 #[.agg #[.slice aP nP cP, .slice aW nW cW], .slice aA nA cA, .slice aB nB cB] w fun e w' => e = .returned (.tuple #[.bool (noLV ps ws a b), .bool (twoB ps ws a b)]) ∧ Below w.heap.size w w' := by
  have hl := h.p.1
  have hlw := h.w.1
  have hpn := h.pn
  have hwn := h.wn
  have hb1 := below_new w (.cells #[.slice aP nP cP, .slice aW nW cW] 26)
  have hP1 := Lib.hid (Pair.new w (.slice aP nP cP) (.slice aW nW cW) 26)
  have H := Lib.hid h
  have Hl := Lib.hid hl
  have Hlw := Lib.hid hlw
  clear h hl hlw
  have HA := Lib.hid hA
  have HB := Lib.hid hB
  clear hA hB
  go_enter Tryz.func56, Tryz.ntmps56
  have c0 := hP1.out.c0
  have c1 := hP1.out.c1
  go_wp2_with fail
  generalize (w.alloc (.cells #[.slice aP nP cP, .slice aW nW cW] 26)) = w2 at *
  refine (spec_l4Two _ _ _ _ _ _ ps ws _ _ _ a _ _ _ b _ (H.out.below hb1) (HA.out.below hb1) hAc hnA (HB.out.below hb1) hBc hnB).mono ?_
  rintro e w3 ⟨rfl, hb3⟩
  have HP3 := Lib.hid (hP1.out.below hb3)
  have hb13 := hb1.trans (hb3.mono hb1.size)
  have e0 := HP3.out.c0
  have e1 := HP3.out.c1
  clear hb3 hb1 hP1 c0 c1 hAc hBc
  cases hT : twoB ps ws a b
  · have Hv := Lib.hid hT
    have Hn := Lib.hid (noL_no hT)
    clear hT
    go_wp2_with fail
    go_ret2
    exact ⟨by rw [Hv.out, Hn.out]; rfl, hb13⟩
  have HT := Lib.hid hT
  obtain ⟨hTr, hsa, hsb⟩ := two_t hT
  have hp := (treeB_t hTr).toPa
  have Hp := Lib.hid hp
  have hn24 : nP ≤ 24 := by have := hp.n24; have := Hl.out; omega
  have Hval := Lib.hid (noL_yes hT)
  have Hcase : Hid (∀ i, i < (ends ps).length → ∃ (e s1 s2 : Nat), e < nP ∧ nth (ends ps) i = (e : Int) ∧ stop ps (hasB a) e = (s1 : Int) ∧ stop ps (hasB b) e = (s2 : Int)) := Lib.hid fun i hi => by
    obtain ⟨e, h1, h2, h3⟩ := end_nth hi
    obtain ⟨s1, q1, q2, _⟩ := sole_mem hsa hp h1 h2
    obtain ⟨s2, r1, r2, _⟩ := sole_mem hsb hp h1 h2
    have hl := Hl.out
    exact ⟨e, s1, s2, by omega, h3, q2, r2⟩
  have Hcut : Hid (∀ (i x : Nat), i < (ends ps).length → nth (ends ps) i = (x : Int) → stop ps (hasB a) x > stop ps (hasB b) x → noLaterB ps a b = false) := Lib.hid fun i x h1 h2 h3 => noLater_cut h1 h2 h3
  have Hall : Hid ((∀ i, i < (ends ps).length → stop ps (hasB a) (nth (ends ps) i).toNat ≤ stop ps (hasB b) (nth (ends ps) i).toNat) → noLaterB ps a b = true) := Lib.hid fun h => noLater_all h
  clear hT hTr hsa hsb hp
  go_wp2_with fail
  refine (spec_l2Ends _ _ _ _ _ _ ps ws _ (H.out.below hb13) Hp.out).mono ?_
  rintro e w4 ⟨v4, rfl, ho4, hb4⟩
  obtain ⟨a4, c4, rfl⟩ := ho4.shape
  have HE := Lib.hid ho4.ints
  have HP4 := Lib.hid (HP3.out.below hb4)
  have hb14 := hb13.trans (hb4.mono hb13.size)
  have hel : (ends ps).length ≤ 24 := by have := filt_length (endB ps) ps.length; have := Hl.out; rw [ends]; omega
  clear ho4 hb4 HP3 hb13 e0 e1
  generalize hes : ends ps = es at *
  clear hes
  go_wp2_with fail
  go_loopw [9] (fun v9 wr => ∃ i : Nat, i ≤ es.length ∧ v9 = .int .i64 (i : Int) ∧ (∀ j, j < i → stop ps (hasB a) (nth es j).toNat ≤ stop ps (hasB b) (nth es j).toNat) ∧ Ints wr a4 es.length es ∧ Pair wr w.heap.size (.slice aP nP cP) (.slice aW nW cW) ∧ Below w.heap.size w wr) (fun v9 _ => es.length - (intOf v9).toNat)
  case atStart => exact ⟨0, Nat.zero_le _, rfl, fun j hj => by omega, HE.out, HP4.out, hb14⟩
  case round =>
    clear hb14 HE HP4
    obtain ⟨i, hi, rfl, hsf, hen, hP, hbel⟩ := hrel
    have x0 := hP.c0
    have x1 := hP.c1
    have HP := Lib.hid hP
    have HE := Lib.hid hen
    have Hsf := Lib.hid hsf
    clear hP hen hsf
    by_cases hlt : (i : Int) < es.length
    · obtain ⟨be, oe, rfl, hce⟩ := HE.out.at (i := i) (Below.refl _ _) (by omega)
      obtain ⟨e, s1, s2, he, hen, h1, h2⟩ := Hcase.out i (by omega)
      rw [hen] at hce
      have HcA : Hid (∀ W : World, Below w.heap.size w W → Calls Tryz.prog 118 #[.agg #[.slice aP nP cP, .slice aW nW cW], .slice aA nA cA, .int .i64 (e : Int)] W fun e' w' => e' = .returned (.int .i64 (s1 : Int)) ∧ Below W.heap.size W w') := Lib.hid fun W hW => by
        have := spec_l4Stop _ _ _ _ _ _ ps ws aA nA cA a e W (H.out.below hW) Hp.out (HA.out.below hW) hnA he
        rw [h1] at this
        exact this
      have HcB : Hid (∀ W : World, Below w.heap.size w W → Calls Tryz.prog 118 #[.agg #[.slice aP nP cP, .slice aW nW cW], .slice aB nB cB, .int .i64 (e : Int)] W fun e' w' => e' = .returned (.int .i64 (s2 : Int)) ∧ Below W.heap.size W w') := Lib.hid fun W hW => by
        have := spec_l4Stop _ _ _ _ _ _ ps ws aB nB cB b e W (H.out.below hW) Hp.out (HB.out.below hW) hnB he
        rw [h2] at this
        exact this
      by_cases hgt : (s1 : Int) > (s2 : Int)
      · have Hv : Hid (noLaterB ps a b = false) := Lib.hid (Hcut.out i e (by omega) hen (by rw [h1, h2]; exact hgt))
        clear h1 h2 hen
        go_wp2_with fail
        refine wp_region_noPanic ?_
        refine wp_region_held_drew (S := fun W' => KeepR wr W' ∧ W'.cell? ⟨w.heap.size, 0, none⟩ = some (.slice aP nP cP) ∧ W'.cell? ⟨w.heap.size, 1, none⟩ = some (.slice aW nW cW) ∧ W'.cell? ⟨be, oe + i, none⟩ = some (.int .i64 (e : Int))) (by kernel_rfl) ?_ (fun hHeld0 => ?_)
        · (try dsimp only); first | exact keepC3 (by assumption) x0 x1 hce | exact keepC3 (KeepR.start _) x0 x1 hce
        refine takeH (i := 0) (oi := _) (v := ?_) rfl (by kernel_rfl) (by kernel_rfl) (by kernel_rfl) (fun _ _ _ h => h) (Or.inl ⟨by rfl, ?_⟩) (by assumption) ?_
        rotate_left
        · first | (intro w hSw; (try dsimp only at hSw); go_simp; done) | (intro w hSw; (try dsimp only at hSw); go_simp; with_reducible rfl)
        (try simp only [Act.put, List.setIfInBounds_toArray, List.set_cons_zero, List.set_cons_succ])
        refine takeH (i := 1) (oi := _) (v := ?_) rfl (by kernel_rfl) (by kernel_rfl) (by kernel_rfl) (fun _ _ _ h => h) (Or.inl ⟨by rfl, ?_⟩) (by assumption) ?_
        rotate_left
        · first | (intro w hSw; (try dsimp only at hSw); go_simp; done) | (intro w hSw; (try dsimp only at hSw); go_simp; with_reducible rfl)
        (try simp only [Act.put, List.setIfInBounds_toArray, List.set_cons_zero, List.set_cons_succ])
        refine takeH (i := 2) (oi := _) (v := ?_) rfl (by kernel_rfl) (by kernel_rfl) (by kernel_rfl) (fun _ _ _ h => h) (Or.inl ⟨by rfl, ?_⟩) (by assumption) ?_
        rotate_left
        · first | (intro w hSw; (try dsimp only at hSw); go_simp; done) | (intro w hSw; (try dsimp only at hSw); go_simp; with_reducible rfl)
        (try simp only [Act.put, List.setIfInBounds_toArray, List.set_cons_zero, List.set_cons_succ])
        refine takeH (i := 3) (oi := _) (v := ?_) rfl (by kernel_rfl) (by kernel_rfl) (by kernel_rfl) (fun _ _ _ h => h) (Or.inl ⟨by rfl, ?_⟩) (by assumption) ?_
        rotate_left
        · first | (intro w hSw; (try dsimp only at hSw); go_simp; done) | (intro w hSw; (try dsimp only at hSw); go_simp; with_reducible rfl)
        (try simp only [Act.put, List.setIfInBounds_toArray, List.set_cons_zero, List.set_cons_succ])
        refine takeH (i := 4) (oi := _) (v := ?_) rfl (by kernel_rfl) (by kernel_rfl) (by kernel_rfl) (fun _ _ _ h => h) (Or.inl ⟨by rfl, ?_⟩) (by assumption) ?_
        rotate_left
        · first | (intro w hSw; (try dsimp only at hSw); go_simp; done) | (intro w hSw; (try dsimp only at hSw); go_simp; with_reducible rfl)
        (try simp only [Act.put, List.setIfInBounds_toArray, List.set_cons_zero, List.set_cons_succ])
        refine takeH (i := 5) (oi := _) (v := ?_) rfl (by kernel_rfl) (by kernel_rfl) (by kernel_rfl) (fun _ _ _ h => h) (Or.inl ⟨by rfl, ?_⟩) (by assumption) ?_
        rotate_left
        · first | (intro w hSw; (try dsimp only at hSw); go_simp; done) | (intro w hSw; (try dsimp only at hSw); go_simp; with_reducible rfl)
        (try simp only [Act.put, List.setIfInBounds_toArray, List.set_cons_zero, List.set_cons_succ])
        refine takeH (i := 7) (oi := _) (v := ?_) rfl (by kernel_rfl) (by kernel_rfl) (by kernel_rfl) (fun _ _ _ h => h) (Or.inl ⟨by rfl, ?_⟩) (by assumption) ?_
        rotate_left
        · first | (intro w hSw; (try dsimp only at hSw); go_simp; done) | (intro w hSw; (try dsimp only at hSw); go_simp; with_reducible rfl)
        (try simp only [Act.put, List.setIfInBounds_toArray, List.set_cons_zero, List.set_cons_succ])
        refine takeH (i := 8) (oi := _) (v := ?_) rfl (by kernel_rfl) (by kernel_rfl) (by kernel_rfl) (fun _ _ _ h => h) (Or.inl ⟨by rfl, ?_⟩) (by assumption) ?_
        rotate_left
        · first | (intro w hSw; (try dsimp only at hSw); go_simp; done) | (intro w hSw; (try dsimp only at hSw); go_simp; with_reducible rfl)
        (try simp only [Act.put, List.setIfInBounds_toArray, List.set_cons_zero, List.set_cons_succ])
        refine takeH (i := 9) (oi := _) (v := ?_) rfl (by kernel_rfl) (by kernel_rfl) (by kernel_rfl) (fun _ _ _ h => h) (Or.inl ⟨by rfl, ?_⟩) (by assumption) ?_
        rotate_left
        · first | (intro w hSw; (try dsimp only at hSw); go_simp; done) | (intro w hSw; (try dsimp only at hSw); go_simp; with_reducible rfl)
        (try simp only [Act.put, List.setIfInBounds_toArray, List.set_cons_zero, List.set_cons_succ])
        refine takeH (i := 10) (oi := _) (v := ?_) rfl (by kernel_rfl) (by kernel_rfl) (by kernel_rfl) (fun _ _ _ h => h) (Or.inl ⟨by rfl, ?_⟩) (by assumption) ?_
        rotate_left
        · first | (intro w hSw; (try dsimp only at hSw); go_simp; done) | (intro w hSw; (try dsimp only at hSw); go_simp; with_reducible rfl)
        (try simp only [Act.put, List.setIfInBounds_toArray, List.set_cons_zero, List.set_cons_succ])
        refine takeH (i := 11) (oi := _) (v := ?_) rfl (by kernel_rfl) (by kernel_rfl) (by kernel_rfl) (fun _ _ _ h => h) (Or.inl ⟨by rfl, ?_⟩) (by assumption) ?_
        rotate_left
        · first | (intro w hSw; (try dsimp only at hSw); go_simp; done) | (intro w hSw; (try dsimp only at hSw); go_simp; with_reducible rfl)
        (try simp only [Act.put, List.setIfInBounds_toArray, List.set_cons_zero, List.set_cons_succ])
        refine takeH (i := 12) (oi := _) (v := ?_) rfl (by kernel_rfl) (by kernel_rfl) (by kernel_rfl) (fun _ _ _ h => h) (Or.inl ⟨by rfl, ?_⟩) (by assumption) ?_
        rotate_left
        · first | (intro w hSw; (try dsimp only at hSw); go_simp; done) | (intro w hSw; (try dsimp only at hSw); go_simp; with_reducible rfl)
        (try simp only [Act.put, List.setIfInBounds_toArray, List.set_cons_zero, List.set_cons_succ])
        refine wpAnyH_ready (rs := [6]) (by kernel_rfl) (by simp) ?_
        refine consH rfl (fun Kq hKq => ?_)
        go_simp
        (go_at_call 118; refine (HcA.out _ (hbel.trans (Below.mono (by assumption : KeepR wr _ ∧ _).1 hbel.size))).mono ?_; rintro e' w5 ⟨rfl, b5⟩; have hk5 := KeepR.next b5 (by assumption : KeepR wr _ ∧ _).1)
        refine hKq.out _ _ ?_ (fun hHeld1 => ?_)
        · (try dsimp only); first | exact keepC3 (by assumption) x0 x1 hce | exact keepC3 (KeepR.start _) x0 x1 hce
        clear hKq Kq
        (try simp only [Act.put, List.setIfInBounds_toArray, List.set_cons_zero, List.set_cons_succ])
        clear hHeld0
        refine wpAnyH_ready (rs := [13]) (by kernel_rfl) (by simp) ?_
        refine consH rfl (fun Kq hKq => ?_)
        go_simp
        (go_at_call 118; refine (HcB.out _ (hbel.trans (Below.mono (by assumption : KeepR wr _ ∧ _).1 hbel.size))).mono ?_; rintro e' w6 ⟨rfl, b6⟩; have hk6 := KeepR.next b6 (by assumption : KeepR wr _ ∧ _).1)
        refine hKq.out _ _ ?_ (fun hHeld2 => ?_)
        · (try dsimp only); first | exact keepC3 (by assumption) x0 x1 hce | exact keepC3 (KeepR.start _) x0 x1 hce
        clear hKq Kq
        (try simp only [Act.put, List.setIfInBounds_toArray, List.set_cons_zero, List.set_cons_succ])
        clear hHeld1
        refine takeH (i := 14) (oi := _) (v := ?_) rfl (by kernel_rfl) (by kernel_rfl) (by kernel_rfl) (fun _ _ _ h => h) (Or.inl ⟨by rfl, ?_⟩) (by assumption) ?_
        rotate_left
        · first | (intro w hSw; (try dsimp only at hSw); go_simp; done) | (intro w hSw; (try dsimp only at hSw); go_simp; with_reducible rfl)
        (try simp only [Act.put, List.setIfInBounds_toArray, List.set_cons_zero, List.set_cons_succ])
        refine wpAnyH_done (by kernel_rfl) ?_ _
        refine NoPanic.normal ?_
        go_wp2_with fail
        have hk6' : Below wr.heap.size wr w6 := hk6
        go_ret2
        exact ⟨by rw [Hval.out, Hv.out, HT.out]; rfl, hbel.trans (hk6'.mono hbel.size)⟩
      · have Hn : Hid (∀ j, j < i + 1 → stop ps (hasB a) (nth es j).toNat ≤ stop ps (hasB b) (nth es j).toNat) := Lib.hid fun j hj => by
          by_cases ee : j = i
          · subst ee
            rw [hen, Int.toNat_natCast, h1, h2]
            omega
          · exact Hsf.out j (by omega)
        clear h1 h2 hen
        go_wp2_with fail
        refine wp_region_noPanic ?_
        refine wp_region_held_drew (S := fun W' => KeepR wr W' ∧ W'.cell? ⟨w.heap.size, 0, none⟩ = some (.slice aP nP cP) ∧ W'.cell? ⟨w.heap.size, 1, none⟩ = some (.slice aW nW cW) ∧ W'.cell? ⟨be, oe + i, none⟩ = some (.int .i64 (e : Int))) (by kernel_rfl) ?_ (fun hHeld0 => ?_)
        · (try dsimp only); first | exact keepC3 (by assumption) x0 x1 hce | exact keepC3 (KeepR.start _) x0 x1 hce
        refine takeH (i := 0) (oi := _) (v := ?_) rfl (by kernel_rfl) (by kernel_rfl) (by kernel_rfl) (fun _ _ _ h => h) (Or.inl ⟨by rfl, ?_⟩) (by assumption) ?_
        rotate_left
        · first | (intro w hSw; (try dsimp only at hSw); go_simp; done) | (intro w hSw; (try dsimp only at hSw); go_simp; with_reducible rfl)
        (try simp only [Act.put, List.setIfInBounds_toArray, List.set_cons_zero, List.set_cons_succ])
        refine takeH (i := 1) (oi := _) (v := ?_) rfl (by kernel_rfl) (by kernel_rfl) (by kernel_rfl) (fun _ _ _ h => h) (Or.inl ⟨by rfl, ?_⟩) (by assumption) ?_
        rotate_left
        · first | (intro w hSw; (try dsimp only at hSw); go_simp; done) | (intro w hSw; (try dsimp only at hSw); go_simp; with_reducible rfl)
        (try simp only [Act.put, List.setIfInBounds_toArray, List.set_cons_zero, List.set_cons_succ])
        refine takeH (i := 2) (oi := _) (v := ?_) rfl (by kernel_rfl) (by kernel_rfl) (by kernel_rfl) (fun _ _ _ h => h) (Or.inl ⟨by rfl, ?_⟩) (by assumption) ?_
        rotate_left
        · first | (intro w hSw; (try dsimp only at hSw); go_simp; done) | (intro w hSw; (try dsimp only at hSw); go_simp; with_reducible rfl)
        (try simp only [Act.put, List.setIfInBounds_toArray, List.set_cons_zero, List.set_cons_succ])
        refine takeH (i := 3) (oi := _) (v := ?_) rfl (by kernel_rfl) (by kernel_rfl) (by kernel_rfl) (fun _ _ _ h => h) (Or.inl ⟨by rfl, ?_⟩) (by assumption) ?_
        rotate_left
        · first | (intro w hSw; (try dsimp only at hSw); go_simp; done) | (intro w hSw; (try dsimp only at hSw); go_simp; with_reducible rfl)
        (try simp only [Act.put, List.setIfInBounds_toArray, List.set_cons_zero, List.set_cons_succ])
        refine takeH (i := 4) (oi := _) (v := ?_) rfl (by kernel_rfl) (by kernel_rfl) (by kernel_rfl) (fun _ _ _ h => h) (Or.inl ⟨by rfl, ?_⟩) (by assumption) ?_
        rotate_left
        · first | (intro w hSw; (try dsimp only at hSw); go_simp; done) | (intro w hSw; (try dsimp only at hSw); go_simp; with_reducible rfl)
        (try simp only [Act.put, List.setIfInBounds_toArray, List.set_cons_zero, List.set_cons_succ])
        refine takeH (i := 5) (oi := _) (v := ?_) rfl (by kernel_rfl) (by kernel_rfl) (by kernel_rfl) (fun _ _ _ h => h) (Or.inl ⟨by rfl, ?_⟩) (by assumption) ?_
        rotate_left
        · first | (intro w hSw; (try dsimp only at hSw); go_simp; done) | (intro w hSw; (try dsimp only at hSw); go_simp; with_reducible rfl)
        (try simp only [Act.put, List.setIfInBounds_toArray, List.set_cons_zero, List.set_cons_succ])
        refine takeH (i := 7) (oi := _) (v := ?_) rfl (by kernel_rfl) (by kernel_rfl) (by kernel_rfl) (fun _ _ _ h => h) (Or.inl ⟨by rfl, ?_⟩) (by assumption) ?_
        rotate_left
        · first | (intro w hSw; (try dsimp only at hSw); go_simp; done) | (intro w hSw; (try dsimp only at hSw); go_simp; with_reducible rfl)
        (try simp only [Act.put, List.setIfInBounds_toArray, List.set_cons_zero, List.set_cons_succ])
        refine takeH (i := 8) (oi := _) (v := ?_) rfl (by kernel_rfl) (by kernel_rfl) (by kernel_rfl) (fun _ _ _ h => h) (Or.inl ⟨by rfl, ?_⟩) (by assumption) ?_
        rotate_left
        · first | (intro w hSw; (try dsimp only at hSw); go_simp; done) | (intro w hSw; (try dsimp only at hSw); go_simp; with_reducible rfl)
        (try simp only [Act.put, List.setIfInBounds_toArray, List.set_cons_zero, List.set_cons_succ])
        refine takeH (i := 9) (oi := _) (v := ?_) rfl (by kernel_rfl) (by kernel_rfl) (by kernel_rfl) (fun _ _ _ h => h) (Or.inl ⟨by rfl, ?_⟩) (by assumption) ?_
        rotate_left
        · first | (intro w hSw; (try dsimp only at hSw); go_simp; done) | (intro w hSw; (try dsimp only at hSw); go_simp; with_reducible rfl)
        (try simp only [Act.put, List.setIfInBounds_toArray, List.set_cons_zero, List.set_cons_succ])
        refine takeH (i := 10) (oi := _) (v := ?_) rfl (by kernel_rfl) (by kernel_rfl) (by kernel_rfl) (fun _ _ _ h => h) (Or.inl ⟨by rfl, ?_⟩) (by assumption) ?_
        rotate_left
        · first | (intro w hSw; (try dsimp only at hSw); go_simp; done) | (intro w hSw; (try dsimp only at hSw); go_simp; with_reducible rfl)
        (try simp only [Act.put, List.setIfInBounds_toArray, List.set_cons_zero, List.set_cons_succ])
        refine takeH (i := 11) (oi := _) (v := ?_) rfl (by kernel_rfl) (by kernel_rfl) (by kernel_rfl) (fun _ _ _ h => h) (Or.inl ⟨by rfl, ?_⟩) (by assumption) ?_
        rotate_left
        · first | (intro w hSw; (try dsimp only at hSw); go_simp; done) | (intro w hSw; (try dsimp only at hSw); go_simp; with_reducible rfl)
        (try simp only [Act.put, List.setIfInBounds_toArray, List.set_cons_zero, List.set_cons_succ])
        refine takeH (i := 12) (oi := _) (v := ?_) rfl (by kernel_rfl) (by kernel_rfl) (by kernel_rfl) (fun _ _ _ h => h) (Or.inl ⟨by rfl, ?_⟩) (by assumption) ?_
        rotate_left
        · first | (intro w hSw; (try dsimp only at hSw); go_simp; done) | (intro w hSw; (try dsimp only at hSw); go_simp; with_reducible rfl)
        (try simp only [Act.put, List.setIfInBounds_toArray, List.set_cons_zero, List.set_cons_succ])
        refine wpAnyH_ready (rs := [6]) (by kernel_rfl) (by simp) ?_
        refine consH rfl (fun Kq hKq => ?_)
        go_simp
        (go_at_call 118; refine (HcA.out _ (hbel.trans (Below.mono (by assumption : KeepR wr _ ∧ _).1 hbel.size))).mono ?_; rintro e' w5 ⟨rfl, b5⟩; have hk5 := KeepR.next b5 (by assumption : KeepR wr _ ∧ _).1)
        refine hKq.out _ _ ?_ (fun hHeld1 => ?_)
        · (try dsimp only); first | exact keepC3 (by assumption) x0 x1 hce | exact keepC3 (KeepR.start _) x0 x1 hce
        clear hKq Kq
        (try simp only [Act.put, List.setIfInBounds_toArray, List.set_cons_zero, List.set_cons_succ])
        clear hHeld0
        refine wpAnyH_ready (rs := [13]) (by kernel_rfl) (by simp) ?_
        refine consH rfl (fun Kq hKq => ?_)
        go_simp
        (go_at_call 118; refine (HcB.out _ (hbel.trans (Below.mono (by assumption : KeepR wr _ ∧ _).1 hbel.size))).mono ?_; rintro e' w6 ⟨rfl, b6⟩; have hk6 := KeepR.next b6 (by assumption : KeepR wr _ ∧ _).1)
        refine hKq.out _ _ ?_ (fun hHeld2 => ?_)
        · (try dsimp only); first | exact keepC3 (by assumption) x0 x1 hce | exact keepC3 (KeepR.start _) x0 x1 hce
        clear hKq Kq
        (try simp only [Act.put, List.setIfInBounds_toArray, List.set_cons_zero, List.set_cons_succ])
        clear hHeld1
        refine takeH (i := 14) (oi := _) (v := ?_) rfl (by kernel_rfl) (by kernel_rfl) (by kernel_rfl) (fun _ _ _ h => h) (Or.inl ⟨by rfl, ?_⟩) (by assumption) ?_
        rotate_left
        · first | (intro w hSw; (try dsimp only at hSw); go_simp; done) | (intro w hSw; (try dsimp only at hSw); go_simp; with_reducible rfl)
        (try simp only [Act.put, List.setIfInBounds_toArray, List.set_cons_zero, List.set_cons_succ])
        refine wpAnyH_done (by kernel_rfl) ?_ _
        refine NoPanic.normal ?_
        go_wp2_with fail
        have hk6' : Below wr.heap.size wr w6 := hk6
        go_roundw
        case rel => exact ⟨i + 1, by omega, by go_num, Hn.out, HE.out.below hk6', HP.out.below hk6', hbel.trans (hk6'.mono hbel.size)⟩
        case measure => simp [intOf]; omega
    · obtain rfl : i = es.length := by omega
      have Hv : Hid (noLaterB ps a b = true) := Lib.hid (Hall.out Hsf.out)
      go_wp2_with fail
      go_ret2
      exact ⟨by rw [Hval.out, Hv.out, HT.out]; rfl, hbel⟩
end Go.Proofs.YtnbomleieianoaaGreat
