/- Contracts: the bound of a balanced list, by the program and by the reference. -/
import Derived.Test.YtjkkfjipgomkdaaSeer4
import Derived.Test.YtjkkfjipgomkdaaBal2
namespace Go.Proofs.Ytjkkfjipgomkdaa
open Go.RowKit

theorem bb_no1 {ps ws pay num : List Int} (h : balV ps ws num = false) : bbB ps ws pay num = false := by rw [bbB, h]; rfl
theorem bb_no2 {ps ws pay num : List Int} (h : paysB ps ws pay = false) : bbB ps ws pay num = false := by rw [bbB, h]; simp
theorem bb_no3 {ps ws pay num : List Int} (h : paysB ps ws num = false) : bbB ps ws pay num = false := bb_no1 (balV_no h)
theorem bb_yes {ps ws pay num : List Int} (h1 : balV ps ws num = true) (h2 : paysB ps ws pay = true) : bbB ps ws pay num = true := by rw [bbB, h1, h2]; rfl
set_option maxRecDepth 100000 in
set_option maxHeartbeats 1000000 in
theorem impl_BalanceBound (aP : Option Addr) (nP cP : Nat) (aW : Option Addr) (nW cW : Nat) (ps ws : List Int) (aA : Option Addr) (nA cA : Nat) (pay : List Int) (aB : Option Addr) (nB cB : Nat) (num : List Int) (w : World) (h : Tre w aP nP cP aW nW cW ps ws) (hA : Ints w aA nA pay) (_hAc : aA = none → cA = 0) (hnA : nA ≤ 1048576) (hB : Ints w aB nB num) (hBc : aB = none → cB = 0) (hnB : nB ≤ 1048576) :
    Calls Try.prog 40 #[.agg #[.slice aP nP cP, .slice aW nW cW], .slice aA nA cA, .slice aB nB cB] w fun e w' => e = .returned (.tuple #[.agg #[.int .i64 (boN (bbB ps ws pay num) ps ws pay num), .int .i64 (boD (bbB ps ws pay num) ps ws pay num)], .bool (bbB ps ws pay num)]) ∧ Below w.heap.size w w' := by
  have hl := h.p.1
  have hlw := h.w.1
  have hpn := h.pn
  have hwn := h.wn
  have hb1 := below_new w (.cells #[.slice aP nP cP, .slice aW nW cW] 28)
  have hP1 := Lib.hid (Pair.new w (.slice aP nP cP) (.slice aW nW cW) 28)
  have H := Lib.hid h
  have Hl := Lib.hid hl
  have Hlw := Lib.hid hlw
  clear h hl hlw
  have HA := Lib.hid hA
  have hal := Lib.hid hA.1
  have HB := Lib.hid hB
  have hbl := Lib.hid hB.1
  clear hA hB
  go_enter Try.func40, Try.ntmps40
  have hbb := hb1.trans ((below_new (w.alloc (.cells #[.slice aP nP cP, .slice aW nW cW] 28)) (.cells #[.int .i64 0, .int .i64 0] 34)).mono hb1.size)
  have hPP := Lib.hid (hP1.out.alloc (.cells #[.int .i64 0, .int .i64 0] 34))
  have hR1 := Pair.new (w.alloc (.cells #[.slice aP nP cP, .slice aW nW cW] 28)) (.int .i64 0) (.int .i64 0) 34
  rw [show (w.alloc (.cells #[.slice aP nP cP, .slice aW nW cW] 28)).heap.size = w.heap.size + 1 by simp] at hR1
  have HR1 := Lib.hid hR1
  have c0 := hPP.out.c0
  have c1 := hPP.out.c1
  clear hb1 hP1 hR1
  go_wp2_with fail
  generalize ((w.alloc (.cells #[.slice aP nP cP, .slice aW nW cW] 28)).alloc (.cells #[.int .i64 0, .int .i64 0] 34)) = w2 at *
  refine (impl_IsBalanced _ _ _ _ _ _ ps ws _ _ _ num _ (H.out.below hbb) (HB.out.below hbb) hBc hnB).mono ?_
  rintro e w3 ⟨rfl, hb3⟩
  have HP3 := Lib.hid (hPP.out.below hb3)
  have HR3 := Lib.hid (HR1.out.below hb3)
  have d0 := HP3.out.c0
  have d1 := HP3.out.c1
  have hb13 := hbb.trans (hb3.mono hbb.size)
  clear c0 c1 hb3 hPP HR1 hbb
  cases hp : paysB ps ws num
  · have Hv := Lib.hid (bb_no3 (pay := pay) hp)
    clear hp
    have q3 := HR3.out.c0
    have q4 := HR3.out.c1
    have q5 := HR3.out.f0
    have q6 := HR3.out.f1
    have hr := HR3.out.set (.int .i64 0) (.int .i64 0)
    go_wp2_with fail
    exact bodyPost_ret (v := .tuple #[.agg #[.int .i64 0, .int .i64 0], .bool false]) (by simp [results, Try.results40, go_sem, hr.1, hr.2]) rfl ⟨by rw [Hv.out]; rfl, (hb13.setCell (by simp) _).setCell (by simp) _⟩
  have HpB := Lib.hid hp
  have Hbv := Lib.hid (balV_yes hp)
  cases hb : balV ps ws num
  · have Hv := Lib.hid (bb_no1 (pay := pay) hb)
    clear hb hp
    have q3 := HR3.out.c0
    have q4 := HR3.out.c1
    have q5 := HR3.out.f0
    have q6 := HR3.out.f1
    have hr := HR3.out.set (.int .i64 0) (.int .i64 0)
    go_wp2_with fail
    exact bodyPost_ret (v := .tuple #[.agg #[.int .i64 0, .int .i64 0], .bool false]) (by simp [results, Try.results40, go_sem, hr.1, hr.2]) rfl ⟨by rw [Hv.out]; rfl, (hb13.setCell (by simp) _).setCell (by simp) _⟩
  have HbV := Lib.hid hb
  have HT := Lib.hid (paysB_t hp).2.1
  clear hb hp
  go_wp2_with fail
  refine (impl_isProcess _ _ _ _ _ _ ps ws _ _ _ pay _ (H.out.below hb13) (HA.out.below hb13) hnA).mono ?_
  rintro e w4 ⟨rfl, hb4⟩
  have HP4 := Lib.hid (HP3.out.below hb4)
  have HR4 := Lib.hid (HR3.out.below hb4)
  have e0 := HP4.out.c0
  have e1 := HP4.out.c1
  have hb14 := hb13.trans (hb4.mono hb13.size)
  clear d0 d1 hb4 HP3 HR3
  cases hp : procB ps.length pay
  · have Hv := Lib.hid (bb_no2 (num := num) (pays_no2 (ws := ws) hp))
    clear hp
    have q3 := HR4.out.c0
    have q4 := HR4.out.c1
    have q5 := HR4.out.f0
    have q6 := HR4.out.f1
    have hr := HR4.out.set (.int .i64 0) (.int .i64 0)
    go_wp2_with fail
    exact bodyPost_ret (v := .tuple #[.agg #[.int .i64 0, .int .i64 0], .bool false]) (by simp [results, Try.results40, go_sem, hr.1, hr.2]) rfl ⟨by rw [Hv.out]; rfl, (hb14.setCell (by simp) _).setCell (by simp) _⟩
  have HpA := Lib.hid (pays_both HT.out hp)
  have Hc := Lib.hid (bb_yes HbV.out HpA.out)
  clear hp
  obtain ⟨hTr, _, _, hleq, hlb⟩ := paysB_t HpA.out
  obtain ⟨_, _, _, hleq2, hlb2⟩ := paysB_t HpB.out
  have hnA' : nP = nA := by have := hal.out; have := Hl.out; omega
  have hnB' : nP = nB := by have := hbl.out; have := Hl.out; omega
  have HTr := Lib.hid hTr
  have Hlb := Lib.hid hlb
  have Hlb2 := Lib.hid hlb2
  clear hTr hleq hlb hleq2 hlb2 hnA hnB hpn hwn
  subst hnA'
  subst hnB'
  have HcB : Hid (∀ W : World, Below w.heap.size w W → Calls Try.prog 59 #[.agg #[.slice aP nP cP, .slice aW nW cW], .slice aA nP cA, .slice aB nP cB] W fun e w' => e = .returned (.tuple #[.agg #[.int .i64 (nm (bndS ps ws pay num) (nth (sums ps ws) 0)), .int .i64 (dn (bndS ps ws pay num) (nth (sums ps ws) 0))], .bool true]) ∧ Below W.heap.size W w') := Lib.hid fun W hW => impl_bound _ _ _ _ _ _ ps ws _ _ _ pay _ _ _ num W (H.out.below hW) HTr.out (HA.out.below hW) rfl (HB.out.below hW) rfl Hlb.out Hlb2.out
  generalize hgn : nm (bndS ps ws pay num) (nth (sums ps ws) 0) = gn at *
  generalize hgd : dn (bndS ps ws pay num) (nth (sums ps ws) 0) = gd at *
  have Hgn := Lib.hid hgn
  have Hgd := Lib.hid hgd
  clear hgn hgd
  go_wp2_with (go_at_call 59; refine (HcB.out _ hb14).mono ?_; rintro e w9 ⟨rfl, b9⟩
               have hb19 := hb14.trans (b9.mono hb14.size)
               have hR9 := HR4.out.below b9
               have q3 := hR9.c0
               have q4 := hR9.c1
               have q5 := hR9.f0
               have q6 := hR9.f1
               have hr := hR9.set (.int .i64 gn) (.int .i64 gd))
  exact bodyPost_ret (v := .tuple #[.agg #[.int .i64 gn, .int .i64 gd], .bool true]) (by simp [results, Try.results40, go_sem, hr.1, hr.2]) rfl ⟨by rw [Hc.out, ← Hgn.out, ← Hgd.out]; rfl, (hb19.setCell (by simp) _).setCell (by simp) _⟩
set_option maxRecDepth 100000 in
set_option maxHeartbeats 1000000 in
theorem spec_BalanceBound (aP : Option Addr) (nP cP : Nat) (aW : Option Addr) (nW cW : Nat) (ps ws : List Int) (aA : Option Addr) (nA cA : Nat) (pay : List Int) (aB : Option Addr) (nB cB : Nat) (num : List Int) (w : World) (h : Tre w aP nP cP aW nW cW ps ws) (hA : Ints w aA nA pay) (_hAc : aA = none → cA = 0) (hnA : nA ≤ 1048576) (hB : Ints w aB nB num) (_hBc : aB = none → cB = 0) (hnB : nB ≤ 1048576) :
    Calls Try.prog 39 #[.agg #[.slice aP nP cP, .slice aW nW cW], .slice aA nA cA, .slice aB nB cB] w fun e w' => e = .returned (.tuple #[.agg #[.int .i64 (boN (bbB ps ws pay num) ps ws pay num), .int .i64 (boD (bbB ps ws pay num) ps ws pay num)], .bool (bbB ps ws pay num)]) ∧ Below w.heap.size w w' := by
  have hl := h.p.1
  have hlw := h.w.1
  have hpn := h.pn
  have hwn := h.wn
  have hb1 := below_new w (.cells #[.slice aP nP cP, .slice aW nW cW] 28)
  have hP1 := Lib.hid (Pair.new w (.slice aP nP cP) (.slice aW nW cW) 28)
  have H := Lib.hid h
  have Hl := Lib.hid hl
  have Hlw := Lib.hid hlw
  clear h hl hlw
  have HA := Lib.hid hA
  have hal := Lib.hid hA.1
  have HB := Lib.hid hB
  have hbl := Lib.hid hB.1
  clear hA hB
  go_enter Try.func39, Try.ntmps39
  have hbb := hb1.trans ((below_new (w.alloc (.cells #[.slice aP nP cP, .slice aW nW cW] 28)) (.cells #[.int .i64 0, .int .i64 0] 34)).mono hb1.size)
  have hPP := Lib.hid (hP1.out.alloc (.cells #[.int .i64 0, .int .i64 0] 34))
  have hR1 := Pair.new (w.alloc (.cells #[.slice aP nP cP, .slice aW nW cW] 28)) (.int .i64 0) (.int .i64 0) 34
  rw [show (w.alloc (.cells #[.slice aP nP cP, .slice aW nW cW] 28)).heap.size = w.heap.size + 1 by simp] at hR1
  have HR1 := Lib.hid hR1
  have c0 := hPP.out.c0
  have c1 := hPP.out.c1
  clear hb1 hP1 hR1
  go_wp2_with fail
  generalize ((w.alloc (.cells #[.slice aP nP cP, .slice aW nW cW] 28)).alloc (.cells #[.int .i64 0, .int .i64 0] 34)) = w2 at *
  refine (spec_l4Pays _ _ _ _ _ _ ps ws _ _ _ pay _ (H.out.below hbb) (HA.out.below hbb) hnA).mono ?_
  rintro e w3 ⟨rfl, hb3⟩
  have HP3 := Lib.hid (hPP.out.below hb3)
  have HR3 := Lib.hid (HR1.out.below hb3)
  have d0 := HP3.out.c0
  have d1 := HP3.out.c1
  have hb13 := hbb.trans (hb3.mono hbb.size)
  clear c0 c1 hb3 hPP HR1 hbb
  cases hp : paysB ps ws pay
  · have Hv := Lib.hid (bb_no2 (num := num) hp)
    clear hp
    have q3 := HR3.out.c0
    have q4 := HR3.out.c1
    have q5 := HR3.out.f0
    have q6 := HR3.out.f1
    have hr := HR3.out.set (.int .i64 0) (.int .i64 0)
    go_wp2_with fail
    exact bodyPost_ret (v := .tuple #[.agg #[.int .i64 0, .int .i64 0], .bool false]) (by simp [results, Try.results39, go_sem, hr.1, hr.2]) rfl ⟨by rw [Hv.out]; rfl, (hb13.setCell (by simp) _).setCell (by simp) _⟩
  have HpA := Lib.hid hp
  clear hp
  go_wp2_with fail
  refine (spec_l4Pays _ _ _ _ _ _ ps ws _ _ _ num _ (H.out.below hb13) (HB.out.below hb13) hnB).mono ?_
  rintro e w4 ⟨rfl, hb4⟩
  have HP4 := Lib.hid (HP3.out.below hb4)
  have HR4 := Lib.hid (HR3.out.below hb4)
  have e0 := HP4.out.c0
  have e1 := HP4.out.c1
  have hb14 := hb13.trans (hb4.mono hb13.size)
  clear d0 d1 hb4 HP3 HR3
  cases hp : paysB ps ws num
  · have Hv := Lib.hid (bb_no3 (pay := pay) hp)
    clear hp
    have q3 := HR4.out.c0
    have q4 := HR4.out.c1
    have q5 := HR4.out.f0
    have q6 := HR4.out.f1
    have hr := HR4.out.set (.int .i64 0) (.int .i64 0)
    go_wp2_with fail
    exact bodyPost_ret (v := .tuple #[.agg #[.int .i64 0, .int .i64 0], .bool false]) (by simp [results, Try.results39, go_sem, hr.1, hr.2]) rfl ⟨by rw [Hv.out]; rfl, (hb14.setCell (by simp) _).setCell (by simp) _⟩
  have HpB := Lib.hid hp
  have Hbv := Lib.hid (balV_yes hp)
  clear hp
  obtain ⟨hTr, _, _, hleq, hlb⟩ := paysB_t HpA.out
  obtain ⟨_, _, _, hleq2, hlb2⟩ := paysB_t HpB.out
  have hnA' : nP = nA := by have := hal.out; have := Hl.out; omega
  have hnB' : nP = nB := by have := hbl.out; have := Hl.out; omega
  have HTr := Lib.hid hTr
  have Hlb := Lib.hid hlb
  have Hlb2 := Lib.hid hlb2
  clear hTr hleq hlb hleq2 hlb2 hnA hnB hpn hwn
  subst hnA'
  subst hnB'
  go_wp2_with fail
  refine (spec_l4Balanced _ _ _ _ _ _ ps ws _ _ _ num _ (H.out.below hb14) HTr.out (HB.out.below hb14) rfl Hlb2.out).mono ?_
  rintro e w5 ⟨rfl, hb5⟩
  have HP5 := Lib.hid (HP4.out.below hb5)
  have HR5 := Lib.hid (HR4.out.below hb5)
  have f0 := HP5.out.c0
  have f1 := HP5.out.c1
  have hb15 := hb14.trans (hb5.mono hb14.size)
  clear e0 e1 hb5 HP4 HR4
  cases hb : balB ps ws num
  · have Hv := Lib.hid (bb_no1 (pay := pay) (show balV ps ws num = false by rw [Hbv.out, hb]))
    clear hb
    have q3 := HR5.out.c0
    have q4 := HR5.out.c1
    have q5 := HR5.out.f0
    have q6 := HR5.out.f1
    have hr := HR5.out.set (.int .i64 0) (.int .i64 0)
    go_wp2_with fail
    exact bodyPost_ret (v := .tuple #[.agg #[.int .i64 0, .int .i64 0], .bool false]) (by simp [results, Try.results39, go_sem, hr.1, hr.2]) rfl ⟨by rw [Hv.out]; rfl, (hb15.setCell (by simp) _).setCell (by simp) _⟩
  have Hc := Lib.hid (bb_yes (show balV ps ws num = true by rw [Hbv.out, hb]) HpA.out)
  clear hb
  have HcB : Hid (∀ W : World, Below w.heap.size w W → Calls Try.prog 56 #[.agg #[.slice aP nP cP, .slice aW nW cW], .slice aA nP cA, .slice aB nP cB] W fun e w' => e = .returned (.agg #[.int .i64 (nm (bndS ps ws pay num) (nth (sums ps ws) 0)), .int .i64 (dn (bndS ps ws pay num) (nth (sums ps ws) 0))]) ∧ Below W.heap.size W w') := Lib.hid fun W hW => spec_l4Bound _ _ _ _ _ _ ps ws _ _ _ pay _ _ _ num W (H.out.below hW) HTr.out (HA.out.below hW) rfl (HB.out.below hW) rfl Hlb.out Hlb2.out
  generalize hgn : nm (bndS ps ws pay num) (nth (sums ps ws) 0) = gn at *
  generalize hgd : dn (bndS ps ws pay num) (nth (sums ps ws) 0) = gd at *
  have Hgn := Lib.hid hgn
  have Hgd := Lib.hid hgd
  clear hgn hgd
  go_wp2_with (go_at_call 56; refine (HcB.out _ hb15).mono ?_; rintro e w9 ⟨rfl, b9⟩
               have hb19 := hb15.trans (b9.mono hb15.size)
               have hR9 := HR5.out.below b9
               have q3 := hR9.c0
               have q4 := hR9.c1
               have q5 := hR9.f0
               have q6 := hR9.f1
               have hr := hR9.set (.int .i64 gn) (.int .i64 gd))
  exact bodyPost_ret (v := .tuple #[.agg #[.int .i64 gn, .int .i64 gd], .bool true]) (by simp [results, Try.results39, go_sem, hr.1, hr.2]) rfl ⟨by rw [Hc.out, ← Hgn.out, ← Hgd.out]; rfl, (hb19.setCell (by simp) _).setCell (by simp) _⟩
end Go.Proofs.Ytjkkfjipgomkdaa
