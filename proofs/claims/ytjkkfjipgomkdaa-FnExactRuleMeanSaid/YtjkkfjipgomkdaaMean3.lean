/- Contracts: the mean of a rule, by the reference. -/
import Derived.Test.YtjkkfjipgomkdaaMean2
namespace Go.Proofs.Ytjkkfjipgomkdaa
open Go.RowKit

set_option maxRecDepth 100000 in
set_option maxHeartbeats 2000000 in
theorem spec_RuleMean (aP : Option Addr) (nP cP : Nat) (aW : Option Addr) (nW cW : Nat) (ps ws : List Int) (aL : Option Addr) (nL cL : Nat) (l : List Int) (aS : Option Addr) (nS cS : Nat) (rule : List Int) (w : World) (h : Tre w aP nP cP aW nW cW ps ws) (hL : Ints w aL nL l) (_hLc : aL = none → cL = 0) (hn : nL ≤ 1048576) (hS : Ints w aS nS rule) (_hSc : aS = none → cS = 0) (hnS : nS ≤ 1048576) :
    Calls Try.prog 41 #[.agg #[.slice aP nP cP, .slice aW nW cW], .slice aL nL cL, .slice aS nS cS] w fun e w' => e = .returned (.tuple #[.agg #[.int .i64 (rmN ps ws l rule), .int .i64 (rmD ps ws l rule)], .bool (rmB ps ws l rule)]) ∧ Below w.heap.size w w' := by
  have HS := Lib.hid hS
  have hSl := Lib.hid hS.1
  clear hS
  have hl := h.p.1
  have hlw := h.w.1
  have hpn := h.pn
  have hwn := h.wn
  have hb1 := below_new w (.cells #[.slice aP nP cP, .slice aW nW cW] 28)
  have hP1 := Lib.hid (Pair.new w (.slice aP nP cP) (.slice aW nW cW) 28)
  have H := Lib.hid h
  have Hl := Lib.hid hl
  have Hlw := Lib.hid hlw
  clear h hl hlw
  have HL := Lib.hid hL
  have hll := Lib.hid hL.1
  clear hL
  have hlt2 := hP1.out.lt
  go_enter Try.func41, Try.ntmps41
  have hbb := hb1.trans ((below_new (w.alloc (.cells #[.slice aP nP cP, .slice aW nW cW] 28)) (.cells #[.int .i64 0, .int .i64 0] 34)).mono hb1.size)
  have hPP := Lib.hid (hP1.out.alloc (.cells #[.int .i64 0, .int .i64 0] 34))
  have hR1 := Pair.new (w.alloc (.cells #[.slice aP nP cP, .slice aW nW cW] 28)) (.int .i64 0) (.int .i64 0) 34
  rw [show (w.alloc (.cells #[.slice aP nP cP, .slice aW nW cW] 28)).heap.size = w.heap.size + 1 by simp] at hR1
  have HR1 := Lib.hid hR1
  have c0 := hPP.out.c0
  have c1 := hPP.out.c1
  clear hb1 hP1 hlt2 hR1
  go_wp2_with fail
  generalize ((w.alloc (.cells #[.slice aP nP cP, .slice aW nW cW] 28)).alloc (.cells #[.int .i64 0, .int .i64 0] 34)) = w2 at *
  have hlt2 := hPP.out.lt
  refine (spec_l4Pays _ _ _ _ _ _ ps ws _ _ _ l _ (H.out.below hbb) (HL.out.below hbb) hn).mono ?_
  rintro e w3 ⟨rfl, hb3⟩
  have hP3 := hPP.out.below hb3
  have d0 := hP3.c0
  have d1 := hP3.c1
  have HP := Lib.hid hP3
  have HR := Lib.hid (HR1.out.below hb3)
  have hb13 := hbb.trans (hb3.mono hbb.size)
  clear hP3 hb3 c0 c1 HR1 hPP hbb
  cases hT : paysB ps ws l
  · have Hno := Lib.hid hT
    clear hT
    have p3 := HR.out
    have q3 := p3.c0
    have q4 := p3.c1
    have q5 := p3.f0
    have q6 := p3.f1
    have hr := p3.set (.int .i64 0) (.int .i64 0)
    clear p3
    go_wp2_with fail
    exact bodyPost_ret (v := .tuple #[.agg #[.int .i64 0, .int .i64 0], .bool false]) (by simp [results, Try.results41, go_sem, hr.1, hr.2]) rfl ⟨by obtain ⟨z1, z2⟩ := rm_no (rule := rule) (rmB_no1 (rule := rule) Hno.out); rw [z1, z2, rmB_no1 Hno.out], (hb13.setCell (by simp) _).setCell (by simp) _⟩
  have Hpays := Lib.hid hT
  have hpt := paysB_t hT
  have hTr := hpt.1
  have hn24 := hTr.n24
  have hn1 := hTr.n1
  have hnL : nP = nL := by have := hll.out; have := hpt.2.2.2.1; have := Hl.out; omega
  have hnW : nP = nW := by have := Hlw.out; have := hTr.wl; have := Hl.out; omega
  have hnP : 1 ≤ nP ∧ nP ≤ 24 := by have := Hl.out; omega
  have Hpp := Lib.hid hpt.2.2.2.2
  have HTr := Lib.hid hTr
  have HnW := Lib.hid hnW
  have hnW2 : nP ≤ nW := by omega
  clear hT hpt hn24 hn1 hTr hpn hwn hnW
  subst hnL
  go_wp2_with fail
  refine (spec_l4Rule _ _ _ _ _ _ ps ws _ _ _ rule _ (H.out.below hb13) HTr.out.toPa (HS.out.below hb13) hnS).mono ?_
  rintro e w5 ⟨rfl, b5⟩
  rw [rule_stop HTr.out.toPa]
  have hb15 := hb13.trans (b5.mono hb13.size)
  have HP5 := Lib.hid (HP.out.below b5)
  have HR5 := Lib.hid (HR.out.below b5)
  clear HP HR d0 d1 b5
  have HR := HR5
  clear HR5
  cases hst : stopB ps rule
  · have Hno := Lib.hid (rmB_no2 (ws := ws) (l := l) hst)
    clear hst
    have p3 := HR.out
    have q3 := p3.c0
    have q4 := p3.c1
    have q5 := p3.f0
    have q6 := p3.f1
    have hr := p3.set (.int .i64 0) (.int .i64 0)
    clear p3
    go_wp2_with fail
    exact bodyPost_ret (v := .tuple #[.agg #[.int .i64 0, .int .i64 0], .bool false]) (by simp [results, Try.results41, go_sem, hr.1, hr.2]) rfl ⟨by obtain ⟨z1, z2⟩ := rm_no (id Hno.out); rw [z1, z2, id Hno.out], (hb15.setCell (by simp) _).setCell (by simp) _⟩
  have Hst := Lib.hid hst
  have hgb := rmB_yes Hpays.out hst
  obtain ⟨z1, z2⟩ := rm_yes hgb
  have Hgb := Lib.hid hgb
  have Hmean : Hid (∀ W, Below w.heap.size w W → Calls Try.prog 79 #[.agg #[.slice aP nP cP, .slice aW nW cW], .slice aL nP cL, .slice aS nS cS] W fun e w' => e = .returned (.agg #[.int .i64 (rmN ps ws l rule), .int .i64 (rmD ps ws l rule)]) ∧ Below W.heap.size W w') := Lib.hid fun W hW => by
    rw [z1, z2]
    exact spec_l4Mean _ _ _ _ _ _ ps ws _ _ _ l _ _ _ rule _ (H.out.below hW) HTr.out (HL.out.below hW) Hpp.out rfl (HS.out.below hW) Hst.out
  clear hst hgb z1 z2
  generalize hgn : rmN ps ws l rule = gn at *
  generalize hgd : rmD ps ws l rule = gd at *
  have Hgn := Lib.hid hgn
  have Hgd := Lib.hid hgd
  clear hgn hgd
  have d0 := HP5.out.c0
  have d1 := HP5.out.c1
  go_wp2_with (go_at_call 79; refine (Hmean.out _ hb15).mono ?_; rintro e w9 ⟨rfl, b9⟩
               have hb9 := hb15.trans (b9.mono hb15.size)
               have hR9 := HR.out.below b9
               have q3 := hR9.c0
               have q4 := hR9.c1
               have q5 := hR9.f0
               have q6 := hR9.f1
               have hr := hR9.set (.int .i64 gn) (.int .i64 gd))
  exact bodyPost_ret (v := .tuple #[.agg #[.int .i64 gn, .int .i64 gd], .bool true]) (by simp [results, Try.results41, go_sem, hr.1, hr.2]) rfl ⟨by rw [Hgb.out, Hgn.out, Hgd.out], (hb9.setCell (by simp) _).setCell (by simp) _⟩
end Go.Proofs.Ytjkkfjipgomkdaa
