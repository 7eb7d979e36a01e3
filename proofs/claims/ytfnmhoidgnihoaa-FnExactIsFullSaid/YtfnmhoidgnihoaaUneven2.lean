/- Contracts: uneven nodes, full markets, by the reference; full markets by the program. -/
import Derived.Test.YtfnmhoidgnihoaaSides
namespace Go.Proofs.Ytfnmhoidgnihoaa
open Go.RowKit

set_option maxRecDepth 100000 in
set_option maxHeartbeats 2000000 in
theorem spec_l6Uneven (aP : Option Addr) (nP cP : Nat) (aW : Option Addr) (nW cW : Nat) (aL : Option Addr) (nL cL : Nat) (ps ws l : List Int) (w : World) (h : Mkt w aP nP cP aW nW cW aL nL cL ps ws l) (hT : Tr ps ws) (hnl : nL = ps.length) :
    Calls Try.prog 69 #[.agg #[.slice aP nP cP, .slice aW nW cW, .slice aL nL cL]] w fun e w' => e = .returned (.int .i64 (unevI ps l)) ∧ Below w.heap.size w w' := by
  have HTr := Lib.hid hT
  have Hnl := Lib.hid hnl
  clear hnl hT
  have hl := h.t.p.1
  have hlw := h.t.w.1
  have hll := h.l.1
  have hpn := h.t.pn
  have hwn := h.t.wn
  have hln := h.ln
  have hb1 := below_new w (.cells #[.slice aP nP cP, .slice aW nW cW, .slice aL nL cL] 31)
  have hX1 := Lib.hid (Trip.new w (.slice aP nP cP) (.slice aW nW cW) (.slice aL nL cL) 31)
  have H := Lib.hid h
  have Hl := Lib.hid hl
  have Hlw := Lib.hid hlw
  have Hll := Lib.hid hll
  clear h hl hlw hll
  have hLP : nL ≤ nP ∧ nP ≤ nL := by have := Hnl.out; have := Hl.out; omega
  have hn24 := HTr.out.n24
  have hnP : nP ≤ 24 := by have := Hl.out; omega
  clear hn24 hpn hwn hln
  have c2 := hX1.out.c2
  have hb2 := hb1
  go_enter Try.func69, Try.ntmps69
  go_wp2_with fail
  have HX2 := Lib.hid hX1.out
  clear hX1 c2 hb1
  generalize (w.alloc (.cells #[.slice aP nP cP, .slice aW nW cW, .slice aL nL cL] 31)) = w2 at *
  go_loopw [3] (fun v3 wr => ∃ k : Nat, k ≤ nL ∧ v3 = .int .i64 (k : Int) ∧ (∀ j, j < k → unevB ps l j = false) ∧ Trip wr w.heap.size (.slice aP nP cP) (.slice aW nW cW) (.slice aL nL cL) ∧ Below w.heap.size w wr) (fun v3 _ => nL - (intOf v3).toNat)
  case atStart => exact ⟨0, Nat.zero_le _, rfl, (fun j hj => by omega), HX2.out, hb2⟩
  case round =>
    clear HX2 hb2
    obtain ⟨k, hk, rfl, hall, hX, hbel⟩ := hrel
    have Hall := Lib.hid hall
    have c0 := hX.c0
    have c1 := hX.c1
    have c2 := hX.c2
    have HX := Lib.hid hX
    clear hall hX
    by_cases hlt : (k : Int) < nL
    · skip
      go_wp2_with fail
      refine (spec_l6Sides _ _ _ _ _ _ _ _ _ ps ws l k _ (H.out.below hbel) HTr.out Hnl.out (by omega)).mono ?_
      rintro e w5 ⟨rfl, b5⟩
      have Hdef : Hid (unevB ps l k = (decide ((nLess ps l k : Int) > 0) != decide ((nMore ps l k : Int) > 0))) := Lib.hid rfl
      have hnk := nKids ps l k
      have hn3 : nLess ps l k ≤ 24 ∧ nSame ps l k ≤ 24 ∧ nMore ps l k ≤ 24 := by have := Hl.out; omega
      have hX5 := HX.out.below b5
      have hbel5' := hbel.trans (b5.mono hbel.size)
      clear HX hbel b5 c0 c1 c2 hnk
      generalize nLess ps l k = na at *
      generalize nMore ps l k = nb at *
      generalize nSame ps l k = ns at *
      have hbn := below_new w5 (.cells #[.int .i64 (na : Int), .int .i64 (ns : Int), .int .i64 (nb : Int)] 80)
      have tn := Trip.new w5 (.int .i64 (na : Int)) (.int .i64 (ns : Int)) (.int .i64 (nb : Int)) 80
      have HX5 := Lib.hid (hX5.below hbn)
      have hbel5 := hbel5'.trans (hbn.mono hbel5'.size)
      go_upto_region 5 with fail
      clear hX5 hbel5' hbn
      generalize (w5.alloc (.cells #[.int .i64 (na : Int), .int .i64 (ns : Int), .int .i64 (nb : Int)] 80)) = w6 at *
      have q0 := tn.c0
      have q1 := tn.c1
      have q2 := tn.c2
      clear tn
      by_cases ha : (na : Int) > 0
      · by_cases hb : (nb : Int) > 0
        · skip
          have Hu : Hid (unevB ps l k = false) := Lib.hid (by rw [Hdef.out, decide_eq_true ha, decide_eq_true hb]; rfl)
          have ha2 : 0 < na := by omega
          have ha3 : (na : Int) ≠ 0 := by omega
          have hb2 : 0 < nb := by omega
          have hb3 : (nb : Int) ≠ 0 := by omega
          go_wp2_with fail
          go_roundw
          case rel => exact ⟨k + 1, by omega, by go_num, (fun j hj => by
            by_cases e : j = k
            · subst e; exact Hu.out
            · exact Hall.out j (by omega)), HX5.out, hbel5⟩
          case measure => simp [intOf]; omega
        · skip
          have Hu : Hid (unevB ps l k = true) := Lib.hid (by rw [Hdef.out, decide_eq_true ha, decide_eq_false hb]; rfl)
          have ha2 : 0 < na := by omega
          have ha3 : (na : Int) ≠ 0 := by omega
          obtain rfl : nb = 0 := by omega
          go_wp2_with fail
          go_ret
          exact ⟨ri (by rw [unevI]; exact (firstU_at (by have := Hl.out; omega) Hall.out Hu.out).symm), hbel5⟩
      · by_cases hb : (nb : Int) > 0
        · skip
          have Hu : Hid (unevB ps l k = true) := Lib.hid (by rw [Hdef.out, decide_eq_false ha, decide_eq_true hb]; rfl)
          obtain rfl : na = 0 := by omega
          have hb2 : 0 < nb := by omega
          have hb3 : (nb : Int) ≠ 0 := by omega
          go_wp2_with fail
          go_ret
          exact ⟨ri (by rw [unevI]; exact (firstU_at (by have := Hl.out; omega) Hall.out Hu.out).symm), hbel5⟩
        · skip
          have Hu : Hid (unevB ps l k = false) := Lib.hid (by rw [Hdef.out, decide_eq_false ha, decide_eq_false hb]; rfl)
          obtain rfl : na = 0 := by omega
          obtain rfl : nb = 0 := by omega
          go_wp2_with fail
          go_roundw
          case rel => exact ⟨k + 1, by omega, by go_num, (fun j hj => by
            by_cases e : j = k
            · subst e; exact Hu.out
            · exact Hall.out j (by omega)), HX5.out, hbel5⟩
          case measure => simp [intOf]; omega
    · obtain rfl : k = nL := by omega
      have Hv : Hid (unevI ps l = -1) := Lib.hid (by rw [unevI]; exact firstU_none fun i hi => Hall.out i (by have := Hnl.out; omega))
      go_wp2_with fail
      go_ret
      exact ⟨ri Hv.out.symm, hbel⟩
set_option maxRecDepth 100000 in
set_option maxHeartbeats 1000000 in
theorem spec_UnevenNode (aP : Option Addr) (nP cP : Nat) (aW : Option Addr) (nW cW : Nat) (aL : Option Addr) (nL cL : Nat) (ps ws l : List Int) (w : World) (h : Mkt w aP nP cP aW nW cW aL nL cL ps ws l) :
    Calls Try.prog 34 #[.agg #[.slice aP nP cP, .slice aW nW cW, .slice aL nL cL]] w fun e w' => e = .returned (.tuple #[.int .i64 (unI ps ws l), .bool (unB ps ws l)]) ∧ Below w.heap.size w w' := by
  have hl := h.t.p.1
  have hlw := h.t.w.1
  have hll := h.l.1
  have hpn := h.t.pn
  have hwn := h.t.wn
  have hln := h.ln
  have hb1 := below_new w (.cells #[.slice aP nP cP, .slice aW nW cW, .slice aL nL cL] 31)
  have hX1 := Lib.hid (Trip.new w (.slice aP nP cP) (.slice aW nW cW) (.slice aL nL cL) 31)
  have H := Lib.hid h
  have Hl := Lib.hid hl
  have Hlw := Lib.hid hlw
  have Hll := Lib.hid hll
  clear h hl hlw hll
  have c0 := hX1.out.c0
  have c1 := hX1.out.c1
  have c2 := hX1.out.c2
  go_enter Try.func34, Try.ntmps34
  go_wp2_with fail
  generalize (w.alloc (.cells #[.slice aP nP cP, .slice aW nW cW, .slice aL nL cL] 31)) = w2 at *
  refine (spec_l6Market _ _ _ _ _ _ _ _ _ ps ws l _ (H.out.below hb1)).mono ?_
  rintro e w3 ⟨rfl, hb3⟩
  have hX3 := hX1.out.below hb3
  have d0 := hX3.c0
  have d1 := hX3.c1
  have d2 := hX3.c2
  have HX3 := Lib.hid hX3
  have hb13 := hb1.trans (hb3.mono hb1.size)
  clear hX1 hX3 c0 c1 c2 hb3
  cases hM : mktB ps ws l
  · obtain ⟨z1, z2⟩ := un_no1 hM
    have Hz1 := Lib.hid z1
    have Hz2 := Lib.hid z2
    clear hM z1 z2
    go_wp2_with fail
    go_ret2
    exact ⟨by rw [unI_no Hz1.out, Hz1.out]; rfl, hb13⟩
  have HM := Lib.hid hM
  have hmt := mktB_t hM
  have HTr := Lib.hid hmt.1
  have Hnl2 : Hid (nL = ps.length) := Lib.hid (by rw [← Hll.out]; exact hmt.2.1)
  clear hM hmt hpn hwn hln
  go_wp2_with fail
  refine (spec_l6Uneven _ _ _ _ _ _ _ _ _ ps ws l _ (H.out.below hb13) HTr.out Hnl2.out).mono ?_
  rintro e w4 ⟨rfl, b4⟩
  have hb14 := hb13.trans (b4.mono hb13.size)
  have hX4 := HX3.out.below b4
  have e0 := hX4.c0
  have e1 := hX4.c1
  have e2 := hX4.c2
  have HX4 := Lib.hid hX4
  have hun := fun h : unevI ps l < 0 => un_neg HM.out h
  have hup := fun h : ¬ unevI ps l < 0 => un_pos HM.out h
  have Hcall : Hid (∀ W : World, Below w.heap.size w W → Calls Try.prog 69 #[.agg #[.slice aP nP cP, .slice aW nW cW, .slice aL nL cL]] W fun e w' => e = .returned (.int .i64 (unevI ps l)) ∧ Below W.heap.size W w') := Lib.hid fun W hW => spec_l6Uneven _ _ _ _ _ _ _ _ _ ps ws l W (H.out.below hW) HTr.out Hnl2.out
  generalize hU : unevI ps l = U at *
  have HU := Lib.hid hU
  clear d0 d1 d2 HX3 b4 hU hX4
  by_cases hneg : U < 0
  · obtain ⟨z1, z2⟩ := hun hneg
    have Hz1 := Lib.hid z1
    have Hz2 := Lib.hid z2
    clear z1 z2 hun hup
    go_wp2_with fail
    go_ret2
    exact ⟨by rw [unI_no Hz1.out, Hz1.out]; rfl, hb14⟩
  · obtain ⟨z1, z2⟩ := hup hneg
    have Hz1 := Lib.hid z1
    have Hz2 := Lib.hid z2
    clear z1 z2 hun hup
    go_wp2_with fail
    refine (Hcall.out _ hb14).mono ?_
    rintro e w5 ⟨rfl, b5⟩
    go_wp2_with fail
    go_ret2
    exact ⟨by rw [unI_yes Hz1.out, Hz1.out, HU.out]; rfl, hb14.trans (b5.mono hb14.size)⟩
set_option maxRecDepth 100000 in
set_option maxHeartbeats 1000000 in
theorem spec_l6Sound (aP : Option Addr) (nP cP : Nat) (aW : Option Addr) (nW cW : Nat) (aL : Option Addr) (nL cL : Nat) (ps ws l : List Int) (w : World) (h : Mkt w aP nP cP aW nW cW aL nL cL ps ws l) :
    Calls Try.prog 76 #[.agg #[.slice aP nP cP, .slice aW nW cW, .slice aL nL cL]] w fun e w' => e = .returned (.bool (sndB ps ws l)) ∧ Below w.heap.size w w' := by
  have hl := h.t.p.1
  have hlw := h.t.w.1
  have hll := h.l.1
  have hpn := h.t.pn
  have hwn := h.t.wn
  have hln := h.ln
  have hb1 := below_new w (.cells #[.slice aP nP cP, .slice aW nW cW, .slice aL nL cL] 31)
  have hX1 := Lib.hid (Trip.new w (.slice aP nP cP) (.slice aW nW cW) (.slice aL nL cL) 31)
  have H := Lib.hid h
  have Hl := Lib.hid hl
  have Hlw := Lib.hid hlw
  have Hll := Lib.hid hll
  clear h hl hlw hll
  have c0 := hX1.out.c0
  have c1 := hX1.out.c1
  have c2 := hX1.out.c2
  go_enter Try.func76, Try.ntmps76
  go_wp2_with fail
  generalize (w.alloc (.cells #[.slice aP nP cP, .slice aW nW cW, .slice aL nL cL] 31)) = w2 at *
  refine (spec_l6Market _ _ _ _ _ _ _ _ _ ps ws l _ (H.out.below hb1)).mono ?_
  rintro e w3 ⟨rfl, hb3⟩
  have hX3 := hX1.out.below hb3
  have d0 := hX3.c0
  have d1 := hX3.c1
  have d2 := hX3.c2
  have HX3 := Lib.hid hX3
  have hb13 := hb1.trans (hb3.mono hb1.size)
  clear hX1 hX3 c0 c1 c2 hb3
  cases hM : mktB ps ws l
  · obtain ⟨z1, z2⟩ := un_no1 hM
    have Hz1 := Lib.hid z1
    have Hz2 := Lib.hid z2
    clear hM z1 z2
    go_wp2_with fail
    go_ret
    exact ⟨by rw [Hz2.out]; rfl, hb13⟩
  have HM := Lib.hid hM
  have hmt := mktB_t hM
  have HTr := Lib.hid hmt.1
  have Hnl2 : Hid (nL = ps.length) := Lib.hid (by rw [← Hll.out]; exact hmt.2.1)
  clear hM hmt hpn hwn hln
  go_wp2_with fail
  refine (spec_l6Uneven _ _ _ _ _ _ _ _ _ ps ws l _ (H.out.below hb13) HTr.out Hnl2.out).mono ?_
  rintro e w4 ⟨rfl, b4⟩
  have hb14 := hb13.trans (b4.mono hb13.size)
  have hX4 := HX3.out.below b4
  have e0 := hX4.c0
  have e1 := hX4.c1
  have e2 := hX4.c2
  have HX4 := Lib.hid hX4
  have hun := fun h : unevI ps l < 0 => un_neg HM.out h
  have hup := fun h : ¬ unevI ps l < 0 => un_pos HM.out h
  have Hcall : Hid (∀ W : World, Below w.heap.size w W → Calls Try.prog 69 #[.agg #[.slice aP nP cP, .slice aW nW cW, .slice aL nL cL]] W fun e w' => e = .returned (.int .i64 (unevI ps l)) ∧ Below W.heap.size W w') := Lib.hid fun W hW => spec_l6Uneven _ _ _ _ _ _ _ _ _ ps ws l W (H.out.below hW) HTr.out Hnl2.out
  generalize hU : unevI ps l = U at *
  have HU := Lib.hid hU
  clear d0 d1 d2 HX3 b4 hU hX4
  by_cases hneg : U < 0
  · obtain ⟨z1, z2⟩ := hun hneg
    have Hz1 := Lib.hid z1
    have Hz2 := Lib.hid z2
    clear z1 z2 hun hup
    go_wp2_with fail
    go_ret
    exact ⟨by rw [Hz2.out]; first | rfl | exact rb (decide_eq_true hneg), hb14⟩
  · obtain ⟨z1, z2⟩ := hup hneg
    have Hz1 := Lib.hid z1
    have Hz2 := Lib.hid z2
    clear z1 z2 hun hup
    go_wp2_with fail
    go_ret
    exact ⟨by rw [Hz2.out]; first | rfl | exact rb (decide_eq_false (by omega)), hb14⟩
set_option maxRecDepth 100000 in
set_option maxHeartbeats 2000000 in
theorem spec_IsFull (aP : Option Addr) (nP cP : Nat) (aW : Option Addr) (nW cW : Nat) (aL : Option Addr) (nL cL : Nat) (ps ws l : List Int) (w : World) (h : Mkt w aP nP cP aW nW cW aL nL cL ps ws l) :
    Calls Try.prog 41 #[.agg #[.slice aP nP cP, .slice aW nW cW, .slice aL nL cL]] w fun e w' => e = .returned (.tuple #[.bool (fullV ps ws l), .bool (sndB ps ws l)]) ∧ Below w.heap.size w w' := by
  have hl := h.t.p.1
  have hlw := h.t.w.1
  have hll := h.l.1
  have hpn := h.t.pn
  have hwn := h.t.wn
  have hln := h.ln
  have hb1 := below_new w (.cells #[.slice aP nP cP, .slice aW nW cW, .slice aL nL cL] 31)
  have hX1 := Lib.hid (Trip.new w (.slice aP nP cP) (.slice aW nW cW) (.slice aL nL cL) 31)
  have H := Lib.hid h
  have Hl := Lib.hid hl
  have Hlw := Lib.hid hlw
  have Hll := Lib.hid hll
  clear h hl hlw hll
  have c0 := hX1.out.c0
  have c1 := hX1.out.c1
  have c2 := hX1.out.c2
  go_enter Try.func41, Try.ntmps41
  go_wp2_with fail
  generalize (w.alloc (.cells #[.slice aP nP cP, .slice aW nW cW, .slice aL nL cL] 31)) = w2 at *
  refine (spec_l6Sound _ _ _ _ _ _ _ _ _ ps ws l _ (H.out.below hb1)).mono ?_
  rintro e w3 ⟨rfl, hb3⟩
  have hX3 := hX1.out.below hb3
  have d2 := hX3.c2
  have HX2 := Lib.hid hX3
  have hb2 := hb1.trans (hb3.mono hb1.size)
  clear hX1 hX3 c0 c1 c2 hb3 hb1
  cases hM : sndB ps ws l
  · have Hno := Lib.hid (fullV_no hM)
    have Hz := Lib.hid hM
    clear hM
    go_wp2_with fail
    go_ret2
    exact ⟨by rw [Hno.out, Hz.out]; rfl, hb2⟩
  have HS := Lib.hid hM
  have hmk : mktB ps ws l = true := by
    have := hM
    simp only [sndB, Bool.and_eq_true] at this
    exact this.1
  have hmt := mktB_t hmk
  have HTr := Lib.hid hmt.1
  have Hnl : Hid (nL = ps.length) := Lib.hid (by rw [← Hll.out]; exact hmt.2.1)
  have hLP : nL ≤ nP ∧ nP ≤ nL := by have := Hnl.out; have := Hl.out; omega
  have hn24 := hmt.1.n24
  have hnP : nP ≤ 24 := by have := Hl.out; omega
  clear hM hmt hmk hpn hwn hln hn24
  go_wp2_with fail
  clear d2
  go_loopw [4] (fun v4 wr => ∃ k : Nat, k ≤ nL ∧ v4 = .int .i64 (k : Int) ∧ (∀ j, j < k → fullX ps l j = true) ∧ Trip wr w.heap.size (.slice aP nP cP) (.slice aW nW cW) (.slice aL nL cL) ∧ Below w.heap.size w wr) (fun v4 _ => nL - (intOf v4).toNat)
  case atStart => exact ⟨0, Nat.zero_le _, rfl, (fun j hj => by omega), HX2.out, hb2⟩
  case round =>
    clear HX2 hb2
    obtain ⟨k, hk, rfl, hall, hX, hbel⟩ := hrel
    have Hall := Lib.hid hall
    have c0 := hX.c0
    have c1 := hX.c1
    have c2 := hX.c2
    have HX := Lib.hid hX
    clear hall hX
    by_cases hlt : (k : Int) < nL
    · skip
      go_wp2_with fail
      refine (spec_l6Sides _ _ _ _ _ _ _ _ _ ps ws l k _ (H.out.below hbel) HTr.out Hnl.out (by omega)).mono ?_
      rintro e w5 ⟨rfl, b5⟩
      have Hdef : Hid (fullX ps l k = !(decide ((nLess ps l k : Int) > 1) || (decide ((nMore ps l k : Int) > 1) || (decide ((nSame ps l k : Int) > 0) && decide ((nLess ps l k : Int) + (nSame ps l k : Int) + (nMore ps l k : Int) > 1))))) := Lib.hid rfl
      have hnk := nKids ps l k
      have hn3 : nLess ps l k ≤ 24 ∧ nSame ps l k ≤ 24 ∧ nMore ps l k ≤ 24 := by have := Hl.out; omega
      have hX5 := HX.out.below b5
      have hbel5' := hbel.trans (b5.mono hbel.size)
      clear HX hbel b5 c0 c1 c2 hnk
      generalize nLess ps l k = na at *
      generalize nMore ps l k = nb at *
      generalize nSame ps l k = ns at *
      have hbn := below_new w5 (.cells #[.int .i64 (na : Int), .int .i64 (ns : Int), .int .i64 (nb : Int)] 80)
      have tn := Trip.new w5 (.int .i64 (na : Int)) (.int .i64 (ns : Int)) (.int .i64 (nb : Int)) 80
      have HX5 := Lib.hid (hX5.below hbn)
      have hbel5 := hbel5'.trans (hbn.mono hbel5'.size)
      go_upto_region 7 with fail
      clear hX5 hbel5' hbn
      generalize (w5.alloc (.cells #[.int .i64 (na : Int), .int .i64 (ns : Int), .int .i64 (nb : Int)] 80)) = w6 at *
      have q0 := tn.c0
      have q1 := tn.c1
      have q2 := tn.c2
      clear tn
      by_cases ha : (na : Int) > 1
      · skip
        have ha2 : 1 < na := by omega
        have Hu : Hid (fullX ps l k = false) := Lib.hid (by rw [Hdef.out, decide_eq_true ha]; rfl)
        go_wp2_with fail
        go_ret2
        exact ⟨by rw [fullV_bad (ws := ws) (x := k) (by have := Hl.out; omega) Hu.out, HS.out]; rfl, hbel5⟩
      · have ha2 : ¬ 1 < na := by omega
        by_cases hb : (nb : Int) > 1
        · have hb2 : 1 < nb := by omega
          have Hu : Hid (fullX ps l k = false) := Lib.hid (by rw [Hdef.out, decide_eq_false ha, decide_eq_true hb]; rfl)
          go_wp2_with fail
          go_ret2
          exact ⟨by rw [fullV_bad (ws := ws) (x := k) (by have := Hl.out; omega) Hu.out, HS.out]; rfl, hbel5⟩
        · have hb2 : ¬ 1 < nb := by omega
          by_cases hs : (ns : Int) > 0
          · have hs2 : 0 < ns := by omega
            by_cases ht : (na : Int) + (ns : Int) + (nb : Int) > 1
            · skip
              have Hu : Hid (fullX ps l k = false) := Lib.hid (by rw [Hdef.out, decide_eq_false ha, decide_eq_false hb, decide_eq_true hs, decide_eq_true ht]; rfl)
              go_wp2_with fail
              go_ret2
              exact ⟨by rw [fullV_bad (ws := ws) (x := k) (by have := Hl.out; omega) Hu.out, HS.out]; rfl, hbel5⟩
            · skip
              have Hu : Hid (fullX ps l k = true) := Lib.hid (by rw [Hdef.out, decide_eq_false ha, decide_eq_false hb, decide_eq_true hs, decide_eq_false ht]; rfl)
              go_wp2_with fail
              go_roundw
              case rel => exact ⟨k + 1, by omega, by go_num, (fun j hj => by
                by_cases e : j = k
                · subst e; exact Hu.out
                · exact Hall.out j (by omega)), HX5.out, hbel5⟩
              case measure => simp [intOf]; omega
          · obtain rfl : ns = 0 := by omega
            have Hu : Hid (fullX ps l k = true) := Lib.hid (by rw [Hdef.out, decide_eq_false ha, decide_eq_false hb, decide_eq_false hs]; rfl)
            go_wp2_with fail
            go_roundw
            case rel => exact ⟨k + 1, by omega, by go_num, (fun j hj => by
              by_cases e : j = k
              · subst e; exact Hu.out
              · exact Hall.out j (by omega)), HX5.out, hbel5⟩
            case measure => simp [intOf]; omega
    · obtain rfl : k = nL := by omega
      have Hv := Lib.hid (fullV_yes HS.out fun x hx => Hall.out x (by have := Hnl.out; omega))
      go_wp2_with fail
      go_ret2
      exact ⟨by rw [Hv.out, HS.out]; rfl, hbel⟩
set_option maxRecDepth 100000 in
set_option maxHeartbeats 2000000 in
theorem impl_IsFull (aP : Option Addr) (nP cP : Nat) (aW : Option Addr) (nW cW : Nat) (aL : Option Addr) (nL cL : Nat) (ps ws l : List Int) (w : World) (h : Mkt w aP nP cP aW nW cW aL nL cL ps ws l) :
    Calls Try.prog 42 #[.agg #[.slice aP nP cP, .slice aW nW cW, .slice aL nL cL]] w fun e w' => e = .returned (.tuple #[.bool (fullV ps ws l), .bool (sndB ps ws l)]) ∧ Below w.heap.size w w' := by
  have hl := h.t.p.1
  have hlw := h.t.w.1
  have hll := h.l.1
  have hpn := h.t.pn
  have hwn := h.t.wn
  have hln := h.ln
  have hb1 := below_new w (.cells #[.slice aP nP cP, .slice aW nW cW, .slice aL nL cL] 31)
  have hX1 := Lib.hid (Trip.new w (.slice aP nP cP) (.slice aW nW cW) (.slice aL nL cL) 31)
  have H := Lib.hid h
  have Hl := Lib.hid hl
  have Hlw := Lib.hid hlw
  have Hll := Lib.hid hll
  clear h hl hlw hll
  have c0 := hX1.out.c0
  have c1 := hX1.out.c1
  have c2 := hX1.out.c2
  go_enter Try.func42, Try.ntmps42
  go_wp2_with fail
  generalize (w.alloc (.cells #[.slice aP nP cP, .slice aW nW cW, .slice aL nL cL] 31)) = w2 at *
  refine (impl_soundMarket _ _ _ _ _ _ _ _ _ ps ws l _ (H.out.below hb1)).mono ?_
  rintro e w3 ⟨rfl, hb3⟩
  have hX3 := hX1.out.below hb3
  have d2 := hX3.c2
  have HX2 := Lib.hid hX3
  have hb2 := hb1.trans (hb3.mono hb1.size)
  clear hX1 hX3 c0 c1 c2 hb3 hb1
  cases hM : sndB ps ws l
  · have Hno := Lib.hid (fullV_no hM)
    have Hz := Lib.hid hM
    clear hM
    go_wp2_with fail
    go_ret2
    exact ⟨by rw [Hno.out, Hz.out]; rfl, hb2⟩
  have HS := Lib.hid hM
  have hmk : mktB ps ws l = true := by
    have := hM
    simp only [sndB, Bool.and_eq_true] at this
    exact this.1
  have hmt := mktB_t hmk
  have HTr := Lib.hid hmt.1
  have Hnl : Hid (nL = ps.length) := Lib.hid (by rw [← Hll.out]; exact hmt.2.1)
  have hLP : nL ≤ nP ∧ nP ≤ nL := by have := Hnl.out; have := Hl.out; omega
  have hn24 := hmt.1.n24
  have hnP : nP ≤ 24 := by have := Hl.out; omega
  clear hM hmt hmk hpn hwn hln hn24
  go_wp2_with fail
  clear d2
  go_loopw [14] (fun v4 wr => ∃ k : Nat, k ≤ nL ∧ v4 = .int .i64 (k : Int) ∧ (∀ j, j < k → fullX ps l j = true) ∧ Trip wr w.heap.size (.slice aP nP cP) (.slice aW nW cW) (.slice aL nL cL) ∧ Below w.heap.size w wr) (fun v4 _ => nL - (intOf v4).toNat)
  case atStart => exact ⟨0, Nat.zero_le _, rfl, (fun j hj => by omega), HX2.out, hb2⟩
  case round =>
    clear HX2 hb2
    obtain ⟨k, hk, rfl, hall, hX, hbel⟩ := hrel
    have Hall := Lib.hid hall
    have c0 := hX.c0
    have c1 := hX.c1
    have c2 := hX.c2
    have HX := Lib.hid hX
    clear hall hX
    by_cases hlt : (k : Int) < nL
    · go_wp2_with fail
      refine (impl_beside _ _ _ _ _ _ _ _ _ ps ws l k _ (H.out.below hbel) HTr.out Hnl.out (by omega)).mono ?_
      rintro e w5 ⟨a1, d1, a2, d2, a3, d3, rfl, b5⟩
      have HX5 := Lib.hid (HX.out.below b5)
      have hbel5 := hbel.trans (b5.mono hbel.size)
      have Hdef : Hid (fullX ps l k = !(decide ((cntP l (lessF (nth l k)) (kids ps k) : Int) > 1) || (decide ((cntP l (moreF (nth l k)) (kids ps k) : Int) > 1) || (decide ((cntP l (sameF (nth l k)) (kids ps k) : Int) > 0) && decide ((cntP l (lessF (nth l k)) (kids ps k) : Int) + (cntP l (sameF (nth l k)) (kids ps k) : Int) + (cntP l (moreF (nth l k)) (kids ps k) : Int) > 1))))) := Lib.hid rfl
      have hnk := nKids ps l k
      unfold nLess nSame nMore at hnk
      have hn3 : cntP l (lessF (nth l k)) (kids ps k) ≤ 24 ∧ cntP l (sameF (nth l k)) (kids ps k) ≤ 24 ∧ cntP l (moreF (nth l k)) (kids ps k) ≤ 24 := by have := Hl.out; omega
      clear HX hbel b5 c0 c1 c2 hnk
      generalize cntP l (lessF (nth l k)) (kids ps k) = na at *
      generalize cntP l (moreF (nth l k)) (kids ps k) = nb at *
      generalize cntP l (sameF (nth l k)) (kids ps k) = ns at *
      by_cases ha : (na : Int) > 1
      · skip
        have ha2 : 1 < na := by omega
        have Hu : Hid (fullX ps l k = false) := Lib.hid (by rw [Hdef.out, decide_eq_true ha]; rfl)
        go_wp2_with fail
        go_ret2
        exact ⟨by rw [fullV_bad (ws := ws) (x := k) (by have := Hl.out; omega) Hu.out, HS.out]; rfl, hbel5⟩
      · have ha2 : ¬ 1 < na := by omega
        by_cases hb : (nb : Int) > 1
        · have hb2 : 1 < nb := by omega
          have Hu : Hid (fullX ps l k = false) := Lib.hid (by rw [Hdef.out, decide_eq_false ha, decide_eq_true hb]; rfl)
          go_wp2_with fail
          go_ret2
          exact ⟨by rw [fullV_bad (ws := ws) (x := k) (by have := Hl.out; omega) Hu.out, HS.out]; rfl, hbel5⟩
        · have hb2 : ¬ 1 < nb := by omega
          by_cases hs : (ns : Int) > 0
          · have hs2 : 0 < ns := by omega
            by_cases ht : (na : Int) + (ns : Int) + (nb : Int) > 1
            · skip
              have Hu : Hid (fullX ps l k = false) := Lib.hid (by rw [Hdef.out, decide_eq_false ha, decide_eq_false hb, decide_eq_true hs, decide_eq_true ht]; rfl)
              go_wp2_with fail
              go_ret2
              exact ⟨by rw [fullV_bad (ws := ws) (x := k) (by have := Hl.out; omega) Hu.out, HS.out]; rfl, hbel5⟩
            · skip
              have Hu : Hid (fullX ps l k = true) := Lib.hid (by rw [Hdef.out, decide_eq_false ha, decide_eq_false hb, decide_eq_true hs, decide_eq_false ht]; rfl)
              go_wp2_with fail
              go_roundw
              case rel => exact ⟨k + 1, by omega, by go_num, (fun j hj => by
                by_cases e : j = k
                · subst e; exact Hu.out
                · exact Hall.out j (by omega)), HX5.out, hbel5⟩
              case measure => simp [intOf]; omega
          · obtain rfl : ns = 0 := by omega
            have Hu : Hid (fullX ps l k = true) := Lib.hid (by rw [Hdef.out, decide_eq_false ha, decide_eq_false hb, decide_eq_false hs]; rfl)
            go_wp2_with fail
            go_roundw
            case rel => exact ⟨k + 1, by omega, by go_num, (fun j hj => by
              by_cases e : j = k
              · subst e; exact Hu.out
              · exact Hall.out j (by omega)), HX5.out, hbel5⟩
            case measure => simp [intOf]; omega
    · obtain rfl : k = nL := by omega
      have Hv := Lib.hid (fullV_yes HS.out fun x hx => Hall.out x (by have := Hnl.out; omega))
      go_wp2_with fail
      go_ret2
      exact ⟨by rw [Hv.out, HS.out]; rfl, hbel⟩
end Go.Proofs.Ytfnmhoidgnihoaa
