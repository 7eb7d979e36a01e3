/- Contracts: uneven nodes, full markets, by the program. -/
import Derived.Test.YtfnmhoidgnihoaaBeside
namespace Go.Proofs.Ytfnmhoidgnihoaa
open Go.RowKit

/-- The first number below n that is so, or -1. -/
def firstU (f : Nat → Bool) : Nat → Int
  | 0 => -1
  | n + 1 => if 0 ≤ firstU f n then firstU f n else if f n then (n : Int) else -1
theorem firstU_none {f : Nat → Bool} : ∀ {n : Nat}, (∀ i, i < n → f i = false) → firstU f n = -1
  | 0, _ => rfl
  | n + 1, h => by rw [firstU, firstU_none fun i hi => h i (by omega), if_neg (by omega), h n (by omega), if_neg Bool.false_ne_true]
theorem firstU_at {f : Nat → Bool} {i : Nat} : ∀ {n : Nat}, i < n → (∀ j, j < i → f j = false) → f i = true → firstU f n = i
  | 0, h, _, _ => by omega
  | n + 1, h, h1, h2 => by
    by_cases e : i = n
    · subst e
      rw [firstU, firstU_none h1, if_neg (by omega), h2, if_pos rfl]
    · rw [firstU, firstU_at (by omega) h1 h2, if_pos (by omega)]
def nLess (ps l : List Int) (x : Nat) : Nat := cntP l (lessF (nth l x)) (kids ps x)
def nSame (ps l : List Int) (x : Nat) : Nat := cntP l (sameF (nth l x)) (kids ps x)
def nMore (ps l : List Int) (x : Nat) : Nat := cntP l (moreF (nth l x)) (kids ps x)
theorem nKids (ps l : List Int) (x : Nat) : nLess ps l x ≤ ps.length ∧ nSame ps l x ≤ ps.length ∧ nMore ps l x ≤ ps.length := by
  have h := filt_length (fun y => nth ps y == (x : Int)) ps.length
  have h1 := cntP_le l (lessF (nth l x)) (kids ps x)
  have h2 := cntP_le l (sameF (nth l x)) (kids ps x)
  have h3 := cntP_le l (moreF (nth l x)) (kids ps x)
  unfold nLess nSame nMore
  unfold kids at *
  omega
/-- Is the node x uneven? -/
def unevB (ps l : List Int) (x : Nat) : Bool := decide ((nLess ps l x : Int) > 0) != decide ((nMore ps l x : Int) > 0)
def unevI (ps l : List Int) : Int := firstU (unevB ps l) ps.length
def unB (ps ws l : List Int) : Bool := mktB ps ws l && decide (0 ≤ unevI ps l)
def unI (ps ws l : List Int) : Int := if unB ps ws l then unevI ps l else 0
def sndB (ps ws l : List Int) : Bool := mktB ps ws l && decide (unevI ps l < 0)
def fullX (ps l : List Int) (x : Nat) : Bool := !(decide ((nLess ps l x : Int) > 1) || (decide ((nMore ps l x : Int) > 1) || (decide ((nSame ps l x : Int) > 0) && decide ((nLess ps l x : Int) + (nSame ps l x : Int) + (nMore ps l x : Int) > 1))))
def fullV (ps ws l : List Int) : Bool := sndB ps ws l && (List.range ps.length).all (fullX ps l)
theorem un_no1 {ps ws l : List Int} (h : mktB ps ws l = false) : unB ps ws l = false ∧ sndB ps ws l = false := by unfold unB sndB; rw [h]; exact ⟨rfl, rfl⟩
theorem un_neg {ps ws l : List Int} (h : mktB ps ws l = true) (h2 : unevI ps l < 0) : unB ps ws l = false ∧ sndB ps ws l = true := by
  unfold unB sndB; rw [h, decide_eq_true h2, decide_eq_false (by omega)]; exact ⟨rfl, rfl⟩
theorem un_pos {ps ws l : List Int} (h : mktB ps ws l = true) (h2 : ¬ unevI ps l < 0) : unB ps ws l = true ∧ sndB ps ws l = false := by
  unfold unB sndB; rw [h, decide_eq_false h2, decide_eq_true (by omega)]; exact ⟨rfl, rfl⟩
theorem unI_no {ps ws l : List Int} (h : unB ps ws l = false) : unI ps ws l = 0 := by rw [unI, h]; rfl
theorem unI_yes {ps ws l : List Int} (h : unB ps ws l = true) : unI ps ws l = unevI ps l := by rw [unI, h]; rfl
theorem fullV_no {ps ws l : List Int} (h : sndB ps ws l = false) : fullV ps ws l = false := by rw [fullV, h]; rfl
theorem fullV_bad {ps ws l : List Int} {x : Nat} (hx : x < ps.length) (h : fullX ps l x = false) : fullV ps ws l = false := by rw [fullV, all_f hx h]; simp
theorem fullV_yes {ps ws l : List Int} (h : sndB ps ws l = true) (h2 : ∀ x, x < ps.length → fullX ps l x = true) : fullV ps ws l = true := by rw [fullV, h, all_t h2]; rfl
set_option maxRecDepth 100000 in
set_option maxHeartbeats 2000000 in
theorem impl_uneven (aP : Option Addr) (nP cP : Nat) (aW : Option Addr) (nW cW : Nat) (aL : Option Addr) (nL cL : Nat) (ps ws l : List Int) (w : World) (h : Mkt w aP nP cP aW nW cW aL nL cL ps ws l) (hT : Tr ps ws) (hnl : nL = ps.length) :
    Calls Try.prog 70 #[.agg #[.slice aP nP cP, .slice aW nW cW, .slice aL nL cL]] w fun e w' => e = .returned (.int .i64 (unevI ps l)) ∧ Below w.heap.size w w' := by
  have HTr := Lib.hid hT
  have Hnl := Lib.hid hnl
  clear hnl hT
  have hl := h.t.p.1
  have hlw := h.t.w.1
  have hll := h.l.1
  have hpn := h.t.pn
  have hwn := h.t.wn
  have hln := h.ln
  have hb1 := below_new w (.cells #[.slice aP nP cP, .slice aW nW cW, .slice aL nL cL] 31)
  have hX1 := Lib.hid (Trip.new w (.slice aP nP cP) (.slice aW nW cW) (.slice aL nL cL) 31)
  have H := Lib.hid h
  have Hl := Lib.hid hl
  have Hlw := Lib.hid hlw
  have Hll := Lib.hid hll
  clear h hl hlw hll
  have hLP : nL ≤ nP ∧ nP ≤ nL := by have := Hnl.out; have := Hl.out; omega
  have hn24 := HTr.out.n24
  have hnP : nP ≤ 24 := by have := Hl.out; omega
  clear hn24 hpn hwn hln
  have c2 := hX1.out.c2
  have hb2 := hb1
  go_enter Try.func70, Try.ntmps70
  go_wp2_with fail
  have HX2 := Lib.hid hX1.out
  clear hX1 c2 hb1
  generalize (w.alloc (.cells #[.slice aP nP cP, .slice aW nW cW, .slice aL nL cL] 31)) = w2 at *
  go_loopw [10] (fun v10 wr => ∃ k : Nat, k ≤ nL ∧ v10 = .int .i64 (k : Int) ∧ (∀ j, j < k → unevB ps l j = false) ∧ Trip wr w.heap.size (.slice aP nP cP) (.slice aW nW cW) (.slice aL nL cL) ∧ Below w.heap.size w wr) (fun v10 _ => nL - (intOf v10).toNat)
  case atStart => exact ⟨0, Nat.zero_le _, rfl, (fun j hj => by omega), HX2.out, hb2⟩
  case round =>
    clear HX2 hb2
    obtain ⟨k, hk, rfl, hall, hX, hbel⟩ := hrel
    have Hall := Lib.hid hall
    have c0 := hX.c0
    have c1 := hX.c1
    have c2 := hX.c2
    have HX := Lib.hid hX
    clear hall hX
    by_cases hlt : (k : Int) < nL
    · go_wp2_with fail
      refine (impl_beside _ _ _ _ _ _ _ _ _ ps ws l k _ (H.out.below hbel) HTr.out Hnl.out (by omega)).mono ?_
      rintro e w5 ⟨a1, d1, a2, d2, a3, d3, rfl, b5⟩
      have HX5 := Lib.hid (HX.out.below b5)
      have hbel5 := hbel.trans (b5.mono hbel.size)
      have Hdef : Hid (unevB ps l k = (decide ((cntP l (lessF (nth l k)) (kids ps k) : Int) > 0) != decide ((cntP l (moreF (nth l k)) (kids ps k) : Int) > 0))) := Lib.hid rfl
      clear HX hbel b5 c0 c1 c2
      generalize cntP l (lessF (nth l k)) (kids ps k) = na at *
      generalize cntP l (moreF (nth l k)) (kids ps k) = nb at *
      generalize cntP l (sameF (nth l k)) (kids ps k) = ns at *
      by_cases ha : (na : Int) > 0
      · by_cases hb : (nb : Int) > 0
        · have Hu : Hid (unevB ps l k = false) := Lib.hid (by rw [Hdef.out, decide_eq_true ha, decide_eq_true hb]; rfl)
          have ha2 : 0 < na := by omega
          have ha3 : (na : Int) ≠ 0 := by omega
          have hb2 : 0 < nb := by omega
          have hb3 : (nb : Int) ≠ 0 := by omega
          go_wp2_with fail
          go_roundw
          case rel => exact ⟨k + 1, by omega, by go_num, (fun j hj => by
            by_cases e : j = k
            · subst e; exact Hu.out
            · exact Hall.out j (by omega)), HX5.out, hbel5⟩
          case measure => simp [intOf]; omega
        · have Hu : Hid (unevB ps l k = true) := Lib.hid (by rw [Hdef.out, decide_eq_true ha, decide_eq_false hb]; rfl)
          have ha2 : 0 < na := by omega
          have ha3 : (na : Int) ≠ 0 := by omega
          obtain rfl : nb = 0 := by omega
          go_wp2_with fail
          go_ret
          exact ⟨ri (by rw [unevI]; exact (firstU_at (by have := Hl.out; omega) Hall.out Hu.out).symm), hbel5⟩
      · by_cases hb : (nb : Int) > 0
        · have Hu : Hid (unevB ps l k = true) := Lib.hid (by rw [Hdef.out, decide_eq_false ha, decide_eq_true hb]; rfl)
          obtain rfl : na = 0 := by omega
          have hb2 : 0 < nb := by omega
          have hb3 : (nb : Int) ≠ 0 := by omega
          go_wp2_with fail
          go_ret
          exact ⟨ri (by rw [unevI]; exact (firstU_at (by have := Hl.out; omega) Hall.out Hu.out).symm), hbel5⟩
        · have Hu : Hid (unevB ps l k = false) := Lib.hid (by rw [Hdef.out, decide_eq_false ha, decide_eq_false hb]; rfl)
          obtain rfl : na = 0 := by omega
          obtain rfl : nb = 0 := by omega
          go_wp2_with fail
          go_roundw
          case rel => exact ⟨k + 1, by omega, by go_num, (fun j hj => by
            by_cases e : j = k
            · subst e; exact Hu.out
            · exact Hall.out j (by omega)), HX5.out, hbel5⟩
          case measure => simp [intOf]; omega
    · obtain rfl : k = nL := by omega
      have Hv : Hid (unevI ps l = -1) := Lib.hid (by rw [unevI]; exact firstU_none fun i hi => Hall.out i (by have := Hnl.out; omega))
      go_wp2_with fail
      go_ret
      exact ⟨ri Hv.out.symm, hbel⟩
set_option maxRecDepth 100000 in
set_option maxHeartbeats 1000000 in
theorem impl_UnevenNode (aP : Option Addr) (nP cP : Nat) (aW : Option Addr) (nW cW : Nat) (aL : Option Addr) (nL cL : Nat) (ps ws l : List Int) (w : World) (h : Mkt w aP nP cP aW nW cW aL nL cL ps ws l) :
    Calls Try.prog 35 #[.agg #[.slice aP nP cP, .slice aW nW cW, .slice aL nL cL]] w fun e w' => e = .returned (.tuple #[.int .i64 (unI ps ws l), .bool (unB ps ws l)]) ∧ Below w.heap.size w w' := by
  have hl := h.t.p.1
  have hlw := h.t.w.1
  have hll := h.l.1
  have hpn := h.t.pn
  have hwn := h.t.wn
  have hln := h.ln
  have hb1 := below_new w (.cells #[.slice aP nP cP, .slice aW nW cW, .slice aL nL cL] 31)
  have hX1 := Lib.hid (Trip.new w (.slice aP nP cP) (.slice aW nW cW) (.slice aL nL cL) 31)
  have H := Lib.hid h
  have Hl := Lib.hid hl
  have Hlw := Lib.hid hlw
  have Hll := Lib.hid hll
  clear h hl hlw hll
  have c0 := hX1.out.c0
  have c1 := hX1.out.c1
  have c2 := hX1.out.c2
  go_enter Try.func35, Try.ntmps35
  go_wp2_with fail
  generalize (w.alloc (.cells #[.slice aP nP cP, .slice aW nW cW, .slice aL nL cL] 31)) = w2 at *
  refine (impl_IsMarket _ _ _ _ _ _ _ _ _ ps ws l _ (H.out.below hb1)).mono ?_
  rintro e w3 ⟨rfl, hb3⟩
  have hX3 := hX1.out.below hb3
  have d0 := hX3.c0
  have d1 := hX3.c1
  have d2 := hX3.c2
  have HX3 := Lib.hid hX3
  have hb13 := hb1.trans (hb3.mono hb1.size)
  clear hX1 hX3 c0 c1 c2 hb3
  cases hM : mktB ps ws l
  · obtain ⟨z1, z2⟩ := un_no1 hM
    have Hz1 := Lib.hid z1
    have Hz2 := Lib.hid z2
    clear hM z1 z2
    go_wp2_with fail
    go_ret2
    exact ⟨by rw [unI_no Hz1.out, Hz1.out]; rfl, hb13⟩
  have HM := Lib.hid hM
  have hmt := mktB_t hM
  have HTr := Lib.hid hmt.1
  have Hnl := Lib.hid hmt.2.1
  have Hnl2 : Hid (nL = ps.length) := Lib.hid (by rw [← Hll.out]; exact hmt.2.1)
  clear hM hmt hpn hwn hln
  go_wp2_with fail
  refine (impl_uneven _ _ _ _ _ _ _ _ _ ps ws l _ (H.out.below hb13) HTr.out Hnl2.out).mono ?_
  rintro e w4 ⟨rfl, b4⟩
  have hb14 := hb13.trans (b4.mono hb13.size)
  have HX4 := Lib.hid (HX3.out.below b4)
  have hun := fun h : unevI ps l < 0 => un_neg HM.out h
  have hup := fun h : ¬ unevI ps l < 0 => un_pos HM.out h
  generalize hU : unevI ps l = U at *
  have HU := Lib.hid hU
  clear d0 d1 d2 HX3 b4 hU
  by_cases hneg : U < 0
  · obtain ⟨z1, z2⟩ := hun hneg
    have Hz1 := Lib.hid z1
    have Hz2 := Lib.hid z2
    clear z1 z2 hun hup
    go_wp2_with fail
    go_ret2
    exact ⟨by rw [unI_no Hz1.out, Hz1.out]; rfl, hb14⟩
  · obtain ⟨z1, z2⟩ := hup hneg
    have Hz1 := Lib.hid z1
    have Hz2 := Lib.hid z2
    clear z1 z2 hun hup
    go_wp2_with fail
    go_ret2
    exact ⟨by rw [unI_yes Hz1.out, Hz1.out, HU.out]; rfl, hb14⟩
set_option maxRecDepth 100000 in
set_option maxHeartbeats 1000000 in
theorem impl_soundMarket (aP : Option Addr) (nP cP : Nat) (aW : Option Addr) (nW cW : Nat) (aL : Option Addr) (nL cL : Nat) (ps ws l : List Int) (w : World) (h : Mkt w aP nP cP aW nW cW aL nL cL ps ws l) :
    Calls Try.prog 78 #[.agg #[.slice aP nP cP, .slice aW nW cW, .slice aL nL cL]] w fun e w' => e = .returned (.bool (sndB ps ws l)) ∧ Below w.heap.size w w' := by
  have hl := h.t.p.1
  have hlw := h.t.w.1
  have hll := h.l.1
  have hpn := h.t.pn
  have hwn := h.t.wn
  have hln := h.ln
  have hb1 := below_new w (.cells #[.slice aP nP cP, .slice aW nW cW, .slice aL nL cL] 31)
  have hX1 := Lib.hid (Trip.new w (.slice aP nP cP) (.slice aW nW cW) (.slice aL nL cL) 31)
  have H := Lib.hid h
  have Hl := Lib.hid hl
  have Hlw := Lib.hid hlw
  have Hll := Lib.hid hll
  clear h hl hlw hll
  have c0 := hX1.out.c0
  have c1 := hX1.out.c1
  have c2 := hX1.out.c2
  go_enter Try.func78, Try.ntmps78
  go_wp2_with fail
  generalize (w.alloc (.cells #[.slice aP nP cP, .slice aW nW cW, .slice aL nL cL] 31)) = w2 at *
  refine (impl_IsMarket _ _ _ _ _ _ _ _ _ ps ws l _ (H.out.below hb1)).mono ?_
  rintro e w3 ⟨rfl, hb3⟩
  have hX3 := hX1.out.below hb3
  have d0 := hX3.c0
  have d1 := hX3.c1
  have d2 := hX3.c2
  have HX3 := Lib.hid hX3
  have hb13 := hb1.trans (hb3.mono hb1.size)
  clear hX1 hX3 c0 c1 c2 hb3
  cases hM : mktB ps ws l
  · obtain ⟨z1, z2⟩ := un_no1 hM
    have Hz1 := Lib.hid z1
    have Hz2 := Lib.hid z2
    clear hM z1 z2
    go_wp2_with fail
    go_ret
    exact ⟨by rw [Hz2.out]; rfl, hb13⟩
  have HM := Lib.hid hM
  have hmt := mktB_t hM
  have HTr := Lib.hid hmt.1
  have Hnl := Lib.hid hmt.2.1
  have Hnl2 : Hid (nL = ps.length) := Lib.hid (by rw [← Hll.out]; exact hmt.2.1)
  clear hM hmt hpn hwn hln
  go_wp2_with fail
  refine (impl_uneven _ _ _ _ _ _ _ _ _ ps ws l _ (H.out.below hb13) HTr.out Hnl2.out).mono ?_
  rintro e w4 ⟨rfl, b4⟩
  have hb14 := hb13.trans (b4.mono hb13.size)
  have HX4 := Lib.hid (HX3.out.below b4)
  have hun := fun h : unevI ps l < 0 => un_neg HM.out h
  have hup := fun h : ¬ unevI ps l < 0 => un_pos HM.out h
  generalize hU : unevI ps l = U at *
  have HU := Lib.hid hU
  clear d0 d1 d2 HX3 b4 hU
  by_cases hneg : U < 0
  · obtain ⟨z1, z2⟩ := hun hneg
    have Hz1 := Lib.hid z1
    have Hz2 := Lib.hid z2
    clear z1 z2 hun hup
    go_wp2_with fail
    go_ret
    exact ⟨by rw [Hz2.out]; rfl, hb14⟩
  · obtain ⟨z1, z2⟩ := hup hneg
    have Hz1 := Lib.hid z1
    have Hz2 := Lib.hid z2
    clear z1 z2 hun hup
    go_wp2_with fail
    go_ret
    exact ⟨by rw [Hz2.out]; exact rb (decide_eq_false (by omega)), hb14⟩
end Go.Proofs.Ytfnmhoidgnihoaa
