/- Contracts and plain laws for the statement FnDrifts, part 3. No conditions but those stated in each. -/
import Derived.Test.YtnbomleieianoaaBnFnDrifts2
/- Contracts: EndsOf, SumsOf and ChildrenOf by the program. -/
namespace Go.Proofs.Ytnbomleieianoaa
open Go.RowKit

def eoV (ps ws : List Int) : List Int := if treeB ps ws then ends ps else []
theorem eoV_no {ps ws : List Int} (h : treeB ps ws = false) : eoV ps ws = [] := by rw [eoV, h]; rfl
theorem eoV_yes {ps ws : List Int} (h : treeB ps ws = true) : eoV ps ws = ends ps := by rw [eoV, if_pos h]
def soV (ps ws : List Int) : List Int := if treeB ps ws then sums ps ws else []
theorem soV_no {ps ws : List Int} (h : treeB ps ws = false) : soV ps ws = [] := by rw [soV, h]; rfl
theorem soV_yes {ps ws : List Int} (h : treeB ps ws = true) : soV ps ws = sums ps ws := by rw [soV, if_pos h]
set_option maxRecDepth 100000 in
set_option maxHeartbeats 1000000 in
theorem impl_EndsOf (aP : Option Addr) (nP cP : Nat) (aW : Option Addr) (nW cW : Nat) (ps ws : List Int) (w : World) (h : Tre w aP nP cP aW nW cW ps ws) :
    Calls Try.prog 22 #[.agg #[.slice aP nP cP, .slice aW nW cW]] w fun e w' => ∃ v, e = .returned (.tuple #[v, .bool (treeB ps ws)]) ∧ Own w' w.heap.size v (eoV ps ws) ∧ Below w.heap.size w w' := by
  have hl := h.p.1
  have hlw := h.w.1
  have hpn := h.pn
  have hwn := h.wn
  have hb1 := below_new w (.cells #[.slice aP nP cP, .slice aW nW cW] 26)
  have hP1 := Lib.hid (Pair.new w (.slice aP nP cP) (.slice aW nW cW) 26)
  have H := Lib.hid h
  have Hl := Lib.hid hl
  have Hlw := Lib.hid hlw
  clear h hl hlw
  go_enter Try.func22, Try.ntmps22
  have c0 := hP1.out.c0
  have c1 := hP1.out.c1
  go_wp2_with fail
  generalize (w.alloc (.cells #[.slice aP nP cP, .slice aW nW cW] 26)) = w2 at *
  refine (impl_IsTree _ _ _ _ _ _ ps ws _ (H.out.below hb1)).mono ?_
  rintro e w3 ⟨rfl, hb3⟩
  have hP3 := hP1.out.below hb3
  have d0 := hP3.c0
  have d1 := hP3.c1
  have hb13 := hb1.trans (hb3.mono hb1.size)
  clear hP3 c0 c1 hb3 hP1
  cases hT : treeB ps ws
  · have Hv := Lib.hid (eoV_no hT)
    have HT := Lib.hid hT
    clear hT
    go_wp2_with fail
    go_ret2
    exact ⟨_, by rw [HT.out]; rfl, by rw [Hv.out]; exact Own.nil _ _, hb13⟩
  have HTr := Lib.hid (treeB_t hT)
  have Hv := Lib.hid (eoV_yes hT)
  have HT := Lib.hid hT
  clear hT
  go_wp2_with fail
  refine (impl_ends _ _ _ _ _ _ ps ws _ (H.out.below hb13) HTr.out.toPa).mono ?_
  rintro e w4 ⟨v, rfl, ho, hb4⟩
  go_wp2_with fail
  go_ret2
  exact ⟨_, by rw [HT.out]; rfl, by rw [Hv.out]; exact ho.mono hb13.size, hb13.trans (hb4.mono hb13.size)⟩
set_option maxRecDepth 100000 in
set_option maxHeartbeats 1000000 in
theorem impl_SumsOf (aP : Option Addr) (nP cP : Nat) (aW : Option Addr) (nW cW : Nat) (ps ws : List Int) (w : World) (h : Tre w aP nP cP aW nW cW ps ws) :
    Calls Try.prog 41 #[.agg #[.slice aP nP cP, .slice aW nW cW]] w fun e w' => ∃ v, e = .returned (.tuple #[v, .bool (treeB ps ws)]) ∧ Own w' w.heap.size v (soV ps ws) ∧ Below w.heap.size w w' := by
  have hl := h.p.1
  have hlw := h.w.1
  have hpn := h.pn
  have hwn := h.wn
  have hb1 := below_new w (.cells #[.slice aP nP cP, .slice aW nW cW] 26)
  have hP1 := Lib.hid (Pair.new w (.slice aP nP cP) (.slice aW nW cW) 26)
  have H := Lib.hid h
  have Hl := Lib.hid hl
  have Hlw := Lib.hid hlw
  clear h hl hlw
  go_enter Try.func41, Try.ntmps41
  have c0 := hP1.out.c0
  have c1 := hP1.out.c1
  go_wp2_with fail
  generalize (w.alloc (.cells #[.slice aP nP cP, .slice aW nW cW] 26)) = w2 at *
  refine (impl_IsTree _ _ _ _ _ _ ps ws _ (H.out.below hb1)).mono ?_
  rintro e w3 ⟨rfl, hb3⟩
  have hP3 := hP1.out.below hb3
  have d0 := hP3.c0
  have d1 := hP3.c1
  have hb13 := hb1.trans (hb3.mono hb1.size)
  clear hP3 c0 c1 hb3 hP1
  cases hT : treeB ps ws
  · have Hv := Lib.hid (soV_no hT)
    have HT := Lib.hid hT
    clear hT
    go_wp2_with fail
    go_ret2
    exact ⟨_, by rw [HT.out]; rfl, by rw [Hv.out]; exact Own.nil _ _, hb13⟩
  have HTr := Lib.hid (treeB_t hT)
  have Hv := Lib.hid (soV_yes hT)
  have HT := Lib.hid hT
  clear hT
  go_wp2_with fail
  refine (impl_sums _ _ _ _ _ _ ps ws _ (H.out.below hb13) HTr.out).mono ?_
  rintro e w4 ⟨v, rfl, ho, hb4⟩
  go_wp2_with fail
  go_ret2
  exact ⟨_, by rw [HT.out]; rfl, by rw [Hv.out]; exact ho.mono hb13.size, hb13.trans (hb4.mono hb13.size)⟩
theorem impl_isNodeE (aP : Option Addr) (nP cP : Nat) (aW : Option Addr) (nW cW : Nat) (ps ws : List Int) (x : Int) (w : World) (h : Tre w aP nP cP aW nW cW ps ws) (hT : Tr ps ws) :
    Calls Try.prog 112 #[.agg #[.slice aP nP cP, .slice aW nW cW], .int .i64 x] w fun e w' => e = .returned (.bool (inB x 0 ((ps.length : Int) - 1))) ∧ Below w.heap.size w w' := by
  have hn24 := hT.n24
  have hn1 := hT.n1
  have HT := Lib.hid hT
  have hwl := hT.wl
  have hl := h.p.1
  have hlw := h.w.1
  have hpn := h.pn
  have hwn := h.wn
  have hb1 := below_new w (.cells #[.slice aP nP cP, .slice aW nW cW] 26)
  have hP1 := Lib.hid (Pair.new w (.slice aP nP cP) (.slice aW nW cW) 26)
  have H := Lib.hid h
  have Hl := Lib.hid hl
  have Hlw := Lib.hid hlw
  clear h hl hlw
  have hnW : nW ≤ nP ∧ nP ≤ nW := by have := Hlw.out; have := Hl.out; omega
  have hnP : 1 ≤ nP ∧ nP ≤ 24 := by have := Hl.out; omega
  clear hn24 hn1 hT hwl hpn hwn
  rw [Hl.out]
  have c0 := hP1.out.c0
  go_enter Try.func112, Try.ntmps112
  go_wp2_with (go_at_call 120; refine (impl_within _ _ _ _).mono ?_; rintro e w' ⟨rfl, rfl⟩)
  go_ret
  exact ⟨rfl, hb1⟩
set_option maxRecDepth 100000 in
set_option maxHeartbeats 1000000 in
theorem impl_ChildrenOf_t (aP : Option Addr) (nP cP : Nat) (aW : Option Addr) (nW cW : Nat) (ps ws : List Int) (X : Nat) (w : World) (h : Tre w aP nP cP aW nW cW ps ws) (hT : treeB ps ws = true) (hX : X < nP) :
    Calls Try.prog 42 #[.agg #[.slice aP nP cP, .slice aW nW cW], .int .i64 (X : Int)] w fun e w' => ∃ v, e = .returned (.tuple #[v, .bool true]) ∧ Own w' w.heap.size v (kids ps X) ∧ Below w.heap.size w w' := by
  have HT := Lib.hid hT
  have HTr := Lib.hid (treeB_t hT)
  clear hT
  have hl := h.p.1
  have hlw := h.w.1
  have hpn := h.pn
  have hwn := h.wn
  have hb1 := below_new w (.cells #[.slice aP nP cP, .slice aW nW cW] 26)
  have hP1 := Lib.hid (Pair.new w (.slice aP nP cP) (.slice aW nW cW) 26)
  have H := Lib.hid h
  have Hl := Lib.hid hl
  have Hlw := Lib.hid hlw
  clear h hl hlw
  go_enter Try.func42, Try.ntmps42
  have c0 := hP1.out.c0
  have c1 := hP1.out.c1
  go_wp2_with fail
  generalize (w.alloc (.cells #[.slice aP nP cP, .slice aW nW cW] 26)) = w2 at *
  refine (impl_IsTree _ _ _ _ _ _ ps ws _ (H.out.below hb1)).mono ?_
  rintro e w3 ⟨rfl, hb3⟩
  have HP3 := Lib.hid (hP1.out.below hb3)
  have d0 := HP3.out.c0
  have d1 := HP3.out.c1
  have hb13 := hb1.trans (hb3.mono hb1.size)
  clear c0 c1 hb3 hP1
  rw [HT.out]
  go_wp2_with fail
  refine (impl_isNodeE _ _ _ _ _ _ ps ws (X : Int) _ (H.out.below hb13) HTr.out).mono ?_
  rintro e w4 ⟨rfl, hb4⟩
  have hin : inB (X : Int) 0 ((ps.length : Int) - 1) = true := by have := Hl.out; unfold inB; simp; omega
  rw [hin]
  have e0 := (HP3.out.below hb4).c0
  have e1 := (HP3.out.below hb4).c1
  have hb14 := hb13.trans (hb4.mono hb13.size)
  clear d0 d1 hb4 hin HP3
  go_wp2_with fail
  refine (impl_children _ _ _ _ _ _ ps ws (X : Int) _ (H.out.below hb14) HTr.out.toPa (by omega)).mono ?_
  rintro e w5 ⟨v, rfl, ho, hb5⟩
  rw [Int.toNat_natCast] at ho
  go_wp2_with fail
  go_ret2
  exact ⟨_, rfl, ho.mono hb14.size, hb14.trans (hb5.mono hb14.size)⟩
end Go.Proofs.Ytnbomleieianoaa
