/- Contracts: is a market valid, by the program and by the reference. -/
import Derived.Test.YtcoakeedgngogaaMkt
import Derived.Test.YtcoakeedgngogaaTree6
namespace Go.Proofs.Ytcoakeedgngogaa
open Go.RowKit

/-- Is a market valid? -/
def mktB (ps ws l : List Int) : Bool := treeB ps ws && ((l.length == ps.length) && allIn l 0 20)
theorem mkt_no1 {ps ws l : List Int} (h : treeB ps ws = false) : mktB ps ws l = false := by rw [mktB, h]; rfl
theorem mkt_no2 {ps ws l : List Int} (h : ¬ l.length = ps.length) : mktB ps ws l = false := by simp [mktB, h]
theorem mkt_no3 {ps ws l : List Int} (h : allIn l 0 20 = false) : mktB ps ws l = false := by simp [mktB, h]
theorem mkt_yes {ps ws l : List Int} (h1 : treeB ps ws = true) (h2 : l.length = ps.length) (h3 : allIn l 0 20 = true) : mktB ps ws l = true := by rw [mktB, h1, h2, h3]; simp
theorem mktB_t {ps ws l : List Int} (h : mktB ps ws l = true) : Tr ps ws ∧ l.length = ps.length ∧ ∀ i, 0 ≤ nth l i ∧ nth l i ≤ 20 := by
  simp only [mktB, Bool.and_eq_true, beq_iff_eq] at h
  refine ⟨treeB_t h.1, h.2.1, fun i => ?_⟩
  by_cases hi : i < l.length
  · exact inB_t (all_get h.2.2 hi)
  · rw [nth_ge (by omega)]; omega
set_option maxRecDepth 100000 in
set_option maxHeartbeats 1000000 in
theorem spec_l6Market (aP : Option Addr) (nP cP : Nat) (aW : Option Addr) (nW cW : Nat) (aL : Option Addr) (nL cL : Nat) (ps ws l : List Int) (w : World) (h : Mkt w aP nP cP aW nW cW aL nL cL ps ws l) :
    Calls Try.prog 48 #[.agg #[.slice aP nP cP, .slice aW nW cW, .slice aL nL cL]] w fun e w' => e = .returned (.bool (mktB ps ws l)) ∧ Below w.heap.size w w' := by
  have hl := h.t.p.1
  have hlw := h.t.w.1
  have hll := h.l.1
  have hpn := h.t.pn
  have hwn := h.t.wn
  have hln := h.ln
  have hb1 := below_new w (.cells #[.slice aP nP cP, .slice aW nW cW, .slice aL nL cL] 35)
  have hX1 := Lib.hid (Trip.new w (.slice aP nP cP) (.slice aW nW cW) (.slice aL nL cL) 35)
  have H := Lib.hid h
  have Hl := Lib.hid hl
  have Hlw := Lib.hid hlw
  have Hll := Lib.hid hll
  clear h hl hlw hll
  have c0 := hX1.out.c0
  have c1 := hX1.out.c1
  have hlt2 := hX1.out.lt
  go_enter Try.func48, Try.ntmps48
  go_wp2_with fail
  generalize (w.alloc (.cells #[.slice aP nP cP, .slice aW nW cW, .slice aL nL cL] 35)) = w2 at *
  refine (spec_l2Good _ _ _ _ _ _ ps ws _ (H.out.t.below hb1)).mono ?_
  rintro e w3 ⟨rfl, hb3⟩
  have hX3 := hX1.out.below hb3
  have d0 := hX3.c0
  have d2 := hX3.c2
  have hb13 := hb1.trans (hb3.mono hb1.size)
  clear hX1 hX3 c0 c1 hb3
  cases hT : treeB ps ws
  · have Hv := Lib.hid (mkt_no1 (l := l) hT)
    clear hT
    go_wp2_with fail
    go_ret
    exact ⟨by rw [Hv.out]; rfl, hb13⟩
  have HT := Lib.hid hT
  clear hT
  by_cases he : nL = nP
  rotate_left
  · have Hv := Lib.hid (mkt_no2 (ps := ps) (ws := ws) (l := l) (by rw [Hll.out, Hl.out]; exact he))
    have heb : ((nL : Int) != (nP : Int)) = true := by rw [bne_iff_ne]; omega
    clear he
    go_wp2_with fail
    go_ret
    exact ⟨by rw [Hv.out]; rfl, hb13⟩
  subst he
  go_wp2_with fail
  go_loop [3] (fun v4 => ∃ i : Nat, i ≤ nL ∧ v4 = .int .i64 (i : Int) ∧ ∀ j, j < i → inB (nth l j) 0 20 = true) (fun v4 => nL - (intOf v4).toNat)
  case atStart => exact ⟨0, Nat.zero_le _, rfl, fun j hj => by omega⟩
  case round =>
    obtain ⟨i, hi, rfl, hall⟩ := hrel
    have Hall := Lib.hid hall
    clear hall
    by_cases hlt : (i : Int) < nL
    · obtain ⟨b, off, rfl, hc⟩ := H.out.l.at (i := i) hb13 (by omega)
      cases hin : inB (nth l i) 0 20
      · have Hv := Lib.hid (mkt_no3 (ps := ps) (ws := ws) (all_f (i := i) (by have := Hll.out; omega) hin))
        have Hin := Lib.hid hin
        generalize nth l i = u at *
        clear hin
        go_wp2_with (go_at_call 45; refine (spec_l1In _ _ _ _).mono ?_; rintro e w' ⟨rfl, rfl⟩; rw [Hin.out])
        go_ret
        exact ⟨by rw [Hv.out]; rfl, hb13⟩
      · have Hin := Lib.hid hin
        have Hin2 := Lib.hid hin
        generalize hu : nth l i = u at hc Hin
        clear hin hu
        go_wp2_with (go_at_call 45; refine (spec_l1In _ _ _ _).mono ?_; rintro e w' ⟨rfl, rfl⟩; rw [Hin.out])
        go_round
        case rel => exact ⟨i + 1, by omega, by go_num, fun j hj => by
          by_cases e : j = i
          · subst e; exact Hin2.out
          · exact Hall.out j (by omega)⟩
        case measure => simp [intOf]; omega
    · obtain rfl : i = nL := by omega
      have Hv := Lib.hid (mkt_yes HT.out (by rw [Hll.out, Hl.out]) (all_t fun j hj => Hall.out j (by have := Hll.out; omega)))
      go_wp2_with fail
      go_ret
      exact ⟨by rw [Hv.out]; rfl, hb13⟩
end Go.Proofs.Ytcoakeedgngogaa
