/- Contracts on trees: lists of a number for each node, children, ends, depths. -/
import Derived.Test.YtcoakeedgngogaaTree2
import Derived.Test.YtcoakeedgngogaaTree4
import Derived.Test.YtcoakeedgngogaaAllW
namespace Go.Proofs.Ytcoakeedgngogaa
open Go.RowKit

/-- Are these so many numbers that may be paid? -/
def procB (n : Nat) (xs : List Int) : Bool := (xs.length == n) && allIn xs (-999) 999
def paysB (ps ws xs : List Int) : Bool := treeB ps ws && procB ps.length xs
theorem pays_all {ps ws xs : List Int} (h : allIn xs (-999) 999 = false) : paysB ps ws xs = false := by rw [paysB, procB, h]; simp
theorem pays_yes {ps ws xs : List Int} (h : allIn xs (-999) 999 = true) : paysB ps ws xs = (treeB ps ws && (xs.length == ps.length)) := by rw [paysB, procB, h]; simp
theorem procB_t {n : Nat} {xs : List Int} (h : procB n xs = true) : xs.length = n ∧ ∀ i, -999 ≤ nth xs i ∧ nth xs i ≤ 999 := by
  simp only [procB, Bool.and_eq_true, beq_iff_eq] at h
  refine ⟨h.1, fun i => ?_⟩
  by_cases hi : i < xs.length
  · exact inB_t (all_get h.2 hi)
  · rw [nth_ge (by omega)]; omega
set_option maxRecDepth 100000 in
set_option maxHeartbeats 400000 in
theorem impl_isProcess (aP : Option Addr) (nP cP : Nat) (aW : Option Addr) (nW cW : Nat) (ps ws : List Int) (aL : Option Addr) (nL cL : Nat) (l : List Int) (w : World) (h : Tre w aP nP cP aW nW cW ps ws) (hL : Ints w aL nL l) (hn : nL ≤ 1048576) :
    Calls Try.prog 70 #[.agg #[.slice aP nP cP, .slice aW nW cW], .slice aL nL cL] w fun e w' => e = .returned (.bool (procB ps.length l)) ∧ Below w.heap.size w w' := by
  have hl := h.p.1
  have hlw := h.w.1
  have hpn := h.pn
  have hwn := h.wn
  have hb1 := below_new w (.cells #[.slice aP nP cP, .slice aW nW cW] 33)
  have hP1 := Lib.hid (Pair.new w (.slice aP nP cP) (.slice aW nW cW) 33)
  have H := Lib.hid h
  have Hl := Lib.hid hl
  have Hlw := Lib.hid hlw
  clear h hl hlw
  have hll := Lib.hid hL.1
  have HL := Lib.hid (hL.below hb1)
  clear hL
  have c0 := hP1.out.c0
  have c1 := hP1.out.c1
  by_cases he : nL = nP
  · have hv : procB ps.length l = allIn l (-999) 999 := by rw [procB, hll.out, Hl.out, he]; simp
    have heb : ((nL : Int) == (nP : Int)) = true := by simp [he]
    rw [hv]
    generalize hA : allIn l (-999) 999 = A
    have HA := Lib.hid hA
    clear hA he hv
    go_enter Try.func70, Try.ntmps70
    go_wp2_with (go_at_call 41; refine (impl_allWithin _ _ _ _ _ l _ (by omega) HL.out).mono ?_; rintro e w' ⟨rfl, rfl⟩; rw [HA.out])
    go_ret
    exact ⟨rfl, hb1⟩
  · have hv : procB ps.length l = false := by rw [procB, hll.out, Hl.out]; simp [he]
    have heb : ((nL : Int) == (nP : Int)) = false := by rw [beq_eq_false_iff_ne]; omega
    rw [hv]
    clear he hv
    go_enter Try.func70, Try.ntmps70
    go_wp2_with fail
    go_ret
    exact ⟨rfl, hb1⟩
set_option maxRecDepth 100000 in
set_option maxHeartbeats 1000000 in
theorem spec_l4Pays (aP : Option Addr) (nP cP : Nat) (aW : Option Addr) (nW cW : Nat) (ps ws : List Int) (aL : Option Addr) (nL cL : Nat) (l : List Int) (w : World) (h : Tre w aP nP cP aW nW cW ps ws) (hL : Ints w aL nL l) (hn : nL ≤ 1048576) :
    Calls Try.prog 52 #[.agg #[.slice aP nP cP, .slice aW nW cW], .slice aL nL cL] w fun e w' => e = .returned (.bool (paysB ps ws l)) ∧ Below w.heap.size w w' := by
  have hl := h.p.1
  have hlw := h.w.1
  have hpn := h.pn
  have hwn := h.wn
  have hb1 := below_new w (.cells #[.slice aP nP cP, .slice aW nW cW] 33)
  have hP1 := Lib.hid (Pair.new w (.slice aP nP cP) (.slice aW nW cW) 33)
  have H := Lib.hid h
  have Hl := Lib.hid hl
  have Hlw := Lib.hid hlw
  clear h hl hlw
  have hll := Lib.hid hL.1
  have HL := Lib.hid (hL.below hb1)
  clear hL
  have c0 := hP1.out.c0
  have c1 := hP1.out.c1
  have hlt2 := hP1.out.lt
  go_enter Try.func52, Try.ntmps52
  go_wp2_with fail
  generalize (w.alloc (.cells #[.slice aP nP cP, .slice aW nW cW] 33)) = w2 at *
  go_loop [5] (fun v5 => ∃ i : Nat, i ≤ nL ∧ v5 = .int .i64 (i : Int) ∧ ∀ j, j < i → inB (nth l j) (-999) 999 = true) (fun v5 => nL - (intOf v5).toNat)
  case atStart => exact ⟨0, Nat.zero_le _, rfl, fun j hj => by omega⟩
  case round =>
    obtain ⟨i, hi, rfl, hall⟩ := hrel
    have Hall := Lib.hid hall
    clear hall
    by_cases hlt : (i : Int) < nL
    · obtain ⟨b, off, rfl, hc⟩ := HL.out.at (i := i) (Below.refl _ _) (by omega)
      cases hin : inB (nth l i) (-999) 999
      · have hv := pays_all (ps := ps) (ws := ws) (all_f (i := i) (by have := hll.out; omega) hin)
        have Hv := Lib.hid hv
        have Hin := Lib.hid hin
        generalize nth l i = u at *
        clear hv hin
        go_wp2_with (go_at_call 45; refine (spec_l1In _ _ _ _).mono ?_; rintro e w' ⟨rfl, rfl⟩; rw [Hin.out])
        go_ret
        exact ⟨by rw [Hv.out]; rfl, hb1⟩
      · have Hin := Lib.hid hin
        have Hin2 := Lib.hid hin
        generalize hu : nth l i = u at hc Hin
        clear hin hu
        go_wp2_with (go_at_call 45; refine (spec_l1In _ _ _ _).mono ?_; rintro e w' ⟨rfl, rfl⟩; rw [Hin.out])
        go_round
        case rel => exact ⟨i + 1, by omega, by go_num, fun j hj => by
          by_cases e : j = i
          · subst e; exact Hin2.out
          · exact Hall.out j (by omega)⟩
        case measure => simp [intOf]; omega
    · obtain rfl : i = nL := by omega
      have hA : allIn l (-999) 999 = true := all_t fun j hj => Hall.out j (by have := hll.out; omega)
      have Hv := Lib.hid (pays_yes (ps := ps) (ws := ws) hA)
      clear hA
      have hpe : Hid ((l.length == ps.length) = decide (i = nP)) := Lib.hid (by rw [hll.out, Hl.out]; rfl)
      go_wp2_with fail
      refine (spec_l2Good _ _ _ _ _ _ ps ws _ (H.out.below hb1)).mono ?_
      rintro e w3 ⟨rfl, hb3⟩
      have d0 := (hb3.cell (p := ⟨w.heap.size, 0, none⟩) hlt2).trans c0
      have hb13 := hb1.trans (hb3.mono hb1.size)
      cases hT : treeB ps ws
      · have HT := Lib.hid hT
        clear hT
        go_wp2_with fail
        go_ret
        exact ⟨by rw [Hv.out, HT.out]; rfl, hb13⟩
      · have HT := Lib.hid hT
        clear hT
        by_cases he : i = nP
        · have heb : ((i : Int) == (nP : Int)) = true := by simp [he]
          have He := Lib.hid he
          clear he
          go_wp2_with fail
          go_ret
          exact ⟨by rw [Hv.out, HT.out, hpe.out, He.out]; simp, hb13⟩
        · have heb : ((i : Int) == (nP : Int)) = false := by rw [beq_eq_false_iff_ne]; omega
          have He := Lib.hid he
          clear he
          go_wp2_with fail
          go_ret
          exact ⟨by rw [Hv.out, HT.out, hpe.out, decide_eq_false He.out]; rfl, hb13⟩
set_option maxRecDepth 100000 in
set_option maxHeartbeats 1000000 in
theorem impl_children (aP : Option Addr) (nP cP : Nat) (aW : Option Addr) (nW cW : Nat) (ps ws : List Int) (x : Int) (w : World) (h : Tre w aP nP cP aW nW cW ps ws) (hp : Pa ps) (hx : 0 ≤ x) :
    Calls Try.prog 75 #[.agg #[.slice aP nP cP, .slice aW nW cW], .int .i64 x] w fun e w' => ∃ v, e = .returned v ∧ Own w' w.heap.size v (kids ps x.toNat) ∧ Below w.heap.size w w' := by
  obtain ⟨X, rfl⟩ : ∃ X : Nat, x = X := ⟨x.toNat, by omega⟩
  rw [Int.toNat_natCast]
  have Hp := Lib.hid hp
  have hn24 := hp.n24
  have hl := h.p.1
  have hlw := h.w.1
  have hpn := h.pn
  have hwn := h.wn
  have hb1 := below_new w (.cells #[.slice aP nP cP, .slice aW nW cW] 33)
  have hP1 := Lib.hid (Pair.new w (.slice aP nP cP) (.slice aW nW cW) 33)
  have H := Lib.hid h
  have Hl := Lib.hid hl
  have Hlw := Lib.hid hlw
  clear h hl hlw
  have hnP : nP ≤ 24 := by have := Hl.out; omega
  clear hp hn24
  go_enter Try.func75, Try.ntmps75
  go_wp2_with fail
  have hnil := own_nil0 (w.alloc (.cells #[.slice aP nP cP, .slice aW nW cW] 33))
  rw [show (w.alloc (.cells #[.slice aP nP cP, .slice aW nW cW] 33)).heap.size = w.heap.size + 1 by simp] at hnil
  have hb2 : Below w.heap.size w ((w.alloc (.cells #[.slice aP nP cP, .slice aW nW cW] 33)).alloc (.cells #[] 3)) := hb1.alloc (by simp) _
  have hs2 : ((w.alloc (.cells #[.slice aP nP cP, .slice aW nW cW] 33)).alloc (.cells #[] 3)).heap.size = w.heap.size + 2 := by simp
  generalize ((w.alloc (.cells #[.slice aP nP cP, .slice aW nW cW] 33)).alloc (.cells #[] 3)) = w2 at *
  go_loopw [5, 12] (fun v5 v12 wr => ∃ k : Nat, k ≤ nP ∧ v12 = .int .i64 (k : Int) ∧ Own wr (w.heap.size + 1) v5 (filt (fun y => nth ps y == (X : Int)) k) ∧ Below w.heap.size w wr ∧ w.heap.size + 1 ≤ wr.heap.size) (fun _ v12 _ => nP - (intOf v12).toNat)
  case atStart => exact ⟨0, Nat.zero_le _, rfl, hnil, hb2, by omega⟩
  case round =>
    clear hnil hb2 hs2
    obtain ⟨k, hk, rfl, hown, hbel, hsz⟩ := hrel
    by_cases hlt : (k : Int) < nP
    · obtain ⟨b, off, rfl, hc⟩ := H.out.p.at (i := k) hbel (by omega)
      have hlen := filt_length (fun y => nth ps y == (X : Int)) k
      cases he : (nth ps k == (X : Int))
      · have hf := filt_f (p := fun y => nth ps y == (X : Int)) (k := k) he
        have Hf := Lib.hid hf
        generalize nth ps k = q at *
        clear hf
        go_wp2_with fail
        go_roundw
        case rel => exact ⟨k + 1, by omega, by go_num, by rw [Hf.out]; exact hown, hbel, hsz⟩
        case measure => simp [intOf]; omega
      · have hf := filt_t (p := fun y => nth ps y == (X : Int)) (k := k) he
        have Hf := Lib.hid hf
        generalize nth ps k = q at *
        clear hf
        go_wp2_with (at_builtin; refine wp_push (.tmp 20) (.tmp 22) rfl rfl (w.heap.size + 1) _ _ rfl hown rfl (by omega) hsz ?_; intro v' w' ho hb)
        go_roundw
        case rel => exact ⟨k + 1, by omega, by go_num, by rw [Hf.out]; exact ho, hbel.trans (hb.mono (by omega)), Nat.le_trans hsz hb.size⟩
        case measure => simp [intOf]; omega
    · obtain rfl : k = nP := by omega
      go_wp2_with fail
      go_ret
      exact ⟨_, rfl, by rw [kids, Hl.out]; exact hown.mono (by omega), hbel⟩
end Go.Proofs.Ytcoakeedgngogaa
