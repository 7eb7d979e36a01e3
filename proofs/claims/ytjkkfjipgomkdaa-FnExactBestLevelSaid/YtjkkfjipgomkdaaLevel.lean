/- Contracts of the reference: the rule of a level. -/
import Derived.Test.YtjkkfjipgomkdaaStop
import Derived.Test.YtjkkfjipgomkdaaBo2
import Derived.Test.YtjkkfjipgomkdaaCost
namespace Go.Proofs.Ytjkkfjipgomkdaa
open Go.RowKit

theorem firB_congr {ps : List Int} (h : Pa ps) {S S' : Int → Bool} (hS : ∀ y : Nat, y < ps.length → S y = S' y) : firsts ps S = firsts ps S' := filt_congr fun y hy => by
  unfold firB; rw [stop_congr h hS hy]
/-- What a property of nodes says of a number. -/
def fS (f : Nat → Bool) (y : Int) : Bool := f y.toNat
theorem bS_map {n : Nat} {f : Nat → Bool} {y : Nat} (h : y < n) : bS ((List.range n).map f) (y : Int) = fS f y := by
  unfold bS fS
  rw [Int.toNat_natCast, Bo.nth_map_range h]; simp
theorem map_succ (f : Nat → Bool) (k : Nat) : (List.range (k + 1)).map f = (List.range k).map f ++ [f k] := by rw [List.range_succ, List.map_append]; rfl
/-- Does the rule of a level stop at x? -/
def levB (ps l : List Int) (lev : Int) (x : Nat) : Bool := endB ps x || decide (nth l x ≥ lev)
set_option maxRecDepth 100000 in
set_option maxHeartbeats 2000000 in
theorem spec_l4Level (aP : Option Addr) (nP cP : Nat) (aW : Option Addr) (nW cW : Nat) (ps ws : List Int) (aL : Option Addr) (nL cL : Nat) (l : List Int) (lev : Int) (w : World) (h : Tre w aP nP cP aW nW cW ps ws) (hT : Tr ps ws) (hL : Ints w aL nL l) (hnL : nP = nL) :
    Calls Try.prog 81 #[.agg #[.slice aP nP cP, .slice aW nW cW], .slice aL nL cL, .int .i64 lev] w fun e w' => ∃ v, e = .returned v ∧ Own w' w.heap.size v (firsts ps (fS (levB ps l lev))) ∧ Below w.heap.size w w' := by
  subst hnL
  have HTT := Lib.hid hT
  have hn24 := hT.n24
  have hn1 := hT.n1
  have HT := Lib.hid hT
  have hwl := hT.wl
  have hl := h.p.1
  have hlw := h.w.1
  have hpn := h.pn
  have hwn := h.wn
  have hb1 := below_new w (.cells #[.slice aP nP cP, .slice aW nW cW] 28)
  have hP1 := Lib.hid (Pair.new w (.slice aP nP cP) (.slice aW nW cW) 28)
  have H := Lib.hid h
  have Hl := Lib.hid hl
  have Hlw := Lib.hid hlw
  clear h hl hlw
  have hnW : nW ≤ nP ∧ nP ≤ nW := by have := Hlw.out; have := Hl.out; omega
  have hnP : 1 ≤ nP ∧ nP ≤ 24 := by have := Hl.out; omega
  clear hn24 hn1 hT hwl hpn hwn
  have HL := Lib.hid hL
  have hll := Lib.hid hL.1
  clear hL
  go_enter Try.func81, Try.ntmps81
  go_wp2_with fail
  have hn1 := Bo.own_nil0 (w.alloc (.cells #[.slice aP nP cP, .slice aW nW cW] 28))
  rw [show (w.alloc (.cells #[.slice aP nP cP, .slice aW nW cW] 28)).heap.size = w.heap.size + 1 by simp] at hn1
  have hb2 : Below w.heap.size w ((w.alloc (.cells #[.slice aP nP cP, .slice aW nW cW] 28)).alloc (.cells #[] 4)) := hb1.alloc (by simp) _
  have hs2 : ((w.alloc (.cells #[.slice aP nP cP, .slice aW nW cW] 28)).alloc (.cells #[] 4)).heap.size = w.heap.size + 2 := by simp
  have hP2 := Lib.hid (hP1.out.alloc (.cells #[] 4))
  generalize ((w.alloc (.cells #[.slice aP nP cP, .slice aW nW cW] 28)).alloc (.cells #[] 4)) = w2 at *
  clear hP1 hb1
  go_loopw [7, 8] (fun v7 v8 wr => ∃ k : Nat, k ≤ nP ∧ v8 = .int .i64 (k : Int) ∧ Bo.Own wr (w.heap.size + 1) v7 ((List.range k).map (levB ps l lev)) ∧ Pair wr w.heap.size (.slice aP nP cP) (.slice aW nW cW) ∧ Below w.heap.size w wr ∧ w.heap.size + 1 ≤ wr.heap.size) (fun _ v8 _ => nP - (intOf v8).toNat)
  case atStart => exact ⟨0, Nat.zero_le _, rfl, hn1, hP2.out, hb2, by omega⟩
  case round =>
    clear hn1 hP2 hb2 hs2
    obtain ⟨k, hk, rfl, hown, hP, hbel, hsz⟩ := hrel
    have c0 := hP.c0
    have c1 := hP.c1
    have HP := Lib.hid hP
    clear hP
    by_cases hlt : (k : Int) < nP
    · obtain ⟨bW, oW, rfl, hcW⟩ := H.out.w.at (i := k) hbel (by omega)
      obtain ⟨bL, oL, rfl, hcL⟩ := HL.out.at (i := k) hbel (by omega)
      have hwp : (endB ps k = true → nth ws k > 0) ∧ (endB ps k = false → ¬ nth ws k > 0) := ⟨fun he => by have := HTT.out.leaf k (by have := Hl.out; omega) he; omega, fun he => by have := HTT.out.inner k (by have := Hl.out; omega) he; omega⟩
      have hms := map_succ (levB ps l lev) k
      have hlv : levB ps l lev k = (endB ps k || decide (nth l k ≥ lev)) := rfl
      have hll2 : ((List.range k).map (levB ps l lev)).length ≤ 24 := by simp; omega
      generalize (List.range k).map (levB ps l lev) = bsk at *
      generalize levB ps l lev k = bk at *
      generalize nth ws k = u at *
      generalize nth l k = p at *
      have Hms := Lib.hid hms
      clear hms
      cases he : endB ps k
      · have hu := hwp.2 he
        rw [he, Bool.false_or] at hlv
        by_cases hp : p ≥ lev
        · rw [decide_eq_true hp] at hlv
          subst hlv
          clear hwp he
          go_wp2_with (at_builtin; refine Bo.wp_push2 _ _ rfl rfl (w.heap.size + 1) _ _ rfl hown rfl (by omega) hsz ?_; intro v' w' ho hb hm)
          go_roundw
          case rel => exact ⟨k + 1, by omega, by go_num, by rw [Hms.out]; exact ho, HP.out.up hb (by omega), hbel.trans (hb.mono (by omega)), Nat.le_trans hsz hb.size⟩
          case measure => simp [intOf]; omega
        · rw [decide_eq_false hp] at hlv
          subst hlv
          clear hwp he
          go_wp2_with (at_builtin; refine Bo.wp_push2 _ _ rfl rfl (w.heap.size + 1) _ _ rfl hown rfl (by omega) hsz ?_; intro v' w' ho hb hm)
          go_roundw
          case rel => exact ⟨k + 1, by omega, by go_num, by rw [Hms.out]; exact ho, HP.out.up hb (by omega), hbel.trans (hb.mono (by omega)), Nat.le_trans hsz hb.size⟩
          case measure => simp [intOf]; omega
      · have hu := hwp.1 he
        rw [he, Bool.true_or] at hlv
        subst hlv
        clear hwp he
        go_wp2_with (at_builtin; refine Bo.wp_push2 _ _ rfl rfl (w.heap.size + 1) _ _ rfl hown rfl (by omega) hsz ?_; intro v' w' ho hb hm)
        go_roundw
        case rel => exact ⟨k + 1, by omega, by go_num, by rw [Hms.out]; exact ho, HP.out.up hb (by omega), hbel.trans (hb.mono (by omega)), Nat.le_trans hsz hb.size⟩
        case measure => simp [intOf]; omega
    · obtain rfl : k = nP := by omega
      obtain ⟨a7, c7, rfl⟩ := hown.shape
      have hbl : ((List.range k).map (levB ps l lev)).length = k := by simp
      rw [hbl] at hown ⊢
      have HB := Lib.hid hown.bools
      clear hown hbl
      go_wp2_with fail
      refine (spec_l4First _ _ _ _ _ _ ps ws _ _ _ ((List.range k).map (levB ps l lev)) _ (H.out.below hbel) HTT.out.toPa HB.out rfl (fun x hx he => by rw [Bo.nth_map_range (by have := Hl.out; omega), levB, he]; rfl)).mono ?_
      rintro e w4 ⟨v4, rfl, o4, b4⟩
      have Hf : Hid (firsts ps (bS ((List.range k).map (levB ps l lev))) = firsts ps (fS (levB ps l lev))) := Lib.hid (firB_congr HTT.out.toPa fun y hy => bS_map (by have := Hl.out; omega))
      go_wp2_with fail
      go_ret
      exact ⟨_, rfl, by rw [← Hf.out]; exact o4.mono hbel.size, hbel.trans (b4.mono hbel.size)⟩
end Go.Proofs.Ytjkkfjipgomkdaa
