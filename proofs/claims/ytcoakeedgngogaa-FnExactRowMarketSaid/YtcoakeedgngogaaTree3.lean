/- Contracts on trees: children, is a tree valid, by the reference. -/
import Derived.Test.YtcoakeedgngogaaTree1
namespace Go.Proofs.Ytcoakeedgngogaa
open Go.RowKit

theorem len_kids (ps : List Int) (x : Nat) : (((kids ps x).length : Int) == 0) = endB ps x := by
  rw [endB_kids]
  cases h : kids ps x with
  | nil => rfl
  | cons a l => simp; omega
set_option maxRecDepth 100000 in
set_option maxHeartbeats 1000000 in
theorem spec_l2Kids (aP : Option Addr) (nP cP : Nat) (aW : Option Addr) (nW cW : Nat) (ps ws : List Int) (x : Int) (w : World) (h : Tre w aP nP cP aW nW cW ps ws) (hp : Pa ps) (hx : 0 ≤ x ∧ x < nP) :
    Calls Try.prog 47 #[.agg #[.slice aP nP cP, .slice aW nW cW], .int .i64 x] w fun e w' => ∃ v, e = .returned v ∧ Own w' w.heap.size v (kids ps x.toNat) ∧ Below w.heap.size w w' := by
  obtain ⟨X, rfl⟩ : ∃ X : Nat, x = X := ⟨x.toNat, by omega⟩
  rw [Int.toNat_natCast]
  have hl := h.p.1
  have hn24 := hp.n24
  have hb1 := below_new w (.cells #[.slice aP nP cP, .slice aW nW cW] 33)
  have hP1 := Lib.hid (Pair.new w (.slice aP nP cP) (.slice aW nW cW) 33)
  have H := Lib.hid h
  have Hp := Lib.hid hp
  have Hl := Lib.hid hl
  have hnP : nP ≤ 24 := by omega
  clear h hp hl hn24
  go_enter Try.func47, Try.ntmps47
  go_wp2_with fail
  have hnil := own_nil0 (w.alloc (.cells #[.slice aP nP cP, .slice aW nW cW] 33))
  rw [show (w.alloc (.cells #[.slice aP nP cP, .slice aW nW cW] 33)).heap.size = w.heap.size + 1 by simp] at hnil
  have hb2 : Below w.heap.size w ((w.alloc (.cells #[.slice aP nP cP, .slice aW nW cW] 33)).alloc (.cells #[] 3)) := hb1.alloc (by simp) _
  have hP2 := Lib.hid (hP1.out.alloc (.cells #[] 3))
  generalize ((w.alloc (.cells #[.slice aP nP cP, .slice aW nW cW] 33)).alloc (.cells #[] 3)) = w2 at *
  clear hP1 hb1
  go_loopw [5, 6] (fun v5 v6 wr => ∃ k : Nat, X + 1 ≤ k ∧ k ≤ nP ∧ v6 = .int .i64 (k : Int) ∧ Own wr (w.heap.size + 1) v5 (filt (fun y => nth ps y == (X : Int)) k) ∧ Pair wr w.heap.size (.slice aP nP cP) (.slice aW nW cW) ∧ Below w.heap.size w wr) (fun _ v6 _ => nP - (intOf v6).toNat)
  case atStart => exact ⟨X + 1, Nat.le_refl _, by omega, by go_num, by rw [kids_low Hp.out (Nat.le_refl _) (by have := Hl.out; omega)]; exact hnil, hP2.out, hb2⟩
  case round =>
    obtain ⟨k, hk1, hk2, rfl, hown, hP, hbel⟩ := hrel
    clear hnil hP2 hb2
    have c0 := hP.c0
    have HP := Lib.hid hP
    clear hP
    by_cases hlt : (k : Int) < nP
    · obtain ⟨b, off, rfl, hc⟩ := H.out.p.at (i := k) hbel (by omega)
      have hlen := filt_length (fun y => nth ps y == (X : Int)) k
      have hle : w.heap.size + 1 ≤ wr.heap.size := by have := HP.out.lt; omega
      cases he : (nth ps k == (X : Int))
      · have hf := filt_f (p := fun y => nth ps y == (X : Int)) (k := k) he
        have Hf := Lib.hid hf
        generalize nth ps k = q at *
        clear hf
        go_wp2_with fail
        go_roundw
        case rel => exact ⟨k + 1, by omega, by omega, by go_num, by rw [Hf.out]; exact hown, HP.out, hbel⟩
        case measure => simp [intOf]; omega
      · have hf := filt_t (p := fun y => nth ps y == (X : Int)) (k := k) he
        have Hf := Lib.hid hf
        generalize nth ps k = q at *
        clear hf
        go_wp2_with (at_builtin; refine wp_push (.tmp 24) (.tmp 26) rfl rfl (w.heap.size + 1) _ _ rfl hown rfl (by omega) hle ?_; intro v' w' ho hb)
        go_roundw
        case rel => exact ⟨k + 1, by omega, by omega, by go_num, by rw [Hf.out]; exact ho, HP.out.up hb (by omega), hbel.trans (hb.mono (by omega))⟩
        case measure => simp [intOf]; omega
    · obtain rfl : k = nP := by omega
      go_wp2_with fail
      go_ret
      exact ⟨_, rfl, by have : kids ps X = filt (fun y => nth ps y == (X : Int)) k := by rw [kids, Hl.out]
                        rw [this]; exact hown.mono (by omega), hbel⟩
end Go.Proofs.Ytcoakeedgngogaa
