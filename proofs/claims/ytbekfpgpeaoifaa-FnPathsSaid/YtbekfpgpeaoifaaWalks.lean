/- The function that numbers walks by their places returns the plain list of walkL, for any rule of a function value that answers without writing. -/
import Derived.Test.YtbekfpgpeaoifaaPlW
namespace Go.Proofs.Ytbekfpgpeaoifaa
open Go.RowKit

theorem own_walk0 (w : World) (base : Nat) (hb : base ≤ w.heap.size) :
    Own (w.alloc (.cells ((zv 61).setIfInBounds 30 (.int .i64 1)) 3)) base (.slice (some ⟨w.heap.size, 0, none⟩) 61 61) walk0 := by
  have h := (Own.zeros w base 61 hb (by simp [maxLen])).set (by simp) 30 1
  rwa [World.setCell_alloc_at _ _ _ _ _ rfl] at h

theorem idx2_0 (x y : Value) (w : World) : (Instr.index 47 (.agg #[x, y]) (.int .i64 0)).run Try.prog w = .ok x w := by kernel_rfl
theorem idx2_1 (x y : Value) (w : World) : (Instr.index 47 (.agg #[x, y]) (.int .i64 1)).run Try.prog w = .ok y w := by kernel_rfl
theorem idx2 (i j : Nat) (h : j ≤ 1) (w : World) : (Instr.index 47 (.agg #[.int .i64 ((i : Int) - 30 - 1), .int .i64 ((i : Int) - 30 + 1)]) (.int .i64 (j : Int))).run Try.prog w = .ok (.int .i64 ((i : Int) - 31 + 2 * (j : Int))) w := by
  have : j = 0 ∨ j = 1 := by omega
  rcases this with rfl | rfl
  · have e : (i : Int) - 31 + 2 * ((0 : Nat) : Int) = (i : Int) - 30 - 1 := by omega
    rw [e]; exact idx2_0 _ _ w
  · have e : (i : Int) - 31 + 2 * ((1 : Nat) : Int) = (i : Int) - 30 + 1 := by omega
    rw [e]; exact idx2_1 _ _ w
theorem cf44 (args : Array Value) (W : World) : (callFunc 69 args).run Try.prog W = .ok (.enter 69 args) W := by kernel_rfl
set_option maxHeartbeats 1000000 in
theorem walks_any (m : Nat) (f : FuncId) (caps : Array Value) (may : Int → Int → Bool) (w : World) (h1 : m ≤ 30)
    (hcf : ∀ (args : Array Value) (W : World), (callFunc f args).run Try.prog W = .ok (.enter f args) W)
    (hmay : ∀ (s x : Int) (W : World), Below w.heap.size w W → Calls Try.prog f (#[.int .i64 s, .int .i64 x] ++ caps) W fun e w' => e = .returned (.bool (may s x)) ∧ W = w') :
    Calls Try.prog 65 #[.int .i64 m, .func (.func f) #[] caps] w fun e w' => ∃ v, e = .returned v ∧ Own w' w.heap.size v (walkL may m) ∧ Below w.heap.size w w' := by
  have hmk := mk_lit 61 61 rfl (by omega)
  have hz30 := zv_get 61 30 (by omega)
  have Hmay := Lib.hid hmay
  clear hmay
  go_enter Try.func65, Try.ntmps65
  go_wp2_with fail
  clear hz30
  go_loopw [5, 6] (fun v5 v6 wr => ∃ (k g : Nat), k ≤ m ∧ v6 = .int .i64 ((k : Int) + 1) ∧ v5 = .slice (some ⟨g, 0, none⟩) 61 61 ∧ Own wr w.heap.size (.slice (some ⟨g, 0, none⟩) 61 61) (walkL may k) ∧ Below w.heap.size w wr)
    (fun _ v6 _ => m + 1 - (intOf v6).toNat)
  case atStart => exact ⟨0, _, Nat.zero_le _, rfl, rfl, own_walk0 w _ (Nat.le_refl _), (Below.refl _ _).alloc (Nat.le_refl _) _⟩
  case round =>
    obtain ⟨k, g, hk, rfl, rfl, hown, hbel⟩ := hrel
    have Hown := Lib.hid hown
    clear hown
    obtain ⟨wo, rfl⟩ : ∃ wo : World, wo = wr := ⟨_, rfl⟩
    by_cases hkm : (k : Int) + 1 ≤ m
    · go_wp2_with fail
      have hn7 := Own.zeros wo wo.heap.size 61 (Nat.le_refl _) (by simp [maxLen])
      have hb7 : Below wo.heap.size wo (wo.alloc (.cells (zv 61) 3)) := (Below.refl _ _).alloc (Nat.le_refl _) _
      have hgw : g < wo.heap.size := Hown.out.lt.2
      have hNar := Lib.hid (nar_walk may k)
      have hp2 := pow2_mono k (by omega)
      clear hmk
      go_loopw [23] (fun v23 wi => ∃ i : Nat, i ≤ 61 ∧ v23 = .int .i64 i ∧ Own wi wo.heap.size (.slice (some ⟨wo.heap.size, 0, none⟩) 61 61) (partL (may ((k : Int) + 1)) (walkL may k) i) ∧ Below wo.heap.size wo wi)
        (fun v23 _ => 61 - (intOf v23).toNat)
      case atStart => exact ⟨0, Nat.zero_le _, rfl, by rw [partL_zero]; exact hn7, hb7⟩
      case round =>
        obtain ⟨i, hi, rfl, hown7, hbel7⟩ := hrel
        have Hown7 := Lib.hid hown7
        clear hown7
        obtain ⟨wi, rfl⟩ : ∃ wi : World, wi = wr := ⟨_, rfl⟩
        by_cases hlt : i < 61
        · have hlt' : (i : Int) < 61 := by omega
          have hcell : wi.cell? ⟨g, i, none⟩ = some (.int .i64 (nth (walkL may k) i)) := (hbel7.cell (p := ⟨g, i, none⟩) hgw).trans (Hown.out.cell (by rw [walkL_length]; exact hlt))
          have hnar := hNar.out i
          obtain ⟨c, hc⟩ : ∃ c, c = nth (walkL may k) i := ⟨_, rfl⟩
          rw [← hc] at hcell hnar
          have Hc := Lib.hid hc
          clear hc
          by_cases hc0 : c = 0
          · have hc0' : (c == 0) = true := by simpa using hc0
            go_wp2_with fail
            go_roundw
            case rel =>
              refine ⟨i + 1, by omega, by go_num, ?_, hbel7⟩
              rw [partL_skip _ _ _ (by rw [← Hc.out]; exact hc0)]
              exact Hown7.out
            case measure => simp [intOf]; omega
          · have hc0' : (c == 0) = false := by simpa using hc0
            have hi1 : 1 ≤ i ∧ i ≤ 59 := by omega
            go_wp2_with fail
            clear hcell
            obtain ⟨Q, hQ⟩ : ∃ Q, Q = midL (may ((k : Int) + 1)) (walkL may k) i c := ⟨_, rfl⟩
            have HQ := Lib.hid hQ
            have hQ0 : Own wi wo.heap.size (.slice (some ⟨wo.heap.size, 0, none⟩) 61 61) (Q 0) := by rw [hQ]; exact Hown7.out
            clear hQ
            go_loopw [37] (fun v37 wx => ∃ j : Nat, j ≤ 2 ∧ v37 = .int .i64 j ∧ Own wx wo.heap.size (.slice (some ⟨wo.heap.size, 0, none⟩) 61 61) (Q j) ∧ Below wo.heap.size wo wx)
              (fun v37 _ => 2 - (intOf v37).toNat)
            case atStart => exact ⟨0, Nat.zero_le _, rfl, hQ0, hbel7⟩
            case round =>
              obtain ⟨j, hj, rfl, hownQ, hbelQ⟩ := hrel
              clear hQ0
              have HownQ := Lib.hid hownQ
              clear hownQ
              obtain ⟨wx, rfl⟩ : ∃ wx : World, wx = wr := ⟨_, rfl⟩
              by_cases hj2 : j < 2
              · have hj2' : (j : Int) < 2 := by omega
                have hix := idx2 i j (by omega)
                have hcl : (Q j).length = 61 := by rw [HQ.out]; exact midL_length _ _ _ _ _
                obtain ⟨q, hq⟩ : ∃ q, q = nth (Q j) (i - 1 + 2 * j) := ⟨_, rfl⟩
                have hqb : 0 ≤ q ∧ q ≤ 2147483648 := by
                  have := midL_bd (c := c) (may := may ((k : Int) + 1)) (hNar.out) hi1.1 hi1.2 j (by omega)
                  rw [hq, HQ.out]; omega
                have hcq : wx.cell? ⟨wo.heap.size, ((i : Int) - 31 + 2 * (j : Int) + 30).toNat, none⟩ = some (.int .i64 q) := by
                  rw [show ((i : Int) - 31 + 2 * (j : Int) + 30).toNat = i - 1 + 2 * j by omega, hq]; exact HownQ.out.cell (by omega)
                have hfr := HownQ.out.free hcl.symm ((i : Int) - 31 + 2 * (j : Int) + 30).toNat
                have hset := HownQ.out.set hcl.symm (i - 1 + 2 * j) (q + c)
                have Hset := Lib.hid hset
                have Hq := Lib.hid hq
                have Hcl := Lib.hid hcl
                clear hset hq hcl
                go_wp2_with fail
                refine (Hmay.out _ _ _ (hbel.trans (hbelQ.mono (by have := hbel.size; omega)))).mono ?_
                rintro e w1 ⟨rfl, rfl⟩
                by_cases hb1 : may ((k : Int) + 1) ((i : Int) - 31 + 2 * (j : Int)) = true
                · rw [hb1]
                  go_wp2_with fail
                  go_roundw
                  case rel =>
                    refine ⟨j + 1, by omega, by go_num, ?_, hbelQ.setCell (Nat.le_refl _) _⟩
                    rw [show ((i : Int) - 31 + 2 * (j : Int) + 30).toNat = i - 1 + 2 * j by omega, show Q (j + 1) = (Q j).set (i - 1 + 2 * j) (q + c) by rw [HQ.out, midL, hb1, Hq.out, HQ.out]; rfl]
                    exact Hset.out
                  case measure => simp [intOf]; omega
                · have hb1' : may ((k : Int) + 1) ((i : Int) - 31 + 2 * (j : Int)) = false := by simpa using hb1
                  rw [hb1']
                  go_wp2_with fail
                  go_roundw
                  case rel =>
                    refine ⟨j + 1, by omega, by go_num, ?_, hbelQ⟩
                    rw [show Q (j + 1) = Q j by rw [HQ.out, midL, hb1']; rfl]
                    exact HownQ.out
                  case measure => simp [intOf]; omega
              · obtain rfl : j = 2 := by omega
                go_wp2_with fail
                go_roundw
                case rel =>
                  refine ⟨i + 1, by omega, by go_num, ?_, hbelQ⟩
                  rw [← midL_two _ _ _ _ Hc.out hi1.1 hi1.2, ← HQ.out]
                  exact HownQ.out
                case measure => simp [intOf]; omega
        · obtain rfl : i = 61 := by omega
          go_wp2_with fail
          go_roundw
          case rel =>
            refine ⟨k + 1, _, by omega, by go_num, rfl, ?_, hbel.trans (hbel7.mono hbel.size)⟩
            rw [walkL, ← partL_all _ _ (walkL_length _ _)]
            exact Hown7.out.mono hbel.size
          case measure => simp [intOf]; omega
    · go_wp2_with fail
      go_ret
      obtain rfl : k = m := by omega
      exact ⟨_, rfl, Hown.out, hbel⟩

theorem impl_walks (m : Int) (f : FuncId) (caps : Array Value) (may : Int → Int → Bool) (w : World) (h0 : 0 ≤ m) (h1 : m ≤ 30)
    (hcf : ∀ (args : Array Value) (W : World), (callFunc f args).run Try.prog W = .ok (.enter f args) W)
    (hmay : ∀ (s x : Int) (W : World), Below w.heap.size w W → Calls Try.prog f (#[.int .i64 s, .int .i64 x] ++ caps) W fun e w' => e = .returned (.bool (may s x)) ∧ W = w') :
    Calls Try.prog 65 #[.int .i64 m, .func (.func f) #[] caps] w fun e w' => ∃ v, e = .returned v ∧ Own w' w.heap.size v (walkL may m.toNat) ∧ Below w.heap.size w w' := by
  obtain ⟨n, rfl⟩ : ∃ n : Nat, m = n := ⟨m.toNat, by omega⟩
  exact walks_any n f caps may w (by omega) hcf hmay
end Go.Proofs.Ytbekfpgpeaoifaa
