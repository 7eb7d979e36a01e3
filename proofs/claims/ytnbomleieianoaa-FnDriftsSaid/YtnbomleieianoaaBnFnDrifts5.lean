/- Contracts and plain laws for the statement FnDrifts, part 5. No conditions but those stated in each. -/
import Derived.Test.YtnbomleieianoaaBnFnDrifts4
import Derived.Test.YtnbomleieianoaaBnFnDrifts18
import Derived.Test.YtnbomleieianoaaBnFnDrifts2
/- Contract of the reference: a number put to its place, once. -/
namespace Go.Proofs.Ytnbomleieianoaa
open Go.RowKit

set_option maxRecDepth 100000 in
set_option maxHeartbeats 2000000 in
theorem spec_l1Put (a : Option Addr) (n cap : Nat) (p : Nat → Bool) (k Y base : Nat) (w : World) (hk : k ≤ 1048576) (hY : Y < k) (hb : base ≤ w.heap.size) (h : Own w base (.slice a n cap) (filt p k)) :
    Calls Try.prog 91 #[.slice a n cap, .int .i64 (Y : Int)] w fun e w' => ∃ v, e = .returned v ∧ Own w' base v (filt (fun z => p z || z == Y) k) ∧ Below w.heap.size w w' := by
  have hc := h.cap
  have hll := filt_length p k
  obtain ⟨A, B, h1, h2, h3, h4, h5⟩ := filt_or (p := p) (y := Y) hY
  obtain ⟨R, hR⟩ : ∃ R, R = A ++ (if p Y then B else (Y : Int) :: B) := ⟨_, rfl⟩
  rw [h5, ← hR]
  have HR := Lib.hid hR
  rw [h1] at h hc hll
  clear h1 h5 hR
  have H := Lib.hid h
  have HI := Lib.hid h.ints
  have hA : ∀ i, i < A.length → nth (A ++ B) i < (Y : Int) := fun i hi => by rw [nth_append_l hi]; exact h2 _ (nth_mem hi)
  have HA := Lib.hid hA
  have H3 := Lib.hid h3
  have H4 := Lib.hid h4
  have hlen : n = A.length + B.length := by rw [← List.length_append]; exact hc.2.2.1
  have hAl : A.length ≤ 1048576 := by have := hc.2.2.1; omega
  have hn2 : n ≤ 1048576 := by have := hc.2.2.1; omega
  have hcc := hc.2.2.2
  have hnc := hc.1
  have Hcap := Lib.hid hc.2.1
  have Hlen := Lib.hid hlen
  have HA0 : Hid (Ints w a A.length A) := Lib.hid (by have := HI.out.take (k := A.length) (by omega); rwa [List.take_left' rfl] at this)
  clear h h2 h3 h4 hA hll hc hlen
  rw [show maxLen = 9223372036854775807 from rfl] at hcc
  go_enter Try.func91, Try.ntmps91
  go_wp2_with fail
  go_loop [5] (fun v5 => ∃ i : Nat, i ≤ A.length ∧ v5 = .int .i64 (i : Int)) (fun v5 => A.length - (intOf v5).toNat)
  case atStart => exact ⟨0, Nat.zero_le _, rfl⟩
  case round =>
    obtain ⟨i, hi, rfl⟩ := hrel
    by_cases hlt : i < A.length
    · obtain ⟨b, off, rfl, hcl⟩ := HI.out.at (i := i) (Below.refl _ _) (by have := Hlen.out; omega)
      have hv := HA.out i hlt
      have hin : (i : Int) < n := by have := Hlen.out; omega
      generalize nth (A ++ B) i = u at *
      go_wp2_with fail
      go_round
      case rel => exact ⟨i + 1, by omega, by go_num⟩
      case measure => simp [intOf]; omega
    · obtain rfl : i = A.length := by omega
      clear hlt hi
      cases hB : B with
      | nil =>
        subst hB
        have hp : p Y = false := by
          cases hp : p Y
          · rfl
          · obtain ⟨b', hb', _⟩ := H3.out hp; cases hb'
        have Hp := Lib.hid hp
        clear hp
        obtain rfl : n = A.length := by have := Hlen.out; simpa using this
        have hin : ¬ ((A.length : Int) < (A.length : Int)) := by omega
        cases a with
        | none =>
          have hz : A.length = 0 := by
            rcases Nat.eq_zero_or_pos A.length with h0 | h0
            · exact h0
            · obtain ⟨b, off, he, _⟩ := HA0.out.2 h0; cases he
          obtain rfl := Hcap.out rfl
          obtain rfl : A = [] := List.length_eq_zero_iff.1 hz
          clear hz
          go_wp2_with fail
          refine wp_region_noPanic ?_
          refine wp_region_held_drew (S := (fun _ => True)) (by kernel_rfl) ?_ (fun hHeld0 => ?_)
          · trivial
          refine takeH (i := 1) (oi := _) (v := ?_) rfl (by kernel_rfl) (by kernel_rfl) (by kernel_rfl) (fun _ _ _ h => h) (Or.inl ⟨by rfl, ?_⟩) (by assumption) ?_
          rotate_left
          · first | (intro w hSw; (try dsimp only at hSw); go_simp; done) | (intro w hSw; (try dsimp only at hSw); go_simp; with_reducible rfl)
          (try simp only [Act.put, List.setIfInBounds_toArray, List.set_cons_zero, List.set_cons_succ])
          refine takeH (i := 2) (oi := _) (v := ?_) rfl (by kernel_rfl) (by kernel_rfl) (by kernel_rfl) (fun _ _ _ h => h) (Or.inl ⟨by rfl, ?_⟩) (by assumption) ?_
          rotate_left
          · first | (intro w hSw; (try dsimp only at hSw); go_simp; done) | (intro w hSw; (try dsimp only at hSw); go_simp; with_reducible rfl)
          (try simp only [Act.put, List.setIfInBounds_toArray, List.set_cons_zero, List.set_cons_succ])
          refine takeH (i := 3) (oi := _) (v := ?_) rfl (by kernel_rfl) (by kernel_rfl) (by kernel_rfl) (fun _ _ _ h => h) (Or.inl ⟨by rfl, ?_⟩) (by assumption) ?_
          rotate_left
          · first | (intro w hSw; (try dsimp only at hSw); go_simp; done) | (intro w hSw; (try dsimp only at hSw); go_simp; with_reducible rfl)
          (try simp only [Act.put, List.setIfInBounds_toArray, List.set_cons_zero, List.set_cons_succ])
          refine takeH (i := 5) (oi := _) (v := ?_) rfl (by kernel_rfl) (by kernel_rfl) (by kernel_rfl) (fun _ _ _ h => h) (Or.inl ⟨by rfl, ?_⟩) (by assumption) ?_
          rotate_left
          · first | (intro w hSw; (try dsimp only at hSw); go_simp; done) | (intro w hSw; (try dsimp only at hSw); go_simp; with_reducible rfl)
          (try simp only [Act.put, List.setIfInBounds_toArray, List.set_cons_zero, List.set_cons_succ])
          refine takeH (i := 8) (oi := _) (v := ?_) rfl (by kernel_rfl) (by kernel_rfl) (by kernel_rfl) (fun _ _ _ h => h) (Or.inl ⟨by rfl, ?_⟩) (by assumption) ?_
          rotate_left
          · first | (intro w hSw; (try dsimp only at hSw); go_simp; done) | (intro w hSw; (try dsimp only at hSw); go_simp; with_reducible rfl)
          (try simp only [Act.put, List.setIfInBounds_toArray, List.set_cons_zero, List.set_cons_succ])
          refine takeH (i := 9) (oi := _) (v := ?_) rfl (by kernel_rfl) (by kernel_rfl) (by kernel_rfl) (fun _ _ _ h => h) (Or.inl ⟨by rfl, ?_⟩) (by assumption) ?_
          rotate_left
          · first | (intro w hSw; (try dsimp only at hSw); go_simp; done) | (intro w hSw; (try dsimp only at hSw); go_simp; with_reducible rfl)
          (try simp only [Act.put, List.setIfInBounds_toArray, List.set_cons_zero, List.set_cons_succ])
          refine takeH (i := 10) (oi := _) (v := ?_) rfl (by kernel_rfl) (by kernel_rfl) (by kernel_rfl) (fun _ _ _ h => h) (Or.inl ⟨by rfl, ?_⟩) (by assumption) ?_
          rotate_left
          · first | (intro w hSw; (try dsimp only at hSw); go_simp; done) | (intro w hSw; (try dsimp only at hSw); go_simp; with_reducible rfl)
          (try simp only [Act.put, List.setIfInBounds_toArray, List.set_cons_zero, List.set_cons_succ])
          refine wpAnyH_ready (rs := [0, 6]) (by kernel_rfl) (by simp) ?_
          refine consM rfl (fun Kq hKq => ?_) (consH rfl (fun Kq hKq => ?_))
          · go_simp
            have L1 : Below w.heap.size w (w.alloc (.cells #[] 3)).drew := (below_new w _).drew
            have N1 : Own (w.alloc (.cells #[] 3)).drew w.heap.size (.slice (some ⟨w.heap.size, 0, none⟩) 0 0) [] := (own_nil0 w).below (Below.refl _ _).drew
            refine hKq.out _ _ ?_ (fun hHeld1 => ?_)
            · trivial
            clear hKq Kq
            (try simp only [Act.put, List.setIfInBounds_toArray, List.set_cons_zero, List.set_cons_succ])
            clear hHeld0
            refine wpAnyH_ready (rs := [4, 6]) (by kernel_rfl) (by simp) ?_
            refine consM rfl (fun Kq hKq => ?_) (consH rfl (fun Kq hKq => ?_))
            · refine step_appI rfl _ _ rfl w.heap.size _ [] (by rfl) N1 _ _ _ [] (by rfl) ?_ ?_ ?_ ?_ ?_
              · intro h; first | rfl | exact Hcap.out h | cases h
              · exact HA0.out.below L1
              · simp <;> omega
              · have := L1.size; omega
              intro v1 w1 o1 b1 m1
              have L2 := L1.trans b1
              refine hKq.out _ _ ?_ (fun hHeld2 => ?_)
              · trivial
              clear hKq Kq
              (try simp only [Act.put, List.setIfInBounds_toArray, List.set_cons_zero, List.set_cons_succ])
              clear hHeld1
              refine wpAnyH_ready (rs := [6]) (by kernel_rfl) (by simp) ?_
              refine consH rfl (fun Kq hKq => ?_)
              go_simp
              have LT3 := (own_lit1 w1 w.heap.size (Y : Int) L2.size).ints
              have o1' := o1.below (below_new w1 (.cells #[.int .i64 (Y : Int)] 3))
              have L3 := L2.trans (Below.mono (below_new w1 (.cells #[.int .i64 (Y : Int)] 3)) L2.size)
              refine hKq.out _ _ ?_ (fun hHeld3 => ?_)
              · trivial
              clear hKq Kq
              (try simp only [Act.put, List.setIfInBounds_toArray, List.set_cons_zero, List.set_cons_succ])
              clear hHeld2
              refine wpAnyH_ready (rs := [7]) (by kernel_rfl) (by simp) ?_
              refine consH rfl (fun Kq hKq => ?_)
              refine step_appI rfl _ _ rfl w.heap.size _ _ (by rfl) o1' _ _ _ [(Y : Int)] (by rfl) ?_ ?_ ?_ ?_ ?_
              · intro h; first | rfl | exact Hcap.out h | cases h
              · exact LT3
              · simp <;> omega
              · have := L3.size; omega
              intro v2 w2 o2 b2 m2
              have L4 := L3.trans b2
              refine hKq.out _ _ ?_ (fun hHeld4 => ?_)
              · trivial
              clear hKq Kq
              (try simp only [Act.put, List.setIfInBounds_toArray, List.set_cons_zero, List.set_cons_succ])
              clear hHeld3
              refine wpAnyH_ready (rs := [11]) (by kernel_rfl) (by simp) ?_
              refine consH rfl (fun Kq hKq => ?_)
              refine step_appI rfl _ _ rfl w.heap.size _ _ (by rfl) o2 _ _ _ [] (by rfl) ?_ ?_ ?_ ?_ ?_
              · intro h; first | rfl | exact Hcap.out h | cases h
              · exact ints_nil _ _
              · simp <;> omega
              · have := L4.size; omega
              intro v3 w3 o3 b3 m3
              refine hKq.out _ _ ?_ (fun hHeld5 => ?_)
              · trivial
              clear hKq Kq
              (try simp only [Act.put, List.setIfInBounds_toArray, List.set_cons_zero, List.set_cons_succ])
              clear hHeld4
              refine takeH (i := 12) (oi := _) (v := ?_) rfl (by kernel_rfl) (by kernel_rfl) (by kernel_rfl) (fun _ _ _ h => h) (Or.inl ⟨by rfl, ?_⟩) (by assumption) ?_
              rotate_left
              · first | (intro w hSw; (try dsimp only at hSw); go_simp; done) | (intro w hSw; (try dsimp only at hSw); go_simp; with_reducible rfl)
              (try simp only [Act.put, List.setIfInBounds_toArray, List.set_cons_zero, List.set_cons_succ])
              refine wpAnyH_done (by kernel_rfl) ?_ _
              refine NoPanic.normal ?_
              go_wp2_with fail
              go_ret
              exact ⟨_, rfl, by
                have := o3.mono hb
                rw [HR.out, Hp.out, if_neg Bool.false_ne_true]
                simpa using this, L4.trans b3⟩
            · go_simp
              have N2 : Own ((w.alloc (.cells #[] 3)).alloc (.cells #[.int .i64 (Y : Int)] 3)).drew w.heap.size (.slice (some ⟨w.heap.size, 0, none⟩) 0 0) [] := ((own_nil0 w).below (below_new _ _)).below (Below.refl _ _).drew
              have LT2 : Ints ((w.alloc (.cells #[] 3)).alloc (.cells #[.int .i64 (Y : Int)] 3)).drew (some ⟨w.heap.size + 1, 0, none⟩) 1 [(Y : Int)] := by
                have := (own_lit1 (w.alloc (.cells #[] 3)) w.heap.size (Y : Int) (by simp)).ints.below (Below.refl _ _).drew
                simpa using this
              have L2 : Below w.heap.size w ((w.alloc (.cells #[] 3)).alloc (.cells #[.int .i64 (Y : Int)] 3)).drew := ((below_new w _).alloc (by simp) _).drew
              refine hKq.out _ _ ?_ (fun hHeld2 => ?_)
              · trivial
              clear hKq Kq
              (try simp only [Act.put, List.setIfInBounds_toArray, List.set_cons_zero, List.set_cons_succ])
              clear hHeld1
              refine wpAnyH_ready (rs := [4]) (by kernel_rfl) (by simp) ?_
              refine consH rfl (fun Kq hKq => ?_)
              refine step_appI rfl _ _ rfl w.heap.size _ [] (by rfl) N2 _ _ _ [] (by rfl) ?_ ?_ ?_ ?_ ?_
              · intro h; first | rfl | exact Hcap.out h | cases h
              · exact HA0.out.below L2
              · simp <;> omega
              · have := L2.size; omega
              intro v1 w1 o1 b1 m1
              have L3 := L2.trans b1
              have LT3 := LT2.moved m1 (fun _ p hp e => by cases hp; simp [Value.ownBlock] at e)
              refine hKq.out _ _ ?_ (fun hHeld3 => ?_)
              · trivial
              clear hKq Kq
              (try simp only [Act.put, List.setIfInBounds_toArray, List.set_cons_zero, List.set_cons_succ])
              clear hHeld2
              refine wpAnyH_ready (rs := [7]) (by kernel_rfl) (by simp) ?_
              refine consH rfl (fun Kq hKq => ?_)
              refine step_appI rfl _ _ rfl w.heap.size _ _ (by rfl) o1 _ _ _ [(Y : Int)] (by rfl) ?_ ?_ ?_ ?_ ?_
              · intro h; first | rfl | exact Hcap.out h | cases h
              · exact LT3.1
              · simp <;> omega
              · have := L3.size; omega
              intro v2 w2 o2 b2 m2
              have L4 := L3.trans b2
              refine hKq.out _ _ ?_ (fun hHeld4 => ?_)
              · trivial
              clear hKq Kq
              (try simp only [Act.put, List.setIfInBounds_toArray, List.set_cons_zero, List.set_cons_succ])
              clear hHeld3
              refine wpAnyH_ready (rs := [11]) (by kernel_rfl) (by simp) ?_
              refine consH rfl (fun Kq hKq => ?_)
              refine step_appI rfl _ _ rfl w.heap.size _ _ (by rfl) o2 _ _ _ [] (by rfl) ?_ ?_ ?_ ?_ ?_
              · intro h; first | rfl | exact Hcap.out h | cases h
              · exact ints_nil _ _
              · simp <;> omega
              · have := L4.size; omega
              intro v3 w3 o3 b3 m3
              refine hKq.out _ _ ?_ (fun hHeld5 => ?_)
              · trivial
              clear hKq Kq
              (try simp only [Act.put, List.setIfInBounds_toArray, List.set_cons_zero, List.set_cons_succ])
              clear hHeld4
              refine takeH (i := 12) (oi := _) (v := ?_) rfl (by kernel_rfl) (by kernel_rfl) (by kernel_rfl) (fun _ _ _ h => h) (Or.inl ⟨by rfl, ?_⟩) (by assumption) ?_
              rotate_left
              · first | (intro w hSw; (try dsimp only at hSw); go_simp; done) | (intro w hSw; (try dsimp only at hSw); go_simp; with_reducible rfl)
              (try simp only [Act.put, List.setIfInBounds_toArray, List.set_cons_zero, List.set_cons_succ])
              refine wpAnyH_done (by kernel_rfl) ?_ _
              refine NoPanic.normal ?_
              go_wp2_with fail
              go_ret
              exact ⟨_, rfl, by
                have := o3.mono hb
                rw [HR.out, Hp.out, if_neg Bool.false_ne_true]
                simpa using this, L4.trans b3⟩
          · go_simp
            have L1 : Below w.heap.size w (w.alloc (.cells #[.int .i64 (Y : Int)] 3)).drew := (below_new w _).drew
            refine hKq.out _ _ ?_ (fun hHeld1 => ?_)
            · trivial
            clear hKq Kq
            (try simp only [Act.put, List.setIfInBounds_toArray, List.set_cons_zero, List.set_cons_succ])
            clear hHeld0
            refine wpAnyH_ready (rs := [0]) (by kernel_rfl) (by simp) ?_
            refine consH rfl (fun Kq hKq => ?_)
            go_simp
            have N2 : Own ((w.alloc (.cells #[.int .i64 (Y : Int)] 3)).alloc (.cells #[] 3)).drew w.heap.size (.slice (some ⟨w.heap.size + 1, 0, none⟩) 0 0) [] := by
              have := ((own_nil0 (w.alloc (.cells #[.int .i64 (Y : Int)] 3))).mono (base' := w.heap.size) (by simp)).below (Below.refl _ _).drew
              simpa using this
            have LT2 : Ints ((w.alloc (.cells #[.int .i64 (Y : Int)] 3)).alloc (.cells #[] 3)).drew (some ⟨w.heap.size, 0, none⟩) 1 [(Y : Int)] := ((own_lit1 w w.heap.size (Y : Int) (Nat.le_refl _)).ints.below (below_new _ _)).below (Below.refl _ _).drew
            have L2 : Below w.heap.size w ((w.alloc (.cells #[.int .i64 (Y : Int)] 3)).alloc (.cells #[] 3)).drew := ((below_new w _).alloc (by simp) _).drew
            refine hKq.out _ _ ?_ (fun hHeld2 => ?_)
            · trivial
            clear hKq Kq
            (try simp only [Act.put, List.setIfInBounds_toArray, List.set_cons_zero, List.set_cons_succ])
            clear hHeld1
            refine wpAnyH_ready (rs := [4]) (by kernel_rfl) (by simp) ?_
            refine consH rfl (fun Kq hKq => ?_)
            refine step_appI rfl _ _ rfl w.heap.size _ [] (by rfl) N2 _ _ _ [] (by rfl) ?_ ?_ ?_ ?_ ?_
            · intro h; first | rfl | exact Hcap.out h | cases h
            · exact HA0.out.below L2
            · simp <;> omega
            · have := L2.size; omega
            intro v1 w1 o1 b1 m1
            have L3 := L2.trans b1
            have LT3 := LT2.moved m1 (fun _ p hp e => by cases hp; simp [Value.ownBlock] at e)
            refine hKq.out _ _ ?_ (fun hHeld3 => ?_)
            · trivial
            clear hKq Kq
            (try simp only [Act.put, List.setIfInBounds_toArray, List.set_cons_zero, List.set_cons_succ])
            clear hHeld2
            refine wpAnyH_ready (rs := [7]) (by kernel_rfl) (by simp) ?_
            refine consH rfl (fun Kq hKq => ?_)
            refine step_appI rfl _ _ rfl w.heap.size _ _ (by rfl) o1 _ _ _ [(Y : Int)] (by rfl) ?_ ?_ ?_ ?_ ?_
            · intro h; first | rfl | exact Hcap.out h | cases h
            · exact LT3.1
            · simp <;> omega
            · have := L3.size; omega
            intro v2 w2 o2 b2 m2
            have L4 := L3.trans b2
            refine hKq.out _ _ ?_ (fun hHeld4 => ?_)
            · trivial
            clear hKq Kq
            (try simp only [Act.put, List.setIfInBounds_toArray, List.set_cons_zero, List.set_cons_succ])
            clear hHeld3
            refine wpAnyH_ready (rs := [11]) (by kernel_rfl) (by simp) ?_
            refine consH rfl (fun Kq hKq => ?_)
            refine step_appI rfl _ _ rfl w.heap.size _ _ (by rfl) o2 _ _ _ [] (by rfl) ?_ ?_ ?_ ?_ ?_
            · intro h; first | rfl | exact Hcap.out h | cases h
            · exact ints_nil _ _
            · simp <;> omega
            · have := L4.size; omega
            intro v3 w3 o3 b3 m3
            refine hKq.out _ _ ?_ (fun hHeld5 => ?_)
            · trivial
            clear hKq Kq
            (try simp only [Act.put, List.setIfInBounds_toArray, List.set_cons_zero, List.set_cons_succ])
            clear hHeld4
            refine takeH (i := 12) (oi := _) (v := ?_) rfl (by kernel_rfl) (by kernel_rfl) (by kernel_rfl) (fun _ _ _ h => h) (Or.inl ⟨by rfl, ?_⟩) (by assumption) ?_
            rotate_left
            · first | (intro w hSw; (try dsimp only at hSw); go_simp; done) | (intro w hSw; (try dsimp only at hSw); go_simp; with_reducible rfl)
            (try simp only [Act.put, List.setIfInBounds_toArray, List.set_cons_zero, List.set_cons_succ])
            refine wpAnyH_done (by kernel_rfl) ?_ _
            refine NoPanic.normal ?_
            go_wp2_with fail
            go_ret
            exact ⟨_, rfl, by
              have := o3.mono hb
              rw [HR.out, Hp.out, if_neg Bool.false_ne_true]
              simpa using this, L4.trans b3⟩
        | some ad =>
          obtain ⟨g, cq, cur, he, -⟩ : ∃ (g cq : Nat) (cur : Unit), (Value.slice (some ad) A.length cap) = .slice (some ⟨g, 0, none⟩) A.length cq ∧ True := by
            have := H.out
            unfold Own World.ownsRow at this
            rcases this.2 with ⟨h1, h2⟩ | ⟨g, cp, cur, h1, _⟩
            · cases h1
            · exact ⟨g, cp, (), by rw [h1]; simp, trivial⟩
          cases he
          have x2 : (0 : Int) ≤ (A.length : Int) := by omega
          by_cases hcA : cap = A.length
          · subst hcA
            have x1 : (A.length : Int) ≤ (A.length : Int) := by omega
            go_wp2_with fail
            refine wp_region_noPanic ?_
            refine wp_region_held_drew (S := (fun _ => True)) (by kernel_rfl) ?_ (fun hHeld0 => ?_)
            · trivial
            refine takeH (i := 1) (oi := _) (v := ?_) rfl (by kernel_rfl) (by kernel_rfl) (by kernel_rfl) (fun _ _ _ h => h) (Or.inl ⟨by rfl, ?_⟩) (by assumption) ?_
            rotate_left
            · first | (intro w hSw; (try dsimp only at hSw); go_simp; done) | (intro w hSw; (try dsimp only at hSw); go_simp; with_reducible rfl)
            (try simp only [Act.put, List.setIfInBounds_toArray, List.set_cons_zero, List.set_cons_succ])
            refine takeH (i := 2) (oi := _) (v := ?_) rfl (by kernel_rfl) (by kernel_rfl) (by kernel_rfl) (fun _ _ _ h => h) (Or.inl ⟨by rfl, ?_⟩) (by assumption) ?_
            rotate_left
            · first | (intro w hSw; (try dsimp only at hSw); go_simp; done) | (intro w hSw; (try dsimp only at hSw); go_simp; with_reducible rfl)
            (try simp only [Act.put, List.setIfInBounds_toArray, List.set_cons_zero, List.set_cons_succ])
            refine takeH (i := 3) (oi := _) (v := ?_) rfl (by kernel_rfl) (by kernel_rfl) (by kernel_rfl) (fun _ _ _ h => h) (Or.inl ⟨by rfl, ?_⟩) (by assumption) ?_
            rotate_left
            · first | (intro w hSw; (try dsimp only at hSw); go_simp; done) | (intro w hSw; (try dsimp only at hSw); go_simp; with_reducible rfl)
            (try simp only [Act.put, List.setIfInBounds_toArray, List.set_cons_zero, List.set_cons_succ])
            refine takeH (i := 5) (oi := _) (v := ?_) rfl (by kernel_rfl) (by kernel_rfl) (by kernel_rfl) (fun _ _ _ h => h) (Or.inl ⟨by rfl, ?_⟩) (by assumption) ?_
            rotate_left
            · first | (intro w hSw; (try dsimp only at hSw); go_simp; done) | (intro w hSw; (try dsimp only at hSw); go_simp; with_reducible rfl)
            (try simp only [Act.put, List.setIfInBounds_toArray, List.set_cons_zero, List.set_cons_succ])
            refine takeH (i := 8) (oi := _) (v := ?_) rfl (by kernel_rfl) (by kernel_rfl) (by kernel_rfl) (fun _ _ _ h => h) (Or.inl ⟨by rfl, ?_⟩) (by assumption) ?_
            rotate_left
            · first | (intro w hSw; (try dsimp only at hSw); go_simp; done) | (intro w hSw; (try dsimp only at hSw); go_simp; with_reducible rfl)
            (try simp only [Act.put, List.setIfInBounds_toArray, List.set_cons_zero, List.set_cons_succ])
            refine takeH (i := 9) (oi := _) (v := ?_) rfl (by kernel_rfl) (by kernel_rfl) (by kernel_rfl) (fun _ _ _ h => h) (Or.inl ⟨by rfl, ?_⟩) (by assumption) ?_
            rotate_left
            · first | (intro w hSw; (try dsimp only at hSw); go_simp; done) | (intro w hSw; (try dsimp only at hSw); go_simp; with_reducible rfl)
            (try simp only [Act.put, List.setIfInBounds_toArray, List.set_cons_zero, List.set_cons_succ])
            refine takeH (i := 10) (oi := _) (v := ?_) rfl (by kernel_rfl) (by kernel_rfl) (by kernel_rfl) (fun _ _ _ h => h) (Or.inl ⟨by rfl, ?_⟩) (by assumption) ?_
            rotate_left
            · first | (intro w hSw; (try dsimp only at hSw); go_simp; done) | (intro w hSw; (try dsimp only at hSw); go_simp; with_reducible rfl)
            (try simp only [Act.put, List.setIfInBounds_toArray, List.set_cons_zero, List.set_cons_succ])
            refine wpAnyH_ready (rs := [0, 6]) (by kernel_rfl) (by simp) ?_
            refine consM rfl (fun Kq hKq => ?_) (consH rfl (fun Kq hKq => ?_))
            · go_simp
              have L1 : Below w.heap.size w (w.alloc (.cells #[] 3)).drew := (below_new w _).drew
              have N1 : Own (w.alloc (.cells #[] 3)).drew w.heap.size (.slice (some ⟨w.heap.size, 0, none⟩) 0 0) [] := (own_nil0 w).below (Below.refl _ _).drew
              refine hKq.out _ _ ?_ (fun hHeld1 => ?_)
              · trivial
              clear hKq Kq
              (try simp only [Act.put, List.setIfInBounds_toArray, List.set_cons_zero, List.set_cons_succ])
              clear hHeld0
              refine wpAnyH_ready (rs := [4, 6]) (by kernel_rfl) (by simp) ?_
              refine consM rfl (fun Kq hKq => ?_) (consH rfl (fun Kq hKq => ?_))
              · refine step_appI rfl _ _ rfl w.heap.size _ [] (by rfl) N1 _ _ _ A (by rfl) ?_ ?_ ?_ ?_ ?_
                · intro h; first | rfl | exact Hcap.out h | cases h
                · exact HA0.out.below L1
                · simp <;> omega
                · have := L1.size; omega
                intro v1 w1 o1 b1 m1
                have L2 := L1.trans b1
                refine hKq.out _ _ ?_ (fun hHeld2 => ?_)
                · trivial
                clear hKq Kq
                (try simp only [Act.put, List.setIfInBounds_toArray, List.set_cons_zero, List.set_cons_succ])
                clear hHeld1
                refine wpAnyH_ready (rs := [6]) (by kernel_rfl) (by simp) ?_
                refine consH rfl (fun Kq hKq => ?_)
                go_simp
                have LT3 := (own_lit1 w1 w.heap.size (Y : Int) L2.size).ints
                have o1' := o1.below (below_new w1 (.cells #[.int .i64 (Y : Int)] 3))
                have L3 := L2.trans (Below.mono (below_new w1 (.cells #[.int .i64 (Y : Int)] 3)) L2.size)
                refine hKq.out _ _ ?_ (fun hHeld3 => ?_)
                · trivial
                clear hKq Kq
                (try simp only [Act.put, List.setIfInBounds_toArray, List.set_cons_zero, List.set_cons_succ])
                clear hHeld2
                refine wpAnyH_ready (rs := [7]) (by kernel_rfl) (by simp) ?_
                refine consH rfl (fun Kq hKq => ?_)
                refine step_appI rfl _ _ rfl w.heap.size _ _ (by rfl) o1' _ _ _ [(Y : Int)] (by rfl) ?_ ?_ ?_ ?_ ?_
                · intro h; first | rfl | exact Hcap.out h | cases h
                · exact LT3
                · simp <;> omega
                · have := L3.size; omega
                intro v2 w2 o2 b2 m2
                have L4 := L3.trans b2
                refine hKq.out _ _ ?_ (fun hHeld4 => ?_)
                · trivial
                clear hKq Kq
                (try simp only [Act.put, List.setIfInBounds_toArray, List.set_cons_zero, List.set_cons_succ])
                clear hHeld3
                refine wpAnyH_ready (rs := [11]) (by kernel_rfl) (by simp) ?_
                refine consH rfl (fun Kq hKq => ?_)
                refine step_appI rfl _ _ rfl w.heap.size _ _ (by rfl) o2 _ _ _ [] (by rfl) ?_ ?_ ?_ ?_ ?_
                · intro h; first | rfl | exact Hcap.out h | cases h
                · exact ints_nil _ _
                · simp <;> omega
                · have := L4.size; omega
                intro v3 w3 o3 b3 m3
                refine hKq.out _ _ ?_ (fun hHeld5 => ?_)
                · trivial
                clear hKq Kq
                (try simp only [Act.put, List.setIfInBounds_toArray, List.set_cons_zero, List.set_cons_succ])
                clear hHeld4
                refine takeH (i := 12) (oi := _) (v := ?_) rfl (by kernel_rfl) (by kernel_rfl) (by kernel_rfl) (fun _ _ _ h => h) (Or.inl ⟨by rfl, ?_⟩) (by assumption) ?_
                rotate_left
                · first | (intro w hSw; (try dsimp only at hSw); go_simp; done) | (intro w hSw; (try dsimp only at hSw); go_simp; with_reducible rfl)
                (try simp only [Act.put, List.setIfInBounds_toArray, List.set_cons_zero, List.set_cons_succ])
                refine wpAnyH_done (by kernel_rfl) ?_ _
                refine NoPanic.normal ?_
                go_wp2_with fail
                go_ret
                exact ⟨_, rfl, by
                  have := o3.mono hb
                  rw [HR.out, Hp.out, if_neg Bool.false_ne_true]
                  simpa using this, L4.trans b3⟩
              · go_simp
                have N2 : Own ((w.alloc (.cells #[] 3)).alloc (.cells #[.int .i64 (Y : Int)] 3)).drew w.heap.size (.slice (some ⟨w.heap.size, 0, none⟩) 0 0) [] := ((own_nil0 w).below (below_new _ _)).below (Below.refl _ _).drew
                have LT2 : Ints ((w.alloc (.cells #[] 3)).alloc (.cells #[.int .i64 (Y : Int)] 3)).drew (some ⟨w.heap.size + 1, 0, none⟩) 1 [(Y : Int)] := by
                  have := (own_lit1 (w.alloc (.cells #[] 3)) w.heap.size (Y : Int) (by simp)).ints.below (Below.refl _ _).drew
                  simpa using this
                have L2 : Below w.heap.size w ((w.alloc (.cells #[] 3)).alloc (.cells #[.int .i64 (Y : Int)] 3)).drew := ((below_new w _).alloc (by simp) _).drew
                refine hKq.out _ _ ?_ (fun hHeld2 => ?_)
                · trivial
                clear hKq Kq
                (try simp only [Act.put, List.setIfInBounds_toArray, List.set_cons_zero, List.set_cons_succ])
                clear hHeld1
                refine wpAnyH_ready (rs := [4]) (by kernel_rfl) (by simp) ?_
                refine consH rfl (fun Kq hKq => ?_)
                refine step_appI rfl _ _ rfl w.heap.size _ [] (by rfl) N2 _ _ _ A (by rfl) ?_ ?_ ?_ ?_ ?_
                · intro h; first | rfl | exact Hcap.out h | cases h
                · exact HA0.out.below L2
                · simp <;> omega
                · have := L2.size; omega
                intro v1 w1 o1 b1 m1
                have L3 := L2.trans b1
                have LT3 := LT2.moved m1 (fun _ p hp e => by cases hp; simp [Value.ownBlock] at e)
                refine hKq.out _ _ ?_ (fun hHeld3 => ?_)
                · trivial
                clear hKq Kq
                (try simp only [Act.put, List.setIfInBounds_toArray, List.set_cons_zero, List.set_cons_succ])
                clear hHeld2
                refine wpAnyH_ready (rs := [7]) (by kernel_rfl) (by simp) ?_
                refine consH rfl (fun Kq hKq => ?_)
                refine step_appI rfl _ _ rfl w.heap.size _ _ (by rfl) o1 _ _ _ [(Y : Int)] (by rfl) ?_ ?_ ?_ ?_ ?_
                · intro h; first | rfl | exact Hcap.out h | cases h
                · exact LT3.1
                · simp <;> omega
                · have := L3.size; omega
                intro v2 w2 o2 b2 m2
                have L4 := L3.trans b2
                refine hKq.out _ _ ?_ (fun hHeld4 => ?_)
                · trivial
                clear hKq Kq
                (try simp only [Act.put, List.setIfInBounds_toArray, List.set_cons_zero, List.set_cons_succ])
                clear hHeld3
                refine wpAnyH_ready (rs := [11]) (by kernel_rfl) (by simp) ?_
                refine consH rfl (fun Kq hKq => ?_)
                refine step_appI rfl _ _ rfl w.heap.size _ _ (by rfl) o2 _ _ _ [] (by rfl) ?_ ?_ ?_ ?_ ?_
                · intro h; first | rfl | exact Hcap.out h | cases h
                · exact ints_nil _ _
                · simp <;> omega
                · have := L4.size; omega
                intro v3 w3 o3 b3 m3
                refine hKq.out _ _ ?_ (fun hHeld5 => ?_)
                · trivial
                clear hKq Kq
                (try simp only [Act.put, List.setIfInBounds_toArray, List.set_cons_zero, List.set_cons_succ])
                clear hHeld4
                refine takeH (i := 12) (oi := _) (v := ?_) rfl (by kernel_rfl) (by kernel_rfl) (by kernel_rfl) (fun _ _ _ h => h) (Or.inl ⟨by rfl, ?_⟩) (by assumption) ?_
                rotate_left
                · first | (intro w hSw; (try dsimp only at hSw); go_simp; done) | (intro w hSw; (try dsimp only at hSw); go_simp; with_reducible rfl)
                (try simp only [Act.put, List.setIfInBounds_toArray, List.set_cons_zero, List.set_cons_succ])
                refine wpAnyH_done (by kernel_rfl) ?_ _
                refine NoPanic.normal ?_
                go_wp2_with fail
                go_ret
                exact ⟨_, rfl, by
                  have := o3.mono hb
                  rw [HR.out, Hp.out, if_neg Bool.false_ne_true]
                  simpa using this, L4.trans b3⟩
            · go_simp
              have L1 : Below w.heap.size w (w.alloc (.cells #[.int .i64 (Y : Int)] 3)).drew := (below_new w _).drew
              refine hKq.out _ _ ?_ (fun hHeld1 => ?_)
              · trivial
              clear hKq Kq
              (try simp only [Act.put, List.setIfInBounds_toArray, List.set_cons_zero, List.set_cons_succ])
              clear hHeld0
              refine wpAnyH_ready (rs := [0]) (by kernel_rfl) (by simp) ?_
              refine consH rfl (fun Kq hKq => ?_)
              go_simp
              have N2 : Own ((w.alloc (.cells #[.int .i64 (Y : Int)] 3)).alloc (.cells #[] 3)).drew w.heap.size (.slice (some ⟨w.heap.size + 1, 0, none⟩) 0 0) [] := by
                have := ((own_nil0 (w.alloc (.cells #[.int .i64 (Y : Int)] 3))).mono (base' := w.heap.size) (by simp)).below (Below.refl _ _).drew
                simpa using this
              have LT2 : Ints ((w.alloc (.cells #[.int .i64 (Y : Int)] 3)).alloc (.cells #[] 3)).drew (some ⟨w.heap.size, 0, none⟩) 1 [(Y : Int)] := ((own_lit1 w w.heap.size (Y : Int) (Nat.le_refl _)).ints.below (below_new _ _)).below (Below.refl _ _).drew
              have L2 : Below w.heap.size w ((w.alloc (.cells #[.int .i64 (Y : Int)] 3)).alloc (.cells #[] 3)).drew := ((below_new w _).alloc (by simp) _).drew
              refine hKq.out _ _ ?_ (fun hHeld2 => ?_)
              · trivial
              clear hKq Kq
              (try simp only [Act.put, List.setIfInBounds_toArray, List.set_cons_zero, List.set_cons_succ])
              clear hHeld1
              refine wpAnyH_ready (rs := [4]) (by kernel_rfl) (by simp) ?_
              refine consH rfl (fun Kq hKq => ?_)
              refine step_appI rfl _ _ rfl w.heap.size _ [] (by rfl) N2 _ _ _ A (by rfl) ?_ ?_ ?_ ?_ ?_
              · intro h; first | rfl | exact Hcap.out h | cases h
              · exact HA0.out.below L2
              · simp <;> omega
              · have := L2.size; omega
              intro v1 w1 o1 b1 m1
              have L3 := L2.trans b1
              have LT3 := LT2.moved m1 (fun _ p hp e => by cases hp; simp [Value.ownBlock] at e)
              refine hKq.out _ _ ?_ (fun hHeld3 => ?_)
              · trivial
              clear hKq Kq
              (try simp only [Act.put, List.setIfInBounds_toArray, List.set_cons_zero, List.set_cons_succ])
              clear hHeld2
              refine wpAnyH_ready (rs := [7]) (by kernel_rfl) (by simp) ?_
              refine consH rfl (fun Kq hKq => ?_)
              refine step_appI rfl _ _ rfl w.heap.size _ _ (by rfl) o1 _ _ _ [(Y : Int)] (by rfl) ?_ ?_ ?_ ?_ ?_
              · intro h; first | rfl | exact Hcap.out h | cases h
              · exact LT3.1
              · simp <;> omega
              · have := L3.size; omega
              intro v2 w2 o2 b2 m2
              have L4 := L3.trans b2
              refine hKq.out _ _ ?_ (fun hHeld4 => ?_)
              · trivial
              clear hKq Kq
              (try simp only [Act.put, List.setIfInBounds_toArray, List.set_cons_zero, List.set_cons_succ])
              clear hHeld3
              refine wpAnyH_ready (rs := [11]) (by kernel_rfl) (by simp) ?_
              refine consH rfl (fun Kq hKq => ?_)
              refine step_appI rfl _ _ rfl w.heap.size _ _ (by rfl) o2 _ _ _ [] (by rfl) ?_ ?_ ?_ ?_ ?_
              · intro h; first | rfl | exact Hcap.out h | cases h
              · exact ints_nil _ _
              · simp <;> omega
              · have := L4.size; omega
              intro v3 w3 o3 b3 m3
              refine hKq.out _ _ ?_ (fun hHeld5 => ?_)
              · trivial
              clear hKq Kq
              (try simp only [Act.put, List.setIfInBounds_toArray, List.set_cons_zero, List.set_cons_succ])
              clear hHeld4
              refine takeH (i := 12) (oi := _) (v := ?_) rfl (by kernel_rfl) (by kernel_rfl) (by kernel_rfl) (fun _ _ _ h => h) (Or.inl ⟨by rfl, ?_⟩) (by assumption) ?_
              rotate_left
              · first | (intro w hSw; (try dsimp only at hSw); go_simp; done) | (intro w hSw; (try dsimp only at hSw); go_simp; with_reducible rfl)
              (try simp only [Act.put, List.setIfInBounds_toArray, List.set_cons_zero, List.set_cons_succ])
              refine wpAnyH_done (by kernel_rfl) ?_ _
              refine NoPanic.normal ?_
              go_wp2_with fail
              go_ret
              exact ⟨_, rfl, by
                have := o3.mono hb
                rw [HR.out, Hp.out, if_neg Bool.false_ne_true]
                simpa using this, L4.trans b3⟩
          · have x1 : (A.length : Int) ≤ (cap : Int) := by omega
            have x4 : (A.length : Int) ≤ (A.length : Int) := by omega
            go_wp2_with fail
            refine wp_region_noPanic ?_
            refine wp_region_held_drew (S := (fun _ => True)) (by kernel_rfl) ?_ (fun hHeld0 => ?_)
            · trivial
            refine takeH (i := 1) (oi := _) (v := ?_) rfl (by kernel_rfl) (by kernel_rfl) (by kernel_rfl) (fun _ _ _ h => h) (Or.inl ⟨by rfl, ?_⟩) (by assumption) ?_
            rotate_left
            · first | (intro w hSw; (try dsimp only at hSw); go_simp; done) | (intro w hSw; (try dsimp only at hSw); go_simp; with_reducible rfl)
            (try simp only [Act.put, List.setIfInBounds_toArray, List.set_cons_zero, List.set_cons_succ])
            refine takeH (i := 2) (oi := _) (v := ?_) rfl (by kernel_rfl) (by kernel_rfl) (by kernel_rfl) (fun _ _ _ h => h) (Or.inl ⟨by rfl, ?_⟩) (by assumption) ?_
            rotate_left
            · first | (intro w hSw; (try dsimp only at hSw); go_simp; done) | (intro w hSw; (try dsimp only at hSw); go_simp; with_reducible rfl)
            (try simp only [Act.put, List.setIfInBounds_toArray, List.set_cons_zero, List.set_cons_succ])
            refine takeH (i := 3) (oi := _) (v := ?_) rfl (by kernel_rfl) (by kernel_rfl) (by kernel_rfl) (fun _ _ _ h => h) (Or.inl ⟨by rfl, ?_⟩) (by assumption) ?_
            rotate_left
            · first | (intro w hSw; (try dsimp only at hSw); go_simp; done) | (intro w hSw; (try dsimp only at hSw); go_simp; with_reducible rfl)
            (try simp only [Act.put, List.setIfInBounds_toArray, List.set_cons_zero, List.set_cons_succ])
            refine takeH (i := 5) (oi := _) (v := ?_) rfl (by kernel_rfl) (by kernel_rfl) (by kernel_rfl) (fun _ _ _ h => h) (Or.inl ⟨by rfl, ?_⟩) (by assumption) ?_
            rotate_left
            · first | (intro w hSw; (try dsimp only at hSw); go_simp; done) | (intro w hSw; (try dsimp only at hSw); go_simp; with_reducible rfl)
            (try simp only [Act.put, List.setIfInBounds_toArray, List.set_cons_zero, List.set_cons_succ])
            refine takeH (i := 8) (oi := _) (v := ?_) rfl (by kernel_rfl) (by kernel_rfl) (by kernel_rfl) (fun _ _ _ h => h) (Or.inl ⟨by rfl, ?_⟩) (by assumption) ?_
            rotate_left
            · first | (intro w hSw; (try dsimp only at hSw); go_simp; done) | (intro w hSw; (try dsimp only at hSw); go_simp; with_reducible rfl)
            (try simp only [Act.put, List.setIfInBounds_toArray, List.set_cons_zero, List.set_cons_succ])
            refine takeH (i := 9) (oi := _) (v := ?_) rfl (by kernel_rfl) (by kernel_rfl) (by kernel_rfl) (fun _ _ _ h => h) (Or.inl ⟨by rfl, ?_⟩) (by assumption) ?_
            rotate_left
            · first | (intro w hSw; (try dsimp only at hSw); go_simp; done) | (intro w hSw; (try dsimp only at hSw); go_simp; with_reducible rfl)
            (try simp only [Act.put, List.setIfInBounds_toArray, List.set_cons_zero, List.set_cons_succ])
            refine takeH (i := 10) (oi := _) (v := ?_) rfl (by kernel_rfl) (by kernel_rfl) (by kernel_rfl) (fun _ _ _ h => h) (Or.inl ⟨by rfl, ?_⟩) (by assumption) ?_
            rotate_left
            · first | (intro w hSw; (try dsimp only at hSw); go_simp; done) | (intro w hSw; (try dsimp only at hSw); go_simp; with_reducible rfl)
            (try simp only [Act.put, List.setIfInBounds_toArray, List.set_cons_zero, List.set_cons_succ])
            refine wpAnyH_ready (rs := [0, 6]) (by kernel_rfl) (by simp) ?_
            refine consM rfl (fun Kq hKq => ?_) (consH rfl (fun Kq hKq => ?_))
            · go_simp
              have L1 : Below w.heap.size w (w.alloc (.cells #[] 3)).drew := (below_new w _).drew
              have N1 : Own (w.alloc (.cells #[] 3)).drew w.heap.size (.slice (some ⟨w.heap.size, 0, none⟩) 0 0) [] := (own_nil0 w).below (Below.refl _ _).drew
              refine hKq.out _ _ ?_ (fun hHeld1 => ?_)
              · trivial
              clear hKq Kq
              (try simp only [Act.put, List.setIfInBounds_toArray, List.set_cons_zero, List.set_cons_succ])
              clear hHeld0
              refine wpAnyH_ready (rs := [4, 6]) (by kernel_rfl) (by simp) ?_
              refine consM rfl (fun Kq hKq => ?_) (consH rfl (fun Kq hKq => ?_))
              · refine step_appI rfl _ _ rfl w.heap.size _ [] (by rfl) N1 _ _ _ A (by rfl) ?_ ?_ ?_ ?_ ?_
                · intro h; first | rfl | exact Hcap.out h | cases h
                · exact HA0.out.below L1
                · simp <;> omega
                · have := L1.size; omega
                intro v1 w1 o1 b1 m1
                have L2 := L1.trans b1
                refine hKq.out _ _ ?_ (fun hHeld2 => ?_)
                · trivial
                clear hKq Kq
                (try simp only [Act.put, List.setIfInBounds_toArray, List.set_cons_zero, List.set_cons_succ])
                clear hHeld1
                refine wpAnyH_ready (rs := [6]) (by kernel_rfl) (by simp) ?_
                refine consH rfl (fun Kq hKq => ?_)
                go_simp
                have LT3 := (own_lit1 w1 w.heap.size (Y : Int) L2.size).ints
                have o1' := o1.below (below_new w1 (.cells #[.int .i64 (Y : Int)] 3))
                have L3 := L2.trans (Below.mono (below_new w1 (.cells #[.int .i64 (Y : Int)] 3)) L2.size)
                refine hKq.out _ _ ?_ (fun hHeld3 => ?_)
                · trivial
                clear hKq Kq
                (try simp only [Act.put, List.setIfInBounds_toArray, List.set_cons_zero, List.set_cons_succ])
                clear hHeld2
                refine wpAnyH_ready (rs := [7]) (by kernel_rfl) (by simp) ?_
                refine consH rfl (fun Kq hKq => ?_)
                refine step_appI rfl _ _ rfl w.heap.size _ _ (by rfl) o1' _ _ _ [(Y : Int)] (by rfl) ?_ ?_ ?_ ?_ ?_
                · intro h; first | rfl | exact Hcap.out h | cases h
                · exact LT3
                · simp <;> omega
                · have := L3.size; omega
                intro v2 w2 o2 b2 m2
                have L4 := L3.trans b2
                refine hKq.out _ _ ?_ (fun hHeld4 => ?_)
                · trivial
                clear hKq Kq
                (try simp only [Act.put, List.setIfInBounds_toArray, List.set_cons_zero, List.set_cons_succ])
                clear hHeld3
                refine wpAnyH_ready (rs := [11]) (by kernel_rfl) (by simp) ?_
                refine consH rfl (fun Kq hKq => ?_)
                refine step_appI rfl _ _ rfl w.heap.size _ _ (by rfl) o2 _ _ _ [] (by rfl) ?_ ?_ ?_ ?_ ?_
                · intro h; first | rfl | exact Hcap.out h | cases h
                · exact ints_nil _ _
                · simp <;> omega
                · have := L4.size; omega
                intro v3 w3 o3 b3 m3
                refine hKq.out _ _ ?_ (fun hHeld5 => ?_)
                · trivial
                clear hKq Kq
                (try simp only [Act.put, List.setIfInBounds_toArray, List.set_cons_zero, List.set_cons_succ])
                clear hHeld4
                refine takeH (i := 12) (oi := _) (v := ?_) rfl (by kernel_rfl) (by kernel_rfl) (by kernel_rfl) (fun _ _ _ h => h) (Or.inl ⟨by rfl, ?_⟩) (by assumption) ?_
                rotate_left
                · first | (intro w hSw; (try dsimp only at hSw); go_simp; done) | (intro w hSw; (try dsimp only at hSw); go_simp; with_reducible rfl)
                (try simp only [Act.put, List.setIfInBounds_toArray, List.set_cons_zero, List.set_cons_succ])
                refine wpAnyH_done (by kernel_rfl) ?_ _
                refine NoPanic.normal ?_
                go_wp2_with fail
                go_ret
                exact ⟨_, rfl, by
                  have := o3.mono hb
                  rw [HR.out, Hp.out, if_neg Bool.false_ne_true]
                  simpa using this, L4.trans b3⟩
              · go_simp
                have N2 : Own ((w.alloc (.cells #[] 3)).alloc (.cells #[.int .i64 (Y : Int)] 3)).drew w.heap.size (.slice (some ⟨w.heap.size, 0, none⟩) 0 0) [] := ((own_nil0 w).below (below_new _ _)).below (Below.refl _ _).drew
                have LT2 : Ints ((w.alloc (.cells #[] 3)).alloc (.cells #[.int .i64 (Y : Int)] 3)).drew (some ⟨w.heap.size + 1, 0, none⟩) 1 [(Y : Int)] := by
                  have := (own_lit1 (w.alloc (.cells #[] 3)) w.heap.size (Y : Int) (by simp)).ints.below (Below.refl _ _).drew
                  simpa using this
                have L2 : Below w.heap.size w ((w.alloc (.cells #[] 3)).alloc (.cells #[.int .i64 (Y : Int)] 3)).drew := ((below_new w _).alloc (by simp) _).drew
                refine hKq.out _ _ ?_ (fun hHeld2 => ?_)
                · trivial
                clear hKq Kq
                (try simp only [Act.put, List.setIfInBounds_toArray, List.set_cons_zero, List.set_cons_succ])
                clear hHeld1
                refine wpAnyH_ready (rs := [4]) (by kernel_rfl) (by simp) ?_
                refine consH rfl (fun Kq hKq => ?_)
                refine step_appI rfl _ _ rfl w.heap.size _ [] (by rfl) N2 _ _ _ A (by rfl) ?_ ?_ ?_ ?_ ?_
                · intro h; first | rfl | exact Hcap.out h | cases h
                · exact HA0.out.below L2
                · simp <;> omega
                · have := L2.size; omega
                intro v1 w1 o1 b1 m1
                have L3 := L2.trans b1
                have LT3 := LT2.moved m1 (fun _ p hp e => by cases hp; simp [Value.ownBlock] at e)
                refine hKq.out _ _ ?_ (fun hHeld3 => ?_)
                · trivial
                clear hKq Kq
                (try simp only [Act.put, List.setIfInBounds_toArray, List.set_cons_zero, List.set_cons_succ])
                clear hHeld2
                refine wpAnyH_ready (rs := [7]) (by kernel_rfl) (by simp) ?_
                refine consH rfl (fun Kq hKq => ?_)
                refine step_appI rfl _ _ rfl w.heap.size _ _ (by rfl) o1 _ _ _ [(Y : Int)] (by rfl) ?_ ?_ ?_ ?_ ?_
                · intro h; first | rfl | exact Hcap.out h | cases h
                · exact LT3.1
                · simp <;> omega
                · have := L3.size; omega
                intro v2 w2 o2 b2 m2
                have L4 := L3.trans b2
                refine hKq.out _ _ ?_ (fun hHeld4 => ?_)
                · trivial
                clear hKq Kq
                (try simp only [Act.put, List.setIfInBounds_toArray, List.set_cons_zero, List.set_cons_succ])
                clear hHeld3
                refine wpAnyH_ready (rs := [11]) (by kernel_rfl) (by simp) ?_
                refine consH rfl (fun Kq hKq => ?_)
                refine step_appI rfl _ _ rfl w.heap.size _ _ (by rfl) o2 _ _ _ [] (by rfl) ?_ ?_ ?_ ?_ ?_
                · intro h; first | rfl | exact Hcap.out h | cases h
                · exact ints_nil _ _
                · simp <;> omega
                · have := L4.size; omega
                intro v3 w3 o3 b3 m3
                refine hKq.out _ _ ?_ (fun hHeld5 => ?_)
                · trivial
                clear hKq Kq
                (try simp only [Act.put, List.setIfInBounds_toArray, List.set_cons_zero, List.set_cons_succ])
                clear hHeld4
                refine takeH (i := 12) (oi := _) (v := ?_) rfl (by kernel_rfl) (by kernel_rfl) (by kernel_rfl) (fun _ _ _ h => h) (Or.inl ⟨by rfl, ?_⟩) (by assumption) ?_
                rotate_left
                · first | (intro w hSw; (try dsimp only at hSw); go_simp; done) | (intro w hSw; (try dsimp only at hSw); go_simp; with_reducible rfl)
                (try simp only [Act.put, List.setIfInBounds_toArray, List.set_cons_zero, List.set_cons_succ])
                refine wpAnyH_done (by kernel_rfl) ?_ _
                refine NoPanic.normal ?_
                go_wp2_with fail
                go_ret
                exact ⟨_, rfl, by
                  have := o3.mono hb
                  rw [HR.out, Hp.out, if_neg Bool.false_ne_true]
                  simpa using this, L4.trans b3⟩
            · go_simp
              have L1 : Below w.heap.size w (w.alloc (.cells #[.int .i64 (Y : Int)] 3)).drew := (below_new w _).drew
              refine hKq.out _ _ ?_ (fun hHeld1 => ?_)
              · trivial
              clear hKq Kq
              (try simp only [Act.put, List.setIfInBounds_toArray, List.set_cons_zero, List.set_cons_succ])
              clear hHeld0
              refine wpAnyH_ready (rs := [0]) (by kernel_rfl) (by simp) ?_
              refine consH rfl (fun Kq hKq => ?_)
              go_simp
              have N2 : Own ((w.alloc (.cells #[.int .i64 (Y : Int)] 3)).alloc (.cells #[] 3)).drew w.heap.size (.slice (some ⟨w.heap.size + 1, 0, none⟩) 0 0) [] := by
                have := ((own_nil0 (w.alloc (.cells #[.int .i64 (Y : Int)] 3))).mono (base' := w.heap.size) (by simp)).below (Below.refl _ _).drew
                simpa using this
              have LT2 : Ints ((w.alloc (.cells #[.int .i64 (Y : Int)] 3)).alloc (.cells #[] 3)).drew (some ⟨w.heap.size, 0, none⟩) 1 [(Y : Int)] := ((own_lit1 w w.heap.size (Y : Int) (Nat.le_refl _)).ints.below (below_new _ _)).below (Below.refl _ _).drew
              have L2 : Below w.heap.size w ((w.alloc (.cells #[.int .i64 (Y : Int)] 3)).alloc (.cells #[] 3)).drew := ((below_new w _).alloc (by simp) _).drew
              refine hKq.out _ _ ?_ (fun hHeld2 => ?_)
              · trivial
              clear hKq Kq
              (try simp only [Act.put, List.setIfInBounds_toArray, List.set_cons_zero, List.set_cons_succ])
              clear hHeld1
              refine wpAnyH_ready (rs := [4]) (by kernel_rfl) (by simp) ?_
              refine consH rfl (fun Kq hKq => ?_)
              refine step_appI rfl _ _ rfl w.heap.size _ [] (by rfl) N2 _ _ _ A (by rfl) ?_ ?_ ?_ ?_ ?_
              · intro h; first | rfl | exact Hcap.out h | cases h
              · exact HA0.out.below L2
              · simp <;> omega
              · have := L2.size; omega
              intro v1 w1 o1 b1 m1
              have L3 := L2.trans b1
              have LT3 := LT2.moved m1 (fun _ p hp e => by cases hp; simp [Value.ownBlock] at e)
              refine hKq.out _ _ ?_ (fun hHeld3 => ?_)
              · trivial
              clear hKq Kq
              (try simp only [Act.put, List.setIfInBounds_toArray, List.set_cons_zero, List.set_cons_succ])
              clear hHeld2
              refine wpAnyH_ready (rs := [7]) (by kernel_rfl) (by simp) ?_
              refine consH rfl (fun Kq hKq => ?_)
              refine step_appI rfl _ _ rfl w.heap.size _ _ (by rfl) o1 _ _ _ [(Y : Int)] (by rfl) ?_ ?_ ?_ ?_ ?_
              · intro h; first | rfl | exact Hcap.out h | cases h
              · exact LT3.1
              · simp <;> omega
              · have := L3.size; omega
              intro v2 w2 o2 b2 m2
              have L4 := L3.trans b2
              refine hKq.out _ _ ?_ (fun hHeld4 => ?_)
              · trivial
              clear hKq Kq
              (try simp only [Act.put, List.setIfInBounds_toArray, List.set_cons_zero, List.set_cons_succ])
              clear hHeld3
              refine wpAnyH_ready (rs := [11]) (by kernel_rfl) (by simp) ?_
              refine consH rfl (fun Kq hKq => ?_)
              refine step_appI rfl _ _ rfl w.heap.size _ _ (by rfl) o2 _ _ _ [] (by rfl) ?_ ?_ ?_ ?_ ?_
              · intro h; first | rfl | exact Hcap.out h | cases h
              · exact ints_nil _ _
              · simp <;> omega
              · have := L4.size; omega
              intro v3 w3 o3 b3 m3
              refine hKq.out _ _ ?_ (fun hHeld5 => ?_)
              · trivial
              clear hKq Kq
              (try simp only [Act.put, List.setIfInBounds_toArray, List.set_cons_zero, List.set_cons_succ])
              clear hHeld4
              refine takeH (i := 12) (oi := _) (v := ?_) rfl (by kernel_rfl) (by kernel_rfl) (by kernel_rfl) (fun _ _ _ h => h) (Or.inl ⟨by rfl, ?_⟩) (by assumption) ?_
              rotate_left
              · first | (intro w hSw; (try dsimp only at hSw); go_simp; done) | (intro w hSw; (try dsimp only at hSw); go_simp; with_reducible rfl)
              (try simp only [Act.put, List.setIfInBounds_toArray, List.set_cons_zero, List.set_cons_succ])
              refine wpAnyH_done (by kernel_rfl) ?_ _
              refine NoPanic.normal ?_
              go_wp2_with fail
              go_ret
              exact ⟨_, rfl, by
                have := o3.mono hb
                rw [HR.out, Hp.out, if_neg Bool.false_ne_true]
                simpa using this, L4.trans b3⟩
      | cons u B' =>
        subst hB
        obtain ⟨b, off, rfl, hcl⟩ := HI.out.at (i := A.length) (Below.refl _ _) (by have hlen := Hlen.out; simp at hlen; omega)
        have hat : nth (A ++ u :: B') A.length = u := by unfold nth; simp [List.getD]
        rw [hat] at hcl
        have hin : (A.length : Int) < n := by have hlen := Hlen.out; simp at hlen; omega
        cases hp : p Y
        · have hgt := H4.out hp u (by simp)
          have Hp := Lib.hid hp
          have hne : (u == (Y : Int)) = false := by rw [beq_eq_false_iff_ne]; omega
          have hnlt : ¬ u < (Y : Int) := by omega
          clear hp hat
          have x1 : (A.length : Int) ≤ (cap : Int) := by omega
          have x2 : (0 : Int) ≤ (A.length : Int) := by omega
          have x3 : ¬ cap = A.length := by omega
          have x4 : (A.length : Int) ≤ (n : Int) := by omega
          have x5 : (n : Int) ≤ (cap : Int) := by omega
          have HB0 : Hid (Ints w (some ⟨b, off + A.length, none⟩) (n - A.length) (u :: B')) := Lib.hid (by have := HI.out.drop A.length; rwa [List.drop_left' rfl] at this)
          have hBl : n - A.length ≤ 1048576 := by omega
          go_wp2_with fail
          refine wp_region_noPanic ?_
          refine wp_region_held_drew (S := (fun _ => True)) (by kernel_rfl) ?_ (fun hHeld0 => ?_)
          · trivial
          refine takeH (i := 1) (oi := _) (v := ?_) rfl (by kernel_rfl) (by kernel_rfl) (by kernel_rfl) (fun _ _ _ h => h) (Or.inl ⟨by rfl, ?_⟩) (by assumption) ?_
          rotate_left
          · first | (intro w hSw; (try dsimp only at hSw); go_simp; done) | (intro w hSw; (try dsimp only at hSw); go_simp; with_reducible rfl)
          (try simp only [Act.put, List.setIfInBounds_toArray, List.set_cons_zero, List.set_cons_succ])
          refine takeH (i := 2) (oi := _) (v := ?_) rfl (by kernel_rfl) (by kernel_rfl) (by kernel_rfl) (fun _ _ _ h => h) (Or.inl ⟨by rfl, ?_⟩) (by assumption) ?_
          rotate_left
          · first | (intro w hSw; (try dsimp only at hSw); go_simp; done) | (intro w hSw; (try dsimp only at hSw); go_simp; with_reducible rfl)
          (try simp only [Act.put, List.setIfInBounds_toArray, List.set_cons_zero, List.set_cons_succ])
          refine takeH (i := 3) (oi := _) (v := ?_) rfl (by kernel_rfl) (by kernel_rfl) (by kernel_rfl) (fun _ _ _ h => h) (Or.inl ⟨by rfl, ?_⟩) (by assumption) ?_
          rotate_left
          · first | (intro w hSw; (try dsimp only at hSw); go_simp; done) | (intro w hSw; (try dsimp only at hSw); go_simp; with_reducible rfl)
          (try simp only [Act.put, List.setIfInBounds_toArray, List.set_cons_zero, List.set_cons_succ])
          refine takeH (i := 5) (oi := _) (v := ?_) rfl (by kernel_rfl) (by kernel_rfl) (by kernel_rfl) (fun _ _ _ h => h) (Or.inl ⟨by rfl, ?_⟩) (by assumption) ?_
          rotate_left
          · first | (intro w hSw; (try dsimp only at hSw); go_simp; done) | (intro w hSw; (try dsimp only at hSw); go_simp; with_reducible rfl)
          (try simp only [Act.put, List.setIfInBounds_toArray, List.set_cons_zero, List.set_cons_succ])
          refine takeH (i := 8) (oi := _) (v := ?_) rfl (by kernel_rfl) (by kernel_rfl) (by kernel_rfl) (fun _ _ _ h => h) (Or.inl ⟨by rfl, ?_⟩) (by assumption) ?_
          rotate_left
          · first | (intro w hSw; (try dsimp only at hSw); go_simp; done) | (intro w hSw; (try dsimp only at hSw); go_simp; with_reducible rfl)
          (try simp only [Act.put, List.setIfInBounds_toArray, List.set_cons_zero, List.set_cons_succ])
          refine takeH (i := 9) (oi := _) (v := ?_) rfl (by kernel_rfl) (by kernel_rfl) (by kernel_rfl) (fun _ _ _ h => h) (Or.inl ⟨by rfl, ?_⟩) (by assumption) ?_
          rotate_left
          · first | (intro w hSw; (try dsimp only at hSw); go_simp; done) | (intro w hSw; (try dsimp only at hSw); go_simp; with_reducible rfl)
          (try simp only [Act.put, List.setIfInBounds_toArray, List.set_cons_zero, List.set_cons_succ])
          refine takeH (i := 10) (oi := _) (v := ?_) rfl (by kernel_rfl) (by kernel_rfl) (by kernel_rfl) (fun _ _ _ h => h) (Or.inl ⟨by rfl, ?_⟩) (by assumption) ?_
          rotate_left
          · first | (intro w hSw; (try dsimp only at hSw); go_simp; done) | (intro w hSw; (try dsimp only at hSw); go_simp; with_reducible rfl)
          (try simp only [Act.put, List.setIfInBounds_toArray, List.set_cons_zero, List.set_cons_succ])
          refine wpAnyH_ready (rs := [0, 6]) (by kernel_rfl) (by simp) ?_
          refine consM rfl (fun Kq hKq => ?_) (consH rfl (fun Kq hKq => ?_))
          · go_simp
            have L1 : Below w.heap.size w (w.alloc (.cells #[] 3)).drew := (below_new w _).drew
            have N1 : Own (w.alloc (.cells #[] 3)).drew w.heap.size (.slice (some ⟨w.heap.size, 0, none⟩) 0 0) [] := (own_nil0 w).below (Below.refl _ _).drew
            refine hKq.out _ _ ?_ (fun hHeld1 => ?_)
            · trivial
            clear hKq Kq
            (try simp only [Act.put, List.setIfInBounds_toArray, List.set_cons_zero, List.set_cons_succ])
            clear hHeld0
            refine wpAnyH_ready (rs := [4, 6]) (by kernel_rfl) (by simp) ?_
            refine consM rfl (fun Kq hKq => ?_) (consH rfl (fun Kq hKq => ?_))
            · refine step_appI rfl _ _ rfl w.heap.size _ [] (by rfl) N1 _ _ _ A (by rfl) ?_ ?_ ?_ ?_ ?_
              · intro h; first | rfl | exact Hcap.out h | cases h
              · exact HA0.out.below L1
              · simp <;> omega
              · have := L1.size; omega
              intro v1 w1 o1 b1 m1
              have L2 := L1.trans b1
              refine hKq.out _ _ ?_ (fun hHeld2 => ?_)
              · trivial
              clear hKq Kq
              (try simp only [Act.put, List.setIfInBounds_toArray, List.set_cons_zero, List.set_cons_succ])
              clear hHeld1
              refine wpAnyH_ready (rs := [6]) (by kernel_rfl) (by simp) ?_
              refine consH rfl (fun Kq hKq => ?_)
              go_simp
              have LT3 := (own_lit1 w1 w.heap.size (Y : Int) L2.size).ints
              have o1' := o1.below (below_new w1 (.cells #[.int .i64 (Y : Int)] 3))
              have L3 := L2.trans (Below.mono (below_new w1 (.cells #[.int .i64 (Y : Int)] 3)) L2.size)
              refine hKq.out _ _ ?_ (fun hHeld3 => ?_)
              · trivial
              clear hKq Kq
              (try simp only [Act.put, List.setIfInBounds_toArray, List.set_cons_zero, List.set_cons_succ])
              clear hHeld2
              refine wpAnyH_ready (rs := [7]) (by kernel_rfl) (by simp) ?_
              refine consH rfl (fun Kq hKq => ?_)
              refine step_appI rfl _ _ rfl w.heap.size _ _ (by rfl) o1' _ _ _ [(Y : Int)] (by rfl) ?_ ?_ ?_ ?_ ?_
              · intro h; first | rfl | exact Hcap.out h | cases h
              · exact LT3
              · simp <;> omega
              · have := L3.size; omega
              intro v2 w2 o2 b2 m2
              have L4 := L3.trans b2
              refine hKq.out _ _ ?_ (fun hHeld4 => ?_)
              · trivial
              clear hKq Kq
              (try simp only [Act.put, List.setIfInBounds_toArray, List.set_cons_zero, List.set_cons_succ])
              clear hHeld3
              refine wpAnyH_ready (rs := [11]) (by kernel_rfl) (by simp) ?_
              refine consH rfl (fun Kq hKq => ?_)
              refine step_appI rfl _ _ rfl w.heap.size _ _ (by rfl) o2 _ _ _ (u :: B') (by rfl) ?_ ?_ ?_ ?_ ?_
              · intro h; first | rfl | exact Hcap.out h | cases h
              · exact HB0.out.below L4
              · simp <;> omega
              · have := L4.size; omega
              intro v3 w3 o3 b3 m3
              refine hKq.out _ _ ?_ (fun hHeld5 => ?_)
              · trivial
              clear hKq Kq
              (try simp only [Act.put, List.setIfInBounds_toArray, List.set_cons_zero, List.set_cons_succ])
              clear hHeld4
              refine takeH (i := 12) (oi := _) (v := ?_) rfl (by kernel_rfl) (by kernel_rfl) (by kernel_rfl) (fun _ _ _ h => h) (Or.inl ⟨by rfl, ?_⟩) (by assumption) ?_
              rotate_left
              · first | (intro w hSw; (try dsimp only at hSw); go_simp; done) | (intro w hSw; (try dsimp only at hSw); go_simp; with_reducible rfl)
              (try simp only [Act.put, List.setIfInBounds_toArray, List.set_cons_zero, List.set_cons_succ])
              refine wpAnyH_done (by kernel_rfl) ?_ _
              refine NoPanic.normal ?_
              go_wp2_with fail
              go_ret
              exact ⟨_, rfl, by
                have := o3.mono hb
                rw [HR.out, Hp.out, if_neg Bool.false_ne_true]
                simpa using this, L4.trans b3⟩
            · go_simp
              have N2 : Own ((w.alloc (.cells #[] 3)).alloc (.cells #[.int .i64 (Y : Int)] 3)).drew w.heap.size (.slice (some ⟨w.heap.size, 0, none⟩) 0 0) [] := ((own_nil0 w).below (below_new _ _)).below (Below.refl _ _).drew
              have LT2 : Ints ((w.alloc (.cells #[] 3)).alloc (.cells #[.int .i64 (Y : Int)] 3)).drew (some ⟨w.heap.size + 1, 0, none⟩) 1 [(Y : Int)] := by
                have := (own_lit1 (w.alloc (.cells #[] 3)) w.heap.size (Y : Int) (by simp)).ints.below (Below.refl _ _).drew
                simpa using this
              have L2 : Below w.heap.size w ((w.alloc (.cells #[] 3)).alloc (.cells #[.int .i64 (Y : Int)] 3)).drew := ((below_new w _).alloc (by simp) _).drew
              refine hKq.out _ _ ?_ (fun hHeld2 => ?_)
              · trivial
              clear hKq Kq
              (try simp only [Act.put, List.setIfInBounds_toArray, List.set_cons_zero, List.set_cons_succ])
              clear hHeld1
              refine wpAnyH_ready (rs := [4]) (by kernel_rfl) (by simp) ?_
              refine consH rfl (fun Kq hKq => ?_)
              refine step_appI rfl _ _ rfl w.heap.size _ [] (by rfl) N2 _ _ _ A (by rfl) ?_ ?_ ?_ ?_ ?_
              · intro h; first | rfl | exact Hcap.out h | cases h
              · exact HA0.out.below L2
              · simp <;> omega
              · have := L2.size; omega
              intro v1 w1 o1 b1 m1
              have L3 := L2.trans b1
              have LT3 := LT2.moved m1 (fun _ p hp e => by cases hp; simp [Value.ownBlock] at e)
              refine hKq.out _ _ ?_ (fun hHeld3 => ?_)
              · trivial
              clear hKq Kq
              (try simp only [Act.put, List.setIfInBounds_toArray, List.set_cons_zero, List.set_cons_succ])
              clear hHeld2
              refine wpAnyH_ready (rs := [7]) (by kernel_rfl) (by simp) ?_
              refine consH rfl (fun Kq hKq => ?_)
              refine step_appI rfl _ _ rfl w.heap.size _ _ (by rfl) o1 _ _ _ [(Y : Int)] (by rfl) ?_ ?_ ?_ ?_ ?_
              · intro h; first | rfl | exact Hcap.out h | cases h
              · exact LT3.1
              · simp <;> omega
              · have := L3.size; omega
              intro v2 w2 o2 b2 m2
              have L4 := L3.trans b2
              refine hKq.out _ _ ?_ (fun hHeld4 => ?_)
              · trivial
              clear hKq Kq
              (try simp only [Act.put, List.setIfInBounds_toArray, List.set_cons_zero, List.set_cons_succ])
              clear hHeld3
              refine wpAnyH_ready (rs := [11]) (by kernel_rfl) (by simp) ?_
              refine consH rfl (fun Kq hKq => ?_)
              refine step_appI rfl _ _ rfl w.heap.size _ _ (by rfl) o2 _ _ _ (u :: B') (by rfl) ?_ ?_ ?_ ?_ ?_
              · intro h; first | rfl | exact Hcap.out h | cases h
              · exact HB0.out.below L4
              · simp <;> omega
              · have := L4.size; omega
              intro v3 w3 o3 b3 m3
              refine hKq.out _ _ ?_ (fun hHeld5 => ?_)
              · trivial
              clear hKq Kq
              (try simp only [Act.put, List.setIfInBounds_toArray, List.set_cons_zero, List.set_cons_succ])
              clear hHeld4
              refine takeH (i := 12) (oi := _) (v := ?_) rfl (by kernel_rfl) (by kernel_rfl) (by kernel_rfl) (fun _ _ _ h => h) (Or.inl ⟨by rfl, ?_⟩) (by assumption) ?_
              rotate_left
              · first | (intro w hSw; (try dsimp only at hSw); go_simp; done) | (intro w hSw; (try dsimp only at hSw); go_simp; with_reducible rfl)
              (try simp only [Act.put, List.setIfInBounds_toArray, List.set_cons_zero, List.set_cons_succ])
              refine wpAnyH_done (by kernel_rfl) ?_ _
              refine NoPanic.normal ?_
              go_wp2_with fail
              go_ret
              exact ⟨_, rfl, by
                have := o3.mono hb
                rw [HR.out, Hp.out, if_neg Bool.false_ne_true]
                simpa using this, L4.trans b3⟩
          · go_simp
            have L1 : Below w.heap.size w (w.alloc (.cells #[.int .i64 (Y : Int)] 3)).drew := (below_new w _).drew
            refine hKq.out _ _ ?_ (fun hHeld1 => ?_)
            · trivial
            clear hKq Kq
            (try simp only [Act.put, List.setIfInBounds_toArray, List.set_cons_zero, List.set_cons_succ])
            clear hHeld0
            refine wpAnyH_ready (rs := [0]) (by kernel_rfl) (by simp) ?_
            refine consH rfl (fun Kq hKq => ?_)
            go_simp
            have N2 : Own ((w.alloc (.cells #[.int .i64 (Y : Int)] 3)).alloc (.cells #[] 3)).drew w.heap.size (.slice (some ⟨w.heap.size + 1, 0, none⟩) 0 0) [] := by
              have := ((own_nil0 (w.alloc (.cells #[.int .i64 (Y : Int)] 3))).mono (base' := w.heap.size) (by simp)).below (Below.refl _ _).drew
              simpa using this
            have LT2 : Ints ((w.alloc (.cells #[.int .i64 (Y : Int)] 3)).alloc (.cells #[] 3)).drew (some ⟨w.heap.size, 0, none⟩) 1 [(Y : Int)] := ((own_lit1 w w.heap.size (Y : Int) (Nat.le_refl _)).ints.below (below_new _ _)).below (Below.refl _ _).drew
            have L2 : Below w.heap.size w ((w.alloc (.cells #[.int .i64 (Y : Int)] 3)).alloc (.cells #[] 3)).drew := ((below_new w _).alloc (by simp) _).drew
            refine hKq.out _ _ ?_ (fun hHeld2 => ?_)
            · trivial
            clear hKq Kq
            (try simp only [Act.put, List.setIfInBounds_toArray, List.set_cons_zero, List.set_cons_succ])
            clear hHeld1
            refine wpAnyH_ready (rs := [4]) (by kernel_rfl) (by simp) ?_
            refine consH rfl (fun Kq hKq => ?_)
            refine step_appI rfl _ _ rfl w.heap.size _ [] (by rfl) N2 _ _ _ A (by rfl) ?_ ?_ ?_ ?_ ?_
            · intro h; first | rfl | exact Hcap.out h | cases h
            · exact HA0.out.below L2
            · simp <;> omega
            · have := L2.size; omega
            intro v1 w1 o1 b1 m1
            have L3 := L2.trans b1
            have LT3 := LT2.moved m1 (fun _ p hp e => by cases hp; simp [Value.ownBlock] at e)
            refine hKq.out _ _ ?_ (fun hHeld3 => ?_)
            · trivial
            clear hKq Kq
            (try simp only [Act.put, List.setIfInBounds_toArray, List.set_cons_zero, List.set_cons_succ])
            clear hHeld2
            refine wpAnyH_ready (rs := [7]) (by kernel_rfl) (by simp) ?_
            refine consH rfl (fun Kq hKq => ?_)
            refine step_appI rfl _ _ rfl w.heap.size _ _ (by rfl) o1 _ _ _ [(Y : Int)] (by rfl) ?_ ?_ ?_ ?_ ?_
            · intro h; first | rfl | exact Hcap.out h | cases h
            · exact LT3.1
            · simp <;> omega
            · have := L3.size; omega
            intro v2 w2 o2 b2 m2
            have L4 := L3.trans b2
            refine hKq.out _ _ ?_ (fun hHeld4 => ?_)
            · trivial
            clear hKq Kq
            (try simp only [Act.put, List.setIfInBounds_toArray, List.set_cons_zero, List.set_cons_succ])
            clear hHeld3
            refine wpAnyH_ready (rs := [11]) (by kernel_rfl) (by simp) ?_
            refine consH rfl (fun Kq hKq => ?_)
            refine step_appI rfl _ _ rfl w.heap.size _ _ (by rfl) o2 _ _ _ (u :: B') (by rfl) ?_ ?_ ?_ ?_ ?_
            · intro h; first | rfl | exact Hcap.out h | cases h
            · exact HB0.out.below L4
            · simp <;> omega
            · have := L4.size; omega
            intro v3 w3 o3 b3 m3
            refine hKq.out _ _ ?_ (fun hHeld5 => ?_)
            · trivial
            clear hKq Kq
            (try simp only [Act.put, List.setIfInBounds_toArray, List.set_cons_zero, List.set_cons_succ])
            clear hHeld4
            refine takeH (i := 12) (oi := _) (v := ?_) rfl (by kernel_rfl) (by kernel_rfl) (by kernel_rfl) (fun _ _ _ h => h) (Or.inl ⟨by rfl, ?_⟩) (by assumption) ?_
            rotate_left
            · first | (intro w hSw; (try dsimp only at hSw); go_simp; done) | (intro w hSw; (try dsimp only at hSw); go_simp; with_reducible rfl)
            (try simp only [Act.put, List.setIfInBounds_toArray, List.set_cons_zero, List.set_cons_succ])
            refine wpAnyH_done (by kernel_rfl) ?_ _
            refine NoPanic.normal ?_
            go_wp2_with fail
            go_ret
            exact ⟨_, rfl, by
              have := o3.mono hb
              rw [HR.out, Hp.out, if_neg Bool.false_ne_true]
              simpa using this, L4.trans b3⟩
        · obtain ⟨b', hb', _⟩ := H3.out hp
          cases hb'
          have Hp := Lib.hid hp
          have hnlt : ¬ (Y : Int) < (Y : Int) := by omega
          have heq : ((Y : Int) == (Y : Int)) = true := by simp
          clear hp hat
          go_wp2_with fail
          go_ret
          exact ⟨_, rfl, by rw [HR.out, Hp.out, if_pos rfl]; exact H.out, Below.refl _ _⟩
end Go.Proofs.Ytnbomleieianoaa

/- Contracts of the reference: the first node on a way, the rule of a list of stops. -/
namespace Go.Proofs.Ytnbomleieianoaa
open Go.RowKit

/-- What a list of bools says of a node. -/
def bS (bs : List Bool) (y : Int) : Bool := decide (0 ≤ y) && Bo.nth bs y.toNat
theorem has_filt {bs : List Bool} {k : Nat} {y : Int} (h : y < k) : hasB (filt (Bo.nth bs) k) y = bS bs y := by
  unfold hasB bS
  rw [Bool.eq_iff_iff, List.any_eq_true]
  constructor
  · rintro ⟨z, hz, he⟩
    obtain ⟨i, hi, hb, rfl⟩ := mem_filt.1 hz
    obtain rfl : (i : Int) = y := by simpa using he
    simp [hb]
  · intro hb
    simp only [Bool.and_eq_true, decide_eq_true_eq] at hb
    exact ⟨y, mem_filt.2 ⟨y.toNat, by omega, hb.2, by omega⟩, by simp⟩
theorem stopL_congr {S S' : Int → Bool} : ∀ {xs : List Int}, (∀ y, y ∈ xs → S y = S' y) → stopL S xs = stopL S' xs
  | [], _ => rfl
  | x :: xs, h => by rw [stopL, stopL, h x (by simp), stopL_congr fun y hy => h y (by simp [hy])]
theorem stop_congr {ps : List Int} (h : Pa ps) {S S' : Int → Bool} (hS : ∀ y : Nat, y < ps.length → S y = S' y) {x : Nat} (hx : x < ps.length) : stop ps S x = stop ps S' x := stopL_congr fun y hy => by
  obtain ⟨j, hj, rfl⟩ := way_mem h x hx y hy
  exact hS j (by omega)
theorem isStop_nil (ps : List Int) (S : Int → Bool) (k : Nat) : filt (isStop ps S []) k = [] := filt_none fun _ _ => rfl
theorem isStop_app (ps : List Int) (S : Int → Bool) (es : List Int) (e : Int) (y : Nat) : isStop ps S (es ++ [e]) y = (isStop ps S es y || stop ps S e.toNat == (y : Int)) := by
  unfold isStop; rw [List.any_append]; simp
theorem stop_end {ps : List Int} (h : Pa ps) (S : Int → Bool) {x : Nat} (hx : x < ps.length) (hS : S x = true) : 0 ≤ stop ps S x := by
  have h2 : behB ps S x = true := by
    by_cases h0 : x = 0
    · subst h0; rw [(beh_zero ps S).1]; exact hS
    · have := beh_up h S (x := x) (by omega) hx
      cases hb : behB ps S (par ps x)
      · rw [(this.2 hb).1]; exact hS
      · exact (this.1 hb).1
  exact of_decide_eq_true h2
end Go.Proofs.Ytnbomleieianoaa

/- Words for drawing lists and trees: what the cursor and other draws leave. Contract: children of a node of any tree. No conditions but those stated. -/
namespace Go.Proofs.Ytnbomleieianoaa
open Go.RowKit

theorem own_other {w w' : World} {base g : Nat} {v : Value} {xs : List Int} (h : Own w base v xs) (hg : w.grownBy w' (some g)) (hlt : g < base) : Own w' base v xs :=
  h.grown hg (by
    cases hb : v.ownBlock with
    | none => exact .inl rfl
    | some k => refine .inr fun e => ?_; cases e; have := (World.ownsRow.lt h g hb).1; omega)
theorem pair_other {w w' : World} {b g : Nat} {x y : Value} (h : Pair w b x y) (hg : w.grownBy w' (some g)) (hne : b ≠ g) : Pair w' b x y := by
  have hb : w'.heap[b]? = w.heap[b]? := hg.block b h.lt (by simpa using hne)
  exact ⟨(World.cell?_of_block (a := ⟨b, 0, none⟩) hb).trans h.c0, (World.cell?_of_block (a := ⟨b, 1, none⟩) hb).trans h.c1, (World.frozen?_of_block (a := ⟨b, 0, none⟩) hb).trans h.f0, (World.frozen?_of_block (a := ⟨b, 1, none⟩) hb).trans h.f1⟩
theorem pair_moved {w w' : World} {b : Nat} {x y v v' : Value} (h : Pair w b x y) (hm : Moved w v w' v') (hne : v.ownBlock ≠ some b) : Pair w' b x y := by
  have hb : w'.heap[b]? = w.heap[b]? := (hm.2 b h.lt hne).2
  exact ⟨(World.cell?_of_block (a := ⟨b, 0, none⟩) hb).trans h.c0, (World.cell?_of_block (a := ⟨b, 1, none⟩) hb).trans h.c1, (World.frozen?_of_block (a := ⟨b, 0, none⟩) hb).trans h.f0, (World.frozen?_of_block (a := ⟨b, 1, none⟩) hb).trans h.f1⟩
/-- The cursor at g, from the world w0 on: but for g's block all that was there at w0 has stayed. -/
structure Cq (w0 w : World) (g : Nat) (a : Option Addr) (n cap : Nat) (lim : Int) : Prop where
  cur : Cur w g a n cap lim
  code : 0 < n → ∀ b off, a = some ⟨b, off, none⟩ → b < w0.heap.size
  glt : g < w0.heap.size
  grow : w0.grownBy w (some g)
theorem Cq.start {w : World} {g : Nat} {a : Option Addr} {n cap : Nat} {lim : Int} (h : Cur w g a n cap lim) : Cq w w g a n cap lim :=
  ⟨h, fun hn b off he => by
    obtain ⟨b', off', he', hlt, _⟩ := h.code.2 hn
    rw [he] at he'
    cases he'
    exact hlt, h.lt, World.grownBy.refl _ _⟩
theorem Cq.mono {w0 w : World} {g : Nat} {a : Option Addr} {n cap : Nat} {lim lim' : Int} (h : Cq w0 w g a n cap lim) (hl : lim ≤ lim') : Cq w0 w g a n cap lim' := ⟨h.cur.mono hl, h.code, h.glt, h.grow⟩
theorem Cq.step {w0 w w' : World} {g : Nat} {a : Option Addr} {n cap : Nat} {lim lim' : Int} (h : Cq w0 w g a n cap lim) (hc : Cur w' g a n cap lim') (hg : w.grownBy w' (some g)) : Cq w0 w' g a n cap lim' := ⟨hc, h.code, h.glt, h.grow.trans hg⟩
theorem grown_below {w0 w w' : World} {r : Option Nat} (h : w0.grownBy w r) (hb : Below w0.heap.size w w') : w0.grownBy w' r :=
  ⟨hb.os.trans h.os, hb.tape.trans h.tape, hb.output.trans h.output, Nat.le_trans h.size hb.size, fun k hk hr => (hb.block k hk).trans (h.block k hk hr)⟩
theorem Cq.up {w0 w w' : World} {g : Nat} {a : Option Addr} {n cap : Nat} {lim : Int} (h : Cq w0 w g a n cap lim) (hb : Below w0.heap.size w w') : Cq w0 w' g a n cap lim := by
  have hc : ∀ i : Nat, w'.cell? ⟨g, i, none⟩ = w.cell? ⟨g, i, none⟩ := fun i => hb.cell (p := ⟨g, i, none⟩) h.glt
  have hf : ∀ i : Nat, w'.frozen? ⟨g, i, none⟩ = w.frozen? ⟨g, i, none⟩ := fun i => hb.frozen (p := ⟨g, i, none⟩) h.glt
  refine ⟨⟨⟨h.cur.code.1, fun hn => ?_⟩, h.cur.other, (hc 0).trans h.cur.c0, ?_, ?_, (hf 1).trans h.cur.f1, (hf 2).trans h.cur.f2⟩, h.code, h.glt, grown_below h.grow hb⟩
  · obtain ⟨b, off, he, hlt, hx⟩ := h.cur.code.2 hn
    refine ⟨b, off, he, Nat.lt_of_lt_of_le hlt hb.size, fun j hj => ?_⟩
    obtain ⟨x, h1, h2⟩ := hx j hj
    exact ⟨x, (hb.cell (p := ⟨b, off + j, none⟩) (h.code hn b off he)).trans h1, h2⟩
  · obtain ⟨k, h1, h2⟩ := h.cur.c1; exact ⟨k, (hc 1).trans h1, h2⟩
  · obtain ⟨s, h1⟩ := h.cur.c2; exact ⟨s, (hc 2).trans h1⟩
theorem Cq.below {w0 w w' : World} {g : Nat} {a : Option Addr} {n cap : Nat} {lim : Int} (h : Cq w0 w g a n cap lim) (hb : Below w.heap.size w w') : Cq w0 w' g a n cap lim := h.up (hb.mono h.grow.size)
theorem Cq.size {w0 w : World} {g : Nat} {a : Option Addr} {n cap : Nat} {lim : Int} (h : Cq w0 w g a n cap lim) : w0.heap.size ≤ w.heap.size := h.grow.size
/-- A tree's two slices, of the call's own from base on. -/
structure DTre (w : World) (base : Nat) (aP : Option Addr) (nP cP : Nat) (aW : Option Addr) (nW cW : Nat) (ps ws : List Int) : Prop where
  p : Own w base (.slice aP nP cP) ps
  w : Own w base (.slice aW nW cW) ws
  pn : nP ≤ 30
  wn : nW ≤ 30
theorem DTre.tre {w : World} {base : Nat} {aP : Option Addr} {nP cP : Nat} {aW : Option Addr} {nW cW : Nat} {ps ws : List Int} (h : DTre w base aP nP cP aW nW cW ps ws) : Tre w aP nP cP aW nW cW ps ws :=
  ⟨h.p.ints, h.w.ints, by have := h.pn; omega, by have := h.wn; omega, h.p.cap.2.1, h.w.cap.2.1⟩
theorem DTre.below {w w' : World} {base : Nat} {aP : Option Addr} {nP cP : Nat} {aW : Option Addr} {nW cW : Nat} {ps ws : List Int} (h : DTre w base aP nP cP aW nW cW ps ws) (hb : Below w.heap.size w w') : DTre w' base aP nP cP aW nW cW ps ws :=
  ⟨h.p.below hb, h.w.below hb, h.pn, h.wn⟩
theorem DTre.other {w w' : World} {base g : Nat} {aP : Option Addr} {nP cP : Nat} {aW : Option Addr} {nW cW : Nat} {ps ws : List Int} (h : DTre w base aP nP cP aW nW cW ps ws) (hg : w.grownBy w' (some g)) (hlt : g < base) : DTre w' base aP nP cP aW nW cW ps ws :=
  ⟨own_other h.p hg hlt, own_other h.w hg hlt, h.pn, h.wn⟩
theorem DTre.mono {w : World} {base base' : Nat} {aP : Option Addr} {nP cP : Nat} {aW : Option Addr} {nW cW : Nat} {ps ws : List Int} (h : DTre w base aP nP cP aW nW cW ps ws) (hb : base' ≤ base) : DTre w base' aP nP cP aW nW cW ps ws :=
  ⟨h.p.mono hb, h.w.mono hb, h.pn, h.wn⟩
theorem Own.lit {w : World} {base : Nat} {v : Value} {xs : List Int} (h : Own w base v xs) (o : Obj) : Own (w.alloc o) base v xs := h.below (below_new w o)
theorem Own.drew {w : World} {base : Nat} {v : Value} {xs : List Int} (h : Own w base v xs) : Own w.drew base v xs := h.below (Below.refl _ _).drew
theorem Ints.drew {w : World} {a : Option Addr} {n : Nat} {xs : List Int} (h : Ints w a n xs) : Ints w.drew a n xs := h.below (Below.refl _ _).drew
theorem Cq.lit {w0 w : World} {g : Nat} {a : Option Addr} {n cap : Nat} {lim : Int} (h : Cq w0 w g a n cap lim) (o : Obj) : Cq w0 (w.alloc o) g a n cap lim := h.below (below_new w o)
theorem Cq.drew {w0 w : World} {g : Nat} {a : Option Addr} {n cap : Nat} {lim : Int} (h : Cq w0 w g a n cap lim) : Cq w0 w.drew g a n cap lim := h.below (Below.refl _ _).drew
theorem Moved.size {w w' : World} {v v' : Value} (h : Moved w v w' v') : w.heap.size ≤ w'.heap.size := h.1
/-- Some list of a few numbers, of the call's own. -/
def OwnA (w : World) (base : Nat) (v : Value) (m : Nat) : Prop := ∃ xs, Own w base v xs ∧ xs.length ≤ m
set_option maxRecDepth 100000 in
set_option maxHeartbeats 1000000 in
theorem spec_l2KidsA (aP : Option Addr) (nP cP : Nat) (aW : Option Addr) (nW cW : Nat) (ps ws : List Int) (X : Nat) (w : World) (h : Tre w aP nP cP aW nW cW ps ws) (hn : nP ≤ 30) (hx : X < nP) :
    Calls Try.prog 138 #[.agg #[.slice aP nP cP, .slice aW nW cW], .int .i64 (X : Int)] w fun e w' => ∃ v, e = .returned v ∧ OwnA w' w.heap.size v 30 ∧ Below w.heap.size w w' := by
  have hl := h.p.1
  have hb1 := below_new w (.cells #[.slice aP nP cP, .slice aW nW cW] 26)
  have hP1 := Lib.hid (Pair.new w (.slice aP nP cP) (.slice aW nW cW) 26)
  have H := Lib.hid h
  have Hl := Lib.hid hl
  clear h hl
  go_enter Try.func138, Try.ntmps138
  go_wp2_with fail
  have hnil := own_nil0 (w.alloc (.cells #[.slice aP nP cP, .slice aW nW cW] 26))
  rw [show (w.alloc (.cells #[.slice aP nP cP, .slice aW nW cW] 26)).heap.size = w.heap.size + 1 by simp] at hnil
  have hb2 : Below w.heap.size w ((w.alloc (.cells #[.slice aP nP cP, .slice aW nW cW] 26)).alloc (.cells #[] 3)) := hb1.alloc (by simp) _
  have hP2 := Lib.hid (hP1.out.alloc (.cells #[] 3))
  generalize ((w.alloc (.cells #[.slice aP nP cP, .slice aW nW cW] 26)).alloc (.cells #[] 3)) = w2 at *
  clear hP1 hb1
  go_loopw [5, 6] (fun v5 v6 wr => ∃ (k : Nat) (xs : List Int), X + 1 ≤ k ∧ k ≤ nP ∧ v6 = .int .i64 (k : Int) ∧ Own wr (w.heap.size + 1) v5 xs ∧ xs.length ≤ k ∧ Pair wr w.heap.size (.slice aP nP cP) (.slice aW nW cW) ∧ Below w.heap.size w wr) (fun _ v6 _ => nP - (intOf v6).toNat)
  case atStart => exact ⟨X + 1, [], Nat.le_refl _, by omega, by go_num, hnil, by simp, hP2.out, hb2⟩
  case round =>
    obtain ⟨k, xs, hk1, hk2, rfl, hown, hlen, hP, hbel⟩ := hrel
    clear hnil hP2 hb2
    have c0 := hP.c0
    have HP := Lib.hid hP
    clear hP
    by_cases hlt : (k : Int) < nP
    · obtain ⟨b, off, rfl, hc⟩ := H.out.p.at (i := k) hbel (by omega)
      have hle : w.heap.size + 1 ≤ wr.heap.size := by have := HP.out.lt; omega
      cases he : (nth ps k == (X : Int))
      · generalize nth ps k = q at *
        go_wp2_with fail
        go_roundw
        case rel => exact ⟨k + 1, xs, by omega, by omega, by go_num, hown, by omega, HP.out, hbel⟩
        case measure => simp [intOf]; omega
      · generalize nth ps k = q at *
        go_wp2_with (at_builtin; refine wp_push (.tmp 24) (.tmp 26) rfl rfl (w.heap.size + 1) _ _ rfl hown rfl (by omega) hle ?_; intro v' w' ho hb)
        go_roundw
        case rel => exact ⟨k + 1, _, by omega, by omega, by go_num, ho, by simp; omega, HP.out.up hb (by omega), hbel.trans (hb.mono (by omega))⟩
        case measure => simp [intOf]; omega
    · obtain rfl : k = nP := by omega
      go_wp2_with fail
      go_ret
      exact ⟨_, rfl, ⟨xs, hown.mono (by omega), by omega⟩, hbel⟩
end Go.Proofs.Ytnbomleieianoaa

/- Contracts: pays drawn by the cursor. No conditions but those stated. -/
namespace Go.Proofs.Ytnbomleieianoaa
open Go.RowKit

theorem OwnA.other {w w' : World} {base g m : Nat} {v : Value} (h : OwnA w base v m) (hg : w.grownBy w' (some g)) (hlt : g < base) : OwnA w' base v m := by
  obtain ⟨xs, h1, h2⟩ := h; exact ⟨xs, own_other h1 hg hlt, h2⟩
theorem OwnA.below {w w' : World} {base m : Nat} {v : Value} (h : OwnA w base v m) (hb : Below w.heap.size w w') : OwnA w' base v m := by
  obtain ⟨xs, h1, h2⟩ := h; exact ⟨xs, h1.below hb, h2⟩
theorem OwnA.mono {w : World} {base base' m : Nat} {v : Value} (h : OwnA w base v m) (hb : base' ≤ base) : OwnA w base' v m := by
  obtain ⟨xs, h1, h2⟩ := h; exact ⟨xs, h1.mono hb, h2⟩
theorem OwnA.more {w : World} {base m m' : Nat} {v : Value} (h : OwnA w base v m) (hb : m ≤ m') : OwnA w base v m' := by
  obtain ⟨xs, h1, h2⟩ := h; exact ⟨xs, h1, by omega⟩
set_option maxRecDepth 100000 in
set_option maxHeartbeats 1000000 in
theorem spec_somePays (g : Nat) (a : Option Addr) (n cap : Nat) (lim : Int) (m : Nat) (w : World) (hl : lim ≤ 100000) (hm : m ≤ 30) (h : Cur w g a n cap lim) :
    Calls Try.prog 153 #[.pointer (some ⟨g, 0, none⟩), .int .i64 (m : Int)] w fun e w' => (∃ v, e = .returned v ∧ OwnA w' w.heap.size v 31) ∧ Cur w' g a n cap (lim + 200) ∧ w.grownBy w' (some g) := by
  have C0 := Lib.hid ((Cq.start h).lit (.cells #[] 3))
  have HN := Lib.hid (own_nil0 w)
  clear h
  go_enter Try.func153, Try.ntmps153
  go_wp2_with fail
  have hs0 : (w.alloc (.cells #[] 3)).heap.size = w.heap.size + 1 := by simp
  generalize (w.alloc (.cells #[] 3)) = w0 at *
  rw [← hs0]
  have hsz : w.heap.size < w0.heap.size := by omega
  clear hs0
  refine (among_lit g a n cap lim [3, 10, 30] _ 3 _ (by omega) rfl rfl (by omega) C0.out.cur).mono ?_
  rintro e w1 ⟨⟨i, hi, rfl⟩, c1, g1⟩
  have hB : 0 ≤ nth [3, 10, 30] i ∧ nth [3, 10, 30] i ≤ 30 := by
    rcases (show i = 0 ∨ i = 1 ∨ i = 2 by omega) with rfl | rfl | rfl <;> decide
  generalize nth [3, 10, 30] i = B at *
  have C1 := Lib.hid (C0.out.step c1 g1)
  have O1 := Lib.hid (own_other HN.out g1 C0.out.glt)
  clear c1 g1 HN
  generalize (Value.slice (some ⟨w.heap.size, 0, none⟩) 0 0) = v0 at *
  go_wp2_with fail
  go_loopw [5, 7] (fun v5 v7 wr => ∃ (k : Nat) (xs : List Int), k ≤ m ∧ v7 = .int .i64 (k : Int) ∧ Own wr w.heap.size v5 xs ∧ xs.length = k ∧ Cq w wr g a n cap (lim + 2 + 2 * (k : Int))) (fun _ v7 _ => m - (intOf v7).toNat)
  case atStart => exact ⟨0, [], Nat.zero_le _, rfl, O1.out, rfl, C1.out.mono (by omega)⟩
  case round =>
    clear C1 O1 C0
    obtain ⟨k, xs, hk, rfl, ho, hxl, cq⟩ := hrel
    have O := Lib.hid ho
    have C := Lib.hid cq
    have hszr := cq.size
    have Hxl := Lib.hid hxl
    have hxl2 : xs.length ≤ 30 := by omega
    clear ho cq hxl
    by_cases hlt : (k : Int) < m
    · have k1 : IntKind.i64.wrap (2 * B) = 2 * B := IntWalk.i64_in _ (by omega)
      have k2 : IntKind.i64.wrap (2 * B + 1) = 2 * B + 1 := IntWalk.i64_in _ (by omega)
      go_wp2_with fail
      refine (spec_pick g a n cap (lim + 2 + 2 * (k : Int)) _ _ (by omega) (by omega) C.out.cur).mono ?_
      rintro e w2 ⟨⟨x, rfl, -, -⟩, c2, g2⟩
      have C2 := Lib.hid (C.out.step c2 g2)
      have O2 := Lib.hid (own_other O.out g2 C.out.glt)
      have hsz2 := C2.out.size
      clear c2 g2
      generalize hu : IntKind.i64.wrap (x - B) = u
      have Hu := Lib.hid hu
      clear hu
      go_wp2_with (at_builtin; refine wp_push (.tmp 17) (.tmp 25) rfl rfl w.heap.size _ _ rfl O2.out rfl (by omega) hsz2 ?_; intro v' w' ho hb)
      go_roundw
      case rel => exact ⟨k + 1, _, by omega, by go_num, ho, by simp [Hxl.out], (C2.out.up hb).mono (by omega)⟩
      case measure => simp [intOf]; omega
    · obtain rfl : k = m := by omega
      by_cases hk0 : (k : Int) > 0
      · go_wp2_with fail
        refine (spec_one g a n cap (lim + 2 + 2 * (k : Int)) _ _ (by omega) (by omega) C.out.cur).mono ?_
        rintro e w2 ⟨⟨t, rfl⟩, c2, g2⟩
        have C2 := Lib.hid (C.out.step c2 g2)
        have O2 := Lib.hid (own_other O.out g2 C.out.glt)
        clear c2 g2
        cases t
        · go_wp2_with fail
          refine (spec_one g a n cap _ _ _ (by omega) (by omega) C2.out.cur).mono ?_
          rintro e w3 ⟨⟨t, rfl⟩, c3, g3⟩
          have C3 := Lib.hid (C2.out.step c3 g3)
          have O3 := Lib.hid (own_other O2.out g3 C.out.glt)
          have hsz3 := C3.out.size
          clear c3 g3
          cases t
          · go_wp2_with fail
            go_ret
            exact ⟨⟨_, rfl, xs, O3.out, by omega⟩, C3.out.cur.mono (by omega), C3.out.grow⟩
          · go_wp2_with (at_builtin; refine wp_push (.tmp 43) (.tmp 44) rfl rfl w.heap.size _ _ rfl O3.out rfl (by omega) hsz3 ?_; intro v' w' ho hb)
            go_ret
            exact ⟨⟨_, rfl, _, ho, by simp; omega⟩, (C3.out.up hb).cur.mono (by omega), (C3.out.up hb).grow⟩
        · obtain ⟨go, co, rfl, hgo1, hgo2⟩ := O2.out.form (by have := Hxl.out; omega)
          rw [Hxl.out] at O2 ⊢
          go_wp2_with fail
          refine (spec_pick g a n cap _ _ _ (by omega) (by omega) C2.out.cur).mono ?_
          rintro e w3 ⟨⟨x, rfl, hx0, hx1⟩, c3, g3⟩
          have hx2 : x < (k : Int) := by omega
          have C3 := Lib.hid (C2.out.step c3 g3)
          have O3 := Lib.hid (own_other O2.out g3 C.out.glt)
          clear c3 g3 hx1
          go_wp2_with fail
          refine (among_lit g a n cap _ [999, -999, 1000, -1000, 4611686018427387904] _ 5 _ (by omega) rfl rfl (by omega) C3.out.cur).mono ?_
          rintro e w4 ⟨⟨i, hi, rfl⟩, c4, g4⟩
          generalize nth _ i = u
          have C4 := Lib.hid (C3.out.step c4 g4)
          have o4 := own_other O3.out g4 C.out.glt
          have h4c := o4.cell (i := x.toNat) (by have := Hxl.out; omega)
          have h4f := o4.free Hxl.out.symm x.toNat
          have O4 := Lib.hid o4
          clear c4 g4 o4
          go_wp2_with fail
          have O5 := Lib.hid (O4.out.set Hxl.out.symm x.toNat u)
          have C5 := Lib.hid (C4.out.up (show Below w.heap.size w4 (w4.setCell ⟨go, x.toNat, none⟩ (.int .i64 u)) from (Below.refl w.heap.size w4).setCell (show w.heap.size ≤ go from hgo1) _))
          generalize (w4.setCell ⟨go, x.toNat, none⟩ (.int .i64 u)) = w5 at *
          refine (spec_one g a n cap _ _ _ (by omega) (by omega) C5.out.cur).mono ?_
          rintro e w6 ⟨⟨t, rfl⟩, c6, g6⟩
          have C6 := Lib.hid (C5.out.step c6 g6)
          have O6 := Lib.hid (own_other O5.out g6 C.out.glt)
          have hsz6 := C6.out.size
          have hl6 : (xs.set x.toNat u).length ≤ 30 := by simp; omega
          clear c6 g6
          cases t
          · go_wp2_with fail
            go_ret
            exact ⟨⟨_, rfl, _, O6.out, by omega⟩, C6.out.cur.mono (by omega), C6.out.grow⟩
          · go_wp2_with (at_builtin; refine wp_push (.tmp 43) (.tmp 44) rfl rfl w.heap.size _ _ rfl O6.out rfl (by omega) hsz6 ?_; intro v' w' ho hb)
            go_ret
            exact ⟨⟨_, rfl, _, ho, by simp; omega⟩, (C6.out.up hb).cur.mono (by omega), (C6.out.up hb).grow⟩
      · go_wp2_with fail
        refine (spec_one g a n cap _ _ _ (by omega) (by omega) C.out.cur).mono ?_
        rintro e w3 ⟨⟨t, rfl⟩, c3, g3⟩
        have C3 := Lib.hid (C.out.step c3 g3)
        have O3 := Lib.hid (own_other O.out g3 C.out.glt)
        have hsz3 := C3.out.size
        clear c3 g3
        cases t
        · go_wp2_with fail
          go_ret
          exact ⟨⟨_, rfl, xs, O3.out, by omega⟩, C3.out.cur.mono (by omega), C3.out.grow⟩
        · go_wp2_with (at_builtin; refine wp_push (.tmp 43) (.tmp 44) rfl rfl w.heap.size _ _ rfl O3.out rfl (by omega) hsz3 ?_; intro v' w' ho hb)
          go_ret
          exact ⟨⟨_, rfl, _, ho, by simp; omega⟩, (C3.out.up hb).cur.mono (by omega), (C3.out.up hb).grow⟩
end Go.Proofs.Ytnbomleieianoaa

/- Contracts: nodes and pays of a drawn tree. No conditions but those stated. -/
namespace Go.Proofs.Ytnbomleieianoaa
open Go.RowKit

set_option maxRecDepth 100000 in
set_option maxHeartbeats 1000000 in
theorem spec_nodeOf (g : Nat) (a : Option Addr) (n cap : Nat) (lim : Int) (aP : Option Addr) (nP cP : Nat) (aW : Option Addr) (nW cW : Nat) (w : World) (hl : lim ≤ 100000) (hnP : nP ≤ 30) (h : Cur w g a n cap lim) :
    Calls Try.prog 132 #[.pointer (some ⟨g, 0, none⟩), .agg #[.slice aP nP cP, .slice aW nW cW]] w fun e w' => (∃ x : Int, e = .returned (.int .i64 x)) ∧ Cur w' g a n cap (lim + 10) ∧ w.grownBy w' (some g) := by
  have C0 := Lib.hid ((Cq.start h).lit (.cells #[.slice aP nP cP, .slice aW nW cW] 26))
  have hP1 := Pair.new w (.slice aP nP cP) (.slice aW nW cW) 26
  have hgw : w.heap.size ≠ g := by have := h.lt; omega
  clear h
  go_enter Try.func132, Try.ntmps132
  have c0 := hP1.c0
  have HP1 := Lib.hid hP1
  clear hP1
  by_cases h0 : nP = 0
  · subst h0
    go_wp2_with fail
    have hs0 : (w.alloc (.cells #[.slice aP 0 cP, .slice aW nW cW] 26)).heap.size = w.heap.size + 1 := by simp
    generalize (w.alloc (.cells #[.slice aP 0 cP, .slice aW nW cW] 26)) = w0 at *
    rw [← hs0]
    refine (among_lit g a n cap lim [-1, 0, 0, 4611686018427387904] _ 4 _ (by omega) rfl rfl (by omega) C0.out.cur).mono ?_
    rintro e w1 ⟨⟨i, hi, rfl⟩, c1, g1⟩
    have C1 := Lib.hid (C0.out.step c1 g1)
    generalize nth _ i = u
    go_wp2_with fail
    go_ret
    exact ⟨⟨_, rfl⟩, C1.out.cur.mono (by omega), C1.out.grow⟩
  · have h1 : ((nP : Int) == 0) = false := by simp; omega
    go_wp2_with fail
    have hs0 : (w.alloc (.cells #[.slice aP nP cP, .slice aW nW cW] 26)).heap.size = w.heap.size + 1 := by simp
    generalize (w.alloc (.cells #[.slice aP nP cP, .slice aW nW cW] 26)) = w0 at *
    refine (spec_one g a n cap lim _ _ (by omega) (by omega) C0.out.cur).mono ?_
    rintro e w1 ⟨⟨t, rfl⟩, c1, g1⟩
    have C1 := Lib.hid (C0.out.step c1 g1)
    have hP2 := pair_other HP1.out g1 hgw
    have d0 := hP2.c0
    clear c1 g1 hP2 c0
    cases t
    · go_wp2_with fail
      refine (spec_pick g a n cap _ _ _ (by omega) (by omega) C1.out.cur).mono ?_
      rintro e w2 ⟨⟨x, rfl, -, -⟩, c2, g2⟩
      have C2 := Lib.hid (C1.out.step c2 g2)
      go_wp2_with fail
      go_ret
      exact ⟨⟨_, rfl⟩, C2.out.cur.mono (by omega), C2.out.grow⟩
    · go_wp2_with fail
      refine (among_lit g a n cap _ [-1, 0, (nP : Int), 4611686018427387904] _ 4 _ (by omega) rfl rfl (by omega) C1.out.cur).mono ?_
      rintro e w2 ⟨⟨i, hi, rfl⟩, c2, g2⟩
      have C2 := Lib.hid (C1.out.step c2 g2)
      generalize nth _ i = u
      go_wp2_with fail
      go_ret
      exact ⟨⟨_, rfl⟩, C2.out.cur.mono (by omega), C2.out.grow⟩
set_option maxRecDepth 100000 in
set_option maxHeartbeats 1000000 in
theorem spec_pays (g : Nat) (a : Option Addr) (n cap : Nat) (lim : Int) (aP : Option Addr) (nP cP : Nat) (aW : Option Addr) (nW cW : Nat) (w : World) (hl : lim ≤ 50000) (hnP : nP ≤ 30) (h : Cur w g a n cap lim) :
    Calls Try.prog 110 #[.pointer (some ⟨g, 0, none⟩), .agg #[.slice aP nP cP, .slice aW nW cW]] w fun e w' => (∃ v, e = .returned v ∧ OwnA w' w.heap.size v 31) ∧ Cur w' g a n cap (lim + 200) ∧ w.grownBy w' (some g) := by
  have C0 := Lib.hid ((Cq.start h).lit (.cells #[.slice aP nP cP, .slice aW nW cW] 26))
  have hP1 := Pair.new w (.slice aP nP cP) (.slice aW nW cW) 26
  have hgw : w.heap.size ≠ g := by have := h.lt; omega
  clear h
  go_enter Try.func110, Try.ntmps110
  have c0 := hP1.c0
  clear hP1
  go_wp2_with fail
  have hs0 : w.heap.size ≤ (w.alloc (.cells #[.slice aP nP cP, .slice aW nW cW] 26)).heap.size := by simp
  generalize (w.alloc (.cells #[.slice aP nP cP, .slice aW nW cW] 26)) = w0 at *
  refine (spec_l1Least _ _ _).mono ?_
  rintro e w1 ⟨rfl, rfl⟩
  obtain ⟨m, hm, hm2⟩ : ∃ m : Nat, least (nP : Int) 24 = (m : Int) ∧ m ≤ 30 := ⟨(least (nP : Int) 24).toNat, by unfold least; omega, by unfold least; omega⟩
  rw [hm]
  clear hm
  go_wp2_with fail
  refine (spec_somePays g a n cap lim m _ (by omega) hm2 C0.out.cur).mono ?_
  rintro e w2 ⟨⟨v, rfl, ov⟩, c2, g2⟩
  have C2 := Lib.hid (C0.out.step c2 g2)
  have OV := Lib.hid (ov.mono hs0)
  clear ov c2 g2
  go_wp2_with fail
  go_ret
  exact ⟨⟨_, rfl, OV.out⟩, C2.out.cur, C2.out.grow⟩
set_option maxRecDepth 100000 in
set_option maxHeartbeats 1000000 in
theorem spec_endPays (g : Nat) (a : Option Addr) (n cap : Nat) (lim : Int) (aP : Option Addr) (nP cP : Nat) (aW : Option Addr) (nW cW : Nat) (ps ws : List Int) (w : World) (hl : lim ≤ 50000) (hnP : nP ≤ 30) (hT : Tre w aP nP cP aW nW cW ps ws) (h : Cur w g a n cap lim) :
    Calls Try.prog 105 #[.pointer (some ⟨g, 0, none⟩), .agg #[.slice aP nP cP, .slice aW nW cW]] w fun e w' => (∃ v, e = .returned v ∧ OwnA w' w.heap.size v 31) ∧ Cur w' g a n cap (lim + 200) ∧ w.grownBy w' (some g) := by
  have C0 := Lib.hid ((Cq.start h).lit (.cells #[.slice aP nP cP, .slice aW nW cW] 26))
  have hP1 := Lib.hid (Pair.new w (.slice aP nP cP) (.slice aW nW cW) 26)
  have HT := Lib.hid (hT.below (below_new w (.cells #[.slice aP nP cP, .slice aW nW cW] 26)))
  clear h hT
  go_enter Try.func105, Try.ntmps105
  have c0 := hP1.out.c0
  have c1 := hP1.out.c1
  go_wp2_with fail
  have hs0 : w.heap.size ≤ (w.alloc (.cells #[.slice aP nP cP, .slice aW nW cW] 26)).heap.size := by simp
  generalize (w.alloc (.cells #[.slice aP nP cP, .slice aW nW cW] 26)) = w0 at *
  refine (spec_l2Good _ _ _ _ _ _ ps ws _ HT.out).mono ?_
  rintro e w1 ⟨rfl, b1⟩
  have C1 := Lib.hid (C0.out.below b1)
  have hP2 := hP1.out.below b1
  have d0 := hP2.c0
  have d1 := hP2.c1
  have HT1 := Lib.hid (HT.out.below b1)
  have hs1 : w.heap.size ≤ w1.heap.size := Nat.le_trans hs0 b1.size
  clear b1 c0 c1
  cases ht : treeB ps ws
  · clear ht
    go_wp2_with fail
    refine (spec_somePays g a n cap lim 3 _ (by omega) (by omega) C1.out.cur).mono ?_
    rintro e w2 ⟨⟨v, rfl, ov⟩, c2, g2⟩
    have C2 := Lib.hid (C1.out.step c2 g2)
    have OV := Lib.hid (ov.mono hs1)
    clear ov c2 g2
    go_wp2_with fail
    go_ret
    exact ⟨⟨_, rfl, OV.out⟩, C2.out.cur, C2.out.grow⟩
  · have hTr := Lib.hid (treeB_t ht)
    clear ht
    go_wp2_with fail
    refine (spec_l2Ends _ _ _ _ _ _ ps ws _ HT1.out hTr.out.toPa).mono ?_
    rintro e w2 ⟨v2, rfl, o2, b2⟩
    obtain ⟨a2, c2, rfl⟩ := o2.shape
    have C2 := Lib.hid (C1.out.below b2)
    have hl2 : (ends ps).length ≤ 30 := by have := filt_length (endB ps) ps.length; have := hTr.out.n24; unfold ends; omega
    have hs2 : w.heap.size ≤ w2.heap.size := Nat.le_trans hs1 b2.size
    generalize (ends ps).length = m at *
    clear o2 b2 d0 d1
    go_wp2_with fail
    refine (spec_somePays g a n cap lim m _ (by omega) hl2 C2.out.cur).mono ?_
    rintro e w3 ⟨⟨v, rfl, ov⟩, c3, g3⟩
    have C3 := Lib.hid (C2.out.step c3 g3)
    have OV := Lib.hid (ov.mono hs2)
    clear ov c3 g3
    go_wp2_with fail
    go_ret
    exact ⟨⟨_, rfl, OV.out⟩, C3.out.cur, C3.out.grow⟩
end Go.Proofs.Ytnbomleieianoaa
