/- Contracts and plain laws for the statement FnStoppedMeans, part 5. No conditions but those stated in each. -/
import Derived.Test.YtnbomleieianoaaGreatBnFnStoppedMeans4
import Derived.Test.YtnbomleieianoaaGreatBnFnStoppedMeans3
import Derived.Test.YtnbomleieianoaaGreatBnFnStoppedMeans17
/- Contract of the reference: a number put to its place, once. -/
namespace Go.Proofs.YtnbomleieianoaaGreat
open Go.RowKit

set_option maxRecDepth 100000 in
set_option maxHeartbeats 2000000 in
theorem spec_l1Put (a : Option Addr) (n cap : Nat) (p : Nat → Bool) (k Y base : Nat) (w : World) (hk : k ≤ 1048576) (hY : Y < k) (hb : base ≤ w.heap.size) (h : Own w base (.slice a n cap) (filt p k)) :
    Calls Tryz.prog 116 #[.slice a n cap, .int .i64 (Y : Int)] w fun e w' => ∃ v, e = .returned v ∧ Own w' base v (filt (fun z => p z || z == Y) k) ∧ Below w.heap.size w w' := by
  have hc := h.cap
  have hll := filt_length p k
  obtain ⟨A, B, h1, h2, h3, h4, h5⟩ := filt_or (p := p) (y := Y) hY
  obtain ⟨R, hR⟩ : ∃ R, R = A ++ (if p Y then B else (Y : Int) :: B) := ⟨_, rfl⟩
  rw [h5, ← hR]
  have HR := Lib.hid hR
  rw [h1] at h hc hll
  clear h1 h5 hR
  have H := Lib.hid h
  have HI := Lib.hid h.ints
  have hA : ∀ i, i < A.length → nth (A ++ B) i < (Y : Int) := fun i hi => by rw [nth_append_l hi]; exact h2 _ (nth_mem hi)
  have HA := Lib.hid hA
  have H3 := Lib.hid h3
  have H4 := Lib.hid h4
  have hlen : n = A.length + B.length := by rw [← List.length_append]; exact hc.2.2.1
  have hAl : A.length ≤ 1048576 := by have := hc.2.2.1; omega
  have hn2 : n ≤ 1048576 := by have := hc.2.2.1; omega
  have hcc := hc.2.2.2
  have hnc := hc.1
  have Hcap := Lib.hid hc.2.1
  have Hlen := Lib.hid hlen
  have HA0 : Hid (Ints w a A.length A) := Lib.hid (by have := HI.out.take (k := A.length) (by omega); rwa [List.take_left' rfl] at this)
  clear h h2 h3 h4 hA hll hc hlen
  rw [show maxLen = 9223372036854775807 from rfl] at hcc
  go_enter Tryz.func116, Tryz.ntmps116
  go_wp2_with fail
  go_loop [5] (fun v5 => ∃ i : Nat, i ≤ A.length ∧ v5 = .int .i64 (i : Int)) (fun v5 => A.length - (intOf v5).toNat)
  case atStart => exact ⟨0, Nat.zero_le _, rfl⟩
  case round =>
    obtain ⟨i, hi, rfl⟩ := hrel
    by_cases hlt : i < A.length
    · obtain ⟨b, off, rfl, hcl⟩ := HI.out.at (i := i) (Below.refl _ _) (by have := Hlen.out; omega)
      have hv := HA.out i hlt
      have hin : (i : Int) < n := by have := Hlen.out; omega
      generalize nth (A ++ B) i = u at *
      go_wp2_with fail
      go_round
      case rel => exact ⟨i + 1, by omega, by go_num⟩
      case measure => simp [intOf]; omega
    · obtain rfl : i = A.length := by omega
      clear hlt hi
      cases hB : B with
      | nil =>
        subst hB
        have hp : p Y = false := by
          cases hp : p Y
          · rfl
          · obtain ⟨b', hb', _⟩ := H3.out hp; cases hb'
        have Hp := Lib.hid hp
        clear hp
        obtain rfl : n = A.length := by have := Hlen.out; simpa using this
        have hin : ¬ ((A.length : Int) < (A.length : Int)) := by omega
        cases a with
        | none =>
          have hz : A.length = 0 := by
            rcases Nat.eq_zero_or_pos A.length with h0 | h0
            · exact h0
            · obtain ⟨b, off, he, _⟩ := HA0.out.2 h0; cases he
          obtain rfl := Hcap.out rfl
          obtain rfl : A = [] := List.length_eq_zero_iff.1 hz
          clear hz
          go_wp2_with fail
          refine wp_region_noPanic ?_
          refine wp_region_held_drew (S := (fun _ => True)) (by kernel_rfl) ?_ (fun hHeld0 => ?_)
          · trivial
          refine takeH (i := 1) (oi := _) (v := ?_) rfl (by kernel_rfl) (by kernel_rfl) (by kernel_rfl) (fun _ _ _ h => h) (Or.inl ⟨by rfl, ?_⟩) (by assumption) ?_
          rotate_left
          · first | (intro w hSw; (try dsimp only at hSw); go_simp; done) | (intro w hSw; (try dsimp only at hSw); go_simp; with_reducible rfl)
          (try simp only [Act.put, List.setIfInBounds_toArray, List.set_cons_zero, List.set_cons_succ])
          refine takeH (i := 2) (oi := _) (v := ?_) rfl (by kernel_rfl) (by kernel_rfl) (by kernel_rfl) (fun _ _ _ h => h) (Or.inl ⟨by rfl, ?_⟩) (by assumption) ?_
          rotate_left
          · first | (intro w hSw; (try dsimp only at hSw); go_simp; done) | (intro w hSw; (try dsimp only at hSw); go_simp; with_reducible rfl)
          (try simp only [Act.put, List.setIfInBounds_toArray, List.set_cons_zero, List.set_cons_succ])
          refine takeH (i := 3) (oi := _) (v := ?_) rfl (by kernel_rfl) (by kernel_rfl) (by kernel_rfl) (fun _ _ _ h => h) (Or.inl ⟨by rfl, ?_⟩) (by assumption) ?_
          rotate_left
          · first | (intro w hSw; (try dsimp only at hSw); go_simp; done) | (intro w hSw; (try dsimp only at hSw); go_simp; with_reducible rfl)
          (try simp only [Act.put, List.setIfInBounds_toArray, List.set_cons_zero, List.set_cons_succ])
          refine takeH (i := 5) (oi := _) (v := ?_) rfl (by kernel_rfl) (by kernel_rfl) (by kernel_rfl) (fun _ _ _ h => h) (Or.inl ⟨by rfl, ?_⟩) (by assumption) ?_
          rotate_left
          · first | (intro w hSw; (try dsimp only at hSw); go_simp; done) | (intro w hSw; (try dsimp only at hSw); go_simp; with_reducible rfl)
          (try simp only [Act.put, List.setIfInBounds_toArray, List.set_cons_zero, List.set_cons_succ])
          refine takeH (i := 8) (oi := _) (v := ?_) rfl (by kernel_rfl) (by kernel_rfl) (by kernel_rfl) (fun _ _ _ h => h) (Or.inl ⟨by rfl, ?_⟩) (by assumption) ?_
          rotate_left
          · first | (intro w hSw; (try dsimp only at hSw); go_simp; done) | (intro w hSw; (try dsimp only at hSw); go_simp; with_reducible rfl)
          (try simp only [Act.put, List.setIfInBounds_toArray, List.set_cons_zero, List.set_cons_succ])
          refine takeH (i := 9) (oi := _) (v := ?_) rfl (by kernel_rfl) (by kernel_rfl) (by kernel_rfl) (fun _ _ _ h => h) (Or.inl ⟨by rfl, ?_⟩) (by assumption) ?_
          rotate_left
          · first | (intro w hSw; (try dsimp only at hSw); go_simp; done) | (intro w hSw; (try dsimp only at hSw); go_simp; with_reducible rfl)
          (try simp only [Act.put, List.setIfInBounds_toArray, List.set_cons_zero, List.set_cons_succ])
          refine takeH (i := 10) (oi := _) (v := ?_) rfl (by kernel_rfl) (by kernel_rfl) (by kernel_rfl) (fun _ _ _ h => h) (Or.inl ⟨by rfl, ?_⟩) (by assumption) ?_
          rotate_left
          · first | (intro w hSw; (try dsimp only at hSw); go_simp; done) | (intro w hSw; (try dsimp only at hSw); go_simp; with_reducible rfl)
          (try simp only [Act.put, List.setIfInBounds_toArray, List.set_cons_zero, List.set_cons_succ])
          refine wpAnyH_ready (rs := [0, 6]) (by kernel_rfl) (by simp) ?_
          refine consM rfl (fun Kq hKq => ?_) (consH rfl (fun Kq hKq => ?_))
          · go_simp
            have L1 : Below w.heap.size w (w.alloc (.cells #[] 3)).drew := (below_new w _).drew
            have N1 : Own (w.alloc (.cells #[] 3)).drew w.heap.size (.slice (some ⟨w.heap.size, 0, none⟩) 0 0) [] := (own_nil0 w).below (Below.refl _ _).drew
            refine hKq.out _ _ ?_ (fun hHeld1 => ?_)
            · trivial
            clear hKq Kq
            (try simp only [Act.put, List.setIfInBounds_toArray, List.set_cons_zero, List.set_cons_succ])
            clear hHeld0
            refine wpAnyH_ready (rs := [4, 6]) (by kernel_rfl) (by simp) ?_
            refine consM rfl (fun Kq hKq => ?_) (consH rfl (fun Kq hKq => ?_))
            · refine step_appI rfl _ _ rfl w.heap.size _ [] (by rfl) N1 _ _ _ [] (by rfl) ?_ ?_ ?_ ?_ ?_
              · intro h; first | rfl | exact Hcap.out h | cases h
              · exact HA0.out.below L1
              · simp <;> omega
              · have := L1.size; omega
              intro v1 w1 o1 b1 m1
              have L2 := L1.trans b1
              refine hKq.out _ _ ?_ (fun hHeld2 => ?_)
              · trivial
              clear hKq Kq
              (try simp only [Act.put, List.setIfInBounds_toArray, List.set_cons_zero, List.set_cons_succ])
              clear hHeld1
              refine wpAnyH_ready (rs := [6]) (by kernel_rfl) (by simp) ?_
              refine consH rfl (fun Kq hKq => ?_)
              go_simp
              have LT3 := (own_lit1 w1 w.heap.size (Y : Int) L2.size).ints
              have o1' := o1.below (below_new w1 (.cells #[.int .i64 (Y : Int)] 3))
              have L3 := L2.trans (Below.mono (below_new w1 (.cells #[.int .i64 (Y : Int)] 3)) L2.size)
              refine hKq.out _ _ ?_ (fun hHeld3 => ?_)
              · trivial
              clear hKq Kq
              (try simp only [Act.put, List.setIfInBounds_toArray, List.set_cons_zero, List.set_cons_succ])
              clear hHeld2
              refine wpAnyH_ready (rs := [7]) (by kernel_rfl) (by simp) ?_
              refine consH rfl (fun Kq hKq => ?_)
              refine step_appI rfl _ _ rfl w.heap.size _ _ (by rfl) o1' _ _ _ [(Y : Int)] (by rfl) ?_ ?_ ?_ ?_ ?_
              · intro h; first | rfl | exact Hcap.out h | cases h
              · exact LT3
              · simp <;> omega
              · have := L3.size; omega
              intro v2 w2 o2 b2 m2
              have L4 := L3.trans b2
              refine hKq.out _ _ ?_ (fun hHeld4 => ?_)
              · trivial
              clear hKq Kq
              (try simp only [Act.put, List.setIfInBounds_toArray, List.set_cons_zero, List.set_cons_succ])
              clear hHeld3
              refine wpAnyH_ready (rs := [11]) (by kernel_rfl) (by simp) ?_
              refine consH rfl (fun Kq hKq => ?_)
              refine step_appI rfl _ _ rfl w.heap.size _ _ (by rfl) o2 _ _ _ [] (by rfl) ?_ ?_ ?_ ?_ ?_
              · intro h; first | rfl | exact Hcap.out h | cases h
              · exact ints_nil _ _
              · simp <;> omega
              · have := L4.size; omega
              intro v3 w3 o3 b3 m3
              refine hKq.out _ _ ?_ (fun hHeld5 => ?_)
              · trivial
              clear hKq Kq
              (try simp only [Act.put, List.setIfInBounds_toArray, List.set_cons_zero, List.set_cons_succ])
              clear hHeld4
              refine takeH (i := 12) (oi := _) (v := ?_) rfl (by kernel_rfl) (by kernel_rfl) (by kernel_rfl) (fun _ _ _ h => h) (Or.inl ⟨by rfl, ?_⟩) (by assumption) ?_
              rotate_left
              · first | (intro w hSw; (try dsimp only at hSw); go_simp; done) | (intro w hSw; (try dsimp only at hSw); go_simp; with_reducible rfl)
              (try simp only [Act.put, List.setIfInBounds_toArray, List.set_cons_zero, List.set_cons_succ])
              refine wpAnyH_done (by kernel_rfl) ?_ _
              refine NoPanic.normal ?_
              go_wp2_with fail
              go_ret
              exact ⟨_, rfl, by
                have := o3.mono hb
                rw [HR.out, Hp.out, if_neg Bool.false_ne_true]
                simpa using this, L4.trans b3⟩
            · go_simp
              have N2 : Own ((w.alloc (.cells #[] 3)).alloc (.cells #[.int .i64 (Y : Int)] 3)).drew w.heap.size (.slice (some ⟨w.heap.size, 0, none⟩) 0 0) [] := ((own_nil0 w).below (below_new _ _)).below (Below.refl _ _).drew
              have LT2 : Ints ((w.alloc (.cells #[] 3)).alloc (.cells #[.int .i64 (Y : Int)] 3)).drew (some ⟨w.heap.size + 1, 0, none⟩) 1 [(Y : Int)] := by
                have := (own_lit1 (w.alloc (.cells #[] 3)) w.heap.size (Y : Int) (by simp)).ints.below (Below.refl _ _).drew
                simpa using this
              have L2 : Below w.heap.size w ((w.alloc (.cells #[] 3)).alloc (.cells #[.int .i64 (Y : Int)] 3)).drew := ((below_new w _).alloc (by simp) _).drew
              refine hKq.out _ _ ?_ (fun hHeld2 => ?_)
              · trivial
              clear hKq Kq
              (try simp only [Act.put, List.setIfInBounds_toArray, List.set_cons_zero, List.set_cons_succ])
              clear hHeld1
              refine wpAnyH_ready (rs := [4]) (by kernel_rfl) (by simp) ?_
              refine consH rfl (fun Kq hKq => ?_)
              refine step_appI rfl _ _ rfl w.heap.size _ [] (by rfl) N2 _ _ _ [] (by rfl) ?_ ?_ ?_ ?_ ?_
              · intro h; first | rfl | exact Hcap.out h | cases h
              · exact HA0.out.below L2
              · simp <;> omega
              · have := L2.size; omega
              intro v1 w1 o1 b1 m1
              have L3 := L2.trans b1
              have LT3 := LT2.moved m1 (fun _ p hp e => by cases hp; simp [Value.ownBlock] at e)
              refine hKq.out _ _ ?_ (fun hHeld3 => ?_)
              · trivial
              clear hKq Kq
              (try simp only [Act.put, List.setIfInBounds_toArray, List.set_cons_zero, List.set_cons_succ])
              clear hHeld2
              refine wpAnyH_ready (rs := [7]) (by kernel_rfl) (by simp) ?_
              refine consH rfl (fun Kq hKq => ?_)
              refine step_appI rfl _ _ rfl w.heap.size _ _ (by rfl) o1 _ _ _ [(Y : Int)] (by rfl) ?_ ?_ ?_ ?_ ?_
              · intro h; first | rfl | exact Hcap.out h | cases h
              · exact LT3.1
              · simp <;> omega
              · have := L3.size; omega
              intro v2 w2 o2 b2 m2
              have L4 := L3.trans b2
              refine hKq.out _ _ ?_ (fun hHeld4 => ?_)
              · trivial
              clear hKq Kq
              (try simp only [Act.put, List.setIfInBounds_toArray, List.set_cons_zero, List.set_cons_succ])
              clear hHeld3
              refine wpAnyH_ready (rs := [11]) (by kernel_rfl) (by simp) ?_
              refine consH rfl (fun Kq hKq => ?_)
              refine step_appI rfl _ _ rfl w.heap.size _ _ (by rfl) o2 _ _ _ [] (by rfl) ?_ ?_ ?_ ?_ ?_
              · intro h; first | rfl | exact Hcap.out h | cases h
              · exact ints_nil _ _
              · simp <;> omega
              · have := L4.size; omega
              intro v3 w3 o3 b3 m3
              refine hKq.out _ _ ?_ (fun hHeld5 => ?_)
              · trivial
              clear hKq Kq
              (try simp only [Act.put, List.setIfInBounds_toArray, List.set_cons_zero, List.set_cons_succ])
              clear hHeld4
              refine takeH (i := 12) (oi := _) (v := ?_) rfl (by kernel_rfl) (by kernel_rfl) (by kernel_rfl) (fun _ _ _ h => h) (Or.inl ⟨by rfl, ?_⟩) (by assumption) ?_
              rotate_left
              · first | (intro w hSw; (try dsimp only at hSw); go_simp; done) | (intro w hSw; (try dsimp only at hSw); go_simp; with_reducible rfl)
              (try simp only [Act.put, List.setIfInBounds_toArray, List.set_cons_zero, List.set_cons_succ])
              refine wpAnyH_done (by kernel_rfl) ?_ _
              refine NoPanic.normal ?_
              go_wp2_with fail
              go_ret
              exact ⟨_, rfl, by
                have := o3.mono hb
                rw [HR.out, Hp.out, if_neg Bool.false_ne_true]
                simpa using this, L4.trans b3⟩
          · go_simp
            have L1 : Below w.heap.size w (w.alloc (.cells #[.int .i64 (Y : Int)] 3)).drew := (below_new w _).drew
            refine hKq.out _ _ ?_ (fun hHeld1 => ?_)
            · trivial
            clear hKq Kq
            (try simp only [Act.put, List.setIfInBounds_toArray, List.set_cons_zero, List.set_cons_succ])
            clear hHeld0
            refine wpAnyH_ready (rs := [0]) (by kernel_rfl) (by simp) ?_
            refine consH rfl (fun Kq hKq => ?_)
            go_simp
            have N2 : Own ((w.alloc (.cells #[.int .i64 (Y : Int)] 3)).alloc (.cells #[] 3)).drew w.heap.size (.slice (some ⟨w.heap.size + 1, 0, none⟩) 0 0) [] := by
              have := ((own_nil0 (w.alloc (.cells #[.int .i64 (Y : Int)] 3))).mono (base' := w.heap.size) (by simp)).below (Below.refl _ _).drew
              simpa using this
            have LT2 : Ints ((w.alloc (.cells #[.int .i64 (Y : Int)] 3)).alloc (.cells #[] 3)).drew (some ⟨w.heap.size, 0, none⟩) 1 [(Y : Int)] := ((own_lit1 w w.heap.size (Y : Int) (Nat.le_refl _)).ints.below (below_new _ _)).below (Below.refl _ _).drew
            have L2 : Below w.heap.size w ((w.alloc (.cells #[.int .i64 (Y : Int)] 3)).alloc (.cells #[] 3)).drew := ((below_new w _).alloc (by simp) _).drew
            refine hKq.out _ _ ?_ (fun hHeld2 => ?_)
            · trivial
            clear hKq Kq
            (try simp only [Act.put, List.setIfInBounds_toArray, List.set_cons_zero, List.set_cons_succ])
            clear hHeld1
            refine wpAnyH_ready (rs := [4]) (by kernel_rfl) (by simp) ?_
            refine consH rfl (fun Kq hKq => ?_)
            refine step_appI rfl _ _ rfl w.heap.size _ [] (by rfl) N2 _ _ _ [] (by rfl) ?_ ?_ ?_ ?_ ?_
            · intro h; first | rfl | exact Hcap.out h | cases h
            · exact HA0.out.below L2
            · simp <;> omega
            · have := L2.size; omega
            intro v1 w1 o1 b1 m1
            have L3 := L2.trans b1
            have LT3 := LT2.moved m1 (fun _ p hp e => by cases hp; simp [Value.ownBlock] at e)
            refine hKq.out _ _ ?_ (fun hHeld3 => ?_)
            · trivial
            clear hKq Kq
            (try simp only [Act.put, List.setIfInBounds_toArray, List.set_cons_zero, List.set_cons_succ])
            clear hHeld2
            refine wpAnyH_ready (rs := [7]) (by kernel_rfl) (by simp) ?_
            refine consH rfl (fun Kq hKq => ?_)
            refine step_appI rfl _ _ rfl w.heap.size _ _ (by rfl) o1 _ _ _ [(Y : Int)] (by rfl) ?_ ?_ ?_ ?_ ?_
            · intro h; first | rfl | exact Hcap.out h | cases h
            · exact LT3.1
            · simp <;> omega
            · have := L3.size; omega
            intro v2 w2 o2 b2 m2
            have L4 := L3.trans b2
            refine hKq.out _ _ ?_ (fun hHeld4 => ?_)
            · trivial
            clear hKq Kq
            (try simp only [Act.put, List.setIfInBounds_toArray, List.set_cons_zero, List.set_cons_succ])
            clear hHeld3
            refine wpAnyH_ready (rs := [11]) (by kernel_rfl) (by simp) ?_
            refine consH rfl (fun Kq hKq => ?_)
            refine step_appI rfl _ _ rfl w.heap.size _ _ (by rfl) o2 _ _ _ [] (by rfl) ?_ ?_ ?_ ?_ ?_
            · intro h; first | rfl | exact Hcap.out h | cases h
            · exact ints_nil _ _
            · simp <;> omega
            · have := L4.size; omega
            intro v3 w3 o3 b3 m3
            refine hKq.out _ _ ?_ (fun hHeld5 => ?_)
            · trivial
            clear hKq Kq
            (try simp only [Act.put, List.setIfInBounds_toArray, List.set_cons_zero, List.set_cons_succ])
            clear hHeld4
            refine takeH (i := 12) (oi := _) (v := ?_) rfl (by kernel_rfl) (by kernel_rfl) (by kernel_rfl) (fun _ _ _ h => h) (Or.inl ⟨by rfl, ?_⟩) (by assumption) ?_
            rotate_left
            · first | (intro w hSw; (try dsimp only at hSw); go_simp; done) | (intro w hSw; (try dsimp only at hSw); go_simp; with_reducible rfl)
            (try simp only [Act.put, List.setIfInBounds_toArray, List.set_cons_zero, List.set_cons_succ])
            refine wpAnyH_done (by kernel_rfl) ?_ _
            refine NoPanic.normal ?_
            go_wp2_with fail
            go_ret
            exact ⟨_, rfl, by
              have := o3.mono hb
              rw [HR.out, Hp.out, if_neg Bool.false_ne_true]
              simpa using this, L4.trans b3⟩
        | some ad =>
          obtain ⟨g, cq, cur, he, -⟩ : ∃ (g cq : Nat) (cur : Unit), (Value.slice (some ad) A.length cap) = .slice (some ⟨g, 0, none⟩) A.length cq ∧ True := by
            have := H.out
            unfold Own World.ownsRow at this
            rcases this.2 with ⟨h1, h2⟩ | ⟨g, cp, cur, h1, _⟩
            · cases h1
            · exact ⟨g, cp, (), by rw [h1]; simp, trivial⟩
          cases he
          have x2 : (0 : Int) ≤ (A.length : Int) := by omega
          by_cases hcA : cap = A.length
          · subst hcA
            have x1 : (A.length : Int) ≤ (A.length : Int) := by omega
            go_wp2_with fail
            refine wp_region_noPanic ?_
            refine wp_region_held_drew (S := (fun _ => True)) (by kernel_rfl) ?_ (fun hHeld0 => ?_)
            · trivial
            refine takeH (i := 1) (oi := _) (v := ?_) rfl (by kernel_rfl) (by kernel_rfl) (by kernel_rfl) (fun _ _ _ h => h) (Or.inl ⟨by rfl, ?_⟩) (by assumption) ?_
            rotate_left
            · first | (intro w hSw; (try dsimp only at hSw); go_simp; done) | (intro w hSw; (try dsimp only at hSw); go_simp; with_reducible rfl)
            (try simp only [Act.put, List.setIfInBounds_toArray, List.set_cons_zero, List.set_cons_succ])
            refine takeH (i := 2) (oi := _) (v := ?_) rfl (by kernel_rfl) (by kernel_rfl) (by kernel_rfl) (fun _ _ _ h => h) (Or.inl ⟨by rfl, ?_⟩) (by assumption) ?_
            rotate_left
            · first | (intro w hSw; (try dsimp only at hSw); go_simp; done) | (intro w hSw; (try dsimp only at hSw); go_simp; with_reducible rfl)
            (try simp only [Act.put, List.setIfInBounds_toArray, List.set_cons_zero, List.set_cons_succ])
            refine takeH (i := 3) (oi := _) (v := ?_) rfl (by kernel_rfl) (by kernel_rfl) (by kernel_rfl) (fun _ _ _ h => h) (Or.inl ⟨by rfl, ?_⟩) (by assumption) ?_
            rotate_left
            · first | (intro w hSw; (try dsimp only at hSw); go_simp; done) | (intro w hSw; (try dsimp only at hSw); go_simp; with_reducible rfl)
            (try simp only [Act.put, List.setIfInBounds_toArray, List.set_cons_zero, List.set_cons_succ])
            refine takeH (i := 5) (oi := _) (v := ?_) rfl (by kernel_rfl) (by kernel_rfl) (by kernel_rfl) (fun _ _ _ h => h) (Or.inl ⟨by rfl, ?_⟩) (by assumption) ?_
            rotate_left
            · first | (intro w hSw; (try dsimp only at hSw); go_simp; done) | (intro w hSw; (try dsimp only at hSw); go_simp; with_reducible rfl)
            (try simp only [Act.put, List.setIfInBounds_toArray, List.set_cons_zero, List.set_cons_succ])
            refine takeH (i := 8) (oi := _) (v := ?_) rfl (by kernel_rfl) (by kernel_rfl) (by kernel_rfl) (fun _ _ _ h => h) (Or.inl ⟨by rfl, ?_⟩) (by assumption) ?_
            rotate_left
            · first | (intro w hSw; (try dsimp only at hSw); go_simp; done) | (intro w hSw; (try dsimp only at hSw); go_simp; with_reducible rfl)
            (try simp only [Act.put, List.setIfInBounds_toArray, List.set_cons_zero, List.set_cons_succ])
            refine takeH (i := 9) (oi := _) (v := ?_) rfl (by kernel_rfl) (by kernel_rfl) (by kernel_rfl) (fun _ _ _ h => h) (Or.inl ⟨by rfl, ?_⟩) (by assumption) ?_
            rotate_left
            · first | (intro w hSw; (try dsimp only at hSw); go_simp; done) | (intro w hSw; (try dsimp only at hSw); go_simp; with_reducible rfl)
            (try simp only [Act.put, List.setIfInBounds_toArray, List.set_cons_zero, List.set_cons_succ])
            refine takeH (i := 10) (oi := _) (v := ?_) rfl (by kernel_rfl) (by kernel_rfl) (by kernel_rfl) (fun _ _ _ h => h) (Or.inl ⟨by rfl, ?_⟩) (by assumption) ?_
            rotate_left
            · first | (intro w hSw; (try dsimp only at hSw); go_simp; done) | (intro w hSw; (try dsimp only at hSw); go_simp; with_reducible rfl)
            (try simp only [Act.put, List.setIfInBounds_toArray, List.set_cons_zero, List.set_cons_succ])
            refine wpAnyH_ready (rs := [0, 6]) (by kernel_rfl) (by simp) ?_
            refine consM rfl (fun Kq hKq => ?_) (consH rfl (fun Kq hKq => ?_))
            · go_simp
              have L1 : Below w.heap.size w (w.alloc (.cells #[] 3)).drew := (below_new w _).drew
              have N1 : Own (w.alloc (.cells #[] 3)).drew w.heap.size (.slice (some ⟨w.heap.size, 0, none⟩) 0 0) [] := (own_nil0 w).below (Below.refl _ _).drew
              refine hKq.out _ _ ?_ (fun hHeld1 => ?_)
              · trivial
              clear hKq Kq
              (try simp only [Act.put, List.setIfInBounds_toArray, List.set_cons_zero, List.set_cons_succ])
              clear hHeld0
              refine wpAnyH_ready (rs := [4, 6]) (by kernel_rfl) (by simp) ?_
              refine consM rfl (fun Kq hKq => ?_) (consH rfl (fun Kq hKq => ?_))
              · refine step_appI rfl _ _ rfl w.heap.size _ [] (by rfl) N1 _ _ _ A (by rfl) ?_ ?_ ?_ ?_ ?_
                · intro h; first | rfl | exact Hcap.out h | cases h
                · exact HA0.out.below L1
                · simp <;> omega
                · have := L1.size; omega
                intro v1 w1 o1 b1 m1
                have L2 := L1.trans b1
                refine hKq.out _ _ ?_ (fun hHeld2 => ?_)
                · trivial
                clear hKq Kq
                (try simp only [Act.put, List.setIfInBounds_toArray, List.set_cons_zero, List.set_cons_succ])
                clear hHeld1
                refine wpAnyH_ready (rs := [6]) (by kernel_rfl) (by simp) ?_
                refine consH rfl (fun Kq hKq => ?_)
                go_simp
                have LT3 := (own_lit1 w1 w.heap.size (Y : Int) L2.size).ints
                have o1' := o1.below (below_new w1 (.cells #[.int .i64 (Y : Int)] 3))
                have L3 := L2.trans (Below.mono (below_new w1 (.cells #[.int .i64 (Y : Int)] 3)) L2.size)
                refine hKq.out _ _ ?_ (fun hHeld3 => ?_)
                · trivial
                clear hKq Kq
                (try simp only [Act.put, List.setIfInBounds_toArray, List.set_cons_zero, List.set_cons_succ])
                clear hHeld2
                refine wpAnyH_ready (rs := [7]) (by kernel_rfl) (by simp) ?_
                refine consH rfl (fun Kq hKq => ?_)
                refine step_appI rfl _ _ rfl w.heap.size _ _ (by rfl) o1' _ _ _ [(Y : Int)] (by rfl) ?_ ?_ ?_ ?_ ?_
                · intro h; first | rfl | exact Hcap.out h | cases h
                · exact LT3
                · simp <;> omega
                · have := L3.size; omega
                intro v2 w2 o2 b2 m2
                have L4 := L3.trans b2
                refine hKq.out _ _ ?_ (fun hHeld4 => ?_)
                · trivial
                clear hKq Kq
                (try simp only [Act.put, List.setIfInBounds_toArray, List.set_cons_zero, List.set_cons_succ])
                clear hHeld3
                refine wpAnyH_ready (rs := [11]) (by kernel_rfl) (by simp) ?_
                refine consH rfl (fun Kq hKq => ?_)
                refine step_appI rfl _ _ rfl w.heap.size _ _ (by rfl) o2 _ _ _ [] (by rfl) ?_ ?_ ?_ ?_ ?_
                · intro h; first | rfl | exact Hcap.out h | cases h
                · exact ints_nil _ _
                · simp <;> omega
                · have := L4.size; omega
                intro v3 w3 o3 b3 m3
                refine hKq.out _ _ ?_ (fun hHeld5 => ?_)
                · trivial
                clear hKq Kq
                (try simp only [Act.put, List.setIfInBounds_toArray, List.set_cons_zero, List.set_cons_succ])
                clear hHeld4
                refine takeH (i := 12) (oi := _) (v := ?_) rfl (by kernel_rfl) (by kernel_rfl) (by kernel_rfl) (fun _ _ _ h => h) (Or.inl ⟨by rfl, ?_⟩) (by assumption) ?_
                rotate_left
                · first | (intro w hSw; (try dsimp only at hSw); go_simp; done) | (intro w hSw; (try dsimp only at hSw); go_simp; with_reducible rfl)
                (try simp only [Act.put, List.setIfInBounds_toArray, List.set_cons_zero, List.set_cons_succ])
                refine wpAnyH_done (by kernel_rfl) ?_ _
                refine NoPanic.normal ?_
                go_wp2_with fail
                go_ret
                exact ⟨_, rfl, by
                  have := o3.mono hb
                  rw [HR.out, Hp.out, if_neg Bool.false_ne_true]
                  simpa using this, L4.trans b3⟩
              · go_simp
                have N2 : Own ((w.alloc (.cells #[] 3)).alloc (.cells #[.int .i64 (Y : Int)] 3)).drew w.heap.size (.slice (some ⟨w.heap.size, 0, none⟩) 0 0) [] := ((own_nil0 w).below (below_new _ _)).below (Below.refl _ _).drew
                have LT2 : Ints ((w.alloc (.cells #[] 3)).alloc (.cells #[.int .i64 (Y : Int)] 3)).drew (some ⟨w.heap.size + 1, 0, none⟩) 1 [(Y : Int)] := by
                  have := (own_lit1 (w.alloc (.cells #[] 3)) w.heap.size (Y : Int) (by simp)).ints.below (Below.refl _ _).drew
                  simpa using this
                have L2 : Below w.heap.size w ((w.alloc (.cells #[] 3)).alloc (.cells #[.int .i64 (Y : Int)] 3)).drew := ((below_new w _).alloc (by simp) _).drew
                refine hKq.out _ _ ?_ (fun hHeld2 => ?_)
                · trivial
                clear hKq Kq
                (try simp only [Act.put, List.setIfInBounds_toArray, List.set_cons_zero, List.set_cons_succ])
                clear hHeld1
                refine wpAnyH_ready (rs := [4]) (by kernel_rfl) (by simp) ?_
                refine consH rfl (fun Kq hKq => ?_)
                refine step_appI rfl _ _ rfl w.heap.size _ [] (by rfl) N2 _ _ _ A (by rfl) ?_ ?_ ?_ ?_ ?_
                · intro h; first | rfl | exact Hcap.out h | cases h
                · exact HA0.out.below L2
                · simp <;> omega
                · have := L2.size; omega
                intro v1 w1 o1 b1 m1
                have L3 := L2.trans b1
                have LT3 := LT2.moved m1 (fun _ p hp e => by cases hp; simp [Value.ownBlock] at e)
                refine hKq.out _ _ ?_ (fun hHeld3 => ?_)
                · trivial
                clear hKq Kq
                (try simp only [Act.put, List.setIfInBounds_toArray, List.set_cons_zero, List.set_cons_succ])
                clear hHeld2
                refine wpAnyH_ready (rs := [7]) (by kernel_rfl) (by simp) ?_
                refine consH rfl (fun Kq hKq => ?_)
                refine step_appI rfl _ _ rfl w.heap.size _ _ (by rfl) o1 _ _ _ [(Y : Int)] (by rfl) ?_ ?_ ?_ ?_ ?_
                · intro h; first | rfl | exact Hcap.out h | cases h
                · exact LT3.1
                · simp <;> omega
                · have := L3.size; omega
                intro v2 w2 o2 b2 m2
                have L4 := L3.trans b2
                refine hKq.out _ _ ?_ (fun hHeld4 => ?_)
                · trivial
                clear hKq Kq
                (try simp only [Act.put, List.setIfInBounds_toArray, List.set_cons_zero, List.set_cons_succ])
                clear hHeld3
                refine wpAnyH_ready (rs := [11]) (by kernel_rfl) (by simp) ?_
                refine consH rfl (fun Kq hKq => ?_)
                refine step_appI rfl _ _ rfl w.heap.size _ _ (by rfl) o2 _ _ _ [] (by rfl) ?_ ?_ ?_ ?_ ?_
                · intro h; first | rfl | exact Hcap.out h | cases h
                · exact ints_nil _ _
                · simp <;> omega
                · have := L4.size; omega
                intro v3 w3 o3 b3 m3
                refine hKq.out _ _ ?_ (fun hHeld5 => ?_)
                · trivial
                clear hKq Kq
                (try simp only [Act.put, List.setIfInBounds_toArray, List.set_cons_zero, List.set_cons_succ])
                clear hHeld4
                refine takeH (i := 12) (oi := _) (v := ?_) rfl (by kernel_rfl) (by kernel_rfl) (by kernel_rfl) (fun _ _ _ h => h) (Or.inl ⟨by rfl, ?_⟩) (by assumption) ?_
                rotate_left
                · first | (intro w hSw; (try dsimp only at hSw); go_simp; done) | (intro w hSw; (try dsimp only at hSw); go_simp; with_reducible rfl)
                (try simp only [Act.put, List.setIfInBounds_toArray, List.set_cons_zero, List.set_cons_succ])
                refine wpAnyH_done (by kernel_rfl) ?_ _
                refine NoPanic.normal ?_
                go_wp2_with fail
                go_ret
                exact ⟨_, rfl, by
                  have := o3.mono hb
                  rw [HR.out, Hp.out, if_neg Bool.false_ne_true]
                  simpa using this, L4.trans b3⟩
            · go_simp
              have L1 : Below w.heap.size w (w.alloc (.cells #[.int .i64 (Y : Int)] 3)).drew := (below_new w _).drew
              refine hKq.out _ _ ?_ (fun hHeld1 => ?_)
              · trivial
              clear hKq Kq
              (try simp only [Act.put, List.setIfInBounds_toArray, List.set_cons_zero, List.set_cons_succ])
              clear hHeld0
              refine wpAnyH_ready (rs := [0]) (by kernel_rfl) (by simp) ?_
              refine consH rfl (fun Kq hKq => ?_)
              go_simp
              have N2 : Own ((w.alloc (.cells #[.int .i64 (Y : Int)] 3)).alloc (.cells #[] 3)).drew w.heap.size (.slice (some ⟨w.heap.size + 1, 0, none⟩) 0 0) [] := by
                have := ((own_nil0 (w.alloc (.cells #[.int .i64 (Y : Int)] 3))).mono (base' := w.heap.size) (by simp)).below (Below.refl _ _).drew
                simpa using this
              have LT2 : Ints ((w.alloc (.cells #[.int .i64 (Y : Int)] 3)).alloc (.cells #[] 3)).drew (some ⟨w.heap.size, 0, none⟩) 1 [(Y : Int)] := ((own_lit1 w w.heap.size (Y : Int) (Nat.le_refl _)).ints.below (below_new _ _)).below (Below.refl _ _).drew
              have L2 : Below w.heap.size w ((w.alloc (.cells #[.int .i64 (Y : Int)] 3)).alloc (.cells #[] 3)).drew := ((below_new w _).alloc (by simp) _).drew
              refine hKq.out _ _ ?_ (fun hHeld2 => ?_)
              · trivial
              clear hKq Kq
              (try simp only [Act.put, List.setIfInBounds_toArray, List.set_cons_zero, List.set_cons_succ])
              clear hHeld1
              refine wpAnyH_ready (rs := [4]) (by kernel_rfl) (by simp) ?_
              refine consH rfl (fun Kq hKq => ?_)
              refine step_appI rfl _ _ rfl w.heap.size _ [] (by rfl) N2 _ _ _ A (by rfl) ?_ ?_ ?_ ?_ ?_
              · intro h; first | rfl | exact Hcap.out h | cases h
              · exact HA0.out.below L2
              · simp <;> omega
              · have := L2.size; omega
              intro v1 w1 o1 b1 m1
              have L3 := L2.trans b1
              have LT3 := LT2.moved m1 (fun _ p hp e => by cases hp; simp [Value.ownBlock] at e)
              refine hKq.out _ _ ?_ (fun hHeld3 => ?_)
              · trivial
              clear hKq Kq
              (try simp only [Act.put, List.setIfInBounds_toArray, List.set_cons_zero, List.set_cons_succ])
              clear hHeld2
              refine wpAnyH_ready (rs := [7]) (by kernel_rfl) (by simp) ?_
              refine consH rfl (fun Kq hKq => ?_)
              refine step_appI rfl _ _ rfl w.heap.size _ _ (by rfl) o1 _ _ _ [(Y : Int)] (by rfl) ?_ ?_ ?_ ?_ ?_
              · intro h; first | rfl | exact Hcap.out h | cases h
              · exact LT3.1
              · simp <;> omega
              · have := L3.size; omega
              intro v2 w2 o2 b2 m2
              have L4 := L3.trans b2
              refine hKq.out _ _ ?_ (fun hHeld4 => ?_)
              · trivial
              clear hKq Kq
              (try simp only [Act.put, List.setIfInBounds_toArray, List.set_cons_zero, List.set_cons_succ])
              clear hHeld3
              refine wpAnyH_ready (rs := [11]) (by kernel_rfl) (by simp) ?_
              refine consH rfl (fun Kq hKq => ?_)
              refine step_appI rfl _ _ rfl w.heap.size _ _ (by rfl) o2 _ _ _ [] (by rfl) ?_ ?_ ?_ ?_ ?_
              · intro h; first | rfl | exact Hcap.out h | cases h
              · exact ints_nil _ _
              · simp <;> omega
              · have := L4.size; omega
              intro v3 w3 o3 b3 m3
              refine hKq.out _ _ ?_ (fun hHeld5 => ?_)
              · trivial
              clear hKq Kq
              (try simp only [Act.put, List.setIfInBounds_toArray, List.set_cons_zero, List.set_cons_succ])
              clear hHeld4
              refine takeH (i := 12) (oi := _) (v := ?_) rfl (by kernel_rfl) (by kernel_rfl) (by kernel_rfl) (fun _ _ _ h => h) (Or.inl ⟨by rfl, ?_⟩) (by assumption) ?_
              rotate_left
              · first | (intro w hSw; (try dsimp only at hSw); go_simp; done) | (intro w hSw; (try dsimp only at hSw); go_simp; with_reducible rfl)
              (try simp only [Act.put, List.setIfInBounds_toArray, List.set_cons_zero, List.set_cons_succ])
              refine wpAnyH_done (by kernel_rfl) ?_ _
              refine NoPanic.normal ?_
              go_wp2_with fail
              go_ret
              exact ⟨_, rfl, by
                have := o3.mono hb
                rw [HR.out, Hp.out, if_neg Bool.false_ne_true]
                simpa using this, L4.trans b3⟩
          · have x1 : (A.length : Int) ≤ (cap : Int) := by omega
            have x4 : (A.length : Int) ≤ (A.length : Int) := by omega
            go_wp2_with fail
            refine wp_region_noPanic ?_
            refine wp_region_held_drew (S := (fun _ => True)) (by kernel_rfl) ?_ (fun hHeld0 => ?_)
            · trivial
            refine takeH (i := 1) (oi := _) (v := ?_) rfl (by kernel_rfl) (by kernel_rfl) (by kernel_rfl) (fun _ _ _ h => h) (Or.inl ⟨by rfl, ?_⟩) (by assumption) ?_
            rotate_left
            · first | (intro w hSw; (try dsimp only at hSw); go_simp; done) | (intro w hSw; (try dsimp only at hSw); go_simp; with_reducible rfl)
            (try simp only [Act.put, List.setIfInBounds_toArray, List.set_cons_zero, List.set_cons_succ])
            refine takeH (i := 2) (oi := _) (v := ?_) rfl (by kernel_rfl) (by kernel_rfl) (by kernel_rfl) (fun _ _ _ h => h) (Or.inl ⟨by rfl, ?_⟩) (by assumption) ?_
            rotate_left
            · first | (intro w hSw; (try dsimp only at hSw); go_simp; done) | (intro w hSw; (try dsimp only at hSw); go_simp; with_reducible rfl)
            (try simp only [Act.put, List.setIfInBounds_toArray, List.set_cons_zero, List.set_cons_succ])
            refine takeH (i := 3) (oi := _) (v := ?_) rfl (by kernel_rfl) (by kernel_rfl) (by kernel_rfl) (fun _ _ _ h => h) (Or.inl ⟨by rfl, ?_⟩) (by assumption) ?_
            rotate_left
            · first | (intro w hSw; (try dsimp only at hSw); go_simp; done) | (intro w hSw; (try dsimp only at hSw); go_simp; with_reducible rfl)
            (try simp only [Act.put, List.setIfInBounds_toArray, List.set_cons_zero, List.set_cons_succ])
            refine takeH (i := 5) (oi := _) (v := ?_) rfl (by kernel_rfl) (by kernel_rfl) (by kernel_rfl) (fun _ _ _ h => h) (Or.inl ⟨by rfl, ?_⟩) (by assumption) ?_
            rotate_left
            · first | (intro w hSw; (try dsimp only at hSw); go_simp; done) | (intro w hSw; (try dsimp only at hSw); go_simp; with_reducible rfl)
            (try simp only [Act.put, List.setIfInBounds_toArray, List.set_cons_zero, List.set_cons_succ])
            refine takeH (i := 8) (oi := _) (v := ?_) rfl (by kernel_rfl) (by kernel_rfl) (by kernel_rfl) (fun _ _ _ h => h) (Or.inl ⟨by rfl, ?_⟩) (by assumption) ?_
            rotate_left
            · first | (intro w hSw; (try dsimp only at hSw); go_simp; done) | (intro w hSw; (try dsimp only at hSw); go_simp; with_reducible rfl)
            (try simp only [Act.put, List.setIfInBounds_toArray, List.set_cons_zero, List.set_cons_succ])
            refine takeH (i := 9) (oi := _) (v := ?_) rfl (by kernel_rfl) (by kernel_rfl) (by kernel_rfl) (fun _ _ _ h => h) (Or.inl ⟨by rfl, ?_⟩) (by assumption) ?_
            rotate_left
            · first | (intro w hSw; (try dsimp only at hSw); go_simp; done) | (intro w hSw; (try dsimp only at hSw); go_simp; with_reducible rfl)
            (try simp only [Act.put, List.setIfInBounds_toArray, List.set_cons_zero, List.set_cons_succ])
            refine takeH (i := 10) (oi := _) (v := ?_) rfl (by kernel_rfl) (by kernel_rfl) (by kernel_rfl) (fun _ _ _ h => h) (Or.inl ⟨by rfl, ?_⟩) (by assumption) ?_
            rotate_left
            · first | (intro w hSw; (try dsimp only at hSw); go_simp; done) | (intro w hSw; (try dsimp only at hSw); go_simp; with_reducible rfl)
            (try simp only [Act.put, List.setIfInBounds_toArray, List.set_cons_zero, List.set_cons_succ])
            refine wpAnyH_ready (rs := [0, 6]) (by kernel_rfl) (by simp) ?_
            refine consM rfl (fun Kq hKq => ?_) (consH rfl (fun Kq hKq => ?_))
            · go_simp
              have L1 : Below w.heap.size w (w.alloc (.cells #[] 3)).drew := (below_new w _).drew
              have N1 : Own (w.alloc (.cells #[] 3)).drew w.heap.size (.slice (some ⟨w.heap.size, 0, none⟩) 0 0) [] := (own_nil0 w).below (Below.refl _ _).drew
              refine hKq.out _ _ ?_ (fun hHeld1 => ?_)
              · trivial
              clear hKq Kq
              (try simp only [Act.put, List.setIfInBounds_toArray, List.set_cons_zero, List.set_cons_succ])
              clear hHeld0
              refine wpAnyH_ready (rs := [4, 6]) (by kernel_rfl) (by simp) ?_
              refine consM rfl (fun Kq hKq => ?_) (consH rfl (fun Kq hKq => ?_))
              · refine step_appI rfl _ _ rfl w.heap.size _ [] (by rfl) N1 _ _ _ A (by rfl) ?_ ?_ ?_ ?_ ?_
                · intro h; first | rfl | exact Hcap.out h | cases h
                · exact HA0.out.below L1
                · simp <;> omega
                · have := L1.size; omega
                intro v1 w1 o1 b1 m1
                have L2 := L1.trans b1
                refine hKq.out _ _ ?_ (fun hHeld2 => ?_)
                · trivial
                clear hKq Kq
                (try simp only [Act.put, List.setIfInBounds_toArray, List.set_cons_zero, List.set_cons_succ])
                clear hHeld1
                refine wpAnyH_ready (rs := [6]) (by kernel_rfl) (by simp) ?_
                refine consH rfl (fun Kq hKq => ?_)
                go_simp
                have LT3 := (own_lit1 w1 w.heap.size (Y : Int) L2.size).ints
                have o1' := o1.below (below_new w1 (.cells #[.int .i64 (Y : Int)] 3))
                have L3 := L2.trans (Below.mono (below_new w1 (.cells #[.int .i64 (Y : Int)] 3)) L2.size)
                refine hKq.out _ _ ?_ (fun hHeld3 => ?_)
                · trivial
                clear hKq Kq
                (try simp only [Act.put, List.setIfInBounds_toArray, List.set_cons_zero, List.set_cons_succ])
                clear hHeld2
                refine wpAnyH_ready (rs := [7]) (by kernel_rfl) (by simp) ?_
                refine consH rfl (fun Kq hKq => ?_)
                refine step_appI rfl _ _ rfl w.heap.size _ _ (by rfl) o1' _ _ _ [(Y : Int)] (by rfl) ?_ ?_ ?_ ?_ ?_
                · intro h; first | rfl | exact Hcap.out h | cases h
                · exact LT3
                · simp <;> omega
                · have := L3.size; omega
                intro v2 w2 o2 b2 m2
                have L4 := L3.trans b2
                refine hKq.out _ _ ?_ (fun hHeld4 => ?_)
                · trivial
                clear hKq Kq
                (try simp only [Act.put, List.setIfInBounds_toArray, List.set_cons_zero, List.set_cons_succ])
                clear hHeld3
                refine wpAnyH_ready (rs := [11]) (by kernel_rfl) (by simp) ?_
                refine consH rfl (fun Kq hKq => ?_)
                refine step_appI rfl _ _ rfl w.heap.size _ _ (by rfl) o2 _ _ _ [] (by rfl) ?_ ?_ ?_ ?_ ?_
                · intro h; first | rfl | exact Hcap.out h | cases h
                · exact ints_nil _ _
                · simp <;> omega
                · have := L4.size; omega
                intro v3 w3 o3 b3 m3
                refine hKq.out _ _ ?_ (fun hHeld5 => ?_)
                · trivial
                clear hKq Kq
                (try simp only [Act.put, List.setIfInBounds_toArray, List.set_cons_zero, List.set_cons_succ])
                clear hHeld4
                refine takeH (i := 12) (oi := _) (v := ?_) rfl (by kernel_rfl) (by kernel_rfl) (by kernel_rfl) (fun _ _ _ h => h) (Or.inl ⟨by rfl, ?_⟩) (by assumption) ?_
                rotate_left
                · first | (intro w hSw; (try dsimp only at hSw); go_simp; done) | (intro w hSw; (try dsimp only at hSw); go_simp; with_reducible rfl)
                (try simp only [Act.put, List.setIfInBounds_toArray, List.set_cons_zero, List.set_cons_succ])
                refine wpAnyH_done (by kernel_rfl) ?_ _
                refine NoPanic.normal ?_
                go_wp2_with fail
                go_ret
                exact ⟨_, rfl, by
                  have := o3.mono hb
                  rw [HR.out, Hp.out, if_neg Bool.false_ne_true]
                  simpa using this, L4.trans b3⟩
              · go_simp
                have N2 : Own ((w.alloc (.cells #[] 3)).alloc (.cells #[.int .i64 (Y : Int)] 3)).drew w.heap.size (.slice (some ⟨w.heap.size, 0, none⟩) 0 0) [] := ((own_nil0 w).below (below_new _ _)).below (Below.refl _ _).drew
                have LT2 : Ints ((w.alloc (.cells #[] 3)).alloc (.cells #[.int .i64 (Y : Int)] 3)).drew (some ⟨w.heap.size + 1, 0, none⟩) 1 [(Y : Int)] := by
                  have := (own_lit1 (w.alloc (.cells #[] 3)) w.heap.size (Y : Int) (by simp)).ints.below (Below.refl _ _).drew
                  simpa using this
                have L2 : Below w.heap.size w ((w.alloc (.cells #[] 3)).alloc (.cells #[.int .i64 (Y : Int)] 3)).drew := ((below_new w _).alloc (by simp) _).drew
                refine hKq.out _ _ ?_ (fun hHeld2 => ?_)
                · trivial
                clear hKq Kq
                (try simp only [Act.put, List.setIfInBounds_toArray, List.set_cons_zero, List.set_cons_succ])
                clear hHeld1
                refine wpAnyH_ready (rs := [4]) (by kernel_rfl) (by simp) ?_
                refine consH rfl (fun Kq hKq => ?_)
                refine step_appI rfl _ _ rfl w.heap.size _ [] (by rfl) N2 _ _ _ A (by rfl) ?_ ?_ ?_ ?_ ?_
                · intro h; first | rfl | exact Hcap.out h | cases h
                · exact HA0.out.below L2
                · simp <;> omega
                · have := L2.size; omega
                intro v1 w1 o1 b1 m1
                have L3 := L2.trans b1
                have LT3 := LT2.moved m1 (fun _ p hp e => by cases hp; simp [Value.ownBlock] at e)
                refine hKq.out _ _ ?_ (fun hHeld3 => ?_)
                · trivial
                clear hKq Kq
                (try simp only [Act.put, List.setIfInBounds_toArray, List.set_cons_zero, List.set_cons_succ])
                clear hHeld2
                refine wpAnyH_ready (rs := [7]) (by kernel_rfl) (by simp) ?_
                refine consH rfl (fun Kq hKq => ?_)
                refine step_appI rfl _ _ rfl w.heap.size _ _ (by rfl) o1 _ _ _ [(Y : Int)] (by rfl) ?_ ?_ ?_ ?_ ?_
                · intro h; first | rfl | exact Hcap.out h | cases h
                · exact LT3.1
                · simp <;> omega
                · have := L3.size; omega
                intro v2 w2 o2 b2 m2
                have L4 := L3.trans b2
                refine hKq.out _ _ ?_ (fun hHeld4 => ?_)
                · trivial
                clear hKq Kq
                (try simp only [Act.put, List.setIfInBounds_toArray, List.set_cons_zero, List.set_cons_succ])
                clear hHeld3
                refine wpAnyH_ready (rs := [11]) (by kernel_rfl) (by simp) ?_
                refine consH rfl (fun Kq hKq => ?_)
                refine step_appI rfl _ _ rfl w.heap.size _ _ (by rfl) o2 _ _ _ [] (by rfl) ?_ ?_ ?_ ?_ ?_
                · intro h; first | rfl | exact Hcap.out h | cases h
                · exact ints_nil _ _
                · simp <;> omega
                · have := L4.size; omega
                intro v3 w3 o3 b3 m3
                refine hKq.out _ _ ?_ (fun hHeld5 => ?_)
                · trivial
                clear hKq Kq
                (try simp only [Act.put, List.setIfInBounds_toArray, List.set_cons_zero, List.set_cons_succ])
                clear hHeld4
                refine takeH (i := 12) (oi := _) (v := ?_) rfl (by kernel_rfl) (by kernel_rfl) (by kernel_rfl) (fun _ _ _ h => h) (Or.inl ⟨by rfl, ?_⟩) (by assumption) ?_
                rotate_left
                · first | (intro w hSw; (try dsimp only at hSw); go_simp; done) | (intro w hSw; (try dsimp only at hSw); go_simp; with_reducible rfl)
                (try simp only [Act.put, List.setIfInBounds_toArray, List.set_cons_zero, List.set_cons_succ])
                refine wpAnyH_done (by kernel_rfl) ?_ _
                refine NoPanic.normal ?_
                go_wp2_with fail
                go_ret
                exact ⟨_, rfl, by
                  have := o3.mono hb
                  rw [HR.out, Hp.out, if_neg Bool.false_ne_true]
                  simpa using this, L4.trans b3⟩
            · go_simp
              have L1 : Below w.heap.size w (w.alloc (.cells #[.int .i64 (Y : Int)] 3)).drew := (below_new w _).drew
              refine hKq.out _ _ ?_ (fun hHeld1 => ?_)
              · trivial
              clear hKq Kq
              (try simp only [Act.put, List.setIfInBounds_toArray, List.set_cons_zero, List.set_cons_succ])
              clear hHeld0
              refine wpAnyH_ready (rs := [0]) (by kernel_rfl) (by simp) ?_
              refine consH rfl (fun Kq hKq => ?_)
              go_simp
              have N2 : Own ((w.alloc (.cells #[.int .i64 (Y : Int)] 3)).alloc (.cells #[] 3)).drew w.heap.size (.slice (some ⟨w.heap.size + 1, 0, none⟩) 0 0) [] := by
                have := ((own_nil0 (w.alloc (.cells #[.int .i64 (Y : Int)] 3))).mono (base' := w.heap.size) (by simp)).below (Below.refl _ _).drew
                simpa using this
              have LT2 : Ints ((w.alloc (.cells #[.int .i64 (Y : Int)] 3)).alloc (.cells #[] 3)).drew (some ⟨w.heap.size, 0, none⟩) 1 [(Y : Int)] := ((own_lit1 w w.heap.size (Y : Int) (Nat.le_refl _)).ints.below (below_new _ _)).below (Below.refl _ _).drew
              have L2 : Below w.heap.size w ((w.alloc (.cells #[.int .i64 (Y : Int)] 3)).alloc (.cells #[] 3)).drew := ((below_new w _).alloc (by simp) _).drew
              refine hKq.out _ _ ?_ (fun hHeld2 => ?_)
              · trivial
              clear hKq Kq
              (try simp only [Act.put, List.setIfInBounds_toArray, List.set_cons_zero, List.set_cons_succ])
              clear hHeld1
              refine wpAnyH_ready (rs := [4]) (by kernel_rfl) (by simp) ?_
              refine consH rfl (fun Kq hKq => ?_)
              refine step_appI rfl _ _ rfl w.heap.size _ [] (by rfl) N2 _ _ _ A (by rfl) ?_ ?_ ?_ ?_ ?_
              · intro h; first | rfl | exact Hcap.out h | cases h
              · exact HA0.out.below L2
              · simp <;> omega
              · have := L2.size; omega
              intro v1 w1 o1 b1 m1
              have L3 := L2.trans b1
              have LT3 := LT2.moved m1 (fun _ p hp e => by cases hp; simp [Value.ownBlock] at e)
              refine hKq.out _ _ ?_ (fun hHeld3 => ?_)
              · trivial
              clear hKq Kq
              (try simp only [Act.put, List.setIfInBounds_toArray, List.set_cons_zero, List.set_cons_succ])
              clear hHeld2
              refine wpAnyH_ready (rs := [7]) (by kernel_rfl) (by simp) ?_
              refine consH rfl (fun Kq hKq => ?_)
              refine step_appI rfl _ _ rfl w.heap.size _ _ (by rfl) o1 _ _ _ [(Y : Int)] (by rfl) ?_ ?_ ?_ ?_ ?_
              · intro h; first | rfl | exact Hcap.out h | cases h
              · exact LT3.1
              · simp <;> omega
              · have := L3.size; omega
              intro v2 w2 o2 b2 m2
              have L4 := L3.trans b2
              refine hKq.out _ _ ?_ (fun hHeld4 => ?_)
              · trivial
              clear hKq Kq
              (try simp only [Act.put, List.setIfInBounds_toArray, List.set_cons_zero, List.set_cons_succ])
              clear hHeld3
              refine wpAnyH_ready (rs := [11]) (by kernel_rfl) (by simp) ?_
              refine consH rfl (fun Kq hKq => ?_)
              refine step_appI rfl _ _ rfl w.heap.size _ _ (by rfl) o2 _ _ _ [] (by rfl) ?_ ?_ ?_ ?_ ?_
              · intro h; first | rfl | exact Hcap.out h | cases h
              · exact ints_nil _ _
              · simp <;> omega
              · have := L4.size; omega
              intro v3 w3 o3 b3 m3
              refine hKq.out _ _ ?_ (fun hHeld5 => ?_)
              · trivial
              clear hKq Kq
              (try simp only [Act.put, List.setIfInBounds_toArray, List.set_cons_zero, List.set_cons_succ])
              clear hHeld4
              refine takeH (i := 12) (oi := _) (v := ?_) rfl (by kernel_rfl) (by kernel_rfl) (by kernel_rfl) (fun _ _ _ h => h) (Or.inl ⟨by rfl, ?_⟩) (by assumption) ?_
              rotate_left
              · first | (intro w hSw; (try dsimp only at hSw); go_simp; done) | (intro w hSw; (try dsimp only at hSw); go_simp; with_reducible rfl)
              (try simp only [Act.put, List.setIfInBounds_toArray, List.set_cons_zero, List.set_cons_succ])
              refine wpAnyH_done (by kernel_rfl) ?_ _
              refine NoPanic.normal ?_
              go_wp2_with fail
              go_ret
              exact ⟨_, rfl, by
                have := o3.mono hb
                rw [HR.out, Hp.out, if_neg Bool.false_ne_true]
                simpa using this, L4.trans b3⟩
      | cons u B' =>
        subst hB
        obtain ⟨b, off, rfl, hcl⟩ := HI.out.at (i := A.length) (Below.refl _ _) (by have hlen := Hlen.out; simp at hlen; omega)
        have hat : nth (A ++ u :: B') A.length = u := by unfold nth; simp [List.getD]
        rw [hat] at hcl
        have hin : (A.length : Int) < n := by have hlen := Hlen.out; simp at hlen; omega
        cases hp : p Y
        · have hgt := H4.out hp u (by simp)
          have Hp := Lib.hid hp
          have hne : (u == (Y : Int)) = false := by rw [beq_eq_false_iff_ne]; omega
          have hnlt : ¬ u < (Y : Int) := by omega
          clear hp hat
          have x1 : (A.length : Int) ≤ (cap : Int) := by omega
          have x2 : (0 : Int) ≤ (A.length : Int) := by omega
          have x3 : ¬ cap = A.length := by omega
          have x4 : (A.length : Int) ≤ (n : Int) := by omega
          have x5 : (n : Int) ≤ (cap : Int) := by omega
          have HB0 : Hid (Ints w (some ⟨b, off + A.length, none⟩) (n - A.length) (u :: B')) := Lib.hid (by have := HI.out.drop A.length; rwa [List.drop_left' rfl] at this)
          have hBl : n - A.length ≤ 1048576 := by omega
          go_wp2_with fail
          refine wp_region_noPanic ?_
          refine wp_region_held_drew (S := (fun _ => True)) (by kernel_rfl) ?_ (fun hHeld0 => ?_)
          · trivial
          refine takeH (i := 1) (oi := _) (v := ?_) rfl (by kernel_rfl) (by kernel_rfl) (by kernel_rfl) (fun _ _ _ h => h) (Or.inl ⟨by rfl, ?_⟩) (by assumption) ?_
          rotate_left
          · first | (intro w hSw; (try dsimp only at hSw); go_simp; done) | (intro w hSw; (try dsimp only at hSw); go_simp; with_reducible rfl)
          (try simp only [Act.put, List.setIfInBounds_toArray, List.set_cons_zero, List.set_cons_succ])
          refine takeH (i := 2) (oi := _) (v := ?_) rfl (by kernel_rfl) (by kernel_rfl) (by kernel_rfl) (fun _ _ _ h => h) (Or.inl ⟨by rfl, ?_⟩) (by assumption) ?_
          rotate_left
          · first | (intro w hSw; (try dsimp only at hSw); go_simp; done) | (intro w hSw; (try dsimp only at hSw); go_simp; with_reducible rfl)
          (try simp only [Act.put, List.setIfInBounds_toArray, List.set_cons_zero, List.set_cons_succ])
          refine takeH (i := 3) (oi := _) (v := ?_) rfl (by kernel_rfl) (by kernel_rfl) (by kernel_rfl) (fun _ _ _ h => h) (Or.inl ⟨by rfl, ?_⟩) (by assumption) ?_
          rotate_left
          · first | (intro w hSw; (try dsimp only at hSw); go_simp; done) | (intro w hSw; (try dsimp only at hSw); go_simp; with_reducible rfl)
          (try simp only [Act.put, List.setIfInBounds_toArray, List.set_cons_zero, List.set_cons_succ])
          refine takeH (i := 5) (oi := _) (v := ?_) rfl (by kernel_rfl) (by kernel_rfl) (by kernel_rfl) (fun _ _ _ h => h) (Or.inl ⟨by rfl, ?_⟩) (by assumption) ?_
          rotate_left
          · first | (intro w hSw; (try dsimp only at hSw); go_simp; done) | (intro w hSw; (try dsimp only at hSw); go_simp; with_reducible rfl)
          (try simp only [Act.put, List.setIfInBounds_toArray, List.set_cons_zero, List.set_cons_succ])
          refine takeH (i := 8) (oi := _) (v := ?_) rfl (by kernel_rfl) (by kernel_rfl) (by kernel_rfl) (fun _ _ _ h => h) (Or.inl ⟨by rfl, ?_⟩) (by assumption) ?_
          rotate_left
          · first | (intro w hSw; (try dsimp only at hSw); go_simp; done) | (intro w hSw; (try dsimp only at hSw); go_simp; with_reducible rfl)
          (try simp only [Act.put, List.setIfInBounds_toArray, List.set_cons_zero, List.set_cons_succ])
          refine takeH (i := 9) (oi := _) (v := ?_) rfl (by kernel_rfl) (by kernel_rfl) (by kernel_rfl) (fun _ _ _ h => h) (Or.inl ⟨by rfl, ?_⟩) (by assumption) ?_
          rotate_left
          · first | (intro w hSw; (try dsimp only at hSw); go_simp; done) | (intro w hSw; (try dsimp only at hSw); go_simp; with_reducible rfl)
          (try simp only [Act.put, List.setIfInBounds_toArray, List.set_cons_zero, List.set_cons_succ])
          refine takeH (i := 10) (oi := _) (v := ?_) rfl (by kernel_rfl) (by kernel_rfl) (by kernel_rfl) (fun _ _ _ h => h) (Or.inl ⟨by rfl, ?_⟩) (by assumption) ?_
          rotate_left
          · first | (intro w hSw; (try dsimp only at hSw); go_simp; done) | (intro w hSw; (try dsimp only at hSw); go_simp; with_reducible rfl)
          (try simp only [Act.put, List.setIfInBounds_toArray, List.set_cons_zero, List.set_cons_succ])
          refine wpAnyH_ready (rs := [0, 6]) (by kernel_rfl) (by simp) ?_
          refine consM rfl (fun Kq hKq => ?_) (consH rfl (fun Kq hKq => ?_))
          · go_simp
            have L1 : Below w.heap.size w (w.alloc (.cells #[] 3)).drew := (below_new w _).drew
            have N1 : Own (w.alloc (.cells #[] 3)).drew w.heap.size (.slice (some ⟨w.heap.size, 0, none⟩) 0 0) [] := (own_nil0 w).below (Below.refl _ _).drew
            refine hKq.out _ _ ?_ (fun hHeld1 => ?_)
            · trivial
            clear hKq Kq
            (try simp only [Act.put, List.setIfInBounds_toArray, List.set_cons_zero, List.set_cons_succ])
            clear hHeld0
            refine wpAnyH_ready (rs := [4, 6]) (by kernel_rfl) (by simp) ?_
            refine consM rfl (fun Kq hKq => ?_) (consH rfl (fun Kq hKq => ?_))
            · refine step_appI rfl _ _ rfl w.heap.size _ [] (by rfl) N1 _ _ _ A (by rfl) ?_ ?_ ?_ ?_ ?_
              · intro h; first | rfl | exact Hcap.out h | cases h
              · exact HA0.out.below L1
              · simp <;> omega
              · have := L1.size; omega
              intro v1 w1 o1 b1 m1
              have L2 := L1.trans b1
              refine hKq.out _ _ ?_ (fun hHeld2 => ?_)
              · trivial
              clear hKq Kq
              (try simp only [Act.put, List.setIfInBounds_toArray, List.set_cons_zero, List.set_cons_succ])
              clear hHeld1
              refine wpAnyH_ready (rs := [6]) (by kernel_rfl) (by simp) ?_
              refine consH rfl (fun Kq hKq => ?_)
              go_simp
              have LT3 := (own_lit1 w1 w.heap.size (Y : Int) L2.size).ints
              have o1' := o1.below (below_new w1 (.cells #[.int .i64 (Y : Int)] 3))
              have L3 := L2.trans (Below.mono (below_new w1 (.cells #[.int .i64 (Y : Int)] 3)) L2.size)
              refine hKq.out _ _ ?_ (fun hHeld3 => ?_)
              · trivial
              clear hKq Kq
              (try simp only [Act.put, List.setIfInBounds_toArray, List.set_cons_zero, List.set_cons_succ])
              clear hHeld2
              refine wpAnyH_ready (rs := [7]) (by kernel_rfl) (by simp) ?_
              refine consH rfl (fun Kq hKq => ?_)
              refine step_appI rfl _ _ rfl w.heap.size _ _ (by rfl) o1' _ _ _ [(Y : Int)] (by rfl) ?_ ?_ ?_ ?_ ?_
              · intro h; first | rfl | exact Hcap.out h | cases h
              · exact LT3
              · simp <;> omega
              · have := L3.size; omega
              intro v2 w2 o2 b2 m2
              have L4 := L3.trans b2
              refine hKq.out _ _ ?_ (fun hHeld4 => ?_)
              · trivial
              clear hKq Kq
              (try simp only [Act.put, List.setIfInBounds_toArray, List.set_cons_zero, List.set_cons_succ])
              clear hHeld3
              refine wpAnyH_ready (rs := [11]) (by kernel_rfl) (by simp) ?_
              refine consH rfl (fun Kq hKq => ?_)
              refine step_appI rfl _ _ rfl w.heap.size _ _ (by rfl) o2 _ _ _ (u :: B') (by rfl) ?_ ?_ ?_ ?_ ?_
              · intro h; first | rfl | exact Hcap.out h | cases h
              · exact HB0.out.below L4
              · simp <;> omega
              · have := L4.size; omega
              intro v3 w3 o3 b3 m3
              refine hKq.out _ _ ?_ (fun hHeld5 => ?_)
              · trivial
              clear hKq Kq
              (try simp only [Act.put, List.setIfInBounds_toArray, List.set_cons_zero, List.set_cons_succ])
              clear hHeld4
              refine takeH (i := 12) (oi := _) (v := ?_) rfl (by kernel_rfl) (by kernel_rfl) (by kernel_rfl) (fun _ _ _ h => h) (Or.inl ⟨by rfl, ?_⟩) (by assumption) ?_
              rotate_left
              · first | (intro w hSw; (try dsimp only at hSw); go_simp; done) | (intro w hSw; (try dsimp only at hSw); go_simp; with_reducible rfl)
              (try simp only [Act.put, List.setIfInBounds_toArray, List.set_cons_zero, List.set_cons_succ])
              refine wpAnyH_done (by kernel_rfl) ?_ _
              refine NoPanic.normal ?_
              go_wp2_with fail
              go_ret
              exact ⟨_, rfl, by
                have := o3.mono hb
                rw [HR.out, Hp.out, if_neg Bool.false_ne_true]
                simpa using this, L4.trans b3⟩
            · go_simp
              have N2 : Own ((w.alloc (.cells #[] 3)).alloc (.cells #[.int .i64 (Y : Int)] 3)).drew w.heap.size (.slice (some ⟨w.heap.size, 0, none⟩) 0 0) [] := ((own_nil0 w).below (below_new _ _)).below (Below.refl _ _).drew
              have LT2 : Ints ((w.alloc (.cells #[] 3)).alloc (.cells #[.int .i64 (Y : Int)] 3)).drew (some ⟨w.heap.size + 1, 0, none⟩) 1 [(Y : Int)] := by
                have := (own_lit1 (w.alloc (.cells #[] 3)) w.heap.size (Y : Int) (by simp)).ints.below (Below.refl _ _).drew
                simpa using this
              have L2 : Below w.heap.size w ((w.alloc (.cells #[] 3)).alloc (.cells #[.int .i64 (Y : Int)] 3)).drew := ((below_new w _).alloc (by simp) _).drew
              refine hKq.out _ _ ?_ (fun hHeld2 => ?_)
              · trivial
              clear hKq Kq
              (try simp only [Act.put, List.setIfInBounds_toArray, List.set_cons_zero, List.set_cons_succ])
              clear hHeld1
              refine wpAnyH_ready (rs := [4]) (by kernel_rfl) (by simp) ?_
              refine consH rfl (fun Kq hKq => ?_)
              refine step_appI rfl _ _ rfl w.heap.size _ [] (by rfl) N2 _ _ _ A (by rfl) ?_ ?_ ?_ ?_ ?_
              · intro h; first | rfl | exact Hcap.out h | cases h
              · exact HA0.out.below L2
              · simp <;> omega
              · have := L2.size; omega
              intro v1 w1 o1 b1 m1
              have L3 := L2.trans b1
              have LT3 := LT2.moved m1 (fun _ p hp e => by cases hp; simp [Value.ownBlock] at e)
              refine hKq.out _ _ ?_ (fun hHeld3 => ?_)
              · trivial
              clear hKq Kq
              (try simp only [Act.put, List.setIfInBounds_toArray, List.set_cons_zero, List.set_cons_succ])
              clear hHeld2
              refine wpAnyH_ready (rs := [7]) (by kernel_rfl) (by simp) ?_
              refine consH rfl (fun Kq hKq => ?_)
              refine step_appI rfl _ _ rfl w.heap.size _ _ (by rfl) o1 _ _ _ [(Y : Int)] (by rfl) ?_ ?_ ?_ ?_ ?_
              · intro h; first | rfl | exact Hcap.out h | cases h
              · exact LT3.1
              · simp <;> omega
              · have := L3.size; omega
              intro v2 w2 o2 b2 m2
              have L4 := L3.trans b2
              refine hKq.out _ _ ?_ (fun hHeld4 => ?_)
              · trivial
              clear hKq Kq
              (try simp only [Act.put, List.setIfInBounds_toArray, List.set_cons_zero, List.set_cons_succ])
              clear hHeld3
              refine wpAnyH_ready (rs := [11]) (by kernel_rfl) (by simp) ?_
              refine consH rfl (fun Kq hKq => ?_)
              refine step_appI rfl _ _ rfl w.heap.size _ _ (by rfl) o2 _ _ _ (u :: B') (by rfl) ?_ ?_ ?_ ?_ ?_
              · intro h; first | rfl | exact Hcap.out h | cases h
              · exact HB0.out.below L4
              · simp <;> omega
              · have := L4.size; omega
              intro v3 w3 o3 b3 m3
              refine hKq.out _ _ ?_ (fun hHeld5 => ?_)
              · trivial
              clear hKq Kq
              (try simp only [Act.put, List.setIfInBounds_toArray, List.set_cons_zero, List.set_cons_succ])
              clear hHeld4
              refine takeH (i := 12) (oi := _) (v := ?_) rfl (by kernel_rfl) (by kernel_rfl) (by kernel_rfl) (fun _ _ _ h => h) (Or.inl ⟨by rfl, ?_⟩) (by assumption) ?_
              rotate_left
              · first | (intro w hSw; (try dsimp only at hSw); go_simp; done) | (intro w hSw; (try dsimp only at hSw); go_simp; with_reducible rfl)
              (try simp only [Act.put, List.setIfInBounds_toArray, List.set_cons_zero, List.set_cons_succ])
              refine wpAnyH_done (by kernel_rfl) ?_ _
              refine NoPanic.normal ?_
              go_wp2_with fail
              go_ret
              exact ⟨_, rfl, by
                have := o3.mono hb
                rw [HR.out, Hp.out, if_neg Bool.false_ne_true]
                simpa using this, L4.trans b3⟩
          · go_simp
            have L1 : Below w.heap.size w (w.alloc (.cells #[.int .i64 (Y : Int)] 3)).drew := (below_new w _).drew
            refine hKq.out _ _ ?_ (fun hHeld1 => ?_)
            · trivial
            clear hKq Kq
            (try simp only [Act.put, List.setIfInBounds_toArray, List.set_cons_zero, List.set_cons_succ])
            clear hHeld0
            refine wpAnyH_ready (rs := [0]) (by kernel_rfl) (by simp) ?_
            refine consH rfl (fun Kq hKq => ?_)
            go_simp
            have N2 : Own ((w.alloc (.cells #[.int .i64 (Y : Int)] 3)).alloc (.cells #[] 3)).drew w.heap.size (.slice (some ⟨w.heap.size + 1, 0, none⟩) 0 0) [] := by
              have := ((own_nil0 (w.alloc (.cells #[.int .i64 (Y : Int)] 3))).mono (base' := w.heap.size) (by simp)).below (Below.refl _ _).drew
              simpa using this
            have LT2 : Ints ((w.alloc (.cells #[.int .i64 (Y : Int)] 3)).alloc (.cells #[] 3)).drew (some ⟨w.heap.size, 0, none⟩) 1 [(Y : Int)] := ((own_lit1 w w.heap.size (Y : Int) (Nat.le_refl _)).ints.below (below_new _ _)).below (Below.refl _ _).drew
            have L2 : Below w.heap.size w ((w.alloc (.cells #[.int .i64 (Y : Int)] 3)).alloc (.cells #[] 3)).drew := ((below_new w _).alloc (by simp) _).drew
            refine hKq.out _ _ ?_ (fun hHeld2 => ?_)
            · trivial
            clear hKq Kq
            (try simp only [Act.put, List.setIfInBounds_toArray, List.set_cons_zero, List.set_cons_succ])
            clear hHeld1
            refine wpAnyH_ready (rs := [4]) (by kernel_rfl) (by simp) ?_
            refine consH rfl (fun Kq hKq => ?_)
            refine step_appI rfl _ _ rfl w.heap.size _ [] (by rfl) N2 _ _ _ A (by rfl) ?_ ?_ ?_ ?_ ?_
            · intro h; first | rfl | exact Hcap.out h | cases h
            · exact HA0.out.below L2
            · simp <;> omega
            · have := L2.size; omega
            intro v1 w1 o1 b1 m1
            have L3 := L2.trans b1
            have LT3 := LT2.moved m1 (fun _ p hp e => by cases hp; simp [Value.ownBlock] at e)
            refine hKq.out _ _ ?_ (fun hHeld3 => ?_)
            · trivial
            clear hKq Kq
            (try simp only [Act.put, List.setIfInBounds_toArray, List.set_cons_zero, List.set_cons_succ])
            clear hHeld2
            refine wpAnyH_ready (rs := [7]) (by kernel_rfl) (by simp) ?_
            refine consH rfl (fun Kq hKq => ?_)
            refine step_appI rfl _ _ rfl w.heap.size _ _ (by rfl) o1 _ _ _ [(Y : Int)] (by rfl) ?_ ?_ ?_ ?_ ?_
            · intro h; first | rfl | exact Hcap.out h | cases h
            · exact LT3.1
            · simp <;> omega
            · have := L3.size; omega
            intro v2 w2 o2 b2 m2
            have L4 := L3.trans b2
            refine hKq.out _ _ ?_ (fun hHeld4 => ?_)
            · trivial
            clear hKq Kq
            (try simp only [Act.put, List.setIfInBounds_toArray, List.set_cons_zero, List.set_cons_succ])
            clear hHeld3
            refine wpAnyH_ready (rs := [11]) (by kernel_rfl) (by simp) ?_
            refine consH rfl (fun Kq hKq => ?_)
            refine step_appI rfl _ _ rfl w.heap.size _ _ (by rfl) o2 _ _ _ (u :: B') (by rfl) ?_ ?_ ?_ ?_ ?_
            · intro h; first | rfl | exact Hcap.out h | cases h
            · exact HB0.out.below L4
            · simp <;> omega
            · have := L4.size; omega
            intro v3 w3 o3 b3 m3
            refine hKq.out _ _ ?_ (fun hHeld5 => ?_)
            · trivial
            clear hKq Kq
            (try simp only [Act.put, List.setIfInBounds_toArray, List.set_cons_zero, List.set_cons_succ])
            clear hHeld4
            refine takeH (i := 12) (oi := _) (v := ?_) rfl (by kernel_rfl) (by kernel_rfl) (by kernel_rfl) (fun _ _ _ h => h) (Or.inl ⟨by rfl, ?_⟩) (by assumption) ?_
            rotate_left
            · first | (intro w hSw; (try dsimp only at hSw); go_simp; done) | (intro w hSw; (try dsimp only at hSw); go_simp; with_reducible rfl)
            (try simp only [Act.put, List.setIfInBounds_toArray, List.set_cons_zero, List.set_cons_succ])
            refine wpAnyH_done (by kernel_rfl) ?_ _
            refine NoPanic.normal ?_
            go_wp2_with fail
            go_ret
            exact ⟨_, rfl, by
              have := o3.mono hb
              rw [HR.out, Hp.out, if_neg Bool.false_ne_true]
              simpa using this, L4.trans b3⟩
        · obtain ⟨b', hb', _⟩ := H3.out hp
          cases hb'
          have Hp := Lib.hid hp
          have hnlt : ¬ (Y : Int) < (Y : Int) := by omega
          have heq : ((Y : Int) == (Y : Int)) = true := by simp
          clear hp hat
          go_wp2_with fail
          go_ret
          exact ⟨_, rfl, by rw [HR.out, Hp.out, if_pos rfl]; exact H.out, Below.refl _ _⟩
end Go.Proofs.YtnbomleieianoaaGreat

/- Contracts of the reference: the first node on a way, the rule of a list of stops. -/
namespace Go.Proofs.YtnbomleieianoaaGreat
open Go.RowKit

/-- What a list of bools says of a node. -/
def bS (bs : List Bool) (y : Int) : Bool := decide (0 ≤ y) && Bo.nth bs y.toNat
theorem has_filt {bs : List Bool} {k : Nat} {y : Int} (h : y < k) : hasB (filt (Bo.nth bs) k) y = bS bs y := by
  unfold hasB bS
  rw [Bool.eq_iff_iff, List.any_eq_true]
  constructor
  · rintro ⟨z, hz, he⟩
    obtain ⟨i, hi, hb, rfl⟩ := mem_filt.1 hz
    obtain rfl : (i : Int) = y := by simpa using he
    simp [hb]
  · intro hb
    simp only [Bool.and_eq_true, decide_eq_true_eq] at hb
    exact ⟨y, mem_filt.2 ⟨y.toNat, by omega, hb.2, by omega⟩, by simp⟩
theorem stopL_congr {S S' : Int → Bool} : ∀ {xs : List Int}, (∀ y, y ∈ xs → S y = S' y) → stopL S xs = stopL S' xs
  | [], _ => rfl
  | x :: xs, h => by rw [stopL, stopL, h x (by simp), stopL_congr fun y hy => h y (by simp [hy])]
theorem stop_congr {ps : List Int} (h : Pa ps) {S S' : Int → Bool} (hS : ∀ y : Nat, y < ps.length → S y = S' y) {x : Nat} (hx : x < ps.length) : stop ps S x = stop ps S' x := stopL_congr fun y hy => by
  obtain ⟨j, hj, rfl⟩ := way_mem h x hx y hy
  exact hS j (by omega)
theorem isStop_nil (ps : List Int) (S : Int → Bool) (k : Nat) : filt (isStop ps S []) k = [] := filt_none fun _ _ => rfl
theorem isStop_app (ps : List Int) (S : Int → Bool) (es : List Int) (e : Int) (y : Nat) : isStop ps S (es ++ [e]) y = (isStop ps S es y || stop ps S e.toNat == (y : Int)) := by
  unfold isStop; rw [List.any_append]; simp
theorem stop_end {ps : List Int} (h : Pa ps) (S : Int → Bool) {x : Nat} (hx : x < ps.length) (hS : S x = true) : 0 ≤ stop ps S x := by
  have h2 : behB ps S x = true := by
    by_cases h0 : x = 0
    · subst h0; rw [(beh_zero ps S).1]; exact hS
    · have := beh_up h S (x := x) (by omega) hx
      cases hb : behB ps S (par ps x)
      · rw [(this.2 hb).1]; exact hS
      · exact (this.1 hb).1
  exact of_decide_eq_true h2
end Go.Proofs.YtnbomleieianoaaGreat

/- Contracts: payments less a cost of each step, of the program and of the reference. -/
namespace Go.Proofs.YtnbomleieianoaaGreat
open Go.RowKit

def costL (ps l : List Int) (c : Int) : List Int := (List.range ps.length).map fun x => nth l x - c * dep ps x
theorem costL_length (ps l : List Int) (c : Int) : (costL ps l c).length = ps.length := by simp [costL]
def costB (ps ws l : List Int) (c : Int) : Bool := paysB ps ws l && (inB c 0 999 && procB ps.length (costL ps l c))
def costV (ps ws l : List Int) (c : Int) : List Int := if costB ps ws l c then costL ps l c else []
theorem cost_no1 {ps ws l : List Int} {c : Int} (h : paysB ps ws l = false) : costB ps ws l c = false := by rw [costB, h]; rfl
theorem cost_no2 {ps ws l : List Int} {c : Int} (h : inB c 0 999 = false) : costB ps ws l c = false := by rw [costB, h]; simp
theorem cost_no3 {ps ws l : List Int} {c : Int} (h : procB ps.length (costL ps l c) = false) : costB ps ws l c = false := by rw [costB, h]; simp
theorem cost_yes {ps ws l : List Int} {c : Int} (h1 : paysB ps ws l = true) (h2 : inB c 0 999 = true) (h3 : procB ps.length (costL ps l c) = true) : costB ps ws l c = true := by rw [costB, h1, h2, h3]; rfl
theorem costV_no {ps ws l : List Int} {c : Int} (h : costB ps ws l c = false) : costV ps ws l c = [] := by rw [costV, h]; rfl
theorem costV_yes {ps ws l : List Int} {c : Int} (h : costB ps ws l c = true) : costV ps ws l c = costL ps l c := by rw [costV, h]; rfl
theorem paysB_t {ps ws l : List Int} (h : paysB ps ws l = true) : Tr ps ws ∧ treeB ps ws = true ∧ procB ps.length l = true ∧ l.length = ps.length ∧ ∀ i, -999 ≤ nth l i ∧ nth l i ≤ 999 := by
  simp only [paysB, Bool.and_eq_true] at h
  exact ⟨treeB_t h.1, h.1, h.2, procB_t h.2⟩
theorem pays_no1 {ps ws l : List Int} (h : treeB ps ws = false) : paysB ps ws l = false := by rw [paysB, h]; rfl
theorem pays_no2 {ps ws l : List Int} (h : procB ps.length l = false) : paysB ps ws l = false := by rw [paysB, h]; simp
theorem pays_both {ps ws l : List Int} (h : treeB ps ws = true) (h2 : procB ps.length l = true) : paysB ps ws l = true := by rw [paysB, h, h2]; rfl
/-- The first i numbers less their costs, then the numbers. -/
def costP (ps l : List Int) (c : Int) (i : Nat) : List Int := (List.range l.length).map fun x => if x < i then nth l x - c * dep ps x else nth l x
theorem costP_length (ps l : List Int) (c : Int) (i : Nat) : (costP ps l c i).length = l.length := by simp [costP]
theorem costP_zero (ps l : List Int) (c : Int) : costP ps l c 0 = l := ext_nth (costP_length _ _ _ _) fun i hi => by
  rw [costP_length] at hi
  rw [costP, nth_map_range hi]; simp
theorem costP_succ (ps l : List Int) (c : Int) (i : Nat) (h : i < l.length) : costP ps l c (i + 1) = (costP ps l c i).set i (nth l i - c * dep ps i) := ext_nth (by simp [costP_length]) fun j hj => by
  rw [costP_length] at hj
  rw [nth_set (by rw [costP_length]; exact h), costP, costP, nth_map_range hj, nth_map_range hj]
  by_cases e : i = j
  · subst e; rw [if_pos (by omega), if_pos rfl]
  · rw [if_neg e]
    by_cases e2 : j < i
    · rw [if_pos e2, if_pos (by omega)]
    · rw [if_neg e2, if_neg (by omega)]
theorem nth_costP_ge {ps l : List Int} {c : Int} {i : Nat} (h : i < l.length) : nth (costP ps l c i) i = nth l i := by rw [costP, nth_map_range h, if_neg (by omega)]
theorem costP_all {ps l : List Int} (c : Int) (h : l.length = ps.length) : costP ps l c l.length = costL ps l c := ext_nth (by rw [costP_length, costL_length, h]) fun i hi => by
  rw [costP_length] at hi
  rw [costP, costL, nth_map_range hi, nth_map_range (by omega), if_pos hi]
end Go.Proofs.YtnbomleieianoaaGreat

/- Small words on memory: appending to slices of bools that the call owns. -/
namespace Go.Proofs.YtnbomleieianoaaGreat
open Go.RowKit
namespace Bo
theorem info_parts2 : ∃ i0, Tryz.prog.info? 4 = some i0 ∧ i0.zero = some (.bool false) ∧ i0.size = 1 ∧ i0.bytes = 1 := by
  have := info_bool
  cases h : Tryz.prog.info? 4 with
  | none => rw [h] at this; cases this
  | some i => rw [h] at this; simp at this; exact ⟨i, rfl, this.1, this.2.1, this.2.2⟩
theorem own_nil0 (w : World) : Own (w.alloc (.cells #[] 4)) w.heap.size (.slice (some ⟨w.heap.size, 0, none⟩) 0 0) [] := by
  have := World.ownsRow_lit (size := 1) (e := 4) (base := w.heap.size) w #[] 0 (Nat.le_refl _) (by simp [maxLen]) (by simp)
  simpa [Own, cs] using this
theorem own_lit1 (w : World) (base : Nat) (u : Bool) (hb : base ≤ w.heap.size) : Own (w.alloc (.cells #[.bool u] 4)) base (.slice (some ⟨w.heap.size, 0, none⟩) 1 1) [u] := by
  have := World.ownsRow_lit (size := 1) (e := 4) (base := base) w #[.bool u] 1 hb (by simp [maxLen]) (by simp)
  simpa [Own, cs] using this
theorem run_app1 {w : World} (ty : TypeId) (base : Nat) (v : Value) (xs : List Bool) (hown : Own w base v xs) (p : Addr) (c : Nat) (u : Bool) (hu : w.cell? (p.add 0) = some (.bool u)) (hl : xs.length ≤ 17592186040320) (hbase : base ≤ w.heap.size) :
    ∃ v' w', (Builtin.append_ #[63, 63] ty #[v, .slice (some p) 1 c]).run Tryz.prog w = .ok v' w' ∧ Own w' base v' (xs ++ [u]) ∧ Below base w w' ∧ Moved w v w' v' := by
  obtain ⟨i0, hi0, hz0, hz1, hz2⟩ := info_parts2
  obtain ⟨v', w', hr, h1, h2, _, h4⟩ := run_append_own_at (P := Tryz.prog) w base 63 ty 4 i0 (.bool false) 1 1 Tryz.underlying63 hi0 hz0 hz1 hz2 rfl (by decide) v xs.length (cs xs) hown p 1 c [.bool u] rfl
    (fun j x hx => by
      cases j with
      | zero => simp at hx; rw [hu, hx]
      | succ j => simp at hx) (by simp [Value.oneCell']) (by simp only [maxLen]; omega) (by omega) hbase
  refine ⟨v', w', hr, ?_, (Below.refl _ _).grown h2 hbase fun k hk => (World.ownsRow.lt hown k hk).1, h2.size, fun g hg hne => ⟨?_, h2.block g hg (fun e => hne e.symm)⟩⟩
  · unfold Own
    rw [← cs_append, List.length_append]
    exact h1
  · rcases h4 with h4 | h4
    · rw [h4]; exact hne
    · rw [h4]; intro e; cases e; omega
/-- 'append(xs, u)' where u was just laid into a new block. -/
theorem wp_push2 {ops : Array Oper} {rest : List Oper} {o : Oper} {a : Act} {Q : Exit → Act → World → Prop} {w : World} {u : Bool} (s x : Operand)
    (hgd : o.guard = none) (ho : o.op = .call { callee := .builtin .append, args := #[s, x], argTypes := #[63, 63] })
    (base : Nat) (v : Value) (xs : List Bool) (hs : a.eval s = v) (hown : Own w base v xs) (hx : a.eval x = .slice (some ⟨w.heap.size, 0, none⟩) 1 1)
    (hl : xs.length ≤ 17592186040320) (hb : base ≤ w.heap.size)
    (h : ∀ v' w', Own w' base v' (xs ++ [u]) → Below base w w' → Moved w v w' v' → wpList Tryz.prog ops Q rest (a.put o.dst v') w') : wpList Tryz.prog ops Q (o :: rest) a (w.alloc (.cells #[.bool u] 4)) := by
  have hb0 : Below w.heap.size w (w.alloc (.cells #[.bool u] 4)) := below_new w _
  obtain ⟨v', w', hr, h1, h2, h3⟩ := run_app1 (w := w.alloc (.cells #[.bool u] 4)) o.type base v xs (hown.below hb0) ⟨w.heap.size, 0, none⟩ 1 u (by
    have : (⟨w.heap.size, 0, none⟩ : Addr).add 0 = ⟨w.heap.size, 0, none⟩ := by unfold Addr.add; split <;> simp_all
    rw [this, World.cell?_alloc_at _ _ _ _ rfl]; rfl) hl (by simp; omega)
  refine wpList_plain hgd fun K hK => ?_
  unfold Oper.wp execOp
  simp only [ho, resolve, invoke, builtin, Sem.run_bind, Sem.run_pure, Result.andThen_ok, List.map_toArray, List.map_cons, List.map_nil, hs, hx, hr]
  refine hK _ _ (h v' w' h1 ((hb0.mono hb).trans h2) ⟨by have := h3.1; simp at this; omega, fun g hg hne => ?_⟩)
  have := h3.2 g (by simp; omega) hne
  exact ⟨this.1, this.2.trans (hb0.block g hg)⟩
theorem Own.moved {w w' : World} {base : Nat} {u v v' : Value} {xs : List Bool} (h : Own w base u xs) (hm : Moved w v w' v') (ha : ∀ g, u.ownBlock = some g → v.ownBlock ≠ some g) : Own w' base u xs := by
  unfold Own World.ownsRow at *
  refine ⟨h.1, ?_⟩
  rcases h.2 with h1 | ⟨g, cp, cur, h1, h2, h3, h4⟩
  · exact .inl h1
  · have hlt : g < w.heap.size := by
      rcases Nat.lt_or_ge g w.heap.size with hl | hl
      · exact hl
      · rw [Array.getElem?_eq_none hl] at h3; cases h3
    exact .inr ⟨g, cp, cur, h1, h2, by rw [(hm.2 g hlt (ha g (by rw [h1]; rfl))).2]; exact h3, h4⟩
end Bo
end Go.Proofs.YtnbomleieianoaaGreat

/- Contracts of the reference: the rule of a level. -/
namespace Go.Proofs.YtnbomleieianoaaGreat
open Go.RowKit

theorem firB_congr {ps : List Int} (h : Pa ps) {S S' : Int → Bool} (hS : ∀ y : Nat, y < ps.length → S y = S' y) : firsts ps S = firsts ps S' := filt_congr fun y hy => by
  unfold firB; rw [stop_congr h hS hy]
/-- What a property of nodes says of a number. -/
def fS (f : Nat → Bool) (y : Int) : Bool := f y.toNat
theorem bS_map {n : Nat} {f : Nat → Bool} {y : Nat} (h : y < n) : bS ((List.range n).map f) (y : Int) = fS f y := by
  unfold bS fS
  rw [Int.toNat_natCast, Bo.nth_map_range h]; simp
theorem map_succ (f : Nat → Bool) (k : Nat) : (List.range (k + 1)).map f = (List.range k).map f ++ [f k] := by rw [List.range_succ, List.map_append]; rfl
/-- Does the rule of a level stop at x? -/
def levB (ps l : List Int) (lev : Int) (x : Nat) : Bool := endB ps x || decide (nth l x ≥ lev)
end Go.Proofs.YtnbomleieianoaaGreat

/- Small words on memory: slices of pairs of ints: one that reads as a list, one that the call owns, appending. No condition but those in the statements. -/
namespace Go.Proofs.YtnbomleieianoaaGreat
open Go.RowKit
namespace Fr

/-- The cells of a list of pairs. -/
def fs : List (Int × Int) → List Value
  | [] => []
  | p :: ps => .int .i64 p.1 :: .int .i64 p.2 :: fs ps
theorem fs_length : ∀ xs, (fs xs).length = xs.length * 2
  | [] => rfl
  | p :: ps => by rw [fs, List.length_cons, List.length_cons, fs_length ps, List.length_cons]; omega
theorem fs_append : ∀ xs ys, fs xs ++ fs ys = fs (xs ++ ys)
  | [], ys => rfl
  | p :: ps, ys => by rw [List.cons_append, fs, fs, ← fs_append ps ys]; rfl
/-- Pair i of a list, zeros behind its end. -/
def at1 (xs : List (Int × Int)) (i : Nat) : Int := (xs.getD i (0, 0)).1
def at2 (xs : List (Int × Int)) (i : Nat) : Int := (xs.getD i (0, 0)).2
theorem fs_get : ∀ (xs : List (Int × Int)) (i : Nat), i < xs.length → (fs xs)[i * 2]? = some (.int .i64 (at1 xs i)) ∧ (fs xs)[i * 2 + 1]? = some (.int .i64 (at2 xs i))
  | [], i, h => by simp at h
  | p :: ps, 0, _ => ⟨rfl, rfl⟩
  | p :: ps, i + 1, h => by
    have ih := fs_get ps i (by simpa using h)
    have e1 : at1 (p :: ps) (i + 1) = at1 ps i := rfl
    have e2 : at2 (p :: ps) (i + 1) = at2 ps i := rfl
    rw [e1, e2, fs, show (i + 1) * 2 = (i * 2) + 1 + 1 by omega, show (i * 2) + 1 + 1 + 1 = (i * 2 + 1) + 1 + 1 by omega]
    simpa using ih
/-- The slice (a, n) reads as the pairs xs. -/
def Ints (w : World) (a : Option Addr) (n : Nat) (xs : List (Int × Int)) : Prop :=
  xs.length = n ∧ (0 < n → ∃ b off, a = some ⟨b, off, none⟩ ∧ b < w.heap.size ∧ ∀ j, j < n → w.cell? ⟨b, off + j * 2, none⟩ = some (.int .i64 (at1 xs j)) ∧ w.cell? ⟨b, off + j * 2 + 1, none⟩ = some (.int .i64 (at2 xs j)))
theorem Ints.below {w w' : World} {a : Option Addr} {n : Nat} {xs : List (Int × Int)} (h : Ints w a n xs) (hb : Below w.heap.size w w') : Ints w' a n xs :=
  ⟨h.1, fun hn => by
    obtain ⟨b, off, rfl, hlt, hc⟩ := h.2 hn
    exact ⟨b, off, rfl, Nat.lt_of_lt_of_le hlt hb.size, fun j hj => ⟨(hb.cell (p := ⟨b, off + j * 2, none⟩) hlt).trans (hc j hj).1, (hb.cell (p := ⟨b, off + j * 2 + 1, none⟩) hlt).trans (hc j hj).2⟩⟩⟩
/-- The call owns the slice v, which reads as the pairs xs. -/
def Own (w : World) (base : Nat) (v : Value) (xs : List (Int × Int)) : Prop := w.ownsRow base 29 2 v xs.length (fs xs)
theorem Own.shape {w : World} {base : Nat} {v : Value} {xs : List (Int × Int)} (h : Own w base v xs) : ∃ a cap, v = .slice a xs.length cap := by
  rcases Joins.ownsRow_forms h with ⟨rfl, hn⟩ | ⟨g, cap, rfl⟩
  · exact ⟨none, 0, by rw [hn]⟩
  · exact ⟨_, _, rfl⟩
theorem Own.below {w w' : World} {base : Nat} {v : Value} {xs : List (Int × Int)} (h : Own w base v xs) (hb : Below w.heap.size w w') : Own w' base v xs :=
  World.ownsRow.kept (row := none) h ⟨hb.os, hb.tape, hb.output, hb.size, fun k hk _ => hb.block k hk⟩ (by cases v.ownBlock <;> simp)
theorem Own.mono {w : World} {base base' : Nat} {v : Value} {xs : List (Int × Int)} (h : Own w base v xs) (hb : base' ≤ base) : Own w base' v xs := Joins.ownsRow_le h hb
theorem Own.nil (w : World) (base : Nat) : Own w base (.slice none 0 0) [] := World.ownsRow_nil w base 29 2
theorem own_nil0 (w : World) : Own (w.alloc (.cells #[] 29)) w.heap.size (.slice (some ⟨w.heap.size, 0, none⟩) 0 0) [] := by
  have := World.ownsRow_lit (size := 2) (e := 29) (base := w.heap.size) w #[] 0 (Nat.le_refl _) (by simp [maxLen]) (by simp)
  simpa [Own, fs] using this
theorem Own.ints {w : World} {base : Nat} {a : Option Addr} {n cap : Nat} {xs : List (Int × Int)} (h : Own w base (.slice a n cap) xs) : Ints w a n xs := by
  have h0' := h
  unfold Own World.ownsRow at h
  rcases h.2 with ⟨h1, h2⟩ | ⟨g, cp, cur, h1, h2, h3, h4, h5, h6, h7⟩
  · injection h1 with e1 e2 e3
    subst e2
    exact ⟨h2, fun h0 => by omega⟩
  · injection h1 with e1 e2 e3
    subst e1 e2
    refine ⟨rfl, fun h0 => ⟨g, 0, rfl, ?_, fun j hj => ?_⟩⟩
    · rcases Nat.lt_or_ge g w.heap.size with hlt | hge
      · exact hlt
      · rw [Array.getElem?_eq_none hge] at h3; cases h3
    · have hc : ∀ i, i < xs.length * 2 → w.cell? ⟨g, i, none⟩ = (fs xs)[i]? := fun i hi => by
        exact World.ownsRow.cellAt h0' i (by omega)
      have hg := fs_get xs j hj
      rw [Nat.zero_add, hc _ (by omega), hc _ (by omega)]
      exact hg
theorem info_A2 : (Tryz.prog.info? 29).map (fun i => (i.zero, i.size, i.bytes)) = some (some (.agg #[.int .i64 0, .int .i64 0]), 2, 16) := by kernel_rfl
theorem info_parts : ∃ i0, Tryz.prog.info? 29 = some i0 ∧ i0.zero = some (.agg #[.int .i64 0, .int .i64 0]) ∧ i0.size = 2 ∧ i0.bytes = 16 := by
  have := info_A2
  cases h : Tryz.prog.info? 29 with
  | none => rw [h] at this; cases this
  | some i => rw [h] at this; simp at this; exact ⟨i, rfl, this.1, this.2.1, this.2.2⟩
/-- 'append(xs, p)', p just laid into a new block, in a plain region. -/
theorem wp_push2 {ops : Array Oper} {rest : List Oper} {o : Oper} {a : Act} {Q : Exit → Act → World → Prop} {w : World} {x1 x2 : Int} (s x : Operand)
    (hgd : o.guard = none) (ho : o.op = .call { callee := .builtin .append, args := #[s, x], argTypes := #[43, 43] })
    (base : Nat) (v : Value) (xs : List (Int × Int)) (hs : a.eval s = v) (hown : Own w base v xs) (hx : a.eval x = .slice (some ⟨w.heap.size, 0, none⟩) 1 1)
    (hl : xs.length ≤ 1048576) (hb : base ≤ w.heap.size)
    (h : ∀ v' w', Own w' base v' (xs ++ [(x1, x2)]) → Below base w w' → Moved w v w' v' → wpList Tryz.prog ops Q rest (a.put o.dst v') w') : wpList Tryz.prog ops Q (o :: rest) a (w.alloc (.cells #[.int .i64 x1, .int .i64 x2] 29)) := by
  obtain ⟨i0, hi0, hz0, hz1, hz2⟩ := info_parts
  refine wpList_append_lies _ hgd s x 43 ho base 29 i0 (.agg #[.int .i64 0, .int .i64 0]) 2 16 Tryz.underlying43 hi0 hz0 hz1 hz2 rfl (by decide) v xs.length (fs xs) hs
    (hown.below ((Below.refl _ _).alloc (Nat.le_refl _) _)) ⟨w.heap.size, 0, none⟩ 1 1 [.int .i64 x1, .int .i64 x2] hx rfl
    (World.news_of_block (cs := #[.int .i64 x1, .int .i64 x2]) (t := 29) (fr := (0, 0)) (heap_alloc_new w _)) (by simp [Value.oneCell']) (by decide) (by simp only [maxLen]; omega) (by omega) (by simp; omega) (w.heap.size + 1) (by simp) ?_
  intro g cap w' h1 h2 h3 _
  have hdb : Below w.heap.size w (w.alloc (.cells #[.int .i64 x1, .int .i64 x2] 29)) := ((Below.refl _ _).alloc (Nat.le_refl _) _)
  refine h _ w' ?_ ?_ ⟨Nat.le_trans hdb.size h2.size, fun b hb' hne => ⟨fun e => ?_, ?_⟩⟩
  · unfold Own
    rw [← fs_append, List.length_append]; exact h1
  · exact ((Below.refl base w).alloc hb _).grown h2 (by simp; omega) fun k hk => (World.ownsRow.lt hown k hk).1
  · simp [Value.ownBlock] at e
    rcases h3 with h3 | h3
    · rw [h3, e] at hne; exact hne rfl
    · omega
  · have := h2.block b (Nat.lt_of_lt_of_le hb' hdb.size) (fun e => hne e.symm)
    rw [this]; exact hdb.block b hb'
end Fr
end Go.Proofs.YtnbomleieianoaaGreat

/- Words for drawing lists and trees: what the cursor and other draws leave. Contract: children of a node of any tree. No conditions but those stated. -/
namespace Go.Proofs.YtnbomleieianoaaGreat
open Go.RowKit

theorem own_other {w w' : World} {base g : Nat} {v : Value} {xs : List Int} (h : Own w base v xs) (hg : w.grownBy w' (some g)) (hlt : g < base) : Own w' base v xs :=
  h.grown hg (by
    cases hb : v.ownBlock with
    | none => exact .inl rfl
    | some k => refine .inr fun e => ?_; cases e; have := (World.ownsRow.lt h g hb).1; omega)
theorem pair_other {w w' : World} {b g : Nat} {x y : Value} (h : Pair w b x y) (hg : w.grownBy w' (some g)) (hne : b ≠ g) : Pair w' b x y := by
  have hb : w'.heap[b]? = w.heap[b]? := hg.block b h.lt (by simpa using hne)
  exact ⟨(World.cell?_of_block (a := ⟨b, 0, none⟩) hb).trans h.c0, (World.cell?_of_block (a := ⟨b, 1, none⟩) hb).trans h.c1, (World.frozen?_of_block (a := ⟨b, 0, none⟩) hb).trans h.f0, (World.frozen?_of_block (a := ⟨b, 1, none⟩) hb).trans h.f1⟩
theorem pair_moved {w w' : World} {b : Nat} {x y v v' : Value} (h : Pair w b x y) (hm : Moved w v w' v') (hne : v.ownBlock ≠ some b) : Pair w' b x y := by
  have hb : w'.heap[b]? = w.heap[b]? := (hm.2 b h.lt hne).2
  exact ⟨(World.cell?_of_block (a := ⟨b, 0, none⟩) hb).trans h.c0, (World.cell?_of_block (a := ⟨b, 1, none⟩) hb).trans h.c1, (World.frozen?_of_block (a := ⟨b, 0, none⟩) hb).trans h.f0, (World.frozen?_of_block (a := ⟨b, 1, none⟩) hb).trans h.f1⟩
/-- The cursor at g, from the world w0 on: but for g's block all that was there at w0 has stayed. -/
structure Cq (w0 w : World) (g : Nat) (a : Option Addr) (n cap : Nat) (lim : Int) : Prop where
  cur : Cur w g a n cap lim
  code : 0 < n → ∀ b off, a = some ⟨b, off, none⟩ → b < w0.heap.size
  glt : g < w0.heap.size
  grow : w0.grownBy w (some g)
theorem Cq.start {w : World} {g : Nat} {a : Option Addr} {n cap : Nat} {lim : Int} (h : Cur w g a n cap lim) : Cq w w g a n cap lim :=
  ⟨h, fun hn b off he => by
    obtain ⟨b', off', he', hlt, _⟩ := h.code.2 hn
    rw [he] at he'
    cases he'
    exact hlt, h.lt, World.grownBy.refl _ _⟩
theorem Cq.mono {w0 w : World} {g : Nat} {a : Option Addr} {n cap : Nat} {lim lim' : Int} (h : Cq w0 w g a n cap lim) (hl : lim ≤ lim') : Cq w0 w g a n cap lim' := ⟨h.cur.mono hl, h.code, h.glt, h.grow⟩
theorem Cq.step {w0 w w' : World} {g : Nat} {a : Option Addr} {n cap : Nat} {lim lim' : Int} (h : Cq w0 w g a n cap lim) (hc : Cur w' g a n cap lim') (hg : w.grownBy w' (some g)) : Cq w0 w' g a n cap lim' := ⟨hc, h.code, h.glt, h.grow.trans hg⟩
theorem grown_below {w0 w w' : World} {r : Option Nat} (h : w0.grownBy w r) (hb : Below w0.heap.size w w') : w0.grownBy w' r :=
  ⟨hb.os.trans h.os, hb.tape.trans h.tape, hb.output.trans h.output, Nat.le_trans h.size hb.size, fun k hk hr => (hb.block k hk).trans (h.block k hk hr)⟩
theorem Cq.up {w0 w w' : World} {g : Nat} {a : Option Addr} {n cap : Nat} {lim : Int} (h : Cq w0 w g a n cap lim) (hb : Below w0.heap.size w w') : Cq w0 w' g a n cap lim := by
  have hc : ∀ i : Nat, w'.cell? ⟨g, i, none⟩ = w.cell? ⟨g, i, none⟩ := fun i => hb.cell (p := ⟨g, i, none⟩) h.glt
  have hf : ∀ i : Nat, w'.frozen? ⟨g, i, none⟩ = w.frozen? ⟨g, i, none⟩ := fun i => hb.frozen (p := ⟨g, i, none⟩) h.glt
  refine ⟨⟨⟨h.cur.code.1, fun hn => ?_⟩, h.cur.other, (hc 0).trans h.cur.c0, ?_, ?_, (hf 1).trans h.cur.f1, (hf 2).trans h.cur.f2⟩, h.code, h.glt, grown_below h.grow hb⟩
  · obtain ⟨b, off, he, hlt, hx⟩ := h.cur.code.2 hn
    refine ⟨b, off, he, Nat.lt_of_lt_of_le hlt hb.size, fun j hj => ?_⟩
    obtain ⟨x, h1, h2⟩ := hx j hj
    exact ⟨x, (hb.cell (p := ⟨b, off + j, none⟩) (h.code hn b off he)).trans h1, h2⟩
  · obtain ⟨k, h1, h2⟩ := h.cur.c1; exact ⟨k, (hc 1).trans h1, h2⟩
  · obtain ⟨s, h1⟩ := h.cur.c2; exact ⟨s, (hc 2).trans h1⟩
theorem Cq.below {w0 w w' : World} {g : Nat} {a : Option Addr} {n cap : Nat} {lim : Int} (h : Cq w0 w g a n cap lim) (hb : Below w.heap.size w w') : Cq w0 w' g a n cap lim := h.up (hb.mono h.grow.size)
theorem Cq.size {w0 w : World} {g : Nat} {a : Option Addr} {n cap : Nat} {lim : Int} (h : Cq w0 w g a n cap lim) : w0.heap.size ≤ w.heap.size := h.grow.size
/-- A tree's two slices, of the call's own from base on. -/
structure DTre (w : World) (base : Nat) (aP : Option Addr) (nP cP : Nat) (aW : Option Addr) (nW cW : Nat) (ps ws : List Int) : Prop where
  p : Own w base (.slice aP nP cP) ps
  w : Own w base (.slice aW nW cW) ws
  pn : nP ≤ 30
  wn : nW ≤ 30
theorem DTre.tre {w : World} {base : Nat} {aP : Option Addr} {nP cP : Nat} {aW : Option Addr} {nW cW : Nat} {ps ws : List Int} (h : DTre w base aP nP cP aW nW cW ps ws) : Tre w aP nP cP aW nW cW ps ws :=
  ⟨h.p.ints, h.w.ints, by have := h.pn; omega, by have := h.wn; omega, h.p.cap.2.1, h.w.cap.2.1⟩
theorem DTre.below {w w' : World} {base : Nat} {aP : Option Addr} {nP cP : Nat} {aW : Option Addr} {nW cW : Nat} {ps ws : List Int} (h : DTre w base aP nP cP aW nW cW ps ws) (hb : Below w.heap.size w w') : DTre w' base aP nP cP aW nW cW ps ws :=
  ⟨h.p.below hb, h.w.below hb, h.pn, h.wn⟩
theorem DTre.other {w w' : World} {base g : Nat} {aP : Option Addr} {nP cP : Nat} {aW : Option Addr} {nW cW : Nat} {ps ws : List Int} (h : DTre w base aP nP cP aW nW cW ps ws) (hg : w.grownBy w' (some g)) (hlt : g < base) : DTre w' base aP nP cP aW nW cW ps ws :=
  ⟨own_other h.p hg hlt, own_other h.w hg hlt, h.pn, h.wn⟩
theorem DTre.mono {w : World} {base base' : Nat} {aP : Option Addr} {nP cP : Nat} {aW : Option Addr} {nW cW : Nat} {ps ws : List Int} (h : DTre w base aP nP cP aW nW cW ps ws) (hb : base' ≤ base) : DTre w base' aP nP cP aW nW cW ps ws :=
  ⟨h.p.mono hb, h.w.mono hb, h.pn, h.wn⟩
theorem Own.lit {w : World} {base : Nat} {v : Value} {xs : List Int} (h : Own w base v xs) (o : Obj) : Own (w.alloc o) base v xs := h.below (below_new w o)
theorem Own.drew {w : World} {base : Nat} {v : Value} {xs : List Int} (h : Own w base v xs) : Own w.drew base v xs := h.below (Below.refl _ _).drew
theorem Ints.drew {w : World} {a : Option Addr} {n : Nat} {xs : List Int} (h : Ints w a n xs) : Ints w.drew a n xs := h.below (Below.refl _ _).drew
theorem Cq.lit {w0 w : World} {g : Nat} {a : Option Addr} {n cap : Nat} {lim : Int} (h : Cq w0 w g a n cap lim) (o : Obj) : Cq w0 (w.alloc o) g a n cap lim := h.below (below_new w o)
theorem Cq.drew {w0 w : World} {g : Nat} {a : Option Addr} {n cap : Nat} {lim : Int} (h : Cq w0 w g a n cap lim) : Cq w0 w.drew g a n cap lim := h.below (Below.refl _ _).drew
theorem Moved.size {w w' : World} {v v' : Value} (h : Moved w v w' v') : w.heap.size ≤ w'.heap.size := h.1
/-- Some list of a few numbers, of the call's own. -/
def OwnA (w : World) (base : Nat) (v : Value) (m : Nat) : Prop := ∃ xs, Own w base v xs ∧ xs.length ≤ m
set_option maxRecDepth 100000 in
set_option maxHeartbeats 1000000 in
theorem spec_l2KidsA (aP : Option Addr) (nP cP : Nat) (aW : Option Addr) (nW cW : Nat) (ps ws : List Int) (X : Nat) (w : World) (h : Tre w aP nP cP aW nW cW ps ws) (hn : nP ≤ 30) (hx : X < nP) :
    Calls Tryz.prog 143 #[.agg #[.slice aP nP cP, .slice aW nW cW], .int .i64 (X : Int)] w fun e w' => ∃ v, e = .returned v ∧ OwnA w' w.heap.size v 30 ∧ Below w.heap.size w w' := by
  have hl := h.p.1
  have hb1 := below_new w (.cells #[.slice aP nP cP, .slice aW nW cW] 26)
  have hP1 := Lib.hid (Pair.new w (.slice aP nP cP) (.slice aW nW cW) 26)
  have H := Lib.hid h
  have Hl := Lib.hid hl
  clear h hl
  go_enter Tryz.func143, Tryz.ntmps143
  go_wp2_with fail
  have hnil := own_nil0 (w.alloc (.cells #[.slice aP nP cP, .slice aW nW cW] 26))
  rw [show (w.alloc (.cells #[.slice aP nP cP, .slice aW nW cW] 26)).heap.size = w.heap.size + 1 by simp] at hnil
  have hb2 : Below w.heap.size w ((w.alloc (.cells #[.slice aP nP cP, .slice aW nW cW] 26)).alloc (.cells #[] 3)) := hb1.alloc (by simp) _
  have hP2 := Lib.hid (hP1.out.alloc (.cells #[] 3))
  generalize ((w.alloc (.cells #[.slice aP nP cP, .slice aW nW cW] 26)).alloc (.cells #[] 3)) = w2 at *
  clear hP1 hb1
  go_loopw [5, 6] (fun v5 v6 wr => ∃ (k : Nat) (xs : List Int), X + 1 ≤ k ∧ k ≤ nP ∧ v6 = .int .i64 (k : Int) ∧ Own wr (w.heap.size + 1) v5 xs ∧ xs.length ≤ k ∧ Pair wr w.heap.size (.slice aP nP cP) (.slice aW nW cW) ∧ Below w.heap.size w wr) (fun _ v6 _ => nP - (intOf v6).toNat)
  case atStart => exact ⟨X + 1, [], Nat.le_refl _, by omega, by go_num, hnil, by simp, hP2.out, hb2⟩
  case round =>
    obtain ⟨k, xs, hk1, hk2, rfl, hown, hlen, hP, hbel⟩ := hrel
    clear hnil hP2 hb2
    have c0 := hP.c0
    have HP := Lib.hid hP
    clear hP
    by_cases hlt : (k : Int) < nP
    · obtain ⟨b, off, rfl, hc⟩ := H.out.p.at (i := k) hbel (by omega)
      have hle : w.heap.size + 1 ≤ wr.heap.size := by have := HP.out.lt; omega
      cases he : (nth ps k == (X : Int))
      · generalize nth ps k = q at *
        go_wp2_with fail
        go_roundw
        case rel => exact ⟨k + 1, xs, by omega, by omega, by go_num, hown, by omega, HP.out, hbel⟩
        case measure => simp [intOf]; omega
      · generalize nth ps k = q at *
        go_wp2_with (at_builtin; refine wp_push (.tmp 24) (.tmp 26) rfl rfl (w.heap.size + 1) _ _ rfl hown rfl (by omega) hle ?_; intro v' w' ho hb)
        go_roundw
        case rel => exact ⟨k + 1, _, by omega, by omega, by go_num, ho, by simp; omega, HP.out.up hb (by omega), hbel.trans (hb.mono (by omega))⟩
        case measure => simp [intOf]; omega
    · obtain rfl : k = nP := by omega
      go_wp2_with fail
      go_ret
      exact ⟨_, rfl, ⟨xs, hown.mono (by omega), by omega⟩, hbel⟩
end Go.Proofs.YtnbomleieianoaaGreat

/- Contracts: pays drawn by the cursor. No conditions but those stated. -/
namespace Go.Proofs.YtnbomleieianoaaGreat
open Go.RowKit

theorem OwnA.other {w w' : World} {base g m : Nat} {v : Value} (h : OwnA w base v m) (hg : w.grownBy w' (some g)) (hlt : g < base) : OwnA w' base v m := by
  obtain ⟨xs, h1, h2⟩ := h; exact ⟨xs, own_other h1 hg hlt, h2⟩
theorem OwnA.below {w w' : World} {base m : Nat} {v : Value} (h : OwnA w base v m) (hb : Below w.heap.size w w') : OwnA w' base v m := by
  obtain ⟨xs, h1, h2⟩ := h; exact ⟨xs, h1.below hb, h2⟩
theorem OwnA.mono {w : World} {base base' m : Nat} {v : Value} (h : OwnA w base v m) (hb : base' ≤ base) : OwnA w base' v m := by
  obtain ⟨xs, h1, h2⟩ := h; exact ⟨xs, h1.mono hb, h2⟩
theorem OwnA.more {w : World} {base m m' : Nat} {v : Value} (h : OwnA w base v m) (hb : m ≤ m') : OwnA w base v m' := by
  obtain ⟨xs, h1, h2⟩ := h; exact ⟨xs, h1, by omega⟩
set_option maxRecDepth 100000 in
set_option maxHeartbeats 1000000 in
theorem spec_somePays (g : Nat) (a : Option Addr) (n cap : Nat) (lim : Int) (m : Nat) (w : World) (hl : lim ≤ 100000) (hm : m ≤ 30) (h : Cur w g a n cap lim) :
    Calls Tryz.prog 147 #[.pointer (some ⟨g, 0, none⟩), .int .i64 (m : Int)] w fun e w' => (∃ v, e = .returned v ∧ OwnA w' w.heap.size v 31) ∧ Cur w' g a n cap (lim + 200) ∧ w.grownBy w' (some g) := by
  have C0 := Lib.hid ((Cq.start h).lit (.cells #[] 3))
  have HN := Lib.hid (own_nil0 w)
  clear h
  go_enter Tryz.func147, Tryz.ntmps147
  go_wp2_with fail
  have hs0 : (w.alloc (.cells #[] 3)).heap.size = w.heap.size + 1 := by simp
  generalize (w.alloc (.cells #[] 3)) = w0 at *
  rw [← hs0]
  have hsz : w.heap.size < w0.heap.size := by omega
  clear hs0
  refine (among_lit g a n cap lim [3, 10, 30] _ 3 _ (by omega) rfl rfl (by omega) C0.out.cur).mono ?_
  rintro e w1 ⟨⟨i, hi, rfl⟩, c1, g1⟩
  have hB : 0 ≤ nth [3, 10, 30] i ∧ nth [3, 10, 30] i ≤ 30 := by
    rcases (show i = 0 ∨ i = 1 ∨ i = 2 by omega) with rfl | rfl | rfl <;> decide
  generalize nth [3, 10, 30] i = B at *
  have C1 := Lib.hid (C0.out.step c1 g1)
  have O1 := Lib.hid (own_other HN.out g1 C0.out.glt)
  clear c1 g1 HN
  generalize (Value.slice (some ⟨w.heap.size, 0, none⟩) 0 0) = v0 at *
  go_wp2_with fail
  go_loopw [5, 7] (fun v5 v7 wr => ∃ (k : Nat) (xs : List Int), k ≤ m ∧ v7 = .int .i64 (k : Int) ∧ Own wr w.heap.size v5 xs ∧ xs.length = k ∧ Cq w wr g a n cap (lim + 2 + 2 * (k : Int))) (fun _ v7 _ => m - (intOf v7).toNat)
  case atStart => exact ⟨0, [], Nat.zero_le _, rfl, O1.out, rfl, C1.out.mono (by omega)⟩
  case round =>
    clear C1 O1 C0
    obtain ⟨k, xs, hk, rfl, ho, hxl, cq⟩ := hrel
    have O := Lib.hid ho
    have C := Lib.hid cq
    have hszr := cq.size
    have Hxl := Lib.hid hxl
    have hxl2 : xs.length ≤ 30 := by omega
    clear ho cq hxl
    by_cases hlt : (k : Int) < m
    · have k1 : IntKind.i64.wrap (2 * B) = 2 * B := IntWalk.i64_in _ (by omega)
      have k2 : IntKind.i64.wrap (2 * B + 1) = 2 * B + 1 := IntWalk.i64_in _ (by omega)
      go_wp2_with fail
      refine (spec_pick g a n cap (lim + 2 + 2 * (k : Int)) _ _ (by omega) (by omega) C.out.cur).mono ?_
      rintro e w2 ⟨⟨x, rfl, -, -⟩, c2, g2⟩
      have C2 := Lib.hid (C.out.step c2 g2)
      have O2 := Lib.hid (own_other O.out g2 C.out.glt)
      have hsz2 := C2.out.size
      clear c2 g2
      generalize hu : IntKind.i64.wrap (x - B) = u
      have Hu := Lib.hid hu
      clear hu
      go_wp2_with (at_builtin; refine wp_push (.tmp 17) (.tmp 25) rfl rfl w.heap.size _ _ rfl O2.out rfl (by omega) hsz2 ?_; intro v' w' ho hb)
      go_roundw
      case rel => exact ⟨k + 1, _, by omega, by go_num, ho, by simp [Hxl.out], (C2.out.up hb).mono (by omega)⟩
      case measure => simp [intOf]; omega
    · obtain rfl : k = m := by omega
      by_cases hk0 : (k : Int) > 0
      · go_wp2_with fail
        refine (spec_one g a n cap (lim + 2 + 2 * (k : Int)) _ _ (by omega) (by omega) C.out.cur).mono ?_
        rintro e w2 ⟨⟨t, rfl⟩, c2, g2⟩
        have C2 := Lib.hid (C.out.step c2 g2)
        have O2 := Lib.hid (own_other O.out g2 C.out.glt)
        clear c2 g2
        cases t
        · go_wp2_with fail
          refine (spec_one g a n cap _ _ _ (by omega) (by omega) C2.out.cur).mono ?_
          rintro e w3 ⟨⟨t, rfl⟩, c3, g3⟩
          have C3 := Lib.hid (C2.out.step c3 g3)
          have O3 := Lib.hid (own_other O2.out g3 C.out.glt)
          have hsz3 := C3.out.size
          clear c3 g3
          cases t
          · go_wp2_with fail
            go_ret
            exact ⟨⟨_, rfl, xs, O3.out, by omega⟩, C3.out.cur.mono (by omega), C3.out.grow⟩
          · go_wp2_with (at_builtin; refine wp_push (.tmp 43) (.tmp 44) rfl rfl w.heap.size _ _ rfl O3.out rfl (by omega) hsz3 ?_; intro v' w' ho hb)
            go_ret
            exact ⟨⟨_, rfl, _, ho, by simp; omega⟩, (C3.out.up hb).cur.mono (by omega), (C3.out.up hb).grow⟩
        · obtain ⟨go, co, rfl, hgo1, hgo2⟩ := O2.out.form (by have := Hxl.out; omega)
          rw [Hxl.out] at O2 ⊢
          go_wp2_with fail
          refine (spec_pick g a n cap _ _ _ (by omega) (by omega) C2.out.cur).mono ?_
          rintro e w3 ⟨⟨x, rfl, hx0, hx1⟩, c3, g3⟩
          have hx2 : x < (k : Int) := by omega
          have C3 := Lib.hid (C2.out.step c3 g3)
          have O3 := Lib.hid (own_other O2.out g3 C.out.glt)
          clear c3 g3 hx1
          go_wp2_with fail
          refine (among_lit g a n cap _ [999, -999, 1000, -1000, 4611686018427387904] _ 5 _ (by omega) rfl rfl (by omega) C3.out.cur).mono ?_
          rintro e w4 ⟨⟨i, hi, rfl⟩, c4, g4⟩
          generalize nth _ i = u
          have C4 := Lib.hid (C3.out.step c4 g4)
          have o4 := own_other O3.out g4 C.out.glt
          have h4c := o4.cell (i := x.toNat) (by have := Hxl.out; omega)
          have h4f := o4.free Hxl.out.symm x.toNat
          have O4 := Lib.hid o4
          clear c4 g4 o4
          go_wp2_with fail
          have O5 := Lib.hid (O4.out.set Hxl.out.symm x.toNat u)
          have C5 := Lib.hid (C4.out.up (show Below w.heap.size w4 (w4.setCell ⟨go, x.toNat, none⟩ (.int .i64 u)) from (Below.refl w.heap.size w4).setCell (show w.heap.size ≤ go from hgo1) _))
          generalize (w4.setCell ⟨go, x.toNat, none⟩ (.int .i64 u)) = w5 at *
          refine (spec_one g a n cap _ _ _ (by omega) (by omega) C5.out.cur).mono ?_
          rintro e w6 ⟨⟨t, rfl⟩, c6, g6⟩
          have C6 := Lib.hid (C5.out.step c6 g6)
          have O6 := Lib.hid (own_other O5.out g6 C.out.glt)
          have hsz6 := C6.out.size
          have hl6 : (xs.set x.toNat u).length ≤ 30 := by simp; omega
          clear c6 g6
          cases t
          · go_wp2_with fail
            go_ret
            exact ⟨⟨_, rfl, _, O6.out, by omega⟩, C6.out.cur.mono (by omega), C6.out.grow⟩
          · go_wp2_with (at_builtin; refine wp_push (.tmp 43) (.tmp 44) rfl rfl w.heap.size _ _ rfl O6.out rfl (by omega) hsz6 ?_; intro v' w' ho hb)
            go_ret
            exact ⟨⟨_, rfl, _, ho, by simp; omega⟩, (C6.out.up hb).cur.mono (by omega), (C6.out.up hb).grow⟩
      · go_wp2_with fail
        refine (spec_one g a n cap _ _ _ (by omega) (by omega) C.out.cur).mono ?_
        rintro e w3 ⟨⟨t, rfl⟩, c3, g3⟩
        have C3 := Lib.hid (C.out.step c3 g3)
        have O3 := Lib.hid (own_other O.out g3 C.out.glt)
        have hsz3 := C3.out.size
        clear c3 g3
        cases t
        · go_wp2_with fail
          go_ret
          exact ⟨⟨_, rfl, xs, O3.out, by omega⟩, C3.out.cur.mono (by omega), C3.out.grow⟩
        · go_wp2_with (at_builtin; refine wp_push (.tmp 43) (.tmp 44) rfl rfl w.heap.size _ _ rfl O3.out rfl (by omega) hsz3 ?_; intro v' w' ho hb)
          go_ret
          exact ⟨⟨_, rfl, _, ho, by simp; omega⟩, (C3.out.up hb).cur.mono (by omega), (C3.out.up hb).grow⟩
end Go.Proofs.YtnbomleieianoaaGreat
