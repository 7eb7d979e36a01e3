/- Contracts and plain laws for the statement FnRules, part 5. No conditions but those stated in each. -/
import Derived.Test.YtnbomleieianoaaGreatBnFnRules4
import Derived.Test.YtnbomleieianoaaGreatBnFnRules3
/- Contract of the reference: a number put to its place, once. -/
namespace Go.Proofs.YtnbomleieianoaaGreat
open Go.RowKit

set_option maxRecDepth 100000 in
set_option maxHeartbeats 2000000 in
theorem spec_l1Put (a : Option Addr) (n cap : Nat) (p : Nat → Bool) (k Y base : Nat) (w : World) (hk : k ≤ 1048576) (hY : Y < k) (hb : base ≤ w.heap.size) (h : Own w base (.slice a n cap) (filt p k)) :
    Calls Tryz.prog 116 #[.slice a n cap, .int .i64 (Y : Int)] w fun e w' => ∃ v, e = .returned v ∧ Own w' base v (filt (fun z => p z || z == Y) k) ∧ Below w.heap.size w w' := by
  have hc := h.cap
  have hll := filt_length p k
  obtain ⟨A, B, h1, h2, h3, h4, h5⟩ := filt_or (p := p) (y := Y) hY
  obtain ⟨R, hR⟩ : ∃ R, R = A ++ (if p Y then B else (Y : Int) :: B) := ⟨_, rfl⟩
  rw [h5, ← hR]
  have HR := Lib.hid hR
  rw [h1] at h hc hll
  clear h1 h5 hR
  have H := Lib.hid h
  have HI := Lib.hid h.ints
  have hA : ∀ i, i < A.length → nth (A ++ B) i < (Y : Int) := fun i hi => by rw [nth_append_l hi]; exact h2 _ (nth_mem hi)
  have HA := Lib.hid hA
  have H3 := Lib.hid h3
  have H4 := Lib.hid h4
  have hlen : n = A.length + B.length := by rw [← List.length_append]; exact hc.2.2.1
  have hAl : A.length ≤ 1048576 := by have := hc.2.2.1; omega
  have hn2 : n ≤ 1048576 := by have := hc.2.2.1; omega
  have hcc := hc.2.2.2
  have hnc := hc.1
  have Hcap := Lib.hid hc.2.1
  have Hlen := Lib.hid hlen
  have HA0 : Hid (Ints w a A.length A) := Lib.hid (by have := HI.out.take (k := A.length) (by omega); rwa [List.take_left' rfl] at this)
  clear h h2 h3 h4 hA hll hc hlen
  rw [show maxLen = 9223372036854775807 from rfl] at hcc
  go_enter Tryz.func116, Tryz.ntmps116
  go_wp2_with fail
  go_loop [5] (fun v5 => ∃ i : Nat, i ≤ A.length ∧ v5 = .int .i64 (i : Int)) (fun v5 => A.length - (intOf v5).toNat)
  case atStart => exact ⟨0, Nat.zero_le _, rfl⟩
  case round =>
    obtain ⟨i, hi, rfl⟩ := hrel
    by_cases hlt : i < A.length
    · obtain ⟨b, off, rfl, hcl⟩ := HI.out.at (i := i) (Below.refl _ _) (by have := Hlen.out; omega)
      have hv := HA.out i hlt
      have hin : (i : Int) < n := by have := Hlen.out; omega
      generalize nth (A ++ B) i = u at *
      go_wp2_with fail
      go_round
      case rel => exact ⟨i + 1, by omega, by go_num⟩
      case measure => simp [intOf]; omega
    · obtain rfl : i = A.length := by omega
      clear hlt hi
      cases hB : B with
      | nil =>
        subst hB
        have hp : p Y = false := by
          cases hp : p Y
          · rfl
          · obtain ⟨b', hb', _⟩ := H3.out hp; cases hb'
        have Hp := Lib.hid hp
        clear hp
        obtain rfl : n = A.length := by have := Hlen.out; simpa using this
        have hin : ¬ ((A.length : Int) < (A.length : Int)) := by omega
        cases a with
        | none =>
          have hz : A.length = 0 := by
            rcases Nat.eq_zero_or_pos A.length with h0 | h0
            · exact h0
            · obtain ⟨b, off, he, _⟩ := HA0.out.2 h0; cases he
          obtain rfl := Hcap.out rfl
          obtain rfl : A = [] := List.length_eq_zero_iff.1 hz
          clear hz
          go_wp2_with fail
          refine wp_region_noPanic ?_
          refine wp_region_held_drew (S := (fun _ => True)) (by kernel_rfl) ?_ (fun hHeld0 => ?_)
          · trivial
          refine takeH (i := 1) (oi := _) (v := ?_) rfl (by kernel_rfl) (by kernel_rfl) (by kernel_rfl) (fun _ _ _ h => h) (Or.inl ⟨by rfl, ?_⟩) (by assumption) ?_
          rotate_left
          · first | (intro w hSw; (try dsimp only at hSw); go_simp; done) | (intro w hSw; (try dsimp only at hSw); go_simp; with_reducible rfl)
          (try simp only [Act.put, List.setIfInBounds_toArray, List.set_cons_zero, List.set_cons_succ])
          refine takeH (i := 2) (oi := _) (v := ?_) rfl (by kernel_rfl) (by kernel_rfl) (by kernel_rfl) (fun _ _ _ h => h) (Or.inl ⟨by rfl, ?_⟩) (by assumption) ?_
          rotate_left
          · first | (intro w hSw; (try dsimp only at hSw); go_simp; done) | (intro w hSw; (try dsimp only at hSw); go_simp; with_reducible rfl)
          (try simp only [Act.put, List.setIfInBounds_toArray, List.set_cons_zero, List.set_cons_succ])
          refine takeH (i := 3) (oi := _) (v := ?_) rfl (by kernel_rfl) (by kernel_rfl) (by kernel_rfl) (fun _ _ _ h => h) (Or.inl ⟨by rfl, ?_⟩) (by assumption) ?_
          rotate_left
          · first | (intro w hSw; (try dsimp only at hSw); go_simp; done) | (intro w hSw; (try dsimp only at hSw); go_simp; with_reducible rfl)
          (try simp only [Act.put, List.setIfInBounds_toArray, List.set_cons_zero, List.set_cons_succ])
          refine takeH (i := 5) (oi := _) (v := ?_) rfl (by kernel_rfl) (by kernel_rfl) (by kernel_rfl) (fun _ _ _ h => h) (Or.inl ⟨by rfl, ?_⟩) (by assumption) ?_
          rotate_left
          · first | (intro w hSw; (try dsimp only at hSw); go_simp; done) | (intro w hSw; (try dsimp only at hSw); go_simp; with_reducible rfl)
          (try simp only [Act.put, List.setIfInBounds_toArray, List.set_cons_zero, List.set_cons_succ])
          refine takeH (i := 8) (oi := _) (v := ?_) rfl (by kernel_rfl) (by kernel_rfl) (by kernel_rfl) (fun _ _ _ h => h) (Or.inl ⟨by rfl, ?_⟩) (by assumption) ?_
          rotate_left
          · first | (intro w hSw; (try dsimp only at hSw); go_simp; done) | (intro w hSw; (try dsimp only at hSw); go_simp; with_reducible rfl)
          (try simp only [Act.put, List.setIfInBounds_toArray, List.set_cons_zero, List.set_cons_succ])
          refine takeH (i := 9) (oi := _) (v := ?_) rfl (by kernel_rfl) (by kernel_rfl) (by kernel_rfl) (fun _ _ _ h => h) (Or.inl ⟨by rfl, ?_⟩) (by assumption) ?_
          rotate_left
          · first | (intro w hSw; (try dsimp only at hSw); go_simp; done) | (intro w hSw; (try dsimp only at hSw); go_simp; with_reducible rfl)
          (try simp only [Act.put, List.setIfInBounds_toArray, List.set_cons_zero, List.set_cons_succ])
          refine takeH (i := 10) (oi := _) (v := ?_) rfl (by kernel_rfl) (by kernel_rfl) (by kernel_rfl) (fun _ _ _ h => h) (Or.inl ⟨by rfl, ?_⟩) (by assumption) ?_
          rotate_left
          · first | (intro w hSw; (try dsimp only at hSw); go_simp; done) | (intro w hSw; (try dsimp only at hSw); go_simp; with_reducible rfl)
          (try simp only [Act.put, List.setIfInBounds_toArray, List.set_cons_zero, List.set_cons_succ])
          refine wpAnyH_ready (rs := [0, 6]) (by kernel_rfl) (by simp) ?_
          refine consM rfl (fun Kq hKq => ?_) (consH rfl (fun Kq hKq => ?_))
          · go_simp
            have L1 : Below w.heap.size w (w.alloc (.cells #[] 3)).drew := (below_new w _).drew
            have N1 : Own (w.alloc (.cells #[] 3)).drew w.heap.size (.slice (some ⟨w.heap.size, 0, none⟩) 0 0) [] := (own_nil0 w).below (Below.refl _ _).drew
            refine hKq.out _ _ ?_ (fun hHeld1 => ?_)
            · trivial
            clear hKq Kq
            (try simp only [Act.put, List.setIfInBounds_toArray, List.set_cons_zero, List.set_cons_succ])
            clear hHeld0
            refine wpAnyH_ready (rs := [4, 6]) (by kernel_rfl) (by simp) ?_
            refine consM rfl (fun Kq hKq => ?_) (consH rfl (fun Kq hKq => ?_))
            · refine step_appI rfl _ _ rfl w.heap.size _ [] (by rfl) N1 _ _ _ [] (by rfl) ?_ ?_ ?_ ?_ ?_
              · intro h; first | rfl | exact Hcap.out h | cases h
              · exact HA0.out.below L1
              · simp <;> omega
              · have := L1.size; omega
              intro v1 w1 o1 b1 m1
              have L2 := L1.trans b1
              refine hKq.out _ _ ?_ (fun hHeld2 => ?_)
              · trivial
              clear hKq Kq
              (try simp only [Act.put, List.setIfInBounds_toArray, List.set_cons_zero, List.set_cons_succ])
              clear hHeld1
              refine wpAnyH_ready (rs := [6]) (by kernel_rfl) (by simp) ?_
              refine consH rfl (fun Kq hKq => ?_)
              go_simp
              have LT3 := (own_lit1 w1 w.heap.size (Y : Int) L2.size).ints
              have o1' := o1.below (below_new w1 (.cells #[.int .i64 (Y : Int)] 3))
              have L3 := L2.trans (Below.mono (below_new w1 (.cells #[.int .i64 (Y : Int)] 3)) L2.size)
              refine hKq.out _ _ ?_ (fun hHeld3 => ?_)
              · trivial
              clear hKq Kq
              (try simp only [Act.put, List.setIfInBounds_toArray, List.set_cons_zero, List.set_cons_succ])
              clear hHeld2
              refine wpAnyH_ready (rs := [7]) (by kernel_rfl) (by simp) ?_
              refine consH rfl (fun Kq hKq => ?_)
              refine step_appI rfl _ _ rfl w.heap.size _ _ (by rfl) o1' _ _ _ [(Y : Int)] (by rfl) ?_ ?_ ?_ ?_ ?_
              · intro h; first | rfl | exact Hcap.out h | cases h
              · exact LT3
              · simp <;> omega
              · have := L3.size; omega
              intro v2 w2 o2 b2 m2
              have L4 := L3.trans b2
              refine hKq.out _ _ ?_ (fun hHeld4 => ?_)
              · trivial
              clear hKq Kq
              (try simp only [Act.put, List.setIfInBounds_toArray, List.set_cons_zero, List.set_cons_succ])
              clear hHeld3
              refine wpAnyH_ready (rs := [11]) (by kernel_rfl) (by simp) ?_
              refine consH rfl (fun Kq hKq => ?_)
              refine step_appI rfl _ _ rfl w.heap.size _ _ (by rfl) o2 _ _ _ [] (by rfl) ?_ ?_ ?_ ?_ ?_
              · intro h; first | rfl | exact Hcap.out h | cases h
              · exact ints_nil _ _
              · simp <;> omega
              · have := L4.size; omega
              intro v3 w3 o3 b3 m3
              refine hKq.out _ _ ?_ (fun hHeld5 => ?_)
              · trivial
              clear hKq Kq
              (try simp only [Act.put, List.setIfInBounds_toArray, List.set_cons_zero, List.set_cons_succ])
              clear hHeld4
              refine takeH (i := 12) (oi := _) (v := ?_) rfl (by kernel_rfl) (by kernel_rfl) (by kernel_rfl) (fun _ _ _ h => h) (Or.inl ⟨by rfl, ?_⟩) (by assumption) ?_
              rotate_left
              · first | (intro w hSw; (try dsimp only at hSw); go_simp; done) | (intro w hSw; (try dsimp only at hSw); go_simp; with_reducible rfl)
              (try simp only [Act.put, List.setIfInBounds_toArray, List.set_cons_zero, List.set_cons_succ])
              refine wpAnyH_done (by kernel_rfl) ?_ _
              refine NoPanic.normal ?_
              go_wp2_with fail
              go_ret
              exact ⟨_, rfl, by
                have := o3.mono hb
                rw [HR.out, Hp.out, if_neg Bool.false_ne_true]
                simpa using this, L4.trans b3⟩
            · go_simp
              have N2 : Own ((w.alloc (.cells #[] 3)).alloc (.cells #[.int .i64 (Y : Int)] 3)).drew w.heap.size (.slice (some ⟨w.heap.size, 0, none⟩) 0 0) [] := ((own_nil0 w).below (below_new _ _)).below (Below.refl _ _).drew
              have LT2 : Ints ((w.alloc (.cells #[] 3)).alloc (.cells #[.int .i64 (Y : Int)] 3)).drew (some ⟨w.heap.size + 1, 0, none⟩) 1 [(Y : Int)] := by
                have := (own_lit1 (w.alloc (.cells #[] 3)) w.heap.size (Y : Int) (by simp)).ints.below (Below.refl _ _).drew
                simpa using this
              have L2 : Below w.heap.size w ((w.alloc (.cells #[] 3)).alloc (.cells #[.int .i64 (Y : Int)] 3)).drew := ((below_new w _).alloc (by simp) _).drew
              refine hKq.out _ _ ?_ (fun hHeld2 => ?_)
              · trivial
              clear hKq Kq
              (try simp only [Act.put, List.setIfInBounds_toArray, List.set_cons_zero, List.set_cons_succ])
              clear hHeld1
              refine wpAnyH_ready (rs := [4]) (by kernel_rfl) (by simp) ?_
              refine consH rfl (fun Kq hKq => ?_)
              refine step_appI rfl _ _ rfl w.heap.size _ [] (by rfl) N2 _ _ _ [] (by rfl) ?_ ?_ ?_ ?_ ?_
              · intro h; first | rfl | exact Hcap.out h | cases h
              · exact HA0.out.below L2
              · simp <;> omega
              · have := L2.size; omega
              intro v1 w1 o1 b1 m1
              have L3 := L2.trans b1
              have LT3 := LT2.moved m1 (fun _ p hp e => by cases hp; simp [Value.ownBlock] at e)
              refine hKq.out _ _ ?_ (fun hHeld3 => ?_)
              · trivial
              clear hKq Kq
              (try simp only [Act.put, List.setIfInBounds_toArray, List.set_cons_zero, List.set_cons_succ])
              clear hHeld2
              refine wpAnyH_ready (rs := [7]) (by kernel_rfl) (by simp) ?_
              refine consH rfl (fun Kq hKq => ?_)
              refine step_appI rfl _ _ rfl w.heap.size _ _ (by rfl) o1 _ _ _ [(Y : Int)] (by rfl) ?_ ?_ ?_ ?_ ?_
              · intro h; first | rfl | exact Hcap.out h | cases h
              · exact LT3.1
              · simp <;> omega
              · have := L3.size; omega
              intro v2 w2 o2 b2 m2
              have L4 := L3.trans b2
              refine hKq.out _ _ ?_ (fun hHeld4 => ?_)
              · trivial
              clear hKq Kq
              (try simp only [Act.put, List.setIfInBounds_toArray, List.set_cons_zero, List.set_cons_succ])
              clear hHeld3
              refine wpAnyH_ready (rs := [11]) (by kernel_rfl) (by simp) ?_
              refine consH rfl (fun Kq hKq => ?_)
              refine step_appI rfl _ _ rfl w.heap.size _ _ (by rfl) o2 _ _ _ [] (by rfl) ?_ ?_ ?_ ?_ ?_
              · intro h; first | rfl | exact Hcap.out h | cases h
              · exact ints_nil _ _
              · simp <;> omega
              · have := L4.size; omega
              intro v3 w3 o3 b3 m3
              refine hKq.out _ _ ?_ (fun hHeld5 => ?_)
              · trivial
              clear hKq Kq
              (try simp only [Act.put, List.setIfInBounds_toArray, List.set_cons_zero, List.set_cons_succ])
              clear hHeld4
              refine takeH (i := 12) (oi := _) (v := ?_) rfl (by kernel_rfl) (by kernel_rfl) (by kernel_rfl) (fun _ _ _ h => h) (Or.inl ⟨by rfl, ?_⟩) (by assumption) ?_
              rotate_left
              · first | (intro w hSw; (try dsimp only at hSw); go_simp; done) | (intro w hSw; (try dsimp only at hSw); go_simp; with_reducible rfl)
              (try simp only [Act.put, List.setIfInBounds_toArray, List.set_cons_zero, List.set_cons_succ])
              refine wpAnyH_done (by kernel_rfl) ?_ _
              refine NoPanic.normal ?_
              go_wp2_with fail
              go_ret
              exact ⟨_, rfl, by
                have := o3.mono hb
                rw [HR.out, Hp.out, if_neg Bool.false_ne_true]
                simpa using this, L4.trans b3⟩
          · go_simp
            have L1 : Below w.heap.size w (w.alloc (.cells #[.int .i64 (Y : Int)] 3)).drew := (below_new w _).drew
            refine hKq.out _ _ ?_ (fun hHeld1 => ?_)
            · trivial
            clear hKq Kq
            (try simp only [Act.put, List.setIfInBounds_toArray, List.set_cons_zero, List.set_cons_succ])
            clear hHeld0
            refine wpAnyH_ready (rs := [0]) (by kernel_rfl) (by simp) ?_
            refine consH rfl (fun Kq hKq => ?_)
            go_simp
            have N2 : Own ((w.alloc (.cells #[.int .i64 (Y : Int)] 3)).alloc (.cells #[] 3)).drew w.heap.size (.slice (some ⟨w.heap.size + 1, 0, none⟩) 0 0) [] := by
              have := ((own_nil0 (w.alloc (.cells #[.int .i64 (Y : Int)] 3))).mono (base' := w.heap.size) (by simp)).below (Below.refl _ _).drew
              simpa using this
            have LT2 : Ints ((w.alloc (.cells #[.int .i64 (Y : Int)] 3)).alloc (.cells #[] 3)).drew (some ⟨w.heap.size, 0, none⟩) 1 [(Y : Int)] := ((own_lit1 w w.heap.size (Y : Int) (Nat.le_refl _)).ints.below (below_new _ _)).below (Below.refl _ _).drew
            have L2 : Below w.heap.size w ((w.alloc (.cells #[.int .i64 (Y : Int)] 3)).alloc (.cells #[] 3)).drew := ((below_new w _).alloc (by simp) _).drew
            refine hKq.out _ _ ?_ (fun hHeld2 => ?_)
            · trivial
            clear hKq Kq
            (try simp only [Act.put, List.setIfInBounds_toArray, List.set_cons_zero, List.set_cons_succ])
            clear hHeld1
            refine wpAnyH_ready (rs := [4]) (by kernel_rfl) (by simp) ?_
            refine consH rfl (fun Kq hKq => ?_)
            refine step_appI rfl _ _ rfl w.heap.size _ [] (by rfl) N2 _ _ _ [] (by rfl) ?_ ?_ ?_ ?_ ?_
            · intro h; first | rfl | exact Hcap.out h | cases h
            · exact HA0.out.below L2
            · simp <;> omega
            · have := L2.size; omega
            intro v1 w1 o1 b1 m1
            have L3 := L2.trans b1
            have LT3 := LT2.moved m1 (fun _ p hp e => by cases hp; simp [Value.ownBlock] at e)
            refine hKq.out _ _ ?_ (fun hHeld3 => ?_)
            · trivial
            clear hKq Kq
            (try simp only [Act.put, List.setIfInBounds_toArray, List.set_cons_zero, List.set_cons_succ])
            clear hHeld2
            refine wpAnyH_ready (rs := [7]) (by kernel_rfl) (by simp) ?_
            refine consH rfl (fun Kq hKq => ?_)
            refine step_appI rfl _ _ rfl w.heap.size _ _ (by rfl) o1 _ _ _ [(Y : Int)] (by rfl) ?_ ?_ ?_ ?_ ?_
            · intro h; first | rfl | exact Hcap.out h | cases h
            · exact LT3.1
            · simp <;> omega
            · have := L3.size; omega
            intro v2 w2 o2 b2 m2
            have L4 := L3.trans b2
            refine hKq.out _ _ ?_ (fun hHeld4 => ?_)
            · trivial
            clear hKq Kq
            (try simp only [Act.put, List.setIfInBounds_toArray, List.set_cons_zero, List.set_cons_succ])
            clear hHeld3
            refine wpAnyH_ready (rs := [11]) (by kernel_rfl) (by simp) ?_
            refine consH rfl (fun Kq hKq => ?_)
            refine step_appI rfl _ _ rfl w.heap.size _ _ (by rfl) o2 _ _ _ [] (by rfl) ?_ ?_ ?_ ?_ ?_
            · intro h; first | rfl | exact Hcap.out h | cases h
            · exact ints_nil _ _
            · simp <;> omega
            · have := L4.size; omega
            intro v3 w3 o3 b3 m3
            refine hKq.out _ _ ?_ (fun hHeld5 => ?_)
            · trivial
            clear hKq Kq
            (try simp only [Act.put, List.setIfInBounds_toArray, List.set_cons_zero, List.set_cons_succ])
            clear hHeld4
            refine takeH (i := 12) (oi := _) (v := ?_) rfl (by kernel_rfl) (by kernel_rfl) (by kernel_rfl) (fun _ _ _ h => h) (Or.inl ⟨by rfl, ?_⟩) (by assumption) ?_
            rotate_left
            · first | (intro w hSw; (try dsimp only at hSw); go_simp; done) | (intro w hSw; (try dsimp only at hSw); go_simp; with_reducible rfl)
            (try simp only [Act.put, List.setIfInBounds_toArray, List.set_cons_zero, List.set_cons_succ])
            refine wpAnyH_done (by kernel_rfl) ?_ _
            refine NoPanic.normal ?_
            go_wp2_with fail
            go_ret
            exact ⟨_, rfl, by
              have := o3.mono hb
              rw [HR.out, Hp.out, if_neg Bool.false_ne_true]
              simpa using this, L4.trans b3⟩
        | some ad =>
          obtain ⟨g, cq, cur, he, -⟩ : ∃ (g cq : Nat) (cur : Unit), (Value.slice (some ad) A.length cap) = .slice (some ⟨g, 0, none⟩) A.length cq ∧ True := by
            have := H.out
            unfold Own World.ownsRow at this
            rcases this.2 with ⟨h1, h2⟩ | ⟨g, cp, cur, h1, _⟩
            · cases h1
            · exact ⟨g, cp, (), by rw [h1]; simp, trivial⟩
          cases he
          have x2 : (0 : Int) ≤ (A.length : Int) := by omega
          by_cases hcA : cap = A.length
          · subst hcA
            have x1 : (A.length : Int) ≤ (A.length : Int) := by omega
            go_wp2_with fail
            refine wp_region_noPanic ?_
            refine wp_region_held_drew (S := (fun _ => True)) (by kernel_rfl) ?_ (fun hHeld0 => ?_)
            · trivial
            refine takeH (i := 1) (oi := _) (v := ?_) rfl (by kernel_rfl) (by kernel_rfl) (by kernel_rfl) (fun _ _ _ h => h) (Or.inl ⟨by rfl, ?_⟩) (by assumption) ?_
            rotate_left
            · first | (intro w hSw; (try dsimp only at hSw); go_simp; done) | (intro w hSw; (try dsimp only at hSw); go_simp; with_reducible rfl)
            (try simp only [Act.put, List.setIfInBounds_toArray, List.set_cons_zero, List.set_cons_succ])
            refine takeH (i := 2) (oi := _) (v := ?_) rfl (by kernel_rfl) (by kernel_rfl) (by kernel_rfl) (fun _ _ _ h => h) (Or.inl ⟨by rfl, ?_⟩) (by assumption) ?_
            rotate_left
            · first | (intro w hSw; (try dsimp only at hSw); go_simp; done) | (intro w hSw; (try dsimp only at hSw); go_simp; with_reducible rfl)
            (try simp only [Act.put, List.setIfInBounds_toArray, List.set_cons_zero, List.set_cons_succ])
            refine takeH (i := 3) (oi := _) (v := ?_) rfl (by kernel_rfl) (by kernel_rfl) (by kernel_rfl) (fun _ _ _ h => h) (Or.inl ⟨by rfl, ?_⟩) (by assumption) ?_
            rotate_left
            · first | (intro w hSw; (try dsimp only at hSw); go_simp; done) | (intro w hSw; (try dsimp only at hSw); go_simp; with_reducible rfl)
            (try simp only [Act.put, List.setIfInBounds_toArray, List.set_cons_zero, List.set_cons_succ])
            refine takeH (i := 5) (oi := _) (v := ?_) rfl (by kernel_rfl) (by kernel_rfl) (by kernel_rfl) (fun _ _ _ h => h) (Or.inl ⟨by rfl, ?_⟩) (by assumption) ?_
            rotate_left
            · first | (intro w hSw; (try dsimp only at hSw); go_simp; done) | (intro w hSw; (try dsimp only at hSw); go_simp; with_reducible rfl)
            (try simp only [Act.put, List.setIfInBounds_toArray, List.set_cons_zero, List.set_cons_succ])
            refine takeH (i := 8) (oi := _) (v := ?_) rfl (by kernel_rfl) (by kernel_rfl) (by kernel_rfl) (fun _ _ _ h => h) (Or.inl ⟨by rfl, ?_⟩) (by assumption) ?_
            rotate_left
            · first | (intro w hSw; (try dsimp only at hSw); go_simp; done) | (intro w hSw; (try dsimp only at hSw); go_simp; with_reducible rfl)
            (try simp only [Act.put, List.setIfInBounds_toArray, List.set_cons_zero, List.set_cons_succ])
            refine takeH (i := 9) (oi := _) (v := ?_) rfl (by kernel_rfl) (by kernel_rfl) (by kernel_rfl) (fun _ _ _ h => h) (Or.inl ⟨by rfl, ?_⟩) (by assumption) ?_
            rotate_left
            · first | (intro w hSw; (try dsimp only at hSw); go_simp; done) | (intro w hSw; (try dsimp only at hSw); go_simp; with_reducible rfl)
            (try simp only [Act.put, List.setIfInBounds_toArray, List.set_cons_zero, List.set_cons_succ])
            refine takeH (i := 10) (oi := _) (v := ?_) rfl (by kernel_rfl) (by kernel_rfl) (by kernel_rfl) (fun _ _ _ h => h) (Or.inl ⟨by rfl, ?_⟩) (by assumption) ?_
            rotate_left
            · first | (intro w hSw; (try dsimp only at hSw); go_simp; done) | (intro w hSw; (try dsimp only at hSw); go_simp; with_reducible rfl)
            (try simp only [Act.put, List.setIfInBounds_toArray, List.set_cons_zero, List.set_cons_succ])
            refine wpAnyH_ready (rs := [0, 6]) (by kernel_rfl) (by simp) ?_
            refine consM rfl (fun Kq hKq => ?_) (consH rfl (fun Kq hKq => ?_))
            · go_simp
              have L1 : Below w.heap.size w (w.alloc (.cells #[] 3)).drew := (below_new w _).drew
              have N1 : Own (w.alloc (.cells #[] 3)).drew w.heap.size (.slice (some ⟨w.heap.size, 0, none⟩) 0 0) [] := (own_nil0 w).below (Below.refl _ _).drew
              refine hKq.out _ _ ?_ (fun hHeld1 => ?_)
              · trivial
              clear hKq Kq
              (try simp only [Act.put, List.setIfInBounds_toArray, List.set_cons_zero, List.set_cons_succ])
              clear hHeld0
              refine wpAnyH_ready (rs := [4, 6]) (by kernel_rfl) (by simp) ?_
              refine consM rfl (fun Kq hKq => ?_) (consH rfl (fun Kq hKq => ?_))
              · refine step_appI rfl _ _ rfl w.heap.size _ [] (by rfl) N1 _ _ _ A (by rfl) ?_ ?_ ?_ ?_ ?_
                · intro h; first | rfl | exact Hcap.out h | cases h
                · exact HA0.out.below L1
                · simp <;> omega
                · have := L1.size; omega
                intro v1 w1 o1 b1 m1
                have L2 := L1.trans b1
                refine hKq.out _ _ ?_ (fun hHeld2 => ?_)
                · trivial
                clear hKq Kq
                (try simp only [Act.put, List.setIfInBounds_toArray, List.set_cons_zero, List.set_cons_succ])
                clear hHeld1
                refine wpAnyH_ready (rs := [6]) (by kernel_rfl) (by simp) ?_
                refine consH rfl (fun Kq hKq => ?_)
                go_simp
                have LT3 := (own_lit1 w1 w.heap.size (Y : Int) L2.size).ints
                have o1' := o1.below (below_new w1 (.cells #[.int .i64 (Y : Int)] 3))
                have L3 := L2.trans (Below.mono (below_new w1 (.cells #[.int .i64 (Y : Int)] 3)) L2.size)
                refine hKq.out _ _ ?_ (fun hHeld3 => ?_)
                · trivial
                clear hKq Kq
                (try simp only [Act.put, List.setIfInBounds_toArray, List.set_cons_zero, List.set_cons_succ])
                clear hHeld2
                refine wpAnyH_ready (rs := [7]) (by kernel_rfl) (by simp) ?_
                refine consH rfl (fun Kq hKq => ?_)
                refine step_appI rfl _ _ rfl w.heap.size _ _ (by rfl) o1' _ _ _ [(Y : Int)] (by rfl) ?_ ?_ ?_ ?_ ?_
                · intro h; first | rfl | exact Hcap.out h | cases h
                · exact LT3
                · simp <;> omega
                · have := L3.size; omega
                intro v2 w2 o2 b2 m2
                have L4 := L3.trans b2
                refine hKq.out _ _ ?_ (fun hHeld4 => ?_)
                · trivial
                clear hKq Kq
                (try simp only [Act.put, List.setIfInBounds_toArray, List.set_cons_zero, List.set_cons_succ])
                clear hHeld3
                refine wpAnyH_ready (rs := [11]) (by kernel_rfl) (by simp) ?_
                refine consH rfl (fun Kq hKq => ?_)
                refine step_appI rfl _ _ rfl w.heap.size _ _ (by rfl) o2 _ _ _ [] (by rfl) ?_ ?_ ?_ ?_ ?_
                · intro h; first | rfl | exact Hcap.out h | cases h
                · exact ints_nil _ _
                · simp <;> omega
                · have := L4.size; omega
                intro v3 w3 o3 b3 m3
                refine hKq.out _ _ ?_ (fun hHeld5 => ?_)
                · trivial
                clear hKq Kq
                (try simp only [Act.put, List.setIfInBounds_toArray, List.set_cons_zero, List.set_cons_succ])
                clear hHeld4
                refine takeH (i := 12) (oi := _) (v := ?_) rfl (by kernel_rfl) (by kernel_rfl) (by kernel_rfl) (fun _ _ _ h => h) (Or.inl ⟨by rfl, ?_⟩) (by assumption) ?_
                rotate_left
                · first | (intro w hSw; (try dsimp only at hSw); go_simp; done) | (intro w hSw; (try dsimp only at hSw); go_simp; with_reducible rfl)
                (try simp only [Act.put, List.setIfInBounds_toArray, List.set_cons_zero, List.set_cons_succ])
                refine wpAnyH_done (by kernel_rfl) ?_ _
                refine NoPanic.normal ?_
                go_wp2_with fail
                go_ret
                exact ⟨_, rfl, by
                  have := o3.mono hb
                  rw [HR.out, Hp.out, if_neg Bool.false_ne_true]
                  simpa using this, L4.trans b3⟩
              · go_simp
                have N2 : Own ((w.alloc (.cells #[] 3)).alloc (.cells #[.int .i64 (Y : Int)] 3)).drew w.heap.size (.slice (some ⟨w.heap.size, 0, none⟩) 0 0) [] := ((own_nil0 w).below (below_new _ _)).below (Below.refl _ _).drew
                have LT2 : Ints ((w.alloc (.cells #[] 3)).alloc (.cells #[.int .i64 (Y : Int)] 3)).drew (some ⟨w.heap.size + 1, 0, none⟩) 1 [(Y : Int)] := by
                  have := (own_lit1 (w.alloc (.cells #[] 3)) w.heap.size (Y : Int) (by simp)).ints.below (Below.refl _ _).drew
                  simpa using this
                have L2 : Below w.heap.size w ((w.alloc (.cells #[] 3)).alloc (.cells #[.int .i64 (Y : Int)] 3)).drew := ((below_new w _).alloc (by simp) _).drew
                refine hKq.out _ _ ?_ (fun hHeld2 => ?_)
                · trivial
                clear hKq Kq
                (try simp only [Act.put, List.setIfInBounds_toArray, List.set_cons_zero, List.set_cons_succ])
                clear hHeld1
                refine wpAnyH_ready (rs := [4]) (by kernel_rfl) (by simp) ?_
                refine consH rfl (fun Kq hKq => ?_)
                refine step_appI rfl _ _ rfl w.heap.size _ [] (by rfl) N2 _ _ _ A (by rfl) ?_ ?_ ?_ ?_ ?_
                · intro h; first | rfl | exact Hcap.out h | cases h
                · exact HA0.out.below L2
                · simp <;> omega
                · have := L2.size; omega
                intro v1 w1 o1 b1 m1
                have L3 := L2.trans b1
                have LT3 := LT2.moved m1 (fun _ p hp e => by cases hp; simp [Value.ownBlock] at e)
                refine hKq.out _ _ ?_ (fun hHeld3 => ?_)
                · trivial
                clear hKq Kq
                (try simp only [Act.put, List.setIfInBounds_toArray, List.set_cons_zero, List.set_cons_succ])
                clear hHeld2
                refine wpAnyH_ready (rs := [7]) (by kernel_rfl) (by simp) ?_
                refine consH rfl (fun Kq hKq => ?_)
                refine step_appI rfl _ _ rfl w.heap.size _ _ (by rfl) o1 _ _ _ [(Y : Int)] (by rfl) ?_ ?_ ?_ ?_ ?_
                · intro h; first | rfl | exact Hcap.out h | cases h
                · exact LT3.1
                · simp <;> omega
                · have := L3.size; omega
                intro v2 w2 o2 b2 m2
                have L4 := L3.trans b2
                refine hKq.out _ _ ?_ (fun hHeld4 => ?_)
                · trivial
                clear hKq Kq
                (try simp only [Act.put, List.setIfInBounds_toArray, List.set_cons_zero, List.set_cons_succ])
                clear hHeld3
                refine wpAnyH_ready (rs := [11]) (by kernel_rfl) (by simp) ?_
                refine consH rfl (fun Kq hKq => ?_)
                refine step_appI rfl _ _ rfl w.heap.size _ _ (by rfl) o2 _ _ _ [] (by rfl) ?_ ?_ ?_ ?_ ?_
                · intro h; first | rfl | exact Hcap.out h | cases h
                · exact ints_nil _ _
                · simp <;> omega
                · have := L4.size; omega
                intro v3 w3 o3 b3 m3
                refine hKq.out _ _ ?_ (fun hHeld5 => ?_)
                · trivial
                clear hKq Kq
                (try simp only [Act.put, List.setIfInBounds_toArray, List.set_cons_zero, List.set_cons_succ])
                clear hHeld4
                refine takeH (i := 12) (oi := _) (v := ?_) rfl (by kernel_rfl) (by kernel_rfl) (by kernel_rfl) (fun _ _ _ h => h) (Or.inl ⟨by rfl, ?_⟩) (by assumption) ?_
                rotate_left
                · first | (intro w hSw; (try dsimp only at hSw); go_simp; done) | (intro w hSw; (try dsimp only at hSw); go_simp; with_reducible rfl)
                (try simp only [Act.put, List.setIfInBounds_toArray, List.set_cons_zero, List.set_cons_succ])
                refine wpAnyH_done (by kernel_rfl) ?_ _
                refine NoPanic.normal ?_
                go_wp2_with fail
                go_ret
                exact ⟨_, rfl, by
                  have := o3.mono hb
                  rw [HR.out, Hp.out, if_neg Bool.false_ne_true]
                  simpa using this, L4.trans b3⟩
            · go_simp
              have L1 : Below w.heap.size w (w.alloc (.cells #[.int .i64 (Y : Int)] 3)).drew := (below_new w _).drew
              refine hKq.out _ _ ?_ (fun hHeld1 => ?_)
              · trivial
              clear hKq Kq
              (try simp only [Act.put, List.setIfInBounds_toArray, List.set_cons_zero, List.set_cons_succ])
              clear hHeld0
              refine wpAnyH_ready (rs := [0]) (by kernel_rfl) (by simp) ?_
              refine consH rfl (fun Kq hKq => ?_)
              go_simp
              have N2 : Own ((w.alloc (.cells #[.int .i64 (Y : Int)] 3)).alloc (.cells #[] 3)).drew w.heap.size (.slice (some ⟨w.heap.size + 1, 0, none⟩) 0 0) [] := by
                have := ((own_nil0 (w.alloc (.cells #[.int .i64 (Y : Int)] 3))).mono (base' := w.heap.size) (by simp)).below (Below.refl _ _).drew
                simpa using this
              have LT2 : Ints ((w.alloc (.cells #[.int .i64 (Y : Int)] 3)).alloc (.cells #[] 3)).drew (some ⟨w.heap.size, 0, none⟩) 1 [(Y : Int)] := ((own_lit1 w w.heap.size (Y : Int) (Nat.le_refl _)).ints.below (below_new _ _)).below (Below.refl _ _).drew
              have L2 : Below w.heap.size w ((w.alloc (.cells #[.int .i64 (Y : Int)] 3)).alloc (.cells #[] 3)).drew := ((below_new w _).alloc (by simp) _).drew
              refine hKq.out _ _ ?_ (fun hHeld2 => ?_)
              · trivial
              clear hKq Kq
              (try simp only [Act.put, List.setIfInBounds_toArray, List.set_cons_zero, List.set_cons_succ])
              clear hHeld1
              refine wpAnyH_ready (rs := [4]) (by kernel_rfl) (by simp) ?_
              refine consH rfl (fun Kq hKq => ?_)
              refine step_appI rfl _ _ rfl w.heap.size _ [] (by rfl) N2 _ _ _ A (by rfl) ?_ ?_ ?_ ?_ ?_
              · intro h; first | rfl | exact Hcap.out h | cases h
              · exact HA0.out.below L2
              · simp <;> omega
              · have := L2.size; omega
              intro v1 w1 o1 b1 m1
              have L3 := L2.trans b1
              have LT3 := LT2.moved m1 (fun _ p hp e => by cases hp; simp [Value.ownBlock] at e)
              refine hKq.out _ _ ?_ (fun hHeld3 => ?_)
              · trivial
              clear hKq Kq
              (try simp only [Act.put, List.setIfInBounds_toArray, List.set_cons_zero, List.set_cons_succ])
              clear hHeld2
              refine wpAnyH_ready (rs := [7]) (by kernel_rfl) (by simp) ?_
              refine consH rfl (fun Kq hKq => ?_)
              refine step_appI rfl _ _ rfl w.heap.size _ _ (by rfl) o1 _ _ _ [(Y : Int)] (by rfl) ?_ ?_ ?_ ?_ ?_
              · intro h; first | rfl | exact Hcap.out h | cases h
              · exact LT3.1
              · simp <;> omega
              · have := L3.size; omega
              intro v2 w2 o2 b2 m2
              have L4 := L3.trans b2
              refine hKq.out _ _ ?_ (fun hHeld4 => ?_)
              · trivial
              clear hKq Kq
              (try simp only [Act.put, List.setIfInBounds_toArray, List.set_cons_zero, List.set_cons_succ])
              clear hHeld3
              refine wpAnyH_ready (rs := [11]) (by kernel_rfl) (by simp) ?_
              refine consH rfl (fun Kq hKq => ?_)
              refine step_appI rfl _ _ rfl w.heap.size _ _ (by rfl) o2 _ _ _ [] (by rfl) ?_ ?_ ?_ ?_ ?_
              · intro h; first | rfl | exact Hcap.out h | cases h
              · exact ints_nil _ _
              · simp <;> omega
              · have := L4.size; omega
              intro v3 w3 o3 b3 m3
              refine hKq.out _ _ ?_ (fun hHeld5 => ?_)
              · trivial
              clear hKq Kq
              (try simp only [Act.put, List.setIfInBounds_toArray, List.set_cons_zero, List.set_cons_succ])
              clear hHeld4
              refine takeH (i := 12) (oi := _) (v := ?_) rfl (by kernel_rfl) (by kernel_rfl) (by kernel_rfl) (fun _ _ _ h => h) (Or.inl ⟨by rfl, ?_⟩) (by assumption) ?_
              rotate_left
              · first | (intro w hSw; (try dsimp only at hSw); go_simp; done) | (intro w hSw; (try dsimp only at hSw); go_simp; with_reducible rfl)
              (try simp only [Act.put, List.setIfInBounds_toArray, List.set_cons_zero, List.set_cons_succ])
              refine wpAnyH_done (by kernel_rfl) ?_ _
              refine NoPanic.normal ?_
              go_wp2_with fail
              go_ret
              exact ⟨_, rfl, by
                have := o3.mono hb
                rw [HR.out, Hp.out, if_neg Bool.false_ne_true]
                simpa using this, L4.trans b3⟩
          · have x1 : (A.length : Int) ≤ (cap : Int) := by omega
            have x4 : (A.length : Int) ≤ (A.length : Int) := by omega
            go_wp2_with fail
            refine wp_region_noPanic ?_
            refine wp_region_held_drew (S := (fun _ => True)) (by kernel_rfl) ?_ (fun hHeld0 => ?_)
            · trivial
            refine takeH (i := 1) (oi := _) (v := ?_) rfl (by kernel_rfl) (by kernel_rfl) (by kernel_rfl) (fun _ _ _ h => h) (Or.inl ⟨by rfl, ?_⟩) (by assumption) ?_
            rotate_left
            · first | (intro w hSw; (try dsimp only at hSw); go_simp; done) | (intro w hSw; (try dsimp only at hSw); go_simp; with_reducible rfl)
            (try simp only [Act.put, List.setIfInBounds_toArray, List.set_cons_zero, List.set_cons_succ])
            refine takeH (i := 2) (oi := _) (v := ?_) rfl (by kernel_rfl) (by kernel_rfl) (by kernel_rfl) (fun _ _ _ h => h) (Or.inl ⟨by rfl, ?_⟩) (by assumption) ?_
            rotate_left
            · first | (intro w hSw; (try dsimp only at hSw); go_simp; done) | (intro w hSw; (try dsimp only at hSw); go_simp; with_reducible rfl)
            (try simp only [Act.put, List.setIfInBounds_toArray, List.set_cons_zero, List.set_cons_succ])
            refine takeH (i := 3) (oi := _) (v := ?_) rfl (by kernel_rfl) (by kernel_rfl) (by kernel_rfl) (fun _ _ _ h => h) (Or.inl ⟨by rfl, ?_⟩) (by assumption) ?_
            rotate_left
            · first | (intro w hSw; (try dsimp only at hSw); go_simp; done) | (intro w hSw; (try dsimp only at hSw); go_simp; with_reducible rfl)
            (try simp only [Act.put, List.setIfInBounds_toArray, List.set_cons_zero, List.set_cons_succ])
            refine takeH (i := 5) (oi := _) (v := ?_) rfl (by kernel_rfl) (by kernel_rfl) (by kernel_rfl) (fun _ _ _ h => h) (Or.inl ⟨by rfl, ?_⟩) (by assumption) ?_
            rotate_left
            · first | (intro w hSw; (try dsimp only at hSw); go_simp; done) | (intro w hSw; (try dsimp only at hSw); go_simp; with_reducible rfl)
            (try simp only [Act.put, List.setIfInBounds_toArray, List.set_cons_zero, List.set_cons_succ])
            refine takeH (i := 8) (oi := _) (v := ?_) rfl (by kernel_rfl) (by kernel_rfl) (by kernel_rfl) (fun _ _ _ h => h) (Or.inl ⟨by rfl, ?_⟩) (by assumption) ?_
            rotate_left
            · first | (intro w hSw; (try dsimp only at hSw); go_simp; done) | (intro w hSw; (try dsimp only at hSw); go_simp; with_reducible rfl)
            (try simp only [Act.put, List.setIfInBounds_toArray, List.set_cons_zero, List.set_cons_succ])
            refine takeH (i := 9) (oi := _) (v := ?_) rfl (by kernel_rfl) (by kernel_rfl) (by kernel_rfl) (fun _ _ _ h => h) (Or.inl ⟨by rfl, ?_⟩) (by assumption) ?_
            rotate_left
            · first | (intro w hSw; (try dsimp only at hSw); go_simp; done) | (intro w hSw; (try dsimp only at hSw); go_simp; with_reducible rfl)
            (try simp only [Act.put, List.setIfInBounds_toArray, List.set_cons_zero, List.set_cons_succ])
            refine takeH (i := 10) (oi := _) (v := ?_) rfl (by kernel_rfl) (by kernel_rfl) (by kernel_rfl) (fun _ _ _ h => h) (Or.inl ⟨by rfl, ?_⟩) (by assumption) ?_
            rotate_left
            · first | (intro w hSw; (try dsimp only at hSw); go_simp; done) | (intro w hSw; (try dsimp only at hSw); go_simp; with_reducible rfl)
            (try simp only [Act.put, List.setIfInBounds_toArray, List.set_cons_zero, List.set_cons_succ])
            refine wpAnyH_ready (rs := [0, 6]) (by kernel_rfl) (by simp) ?_
            refine consM rfl (fun Kq hKq => ?_) (consH rfl (fun Kq hKq => ?_))
            · go_simp
              have L1 : Below w.heap.size w (w.alloc (.cells #[] 3)).drew := (below_new w _).drew
              have N1 : Own (w.alloc (.cells #[] 3)).drew w.heap.size (.slice (some ⟨w.heap.size, 0, none⟩) 0 0) [] := (own_nil0 w).below (Below.refl _ _).drew
              refine hKq.out _ _ ?_ (fun hHeld1 => ?_)
              · trivial
              clear hKq Kq
              (try simp only [Act.put, List.setIfInBounds_toArray, List.set_cons_zero, List.set_cons_succ])
              clear hHeld0
              refine wpAnyH_ready (rs := [4, 6]) (by kernel_rfl) (by simp) ?_
              refine consM rfl (fun Kq hKq => ?_) (consH rfl (fun Kq hKq => ?_))
              · refine step_appI rfl _ _ rfl w.heap.size _ [] (by rfl) N1 _ _ _ A (by rfl) ?_ ?_ ?_ ?_ ?_
                · intro h; first | rfl | exact Hcap.out h | cases h
                · exact HA0.out.below L1
                · simp <;> omega
                · have := L1.size; omega
                intro v1 w1 o1 b1 m1
                have L2 := L1.trans b1
                refine hKq.out _ _ ?_ (fun hHeld2 => ?_)
                · trivial
                clear hKq Kq
                (try simp only [Act.put, List.setIfInBounds_toArray, List.set_cons_zero, List.set_cons_succ])
                clear hHeld1
                refine wpAnyH_ready (rs := [6]) (by kernel_rfl) (by simp) ?_
                refine consH rfl (fun Kq hKq => ?_)
                go_simp
                have LT3 := (own_lit1 w1 w.heap.size (Y : Int) L2.size).ints
                have o1' := o1.below (below_new w1 (.cells #[.int .i64 (Y : Int)] 3))
                have L3 := L2.trans (Below.mono (below_new w1 (.cells #[.int .i64 (Y : Int)] 3)) L2.size)
                refine hKq.out _ _ ?_ (fun hHeld3 => ?_)
                · trivial
                clear hKq Kq
                (try simp only [Act.put, List.setIfInBounds_toArray, List.set_cons_zero, List.set_cons_succ])
                clear hHeld2
                refine wpAnyH_ready (rs := [7]) (by kernel_rfl) (by simp) ?_
                refine consH rfl (fun Kq hKq => ?_)
                refine step_appI rfl _ _ rfl w.heap.size _ _ (by rfl) o1' _ _ _ [(Y : Int)] (by rfl) ?_ ?_ ?_ ?_ ?_
                · intro h; first | rfl | exact Hcap.out h | cases h
                · exact LT3
                · simp <;> omega
                · have := L3.size; omega
                intro v2 w2 o2 b2 m2
                have L4 := L3.trans b2
                refine hKq.out _ _ ?_ (fun hHeld4 => ?_)
                · trivial
                clear hKq Kq
                (try simp only [Act.put, List.setIfInBounds_toArray, List.set_cons_zero, List.set_cons_succ])
                clear hHeld3
                refine wpAnyH_ready (rs := [11]) (by kernel_rfl) (by simp) ?_
                refine consH rfl (fun Kq hKq => ?_)
                refine step_appI rfl _ _ rfl w.heap.size _ _ (by rfl) o2 _ _ _ [] (by rfl) ?_ ?_ ?_ ?_ ?_
                · intro h; first | rfl | exact Hcap.out h | cases h
                · exact ints_nil _ _
                · simp <;> omega
                · have := L4.size; omega
                intro v3 w3 o3 b3 m3
                refine hKq.out _ _ ?_ (fun hHeld5 => ?_)
                · trivial
                clear hKq Kq
                (try simp only [Act.put, List.setIfInBounds_toArray, List.set_cons_zero, List.set_cons_succ])
                clear hHeld4
                refine takeH (i := 12) (oi := _) (v := ?_) rfl (by kernel_rfl) (by kernel_rfl) (by kernel_rfl) (fun _ _ _ h => h) (Or.inl ⟨by rfl, ?_⟩) (by assumption) ?_
                rotate_left
                · first | (intro w hSw; (try dsimp only at hSw); go_simp; done) | (intro w hSw; (try dsimp only at hSw); go_simp; with_reducible rfl)
                (try simp only [Act.put, List.setIfInBounds_toArray, List.set_cons_zero, List.set_cons_succ])
                refine wpAnyH_done (by kernel_rfl) ?_ _
                refine NoPanic.normal ?_
                go_wp2_with fail
                go_ret
                exact ⟨_, rfl, by
                  have := o3.mono hb
                  rw [HR.out, Hp.out, if_neg Bool.false_ne_true]
                  simpa using this, L4.trans b3⟩
              · go_simp
                have N2 : Own ((w.alloc (.cells #[] 3)).alloc (.cells #[.int .i64 (Y : Int)] 3)).drew w.heap.size (.slice (some ⟨w.heap.size, 0, none⟩) 0 0) [] := ((own_nil0 w).below (below_new _ _)).below (Below.refl _ _).drew
                have LT2 : Ints ((w.alloc (.cells #[] 3)).alloc (.cells #[.int .i64 (Y : Int)] 3)).drew (some ⟨w.heap.size + 1, 0, none⟩) 1 [(Y : Int)] := by
                  have := (own_lit1 (w.alloc (.cells #[] 3)) w.heap.size (Y : Int) (by simp)).ints.below (Below.refl _ _).drew
                  simpa using this
                have L2 : Below w.heap.size w ((w.alloc (.cells #[] 3)).alloc (.cells #[.int .i64 (Y : Int)] 3)).drew := ((below_new w _).alloc (by simp) _).drew
                refine hKq.out _ _ ?_ (fun hHeld2 => ?_)
                · trivial
                clear hKq Kq
                (try simp only [Act.put, List.setIfInBounds_toArray, List.set_cons_zero, List.set_cons_succ])
                clear hHeld1
                refine wpAnyH_ready (rs := [4]) (by kernel_rfl) (by simp) ?_
                refine consH rfl (fun Kq hKq => ?_)
                refine step_appI rfl _ _ rfl w.heap.size _ [] (by rfl) N2 _ _ _ A (by rfl) ?_ ?_ ?_ ?_ ?_
                · intro h; first | rfl | exact Hcap.out h | cases h
                · exact HA0.out.below L2
                · simp <;> omega
                · have := L2.size; omega
                intro v1 w1 o1 b1 m1
                have L3 := L2.trans b1
                have LT3 := LT2.moved m1 (fun _ p hp e => by cases hp; simp [Value.ownBlock] at e)
                refine hKq.out _ _ ?_ (fun hHeld3 => ?_)
                · trivial
                clear hKq Kq
                (try simp only [Act.put, List.setIfInBounds_toArray, List.set_cons_zero, List.set_cons_succ])
                clear hHeld2
                refine wpAnyH_ready (rs := [7]) (by kernel_rfl) (by simp) ?_
                refine consH rfl (fun Kq hKq => ?_)
                refine step_appI rfl _ _ rfl w.heap.size _ _ (by rfl) o1 _ _ _ [(Y : Int)] (by rfl) ?_ ?_ ?_ ?_ ?_
                · intro h; first | rfl | exact Hcap.out h | cases h
                · exact LT3.1
                · simp <;> omega
                · have := L3.size; omega
                intro v2 w2 o2 b2 m2
                have L4 := L3.trans b2
                refine hKq.out _ _ ?_ (fun hHeld4 => ?_)
                · trivial
                clear hKq Kq
                (try simp only [Act.put, List.setIfInBounds_toArray, List.set_cons_zero, List.set_cons_succ])
                clear hHeld3
                refine wpAnyH_ready (rs := [11]) (by kernel_rfl) (by simp) ?_
                refine consH rfl (fun Kq hKq => ?_)
                refine step_appI rfl _ _ rfl w.heap.size _ _ (by rfl) o2 _ _ _ [] (by rfl) ?_ ?_ ?_ ?_ ?_
                · intro h; first | rfl | exact Hcap.out h | cases h
                · exact ints_nil _ _
                · simp <;> omega
                · have := L4.size; omega
                intro v3 w3 o3 b3 m3
                refine hKq.out _ _ ?_ (fun hHeld5 => ?_)
                · trivial
                clear hKq Kq
                (try simp only [Act.put, List.setIfInBounds_toArray, List.set_cons_zero, List.set_cons_succ])
                clear hHeld4
                refine takeH (i := 12) (oi := _) (v := ?_) rfl (by kernel_rfl) (by kernel_rfl) (by kernel_rfl) (fun _ _ _ h => h) (Or.inl ⟨by rfl, ?_⟩) (by assumption) ?_
                rotate_left
                · first | (intro w hSw; (try dsimp only at hSw); go_simp; done) | (intro w hSw; (try dsimp only at hSw); go_simp; with_reducible rfl)
                (try simp only [Act.put, List.setIfInBounds_toArray, List.set_cons_zero, List.set_cons_succ])
                refine wpAnyH_done (by kernel_rfl) ?_ _
                refine NoPanic.normal ?_
                go_wp2_with fail
                go_ret
                exact ⟨_, rfl, by
                  have := o3.mono hb
                  rw [HR.out, Hp.out, if_neg Bool.false_ne_true]
                  simpa using this, L4.trans b3⟩
            · go_simp
              have L1 : Below w.heap.size w (w.alloc (.cells #[.int .i64 (Y : Int)] 3)).drew := (below_new w _).drew
              refine hKq.out _ _ ?_ (fun hHeld1 => ?_)
              · trivial
              clear hKq Kq
              (try simp only [Act.put, List.setIfInBounds_toArray, List.set_cons_zero, List.set_cons_succ])
              clear hHeld0
              refine wpAnyH_ready (rs := [0]) (by kernel_rfl) (by simp) ?_
              refine consH rfl (fun Kq hKq => ?_)
              go_simp
              have N2 : Own ((w.alloc (.cells #[.int .i64 (Y : Int)] 3)).alloc (.cells #[] 3)).drew w.heap.size (.slice (some ⟨w.heap.size + 1, 0, none⟩) 0 0) [] := by
                have := ((own_nil0 (w.alloc (.cells #[.int .i64 (Y : Int)] 3))).mono (base' := w.heap.size) (by simp)).below (Below.refl _ _).drew
                simpa using this
              have LT2 : Ints ((w.alloc (.cells #[.int .i64 (Y : Int)] 3)).alloc (.cells #[] 3)).drew (some ⟨w.heap.size, 0, none⟩) 1 [(Y : Int)] := ((own_lit1 w w.heap.size (Y : Int) (Nat.le_refl _)).ints.below (below_new _ _)).below (Below.refl _ _).drew
              have L2 : Below w.heap.size w ((w.alloc (.cells #[.int .i64 (Y : Int)] 3)).alloc (.cells #[] 3)).drew := ((below_new w _).alloc (by simp) _).drew
              refine hKq.out _ _ ?_ (fun hHeld2 => ?_)
              · trivial
              clear hKq Kq
              (try simp only [Act.put, List.setIfInBounds_toArray, List.set_cons_zero, List.set_cons_succ])
              clear hHeld1
              refine wpAnyH_ready (rs := [4]) (by kernel_rfl) (by simp) ?_
              refine consH rfl (fun Kq hKq => ?_)
              refine step_appI rfl _ _ rfl w.heap.size _ [] (by rfl) N2 _ _ _ A (by rfl) ?_ ?_ ?_ ?_ ?_
              · intro h; first | rfl | exact Hcap.out h | cases h
              · exact HA0.out.below L2
              · simp <;> omega
              · have := L2.size; omega
              intro v1 w1 o1 b1 m1
              have L3 := L2.trans b1
              have LT3 := LT2.moved m1 (fun _ p hp e => by cases hp; simp [Value.ownBlock] at e)
              refine hKq.out _ _ ?_ (fun hHeld3 => ?_)
              · trivial
              clear hKq Kq
              (try simp only [Act.put, List.setIfInBounds_toArray, List.set_cons_zero, List.set_cons_succ])
              clear hHeld2
              refine wpAnyH_ready (rs := [7]) (by kernel_rfl) (by simp) ?_
              refine consH rfl (fun Kq hKq => ?_)
              refine step_appI rfl _ _ rfl w.heap.size _ _ (by rfl) o1 _ _ _ [(Y : Int)] (by rfl) ?_ ?_ ?_ ?_ ?_
              · intro h; first | rfl | exact Hcap.out h | cases h
              · exact LT3.1
              · simp <;> omega
              · have := L3.size; omega
              intro v2 w2 o2 b2 m2
              have L4 := L3.trans b2
              refine hKq.out _ _ ?_ (fun hHeld4 => ?_)
              · trivial
              clear hKq Kq
              (try simp only [Act.put, List.setIfInBounds_toArray, List.set_cons_zero, List.set_cons_succ])
              clear hHeld3
              refine wpAnyH_ready (rs := [11]) (by kernel_rfl) (by simp) ?_
              refine consH rfl (fun Kq hKq => ?_)
              refine step_appI rfl _ _ rfl w.heap.size _ _ (by rfl) o2 _ _ _ [] (by rfl) ?_ ?_ ?_ ?_ ?_
              · intro h; first | rfl | exact Hcap.out h | cases h
              · exact ints_nil _ _
              · simp <;> omega
              · have := L4.size; omega
              intro v3 w3 o3 b3 m3
              refine hKq.out _ _ ?_ (fun hHeld5 => ?_)
              · trivial
              clear hKq Kq
              (try simp only [Act.put, List.setIfInBounds_toArray, List.set_cons_zero, List.set_cons_succ])
              clear hHeld4
              refine takeH (i := 12) (oi := _) (v := ?_) rfl (by kernel_rfl) (by kernel_rfl) (by kernel_rfl) (fun _ _ _ h => h) (Or.inl ⟨by rfl, ?_⟩) (by assumption) ?_
              rotate_left
              · first | (intro w hSw; (try dsimp only at hSw); go_simp; done) | (intro w hSw; (try dsimp only at hSw); go_simp; with_reducible rfl)
              (try simp only [Act.put, List.setIfInBounds_toArray, List.set_cons_zero, List.set_cons_succ])
              refine wpAnyH_done (by kernel_rfl) ?_ _
              refine NoPanic.normal ?_
              go_wp2_with fail
              go_ret
              exact ⟨_, rfl, by
                have := o3.mono hb
                rw [HR.out, Hp.out, if_neg Bool.false_ne_true]
                simpa using this, L4.trans b3⟩
      | cons u B' =>
        subst hB
        obtain ⟨b, off, rfl, hcl⟩ := HI.out.at (i := A.length) (Below.refl _ _) (by have hlen := Hlen.out; simp at hlen; omega)
        have hat : nth (A ++ u :: B') A.length = u := by unfold nth; simp [List.getD]
        rw [hat] at hcl
        have hin : (A.length : Int) < n := by have hlen := Hlen.out; simp at hlen; omega
        cases hp : p Y
        · have hgt := H4.out hp u (by simp)
          have Hp := Lib.hid hp
          have hne : (u == (Y : Int)) = false := by rw [beq_eq_false_iff_ne]; omega
          have hnlt : ¬ u < (Y : Int) := by omega
          clear hp hat
          have x1 : (A.length : Int) ≤ (cap : Int) := by omega
          have x2 : (0 : Int) ≤ (A.length : Int) := by omega
          have x3 : ¬ cap = A.length := by omega
          have x4 : (A.length : Int) ≤ (n : Int) := by omega
          have x5 : (n : Int) ≤ (cap : Int) := by omega
          have HB0 : Hid (Ints w (some ⟨b, off + A.length, none⟩) (n - A.length) (u :: B')) := Lib.hid (by have := HI.out.drop A.length; rwa [List.drop_left' rfl] at this)
          have hBl : n - A.length ≤ 1048576 := by omega
          go_wp2_with fail
          refine wp_region_noPanic ?_
          refine wp_region_held_drew (S := (fun _ => True)) (by kernel_rfl) ?_ (fun hHeld0 => ?_)
          · trivial
          refine takeH (i := 1) (oi := _) (v := ?_) rfl (by kernel_rfl) (by kernel_rfl) (by kernel_rfl) (fun _ _ _ h => h) (Or.inl ⟨by rfl, ?_⟩) (by assumption) ?_
          rotate_left
          · first | (intro w hSw; (try dsimp only at hSw); go_simp; done) | (intro w hSw; (try dsimp only at hSw); go_simp; with_reducible rfl)
          (try simp only [Act.put, List.setIfInBounds_toArray, List.set_cons_zero, List.set_cons_succ])
          refine takeH (i := 2) (oi := _) (v := ?_) rfl (by kernel_rfl) (by kernel_rfl) (by kernel_rfl) (fun _ _ _ h => h) (Or.inl ⟨by rfl, ?_⟩) (by assumption) ?_
          rotate_left
          · first | (intro w hSw; (try dsimp only at hSw); go_simp; done) | (intro w hSw; (try dsimp only at hSw); go_simp; with_reducible rfl)
          (try simp only [Act.put, List.setIfInBounds_toArray, List.set_cons_zero, List.set_cons_succ])
          refine takeH (i := 3) (oi := _) (v := ?_) rfl (by kernel_rfl) (by kernel_rfl) (by kernel_rfl) (fun _ _ _ h => h) (Or.inl ⟨by rfl, ?_⟩) (by assumption) ?_
          rotate_left
          · first | (intro w hSw; (try dsimp only at hSw); go_simp; done) | (intro w hSw; (try dsimp only at hSw); go_simp; with_reducible rfl)
          (try simp only [Act.put, List.setIfInBounds_toArray, List.set_cons_zero, List.set_cons_succ])
          refine takeH (i := 5) (oi := _) (v := ?_) rfl (by kernel_rfl) (by kernel_rfl) (by kernel_rfl) (fun _ _ _ h => h) (Or.inl ⟨by rfl, ?_⟩) (by assumption) ?_
          rotate_left
          · first | (intro w hSw; (try dsimp only at hSw); go_simp; done) | (intro w hSw; (try dsimp only at hSw); go_simp; with_reducible rfl)
          (try simp only [Act.put, List.setIfInBounds_toArray, List.set_cons_zero, List.set_cons_succ])
          refine takeH (i := 8) (oi := _) (v := ?_) rfl (by kernel_rfl) (by kernel_rfl) (by kernel_rfl) (fun _ _ _ h => h) (Or.inl ⟨by rfl, ?_⟩) (by assumption) ?_
          rotate_left
          · first | (intro w hSw; (try dsimp only at hSw); go_simp; done) | (intro w hSw; (try dsimp only at hSw); go_simp; with_reducible rfl)
          (try simp only [Act.put, List.setIfInBounds_toArray, List.set_cons_zero, List.set_cons_succ])
          refine takeH (i := 9) (oi := _) (v := ?_) rfl (by kernel_rfl) (by kernel_rfl) (by kernel_rfl) (fun _ _ _ h => h) (Or.inl ⟨by rfl, ?_⟩) (by assumption) ?_
          rotate_left
          · first | (intro w hSw; (try dsimp only at hSw); go_simp; done) | (intro w hSw; (try dsimp only at hSw); go_simp; with_reducible rfl)
          (try simp only [Act.put, List.setIfInBounds_toArray, List.set_cons_zero, List.set_cons_succ])
          refine takeH (i := 10) (oi := _) (v := ?_) rfl (by kernel_rfl) (by kernel_rfl) (by kernel_rfl) (fun _ _ _ h => h) (Or.inl ⟨by rfl, ?_⟩) (by assumption) ?_
          rotate_left
          · first | (intro w hSw; (try dsimp only at hSw); go_simp; done) | (intro w hSw; (try dsimp only at hSw); go_simp; with_reducible rfl)
          (try simp only [Act.put, List.setIfInBounds_toArray, List.set_cons_zero, List.set_cons_succ])
          refine wpAnyH_ready (rs := [0, 6]) (by kernel_rfl) (by simp) ?_
          refine consM rfl (fun Kq hKq => ?_) (consH rfl (fun Kq hKq => ?_))
          · go_simp
            have L1 : Below w.heap.size w (w.alloc (.cells #[] 3)).drew := (below_new w _).drew
            have N1 : Own (w.alloc (.cells #[] 3)).drew w.heap.size (.slice (some ⟨w.heap.size, 0, none⟩) 0 0) [] := (own_nil0 w).below (Below.refl _ _).drew
            refine hKq.out _ _ ?_ (fun hHeld1 => ?_)
            · trivial
            clear hKq Kq
            (try simp only [Act.put, List.setIfInBounds_toArray, List.set_cons_zero, List.set_cons_succ])
            clear hHeld0
            refine wpAnyH_ready (rs := [4, 6]) (by kernel_rfl) (by simp) ?_
            refine consM rfl (fun Kq hKq => ?_) (consH rfl (fun Kq hKq => ?_))
            · refine step_appI rfl _ _ rfl w.heap.size _ [] (by rfl) N1 _ _ _ A (by rfl) ?_ ?_ ?_ ?_ ?_
              · intro h; first | rfl | exact Hcap.out h | cases h
              · exact HA0.out.below L1
              · simp <;> omega
              · have := L1.size; omega
              intro v1 w1 o1 b1 m1
              have L2 := L1.trans b1
              refine hKq.out _ _ ?_ (fun hHeld2 => ?_)
              · trivial
              clear hKq Kq
              (try simp only [Act.put, List.setIfInBounds_toArray, List.set_cons_zero, List.set_cons_succ])
              clear hHeld1
              refine wpAnyH_ready (rs := [6]) (by kernel_rfl) (by simp) ?_
              refine consH rfl (fun Kq hKq => ?_)
              go_simp
              have LT3 := (own_lit1 w1 w.heap.size (Y : Int) L2.size).ints
              have o1' := o1.below (below_new w1 (.cells #[.int .i64 (Y : Int)] 3))
              have L3 := L2.trans (Below.mono (below_new w1 (.cells #[.int .i64 (Y : Int)] 3)) L2.size)
              refine hKq.out _ _ ?_ (fun hHeld3 => ?_)
              · trivial
              clear hKq Kq
              (try simp only [Act.put, List.setIfInBounds_toArray, List.set_cons_zero, List.set_cons_succ])
              clear hHeld2
              refine wpAnyH_ready (rs := [7]) (by kernel_rfl) (by simp) ?_
              refine consH rfl (fun Kq hKq => ?_)
              refine step_appI rfl _ _ rfl w.heap.size _ _ (by rfl) o1' _ _ _ [(Y : Int)] (by rfl) ?_ ?_ ?_ ?_ ?_
              · intro h; first | rfl | exact Hcap.out h | cases h
              · exact LT3
              · simp <;> omega
              · have := L3.size; omega
              intro v2 w2 o2 b2 m2
              have L4 := L3.trans b2
              refine hKq.out _ _ ?_ (fun hHeld4 => ?_)
              · trivial
              clear hKq Kq
              (try simp only [Act.put, List.setIfInBounds_toArray, List.set_cons_zero, List.set_cons_succ])
              clear hHeld3
              refine wpAnyH_ready (rs := [11]) (by kernel_rfl) (by simp) ?_
              refine consH rfl (fun Kq hKq => ?_)
              refine step_appI rfl _ _ rfl w.heap.size _ _ (by rfl) o2 _ _ _ (u :: B') (by rfl) ?_ ?_ ?_ ?_ ?_
              · intro h; first | rfl | exact Hcap.out h | cases h
              · exact HB0.out.below L4
              · simp <;> omega
              · have := L4.size; omega
              intro v3 w3 o3 b3 m3
              refine hKq.out _ _ ?_ (fun hHeld5 => ?_)
              · trivial
              clear hKq Kq
              (try simp only [Act.put, List.setIfInBounds_toArray, List.set_cons_zero, List.set_cons_succ])
              clear hHeld4
              refine takeH (i := 12) (oi := _) (v := ?_) rfl (by kernel_rfl) (by kernel_rfl) (by kernel_rfl) (fun _ _ _ h => h) (Or.inl ⟨by rfl, ?_⟩) (by assumption) ?_
              rotate_left
              · first | (intro w hSw; (try dsimp only at hSw); go_simp; done) | (intro w hSw; (try dsimp only at hSw); go_simp; with_reducible rfl)
              (try simp only [Act.put, List.setIfInBounds_toArray, List.set_cons_zero, List.set_cons_succ])
              refine wpAnyH_done (by kernel_rfl) ?_ _
              refine NoPanic.normal ?_
              go_wp2_with fail
              go_ret
              exact ⟨_, rfl, by
                have := o3.mono hb
                rw [HR.out, Hp.out, if_neg Bool.false_ne_true]
                simpa using this, L4.trans b3⟩
            · go_simp
              have N2 : Own ((w.alloc (.cells #[] 3)).alloc (.cells #[.int .i64 (Y : Int)] 3)).drew w.heap.size (.slice (some ⟨w.heap.size, 0, none⟩) 0 0) [] := ((own_nil0 w).below (below_new _ _)).below (Below.refl _ _).drew
              have LT2 : Ints ((w.alloc (.cells #[] 3)).alloc (.cells #[.int .i64 (Y : Int)] 3)).drew (some ⟨w.heap.size + 1, 0, none⟩) 1 [(Y : Int)] := by
                have := (own_lit1 (w.alloc (.cells #[] 3)) w.heap.size (Y : Int) (by simp)).ints.below (Below.refl _ _).drew
                simpa using this
              have L2 : Below w.heap.size w ((w.alloc (.cells #[] 3)).alloc (.cells #[.int .i64 (Y : Int)] 3)).drew := ((below_new w _).alloc (by simp) _).drew
              refine hKq.out _ _ ?_ (fun hHeld2 => ?_)
              · trivial
              clear hKq Kq
              (try simp only [Act.put, List.setIfInBounds_toArray, List.set_cons_zero, List.set_cons_succ])
              clear hHeld1
              refine wpAnyH_ready (rs := [4]) (by kernel_rfl) (by simp) ?_
              refine consH rfl (fun Kq hKq => ?_)
              refine step_appI rfl _ _ rfl w.heap.size _ [] (by rfl) N2 _ _ _ A (by rfl) ?_ ?_ ?_ ?_ ?_
              · intro h; first | rfl | exact Hcap.out h | cases h
              · exact HA0.out.below L2
              · simp <;> omega
              · have := L2.size; omega
              intro v1 w1 o1 b1 m1
              have L3 := L2.trans b1
              have LT3 := LT2.moved m1 (fun _ p hp e => by cases hp; simp [Value.ownBlock] at e)
              refine hKq.out _ _ ?_ (fun hHeld3 => ?_)
              · trivial
              clear hKq Kq
              (try simp only [Act.put, List.setIfInBounds_toArray, List.set_cons_zero, List.set_cons_succ])
              clear hHeld2
              refine wpAnyH_ready (rs := [7]) (by kernel_rfl) (by simp) ?_
              refine consH rfl (fun Kq hKq => ?_)
              refine step_appI rfl _ _ rfl w.heap.size _ _ (by rfl) o1 _ _ _ [(Y : Int)] (by rfl) ?_ ?_ ?_ ?_ ?_
              · intro h; first | rfl | exact Hcap.out h | cases h
              · exact LT3.1
              · simp <;> omega
              · have := L3.size; omega
              intro v2 w2 o2 b2 m2
              have L4 := L3.trans b2
              refine hKq.out _ _ ?_ (fun hHeld4 => ?_)
              · trivial
              clear hKq Kq
              (try simp only [Act.put, List.setIfInBounds_toArray, List.set_cons_zero, List.set_cons_succ])
              clear hHeld3
              refine wpAnyH_ready (rs := [11]) (by kernel_rfl) (by simp) ?_
              refine consH rfl (fun Kq hKq => ?_)
              refine step_appI rfl _ _ rfl w.heap.size _ _ (by rfl) o2 _ _ _ (u :: B') (by rfl) ?_ ?_ ?_ ?_ ?_
              · intro h; first | rfl | exact Hcap.out h | cases h
              · exact HB0.out.below L4
              · simp <;> omega
              · have := L4.size; omega
              intro v3 w3 o3 b3 m3
              refine hKq.out _ _ ?_ (fun hHeld5 => ?_)
              · trivial
              clear hKq Kq
              (try simp only [Act.put, List.setIfInBounds_toArray, List.set_cons_zero, List.set_cons_succ])
              clear hHeld4
              refine takeH (i := 12) (oi := _) (v := ?_) rfl (by kernel_rfl) (by kernel_rfl) (by kernel_rfl) (fun _ _ _ h => h) (Or.inl ⟨by rfl, ?_⟩) (by assumption) ?_
              rotate_left
              · first | (intro w hSw; (try dsimp only at hSw); go_simp; done) | (intro w hSw; (try dsimp only at hSw); go_simp; with_reducible rfl)
              (try simp only [Act.put, List.setIfInBounds_toArray, List.set_cons_zero, List.set_cons_succ])
              refine wpAnyH_done (by kernel_rfl) ?_ _
              refine NoPanic.normal ?_
              go_wp2_with fail
              go_ret
              exact ⟨_, rfl, by
                have := o3.mono hb
                rw [HR.out, Hp.out, if_neg Bool.false_ne_true]
                simpa using this, L4.trans b3⟩
          · go_simp
            have L1 : Below w.heap.size w (w.alloc (.cells #[.int .i64 (Y : Int)] 3)).drew := (below_new w _).drew
            refine hKq.out _ _ ?_ (fun hHeld1 => ?_)
            · trivial
            clear hKq Kq
            (try simp only [Act.put, List.setIfInBounds_toArray, List.set_cons_zero, List.set_cons_succ])
            clear hHeld0
            refine wpAnyH_ready (rs := [0]) (by kernel_rfl) (by simp) ?_
            refine consH rfl (fun Kq hKq => ?_)
            go_simp
            have N2 : Own ((w.alloc (.cells #[.int .i64 (Y : Int)] 3)).alloc (.cells #[] 3)).drew w.heap.size (.slice (some ⟨w.heap.size + 1, 0, none⟩) 0 0) [] := by
              have := ((own_nil0 (w.alloc (.cells #[.int .i64 (Y : Int)] 3))).mono (base' := w.heap.size) (by simp)).below (Below.refl _ _).drew
              simpa using this
            have LT2 : Ints ((w.alloc (.cells #[.int .i64 (Y : Int)] 3)).alloc (.cells #[] 3)).drew (some ⟨w.heap.size, 0, none⟩) 1 [(Y : Int)] := ((own_lit1 w w.heap.size (Y : Int) (Nat.le_refl _)).ints.below (below_new _ _)).below (Below.refl _ _).drew
            have L2 : Below w.heap.size w ((w.alloc (.cells #[.int .i64 (Y : Int)] 3)).alloc (.cells #[] 3)).drew := ((below_new w _).alloc (by simp) _).drew
            refine hKq.out _ _ ?_ (fun hHeld2 => ?_)
            · trivial
            clear hKq Kq
            (try simp only [Act.put, List.setIfInBounds_toArray, List.set_cons_zero, List.set_cons_succ])
            clear hHeld1
            refine wpAnyH_ready (rs := [4]) (by kernel_rfl) (by simp) ?_
            refine consH rfl (fun Kq hKq => ?_)
            refine step_appI rfl _ _ rfl w.heap.size _ [] (by rfl) N2 _ _ _ A (by rfl) ?_ ?_ ?_ ?_ ?_
            · intro h; first | rfl | exact Hcap.out h | cases h
            · exact HA0.out.below L2
            · simp <;> omega
            · have := L2.size; omega
            intro v1 w1 o1 b1 m1
            have L3 := L2.trans b1
            have LT3 := LT2.moved m1 (fun _ p hp e => by cases hp; simp [Value.ownBlock] at e)
            refine hKq.out _ _ ?_ (fun hHeld3 => ?_)
            · trivial
            clear hKq Kq
            (try simp only [Act.put, List.setIfInBounds_toArray, List.set_cons_zero, List.set_cons_succ])
            clear hHeld2
            refine wpAnyH_ready (rs := [7]) (by kernel_rfl) (by simp) ?_
            refine consH rfl (fun Kq hKq => ?_)
            refine step_appI rfl _ _ rfl w.heap.size _ _ (by rfl) o1 _ _ _ [(Y : Int)] (by rfl) ?_ ?_ ?_ ?_ ?_
            · intro h; first | rfl | exact Hcap.out h | cases h
            · exact LT3.1
            · simp <;> omega
            · have := L3.size; omega
            intro v2 w2 o2 b2 m2
            have L4 := L3.trans b2
            refine hKq.out _ _ ?_ (fun hHeld4 => ?_)
            · trivial
            clear hKq Kq
            (try simp only [Act.put, List.setIfInBounds_toArray, List.set_cons_zero, List.set_cons_succ])
            clear hHeld3
            refine wpAnyH_ready (rs := [11]) (by kernel_rfl) (by simp) ?_
            refine consH rfl (fun Kq hKq => ?_)
            refine step_appI rfl _ _ rfl w.heap.size _ _ (by rfl) o2 _ _ _ (u :: B') (by rfl) ?_ ?_ ?_ ?_ ?_
            · intro h; first | rfl | exact Hcap.out h | cases h
            · exact HB0.out.below L4
            · simp <;> omega
            · have := L4.size; omega
            intro v3 w3 o3 b3 m3
            refine hKq.out _ _ ?_ (fun hHeld5 => ?_)
            · trivial
            clear hKq Kq
            (try simp only [Act.put, List.setIfInBounds_toArray, List.set_cons_zero, List.set_cons_succ])
            clear hHeld4
            refine takeH (i := 12) (oi := _) (v := ?_) rfl (by kernel_rfl) (by kernel_rfl) (by kernel_rfl) (fun _ _ _ h => h) (Or.inl ⟨by rfl, ?_⟩) (by assumption) ?_
            rotate_left
            · first | (intro w hSw; (try dsimp only at hSw); go_simp; done) | (intro w hSw; (try dsimp only at hSw); go_simp; with_reducible rfl)
            (try simp only [Act.put, List.setIfInBounds_toArray, List.set_cons_zero, List.set_cons_succ])
            refine wpAnyH_done (by kernel_rfl) ?_ _
            refine NoPanic.normal ?_
            go_wp2_with fail
            go_ret
            exact ⟨_, rfl, by
              have := o3.mono hb
              rw [HR.out, Hp.out, if_neg Bool.false_ne_true]
              simpa using this, L4.trans b3⟩
        · obtain ⟨b', hb', _⟩ := H3.out hp
          cases hb'
          have Hp := Lib.hid hp
          have hnlt : ¬ (Y : Int) < (Y : Int) := by omega
          have heq : ((Y : Int) == (Y : Int)) = true := by simp
          clear hp hat
          go_wp2_with fail
          go_ret
          exact ⟨_, rfl, by rw [HR.out, Hp.out, if_pos rfl]; exact H.out, Below.refl _ _⟩
end Go.Proofs.YtnbomleieianoaaGreat

/- Contracts of the reference: the first node on a way, the rule of a list of stops. -/
namespace Go.Proofs.YtnbomleieianoaaGreat
open Go.RowKit

set_option maxRecDepth 100000 in
set_option maxHeartbeats 1000000 in
theorem spec_l4Stop (aP : Option Addr) (nP cP : Nat) (aW : Option Addr) (nW cW : Nat) (ps ws : List Int) (aR : Option Addr) (nR cR : Nat) (rule : List Int) (X : Nat) (w : World) (h : Tre w aP nP cP aW nW cW ps ws) (hp : Pa ps) (hR : Ints w aR nR rule) (hn : nR ≤ 1048576) (hx : X < nP) :
    Calls Tryz.prog 118 #[.agg #[.slice aP nP cP, .slice aW nW cW], .slice aR nR cR, .int .i64 (X : Int)] w fun e w' => e = .returned (.int .i64 (stop ps (hasB rule) X)) ∧ Below w.heap.size w w' := by
  have Hp := Lib.hid hp
  have hn24 := hp.n24
  have hl := h.p.1
  have hlw := h.w.1
  have hpn := h.pn
  have hwn := h.wn
  have hb1 := below_new w (.cells #[.slice aP nP cP, .slice aW nW cW] 26)
  have hP1 := Lib.hid (Pair.new w (.slice aP nP cP) (.slice aW nW cW) 26)
  have H := Lib.hid h
  have Hl := Lib.hid hl
  have Hlw := Lib.hid hlw
  clear h hl hlw
  have hnP : nP ≤ 24 := by have := Hl.out; omega
  have HR := Lib.hid hR
  clear hp hn24 hR
  have c0 := hP1.out.c0
  have c1 := hP1.out.c1
  go_enter Tryz.func118, Tryz.ntmps118
  go_wp2_with fail
  generalize (w.alloc (.cells #[.slice aP nP cP, .slice aW nW cW] 26)) = w2 at *
  refine (spec_l2Way _ _ _ _ _ _ ps ws X _ (H.out.below hb1) Hp.out hx).mono ?_
  rintro e w3 ⟨v, rfl, ho, hb3⟩
  obtain ⟨a3, c3, rfl⟩ := ho.shape
  have hb13 := hb1.trans (hb3.mono hb1.size)
  have HW := Lib.hid ho.ints
  have hwl := way_length Hp.out X (by have := Hl.out; omega)
  have Hst : Hid (stop ps (hasB rule) X = stopL (hasB rule) (way ps X)) := Lib.hid rfl
  clear ho hb3 hb1 c0 c1 hP1
  generalize way ps X = wy at *
  go_wp2_with fail
  go_loop [8] (fun v9 => ∃ i : Nat, i ≤ wy.length ∧ v9 = .int .i64 (i : Int) ∧ ∀ j, j < i → hasB rule (nth wy j) = false) (fun v9 => wy.length - (intOf v9).toNat)
  case atStart => exact ⟨0, Nat.zero_le _, rfl, fun j hj => by omega⟩
  case round =>
    obtain ⟨i, hi, rfl, hall⟩ := hrel
    have Hall := Lib.hid hall
    clear hall
    by_cases hlt : (i : Int) < wy.length
    · obtain ⟨b, off, rfl, hc⟩ := HW.out.at (i := i) (Below.refl _ _) (by omega)
      cases hh : hasB rule (nth wy i)
      · have Hh := Lib.hid hh
        generalize hu : nth wy i = u at hc hh
        have Hh2 := Lib.hid hh
        clear hh hu
        go_wp2_with (go_at_call 149; refine (spec_l1Has _ _ _ rule _ _ hn (HR.out.below hb13)).mono ?_; rintro e w' ⟨rfl, rfl⟩; rw [Hh2.out])
        go_round
        case rel => exact ⟨i + 1, by omega, by go_num, fun j hj => by
          by_cases e : j = i
          · subst e; exact Hh.out
          · exact Hall.out j (by omega)⟩
        case measure => simp [intOf]; omega
      · have Hv : Hid (stop ps (hasB rule) X = nth wy i) := Lib.hid (by rw [Hst.out]; exact stopL_at (by omega) Hall.out hh)
        generalize nth wy i = u at *
        have Hh2 := Lib.hid hh
        clear hh
        go_wp2_with (go_at_call 149; refine (spec_l1Has _ _ _ rule _ _ hn (HR.out.below hb13)).mono ?_; rintro e w' ⟨rfl, rfl⟩; rw [Hh2.out])
        go_ret
        exact ⟨ri Hv.out.symm, hb13⟩
    · obtain rfl : i = wy.length := by omega
      have Hv : Hid (stop ps (hasB rule) X = -1) := Lib.hid (by
        rw [Hst.out]
        refine stopL_none fun y hy => ?_
        obtain ⟨j, hj, rfl⟩ := List.mem_iff_getElem.1 hy
        have := Hall.out j hj
        rwa [nth_lt hj] at this)
      go_wp2_with fail
      go_ret
      exact ⟨ri Hv.out.symm, hb13⟩
/-- What a list of bools says of a node. -/
def bS (bs : List Bool) (y : Int) : Bool := decide (0 ≤ y) && Bo.nth bs y.toNat
theorem has_filt {bs : List Bool} {k : Nat} {y : Int} (h : y < k) : hasB (filt (Bo.nth bs) k) y = bS bs y := by
  unfold hasB bS
  rw [Bool.eq_iff_iff, List.any_eq_true]
  constructor
  · rintro ⟨z, hz, he⟩
    obtain ⟨i, hi, hb, rfl⟩ := mem_filt.1 hz
    obtain rfl : (i : Int) = y := by simpa using he
    simp [hb]
  · intro hb
    simp only [Bool.and_eq_true, decide_eq_true_eq] at hb
    exact ⟨y, mem_filt.2 ⟨y.toNat, by omega, hb.2, by omega⟩, by simp⟩
theorem stopL_congr {S S' : Int → Bool} : ∀ {xs : List Int}, (∀ y, y ∈ xs → S y = S' y) → stopL S xs = stopL S' xs
  | [], _ => rfl
  | x :: xs, h => by rw [stopL, stopL, h x (by simp), stopL_congr fun y hy => h y (by simp [hy])]
theorem stop_congr {ps : List Int} (h : Pa ps) {S S' : Int → Bool} (hS : ∀ y : Nat, y < ps.length → S y = S' y) {x : Nat} (hx : x < ps.length) : stop ps S x = stop ps S' x := stopL_congr fun y hy => by
  obtain ⟨j, hj, rfl⟩ := way_mem h x hx y hy
  exact hS j (by omega)
theorem isStop_nil (ps : List Int) (S : Int → Bool) (k : Nat) : filt (isStop ps S []) k = [] := filt_none fun _ _ => rfl
theorem isStop_app (ps : List Int) (S : Int → Bool) (es : List Int) (e : Int) (y : Nat) : isStop ps S (es ++ [e]) y = (isStop ps S es y || stop ps S e.toNat == (y : Int)) := by
  unfold isStop; rw [List.any_append]; simp
theorem stop_end {ps : List Int} (h : Pa ps) (S : Int → Bool) {x : Nat} (hx : x < ps.length) (hS : S x = true) : 0 ≤ stop ps S x := by
  have h2 : behB ps S x = true := by
    by_cases h0 : x = 0
    · subst h0; rw [(beh_zero ps S).1]; exact hS
    · have := beh_up h S (x := x) (by omega) hx
      cases hb : behB ps S (par ps x)
      · rw [(this.2 hb).1]; exact hS
      · exact (this.1 hb).1
  exact of_decide_eq_true h2
set_option maxRecDepth 100000 in
set_option maxHeartbeats 2000000 in
theorem spec_l4First (aP : Option Addr) (nP cP : Nat) (aW : Option Addr) (nW cW : Nat) (ps ws : List Int) (aS : Option Addr) (nS cS : Nat) (bs : List Bool) (w : World) (h : Tre w aP nP cP aW nW cW ps ws) (hp : Pa ps) (hS : Bo.Ints w aS nS bs) (hn : nP = nS) (he : ∀ x, x < ps.length → endB ps x = true → Bo.nth bs x = true) :
    Calls Tryz.prog 103 #[.agg #[.slice aP nP cP, .slice aW nW cW], .slice aS nS cS] w fun e w' => ∃ v, e = .returned v ∧ Own w' w.heap.size v (firsts ps (bS bs)) ∧ Below w.heap.size w w' := by
  subst hn
  have Hp := Lib.hid hp
  have hn24 := hp.n24
  have hl := h.p.1
  have hlw := h.w.1
  have hpn := h.pn
  have hwn := h.wn
  have hb1 := below_new w (.cells #[.slice aP nP cP, .slice aW nW cW] 26)
  have hP1 := Lib.hid (Pair.new w (.slice aP nP cP) (.slice aW nW cW) 26)
  have H := Lib.hid h
  have Hl := Lib.hid hl
  have Hlw := Lib.hid hlw
  clear h hl hlw
  have hnP : nP ≤ 24 := by have := Hl.out; omega
  have HS := Lib.hid hS
  have He := Lib.hid he
  clear hp hn24 hS he
  go_enter Tryz.func103, Tryz.ntmps103
  go_wp2_with fail
  have hn1 := own_nil0 (w.alloc (.cells #[.slice aP nP cP, .slice aW nW cW] 26))
  have hn2 := own_nil0 ((w.alloc (.cells #[.slice aP nP cP, .slice aW nW cW] 26)).alloc (.cells #[] 3))
  rw [show (w.alloc (.cells #[.slice aP nP cP, .slice aW nW cW] 26)).heap.size = w.heap.size + 1 by simp] at hn1
  rw [show ((w.alloc (.cells #[.slice aP nP cP, .slice aW nW cW] 26)).alloc (.cells #[] 3)).heap.size = w.heap.size + 2 by simp] at hn2
  have hn1' := hn1.below (below_new _ (.cells #[] 3))
  have hb2 : Below w.heap.size w (((w.alloc (.cells #[.slice aP nP cP, .slice aW nW cW] 26)).alloc (.cells #[] 3)).alloc (.cells #[] 3)) := (hb1.alloc (by simp) _).alloc (by simp; omega) _
  have hs2 : (((w.alloc (.cells #[.slice aP nP cP, .slice aW nW cW] 26)).alloc (.cells #[] 3)).alloc (.cells #[] 3)).heap.size = w.heap.size + 3 := by simp
  have hP2 := Lib.hid ((hP1.out.alloc (.cells #[] 3)).alloc (.cells #[] 3))
  generalize (((w.alloc (.cells #[.slice aP nP cP, .slice aW nW cW] 26)).alloc (.cells #[] 3)).alloc (.cells #[] 3)) = w2 at *
  clear hP1 hb1 hn1
  refine (spec_l2Ends _ _ _ _ _ _ ps ws _ (H.out.below hb2) Hp.out).mono ?_
  rintro e w3 ⟨v, rfl, ho, hb3⟩
  obtain ⟨a3, c3, rfl⟩ := ho.shape
  have hEL : (ends ps).length ≤ 24 := by have := filt_length (endB ps) ps.length; have := Hl.out; unfold ends; omega
  have HE := Lib.hid ho.ints
  have hap0 : Hid (0 < (ends ps).length → Apart a3 (.slice (some ⟨w.heap.size + 2, 0, none⟩) 0 0)) := Lib.hid fun h0 p hp e => by
    obtain ⟨g, cap, he, hg, _⟩ := ho.form h0
    cases he
    cases hp
    simp [Value.ownBlock] at e
    omega
  have hb13 := hb2.trans (hb3.mono hb2.size)
  have HO := Lib.hid (hn1'.below hb3)
  have HSm := Lib.hid (hn2.below hb3)
  have HP3 := Lib.hid (hP2.out.below hb3)
  have hs3 := hb3.size
  have HEm : Hid (∀ i, i < (ends ps).length → ∃ j : Nat, j < nP ∧ endB ps j = true ∧ nth (ends ps) i = j) := Lib.hid fun i hi => by
    obtain ⟨j, h1, h2, h3⟩ := nth_filt hi
    exact ⟨j, by have := Hl.out; omega, h2, h3⟩
  have Hfin : Hid (filt (isStop ps (bS bs) (ends ps)) nP = firsts ps (bS bs)) := Lib.hid (by
    unfold firsts; rw [Hl.out]
    exact filt_congr fun y hy => isStop_ends Hp.out _ (by have := Hl.out; omega))
  clear ho hb3 hn1' hn2 hP2 hb2
  obtain ⟨E, hE⟩ : ∃ E, E = ends ps := ⟨_, rfl⟩
  rw [← hE] at hEL HE hap0 HEm Hfin ⊢
  clear hE
  go_wp2_with fail
  go_loopw [6, 8] (fun v6 v8 wr => ∃ k : Nat, k ≤ nP ∧ v8 = .int .i64 (k : Int) ∧ Own wr (w.heap.size + 2) v6 (filt (Bo.nth bs) k) ∧ Own wr (w.heap.size + 1) (.slice (some ⟨w.heap.size + 1, 0, none⟩) 0 0) [] ∧ Ints wr a3 E.length E ∧ (0 < E.length → Apart a3 v6) ∧ Pair wr w.heap.size (.slice aP nP cP) (.slice aW nW cW) ∧ Below w.heap.size w wr ∧ w.heap.size + 2 ≤ wr.heap.size) (fun _ v8 _ => nP - (intOf v8).toNat)
  case atStart => exact ⟨0, Nat.zero_le _, rfl, HSm.out, HO.out, HE.out, hap0.out, HP3.out, hb13, by omega⟩
  case round =>
    clear hb13 HSm HO HE hap0 HP3 hs2 hs3
    obtain ⟨k, hk, rfl, hsm, hou, hen, hap, hP, hbel, hsz⟩ := hrel
    have HP := Lib.hid hP
    have HO := Lib.hid hou
    have HE := Lib.hid hen
    have Hap := Lib.hid hap
    have c0 := hP.c0
    have c1 := hP.c1
    clear hP hou hen hap
    by_cases hlt : (k : Int) < nP
    · obtain ⟨b, off, rfl, hc⟩ := HS.out.at (i := k) hbel (by omega)
      have hlen := filt_length (Bo.nth bs) k
      cases hb : Bo.nth bs k
      · rw [hb] at hc
        have Hf := Lib.hid (filt_f hb)
        clear hb
        go_wp2_with fail
        go_roundw
        case rel => exact ⟨k + 1, by omega, by go_num, by rw [Hf.out]; exact hsm, HO.out, HE.out, Hap.out, HP.out, hbel, hsz⟩
        case measure => simp [intOf]; omega
      · rw [hb] at hc
        have Hf := Lib.hid (filt_t hb)
        clear hb
        go_wp2_with (at_builtin; refine wp_push2 _ _ rfl rfl (w.heap.size + 2) _ _ rfl hsm rfl (by omega) hsz ?_; intro v' w' ho hb hm)
        have hE2 := HE.out.moved hm Hap.out
        have hO2 := HO.out.moved hm (fun g hg e => by have := (World.ownsRow.lt hsm g e).1; simp [Value.ownBlock] at hg; omega)
        go_roundw
        case rel => exact ⟨k + 1, by omega, by go_num, by rw [Hf.out]; exact ho, hO2, hE2.1, hE2.2, HP.out.up hb (by omega), hbel.trans (hb.mono (by omega)), Nat.le_trans hsz hb.size⟩
        case measure => simp [intOf]; omega
    · obtain rfl : k = nP := by omega
      obtain ⟨a6, c6, rfl⟩ := hsm.shape
      have HSi := Lib.hid hsm.ints
      have hS6 := filt_length (Bo.nth bs) k
      have Hhas : Hid (∀ x : Nat, x < k → stop ps (hasB (filt (Bo.nth bs) k)) x = stop ps (bS bs) x) := Lib.hid fun x hx => stop_congr Hp.out (fun y hy => has_filt (by have := Hl.out; omega)) (by have := Hl.out; omega)
      clear hsm hlt Hap
      generalize filt (Bo.nth bs) k = sm at *
      go_wp2_with fail
      go_loopw [5, 9] (fun v5 v9 wr => ∃ i : Nat, i ≤ E.length ∧ v9 = .int .i64 (i : Int) ∧ Own wr (w.heap.size + 1) v5 (filt (isStop ps (bS bs) (E.take i)) k) ∧ Ints wr a6 sm.length sm ∧ Ints wr a3 E.length E ∧ Pair wr w.heap.size (.slice aP k cP) (.slice aW nW cW) ∧ Below w.heap.size w wr) (fun _ v9 _ => E.length - (intOf v9).toNat)
      case atStart => exact ⟨0, Nat.zero_le _, rfl, by rw [List.take_zero, isStop_nil]; exact HO.out, HSi.out, HE.out, HP.out, hbel⟩
      case round =>
        clear hbel HSi HO HE HP hsz c0 c1
        obtain ⟨i, hi, rfl, hou, hsi, hen, hP, hbel⟩ := hrel
        have c0 := hP.c0
        have c1 := hP.c1
        have HP := Lib.hid hP
        have HO := Lib.hid hou
        have HE := Lib.hid hen
        have HSi := Lib.hid hsi
        clear hP hou hen hsi
        by_cases hlt : (i : Int) < E.length
        · obtain ⟨b3, o3, rfl, hc3⟩ := HE.out.at (i := i) (Below.refl _ _) (by omega)
          obtain ⟨x, hx, hxe, hxn⟩ := HEm.out i (by omega)
          rw [hxn] at hc3
          have hst := Hhas.out x hx
          have hse : bS bs x = true := by unfold bS; simp [He.out x (by have := Hl.out; omega) hxe]
          have h0 := stop_end Hp.out (bS bs) (x := x) (by have := Hl.out; omega) hse
          have hl0 := stop_low Hp.out (bS bs) x (by have := Hl.out; omega)
          obtain ⟨Y, hY⟩ : ∃ Y : Nat, stop ps (bS bs) x = Y := ⟨(stop ps (bS bs) x).toNat, by omega⟩
          have hYk : Y < k := by omega
          have Hnext : Hid (filt (fun z => isStop ps (bS bs) (E.take i) z || z == Y) k = filt (isStop ps (bS bs) (E.take (i + 1))) k) := Lib.hid (filt_congr fun z hz => by
            rw [take_succ_nth (by omega), hxn, isStop_app, Int.toNat_natCast, hY]
            congr 1
            rw [Bool.eq_iff_iff, beq_iff_eq, beq_iff_eq]; omega)
          have Hcall : Hid (∀ W : World, Below w.heap.size w W → Ints W a6 sm.length sm → Calls Tryz.prog 118 #[.agg #[.slice aP k cP, .slice aW nW cW], .slice a6 sm.length c6, .int .i64 (x : Int)] W fun e w' => e = .returned (.int .i64 (Y : Int)) ∧ Below W.heap.size W w') := Lib.hid fun W hW hI => by
            have := spec_l4Stop _ _ _ _ _ _ ps ws a6 _ c6 sm x W (H.out.below hW) Hp.out hI (by omega) hx
            rw [hst, hY] at this
            exact this
          obtain ⟨a5, c5, rfl⟩ := HO.out.shape
          have hol := filt_length (isStop ps (bS bs) (E.take i)) k
          have hbs : w.heap.size + 1 ≤ wr.heap.size := by have := HP.out.lt; omega
          clear hst hse h0 hl0 hY hxe hxn
          go_wp2_with fail
          go_region_held3 (fun W' => KeepR wr W' ∧ W'.cell? ⟨w.heap.size, 0, none⟩ = some (.slice aP k cP) ∧ W'.cell? ⟨w.heap.size, 1, none⟩ = some (.slice aW nW cW) ∧ W'.cell? ⟨b3, o3 + i, none⟩ = some (.int .i64 (x : Int)))
            (first | exact keepC3 (by assumption) c0 c1 hc3 | exact keepC3 (KeepR.start _) c0 c1 hc3)
            (first
              | (go_at_call 118; refine (Hcall.out _ (hbel.trans (Below.mono (by assumption : KeepR wr _ ∧ _).1 hbel.size)) (HSi.out.below (by assumption : KeepR wr _ ∧ _).1)).mono ?_; rintro e w7 ⟨rfl, hb7⟩
                 have hk7 := KeepR.next hb7 (by assumption : KeepR wr _ ∧ _).1)
              | (go_at_call 116; refine (spec_l1Put _ _ _ (isStop ps (bS bs) (E.take i)) k Y (w.heap.size + 1) _ (by omega) hYk (Nat.le_trans hbs (by assumption : KeepR wr _ ∧ _).1.size) (HO.out.below (by assumption : KeepR wr _ ∧ _).1)).mono ?_; rintro e w8 ⟨v8, rfl, ho8, hb8⟩
                 have hk8 := KeepR.next hb8 (by assumption : KeepR wr _ ∧ _).1))
          go_wp2_with fail
          rw [Hnext.out] at ho8
          have hk8' : Below wr.heap.size wr w8 := hk8
          go_roundw
          case rel => exact ⟨i + 1, by omega, by go_num, ho8, HSi.out.below hk8', HE.out.below hk8', HP.out.below hk8', hbel.trans (hk8'.mono hbel.size)⟩
          case measure => simp [intOf]; omega
        · obtain rfl : i = E.length := by omega
          have HO' := HO.out
          rw [List.take_length, Hfin.out] at HO'
          have HO2 := Lib.hid HO'
          clear HO' HO
          go_wp2_with fail
          go_ret
          exact ⟨_, rfl, HO2.out.mono (by omega), hbel⟩
end Go.Proofs.YtnbomleieianoaaGreat

/- Contracts: payments less a cost of each step, of the program and of the reference. -/
namespace Go.Proofs.YtnbomleieianoaaGreat
open Go.RowKit

def costL (ps l : List Int) (c : Int) : List Int := (List.range ps.length).map fun x => nth l x - c * dep ps x
theorem costL_length (ps l : List Int) (c : Int) : (costL ps l c).length = ps.length := by simp [costL]
def costB (ps ws l : List Int) (c : Int) : Bool := paysB ps ws l && (inB c 0 999 && procB ps.length (costL ps l c))
def costV (ps ws l : List Int) (c : Int) : List Int := if costB ps ws l c then costL ps l c else []
theorem cost_no1 {ps ws l : List Int} {c : Int} (h : paysB ps ws l = false) : costB ps ws l c = false := by rw [costB, h]; rfl
theorem cost_no2 {ps ws l : List Int} {c : Int} (h : inB c 0 999 = false) : costB ps ws l c = false := by rw [costB, h]; simp
theorem cost_no3 {ps ws l : List Int} {c : Int} (h : procB ps.length (costL ps l c) = false) : costB ps ws l c = false := by rw [costB, h]; simp
theorem cost_yes {ps ws l : List Int} {c : Int} (h1 : paysB ps ws l = true) (h2 : inB c 0 999 = true) (h3 : procB ps.length (costL ps l c) = true) : costB ps ws l c = true := by rw [costB, h1, h2, h3]; rfl
theorem costV_no {ps ws l : List Int} {c : Int} (h : costB ps ws l c = false) : costV ps ws l c = [] := by rw [costV, h]; rfl
theorem costV_yes {ps ws l : List Int} {c : Int} (h : costB ps ws l c = true) : costV ps ws l c = costL ps l c := by rw [costV, h]; rfl
theorem paysB_t {ps ws l : List Int} (h : paysB ps ws l = true) : Tr ps ws ∧ treeB ps ws = true ∧ procB ps.length l = true ∧ l.length = ps.length ∧ ∀ i, -999 ≤ nth l i ∧ nth l i ≤ 999 := by
  simp only [paysB, Bool.and_eq_true] at h
  exact ⟨treeB_t h.1, h.1, h.2, procB_t h.2⟩
theorem pays_no1 {ps ws l : List Int} (h : treeB ps ws = false) : paysB ps ws l = false := by rw [paysB, h]; rfl
theorem pays_no2 {ps ws l : List Int} (h : procB ps.length l = false) : paysB ps ws l = false := by rw [paysB, h]; simp
theorem pays_both {ps ws l : List Int} (h : treeB ps ws = true) (h2 : procB ps.length l = true) : paysB ps ws l = true := by rw [paysB, h, h2]; rfl
/-- The first i numbers less their costs, then the numbers. -/
def costP (ps l : List Int) (c : Int) (i : Nat) : List Int := (List.range l.length).map fun x => if x < i then nth l x - c * dep ps x else nth l x
theorem costP_length (ps l : List Int) (c : Int) (i : Nat) : (costP ps l c i).length = l.length := by simp [costP]
theorem costP_zero (ps l : List Int) (c : Int) : costP ps l c 0 = l := ext_nth (costP_length _ _ _ _) fun i hi => by
  rw [costP_length] at hi
  rw [costP, nth_map_range hi]; simp
theorem costP_succ (ps l : List Int) (c : Int) (i : Nat) (h : i < l.length) : costP ps l c (i + 1) = (costP ps l c i).set i (nth l i - c * dep ps i) := ext_nth (by simp [costP_length]) fun j hj => by
  rw [costP_length] at hj
  rw [nth_set (by rw [costP_length]; exact h), costP, costP, nth_map_range hj, nth_map_range hj]
  by_cases e : i = j
  · subst e; rw [if_pos (by omega), if_pos rfl]
  · rw [if_neg e]
    by_cases e2 : j < i
    · rw [if_pos e2, if_pos (by omega)]
    · rw [if_neg e2, if_neg (by omega)]
theorem nth_costP_ge {ps l : List Int} {c : Int} {i : Nat} (h : i < l.length) : nth (costP ps l c i) i = nth l i := by rw [costP, nth_map_range h, if_neg (by omega)]
theorem costP_all {ps l : List Int} (c : Int) (h : l.length = ps.length) : costP ps l c l.length = costL ps l c := ext_nth (by rw [costP_length, costL_length, h]) fun i hi => by
  rw [costP_length] at hi
  rw [costP, costL, nth_map_range hi, nth_map_range (by omega), if_pos hi]
end Go.Proofs.YtnbomleieianoaaGreat

/- Small words on memory: appending to slices of bools that the call owns. -/
namespace Go.Proofs.YtnbomleieianoaaGreat
open Go.RowKit
namespace Bo
theorem info_parts2 : ∃ i0, Tryz.prog.info? 4 = some i0 ∧ i0.zero = some (.bool false) ∧ i0.size = 1 ∧ i0.bytes = 1 := by
  have := info_bool
  cases h : Tryz.prog.info? 4 with
  | none => rw [h] at this; cases this
  | some i => rw [h] at this; simp at this; exact ⟨i, rfl, this.1, this.2.1, this.2.2⟩
theorem own_nil0 (w : World) : Own (w.alloc (.cells #[] 4)) w.heap.size (.slice (some ⟨w.heap.size, 0, none⟩) 0 0) [] := by
  have := World.ownsRow_lit (size := 1) (e := 4) (base := w.heap.size) w #[] 0 (Nat.le_refl _) (by simp [maxLen]) (by simp)
  simpa [Own, cs] using this
theorem own_lit1 (w : World) (base : Nat) (u : Bool) (hb : base ≤ w.heap.size) : Own (w.alloc (.cells #[.bool u] 4)) base (.slice (some ⟨w.heap.size, 0, none⟩) 1 1) [u] := by
  have := World.ownsRow_lit (size := 1) (e := 4) (base := base) w #[.bool u] 1 hb (by simp [maxLen]) (by simp)
  simpa [Own, cs] using this
theorem run_app1 {w : World} (ty : TypeId) (base : Nat) (v : Value) (xs : List Bool) (hown : Own w base v xs) (p : Addr) (c : Nat) (u : Bool) (hu : w.cell? (p.add 0) = some (.bool u)) (hl : xs.length ≤ 17592186040320) (hbase : base ≤ w.heap.size) :
    ∃ v' w', (Builtin.append_ #[63, 63] ty #[v, .slice (some p) 1 c]).run Tryz.prog w = .ok v' w' ∧ Own w' base v' (xs ++ [u]) ∧ Below base w w' ∧ Moved w v w' v' := by
  obtain ⟨i0, hi0, hz0, hz1, hz2⟩ := info_parts2
  obtain ⟨v', w', hr, h1, h2, _, h4⟩ := run_append_own_at (P := Tryz.prog) w base 63 ty 4 i0 (.bool false) 1 1 Tryz.underlying63 hi0 hz0 hz1 hz2 rfl (by decide) v xs.length (cs xs) hown p 1 c [.bool u] rfl
    (fun j x hx => by
      cases j with
      | zero => simp at hx; rw [hu, hx]
      | succ j => simp at hx) (by simp [Value.oneCell']) (by simp only [maxLen]; omega) (by omega) hbase
  refine ⟨v', w', hr, ?_, (Below.refl _ _).grown h2 hbase fun k hk => (World.ownsRow.lt hown k hk).1, h2.size, fun g hg hne => ⟨?_, h2.block g hg (fun e => hne e.symm)⟩⟩
  · unfold Own
    rw [← cs_append, List.length_append]
    exact h1
  · rcases h4 with h4 | h4
    · rw [h4]; exact hne
    · rw [h4]; intro e; cases e; omega
/-- 'append(xs, u)' where u was just laid into a new block. -/
theorem wp_push2 {ops : Array Oper} {rest : List Oper} {o : Oper} {a : Act} {Q : Exit → Act → World → Prop} {w : World} {u : Bool} (s x : Operand)
    (hgd : o.guard = none) (ho : o.op = .call { callee := .builtin .append, args := #[s, x], argTypes := #[63, 63] })
    (base : Nat) (v : Value) (xs : List Bool) (hs : a.eval s = v) (hown : Own w base v xs) (hx : a.eval x = .slice (some ⟨w.heap.size, 0, none⟩) 1 1)
    (hl : xs.length ≤ 17592186040320) (hb : base ≤ w.heap.size)
    (h : ∀ v' w', Own w' base v' (xs ++ [u]) → Below base w w' → Moved w v w' v' → wpList Tryz.prog ops Q rest (a.put o.dst v') w') : wpList Tryz.prog ops Q (o :: rest) a (w.alloc (.cells #[.bool u] 4)) := by
  have hb0 : Below w.heap.size w (w.alloc (.cells #[.bool u] 4)) := below_new w _
  obtain ⟨v', w', hr, h1, h2, h3⟩ := run_app1 (w := w.alloc (.cells #[.bool u] 4)) o.type base v xs (hown.below hb0) ⟨w.heap.size, 0, none⟩ 1 u (by
    have : (⟨w.heap.size, 0, none⟩ : Addr).add 0 = ⟨w.heap.size, 0, none⟩ := by unfold Addr.add; split <;> simp_all
    rw [this, World.cell?_alloc_at _ _ _ _ rfl]; rfl) hl (by simp; omega)
  refine wpList_plain hgd fun K hK => ?_
  unfold Oper.wp execOp
  simp only [ho, resolve, invoke, builtin, Sem.run_bind, Sem.run_pure, Result.andThen_ok, List.map_toArray, List.map_cons, List.map_nil, hs, hx, hr]
  refine hK _ _ (h v' w' h1 ((hb0.mono hb).trans h2) ⟨by have := h3.1; simp at this; omega, fun g hg hne => ?_⟩)
  have := h3.2 g (by simp; omega) hne
  exact ⟨this.1, this.2.trans (hb0.block g hg)⟩
/-- The same as a step of a region that draws its order. -/
theorem step_push2 {ops : Array Oper} {o : Oper} {a : Act} {K : Act → World → Prop} {Q : Exit → Act → World → Prop} {E : Prop} {w : World} {u : Bool} (hgd : o.guard = none) (s x : Operand)
    (ho : o.op = .call { callee := .builtin .append, args := #[s, x], argTypes := #[63, 63] })
    (base : Nat) (v : Value) (xs : List Bool) (hs : a.eval s = v) (hown : Own w base v xs) (hx : a.eval x = .slice (some ⟨w.heap.size, 0, none⟩) 1 1)
    (hl : xs.length ≤ 17592186040320) (hb : base ≤ w.heap.size)
    (h : ∀ v' w', Own w' base v' (xs ++ [u]) → Below base w w' → Moved w v w' v' → K (a.put o.dst v') w') :
    if Region.wanted o (yielded ops a.tmps) = true then Oper.wp Tryz.prog o a (w.alloc (.cells #[.bool u] 4)).drew K Q else E := by
  have hw : Region.wanted o (yielded ops a.tmps) = true := by simp [Region.wanted, hgd]
  rw [if_pos hw]
  have hb0 : Below w.heap.size w (w.alloc (.cells #[.bool u] 4)).drew := (below_new w _).drew
  obtain ⟨v', w', hr, h1, h2, h3⟩ := run_app1 (w := (w.alloc (.cells #[.bool u] 4)).drew) o.type base v xs (hown.below hb0) ⟨w.heap.size, 0, none⟩ 1 u (by
    have : (⟨w.heap.size, 0, none⟩ : Addr).add 0 = ⟨w.heap.size, 0, none⟩ := by unfold Addr.add; split <;> simp_all
    rw [this]
    show (w.alloc (.cells #[.bool u] 4)).cell? _ = _
    rw [World.cell?_alloc_at _ _ _ _ rfl]; rfl) hl (by simp; omega)
  unfold Oper.wp execOp
  simp only [ho, resolve, invoke, builtin, Sem.run_bind, Sem.run_pure, Result.andThen_ok, List.map_toArray, List.map_cons, List.map_nil, hs, hx, hr]
  refine h v' w' h1 ((hb0.mono hb).trans h2) ⟨by have := h3.1; simp at this; omega, fun g hg hne => ?_⟩
  have := h3.2 g (by simp; omega) hne
  exact ⟨this.1, this.2.trans (hb0.block g hg)⟩
/-- The same where the world is no longer drawn. -/
theorem step_push3 {ops : Array Oper} {o : Oper} {a : Act} {K : Act → World → Prop} {Q : Exit → Act → World → Prop} {E : Prop} {w : World} {u : Bool} (hgd : o.guard = none) (s x : Operand)
    (ho : o.op = .call { callee := .builtin .append, args := #[s, x], argTypes := #[63, 63] })
    (base : Nat) (v : Value) (xs : List Bool) (hs : a.eval s = v) (hown : Own w base v xs) (hx : a.eval x = .slice (some ⟨w.heap.size, 0, none⟩) 1 1)
    (hl : xs.length ≤ 17592186040320) (hb : base ≤ w.heap.size)
    (h : ∀ v' w', Own w' base v' (xs ++ [u]) → Below base w w' → Moved w v w' v' → K (a.put o.dst v') w') :
    if Region.wanted o (yielded ops a.tmps) = true then Oper.wp Tryz.prog o a (w.alloc (.cells #[.bool u] 4)) K Q else E := by
  have hw : Region.wanted o (yielded ops a.tmps) = true := by simp [Region.wanted, hgd]
  rw [if_pos hw]
  have hb0 : Below w.heap.size w (w.alloc (.cells #[.bool u] 4)) := below_new w _
  obtain ⟨v', w', hr, h1, h2, h3⟩ := run_app1 (w := (w.alloc (.cells #[.bool u] 4))) o.type base v xs (hown.below hb0) ⟨w.heap.size, 0, none⟩ 1 u (by
    have : (⟨w.heap.size, 0, none⟩ : Addr).add 0 = ⟨w.heap.size, 0, none⟩ := by unfold Addr.add; split <;> simp_all
    rw [this]
    rw [World.cell?_alloc_at _ _ _ _ rfl]; rfl) hl (by simp; omega)
  unfold Oper.wp execOp
  simp only [ho, resolve, invoke, builtin, Sem.run_bind, Sem.run_pure, Result.andThen_ok, List.map_toArray, List.map_cons, List.map_nil, hs, hx, hr]
  refine h v' w' h1 ((hb0.mono hb).trans h2) ⟨by have := h3.1; simp at this; omega, fun g hg hne => ?_⟩
  have := h3.2 g (by simp; omega) hne
  exact ⟨this.1, this.2.trans (hb0.block g hg)⟩
theorem Own.moved {w w' : World} {base : Nat} {u v v' : Value} {xs : List Bool} (h : Own w base u xs) (hm : Moved w v w' v') (ha : ∀ g, u.ownBlock = some g → v.ownBlock ≠ some g) : Own w' base u xs := by
  unfold Own World.ownsRow at *
  refine ⟨h.1, ?_⟩
  rcases h.2 with h1 | ⟨g, cp, cur, h1, h2, h3, h4⟩
  · exact .inl h1
  · have hlt : g < w.heap.size := by
      rcases Nat.lt_or_ge g w.heap.size with hl | hl
      · exact hl
      · rw [Array.getElem?_eq_none hl] at h3; cases h3
    exact .inr ⟨g, cp, cur, h1, h2, by rw [(hm.2 g hlt (ha g (by rw [h1]; rfl))).2]; exact h3, h4⟩
end Bo
end Go.Proofs.YtnbomleieianoaaGreat

/- Contracts of the reference: the rule of a level. -/
namespace Go.Proofs.YtnbomleieianoaaGreat
open Go.RowKit

theorem firB_congr {ps : List Int} (h : Pa ps) {S S' : Int → Bool} (hS : ∀ y : Nat, y < ps.length → S y = S' y) : firsts ps S = firsts ps S' := filt_congr fun y hy => by
  unfold firB; rw [stop_congr h hS hy]
/-- What a property of nodes says of a number. -/
def fS (f : Nat → Bool) (y : Int) : Bool := f y.toNat
theorem bS_map {n : Nat} {f : Nat → Bool} {y : Nat} (h : y < n) : bS ((List.range n).map f) (y : Int) = fS f y := by
  unfold bS fS
  rw [Int.toNat_natCast, Bo.nth_map_range h]; simp
theorem map_succ (f : Nat → Bool) (k : Nat) : (List.range (k + 1)).map f = (List.range k).map f ++ [f k] := by rw [List.range_succ, List.map_append]; rfl
/-- Does the rule of a level stop at x? -/
def levB (ps l : List Int) (lev : Int) (x : Nat) : Bool := endB ps x || decide (nth l x ≥ lev)
set_option maxRecDepth 100000 in
set_option maxHeartbeats 2000000 in
theorem spec_l4Level (aP : Option Addr) (nP cP : Nat) (aW : Option Addr) (nW cW : Nat) (ps ws : List Int) (aL : Option Addr) (nL cL : Nat) (l : List Int) (lev : Int) (w : World) (h : Tre w aP nP cP aW nW cW ps ws) (hT : Tr ps ws) (hL : Ints w aL nL l) (hnL : nP = nL) :
    Calls Tryz.prog 123 #[.agg #[.slice aP nP cP, .slice aW nW cW], .slice aL nL cL, .int .i64 lev] w fun e w' => ∃ v, e = .returned v ∧ Own w' w.heap.size v (firsts ps (fS (levB ps l lev))) ∧ Below w.heap.size w w' := by
  subst hnL
  have HTT := Lib.hid hT
  have hn24 := hT.n24
  have hn1 := hT.n1
  have HT := Lib.hid hT
  have hwl := hT.wl
  have hl := h.p.1
  have hlw := h.w.1
  have hpn := h.pn
  have hwn := h.wn
  have hb1 := below_new w (.cells #[.slice aP nP cP, .slice aW nW cW] 26)
  have hP1 := Lib.hid (Pair.new w (.slice aP nP cP) (.slice aW nW cW) 26)
  have H := Lib.hid h
  have Hl := Lib.hid hl
  have Hlw := Lib.hid hlw
  clear h hl hlw
  have hnW : nW ≤ nP ∧ nP ≤ nW := by have := Hlw.out; have := Hl.out; omega
  have hnP : 1 ≤ nP ∧ nP ≤ 24 := by have := Hl.out; omega
  clear hn24 hn1 hT hwl hpn hwn
  have HL := Lib.hid hL
  have hll := Lib.hid hL.1
  clear hL
  go_enter Tryz.func123, Tryz.ntmps123
  go_wp2_with fail
  have hn1 := Bo.own_nil0 (w.alloc (.cells #[.slice aP nP cP, .slice aW nW cW] 26))
  rw [show (w.alloc (.cells #[.slice aP nP cP, .slice aW nW cW] 26)).heap.size = w.heap.size + 1 by simp] at hn1
  have hb2 : Below w.heap.size w ((w.alloc (.cells #[.slice aP nP cP, .slice aW nW cW] 26)).alloc (.cells #[] 4)) := hb1.alloc (by simp) _
  have hs2 : ((w.alloc (.cells #[.slice aP nP cP, .slice aW nW cW] 26)).alloc (.cells #[] 4)).heap.size = w.heap.size + 2 := by simp
  have hP2 := Lib.hid (hP1.out.alloc (.cells #[] 4))
  generalize ((w.alloc (.cells #[.slice aP nP cP, .slice aW nW cW] 26)).alloc (.cells #[] 4)) = w2 at *
  clear hP1 hb1
  go_loopw [7, 8] (fun v7 v8 wr => ∃ k : Nat, k ≤ nP ∧ v8 = .int .i64 (k : Int) ∧ Bo.Own wr (w.heap.size + 1) v7 ((List.range k).map (levB ps l lev)) ∧ Pair wr w.heap.size (.slice aP nP cP) (.slice aW nW cW) ∧ Below w.heap.size w wr ∧ w.heap.size + 1 ≤ wr.heap.size) (fun _ v8 _ => nP - (intOf v8).toNat)
  case atStart => exact ⟨0, Nat.zero_le _, rfl, hn1, hP2.out, hb2, by omega⟩
  case round =>
    clear hn1 hP2 hb2 hs2
    obtain ⟨k, hk, rfl, hown, hP, hbel, hsz⟩ := hrel
    have c0 := hP.c0
    have c1 := hP.c1
    have HP := Lib.hid hP
    clear hP
    by_cases hlt : (k : Int) < nP
    · obtain ⟨bW, oW, rfl, hcW⟩ := H.out.w.at (i := k) hbel (by omega)
      obtain ⟨bL, oL, rfl, hcL⟩ := HL.out.at (i := k) hbel (by omega)
      have hwp : (endB ps k = true → nth ws k > 0) ∧ (endB ps k = false → ¬ nth ws k > 0) := ⟨fun he => by have := HTT.out.leaf k (by have := Hl.out; omega) he; omega, fun he => by have := HTT.out.inner k (by have := Hl.out; omega) he; omega⟩
      have hms := map_succ (levB ps l lev) k
      have hlv : levB ps l lev k = (endB ps k || decide (nth l k ≥ lev)) := rfl
      have hll2 : ((List.range k).map (levB ps l lev)).length ≤ 24 := by simp; omega
      generalize (List.range k).map (levB ps l lev) = bsk at *
      generalize levB ps l lev k = bk at *
      generalize nth ws k = u at *
      generalize nth l k = p at *
      have Hms := Lib.hid hms
      clear hms
      cases he : endB ps k
      · have hu := hwp.2 he
        rw [he, Bool.false_or] at hlv
        by_cases hp : p ≥ lev
        · rw [decide_eq_true hp] at hlv
          subst hlv
          clear hwp he
          go_wp2_with (at_builtin; refine Bo.wp_push2 _ _ rfl rfl (w.heap.size + 1) _ _ rfl hown rfl (by omega) hsz ?_; intro v' w' ho hb hm)
          go_roundw
          case rel => exact ⟨k + 1, by omega, by go_num, by rw [Hms.out]; exact ho, HP.out.up hb (by omega), hbel.trans (hb.mono (by omega)), Nat.le_trans hsz hb.size⟩
          case measure => simp [intOf]; omega
        · rw [decide_eq_false hp] at hlv
          subst hlv
          clear hwp he
          go_wp2_with (at_builtin; refine Bo.wp_push2 _ _ rfl rfl (w.heap.size + 1) _ _ rfl hown rfl (by omega) hsz ?_; intro v' w' ho hb hm)
          go_roundw
          case rel => exact ⟨k + 1, by omega, by go_num, by rw [Hms.out]; exact ho, HP.out.up hb (by omega), hbel.trans (hb.mono (by omega)), Nat.le_trans hsz hb.size⟩
          case measure => simp [intOf]; omega
      · have hu := hwp.1 he
        rw [he, Bool.true_or] at hlv
        subst hlv
        clear hwp he
        go_wp2_with (at_builtin; refine Bo.wp_push2 _ _ rfl rfl (w.heap.size + 1) _ _ rfl hown rfl (by omega) hsz ?_; intro v' w' ho hb hm)
        go_roundw
        case rel => exact ⟨k + 1, by omega, by go_num, by rw [Hms.out]; exact ho, HP.out.up hb (by omega), hbel.trans (hb.mono (by omega)), Nat.le_trans hsz hb.size⟩
        case measure => simp [intOf]; omega
    · obtain rfl : k = nP := by omega
      obtain ⟨a7, c7, rfl⟩ := hown.shape
      have hbl : ((List.range k).map (levB ps l lev)).length = k := by simp
      rw [hbl] at hown ⊢
      have HB := Lib.hid hown.bools
      clear hown hbl
      go_wp2_with fail
      refine (spec_l4First _ _ _ _ _ _ ps ws _ _ _ ((List.range k).map (levB ps l lev)) _ (H.out.below hbel) HTT.out.toPa HB.out rfl (fun x hx he => by rw [Bo.nth_map_range (by have := Hl.out; omega), levB, he]; rfl)).mono ?_
      rintro e w4 ⟨v4, rfl, o4, b4⟩
      have Hf : Hid (firsts ps (bS ((List.range k).map (levB ps l lev))) = firsts ps (fS (levB ps l lev))) := Lib.hid (firB_congr HTT.out.toPa fun y hy => bS_map (by have := Hl.out; omega))
      go_wp2_with fail
      go_ret
      exact ⟨_, rfl, by rw [← Hf.out]; exact o4.mono hbel.size, hbel.trans (b4.mono hbel.size)⟩
end Go.Proofs.YtnbomleieianoaaGreat
