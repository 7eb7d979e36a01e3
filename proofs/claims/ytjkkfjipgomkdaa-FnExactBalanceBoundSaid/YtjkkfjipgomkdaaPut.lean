/- Contract of the reference: a number put to its place, once. -/
import Derived.Test.YtjkkfjipgomkdaaWay
import Derived.Test.YtjkkfjipgomkdaaB4
namespace Go.Proofs.Ytjkkfjipgomkdaa
open Go.RowKit

set_option maxRecDepth 100000 in
set_option maxHeartbeats 2000000 in
theorem spec_l1Put (a : Option Addr) (n cap : Nat) (p : Nat → Bool) (k Y base : Nat) (w : World) (hk : k ≤ 1048576) (hY : Y < k) (hb : base ≤ w.heap.size) (h : Own w base (.slice a n cap) (filt p k)) :
    Calls Try.prog 91 #[.slice a n cap, .int .i64 (Y : Int)] w fun e w' => ∃ v, e = .returned v ∧ Own w' base v (filt (fun z => p z || z == Y) k) ∧ Below w.heap.size w w' := by
  have hc := h.cap
  have hll := filt_length p k
  obtain ⟨A, B, h1, h2, h3, h4, h5⟩ := filt_or (p := p) (y := Y) hY
  obtain ⟨R, hR⟩ : ∃ R, R = A ++ (if p Y then B else (Y : Int) :: B) := ⟨_, rfl⟩
  rw [h5, ← hR]
  have HR := Lib.hid hR
  rw [h1] at h hc hll
  clear h1 h5 hR
  have H := Lib.hid h
  have HI := Lib.hid h.ints
  have hA : ∀ i, i < A.length → nth (A ++ B) i < (Y : Int) := fun i hi => by rw [nth_append_l hi]; exact h2 _ (nth_mem hi)
  have HA := Lib.hid hA
  have H3 := Lib.hid h3
  have H4 := Lib.hid h4
  have hlen : n = A.length + B.length := by rw [← List.length_append]; exact hc.2.2.1
  have hAl : A.length ≤ 1048576 := by have := hc.2.2.1; omega
  have hn2 : n ≤ 1048576 := by have := hc.2.2.1; omega
  have hcc := hc.2.2.2
  have hnc := hc.1
  have Hcap := Lib.hid hc.2.1
  have Hlen := Lib.hid hlen
  have HA0 : Hid (Ints w a A.length A) := Lib.hid (by have := HI.out.take (k := A.length) (by omega); rwa [List.take_left' rfl] at this)
  clear h h2 h3 h4 hA hll hc hlen
  rw [show maxLen = 9223372036854775807 from rfl] at hcc
  go_enter Try.func91, Try.ntmps91
  go_wp2_with fail
  go_loop [5] (fun v5 => ∃ i : Nat, i ≤ A.length ∧ v5 = .int .i64 (i : Int)) (fun v5 => A.length - (intOf v5).toNat)
  case atStart => exact ⟨0, Nat.zero_le _, rfl⟩
  case round =>
    obtain ⟨i, hi, rfl⟩ := hrel
    by_cases hlt : i < A.length
    · obtain ⟨b, off, rfl, hcl⟩ := HI.out.at (i := i) (Below.refl _ _) (by have := Hlen.out; omega)
      have hv := HA.out i hlt
      have hin : (i : Int) < n := by have := Hlen.out; omega
      generalize nth (A ++ B) i = u at *
      go_wp2_with fail
      go_round
      case rel => exact ⟨i + 1, by omega, by go_num⟩
      case measure => simp [intOf]; omega
    · obtain rfl : i = A.length := by omega
      clear hlt hi
      cases hB : B with
      | nil =>
        subst hB
        have hp : p Y = false := by
          cases hp : p Y
          · rfl
          · obtain ⟨b', hb', _⟩ := H3.out hp; cases hb'
        have Hp := Lib.hid hp
        clear hp
        obtain rfl : n = A.length := by have := Hlen.out; simpa using this
        have hin : ¬ ((A.length : Int) < (A.length : Int)) := by omega
        cases a with
        | none =>
          have hz : A.length = 0 := by
            rcases Nat.eq_zero_or_pos A.length with h0 | h0
            · exact h0
            · obtain ⟨b, off, he, _⟩ := HA0.out.2 h0; cases he
          obtain rfl := Hcap.out rfl
          obtain rfl : A = [] := List.length_eq_zero_iff.1 hz
          clear hz
          go_wp2_with fail
          refine wp_region_noPanic ?_
          refine wp_region_held_drew (S := (fun _ => True)) (by kernel_rfl) ?_ (fun hHeld0 => ?_)
          · trivial
          refine takeH (i := 1) (oi := _) (v := ?_) rfl (by kernel_rfl) (by kernel_rfl) (by kernel_rfl) (fun _ _ _ h => h) (Or.inl ⟨by rfl, ?_⟩) (by assumption) ?_
          rotate_left
          · first | (intro w hSw; (try dsimp only at hSw); go_simp; done) | (intro w hSw; (try dsimp only at hSw); go_simp; with_reducible rfl)
          (try simp only [Act.put, List.setIfInBounds_toArray, List.set_cons_zero, List.set_cons_succ])
          refine takeH (i := 2) (oi := _) (v := ?_) rfl (by kernel_rfl) (by kernel_rfl) (by kernel_rfl) (fun _ _ _ h => h) (Or.inl ⟨by rfl, ?_⟩) (by assumption) ?_
          rotate_left
          · first | (intro w hSw; (try dsimp only at hSw); go_simp; done) | (intro w hSw; (try dsimp only at hSw); go_simp; with_reducible rfl)
          (try simp only [Act.put, List.setIfInBounds_toArray, List.set_cons_zero, List.set_cons_succ])
          refine takeH (i := 3) (oi := _) (v := ?_) rfl (by kernel_rfl) (by kernel_rfl) (by kernel_rfl) (fun _ _ _ h => h) (Or.inl ⟨by rfl, ?_⟩) (by assumption) ?_
          rotate_left
          · first | (intro w hSw; (try dsimp only at hSw); go_simp; done) | (intro w hSw; (try dsimp only at hSw); go_simp; with_reducible rfl)
          (try simp only [Act.put, List.setIfInBounds_toArray, List.set_cons_zero, List.set_cons_succ])
          refine takeH (i := 5) (oi := _) (v := ?_) rfl (by kernel_rfl) (by kernel_rfl) (by kernel_rfl) (fun _ _ _ h => h) (Or.inl ⟨by rfl, ?_⟩) (by assumption) ?_
          rotate_left
          · first | (intro w hSw; (try dsimp only at hSw); go_simp; done) | (intro w hSw; (try dsimp only at hSw); go_simp; with_reducible rfl)
          (try simp only [Act.put, List.setIfInBounds_toArray, List.set_cons_zero, List.set_cons_succ])
          refine takeH (i := 8) (oi := _) (v := ?_) rfl (by kernel_rfl) (by kernel_rfl) (by kernel_rfl) (fun _ _ _ h => h) (Or.inl ⟨by rfl, ?_⟩) (by assumption) ?_
          rotate_left
          · first | (intro w hSw; (try dsimp only at hSw); go_simp; done) | (intro w hSw; (try dsimp only at hSw); go_simp; with_reducible rfl)
          (try simp only [Act.put, List.setIfInBounds_toArray, List.set_cons_zero, List.set_cons_succ])
          refine takeH (i := 9) (oi := _) (v := ?_) rfl (by kernel_rfl) (by kernel_rfl) (by kernel_rfl) (fun _ _ _ h => h) (Or.inl ⟨by rfl, ?_⟩) (by assumption) ?_
          rotate_left
          · first | (intro w hSw; (try dsimp only at hSw); go_simp; done) | (intro w hSw; (try dsimp only at hSw); go_simp; with_reducible rfl)
          (try simp only [Act.put, List.setIfInBounds_toArray, List.set_cons_zero, List.set_cons_succ])
          refine takeH (i := 10) (oi := _) (v := ?_) rfl (by kernel_rfl) (by kernel_rfl) (by kernel_rfl) (fun _ _ _ h => h) (Or.inl ⟨by rfl, ?_⟩) (by assumption) ?_
          rotate_left
          · first | (intro w hSw; (try dsimp only at hSw); go_simp; done) | (intro w hSw; (try dsimp only at hSw); go_simp; with_reducible rfl)
          (try simp only [Act.put, List.setIfInBounds_toArray, List.set_cons_zero, List.set_cons_succ])
          refine wpAnyH_ready (rs := [0, 6]) (by kernel_rfl) (by simp) ?_
          refine consM rfl (fun Kq hKq => ?_) (consH rfl (fun Kq hKq => ?_))
          · go_simp
            have L1 : Below w.heap.size w (w.alloc (.cells #[] 3)).drew := (below_new w _).drew
            have N1 : Own (w.alloc (.cells #[] 3)).drew w.heap.size (.slice (some ⟨w.heap.size, 0, none⟩) 0 0) [] := (own_nil0 w).below (Below.refl _ _).drew
            refine hKq.out _ _ ?_ (fun hHeld1 => ?_)
            · trivial
            clear hKq Kq
            (try simp only [Act.put, List.setIfInBounds_toArray, List.set_cons_zero, List.set_cons_succ])
            clear hHeld0
            refine wpAnyH_ready (rs := [4, 6]) (by kernel_rfl) (by simp) ?_
            refine consM rfl (fun Kq hKq => ?_) (consH rfl (fun Kq hKq => ?_))
            · refine step_appI rfl _ _ rfl w.heap.size _ [] (by rfl) N1 _ _ _ [] (by rfl) ?_ ?_ ?_ ?_ ?_
              · intro h; first | rfl | exact Hcap.out h | cases h
              · exact HA0.out.below L1
              · simp <;> omega
              · have := L1.size; omega
              intro v1 w1 o1 b1 m1
              have L2 := L1.trans b1
              refine hKq.out _ _ ?_ (fun hHeld2 => ?_)
              · trivial
              clear hKq Kq
              (try simp only [Act.put, List.setIfInBounds_toArray, List.set_cons_zero, List.set_cons_succ])
              clear hHeld1
              refine wpAnyH_ready (rs := [6]) (by kernel_rfl) (by simp) ?_
              refine consH rfl (fun Kq hKq => ?_)
              go_simp
              have LT3 := (own_lit1 w1 w.heap.size (Y : Int) L2.size).ints
              have o1' := o1.below (below_new w1 (.cells #[.int .i64 (Y : Int)] 3))
              have L3 := L2.trans (Below.mono (below_new w1 (.cells #[.int .i64 (Y : Int)] 3)) L2.size)
              refine hKq.out _ _ ?_ (fun hHeld3 => ?_)
              · trivial
              clear hKq Kq
              (try simp only [Act.put, List.setIfInBounds_toArray, List.set_cons_zero, List.set_cons_succ])
              clear hHeld2
              refine wpAnyH_ready (rs := [7]) (by kernel_rfl) (by simp) ?_
              refine consH rfl (fun Kq hKq => ?_)
              refine step_appI rfl _ _ rfl w.heap.size _ _ (by rfl) o1' _ _ _ [(Y : Int)] (by rfl) ?_ ?_ ?_ ?_ ?_
              · intro h; first | rfl | exact Hcap.out h | cases h
              · exact LT3
              · simp <;> omega
              · have := L3.size; omega
              intro v2 w2 o2 b2 m2
              have L4 := L3.trans b2
              refine hKq.out _ _ ?_ (fun hHeld4 => ?_)
              · trivial
              clear hKq Kq
              (try simp only [Act.put, List.setIfInBounds_toArray, List.set_cons_zero, List.set_cons_succ])
              clear hHeld3
              refine wpAnyH_ready (rs := [11]) (by kernel_rfl) (by simp) ?_
              refine consH rfl (fun Kq hKq => ?_)
              refine step_appI rfl _ _ rfl w.heap.size _ _ (by rfl) o2 _ _ _ [] (by rfl) ?_ ?_ ?_ ?_ ?_
              · intro h; first | rfl | exact Hcap.out h | cases h
              · exact ints_nil _ _
              · simp <;> omega
              · have := L4.size; omega
              intro v3 w3 o3 b3 m3
              refine hKq.out _ _ ?_ (fun hHeld5 => ?_)
              · trivial
              clear hKq Kq
              (try simp only [Act.put, List.setIfInBounds_toArray, List.set_cons_zero, List.set_cons_succ])
              clear hHeld4
              refine takeH (i := 12) (oi := _) (v := ?_) rfl (by kernel_rfl) (by kernel_rfl) (by kernel_rfl) (fun _ _ _ h => h) (Or.inl ⟨by rfl, ?_⟩) (by assumption) ?_
              rotate_left
              · first | (intro w hSw; (try dsimp only at hSw); go_simp; done) | (intro w hSw; (try dsimp only at hSw); go_simp; with_reducible rfl)
              (try simp only [Act.put, List.setIfInBounds_toArray, List.set_cons_zero, List.set_cons_succ])
              refine wpAnyH_done (by kernel_rfl) ?_ _
              refine NoPanic.normal ?_
              go_wp2_with fail
              go_ret
              exact ⟨_, rfl, by
                have := o3.mono hb
                rw [HR.out, Hp.out, if_neg Bool.false_ne_true]
                simpa using this, L4.trans b3⟩
            · go_simp
              have N2 : Own ((w.alloc (.cells #[] 3)).alloc (.cells #[.int .i64 (Y : Int)] 3)).drew w.heap.size (.slice (some ⟨w.heap.size, 0, none⟩) 0 0) [] := ((own_nil0 w).below (below_new _ _)).below (Below.refl _ _).drew
              have LT2 : Ints ((w.alloc (.cells #[] 3)).alloc (.cells #[.int .i64 (Y : Int)] 3)).drew (some ⟨w.heap.size + 1, 0, none⟩) 1 [(Y : Int)] := by
                have := (own_lit1 (w.alloc (.cells #[] 3)) w.heap.size (Y : Int) (by simp)).ints.below (Below.refl _ _).drew
                simpa using this
              have L2 : Below w.heap.size w ((w.alloc (.cells #[] 3)).alloc (.cells #[.int .i64 (Y : Int)] 3)).drew := ((below_new w _).alloc (by simp) _).drew
              refine hKq.out _ _ ?_ (fun hHeld2 => ?_)
              · trivial
              clear hKq Kq
              (try simp only [Act.put, List.setIfInBounds_toArray, List.set_cons_zero, List.set_cons_succ])
              clear hHeld1
              refine wpAnyH_ready (rs := [4]) (by kernel_rfl) (by simp) ?_
              refine consH rfl (fun Kq hKq => ?_)
              refine step_appI rfl _ _ rfl w.heap.size _ [] (by rfl) N2 _ _ _ [] (by rfl) ?_ ?_ ?_ ?_ ?_
              · intro h; first | rfl | exact Hcap.out h | cases h
              · exact HA0.out.below L2
              · simp <;> omega
              · have := L2.size; omega
              intro v1 w1 o1 b1 m1
              have L3 := L2.trans b1
              have LT3 := LT2.moved m1 (fun _ p hp e => by cases hp; simp [Value.ownBlock] at e)
              refine hKq.out _ _ ?_ (fun hHeld3 => ?_)
              · trivial
              clear hKq Kq
              (try simp only [Act.put, List.setIfInBounds_toArray, List.set_cons_zero, List.set_cons_succ])
              clear hHeld2
              refine wpAnyH_ready (rs := [7]) (by kernel_rfl) (by simp) ?_
              refine consH rfl (fun Kq hKq => ?_)
              refine step_appI rfl _ _ rfl w.heap.size _ _ (by rfl) o1 _ _ _ [(Y : Int)] (by rfl) ?_ ?_ ?_ ?_ ?_
              · intro h; first | rfl | exact Hcap.out h | cases h
              · exact LT3.1
              · simp <;> omega
              · have := L3.size; omega
              intro v2 w2 o2 b2 m2
              have L4 := L3.trans b2
              refine hKq.out _ _ ?_ (fun hHeld4 => ?_)
              · trivial
              clear hKq Kq
              (try simp only [Act.put, List.setIfInBounds_toArray, List.set_cons_zero, List.set_cons_succ])
              clear hHeld3
              refine wpAnyH_ready (rs := [11]) (by kernel_rfl) (by simp) ?_
              refine consH rfl (fun Kq hKq => ?_)
              refine step_appI rfl _ _ rfl w.heap.size _ _ (by rfl) o2 _ _ _ [] (by rfl) ?_ ?_ ?_ ?_ ?_
              · intro h; first | rfl | exact Hcap.out h | cases h
              · exact ints_nil _ _
              · simp <;> omega
              · have := L4.size; omega
              intro v3 w3 o3 b3 m3
              refine hKq.out _ _ ?_ (fun hHeld5 => ?_)
              · trivial
              clear hKq Kq
              (try simp only [Act.put, List.setIfInBounds_toArray, List.set_cons_zero, List.set_cons_succ])
              clear hHeld4
              refine takeH (i := 12) (oi := _) (v := ?_) rfl (by kernel_rfl) (by kernel_rfl) (by kernel_rfl) (fun _ _ _ h => h) (Or.inl ⟨by rfl, ?_⟩) (by assumption) ?_
              rotate_left
              · first | (intro w hSw; (try dsimp only at hSw); go_simp; done) | (intro w hSw; (try dsimp only at hSw); go_simp; with_reducible rfl)
              (try simp only [Act.put, List.setIfInBounds_toArray, List.set_cons_zero, List.set_cons_succ])
              refine wpAnyH_done (by kernel_rfl) ?_ _
              refine NoPanic.normal ?_
              go_wp2_with fail
              go_ret
              exact ⟨_, rfl, by
                have := o3.mono hb
                rw [HR.out, Hp.out, if_neg Bool.false_ne_true]
                simpa using this, L4.trans b3⟩
          · go_simp
            have L1 : Below w.heap.size w (w.alloc (.cells #[.int .i64 (Y : Int)] 3)).drew := (below_new w _).drew
            refine hKq.out _ _ ?_ (fun hHeld1 => ?_)
            · trivial
            clear hKq Kq
            (try simp only [Act.put, List.setIfInBounds_toArray, List.set_cons_zero, List.set_cons_succ])
            clear hHeld0
            refine wpAnyH_ready (rs := [0]) (by kernel_rfl) (by simp) ?_
            refine consH rfl (fun Kq hKq => ?_)
            go_simp
            have N2 : Own ((w.alloc (.cells #[.int .i64 (Y : Int)] 3)).alloc (.cells #[] 3)).drew w.heap.size (.slice (some ⟨w.heap.size + 1, 0, none⟩) 0 0) [] := by
              have := ((own_nil0 (w.alloc (.cells #[.int .i64 (Y : Int)] 3))).mono (base' := w.heap.size) (by simp)).below (Below.refl _ _).drew
              simpa using this
            have LT2 : Ints ((w.alloc (.cells #[.int .i64 (Y : Int)] 3)).alloc (.cells #[] 3)).drew (some ⟨w.heap.size, 0, none⟩) 1 [(Y : Int)] := ((own_lit1 w w.heap.size (Y : Int) (Nat.le_refl _)).ints.below (below_new _ _)).below (Below.refl _ _).drew
            have L2 : Below w.heap.size w ((w.alloc (.cells #[.int .i64 (Y : Int)] 3)).alloc (.cells #[] 3)).drew := ((below_new w _).alloc (by simp) _).drew
            refine hKq.out _ _ ?_ (fun hHeld2 => ?_)
            · trivial
            clear hKq Kq
            (try simp only [Act.put, List.setIfInBounds_toArray, List.set_cons_zero, List.set_cons_succ])
            clear hHeld1
            refine wpAnyH_ready (rs := [4]) (by kernel_rfl) (by simp) ?_
            refine consH rfl (fun Kq hKq => ?_)
            refine step_appI rfl _ _ rfl w.heap.size _ [] (by rfl) N2 _ _ _ [] (by rfl) ?_ ?_ ?_ ?_ ?_
            · intro h; first | rfl | exact Hcap.out h | cases h
            · exact HA0.out.below L2
            · simp <;> omega
            · have := L2.size; omega
            intro v1 w1 o1 b1 m1
            have L3 := L2.trans b1
            have LT3 := LT2.moved m1 (fun _ p hp e => by cases hp; simp [Value.ownBlock] at e)
            refine hKq.out _ _ ?_ (fun hHeld3 => ?_)
            · trivial
            clear hKq Kq
            (try simp only [Act.put, List.setIfInBounds_toArray, List.set_cons_zero, List.set_cons_succ])
            clear hHeld2
            refine wpAnyH_ready (rs := [7]) (by kernel_rfl) (by simp) ?_
            refine consH rfl (fun Kq hKq => ?_)
            refine step_appI rfl _ _ rfl w.heap.size _ _ (by rfl) o1 _ _ _ [(Y : Int)] (by rfl) ?_ ?_ ?_ ?_ ?_
            · intro h; first | rfl | exact Hcap.out h | cases h
            · exact LT3.1
            · simp <;> omega
            · have := L3.size; omega
            intro v2 w2 o2 b2 m2
            have L4 := L3.trans b2
            refine hKq.out _ _ ?_ (fun hHeld4 => ?_)
            · trivial
            clear hKq Kq
            (try simp only [Act.put, List.setIfInBounds_toArray, List.set_cons_zero, List.set_cons_succ])
            clear hHeld3
            refine wpAnyH_ready (rs := [11]) (by kernel_rfl) (by simp) ?_
            refine consH rfl (fun Kq hKq => ?_)
            refine step_appI rfl _ _ rfl w.heap.size _ _ (by rfl) o2 _ _ _ [] (by rfl) ?_ ?_ ?_ ?_ ?_
            · intro h; first | rfl | exact Hcap.out h | cases h
            · exact ints_nil _ _
            · simp <;> omega
            · have := L4.size; omega
            intro v3 w3 o3 b3 m3
            refine hKq.out _ _ ?_ (fun hHeld5 => ?_)
            · trivial
            clear hKq Kq
            (try simp only [Act.put, List.setIfInBounds_toArray, List.set_cons_zero, List.set_cons_succ])
            clear hHeld4
            refine takeH (i := 12) (oi := _) (v := ?_) rfl (by kernel_rfl) (by kernel_rfl) (by kernel_rfl) (fun _ _ _ h => h) (Or.inl ⟨by rfl, ?_⟩) (by assumption) ?_
            rotate_left
            · first | (intro w hSw; (try dsimp only at hSw); go_simp; done) | (intro w hSw; (try dsimp only at hSw); go_simp; with_reducible rfl)
            (try simp only [Act.put, List.setIfInBounds_toArray, List.set_cons_zero, List.set_cons_succ])
            refine wpAnyH_done (by kernel_rfl) ?_ _
            refine NoPanic.normal ?_
            go_wp2_with fail
            go_ret
            exact ⟨_, rfl, by
              have := o3.mono hb
              rw [HR.out, Hp.out, if_neg Bool.false_ne_true]
              simpa using this, L4.trans b3⟩
        | some ad =>
          obtain ⟨g, cq, cur, he, -⟩ : ∃ (g cq : Nat) (cur : Unit), (Value.slice (some ad) A.length cap) = .slice (some ⟨g, 0, none⟩) A.length cq ∧ True := by
            have := H.out
            unfold Own World.ownsRow at this
            rcases this.2 with ⟨h1, h2⟩ | ⟨g, cp, cur, h1, _⟩
            · cases h1
            · exact ⟨g, cp, (), by rw [h1]; simp, trivial⟩
          cases he
          have x2 : (0 : Int) ≤ (A.length : Int) := by omega
          by_cases hcA : cap = A.length
          · subst hcA
            have x1 : (A.length : Int) ≤ (A.length : Int) := by omega
            go_wp2_with fail
            refine wp_region_noPanic ?_
            refine wp_region_held_drew (S := (fun _ => True)) (by kernel_rfl) ?_ (fun hHeld0 => ?_)
            · trivial
            refine takeH (i := 1) (oi := _) (v := ?_) rfl (by kernel_rfl) (by kernel_rfl) (by kernel_rfl) (fun _ _ _ h => h) (Or.inl ⟨by rfl, ?_⟩) (by assumption) ?_
            rotate_left
            · first | (intro w hSw; (try dsimp only at hSw); go_simp; done) | (intro w hSw; (try dsimp only at hSw); go_simp; with_reducible rfl)
            (try simp only [Act.put, List.setIfInBounds_toArray, List.set_cons_zero, List.set_cons_succ])
            refine takeH (i := 2) (oi := _) (v := ?_) rfl (by kernel_rfl) (by kernel_rfl) (by kernel_rfl) (fun _ _ _ h => h) (Or.inl ⟨by rfl, ?_⟩) (by assumption) ?_
            rotate_left
            · first | (intro w hSw; (try dsimp only at hSw); go_simp; done) | (intro w hSw; (try dsimp only at hSw); go_simp; with_reducible rfl)
            (try simp only [Act.put, List.setIfInBounds_toArray, List.set_cons_zero, List.set_cons_succ])
            refine takeH (i := 3) (oi := _) (v := ?_) rfl (by kernel_rfl) (by kernel_rfl) (by kernel_rfl) (fun _ _ _ h => h) (Or.inl ⟨by rfl, ?_⟩) (by assumption) ?_
            rotate_left
            · first | (intro w hSw; (try dsimp only at hSw); go_simp; done) | (intro w hSw; (try dsimp only at hSw); go_simp; with_reducible rfl)
            (try simp only [Act.put, List.setIfInBounds_toArray, List.set_cons_zero, List.set_cons_succ])
            refine takeH (i := 5) (oi := _) (v := ?_) rfl (by kernel_rfl) (by kernel_rfl) (by kernel_rfl) (fun _ _ _ h => h) (Or.inl ⟨by rfl, ?_⟩) (by assumption) ?_
            rotate_left
            · first | (intro w hSw; (try dsimp only at hSw); go_simp; done) | (intro w hSw; (try dsimp only at hSw); go_simp; with_reducible rfl)
            (try simp only [Act.put, List.setIfInBounds_toArray, List.set_cons_zero, List.set_cons_succ])
            refine takeH (i := 8) (oi := _) (v := ?_) rfl (by kernel_rfl) (by kernel_rfl) (by kernel_rfl) (fun _ _ _ h => h) (Or.inl ⟨by rfl, ?_⟩) (by assumption) ?_
            rotate_left
            · first | (intro w hSw; (try dsimp only at hSw); go_simp; done) | (intro w hSw; (try dsimp only at hSw); go_simp; with_reducible rfl)
            (try simp only [Act.put, List.setIfInBounds_toArray, List.set_cons_zero, List.set_cons_succ])
            refine takeH (i := 9) (oi := _) (v := ?_) rfl (by kernel_rfl) (by kernel_rfl) (by kernel_rfl) (fun _ _ _ h => h) (Or.inl ⟨by rfl, ?_⟩) (by assumption) ?_
            rotate_left
            · first | (intro w hSw; (try dsimp only at hSw); go_simp; done) | (intro w hSw; (try dsimp only at hSw); go_simp; with_reducible rfl)
            (try simp only [Act.put, List.setIfInBounds_toArray, List.set_cons_zero, List.set_cons_succ])
            refine takeH (i := 10) (oi := _) (v := ?_) rfl (by kernel_rfl) (by kernel_rfl) (by kernel_rfl) (fun _ _ _ h => h) (Or.inl ⟨by rfl, ?_⟩) (by assumption) ?_
            rotate_left
            · first | (intro w hSw; (try dsimp only at hSw); go_simp; done) | (intro w hSw; (try dsimp only at hSw); go_simp; with_reducible rfl)
            (try simp only [Act.put, List.setIfInBounds_toArray, List.set_cons_zero, List.set_cons_succ])
            refine wpAnyH_ready (rs := [0, 6]) (by kernel_rfl) (by simp) ?_
            refine consM rfl (fun Kq hKq => ?_) (consH rfl (fun Kq hKq => ?_))
            · go_simp
              have L1 : Below w.heap.size w (w.alloc (.cells #[] 3)).drew := (below_new w _).drew
              have N1 : Own (w.alloc (.cells #[] 3)).drew w.heap.size (.slice (some ⟨w.heap.size, 0, none⟩) 0 0) [] := (own_nil0 w).below (Below.refl _ _).drew
              refine hKq.out _ _ ?_ (fun hHeld1 => ?_)
              · trivial
              clear hKq Kq
              (try simp only [Act.put, List.setIfInBounds_toArray, List.set_cons_zero, List.set_cons_succ])
              clear hHeld0
              refine wpAnyH_ready (rs := [4, 6]) (by kernel_rfl) (by simp) ?_
              refine consM rfl (fun Kq hKq => ?_) (consH rfl (fun Kq hKq => ?_))
              · refine step_appI rfl _ _ rfl w.heap.size _ [] (by rfl) N1 _ _ _ A (by rfl) ?_ ?_ ?_ ?_ ?_
                · intro h; first | rfl | exact Hcap.out h | cases h
                · exact HA0.out.below L1
                · simp <;> omega
                · have := L1.size; omega
                intro v1 w1 o1 b1 m1
                have L2 := L1.trans b1
                refine hKq.out _ _ ?_ (fun hHeld2 => ?_)
                · trivial
                clear hKq Kq
                (try simp only [Act.put, List.setIfInBounds_toArray, List.set_cons_zero, List.set_cons_succ])
                clear hHeld1
                refine wpAnyH_ready (rs := [6]) (by kernel_rfl) (by simp) ?_
                refine consH rfl (fun Kq hKq => ?_)
                go_simp
                have LT3 := (own_lit1 w1 w.heap.size (Y : Int) L2.size).ints
                have o1' := o1.below (below_new w1 (.cells #[.int .i64 (Y : Int)] 3))
                have L3 := L2.trans (Below.mono (below_new w1 (.cells #[.int .i64 (Y : Int)] 3)) L2.size)
                refine hKq.out _ _ ?_ (fun hHeld3 => ?_)
                · trivial
                clear hKq Kq
                (try simp only [Act.put, List.setIfInBounds_toArray, List.set_cons_zero, List.set_cons_succ])
                clear hHeld2
                refine wpAnyH_ready (rs := [7]) (by kernel_rfl) (by simp) ?_
                refine consH rfl (fun Kq hKq => ?_)
                refine step_appI rfl _ _ rfl w.heap.size _ _ (by rfl) o1' _ _ _ [(Y : Int)] (by rfl) ?_ ?_ ?_ ?_ ?_
                · intro h; first | rfl | exact Hcap.out h | cases h
                · exact LT3
                · simp <;> omega
                · have := L3.size; omega
                intro v2 w2 o2 b2 m2
                have L4 := L3.trans b2
                refine hKq.out _ _ ?_ (fun hHeld4 => ?_)
                · trivial
                clear hKq Kq
                (try simp only [Act.put, List.setIfInBounds_toArray, List.set_cons_zero, List.set_cons_succ])
                clear hHeld3
                refine wpAnyH_ready (rs := [11]) (by kernel_rfl) (by simp) ?_
                refine consH rfl (fun Kq hKq => ?_)
                refine step_appI rfl _ _ rfl w.heap.size _ _ (by rfl) o2 _ _ _ [] (by rfl) ?_ ?_ ?_ ?_ ?_
                · intro h; first | rfl | exact Hcap.out h | cases h
                · exact ints_nil _ _
                · simp <;> omega
                · have := L4.size; omega
                intro v3 w3 o3 b3 m3
                refine hKq.out _ _ ?_ (fun hHeld5 => ?_)
                · trivial
                clear hKq Kq
                (try simp only [Act.put, List.setIfInBounds_toArray, List.set_cons_zero, List.set_cons_succ])
                clear hHeld4
                refine takeH (i := 12) (oi := _) (v := ?_) rfl (by kernel_rfl) (by kernel_rfl) (by kernel_rfl) (fun _ _ _ h => h) (Or.inl ⟨by rfl, ?_⟩) (by assumption) ?_
                rotate_left
                · first | (intro w hSw; (try dsimp only at hSw); go_simp; done) | (intro w hSw; (try dsimp only at hSw); go_simp; with_reducible rfl)
                (try simp only [Act.put, List.setIfInBounds_toArray, List.set_cons_zero, List.set_cons_succ])
                refine wpAnyH_done (by kernel_rfl) ?_ _
                refine NoPanic.normal ?_
                go_wp2_with fail
                go_ret
                exact ⟨_, rfl, by
                  have := o3.mono hb
                  rw [HR.out, Hp.out, if_neg Bool.false_ne_true]
                  simpa using this, L4.trans b3⟩
              · go_simp
                have N2 : Own ((w.alloc (.cells #[] 3)).alloc (.cells #[.int .i64 (Y : Int)] 3)).drew w.heap.size (.slice (some ⟨w.heap.size, 0, none⟩) 0 0) [] := ((own_nil0 w).below (below_new _ _)).below (Below.refl _ _).drew
                have LT2 : Ints ((w.alloc (.cells #[] 3)).alloc (.cells #[.int .i64 (Y : Int)] 3)).drew (some ⟨w.heap.size + 1, 0, none⟩) 1 [(Y : Int)] := by
                  have := (own_lit1 (w.alloc (.cells #[] 3)) w.heap.size (Y : Int) (by simp)).ints.below (Below.refl _ _).drew
                  simpa using this
                have L2 : Below w.heap.size w ((w.alloc (.cells #[] 3)).alloc (.cells #[.int .i64 (Y : Int)] 3)).drew := ((below_new w _).alloc (by simp) _).drew
                refine hKq.out _ _ ?_ (fun hHeld2 => ?_)
                · trivial
                clear hKq Kq
                (try simp only [Act.put, List.setIfInBounds_toArray, List.set_cons_zero, List.set_cons_succ])
                clear hHeld1
                refine wpAnyH_ready (rs := [4]) (by kernel_rfl) (by simp) ?_
                refine consH rfl (fun Kq hKq => ?_)
                refine step_appI rfl _ _ rfl w.heap.size _ [] (by rfl) N2 _ _ _ A (by rfl) ?_ ?_ ?_ ?_ ?_
                · intro h; first | rfl | exact Hcap.out h | cases h
                · exact HA0.out.below L2
                · simp <;> omega
                · have := L2.size; omega
                intro v1 w1 o1 b1 m1
                have L3 := L2.trans b1
                have LT3 := LT2.moved m1 (fun _ p hp e => by cases hp; simp [Value.ownBlock] at e)
                refine hKq.out _ _ ?_ (fun hHeld3 => ?_)
                · trivial
                clear hKq Kq
                (try simp only [Act.put, List.setIfInBounds_toArray, List.set_cons_zero, List.set_cons_succ])
                clear hHeld2
                refine wpAnyH_ready (rs := [7]) (by kernel_rfl) (by simp) ?_
                refine consH rfl (fun Kq hKq => ?_)
                refine step_appI rfl _ _ rfl w.heap.size _ _ (by rfl) o1 _ _ _ [(Y : Int)] (by rfl) ?_ ?_ ?_ ?_ ?_
                · intro h; first | rfl | exact Hcap.out h | cases h
                · exact LT3.1
                · simp <;> omega
                · have := L3.size; omega
                intro v2 w2 o2 b2 m2
                have L4 := L3.trans b2
                refine hKq.out _ _ ?_ (fun hHeld4 => ?_)
                · trivial
                clear hKq Kq
                (try simp only [Act.put, List.setIfInBounds_toArray, List.set_cons_zero, List.set_cons_succ])
                clear hHeld3
                refine wpAnyH_ready (rs := [11]) (by kernel_rfl) (by simp) ?_
                refine consH rfl (fun Kq hKq => ?_)
                refine step_appI rfl _ _ rfl w.heap.size _ _ (by rfl) o2 _ _ _ [] (by rfl) ?_ ?_ ?_ ?_ ?_
                · intro h; first | rfl | exact Hcap.out h | cases h
                · exact ints_nil _ _
                · simp <;> omega
                · have := L4.size; omega
                intro v3 w3 o3 b3 m3
                refine hKq.out _ _ ?_ (fun hHeld5 => ?_)
                · trivial
                clear hKq Kq
                (try simp only [Act.put, List.setIfInBounds_toArray, List.set_cons_zero, List.set_cons_succ])
                clear hHeld4
                refine takeH (i := 12) (oi := _) (v := ?_) rfl (by kernel_rfl) (by kernel_rfl) (by kernel_rfl) (fun _ _ _ h => h) (Or.inl ⟨by rfl, ?_⟩) (by assumption) ?_
                rotate_left
                · first | (intro w hSw; (try dsimp only at hSw); go_simp; done) | (intro w hSw; (try dsimp only at hSw); go_simp; with_reducible rfl)
                (try simp only [Act.put, List.setIfInBounds_toArray, List.set_cons_zero, List.set_cons_succ])
                refine wpAnyH_done (by kernel_rfl) ?_ _
                refine NoPanic.normal ?_
                go_wp2_with fail
                go_ret
                exact ⟨_, rfl, by
                  have := o3.mono hb
                  rw [HR.out, Hp.out, if_neg Bool.false_ne_true]
                  simpa using this, L4.trans b3⟩
            · go_simp
              have L1 : Below w.heap.size w (w.alloc (.cells #[.int .i64 (Y : Int)] 3)).drew := (below_new w _).drew
              refine hKq.out _ _ ?_ (fun hHeld1 => ?_)
              · trivial
              clear hKq Kq
              (try simp only [Act.put, List.setIfInBounds_toArray, List.set_cons_zero, List.set_cons_succ])
              clear hHeld0
              refine wpAnyH_ready (rs := [0]) (by kernel_rfl) (by simp) ?_
              refine consH rfl (fun Kq hKq => ?_)
              go_simp
              have N2 : Own ((w.alloc (.cells #[.int .i64 (Y : Int)] 3)).alloc (.cells #[] 3)).drew w.heap.size (.slice (some ⟨w.heap.size + 1, 0, none⟩) 0 0) [] := by
                have := ((own_nil0 (w.alloc (.cells #[.int .i64 (Y : Int)] 3))).mono (base' := w.heap.size) (by simp)).below (Below.refl _ _).drew
                simpa using this
              have LT2 : Ints ((w.alloc (.cells #[.int .i64 (Y : Int)] 3)).alloc (.cells #[] 3)).drew (some ⟨w.heap.size, 0, none⟩) 1 [(Y : Int)] := ((own_lit1 w w.heap.size (Y : Int) (Nat.le_refl _)).ints.below (below_new _ _)).below (Below.refl _ _).drew
              have L2 : Below w.heap.size w ((w.alloc (.cells #[.int .i64 (Y : Int)] 3)).alloc (.cells #[] 3)).drew := ((below_new w _).alloc (by simp) _).drew
              refine hKq.out _ _ ?_ (fun hHeld2 => ?_)
              · trivial
              clear hKq Kq
              (try simp only [Act.put, List.setIfInBounds_toArray, List.set_cons_zero, List.set_cons_succ])
              clear hHeld1
              refine wpAnyH_ready (rs := [4]) (by kernel_rfl) (by simp) ?_
              refine consH rfl (fun Kq hKq => ?_)
              refine step_appI rfl _ _ rfl w.heap.size _ [] (by rfl) N2 _ _ _ A (by rfl) ?_ ?_ ?_ ?_ ?_
              · intro h; first | rfl | exact Hcap.out h | cases h
              · exact HA0.out.below L2
              · simp <;> omega
              · have := L2.size; omega
              intro v1 w1 o1 b1 m1
              have L3 := L2.trans b1
              have LT3 := LT2.moved m1 (fun _ p hp e => by cases hp; simp [Value.ownBlock] at e)
              refine hKq.out _ _ ?_ (fun hHeld3 => ?_)
              · trivial
              clear hKq Kq
              (try simp only [Act.put, List.setIfInBounds_toArray, List.set_cons_zero, List.set_cons_succ])
              clear hHeld2
              refine wpAnyH_ready (rs := [7]) (by kernel_rfl) (by simp) ?_
              refine consH rfl (fun Kq hKq => ?_)
              refine step_appI rfl _ _ rfl w.heap.size _ _ (by rfl) o1 _ _ _ [(Y : Int)] (by rfl) ?_ ?_ ?_ ?_ ?_
              · intro h; first | rfl | exact Hcap.out h | cases h
              · exact LT3.1
              · simp <;> omega
              · have := L3.size; omega
              intro v2 w2 o2 b2 m2
              have L4 := L3.trans b2
              refine hKq.out _ _ ?_ (fun hHeld4 => ?_)
              · trivial
              clear hKq Kq
              (try simp only [Act.put, List.setIfInBounds_toArray, List.set_cons_zero, List.set_cons_succ])
              clear hHeld3
              refine wpAnyH_ready (rs := [11]) (by kernel_rfl) (by simp) ?_
              refine consH rfl (fun Kq hKq => ?_)
              refine step_appI rfl _ _ rfl w.heap.size _ _ (by rfl) o2 _ _ _ [] (by rfl) ?_ ?_ ?_ ?_ ?_
              · intro h; first | rfl | exact Hcap.out h | cases h
              · exact ints_nil _ _
              · simp <;> omega
              · have := L4.size; omega
              intro v3 w3 o3 b3 m3
              refine hKq.out _ _ ?_ (fun hHeld5 => ?_)
              · trivial
              clear hKq Kq
              (try simp only [Act.put, List.setIfInBounds_toArray, List.set_cons_zero, List.set_cons_succ])
              clear hHeld4
              refine takeH (i := 12) (oi := _) (v := ?_) rfl (by kernel_rfl) (by kernel_rfl) (by kernel_rfl) (fun _ _ _ h => h) (Or.inl ⟨by rfl, ?_⟩) (by assumption) ?_
              rotate_left
              · first | (intro w hSw; (try dsimp only at hSw); go_simp; done) | (intro w hSw; (try dsimp only at hSw); go_simp; with_reducible rfl)
              (try simp only [Act.put, List.setIfInBounds_toArray, List.set_cons_zero, List.set_cons_succ])
              refine wpAnyH_done (by kernel_rfl) ?_ _
              refine NoPanic.normal ?_
              go_wp2_with fail
              go_ret
              exact ⟨_, rfl, by
                have := o3.mono hb
                rw [HR.out, Hp.out, if_neg Bool.false_ne_true]
                simpa using this, L4.trans b3⟩
          · have x1 : (A.length : Int) ≤ (cap : Int) := by omega
            have x4 : (A.length : Int) ≤ (A.length : Int) := by omega
            go_wp2_with fail
            refine wp_region_noPanic ?_
            refine wp_region_held_drew (S := (fun _ => True)) (by kernel_rfl) ?_ (fun hHeld0 => ?_)
            · trivial
            refine takeH (i := 1) (oi := _) (v := ?_) rfl (by kernel_rfl) (by kernel_rfl) (by kernel_rfl) (fun _ _ _ h => h) (Or.inl ⟨by rfl, ?_⟩) (by assumption) ?_
            rotate_left
            · first | (intro w hSw; (try dsimp only at hSw); go_simp; done) | (intro w hSw; (try dsimp only at hSw); go_simp; with_reducible rfl)
            (try simp only [Act.put, List.setIfInBounds_toArray, List.set_cons_zero, List.set_cons_succ])
            refine takeH (i := 2) (oi := _) (v := ?_) rfl (by kernel_rfl) (by kernel_rfl) (by kernel_rfl) (fun _ _ _ h => h) (Or.inl ⟨by rfl, ?_⟩) (by assumption) ?_
            rotate_left
            · first | (intro w hSw; (try dsimp only at hSw); go_simp; done) | (intro w hSw; (try dsimp only at hSw); go_simp; with_reducible rfl)
            (try simp only [Act.put, List.setIfInBounds_toArray, List.set_cons_zero, List.set_cons_succ])
            refine takeH (i := 3) (oi := _) (v := ?_) rfl (by kernel_rfl) (by kernel_rfl) (by kernel_rfl) (fun _ _ _ h => h) (Or.inl ⟨by rfl, ?_⟩) (by assumption) ?_
            rotate_left
            · first | (intro w hSw; (try dsimp only at hSw); go_simp; done) | (intro w hSw; (try dsimp only at hSw); go_simp; with_reducible rfl)
            (try simp only [Act.put, List.setIfInBounds_toArray, List.set_cons_zero, List.set_cons_succ])
            refine takeH (i := 5) (oi := _) (v := ?_) rfl (by kernel_rfl) (by kernel_rfl) (by kernel_rfl) (fun _ _ _ h => h) (Or.inl ⟨by rfl, ?_⟩) (by assumption) ?_
            rotate_left
            · first | (intro w hSw; (try dsimp only at hSw); go_simp; done) | (intro w hSw; (try dsimp only at hSw); go_simp; with_reducible rfl)
            (try simp only [Act.put, List.setIfInBounds_toArray, List.set_cons_zero, List.set_cons_succ])
            refine takeH (i := 8) (oi := _) (v := ?_) rfl (by kernel_rfl) (by kernel_rfl) (by kernel_rfl) (fun _ _ _ h => h) (Or.inl ⟨by rfl, ?_⟩) (by assumption) ?_
            rotate_left
            · first | (intro w hSw; (try dsimp only at hSw); go_simp; done) | (intro w hSw; (try dsimp only at hSw); go_simp; with_reducible rfl)
            (try simp only [Act.put, List.setIfInBounds_toArray, List.set_cons_zero, List.set_cons_succ])
            refine takeH (i := 9) (oi := _) (v := ?_) rfl (by kernel_rfl) (by kernel_rfl) (by kernel_rfl) (fun _ _ _ h => h) (Or.inl ⟨by rfl, ?_⟩) (by assumption) ?_
            rotate_left
            · first | (intro w hSw; (try dsimp only at hSw); go_simp; done) | (intro w hSw; (try dsimp only at hSw); go_simp; with_reducible rfl)
            (try simp only [Act.put, List.setIfInBounds_toArray, List.set_cons_zero, List.set_cons_succ])
            refine takeH (i := 10) (oi := _) (v := ?_) rfl (by kernel_rfl) (by kernel_rfl) (by kernel_rfl) (fun _ _ _ h => h) (Or.inl ⟨by rfl, ?_⟩) (by assumption) ?_
            rotate_left
            · first | (intro w hSw; (try dsimp only at hSw); go_simp; done) | (intro w hSw; (try dsimp only at hSw); go_simp; with_reducible rfl)
            (try simp only [Act.put, List.setIfInBounds_toArray, List.set_cons_zero, List.set_cons_succ])
            refine wpAnyH_ready (rs := [0, 6]) (by kernel_rfl) (by simp) ?_
            refine consM rfl (fun Kq hKq => ?_) (consH rfl (fun Kq hKq => ?_))
            · go_simp
              have L1 : Below w.heap.size w (w.alloc (.cells #[] 3)).drew := (below_new w _).drew
              have N1 : Own (w.alloc (.cells #[] 3)).drew w.heap.size (.slice (some ⟨w.heap.size, 0, none⟩) 0 0) [] := (own_nil0 w).below (Below.refl _ _).drew
              refine hKq.out _ _ ?_ (fun hHeld1 => ?_)
              · trivial
              clear hKq Kq
              (try simp only [Act.put, List.setIfInBounds_toArray, List.set_cons_zero, List.set_cons_succ])
              clear hHeld0
              refine wpAnyH_ready (rs := [4, 6]) (by kernel_rfl) (by simp) ?_
              refine consM rfl (fun Kq hKq => ?_) (consH rfl (fun Kq hKq => ?_))
              · refine step_appI rfl _ _ rfl w.heap.size _ [] (by rfl) N1 _ _ _ A (by rfl) ?_ ?_ ?_ ?_ ?_
                · intro h; first | rfl | exact Hcap.out h | cases h
                · exact HA0.out.below L1
                · simp <;> omega
                · have := L1.size; omega
                intro v1 w1 o1 b1 m1
                have L2 := L1.trans b1
                refine hKq.out _ _ ?_ (fun hHeld2 => ?_)
                · trivial
                clear hKq Kq
                (try simp only [Act.put, List.setIfInBounds_toArray, List.set_cons_zero, List.set_cons_succ])
                clear hHeld1
                refine wpAnyH_ready (rs := [6]) (by kernel_rfl) (by simp) ?_
                refine consH rfl (fun Kq hKq => ?_)
                go_simp
                have LT3 := (own_lit1 w1 w.heap.size (Y : Int) L2.size).ints
                have o1' := o1.below (below_new w1 (.cells #[.int .i64 (Y : Int)] 3))
                have L3 := L2.trans (Below.mono (below_new w1 (.cells #[.int .i64 (Y : Int)] 3)) L2.size)
                refine hKq.out _ _ ?_ (fun hHeld3 => ?_)
                · trivial
                clear hKq Kq
                (try simp only [Act.put, List.setIfInBounds_toArray, List.set_cons_zero, List.set_cons_succ])
                clear hHeld2
                refine wpAnyH_ready (rs := [7]) (by kernel_rfl) (by simp) ?_
                refine consH rfl (fun Kq hKq => ?_)
                refine step_appI rfl _ _ rfl w.heap.size _ _ (by rfl) o1' _ _ _ [(Y : Int)] (by rfl) ?_ ?_ ?_ ?_ ?_
                · intro h; first | rfl | exact Hcap.out h | cases h
                · exact LT3
                · simp <;> omega
                · have := L3.size; omega
                intro v2 w2 o2 b2 m2
                have L4 := L3.trans b2
                refine hKq.out _ _ ?_ (fun hHeld4 => ?_)
                · trivial
                clear hKq Kq
                (try simp only [Act.put, List.setIfInBounds_toArray, List.set_cons_zero, List.set_cons_succ])
                clear hHeld3
                refine wpAnyH_ready (rs := [11]) (by kernel_rfl) (by simp) ?_
                refine consH rfl (fun Kq hKq => ?_)
                refine step_appI rfl _ _ rfl w.heap.size _ _ (by rfl) o2 _ _ _ [] (by rfl) ?_ ?_ ?_ ?_ ?_
                · intro h; first | rfl | exact Hcap.out h | cases h
                · exact ints_nil _ _
                · simp <;> omega
                · have := L4.size; omega
                intro v3 w3 o3 b3 m3
                refine hKq.out _ _ ?_ (fun hHeld5 => ?_)
                · trivial
                clear hKq Kq
                (try simp only [Act.put, List.setIfInBounds_toArray, List.set_cons_zero, List.set_cons_succ])
                clear hHeld4
                refine takeH (i := 12) (oi := _) (v := ?_) rfl (by kernel_rfl) (by kernel_rfl) (by kernel_rfl) (fun _ _ _ h => h) (Or.inl ⟨by rfl, ?_⟩) (by assumption) ?_
                rotate_left
                · first | (intro w hSw; (try dsimp only at hSw); go_simp; done) | (intro w hSw; (try dsimp only at hSw); go_simp; with_reducible rfl)
                (try simp only [Act.put, List.setIfInBounds_toArray, List.set_cons_zero, List.set_cons_succ])
                refine wpAnyH_done (by kernel_rfl) ?_ _
                refine NoPanic.normal ?_
                go_wp2_with fail
                go_ret
                exact ⟨_, rfl, by
                  have := o3.mono hb
                  rw [HR.out, Hp.out, if_neg Bool.false_ne_true]
                  simpa using this, L4.trans b3⟩
              · go_simp
                have N2 : Own ((w.alloc (.cells #[] 3)).alloc (.cells #[.int .i64 (Y : Int)] 3)).drew w.heap.size (.slice (some ⟨w.heap.size, 0, none⟩) 0 0) [] := ((own_nil0 w).below (below_new _ _)).below (Below.refl _ _).drew
                have LT2 : Ints ((w.alloc (.cells #[] 3)).alloc (.cells #[.int .i64 (Y : Int)] 3)).drew (some ⟨w.heap.size + 1, 0, none⟩) 1 [(Y : Int)] := by
                  have := (own_lit1 (w.alloc (.cells #[] 3)) w.heap.size (Y : Int) (by simp)).ints.below (Below.refl _ _).drew
                  simpa using this
                have L2 : Below w.heap.size w ((w.alloc (.cells #[] 3)).alloc (.cells #[.int .i64 (Y : Int)] 3)).drew := ((below_new w _).alloc (by simp) _).drew
                refine hKq.out _ _ ?_ (fun hHeld2 => ?_)
                · trivial
                clear hKq Kq
                (try simp only [Act.put, List.setIfInBounds_toArray, List.set_cons_zero, List.set_cons_succ])
                clear hHeld1
                refine wpAnyH_ready (rs := [4]) (by kernel_rfl) (by simp) ?_
                refine consH rfl (fun Kq hKq => ?_)
                refine step_appI rfl _ _ rfl w.heap.size _ [] (by rfl) N2 _ _ _ A (by rfl) ?_ ?_ ?_ ?_ ?_
                · intro h; first | rfl | exact Hcap.out h | cases h
                · exact HA0.out.below L2
                · simp <;> omega
                · have := L2.size; omega
                intro v1 w1 o1 b1 m1
                have L3 := L2.trans b1
                have LT3 := LT2.moved m1 (fun _ p hp e => by cases hp; simp [Value.ownBlock] at e)
                refine hKq.out _ _ ?_ (fun hHeld3 => ?_)
                · trivial
                clear hKq Kq
                (try simp only [Act.put, List.setIfInBounds_toArray, List.set_cons_zero, List.set_cons_succ])
                clear hHeld2
                refine wpAnyH_ready (rs := [7]) (by kernel_rfl) (by simp) ?_
                refine consH rfl (fun Kq hKq => ?_)
                refine step_appI rfl _ _ rfl w.heap.size _ _ (by rfl) o1 _ _ _ [(Y : Int)] (by rfl) ?_ ?_ ?_ ?_ ?_
                · intro h; first | rfl | exact Hcap.out h | cases h
                · exact LT3.1
                · simp <;> omega
                · have := L3.size; omega
                intro v2 w2 o2 b2 m2
                have L4 := L3.trans b2
                refine hKq.out _ _ ?_ (fun hHeld4 => ?_)
                · trivial
                clear hKq Kq
                (try simp only [Act.put, List.setIfInBounds_toArray, List.set_cons_zero, List.set_cons_succ])
                clear hHeld3
                refine wpAnyH_ready (rs := [11]) (by kernel_rfl) (by simp) ?_
                refine consH rfl (fun Kq hKq => ?_)
                refine step_appI rfl _ _ rfl w.heap.size _ _ (by rfl) o2 _ _ _ [] (by rfl) ?_ ?_ ?_ ?_ ?_
                · intro h; first | rfl | exact Hcap.out h | cases h
                · exact ints_nil _ _
                · simp <;> omega
                · have := L4.size; omega
                intro v3 w3 o3 b3 m3
                refine hKq.out _ _ ?_ (fun hHeld5 => ?_)
                · trivial
                clear hKq Kq
                (try simp only [Act.put, List.setIfInBounds_toArray, List.set_cons_zero, List.set_cons_succ])
                clear hHeld4
                refine takeH (i := 12) (oi := _) (v := ?_) rfl (by kernel_rfl) (by kernel_rfl) (by kernel_rfl) (fun _ _ _ h => h) (Or.inl ⟨by rfl, ?_⟩) (by assumption) ?_
                rotate_left
                · first | (intro w hSw; (try dsimp only at hSw); go_simp; done) | (intro w hSw; (try dsimp only at hSw); go_simp; with_reducible rfl)
                (try simp only [Act.put, List.setIfInBounds_toArray, List.set_cons_zero, List.set_cons_succ])
                refine wpAnyH_done (by kernel_rfl) ?_ _
                refine NoPanic.normal ?_
                go_wp2_with fail
                go_ret
                exact ⟨_, rfl, by
                  have := o3.mono hb
                  rw [HR.out, Hp.out, if_neg Bool.false_ne_true]
                  simpa using this, L4.trans b3⟩
            · go_simp
              have L1 : Below w.heap.size w (w.alloc (.cells #[.int .i64 (Y : Int)] 3)).drew := (below_new w _).drew
              refine hKq.out _ _ ?_ (fun hHeld1 => ?_)
              · trivial
              clear hKq Kq
              (try simp only [Act.put, List.setIfInBounds_toArray, List.set_cons_zero, List.set_cons_succ])
              clear hHeld0
              refine wpAnyH_ready (rs := [0]) (by kernel_rfl) (by simp) ?_
              refine consH rfl (fun Kq hKq => ?_)
              go_simp
              have N2 : Own ((w.alloc (.cells #[.int .i64 (Y : Int)] 3)).alloc (.cells #[] 3)).drew w.heap.size (.slice (some ⟨w.heap.size + 1, 0, none⟩) 0 0) [] := by
                have := ((own_nil0 (w.alloc (.cells #[.int .i64 (Y : Int)] 3))).mono (base' := w.heap.size) (by simp)).below (Below.refl _ _).drew
                simpa using this
              have LT2 : Ints ((w.alloc (.cells #[.int .i64 (Y : Int)] 3)).alloc (.cells #[] 3)).drew (some ⟨w.heap.size, 0, none⟩) 1 [(Y : Int)] := ((own_lit1 w w.heap.size (Y : Int) (Nat.le_refl _)).ints.below (below_new _ _)).below (Below.refl _ _).drew
              have L2 : Below w.heap.size w ((w.alloc (.cells #[.int .i64 (Y : Int)] 3)).alloc (.cells #[] 3)).drew := ((below_new w _).alloc (by simp) _).drew
              refine hKq.out _ _ ?_ (fun hHeld2 => ?_)
              · trivial
              clear hKq Kq
              (try simp only [Act.put, List.setIfInBounds_toArray, List.set_cons_zero, List.set_cons_succ])
              clear hHeld1
              refine wpAnyH_ready (rs := [4]) (by kernel_rfl) (by simp) ?_
              refine consH rfl (fun Kq hKq => ?_)
              refine step_appI rfl _ _ rfl w.heap.size _ [] (by rfl) N2 _ _ _ A (by rfl) ?_ ?_ ?_ ?_ ?_
              · intro h; first | rfl | exact Hcap.out h | cases h
              · exact HA0.out.below L2
              · simp <;> omega
              · have := L2.size; omega
              intro v1 w1 o1 b1 m1
              have L3 := L2.trans b1
              have LT3 := LT2.moved m1 (fun _ p hp e => by cases hp; simp [Value.ownBlock] at e)
              refine hKq.out _ _ ?_ (fun hHeld3 => ?_)
              · trivial
              clear hKq Kq
              (try simp only [Act.put, List.setIfInBounds_toArray, List.set_cons_zero, List.set_cons_succ])
              clear hHeld2
              refine wpAnyH_ready (rs := [7]) (by kernel_rfl) (by simp) ?_
              refine consH rfl (fun Kq hKq => ?_)
              refine step_appI rfl _ _ rfl w.heap.size _ _ (by rfl) o1 _ _ _ [(Y : Int)] (by rfl) ?_ ?_ ?_ ?_ ?_
              · intro h; first | rfl | exact Hcap.out h | cases h
              · exact LT3.1
              · simp <;> omega
              · have := L3.size; omega
              intro v2 w2 o2 b2 m2
              have L4 := L3.trans b2
              refine hKq.out _ _ ?_ (fun hHeld4 => ?_)
              · trivial
              clear hKq Kq
              (try simp only [Act.put, List.setIfInBounds_toArray, List.set_cons_zero, List.set_cons_succ])
              clear hHeld3
              refine wpAnyH_ready (rs := [11]) (by kernel_rfl) (by simp) ?_
              refine consH rfl (fun Kq hKq => ?_)
              refine step_appI rfl _ _ rfl w.heap.size _ _ (by rfl) o2 _ _ _ [] (by rfl) ?_ ?_ ?_ ?_ ?_
              · intro h; first | rfl | exact Hcap.out h | cases h
              · exact ints_nil _ _
              · simp <;> omega
              · have := L4.size; omega
              intro v3 w3 o3 b3 m3
              refine hKq.out _ _ ?_ (fun hHeld5 => ?_)
              · trivial
              clear hKq Kq
              (try simp only [Act.put, List.setIfInBounds_toArray, List.set_cons_zero, List.set_cons_succ])
              clear hHeld4
              refine takeH (i := 12) (oi := _) (v := ?_) rfl (by kernel_rfl) (by kernel_rfl) (by kernel_rfl) (fun _ _ _ h => h) (Or.inl ⟨by rfl, ?_⟩) (by assumption) ?_
              rotate_left
              · first | (intro w hSw; (try dsimp only at hSw); go_simp; done) | (intro w hSw; (try dsimp only at hSw); go_simp; with_reducible rfl)
              (try simp only [Act.put, List.setIfInBounds_toArray, List.set_cons_zero, List.set_cons_succ])
              refine wpAnyH_done (by kernel_rfl) ?_ _
              refine NoPanic.normal ?_
              go_wp2_with fail
              go_ret
              exact ⟨_, rfl, by
                have := o3.mono hb
                rw [HR.out, Hp.out, if_neg Bool.false_ne_true]
                simpa using this, L4.trans b3⟩
      | cons u B' =>
        subst hB
        obtain ⟨b, off, rfl, hcl⟩ := HI.out.at (i := A.length) (Below.refl _ _) (by have hlen := Hlen.out; simp at hlen; omega)
        have hat : nth (A ++ u :: B') A.length = u := by unfold nth; simp [List.getD]
        rw [hat] at hcl
        have hin : (A.length : Int) < n := by have hlen := Hlen.out; simp at hlen; omega
        cases hp : p Y
        · have hgt := H4.out hp u (by simp)
          have Hp := Lib.hid hp
          have hne : (u == (Y : Int)) = false := by rw [beq_eq_false_iff_ne]; omega
          have hnlt : ¬ u < (Y : Int) := by omega
          clear hp hat
          have x1 : (A.length : Int) ≤ (cap : Int) := by omega
          have x2 : (0 : Int) ≤ (A.length : Int) := by omega
          have x3 : ¬ cap = A.length := by omega
          have x4 : (A.length : Int) ≤ (n : Int) := by omega
          have x5 : (n : Int) ≤ (cap : Int) := by omega
          have HB0 : Hid (Ints w (some ⟨b, off + A.length, none⟩) (n - A.length) (u :: B')) := Lib.hid (by have := HI.out.drop A.length; rwa [List.drop_left' rfl] at this)
          have hBl : n - A.length ≤ 1048576 := by omega
          go_wp2_with fail
          refine wp_region_noPanic ?_
          refine wp_region_held_drew (S := (fun _ => True)) (by kernel_rfl) ?_ (fun hHeld0 => ?_)
          · trivial
          refine takeH (i := 1) (oi := _) (v := ?_) rfl (by kernel_rfl) (by kernel_rfl) (by kernel_rfl) (fun _ _ _ h => h) (Or.inl ⟨by rfl, ?_⟩) (by assumption) ?_
          rotate_left
          · first | (intro w hSw; (try dsimp only at hSw); go_simp; done) | (intro w hSw; (try dsimp only at hSw); go_simp; with_reducible rfl)
          (try simp only [Act.put, List.setIfInBounds_toArray, List.set_cons_zero, List.set_cons_succ])
          refine takeH (i := 2) (oi := _) (v := ?_) rfl (by kernel_rfl) (by kernel_rfl) (by kernel_rfl) (fun _ _ _ h => h) (Or.inl ⟨by rfl, ?_⟩) (by assumption) ?_
          rotate_left
          · first | (intro w hSw; (try dsimp only at hSw); go_simp; done) | (intro w hSw; (try dsimp only at hSw); go_simp; with_reducible rfl)
          (try simp only [Act.put, List.setIfInBounds_toArray, List.set_cons_zero, List.set_cons_succ])
          refine takeH (i := 3) (oi := _) (v := ?_) rfl (by kernel_rfl) (by kernel_rfl) (by kernel_rfl) (fun _ _ _ h => h) (Or.inl ⟨by rfl, ?_⟩) (by assumption) ?_
          rotate_left
          · first | (intro w hSw; (try dsimp only at hSw); go_simp; done) | (intro w hSw; (try dsimp only at hSw); go_simp; with_reducible rfl)
          (try simp only [Act.put, List.setIfInBounds_toArray, List.set_cons_zero, List.set_cons_succ])
          refine takeH (i := 5) (oi := _) (v := ?_) rfl (by kernel_rfl) (by kernel_rfl) (by kernel_rfl) (fun _ _ _ h => h) (Or.inl ⟨by rfl, ?_⟩) (by assumption) ?_
          rotate_left
          · first | (intro w hSw; (try dsimp only at hSw); go_simp; done) | (intro w hSw; (try dsimp only at hSw); go_simp; with_reducible rfl)
          (try simp only [Act.put, List.setIfInBounds_toArray, List.set_cons_zero, List.set_cons_succ])
          refine takeH (i := 8) (oi := _) (v := ?_) rfl (by kernel_rfl) (by kernel_rfl) (by kernel_rfl) (fun _ _ _ h => h) (Or.inl ⟨by rfl, ?_⟩) (by assumption) ?_
          rotate_left
          · first | (intro w hSw; (try dsimp only at hSw); go_simp; done) | (intro w hSw; (try dsimp only at hSw); go_simp; with_reducible rfl)
          (try simp only [Act.put, List.setIfInBounds_toArray, List.set_cons_zero, List.set_cons_succ])
          refine takeH (i := 9) (oi := _) (v := ?_) rfl (by kernel_rfl) (by kernel_rfl) (by kernel_rfl) (fun _ _ _ h => h) (Or.inl ⟨by rfl, ?_⟩) (by assumption) ?_
          rotate_left
          · first | (intro w hSw; (try dsimp only at hSw); go_simp; done) | (intro w hSw; (try dsimp only at hSw); go_simp; with_reducible rfl)
          (try simp only [Act.put, List.setIfInBounds_toArray, List.set_cons_zero, List.set_cons_succ])
          refine takeH (i := 10) (oi := _) (v := ?_) rfl (by kernel_rfl) (by kernel_rfl) (by kernel_rfl) (fun _ _ _ h => h) (Or.inl ⟨by rfl, ?_⟩) (by assumption) ?_
          rotate_left
          · first | (intro w hSw; (try dsimp only at hSw); go_simp; done) | (intro w hSw; (try dsimp only at hSw); go_simp; with_reducible rfl)
          (try simp only [Act.put, List.setIfInBounds_toArray, List.set_cons_zero, List.set_cons_succ])
          refine wpAnyH_ready (rs := [0, 6]) (by kernel_rfl) (by simp) ?_
          refine consM rfl (fun Kq hKq => ?_) (consH rfl (fun Kq hKq => ?_))
          · go_simp
            have L1 : Below w.heap.size w (w.alloc (.cells #[] 3)).drew := (below_new w _).drew
            have N1 : Own (w.alloc (.cells #[] 3)).drew w.heap.size (.slice (some ⟨w.heap.size, 0, none⟩) 0 0) [] := (own_nil0 w).below (Below.refl _ _).drew
            refine hKq.out _ _ ?_ (fun hHeld1 => ?_)
            · trivial
            clear hKq Kq
            (try simp only [Act.put, List.setIfInBounds_toArray, List.set_cons_zero, List.set_cons_succ])
            clear hHeld0
            refine wpAnyH_ready (rs := [4, 6]) (by kernel_rfl) (by simp) ?_
            refine consM rfl (fun Kq hKq => ?_) (consH rfl (fun Kq hKq => ?_))
            · refine step_appI rfl _ _ rfl w.heap.size _ [] (by rfl) N1 _ _ _ A (by rfl) ?_ ?_ ?_ ?_ ?_
              · intro h; first | rfl | exact Hcap.out h | cases h
              · exact HA0.out.below L1
              · simp <;> omega
              · have := L1.size; omega
              intro v1 w1 o1 b1 m1
              have L2 := L1.trans b1
              refine hKq.out _ _ ?_ (fun hHeld2 => ?_)
              · trivial
              clear hKq Kq
              (try simp only [Act.put, List.setIfInBounds_toArray, List.set_cons_zero, List.set_cons_succ])
              clear hHeld1
              refine wpAnyH_ready (rs := [6]) (by kernel_rfl) (by simp) ?_
              refine consH rfl (fun Kq hKq => ?_)
              go_simp
              have LT3 := (own_lit1 w1 w.heap.size (Y : Int) L2.size).ints
              have o1' := o1.below (below_new w1 (.cells #[.int .i64 (Y : Int)] 3))
              have L3 := L2.trans (Below.mono (below_new w1 (.cells #[.int .i64 (Y : Int)] 3)) L2.size)
              refine hKq.out _ _ ?_ (fun hHeld3 => ?_)
              · trivial
              clear hKq Kq
              (try simp only [Act.put, List.setIfInBounds_toArray, List.set_cons_zero, List.set_cons_succ])
              clear hHeld2
              refine wpAnyH_ready (rs := [7]) (by kernel_rfl) (by simp) ?_
              refine consH rfl (fun Kq hKq => ?_)
              refine step_appI rfl _ _ rfl w.heap.size _ _ (by rfl) o1' _ _ _ [(Y : Int)] (by rfl) ?_ ?_ ?_ ?_ ?_
              · intro h; first | rfl | exact Hcap.out h | cases h
              · exact LT3
              · simp <;> omega
              · have := L3.size; omega
              intro v2 w2 o2 b2 m2
              have L4 := L3.trans b2
              refine hKq.out _ _ ?_ (fun hHeld4 => ?_)
              · trivial
              clear hKq Kq
              (try simp only [Act.put, List.setIfInBounds_toArray, List.set_cons_zero, List.set_cons_succ])
              clear hHeld3
              refine wpAnyH_ready (rs := [11]) (by kernel_rfl) (by simp) ?_
              refine consH rfl (fun Kq hKq => ?_)
              refine step_appI rfl _ _ rfl w.heap.size _ _ (by rfl) o2 _ _ _ (u :: B') (by rfl) ?_ ?_ ?_ ?_ ?_
              · intro h; first | rfl | exact Hcap.out h | cases h
              · exact HB0.out.below L4
              · simp <;> omega
              · have := L4.size; omega
              intro v3 w3 o3 b3 m3
              refine hKq.out _ _ ?_ (fun hHeld5 => ?_)
              · trivial
              clear hKq Kq
              (try simp only [Act.put, List.setIfInBounds_toArray, List.set_cons_zero, List.set_cons_succ])
              clear hHeld4
              refine takeH (i := 12) (oi := _) (v := ?_) rfl (by kernel_rfl) (by kernel_rfl) (by kernel_rfl) (fun _ _ _ h => h) (Or.inl ⟨by rfl, ?_⟩) (by assumption) ?_
              rotate_left
              · first | (intro w hSw; (try dsimp only at hSw); go_simp; done) | (intro w hSw; (try dsimp only at hSw); go_simp; with_reducible rfl)
              (try simp only [Act.put, List.setIfInBounds_toArray, List.set_cons_zero, List.set_cons_succ])
              refine wpAnyH_done (by kernel_rfl) ?_ _
              refine NoPanic.normal ?_
              go_wp2_with fail
              go_ret
              exact ⟨_, rfl, by
                have := o3.mono hb
                rw [HR.out, Hp.out, if_neg Bool.false_ne_true]
                simpa using this, L4.trans b3⟩
            · go_simp
              have N2 : Own ((w.alloc (.cells #[] 3)).alloc (.cells #[.int .i64 (Y : Int)] 3)).drew w.heap.size (.slice (some ⟨w.heap.size, 0, none⟩) 0 0) [] := ((own_nil0 w).below (below_new _ _)).below (Below.refl _ _).drew
              have LT2 : Ints ((w.alloc (.cells #[] 3)).alloc (.cells #[.int .i64 (Y : Int)] 3)).drew (some ⟨w.heap.size + 1, 0, none⟩) 1 [(Y : Int)] := by
                have := (own_lit1 (w.alloc (.cells #[] 3)) w.heap.size (Y : Int) (by simp)).ints.below (Below.refl _ _).drew
                simpa using this
              have L2 : Below w.heap.size w ((w.alloc (.cells #[] 3)).alloc (.cells #[.int .i64 (Y : Int)] 3)).drew := ((below_new w _).alloc (by simp) _).drew
              refine hKq.out _ _ ?_ (fun hHeld2 => ?_)
              · trivial
              clear hKq Kq
              (try simp only [Act.put, List.setIfInBounds_toArray, List.set_cons_zero, List.set_cons_succ])
              clear hHeld1
              refine wpAnyH_ready (rs := [4]) (by kernel_rfl) (by simp) ?_
              refine consH rfl (fun Kq hKq => ?_)
              refine step_appI rfl _ _ rfl w.heap.size _ [] (by rfl) N2 _ _ _ A (by rfl) ?_ ?_ ?_ ?_ ?_
              · intro h; first | rfl | exact Hcap.out h | cases h
              · exact HA0.out.below L2
              · simp <;> omega
              · have := L2.size; omega
              intro v1 w1 o1 b1 m1
              have L3 := L2.trans b1
              have LT3 := LT2.moved m1 (fun _ p hp e => by cases hp; simp [Value.ownBlock] at e)
              refine hKq.out _ _ ?_ (fun hHeld3 => ?_)
              · trivial
              clear hKq Kq
              (try simp only [Act.put, List.setIfInBounds_toArray, List.set_cons_zero, List.set_cons_succ])
              clear hHeld2
              refine wpAnyH_ready (rs := [7]) (by kernel_rfl) (by simp) ?_
              refine consH rfl (fun Kq hKq => ?_)
              refine step_appI rfl _ _ rfl w.heap.size _ _ (by rfl) o1 _ _ _ [(Y : Int)] (by rfl) ?_ ?_ ?_ ?_ ?_
              · intro h; first | rfl | exact Hcap.out h | cases h
              · exact LT3.1
              · simp <;> omega
              · have := L3.size; omega
              intro v2 w2 o2 b2 m2
              have L4 := L3.trans b2
              refine hKq.out _ _ ?_ (fun hHeld4 => ?_)
              · trivial
              clear hKq Kq
              (try simp only [Act.put, List.setIfInBounds_toArray, List.set_cons_zero, List.set_cons_succ])
              clear hHeld3
              refine wpAnyH_ready (rs := [11]) (by kernel_rfl) (by simp) ?_
              refine consH rfl (fun Kq hKq => ?_)
              refine step_appI rfl _ _ rfl w.heap.size _ _ (by rfl) o2 _ _ _ (u :: B') (by rfl) ?_ ?_ ?_ ?_ ?_
              · intro h; first | rfl | exact Hcap.out h | cases h
              · exact HB0.out.below L4
              · simp <;> omega
              · have := L4.size; omega
              intro v3 w3 o3 b3 m3
              refine hKq.out _ _ ?_ (fun hHeld5 => ?_)
              · trivial
              clear hKq Kq
              (try simp only [Act.put, List.setIfInBounds_toArray, List.set_cons_zero, List.set_cons_succ])
              clear hHeld4
              refine takeH (i := 12) (oi := _) (v := ?_) rfl (by kernel_rfl) (by kernel_rfl) (by kernel_rfl) (fun _ _ _ h => h) (Or.inl ⟨by rfl, ?_⟩) (by assumption) ?_
              rotate_left
              · first | (intro w hSw; (try dsimp only at hSw); go_simp; done) | (intro w hSw; (try dsimp only at hSw); go_simp; with_reducible rfl)
              (try simp only [Act.put, List.setIfInBounds_toArray, List.set_cons_zero, List.set_cons_succ])
              refine wpAnyH_done (by kernel_rfl) ?_ _
              refine NoPanic.normal ?_
              go_wp2_with fail
              go_ret
              exact ⟨_, rfl, by
                have := o3.mono hb
                rw [HR.out, Hp.out, if_neg Bool.false_ne_true]
                simpa using this, L4.trans b3⟩
          · go_simp
            have L1 : Below w.heap.size w (w.alloc (.cells #[.int .i64 (Y : Int)] 3)).drew := (below_new w _).drew
            refine hKq.out _ _ ?_ (fun hHeld1 => ?_)
            · trivial
            clear hKq Kq
            (try simp only [Act.put, List.setIfInBounds_toArray, List.set_cons_zero, List.set_cons_succ])
            clear hHeld0
            refine wpAnyH_ready (rs := [0]) (by kernel_rfl) (by simp) ?_
            refine consH rfl (fun Kq hKq => ?_)
            go_simp
            have N2 : Own ((w.alloc (.cells #[.int .i64 (Y : Int)] 3)).alloc (.cells #[] 3)).drew w.heap.size (.slice (some ⟨w.heap.size + 1, 0, none⟩) 0 0) [] := by
              have := ((own_nil0 (w.alloc (.cells #[.int .i64 (Y : Int)] 3))).mono (base' := w.heap.size) (by simp)).below (Below.refl _ _).drew
              simpa using this
            have LT2 : Ints ((w.alloc (.cells #[.int .i64 (Y : Int)] 3)).alloc (.cells #[] 3)).drew (some ⟨w.heap.size, 0, none⟩) 1 [(Y : Int)] := ((own_lit1 w w.heap.size (Y : Int) (Nat.le_refl _)).ints.below (below_new _ _)).below (Below.refl _ _).drew
            have L2 : Below w.heap.size w ((w.alloc (.cells #[.int .i64 (Y : Int)] 3)).alloc (.cells #[] 3)).drew := ((below_new w _).alloc (by simp) _).drew
            refine hKq.out _ _ ?_ (fun hHeld2 => ?_)
            · trivial
            clear hKq Kq
            (try simp only [Act.put, List.setIfInBounds_toArray, List.set_cons_zero, List.set_cons_succ])
            clear hHeld1
            refine wpAnyH_ready (rs := [4]) (by kernel_rfl) (by simp) ?_
            refine consH rfl (fun Kq hKq => ?_)
            refine step_appI rfl _ _ rfl w.heap.size _ [] (by rfl) N2 _ _ _ A (by rfl) ?_ ?_ ?_ ?_ ?_
            · intro h; first | rfl | exact Hcap.out h | cases h
            · exact HA0.out.below L2
            · simp <;> omega
            · have := L2.size; omega
            intro v1 w1 o1 b1 m1
            have L3 := L2.trans b1
            have LT3 := LT2.moved m1 (fun _ p hp e => by cases hp; simp [Value.ownBlock] at e)
            refine hKq.out _ _ ?_ (fun hHeld3 => ?_)
            · trivial
            clear hKq Kq
            (try simp only [Act.put, List.setIfInBounds_toArray, List.set_cons_zero, List.set_cons_succ])
            clear hHeld2
            refine wpAnyH_ready (rs := [7]) (by kernel_rfl) (by simp) ?_
            refine consH rfl (fun Kq hKq => ?_)
            refine step_appI rfl _ _ rfl w.heap.size _ _ (by rfl) o1 _ _ _ [(Y : Int)] (by rfl) ?_ ?_ ?_ ?_ ?_
            · intro h; first | rfl | exact Hcap.out h | cases h
            · exact LT3.1
            · simp <;> omega
            · have := L3.size; omega
            intro v2 w2 o2 b2 m2
            have L4 := L3.trans b2
            refine hKq.out _ _ ?_ (fun hHeld4 => ?_)
            · trivial
            clear hKq Kq
            (try simp only [Act.put, List.setIfInBounds_toArray, List.set_cons_zero, List.set_cons_succ])
            clear hHeld3
            refine wpAnyH_ready (rs := [11]) (by kernel_rfl) (by simp) ?_
            refine consH rfl (fun Kq hKq => ?_)
            refine step_appI rfl _ _ rfl w.heap.size _ _ (by rfl) o2 _ _ _ (u :: B') (by rfl) ?_ ?_ ?_ ?_ ?_
            · intro h; first | rfl | exact Hcap.out h | cases h
            · exact HB0.out.below L4
            · simp <;> omega
            · have := L4.size; omega
            intro v3 w3 o3 b3 m3
            refine hKq.out _ _ ?_ (fun hHeld5 => ?_)
            · trivial
            clear hKq Kq
            (try simp only [Act.put, List.setIfInBounds_toArray, List.set_cons_zero, List.set_cons_succ])
            clear hHeld4
            refine takeH (i := 12) (oi := _) (v := ?_) rfl (by kernel_rfl) (by kernel_rfl) (by kernel_rfl) (fun _ _ _ h => h) (Or.inl ⟨by rfl, ?_⟩) (by assumption) ?_
            rotate_left
            · first | (intro w hSw; (try dsimp only at hSw); go_simp; done) | (intro w hSw; (try dsimp only at hSw); go_simp; with_reducible rfl)
            (try simp only [Act.put, List.setIfInBounds_toArray, List.set_cons_zero, List.set_cons_succ])
            refine wpAnyH_done (by kernel_rfl) ?_ _
            refine NoPanic.normal ?_
            go_wp2_with fail
            go_ret
            exact ⟨_, rfl, by
              have := o3.mono hb
              rw [HR.out, Hp.out, if_neg Bool.false_ne_true]
              simpa using this, L4.trans b3⟩
        · obtain ⟨b', hb', _⟩ := H3.out hp
          cases hb'
          have Hp := Lib.hid hp
          have hnlt : ¬ (Y : Int) < (Y : Int) := by omega
          have heq : ((Y : Int) == (Y : Int)) = true := by simp
          clear hp hat
          go_wp2_with fail
          go_ret
          exact ⟨_, rfl, by rw [HR.out, Hp.out, if_pos rfl]; exact H.out, Below.refl _ _⟩
end Go.Proofs.Ytjkkfjipgomkdaa
