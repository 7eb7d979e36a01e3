/- Contracts: the earlier and the later one of two stoppings, by the reference. -/
import Derived.Test.YtnbomleieianoaaOn4
import Derived.Test.YtnbomleieianoaaPut
import Derived.Test.YtnbomleieianoaaKeepB
namespace Go.Proofs.Ytnbomleieianoaa
open Go.RowKit

theorem pick_least (x y : Int) : least x y = pickI true x y := by
  rw [pick_t, least]; split <;> split <;> omega
theorem pick_most (x y : Int) : most x y = pickI false x y := by
  rw [pick_f, most]; split <;> split <;> omega
theorem own_one {W w' : World} {e' : Ending} {v : Value} {s : Int} {base : Nat} (he : e' = .returned v) (ho : Own w' base v [s]) (hb : Below W.heap.size W w') : ∃ (gb go q : Nat), e' = .returned (.slice (some ⟨gb, go, none⟩) 1 q) ∧ w'.cell? ⟨gb, go, none⟩ = some (.int .i64 s) ∧ Below W.heap.size W w' := by
  obtain ⟨a, c, rfl⟩ := ho.shape
  obtain ⟨gb, go, rfl, hc⟩ := ho.ints.at (i := 0) (Below.refl _ _) (by simp)
  exact ⟨gb, go, c, he, hc, hb⟩
theorem pick_nat (early : Bool) {x y : Int} (hx : 0 ≤ x) (hy : 0 ≤ y) {n : Nat} (hx2 : x < n) (hy2 : y < n) : ∃ Y : Nat, pickI early x y = (Y : Int) ∧ Y < n := by
  rcases pick_is early x y with h | h
  · exact ⟨x.toNat, by omega, by omega⟩
  · exact ⟨y.toNat, by omega, by omega⟩
set_option maxRecDepth 100000 in
set_option maxHeartbeats 1000000 in
theorem spec_l3Pick (aP : Option Addr) (nP cP : Nat) (aW : Option Addr) (nW cW : Nat) (ps ws : List Int) (aA : Option Addr) (nA cA : Nat) (a : List Int) (aB : Option Addr) (nB cB : Nat) (b : List Int) (later : Bool) (w : World) (h : Tre w aP nP cP aW nW cW ps ws) (hA : Ints w aA nA a) (hnA : nA ≤ 1048576) (hB : Ints w aB nB b) (hnB : nB ≤ 1048576) (hp : Pa ps) (hsa : stopB ps a = true) (hsb : stopB ps b = true) :
    Calls Try.prog 140 #[.agg #[.slice aP nP cP, .slice aW nW cW], .slice aA nA cA, .slice aB nB cB, .bool later] w fun e w' => ∃ v, e = .returned v ∧ Own w' w.heap.size v (mergeV ps a b (!later)) ∧ Below w.heap.size w w' := by
  have hl := h.p.1
  have hlw := h.w.1
  have hpn := h.pn
  have hwn := h.wn
  have hb1 := below_new w (.cells #[.slice aP nP cP, .slice aW nW cW] 26)
  have hP1 := Lib.hid (Pair.new w (.slice aP nP cP) (.slice aW nW cW) 26)
  have H := Lib.hid h
  have Hl := Lib.hid hl
  have Hlw := Lib.hid hlw
  clear h hl hlw
  have HA := Lib.hid hA
  have HB := Lib.hid hB
  clear hA hB
  have Hp := Lib.hid hp
  have hn24 : nP ≤ 24 := by have := hp.n24; have := Hl.out; omega
  obtain ⟨early, hea⟩ : ∃ early, early = !later := ⟨_, rfl⟩
  rw [← hea]
  have Hap := Lib.hid (mergeP_app ps a b early)
  have Hcase : Hid (∀ i, i < (ends ps).length → ∃ (e s1 s2 Y : Nat), e < nP ∧ nth (ends ps) i = (e : Int) ∧ a.filter (hasB (way ps e)) = [(s1 : Int)] ∧ b.filter (hasB (way ps e)) = [(s2 : Int)] ∧ pickI early s1 s2 = (Y : Int) ∧ Y < nP ∧ filt (fun z => mergeP ps a b early ((ends ps).take i) z || z == Y) nP = filt (mergeP ps a b early ((ends ps).take (i + 1))) nP) := Lib.hid fun i hi => by
    obtain ⟨e, h1, h2, h3⟩ := end_nth hi
    obtain ⟨s1, q1, q2, _⟩ := sole_mem hsa hp h1 h2
    obtain ⟨s2, r1, r2, _⟩ := sole_mem hsb hp h1 h2
    have hl := Hl.out
    obtain ⟨Y, y1, y2⟩ := pick_nat early (x := (s1 : Int)) (y := (s2 : Int)) (n := nP) (by omega) (by omega) (by omega) (by omega)
    refine ⟨e, s1, s2, Y, by omega, h3, by rw [on_stop hp hsa h1 h2, q2], by rw [on_stop hp hsb h1 h2, r2], y1, y2, filt_congr fun z hz => ?_⟩
    rw [take_succ_nth hi, h3, Hap.out, Int.toNat_natCast, q2, r2, y1]
    congr 1
    rw [Bool.eq_iff_iff, beq_iff_eq, beq_iff_eq]; omega
  clear hp hsa hsb Hap
  have Hea := Lib.hid hea
  clear hea
  go_enter Try.func140, Try.ntmps140
  have c0 := hP1.out.c0
  have c1 := hP1.out.c1
  go_wp2_with fail
  have hnil := own_nil0 (w.alloc (.cells #[.slice aP nP cP, .slice aW nW cW] 26))
  rw [show (w.alloc (.cells #[.slice aP nP cP, .slice aW nW cW] 26)).heap.size = w.heap.size + 1 by simp] at hnil
  have hb2 : Below w.heap.size w ((w.alloc (.cells #[.slice aP nP cP, .slice aW nW cW] 26)).alloc (.cells #[] 3)) := hb1.alloc (by simp) _
  have hP2 := Lib.hid (hP1.out.alloc (.cells #[] 3))
  have hs2 : ((w.alloc (.cells #[.slice aP nP cP, .slice aW nW cW] 26)).alloc (.cells #[] 3)).heap.size = w.heap.size + 2 := by simp
  have d0 := hP2.out.c0
  have d1 := hP2.out.c1
  generalize ((w.alloc (.cells #[.slice aP nP cP, .slice aW nW cW] 26)).alloc (.cells #[] 3)) = w2 at *
  clear hP1 hb1 c0 c1
  refine (spec_l2Ends _ _ _ _ _ _ ps ws _ (H.out.below hb2) Hp.out).mono ?_
  rintro e w4 ⟨v4, rfl, ho4, hb4⟩
  obtain ⟨a4, c4, rfl⟩ := ho4.shape
  have HE := Lib.hid ho4.ints
  have HP4 := Lib.hid (hP2.out.below hb4)
  have HO4 := Lib.hid (hnil.below hb4)
  have hb14 := hb2.trans (hb4.mono hb2.size)
  have hel : (ends ps).length ≤ 24 := by have := filt_length (endB ps) ps.length; have := Hl.out; rw [ends]; omega
  have Hmv : Hid (mergeV ps a b early = filt (mergeP ps a b early (ends ps)) nP) := Lib.hid (by rw [mergeV, Hl.out])
  have Hnil0 : Hid (filt (mergeP ps a b early ([] : List Int)) nP = []) := Lib.hid (mergeP_nil ps a b early nP)
  clear ho4 hb4 hnil hP2 hb2 hs2 d0 d1
  generalize hes : ends ps = es at *
  clear hes
  go_wp2_with fail
  go_loopw [9, 11] (fun v5 v11 wr => ∃ i : Nat, i ≤ es.length ∧ v11 = .int .i64 (i : Int) ∧ Own wr (w.heap.size + 1) v5 (filt (mergeP ps a b early (es.take i)) nP) ∧ Ints wr a4 es.length es ∧ Pair wr w.heap.size (.slice aP nP cP) (.slice aW nW cW) ∧ Below w.heap.size w wr) (fun _ v11 _ => es.length - (intOf v11).toNat)
  case atStart => exact ⟨0, Nat.zero_le _, rfl, by rw [List.take_zero, Hnil0.out]; exact HO4.out, HE.out, HP4.out, hb14⟩
  case round =>
    clear hb14 HE HO4 HP4 Hnil0
    obtain ⟨i, hi, rfl, hou, hen, hP, hbel⟩ := hrel
    have x0 := hP.c0
    have x1 := hP.c1
    have HP := Lib.hid hP
    have HO := Lib.hid hou
    have HE := Lib.hid hen
    clear hP hou hen
    by_cases hlt : (i : Int) < es.length
    · obtain ⟨be, oe, rfl, hce⟩ := HE.out.at (i := i) (Below.refl _ _) (by omega)
      obtain ⟨e, s1, s2, Y, he, hen, h1, h2, h3, hY, hnext⟩ := Hcase.out i (by omega)
      rw [hen] at hce
      have Hnext := Lib.hid hnext
      have HcA : Hid (∀ W : World, Below w.heap.size w W → Calls Try.prog 137 #[.agg #[.slice aP nP cP, .slice aW nW cW], .slice aA nA cA, .int .i64 (e : Int)] W fun e' w' => ∃ (gb go q : Nat), e' = .returned (.slice (some ⟨gb, go, none⟩) 1 q) ∧ w'.cell? ⟨gb, go, none⟩ = some (.int .i64 (s1 : Int)) ∧ Below W.heap.size W w') := Lib.hid fun W hW => by
        have := spec_l3On _ _ _ _ _ _ ps ws aA nA cA a e W (H.out.below hW) Hp.out (HA.out.below hW) hnA he
        rw [h1] at this
        exact this.mono fun e' w' ⟨v, he, ho, hb⟩ => own_one he ho hb
      have HcB : Hid (∀ W : World, Below w.heap.size w W → Calls Try.prog 137 #[.agg #[.slice aP nP cP, .slice aW nW cW], .slice aB nB cB, .int .i64 (e : Int)] W fun e' w' => ∃ (gb go q : Nat), e' = .returned (.slice (some ⟨gb, go, none⟩) 1 q) ∧ w'.cell? ⟨gb, go, none⟩ = some (.int .i64 (s2 : Int)) ∧ Below W.heap.size W w') := Lib.hid fun W hW => by
        have := spec_l3On _ _ _ _ _ _ ps ws aB nB cB b e W (H.out.below hW) Hp.out (HB.out.below hW) hnB he
        rw [h2] at this
        exact this.mono fun e' w' ⟨v, he, ho, hb⟩ => own_one he ho hb
      have HcM : Hid (later = true → ∀ W : World, Calls Try.prog 94 #[.int .i64 s1, .int .i64 s2] W fun e' w' => e' = .returned (.int .i64 (Y : Int)) ∧ W = w') := Lib.hid fun hl W => by
        have := spec_l1Most s1 s2 W
        rw [pick_most, show false = early by rw [Hea.out, hl]; rfl, h3] at this
        exact this
      have HcL : Hid (later = false → ∀ W : World, Calls Try.prog 143 #[.int .i64 s1, .int .i64 s2] W fun e' w' => e' = .returned (.int .i64 (Y : Int)) ∧ W = w') := Lib.hid fun hl W => by
        have := spec_l1Least s1 s2 W
        rw [pick_least, show true = early by rw [Hea.out, hl]; rfl, h3] at this
        exact this
      obtain ⟨a5, c5, rfl⟩ := HO.out.shape
      have hbs : w.heap.size + 1 ≤ wr.heap.size := by have := HP.out.lt; omega
      have hol := filt_length (mergeP ps a b early (es.take i)) nP
      clear h1 h2 h3 hnext hen
      go_wp2_with fail
      refine wp_region_noPanic ?_
      refine wp_region_held_drew (S := fun W' => KeepR wr W' ∧ W'.cell? ⟨w.heap.size, 0, none⟩ = some (.slice aP nP cP) ∧ W'.cell? ⟨w.heap.size, 1, none⟩ = some (.slice aW nW cW) ∧ W'.cell? ⟨be, oe + i, none⟩ = some (.int .i64 (e : Int))) (by kernel_rfl) ?_ (fun hHeld0 => ?_)
      · (try dsimp only); first | exact keepC3 (by assumption) x0 x1 hce | exact keepC3 (KeepR.start _) x0 x1 hce
      refine takeH (i := 0) (oi := _) (v := ?_) rfl (by kernel_rfl) (by kernel_rfl) (by kernel_rfl) (fun _ _ _ h => h) (Or.inl ⟨by rfl, ?_⟩) (by assumption) ?_
      rotate_left
      · first | (intro w hSw; (try dsimp only at hSw); go_simp; done) | (intro w hSw; (try dsimp only at hSw); go_simp; with_reducible rfl)
      (try simp only [Act.put, List.setIfInBounds_toArray, List.set_cons_zero, List.set_cons_succ])
      refine takeH (i := 1) (oi := _) (v := ?_) rfl (by kernel_rfl) (by kernel_rfl) (by kernel_rfl) (fun _ _ _ h => h) (Or.inl ⟨by rfl, ?_⟩) (by assumption) ?_
      rotate_left
      · first | (intro w hSw; (try dsimp only at hSw); go_simp; done) | (intro w hSw; (try dsimp only at hSw); go_simp; with_reducible rfl)
      (try simp only [Act.put, List.setIfInBounds_toArray, List.set_cons_zero, List.set_cons_succ])
      refine takeH (i := 2) (oi := _) (v := ?_) rfl (by kernel_rfl) (by kernel_rfl) (by kernel_rfl) (fun _ _ _ h => h) (Or.inl ⟨by rfl, ?_⟩) (by assumption) ?_
      rotate_left
      · first | (intro w hSw; (try dsimp only at hSw); go_simp; done) | (intro w hSw; (try dsimp only at hSw); go_simp; with_reducible rfl)
      (try simp only [Act.put, List.setIfInBounds_toArray, List.set_cons_zero, List.set_cons_succ])
      refine takeH (i := 3) (oi := _) (v := ?_) rfl (by kernel_rfl) (by kernel_rfl) (by kernel_rfl) (fun _ _ _ h => h) (Or.inl ⟨by rfl, ?_⟩) (by assumption) ?_
      rotate_left
      · first | (intro w hSw; (try dsimp only at hSw); go_simp; done) | (intro w hSw; (try dsimp only at hSw); go_simp; with_reducible rfl)
      (try simp only [Act.put, List.setIfInBounds_toArray, List.set_cons_zero, List.set_cons_succ])
      refine takeH (i := 4) (oi := _) (v := ?_) rfl (by kernel_rfl) (by kernel_rfl) (by kernel_rfl) (fun _ _ _ h => h) (Or.inl ⟨by rfl, ?_⟩) (by assumption) ?_
      rotate_left
      · first | (intro w hSw; (try dsimp only at hSw); go_simp; done) | (intro w hSw; (try dsimp only at hSw); go_simp; with_reducible rfl)
      (try simp only [Act.put, List.setIfInBounds_toArray, List.set_cons_zero, List.set_cons_succ])
      refine takeH (i := 5) (oi := _) (v := ?_) rfl (by kernel_rfl) (by kernel_rfl) (by kernel_rfl) (fun _ _ _ h => h) (Or.inl ⟨by rfl, ?_⟩) (by assumption) ?_
      rotate_left
      · first | (intro w hSw; (try dsimp only at hSw); go_simp; done) | (intro w hSw; (try dsimp only at hSw); go_simp; with_reducible rfl)
      (try simp only [Act.put, List.setIfInBounds_toArray, List.set_cons_zero, List.set_cons_succ])
      refine takeH (i := 9) (oi := _) (v := ?_) rfl (by kernel_rfl) (by kernel_rfl) (by kernel_rfl) (fun _ _ _ h => h) (Or.inl ⟨by rfl, ?_⟩) (by assumption) ?_
      rotate_left
      · first | (intro w hSw; (try dsimp only at hSw); go_simp; done) | (intro w hSw; (try dsimp only at hSw); go_simp; with_reducible rfl)
      (try simp only [Act.put, List.setIfInBounds_toArray, List.set_cons_zero, List.set_cons_succ])
      refine takeH (i := 10) (oi := _) (v := ?_) rfl (by kernel_rfl) (by kernel_rfl) (by kernel_rfl) (fun _ _ _ h => h) (Or.inl ⟨by rfl, ?_⟩) (by assumption) ?_
      rotate_left
      · first | (intro w hSw; (try dsimp only at hSw); go_simp; done) | (intro w hSw; (try dsimp only at hSw); go_simp; with_reducible rfl)
      (try simp only [Act.put, List.setIfInBounds_toArray, List.set_cons_zero, List.set_cons_succ])
      refine takeH (i := 11) (oi := _) (v := ?_) rfl (by kernel_rfl) (by kernel_rfl) (by kernel_rfl) (fun _ _ _ h => h) (Or.inl ⟨by rfl, ?_⟩) (by assumption) ?_
      rotate_left
      · first | (intro w hSw; (try dsimp only at hSw); go_simp; done) | (intro w hSw; (try dsimp only at hSw); go_simp; with_reducible rfl)
      (try simp only [Act.put, List.setIfInBounds_toArray, List.set_cons_zero, List.set_cons_succ])
      refine takeH (i := 12) (oi := _) (v := ?_) rfl (by kernel_rfl) (by kernel_rfl) (by kernel_rfl) (fun _ _ _ h => h) (Or.inl ⟨by rfl, ?_⟩) (by assumption) ?_
      rotate_left
      · first | (intro w hSw; (try dsimp only at hSw); go_simp; done) | (intro w hSw; (try dsimp only at hSw); go_simp; with_reducible rfl)
      (try simp only [Act.put, List.setIfInBounds_toArray, List.set_cons_zero, List.set_cons_succ])
      refine takeH (i := 13) (oi := _) (v := ?_) rfl (by kernel_rfl) (by kernel_rfl) (by kernel_rfl) (fun _ _ _ h => h) (Or.inl ⟨by rfl, ?_⟩) (by assumption) ?_
      rotate_left
      · first | (intro w hSw; (try dsimp only at hSw); go_simp; done) | (intro w hSw; (try dsimp only at hSw); go_simp; with_reducible rfl)
      (try simp only [Act.put, List.setIfInBounds_toArray, List.set_cons_zero, List.set_cons_succ])
      refine takeH (i := 14) (oi := _) (v := ?_) rfl (by kernel_rfl) (by kernel_rfl) (by kernel_rfl) (fun _ _ _ h => h) (Or.inl ⟨by rfl, ?_⟩) (by assumption) ?_
      rotate_left
      · first | (intro w hSw; (try dsimp only at hSw); go_simp; done) | (intro w hSw; (try dsimp only at hSw); go_simp; with_reducible rfl)
      (try simp only [Act.put, List.setIfInBounds_toArray, List.set_cons_zero, List.set_cons_succ])
      refine wpAnyH_ready (rs := [6]) (by kernel_rfl) (by simp) ?_
      refine consH rfl (fun Kq hKq => ?_)
      go_simp
      (go_at_call 137; refine (HcA.out _ (hbel.trans (Below.mono (by assumption : KeepR wr _ ∧ _).1 hbel.size))).mono ?_; rintro e' w5 ⟨g5, o5, q5, rfl, r5, b5⟩; have hk5 := KeepR.next b5 (by assumption : KeepR wr _ ∧ _).1)
      refine hKq.out _ _ ?_ (fun hHeld1 => ?_)
      · (try dsimp only); first | exact keepC3 (by assumption) x0 x1 hce | exact keepC3 (KeepR.start _) x0 x1 hce
      clear hKq Kq
      (try simp only [Act.put, List.setIfInBounds_toArray, List.set_cons_zero, List.set_cons_succ])
      clear hHeld0
      refine takeH (i := 7) (oi := _) (v := ?_) rfl (by kernel_rfl) (by kernel_rfl) (by kernel_rfl) (fun _ _ _ h => h) (Or.inl ⟨by rfl, ?_⟩) (by assumption) ?_
      rotate_left
      · first | (intro w hSw; (try dsimp only at hSw); go_simp; done) | (intro w hSw; (try dsimp only at hSw); go_simp; with_reducible rfl)
      (try simp only [Act.put, List.setIfInBounds_toArray, List.set_cons_zero, List.set_cons_succ])
      refine wpAnyH_ready (rs := [8, 15]) (by kernel_rfl) (by simp) ?_
      refine consM rfl (fun Kq hKq => ?_) (consH rfl (fun Kq hKq => ?_))
      · go_simp
        refine hKq.out _ _ ?_ (fun hHeld2 => ?_)
        · (try dsimp only); first | exact keepC3 (by assumption) x0 x1 hce | exact keepC3 (KeepR.start _) x0 x1 hce
        clear hKq Kq
        (try simp only [Act.put, List.setIfInBounds_toArray, List.set_cons_zero, List.set_cons_succ])
        clear hHeld1
        refine wpAnyH_ready (rs := [15]) (by kernel_rfl) (by simp) ?_
        refine consH rfl (fun Kq hKq => ?_)
        go_simp
        (go_at_call 137; refine (HcB.out _ (hbel.trans (Below.mono (by assumption : KeepR wr _ ∧ _).1 hbel.size))).mono ?_; rintro e' w6 ⟨g6, o6, q6, rfl, r6, b6⟩; have hk6 := KeepR.next b6 (by assumption : KeepR wr _ ∧ _).1; have r5b := cell_up b6 r5)
        refine hKq.out _ _ ?_ (fun hHeld3 => ?_)
        · (try dsimp only); first | exact keepC3 (by assumption) x0 x1 hce | exact keepC3 (KeepR.start _) x0 x1 hce
        clear hKq Kq
        (try simp only [Act.put, List.setIfInBounds_toArray, List.set_cons_zero, List.set_cons_succ])
        clear hHeld2
        refine takeH (i := 16) (oi := _) (v := ?_) rfl (by kernel_rfl) (by kernel_rfl) (by kernel_rfl) (fun _ _ _ h => h) (Or.inl ⟨by rfl, ?_⟩) (by assumption) ?_
        rotate_left
        · first | (intro w hSw; (try dsimp only at hSw); go_simp; done) | (intro w hSw; (try dsimp only at hSw); go_simp; with_reducible rfl)
        (try simp only [Act.put, List.setIfInBounds_toArray, List.set_cons_zero, List.set_cons_succ])
        refine takeH (i := 18) (oi := _) (v := ?_) rfl (by kernel_rfl) (by kernel_rfl) (by kernel_rfl) (fun _ _ _ h => h) (Or.inl ⟨by rfl, ?_⟩) (by assumption) ?_
        rotate_left
        · first | (intro w hSw; (try dsimp only at hSw); go_simp; done) | (intro w hSw; (try dsimp only at hSw); go_simp; with_reducible rfl)
        (try simp only [Act.put, List.setIfInBounds_toArray, List.set_cons_zero, List.set_cons_succ])
        refine wpAnyH_ready (rs := [17]) (by kernel_rfl) (by simp) ?_
        refine consH rfl (fun Kq hKq => ?_)
        go_simp
        refine hKq.out _ _ ?_ (fun hHeld4 => ?_)
        · (try dsimp only); first | exact keepC3 (by assumption) x0 x1 hce | exact keepC3 (KeepR.start _) x0 x1 hce
        clear hKq Kq
        (try simp only [Act.put, List.setIfInBounds_toArray, List.set_cons_zero, List.set_cons_succ])
        clear hHeld3
        refine takeH (i := 19) (oi := _) (v := ?_) rfl (by kernel_rfl) (by kernel_rfl) (by kernel_rfl) (fun _ _ _ h => h) (Or.inl ⟨by rfl, ?_⟩) (by assumption) ?_
        rotate_left
        · first | (intro w hSw; (try dsimp only at hSw); go_simp; done) | (intro w hSw; (try dsimp only at hSw); go_simp; with_reducible rfl)
        (try simp only [Act.put, List.setIfInBounds_toArray, List.set_cons_zero, List.set_cons_succ])
        refine wpAnyH_done (by kernel_rfl) ?_ _
        refine NoPanic.normal ?_
        have hk6' : Below wr.heap.size wr w6 := hk6
        have hO6 := HO.out.below hk6'
        have hs6 : w.heap.size + 1 ≤ w6.heap.size := Nat.le_trans hbs hk6'.size
        have hE6 := Lib.hid (HE.out.below hk6')
        have hP6 := Lib.hid (HP.out.below hk6')
        have hb6 := hbel.trans (hk6'.mono hbel.size)
        clear hk6 hk6' b6
        cases later
        all_goals
          go_wp2_with (first
            | (go_at_call 94; refine (HcM.out rfl _).mono ?_; rintro e' w7 ⟨rfl, rfl⟩)
            | (go_at_call 143; refine (HcL.out rfl _).mono ?_; rintro e' w7 ⟨rfl, rfl⟩)
            | (go_at_call 91; refine (spec_l1Put _ _ _ (mergeP ps a b early (es.take i)) nP Y (w.heap.size + 1) _ (by omega) hY hs6 hO6).mono ?_; rintro e' w8 ⟨v8, rfl, ho8, b8⟩))
          rw [Hnext.out] at ho8
          have b8' := b8.mono (Nat.le_trans (Nat.le_succ _) hs6)
          go_roundw
          case rel => exact ⟨i + 1, by omega, by go_num, ho8, hE6.out.below b8, hP6.out.below b8, hb6.trans b8'⟩
          case measure => simp [intOf]; omega
      · go_simp
        (go_at_call 137; refine (HcB.out _ (hbel.trans (Below.mono (by assumption : KeepR wr _ ∧ _).1 hbel.size))).mono ?_; rintro e' w6 ⟨g6, o6, q6, rfl, r6, b6⟩; have hk6 := KeepR.next b6 (by assumption : KeepR wr _ ∧ _).1; have r5b := cell_up b6 r5)
        refine hKq.out _ _ ?_ (fun hHeld2 => ?_)
        · (try dsimp only); first | exact keepC3 (by assumption) x0 x1 hce | exact keepC3 (KeepR.start _) x0 x1 hce
        clear hKq Kq
        (try simp only [Act.put, List.setIfInBounds_toArray, List.set_cons_zero, List.set_cons_succ])
        clear hHeld1
        refine takeH (i := 16) (oi := _) (v := ?_) rfl (by kernel_rfl) (by kernel_rfl) (by kernel_rfl) (fun _ _ _ h => h) (Or.inl ⟨by rfl, ?_⟩) (by assumption) ?_
        rotate_left
        · first | (intro w hSw; (try dsimp only at hSw); go_simp; done) | (intro w hSw; (try dsimp only at hSw); go_simp; with_reducible rfl)
        (try simp only [Act.put, List.setIfInBounds_toArray, List.set_cons_zero, List.set_cons_succ])
        refine wpAnyH_ready (rs := [8, 17]) (by kernel_rfl) (by simp) ?_
        refine consM rfl (fun Kq hKq => ?_) (consH rfl (fun Kq hKq => ?_))
        · go_simp
          refine hKq.out _ _ ?_ (fun hHeld3 => ?_)
          · (try dsimp only); first | exact keepC3 (by assumption) x0 x1 hce | exact keepC3 (KeepR.start _) x0 x1 hce
          clear hKq Kq
          (try simp only [Act.put, List.setIfInBounds_toArray, List.set_cons_zero, List.set_cons_succ])
          clear hHeld2
          refine takeH (i := 18) (oi := _) (v := ?_) rfl (by kernel_rfl) (by kernel_rfl) (by kernel_rfl) (fun _ _ _ h => h) (Or.inl ⟨by rfl, ?_⟩) (by assumption) ?_
          rotate_left
          · first | (intro w hSw; (try dsimp only at hSw); go_simp; done) | (intro w hSw; (try dsimp only at hSw); go_simp; with_reducible rfl)
          (try simp only [Act.put, List.setIfInBounds_toArray, List.set_cons_zero, List.set_cons_succ])
          refine wpAnyH_ready (rs := [17]) (by kernel_rfl) (by simp) ?_
          refine consH rfl (fun Kq hKq => ?_)
          go_simp
          refine hKq.out _ _ ?_ (fun hHeld4 => ?_)
          · (try dsimp only); first | exact keepC3 (by assumption) x0 x1 hce | exact keepC3 (KeepR.start _) x0 x1 hce
          clear hKq Kq
          (try simp only [Act.put, List.setIfInBounds_toArray, List.set_cons_zero, List.set_cons_succ])
          clear hHeld3
          refine takeH (i := 19) (oi := _) (v := ?_) rfl (by kernel_rfl) (by kernel_rfl) (by kernel_rfl) (fun _ _ _ h => h) (Or.inl ⟨by rfl, ?_⟩) (by assumption) ?_
          rotate_left
          · first | (intro w hSw; (try dsimp only at hSw); go_simp; done) | (intro w hSw; (try dsimp only at hSw); go_simp; with_reducible rfl)
          (try simp only [Act.put, List.setIfInBounds_toArray, List.set_cons_zero, List.set_cons_succ])
          refine wpAnyH_done (by kernel_rfl) ?_ _
          refine NoPanic.normal ?_
          have hk6' : Below wr.heap.size wr w6 := hk6
          have hO6 := HO.out.below hk6'
          have hs6 : w.heap.size + 1 ≤ w6.heap.size := Nat.le_trans hbs hk6'.size
          have hE6 := Lib.hid (HE.out.below hk6')
          have hP6 := Lib.hid (HP.out.below hk6')
          have hb6 := hbel.trans (hk6'.mono hbel.size)
          clear hk6 hk6' b6
          cases later
          all_goals
            go_wp2_with (first
              | (go_at_call 94; refine (HcM.out rfl _).mono ?_; rintro e' w7 ⟨rfl, rfl⟩)
              | (go_at_call 143; refine (HcL.out rfl _).mono ?_; rintro e' w7 ⟨rfl, rfl⟩)
              | (go_at_call 91; refine (spec_l1Put _ _ _ (mergeP ps a b early (es.take i)) nP Y (w.heap.size + 1) _ (by omega) hY hs6 hO6).mono ?_; rintro e' w8 ⟨v8, rfl, ho8, b8⟩))
            rw [Hnext.out] at ho8
            have b8' := b8.mono (Nat.le_trans (Nat.le_succ _) hs6)
            go_roundw
            case rel => exact ⟨i + 1, by omega, by go_num, ho8, hE6.out.below b8, hP6.out.below b8, hb6.trans b8'⟩
            case measure => simp [intOf]; omega
        · go_simp
          refine hKq.out _ _ ?_ (fun hHeld3 => ?_)
          · (try dsimp only); first | exact keepC3 (by assumption) x0 x1 hce | exact keepC3 (KeepR.start _) x0 x1 hce
          clear hKq Kq
          (try simp only [Act.put, List.setIfInBounds_toArray, List.set_cons_zero, List.set_cons_succ])
          clear hHeld2
          refine wpAnyH_ready (rs := [8]) (by kernel_rfl) (by simp) ?_
          refine consH rfl (fun Kq hKq => ?_)
          go_simp
          refine hKq.out _ _ ?_ (fun hHeld4 => ?_)
          · (try dsimp only); first | exact keepC3 (by assumption) x0 x1 hce | exact keepC3 (KeepR.start _) x0 x1 hce
          clear hKq Kq
          (try simp only [Act.put, List.setIfInBounds_toArray, List.set_cons_zero, List.set_cons_succ])
          clear hHeld3
          refine takeH (i := 18) (oi := _) (v := ?_) rfl (by kernel_rfl) (by kernel_rfl) (by kernel_rfl) (fun _ _ _ h => h) (Or.inl ⟨by rfl, ?_⟩) (by assumption) ?_
          rotate_left
          · first | (intro w hSw; (try dsimp only at hSw); go_simp; done) | (intro w hSw; (try dsimp only at hSw); go_simp; with_reducible rfl)
          (try simp only [Act.put, List.setIfInBounds_toArray, List.set_cons_zero, List.set_cons_succ])
          refine takeH (i := 19) (oi := _) (v := ?_) rfl (by kernel_rfl) (by kernel_rfl) (by kernel_rfl) (fun _ _ _ h => h) (Or.inl ⟨by rfl, ?_⟩) (by assumption) ?_
          rotate_left
          · first | (intro w hSw; (try dsimp only at hSw); go_simp; done) | (intro w hSw; (try dsimp only at hSw); go_simp; with_reducible rfl)
          (try simp only [Act.put, List.setIfInBounds_toArray, List.set_cons_zero, List.set_cons_succ])
          refine wpAnyH_done (by kernel_rfl) ?_ _
          refine NoPanic.normal ?_
          have hk6' : Below wr.heap.size wr w6 := hk6
          have hO6 := HO.out.below hk6'
          have hs6 : w.heap.size + 1 ≤ w6.heap.size := Nat.le_trans hbs hk6'.size
          have hE6 := Lib.hid (HE.out.below hk6')
          have hP6 := Lib.hid (HP.out.below hk6')
          have hb6 := hbel.trans (hk6'.mono hbel.size)
          clear hk6 hk6' b6
          cases later
          all_goals
            go_wp2_with (first
              | (go_at_call 94; refine (HcM.out rfl _).mono ?_; rintro e' w7 ⟨rfl, rfl⟩)
              | (go_at_call 143; refine (HcL.out rfl _).mono ?_; rintro e' w7 ⟨rfl, rfl⟩)
              | (go_at_call 91; refine (spec_l1Put _ _ _ (mergeP ps a b early (es.take i)) nP Y (w.heap.size + 1) _ (by omega) hY hs6 hO6).mono ?_; rintro e' w8 ⟨v8, rfl, ho8, b8⟩))
            rw [Hnext.out] at ho8
            have b8' := b8.mono (Nat.le_trans (Nat.le_succ _) hs6)
            go_roundw
            case rel => exact ⟨i + 1, by omega, by go_num, ho8, hE6.out.below b8, hP6.out.below b8, hb6.trans b8'⟩
            case measure => simp [intOf]; omega
    · obtain rfl : i = es.length := by omega
      have HO2 : Hid (Own wr (w.heap.size + 1) _ (mergeV ps a b early)) := Lib.hid (by
        have := HO.out
        rw [List.take_length, ← Hmv.out] at this
        exact this)
      clear HO
      go_wp2_with fail
      go_ret
      exact ⟨_, rfl, HO2.out.mono (Nat.le_succ _), hbel⟩
set_option maxRecDepth 100000 in
set_option maxHeartbeats 1000000 in
theorem spec_EarlierStop (aP : Option Addr) (nP cP : Nat) (aW : Option Addr) (nW cW : Nat) (ps ws : List Int) (aA : Option Addr) (nA cA : Nat) (a : List Int) (aB : Option Addr) (nB cB : Nat) (b : List Int) (w : World) (h : Tre w aP nP cP aW nW cW ps ws) (hA : Ints w aA nA a) (_hAc : aA = none → cA = 0) (hnA : nA ≤ 1048576) (hB : Ints w aB nB b) (_hBc : aB = none → cB = 0) (hnB : nB ≤ 1048576) :
    Calls Try.prog 71 #[.agg #[.slice aP nP cP, .slice aW nW cW], .slice aA nA cA, .slice aB nB cB] w fun e w' => ∃ v, e = .returned (.tuple #[v, .bool (twoB ps ws a b)]) ∧ Own w' w.heap.size v (erlV ps ws a b true) ∧ Below w.heap.size w w' := by
  have hl := h.p.1
  have hlw := h.w.1
  have hpn := h.pn
  have hwn := h.wn
  have hb1 := below_new w (.cells #[.slice aP nP cP, .slice aW nW cW] 26)
  have hP1 := Lib.hid (Pair.new w (.slice aP nP cP) (.slice aW nW cW) 26)
  have H := Lib.hid h
  have Hl := Lib.hid hl
  have Hlw := Lib.hid hlw
  clear h hl hlw
  have HA := Lib.hid hA
  have HB := Lib.hid hB
  clear hA hB
  go_enter Try.func71, Try.ntmps71
  have c0 := hP1.out.c0
  have c1 := hP1.out.c1
  go_wp2_with fail
  generalize (w.alloc (.cells #[.slice aP nP cP, .slice aW nW cW] 26)) = w2 at *
  refine (spec_l2Good _ _ _ _ _ _ ps ws _ (H.out.below hb1)).mono ?_
  rintro e w3 ⟨rfl, hb3⟩
  have HP3 := Lib.hid (hP1.out.below hb3)
  have d0 := HP3.out.c0
  have d1 := HP3.out.c1
  have hb13 := hb1.trans (hb3.mono hb1.size)
  clear c0 c1 hb3 hP1
  cases hT : treeB ps ws
  · have Hv := Lib.hid (two_no1 (a := a) (b := b) hT)
    clear hT
    go_wp2_with fail
    go_ret2
    exact ⟨_, by rw [Hv.out]; rfl, by rw [erl_no Hv.out]; exact (own_nil0 w3).mono hb13.size, hb13.trans ((below_new w3 _).mono hb13.size)⟩
  have HT := Lib.hid hT
  have HTr := Lib.hid (treeB_t hT)
  clear hT
  go_wp2_with fail
  refine (spec_l3Stop _ _ _ _ _ _ ps ws _ _ _ a _ (H.out.below hb13) HTr.out.toPa (HA.out.below hb13) hnA).mono ?_
  rintro e w4 ⟨rfl, hb4⟩
  have HP4 := Lib.hid (HP3.out.below hb4)
  have e0 := HP4.out.c0
  have e1 := HP4.out.c1
  have hb14 := hb13.trans (hb4.mono hb13.size)
  clear d0 d1 hb4 HP3
  cases hS : stopB ps a
  · have Hv := Lib.hid (two_no2 (ws := ws) (b := b) hS)
    clear hS
    go_wp2_with fail
    go_ret2
    exact ⟨_, by rw [Hv.out]; rfl, by rw [erl_no Hv.out]; exact (own_nil0 w4).mono hb14.size, hb14.trans ((below_new w4 _).mono hb14.size)⟩
  have HS := Lib.hid hS
  clear hS
  go_wp2_with fail
  refine (spec_l3Stop _ _ _ _ _ _ ps ws _ _ _ b _ (H.out.below hb14) HTr.out.toPa (HB.out.below hb14) hnB).mono ?_
  rintro e w5 ⟨rfl, hb5⟩
  have HP5 := Lib.hid (HP4.out.below hb5)
  have f0 := HP5.out.c0
  have f1 := HP5.out.c1
  have hb15 := hb14.trans (hb5.mono hb14.size)
  clear e0 e1 hb5 HP4
  cases hS2 : stopB ps b
  · have Hv := Lib.hid (two_no3 (ws := ws) (a := a) hS2)
    clear hS2
    go_wp2_with fail
    go_ret2
    exact ⟨_, by rw [Hv.out]; rfl, by rw [erl_no Hv.out]; exact (own_nil0 w5).mono hb15.size, hb15.trans ((below_new w5 _).mono hb15.size)⟩
  have HS2 := Lib.hid hS2
  clear hS2
  have Hv := Lib.hid (two_yes HT.out HS.out HS2.out)
  go_wp2_with fail
  refine (spec_l3Pick _ _ _ _ _ _ ps ws _ _ _ a _ _ _ b false _ (H.out.below hb15) (HA.out.below hb15) hnA (HB.out.below hb15) hnB HTr.out.toPa HS.out HS2.out).mono ?_
  rintro e w6 ⟨v6, rfl, ho6, hb6⟩
  go_wp2_with fail
  go_ret2
  exact ⟨_, by rw [Hv.out]; rfl, by rw [erl_yes Hv.out]; exact ho6.mono hb15.size, hb15.trans (hb6.mono hb15.size)⟩
set_option maxRecDepth 100000 in
set_option maxHeartbeats 1000000 in
theorem spec_LaterStop (aP : Option Addr) (nP cP : Nat) (aW : Option Addr) (nW cW : Nat) (ps ws : List Int) (aA : Option Addr) (nA cA : Nat) (a : List Int) (aB : Option Addr) (nB cB : Nat) (b : List Int) (w : World) (h : Tre w aP nP cP aW nW cW ps ws) (hA : Ints w aA nA a) (_hAc : aA = none → cA = 0) (hnA : nA ≤ 1048576) (hB : Ints w aB nB b) (_hBc : aB = none → cB = 0) (hnB : nB ≤ 1048576) :
    Calls Try.prog 80 #[.agg #[.slice aP nP cP, .slice aW nW cW], .slice aA nA cA, .slice aB nB cB] w fun e w' => ∃ v, e = .returned (.tuple #[v, .bool (twoB ps ws a b)]) ∧ Own w' w.heap.size v (erlV ps ws a b false) ∧ Below w.heap.size w w' := by
  have hl := h.p.1
  have hlw := h.w.1
  have hpn := h.pn
  have hwn := h.wn
  have hb1 := below_new w (.cells #[.slice aP nP cP, .slice aW nW cW] 26)
  have hP1 := Lib.hid (Pair.new w (.slice aP nP cP) (.slice aW nW cW) 26)
  have H := Lib.hid h
  have Hl := Lib.hid hl
  have Hlw := Lib.hid hlw
  clear h hl hlw
  have HA := Lib.hid hA
  have HB := Lib.hid hB
  clear hA hB
  go_enter Try.func80, Try.ntmps80
  have c0 := hP1.out.c0
  have c1 := hP1.out.c1
  go_wp2_with fail
  generalize (w.alloc (.cells #[.slice aP nP cP, .slice aW nW cW] 26)) = w2 at *
  refine (spec_l2Good _ _ _ _ _ _ ps ws _ (H.out.below hb1)).mono ?_
  rintro e w3 ⟨rfl, hb3⟩
  have HP3 := Lib.hid (hP1.out.below hb3)
  have d0 := HP3.out.c0
  have d1 := HP3.out.c1
  have hb13 := hb1.trans (hb3.mono hb1.size)
  clear c0 c1 hb3 hP1
  cases hT : treeB ps ws
  · have Hv := Lib.hid (two_no1 (a := a) (b := b) hT)
    clear hT
    go_wp2_with fail
    go_ret2
    exact ⟨_, by rw [Hv.out]; rfl, by rw [erl_no Hv.out]; exact (own_nil0 w3).mono hb13.size, hb13.trans ((below_new w3 _).mono hb13.size)⟩
  have HT := Lib.hid hT
  have HTr := Lib.hid (treeB_t hT)
  clear hT
  go_wp2_with fail
  refine (spec_l3Stop _ _ _ _ _ _ ps ws _ _ _ a _ (H.out.below hb13) HTr.out.toPa (HA.out.below hb13) hnA).mono ?_
  rintro e w4 ⟨rfl, hb4⟩
  have HP4 := Lib.hid (HP3.out.below hb4)
  have e0 := HP4.out.c0
  have e1 := HP4.out.c1
  have hb14 := hb13.trans (hb4.mono hb13.size)
  clear d0 d1 hb4 HP3
  cases hS : stopB ps a
  · have Hv := Lib.hid (two_no2 (ws := ws) (b := b) hS)
    clear hS
    go_wp2_with fail
    go_ret2
    exact ⟨_, by rw [Hv.out]; rfl, by rw [erl_no Hv.out]; exact (own_nil0 w4).mono hb14.size, hb14.trans ((below_new w4 _).mono hb14.size)⟩
  have HS := Lib.hid hS
  clear hS
  go_wp2_with fail
  refine (spec_l3Stop _ _ _ _ _ _ ps ws _ _ _ b _ (H.out.below hb14) HTr.out.toPa (HB.out.below hb14) hnB).mono ?_
  rintro e w5 ⟨rfl, hb5⟩
  have HP5 := Lib.hid (HP4.out.below hb5)
  have f0 := HP5.out.c0
  have f1 := HP5.out.c1
  have hb15 := hb14.trans (hb5.mono hb14.size)
  clear e0 e1 hb5 HP4
  cases hS2 : stopB ps b
  · have Hv := Lib.hid (two_no3 (ws := ws) (a := a) hS2)
    clear hS2
    go_wp2_with fail
    go_ret2
    exact ⟨_, by rw [Hv.out]; rfl, by rw [erl_no Hv.out]; exact (own_nil0 w5).mono hb15.size, hb15.trans ((below_new w5 _).mono hb15.size)⟩
  have HS2 := Lib.hid hS2
  clear hS2
  have Hv := Lib.hid (two_yes HT.out HS.out HS2.out)
  go_wp2_with fail
  refine (spec_l3Pick _ _ _ _ _ _ ps ws _ _ _ a _ _ _ b true _ (H.out.below hb15) (HA.out.below hb15) hnA (HB.out.below hb15) hnB HTr.out.toPa HS.out HS2.out).mono ?_
  rintro e w6 ⟨v6, rfl, ho6, hb6⟩
  go_wp2_with fail
  go_ret2
  exact ⟨_, by rw [Hv.out]; rfl, by rw [erl_yes Hv.out]; exact ho6.mono hb15.size, hb15.trans (hb6.mono hb15.size)⟩
end Go.Proofs.Ytnbomleieianoaa
