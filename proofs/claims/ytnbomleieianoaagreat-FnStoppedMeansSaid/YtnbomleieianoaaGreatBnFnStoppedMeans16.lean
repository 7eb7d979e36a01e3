/- Contracts and plain laws for the statement FnStoppedMeans, part 16. No conditions but those stated in each. -/
import Derived.Test.YtnbomleieianoaaGreatBnFnStoppedMeans15
import Derived.Test.YtnbomleieianoaaGreatBnFnStoppedMeans5
import Derived.Test.YtnbomleieianoaaGreatBnFnStoppedMeans4
import Derived.Test.YtnbomleieianoaaGreatBnFnStoppedMeans1
import Derived.Test.YtnbomleieianoaaGreatBnFnStoppedMeans10
import Derived.Test.YtnbomleieianoaaGreatBnFnStoppedMeans3
import Derived.Deep.DeepCutAuto
/- Contracts: the earlier and the later one of two stoppings, by the reference. -/
namespace Go.Proofs.YtnbomleieianoaaGreat
open Go.RowKit

theorem pick_least (x y : Int) : least x y = pickI true x y := by
  rw [pick_t, least]; split <;> split <;> omega
theorem pick_most (x y : Int) : most x y = pickI false x y := by
  rw [pick_f, most]; split <;> split <;> omega
theorem own_one {W w' : World} {e' : Ending} {v : Value} {s : Int} {base : Nat} (he : e' = .returned v) (ho : Own w' base v [s]) (hb : Below W.heap.size W w') : ∃ (gb go q : Nat), e' = .returned (.slice (some ⟨gb, go, none⟩) 1 q) ∧ w'.cell? ⟨gb, go, none⟩ = some (.int .i64 s) ∧ Below W.heap.size W w' := by
  obtain ⟨a, c, rfl⟩ := ho.shape
  obtain ⟨gb, go, rfl, hc⟩ := ho.ints.at (i := 0) (Below.refl _ _) (by simp)
  exact ⟨gb, go, c, he, hc, hb⟩
theorem pick_nat (early : Bool) {x y : Int} (hx : 0 ≤ x) (hy : 0 ≤ y) {n : Nat} (hx2 : x < n) (hy2 : y < n) : ∃ Y : Nat, pickI early x y = (Y : Int) ∧ Y < n := by
  rcases pick_is early x y with h | h
  · exact ⟨x.toNat, by omega, by omega⟩
  · exact ⟨y.toNat, by omega, by omega⟩
set_option maxRecDepth 100000 in
set_option maxHeartbeats 1000000 in
theorem spec_l3Pick (aP : Option Addr) (nP cP : Nat) (aW : Option Addr) (nW cW : Nat) (ps ws : List Int) (aA : Option Addr) (nA cA : Nat) (a : List Int) (aB : Option Addr) (nB cB : Nat) (b : List Int) (later : Bool) (w : World) (h : Tre w aP nP cP aW nW cW ps ws) (hA : Ints w aA nA a) (hnA : nA ≤ 1048576) (hB : Ints w aB nB b) (hnB : nB ≤ 1048576) (hp : Pa ps) (hsa : stopB ps a = true) (hsb : stopB ps b = true) :
    Calls Tryz.prog 86 #[.agg #[.slice aP nP cP, .slice aW nW cW], .slice aA nA cA, .slice aB nB cB, .bool later] w fun e w' => ∃ v, e = .returned v ∧ Own w' w.heap.size v (mergeV ps a b (!later)) ∧ Below w.heap.size w w' := by
  have hl := h.p.1
  have hlw := h.w.1
  have hpn := h.pn
  have hwn := h.wn
  have hb1 := below_new w (.cells #[.slice aP nP cP, .slice aW nW cW] 26)
  have hP1 := Lib.hid (Pair.new w (.slice aP nP cP) (.slice aW nW cW) 26)
  have H := Lib.hid h
  have Hl := Lib.hid hl
  have Hlw := Lib.hid hlw
  clear h hl hlw
  have HA := Lib.hid hA
  have HB := Lib.hid hB
  clear hA hB
  have Hp := Lib.hid hp
  have hn24 : nP ≤ 24 := by have := hp.n24; have := Hl.out; omega
  obtain ⟨early, hea⟩ : ∃ early, early = !later := ⟨_, rfl⟩
  rw [← hea]
  have Hap := Lib.hid (mergeP_app ps a b early)
  have Hcase : Hid (∀ i, i < (ends ps).length → ∃ (e s1 s2 Y : Nat), e < nP ∧ nth (ends ps) i = (e : Int) ∧ a.filter (hasB (way ps e)) = [(s1 : Int)] ∧ b.filter (hasB (way ps e)) = [(s2 : Int)] ∧ pickI early s1 s2 = (Y : Int) ∧ Y < nP ∧ filt (fun z => mergeP ps a b early ((ends ps).take i) z || z == Y) nP = filt (mergeP ps a b early ((ends ps).take (i + 1))) nP) := Lib.hid fun i hi => by
    obtain ⟨e, h1, h2, h3⟩ := end_nth hi
    obtain ⟨s1, q1, q2, _⟩ := sole_mem hsa hp h1 h2
    obtain ⟨s2, r1, r2, _⟩ := sole_mem hsb hp h1 h2
    have hl := Hl.out
    obtain ⟨Y, y1, y2⟩ := pick_nat early (x := (s1 : Int)) (y := (s2 : Int)) (n := nP) (by omega) (by omega) (by omega) (by omega)
    refine ⟨e, s1, s2, Y, by omega, h3, by rw [on_stop hp hsa h1 h2, q2], by rw [on_stop hp hsb h1 h2, r2], y1, y2, filt_congr fun z hz => ?_⟩
    rw [take_succ_nth hi, h3, Hap.out, Int.toNat_natCast, q2, r2, y1]
    congr 1
    rw [Bool.eq_iff_iff, beq_iff_eq, beq_iff_eq]; omega
  clear hp hsa hsb Hap
  have Hea := Lib.hid hea
  clear hea
  go_enter Tryz.func86, Tryz.ntmps86
  have c0 := hP1.out.c0
  have c1 := hP1.out.c1
  go_wp2_with fail
  have hnil := own_nil0 (w.alloc (.cells #[.slice aP nP cP, .slice aW nW cW] 26))
  rw [show (w.alloc (.cells #[.slice aP nP cP, .slice aW nW cW] 26)).heap.size = w.heap.size + 1 by simp] at hnil
  have hb2 : Below w.heap.size w ((w.alloc (.cells #[.slice aP nP cP, .slice aW nW cW] 26)).alloc (.cells #[] 3)) := hb1.alloc (by simp) _
  have hP2 := Lib.hid (hP1.out.alloc (.cells #[] 3))
  have hs2 : ((w.alloc (.cells #[.slice aP nP cP, .slice aW nW cW] 26)).alloc (.cells #[] 3)).heap.size = w.heap.size + 2 := by simp
  have d0 := hP2.out.c0
  have d1 := hP2.out.c1
  generalize ((w.alloc (.cells #[.slice aP nP cP, .slice aW nW cW] 26)).alloc (.cells #[] 3)) = w2 at *
  clear hP1 hb1 c0 c1
  refine (spec_l2Ends _ _ _ _ _ _ ps ws _ (H.out.below hb2) Hp.out).mono ?_
  rintro e w4 ⟨v4, rfl, ho4, hb4⟩
  obtain ⟨a4, c4, rfl⟩ := ho4.shape
  have HE := Lib.hid ho4.ints
  have HP4 := Lib.hid (hP2.out.below hb4)
  have HO4 := Lib.hid (hnil.below hb4)
  have hb14 := hb2.trans (hb4.mono hb2.size)
  have hel : (ends ps).length ≤ 24 := by have := filt_length (endB ps) ps.length; have := Hl.out; rw [ends]; omega
  have Hmv : Hid (mergeV ps a b early = filt (mergeP ps a b early (ends ps)) nP) := Lib.hid (by rw [mergeV, Hl.out])
  have Hnil0 : Hid (filt (mergeP ps a b early ([] : List Int)) nP = []) := Lib.hid (mergeP_nil ps a b early nP)
  clear ho4 hb4 hnil hP2 hb2 hs2 d0 d1
  generalize hes : ends ps = es at *
  clear hes
  go_wp2_with fail
  go_loopw [9, 11] (fun v5 v11 wr => ∃ i : Nat, i ≤ es.length ∧ v11 = .int .i64 (i : Int) ∧ Own wr (w.heap.size + 1) v5 (filt (mergeP ps a b early (es.take i)) nP) ∧ Ints wr a4 es.length es ∧ Pair wr w.heap.size (.slice aP nP cP) (.slice aW nW cW) ∧ Below w.heap.size w wr) (fun _ v11 _ => es.length - (intOf v11).toNat)
  case atStart => exact ⟨0, Nat.zero_le _, rfl, by rw [List.take_zero, Hnil0.out]; exact HO4.out, HE.out, HP4.out, hb14⟩
  case round =>
    clear hb14 HE HO4 HP4 Hnil0
    obtain ⟨i, hi, rfl, hou, hen, hP, hbel⟩ := hrel
    have x0 := hP.c0
    have x1 := hP.c1
    have HP := Lib.hid hP
    have HO := Lib.hid hou
    have HE := Lib.hid hen
    clear hP hou hen
    by_cases hlt : (i : Int) < es.length
    · obtain ⟨be, oe, rfl, hce⟩ := HE.out.at (i := i) (Below.refl _ _) (by omega)
      obtain ⟨e, s1, s2, Y, he, hen, h1, h2, h3, hY, hnext⟩ := Hcase.out i (by omega)
      rw [hen] at hce
      have Hnext := Lib.hid hnext
      have HcA : Hid (∀ W : World, Below w.heap.size w W → Calls Tryz.prog 80 #[.agg #[.slice aP nP cP, .slice aW nW cW], .slice aA nA cA, .int .i64 (e : Int)] W fun e' w' => ∃ (gb go q : Nat), e' = .returned (.slice (some ⟨gb, go, none⟩) 1 q) ∧ w'.cell? ⟨gb, go, none⟩ = some (.int .i64 (s1 : Int)) ∧ Below W.heap.size W w') := Lib.hid fun W hW => by
        have := spec_l3On _ _ _ _ _ _ ps ws aA nA cA a e W (H.out.below hW) Hp.out (HA.out.below hW) hnA he
        rw [h1] at this
        exact this.mono fun e' w' ⟨v, he, ho, hb⟩ => own_one he ho hb
      have HcB : Hid (∀ W : World, Below w.heap.size w W → Calls Tryz.prog 80 #[.agg #[.slice aP nP cP, .slice aW nW cW], .slice aB nB cB, .int .i64 (e : Int)] W fun e' w' => ∃ (gb go q : Nat), e' = .returned (.slice (some ⟨gb, go, none⟩) 1 q) ∧ w'.cell? ⟨gb, go, none⟩ = some (.int .i64 (s2 : Int)) ∧ Below W.heap.size W w') := Lib.hid fun W hW => by
        have := spec_l3On _ _ _ _ _ _ ps ws aB nB cB b e W (H.out.below hW) Hp.out (HB.out.below hW) hnB he
        rw [h2] at this
        exact this.mono fun e' w' ⟨v, he, ho, hb⟩ => own_one he ho hb
      have HcM : Hid (later = true → ∀ W : World, Calls Tryz.prog 119 #[.int .i64 s1, .int .i64 s2] W fun e' w' => e' = .returned (.int .i64 (Y : Int)) ∧ W = w') := Lib.hid fun hl W => by
        have := spec_l1Most s1 s2 W
        rw [pick_most, show false = early by rw [Hea.out, hl]; rfl, h3] at this
        exact this
      have HcL : Hid (later = false → ∀ W : World, Calls Tryz.prog 117 #[.int .i64 s1, .int .i64 s2] W fun e' w' => e' = .returned (.int .i64 (Y : Int)) ∧ W = w') := Lib.hid fun hl W => by
        have := spec_l1Least s1 s2 W
        rw [pick_least, show true = early by rw [Hea.out, hl]; rfl, h3] at this
        exact this
      obtain ⟨a5, c5, rfl⟩ := HO.out.shape
      have hbs : w.heap.size + 1 ≤ wr.heap.size := by have := HP.out.lt; omega
      have hol := filt_length (mergeP ps a b early (es.take i)) nP
      clear h1 h2 h3 hnext hen
      go_wp2_with fail
      refine wp_region_noPanic ?_
      refine wp_region_held_drew (S := fun W' => KeepR wr W' ∧ W'.cell? ⟨w.heap.size, 0, none⟩ = some (.slice aP nP cP) ∧ W'.cell? ⟨w.heap.size, 1, none⟩ = some (.slice aW nW cW) ∧ W'.cell? ⟨be, oe + i, none⟩ = some (.int .i64 (e : Int))) (by kernel_rfl) ?_ (fun hHeld0 => ?_)
      · (try dsimp only); first | exact keepC3 (by assumption) x0 x1 hce | exact keepC3 (KeepR.start _) x0 x1 hce
      refine takeH (i := 0) (oi := _) (v := ?_) rfl (by kernel_rfl) (by kernel_rfl) (by kernel_rfl) (fun _ _ _ h => h) (Or.inl ⟨by rfl, ?_⟩) (by assumption) ?_
      rotate_left
      · first | (intro w hSw; (try dsimp only at hSw); go_simp; done) | (intro w hSw; (try dsimp only at hSw); go_simp; with_reducible rfl)
      (try simp only [Act.put, List.setIfInBounds_toArray, List.set_cons_zero, List.set_cons_succ])
      refine takeH (i := 1) (oi := _) (v := ?_) rfl (by kernel_rfl) (by kernel_rfl) (by kernel_rfl) (fun _ _ _ h => h) (Or.inl ⟨by rfl, ?_⟩) (by assumption) ?_
      rotate_left
      · first | (intro w hSw; (try dsimp only at hSw); go_simp; done) | (intro w hSw; (try dsimp only at hSw); go_simp; with_reducible rfl)
      (try simp only [Act.put, List.setIfInBounds_toArray, List.set_cons_zero, List.set_cons_succ])
      refine takeH (i := 2) (oi := _) (v := ?_) rfl (by kernel_rfl) (by kernel_rfl) (by kernel_rfl) (fun _ _ _ h => h) (Or.inl ⟨by rfl, ?_⟩) (by assumption) ?_
      rotate_left
      · first | (intro w hSw; (try dsimp only at hSw); go_simp; done) | (intro w hSw; (try dsimp only at hSw); go_simp; with_reducible rfl)
      (try simp only [Act.put, List.setIfInBounds_toArray, List.set_cons_zero, List.set_cons_succ])
      refine takeH (i := 3) (oi := _) (v := ?_) rfl (by kernel_rfl) (by kernel_rfl) (by kernel_rfl) (fun _ _ _ h => h) (Or.inl ⟨by rfl, ?_⟩) (by assumption) ?_
      rotate_left
      · first | (intro w hSw; (try dsimp only at hSw); go_simp; done) | (intro w hSw; (try dsimp only at hSw); go_simp; with_reducible rfl)
      (try simp only [Act.put, List.setIfInBounds_toArray, List.set_cons_zero, List.set_cons_succ])
      refine takeH (i := 4) (oi := _) (v := ?_) rfl (by kernel_rfl) (by kernel_rfl) (by kernel_rfl) (fun _ _ _ h => h) (Or.inl ⟨by rfl, ?_⟩) (by assumption) ?_
      rotate_left
      · first | (intro w hSw; (try dsimp only at hSw); go_simp; done) | (intro w hSw; (try dsimp only at hSw); go_simp; with_reducible rfl)
      (try simp only [Act.put, List.setIfInBounds_toArray, List.set_cons_zero, List.set_cons_succ])
      refine takeH (i := 5) (oi := _) (v := ?_) rfl (by kernel_rfl) (by kernel_rfl) (by kernel_rfl) (fun _ _ _ h => h) (Or.inl ⟨by rfl, ?_⟩) (by assumption) ?_
      rotate_left
      · first | (intro w hSw; (try dsimp only at hSw); go_simp; done) | (intro w hSw; (try dsimp only at hSw); go_simp; with_reducible rfl)
      (try simp only [Act.put, List.setIfInBounds_toArray, List.set_cons_zero, List.set_cons_succ])
      refine takeH (i := 9) (oi := _) (v := ?_) rfl (by kernel_rfl) (by kernel_rfl) (by kernel_rfl) (fun _ _ _ h => h) (Or.inl ⟨by rfl, ?_⟩) (by assumption) ?_
      rotate_left
      · first | (intro w hSw; (try dsimp only at hSw); go_simp; done) | (intro w hSw; (try dsimp only at hSw); go_simp; with_reducible rfl)
      (try simp only [Act.put, List.setIfInBounds_toArray, List.set_cons_zero, List.set_cons_succ])
      refine takeH (i := 10) (oi := _) (v := ?_) rfl (by kernel_rfl) (by kernel_rfl) (by kernel_rfl) (fun _ _ _ h => h) (Or.inl ⟨by rfl, ?_⟩) (by assumption) ?_
      rotate_left
      · first | (intro w hSw; (try dsimp only at hSw); go_simp; done) | (intro w hSw; (try dsimp only at hSw); go_simp; with_reducible rfl)
      (try simp only [Act.put, List.setIfInBounds_toArray, List.set_cons_zero, List.set_cons_succ])
      refine takeH (i := 11) (oi := _) (v := ?_) rfl (by kernel_rfl) (by kernel_rfl) (by kernel_rfl) (fun _ _ _ h => h) (Or.inl ⟨by rfl, ?_⟩) (by assumption) ?_
      rotate_left
      · first | (intro w hSw; (try dsimp only at hSw); go_simp; done) | (intro w hSw; (try dsimp only at hSw); go_simp; with_reducible rfl)
      (try simp only [Act.put, List.setIfInBounds_toArray, List.set_cons_zero, List.set_cons_succ])
      refine takeH (i := 12) (oi := _) (v := ?_) rfl (by kernel_rfl) (by kernel_rfl) (by kernel_rfl) (fun _ _ _ h => h) (Or.inl ⟨by rfl, ?_⟩) (by assumption) ?_
      rotate_left
      · first | (intro w hSw; (try dsimp only at hSw); go_simp; done) | (intro w hSw; (try dsimp only at hSw); go_simp; with_reducible rfl)
      (try simp only [Act.put, List.setIfInBounds_toArray, List.set_cons_zero, List.set_cons_succ])
      refine takeH (i := 13) (oi := _) (v := ?_) rfl (by kernel_rfl) (by kernel_rfl) (by kernel_rfl) (fun _ _ _ h => h) (Or.inl ⟨by rfl, ?_⟩) (by assumption) ?_
      rotate_left
      · first | (intro w hSw; (try dsimp only at hSw); go_simp; done) | (intro w hSw; (try dsimp only at hSw); go_simp; with_reducible rfl)
      (try simp only [Act.put, List.setIfInBounds_toArray, List.set_cons_zero, List.set_cons_succ])
      refine takeH (i := 14) (oi := _) (v := ?_) rfl (by kernel_rfl) (by kernel_rfl) (by kernel_rfl) (fun _ _ _ h => h) (Or.inl ⟨by rfl, ?_⟩) (by assumption) ?_
      rotate_left
      · first | (intro w hSw; (try dsimp only at hSw); go_simp; done) | (intro w hSw; (try dsimp only at hSw); go_simp; with_reducible rfl)
      (try simp only [Act.put, List.setIfInBounds_toArray, List.set_cons_zero, List.set_cons_succ])
      refine wpAnyH_ready (rs := [6]) (by kernel_rfl) (by simp) ?_
      refine consH rfl (fun Kq hKq => ?_)
      go_simp
      (go_at_call 80; refine (HcA.out _ (hbel.trans (Below.mono (by assumption : KeepR wr _ ∧ _).1 hbel.size))).mono ?_; rintro e' w5 ⟨g5, o5, q5, rfl, r5, b5⟩; have hk5 := KeepR.next b5 (by assumption : KeepR wr _ ∧ _).1)
      refine hKq.out _ _ ?_ (fun hHeld1 => ?_)
      · (try dsimp only); first | exact keepC3 (by assumption) x0 x1 hce | exact keepC3 (KeepR.start _) x0 x1 hce
      clear hKq Kq
      (try simp only [Act.put, List.setIfInBounds_toArray, List.set_cons_zero, List.set_cons_succ])
      clear hHeld0
      refine takeH (i := 7) (oi := _) (v := ?_) rfl (by kernel_rfl) (by kernel_rfl) (by kernel_rfl) (fun _ _ _ h => h) (Or.inl ⟨by rfl, ?_⟩) (by assumption) ?_
      rotate_left
      · first | (intro w hSw; (try dsimp only at hSw); go_simp; done) | (intro w hSw; (try dsimp only at hSw); go_simp; with_reducible rfl)
      (try simp only [Act.put, List.setIfInBounds_toArray, List.set_cons_zero, List.set_cons_succ])
      refine wpAnyH_ready (rs := [8, 15]) (by kernel_rfl) (by simp) ?_
      refine consM rfl (fun Kq hKq => ?_) (consH rfl (fun Kq hKq => ?_))
      · go_simp
        refine hKq.out _ _ ?_ (fun hHeld2 => ?_)
        · (try dsimp only); first | exact keepC3 (by assumption) x0 x1 hce | exact keepC3 (KeepR.start _) x0 x1 hce
        clear hKq Kq
        (try simp only [Act.put, List.setIfInBounds_toArray, List.set_cons_zero, List.set_cons_succ])
        clear hHeld1
        refine wpAnyH_ready (rs := [15]) (by kernel_rfl) (by simp) ?_
        refine consH rfl (fun Kq hKq => ?_)
        go_simp
        (go_at_call 80; refine (HcB.out _ (hbel.trans (Below.mono (by assumption : KeepR wr _ ∧ _).1 hbel.size))).mono ?_; rintro e' w6 ⟨g6, o6, q6, rfl, r6, b6⟩; have hk6 := KeepR.next b6 (by assumption : KeepR wr _ ∧ _).1; have r5b := cell_up b6 r5)
        refine hKq.out _ _ ?_ (fun hHeld3 => ?_)
        · (try dsimp only); first | exact keepC3 (by assumption) x0 x1 hce | exact keepC3 (KeepR.start _) x0 x1 hce
        clear hKq Kq
        (try simp only [Act.put, List.setIfInBounds_toArray, List.set_cons_zero, List.set_cons_succ])
        clear hHeld2
        refine takeH (i := 16) (oi := _) (v := ?_) rfl (by kernel_rfl) (by kernel_rfl) (by kernel_rfl) (fun _ _ _ h => h) (Or.inl ⟨by rfl, ?_⟩) (by assumption) ?_
        rotate_left
        · first | (intro w hSw; (try dsimp only at hSw); go_simp; done) | (intro w hSw; (try dsimp only at hSw); go_simp; with_reducible rfl)
        (try simp only [Act.put, List.setIfInBounds_toArray, List.set_cons_zero, List.set_cons_succ])
        refine takeH (i := 18) (oi := _) (v := ?_) rfl (by kernel_rfl) (by kernel_rfl) (by kernel_rfl) (fun _ _ _ h => h) (Or.inl ⟨by rfl, ?_⟩) (by assumption) ?_
        rotate_left
        · first | (intro w hSw; (try dsimp only at hSw); go_simp; done) | (intro w hSw; (try dsimp only at hSw); go_simp; with_reducible rfl)
        (try simp only [Act.put, List.setIfInBounds_toArray, List.set_cons_zero, List.set_cons_succ])
        refine wpAnyH_ready (rs := [17]) (by kernel_rfl) (by simp) ?_
        refine consH rfl (fun Kq hKq => ?_)
        go_simp
        refine hKq.out _ _ ?_ (fun hHeld4 => ?_)
        · (try dsimp only); first | exact keepC3 (by assumption) x0 x1 hce | exact keepC3 (KeepR.start _) x0 x1 hce
        clear hKq Kq
        (try simp only [Act.put, List.setIfInBounds_toArray, List.set_cons_zero, List.set_cons_succ])
        clear hHeld3
        refine takeH (i := 19) (oi := _) (v := ?_) rfl (by kernel_rfl) (by kernel_rfl) (by kernel_rfl) (fun _ _ _ h => h) (Or.inl ⟨by rfl, ?_⟩) (by assumption) ?_
        rotate_left
        · first | (intro w hSw; (try dsimp only at hSw); go_simp; done) | (intro w hSw; (try dsimp only at hSw); go_simp; with_reducible rfl)
        (try simp only [Act.put, List.setIfInBounds_toArray, List.set_cons_zero, List.set_cons_succ])
        refine wpAnyH_done (by kernel_rfl) ?_ _
        refine NoPanic.normal ?_
        have hk6' : Below wr.heap.size wr w6 := hk6
        have hO6 := HO.out.below hk6'
        have hs6 : w.heap.size + 1 ≤ w6.heap.size := Nat.le_trans hbs hk6'.size
        have hE6 := Lib.hid (HE.out.below hk6')
        have hP6 := Lib.hid (HP.out.below hk6')
        have hb6 := hbel.trans (hk6'.mono hbel.size)
        clear hk6 hk6' b6
        cases later
        all_goals
          go_wp2_with (first
            | (go_at_call 119; refine (HcM.out rfl _).mono ?_; rintro e' w7 ⟨rfl, rfl⟩)
            | (go_at_call 117; refine (HcL.out rfl _).mono ?_; rintro e' w7 ⟨rfl, rfl⟩)
            | (go_at_call 116; refine (spec_l1Put _ _ _ (mergeP ps a b early (es.take i)) nP Y (w.heap.size + 1) _ (by omega) hY hs6 hO6).mono ?_; rintro e' w8 ⟨v8, rfl, ho8, b8⟩))
          rw [Hnext.out] at ho8
          have b8' := b8.mono (Nat.le_trans (Nat.le_succ _) hs6)
          go_roundw
          case rel => exact ⟨i + 1, by omega, by go_num, ho8, hE6.out.below b8, hP6.out.below b8, hb6.trans b8'⟩
          case measure => simp [intOf]; omega
      · go_simp
        (go_at_call 80; refine (HcB.out _ (hbel.trans (Below.mono (by assumption : KeepR wr _ ∧ _).1 hbel.size))).mono ?_; rintro e' w6 ⟨g6, o6, q6, rfl, r6, b6⟩; have hk6 := KeepR.next b6 (by assumption : KeepR wr _ ∧ _).1; have r5b := cell_up b6 r5)
        refine hKq.out _ _ ?_ (fun hHeld2 => ?_)
        · (try dsimp only); first | exact keepC3 (by assumption) x0 x1 hce | exact keepC3 (KeepR.start _) x0 x1 hce
        clear hKq Kq
        (try simp only [Act.put, List.setIfInBounds_toArray, List.set_cons_zero, List.set_cons_succ])
        clear hHeld1
        refine takeH (i := 16) (oi := _) (v := ?_) rfl (by kernel_rfl) (by kernel_rfl) (by kernel_rfl) (fun _ _ _ h => h) (Or.inl ⟨by rfl, ?_⟩) (by assumption) ?_
        rotate_left
        · first | (intro w hSw; (try dsimp only at hSw); go_simp; done) | (intro w hSw; (try dsimp only at hSw); go_simp; with_reducible rfl)
        (try simp only [Act.put, List.setIfInBounds_toArray, List.set_cons_zero, List.set_cons_succ])
        refine wpAnyH_ready (rs := [8, 17]) (by kernel_rfl) (by simp) ?_
        refine consM rfl (fun Kq hKq => ?_) (consH rfl (fun Kq hKq => ?_))
        · go_simp
          refine hKq.out _ _ ?_ (fun hHeld3 => ?_)
          · (try dsimp only); first | exact keepC3 (by assumption) x0 x1 hce | exact keepC3 (KeepR.start _) x0 x1 hce
          clear hKq Kq
          (try simp only [Act.put, List.setIfInBounds_toArray, List.set_cons_zero, List.set_cons_succ])
          clear hHeld2
          refine takeH (i := 18) (oi := _) (v := ?_) rfl (by kernel_rfl) (by kernel_rfl) (by kernel_rfl) (fun _ _ _ h => h) (Or.inl ⟨by rfl, ?_⟩) (by assumption) ?_
          rotate_left
          · first | (intro w hSw; (try dsimp only at hSw); go_simp; done) | (intro w hSw; (try dsimp only at hSw); go_simp; with_reducible rfl)
          (try simp only [Act.put, List.setIfInBounds_toArray, List.set_cons_zero, List.set_cons_succ])
          refine wpAnyH_ready (rs := [17]) (by kernel_rfl) (by simp) ?_
          refine consH rfl (fun Kq hKq => ?_)
          go_simp
          refine hKq.out _ _ ?_ (fun hHeld4 => ?_)
          · (try dsimp only); first | exact keepC3 (by assumption) x0 x1 hce | exact keepC3 (KeepR.start _) x0 x1 hce
          clear hKq Kq
          (try simp only [Act.put, List.setIfInBounds_toArray, List.set_cons_zero, List.set_cons_succ])
          clear hHeld3
          refine takeH (i := 19) (oi := _) (v := ?_) rfl (by kernel_rfl) (by kernel_rfl) (by kernel_rfl) (fun _ _ _ h => h) (Or.inl ⟨by rfl, ?_⟩) (by assumption) ?_
          rotate_left
          · first | (intro w hSw; (try dsimp only at hSw); go_simp; done) | (intro w hSw; (try dsimp only at hSw); go_simp; with_reducible rfl)
          (try simp only [Act.put, List.setIfInBounds_toArray, List.set_cons_zero, List.set_cons_succ])
          refine wpAnyH_done (by kernel_rfl) ?_ _
          refine NoPanic.normal ?_
          have hk6' : Below wr.heap.size wr w6 := hk6
          have hO6 := HO.out.below hk6'
          have hs6 : w.heap.size + 1 ≤ w6.heap.size := Nat.le_trans hbs hk6'.size
          have hE6 := Lib.hid (HE.out.below hk6')
          have hP6 := Lib.hid (HP.out.below hk6')
          have hb6 := hbel.trans (hk6'.mono hbel.size)
          clear hk6 hk6' b6
          cases later
          all_goals
            go_wp2_with (first
              | (go_at_call 119; refine (HcM.out rfl _).mono ?_; rintro e' w7 ⟨rfl, rfl⟩)
              | (go_at_call 117; refine (HcL.out rfl _).mono ?_; rintro e' w7 ⟨rfl, rfl⟩)
              | (go_at_call 116; refine (spec_l1Put _ _ _ (mergeP ps a b early (es.take i)) nP Y (w.heap.size + 1) _ (by omega) hY hs6 hO6).mono ?_; rintro e' w8 ⟨v8, rfl, ho8, b8⟩))
            rw [Hnext.out] at ho8
            have b8' := b8.mono (Nat.le_trans (Nat.le_succ _) hs6)
            go_roundw
            case rel => exact ⟨i + 1, by omega, by go_num, ho8, hE6.out.below b8, hP6.out.below b8, hb6.trans b8'⟩
            case measure => simp [intOf]; omega
        · go_simp
          refine hKq.out _ _ ?_ (fun hHeld3 => ?_)
          · (try dsimp only); first | exact keepC3 (by assumption) x0 x1 hce | exact keepC3 (KeepR.start _) x0 x1 hce
          clear hKq Kq
          (try simp only [Act.put, List.setIfInBounds_toArray, List.set_cons_zero, List.set_cons_succ])
          clear hHeld2
          refine wpAnyH_ready (rs := [8]) (by kernel_rfl) (by simp) ?_
          refine consH rfl (fun Kq hKq => ?_)
          go_simp
          refine hKq.out _ _ ?_ (fun hHeld4 => ?_)
          · (try dsimp only); first | exact keepC3 (by assumption) x0 x1 hce | exact keepC3 (KeepR.start _) x0 x1 hce
          clear hKq Kq
          (try simp only [Act.put, List.setIfInBounds_toArray, List.set_cons_zero, List.set_cons_succ])
          clear hHeld3
          refine takeH (i := 18) (oi := _) (v := ?_) rfl (by kernel_rfl) (by kernel_rfl) (by kernel_rfl) (fun _ _ _ h => h) (Or.inl ⟨by rfl, ?_⟩) (by assumption) ?_
          rotate_left
          · first | (intro w hSw; (try dsimp only at hSw); go_simp; done) | (intro w hSw; (try dsimp only at hSw); go_simp; with_reducible rfl)
          (try simp only [Act.put, List.setIfInBounds_toArray, List.set_cons_zero, List.set_cons_succ])
          refine takeH (i := 19) (oi := _) (v := ?_) rfl (by kernel_rfl) (by kernel_rfl) (by kernel_rfl) (fun _ _ _ h => h) (Or.inl ⟨by rfl, ?_⟩) (by assumption) ?_
          rotate_left
          · first | (intro w hSw; (try dsimp only at hSw); go_simp; done) | (intro w hSw; (try dsimp only at hSw); go_simp; with_reducible rfl)
          (try simp only [Act.put, List.setIfInBounds_toArray, List.set_cons_zero, List.set_cons_succ])
          refine wpAnyH_done (by kernel_rfl) ?_ _
          refine NoPanic.normal ?_
          have hk6' : Below wr.heap.size wr w6 := hk6
          have hO6 := HO.out.below hk6'
          have hs6 : w.heap.size + 1 ≤ w6.heap.size := Nat.le_trans hbs hk6'.size
          have hE6 := Lib.hid (HE.out.below hk6')
          have hP6 := Lib.hid (HP.out.below hk6')
          have hb6 := hbel.trans (hk6'.mono hbel.size)
          clear hk6 hk6' b6
          cases later
          all_goals
            go_wp2_with (first
              | (go_at_call 119; refine (HcM.out rfl _).mono ?_; rintro e' w7 ⟨rfl, rfl⟩)
              | (go_at_call 117; refine (HcL.out rfl _).mono ?_; rintro e' w7 ⟨rfl, rfl⟩)
              | (go_at_call 116; refine (spec_l1Put _ _ _ (mergeP ps a b early (es.take i)) nP Y (w.heap.size + 1) _ (by omega) hY hs6 hO6).mono ?_; rintro e' w8 ⟨v8, rfl, ho8, b8⟩))
            rw [Hnext.out] at ho8
            have b8' := b8.mono (Nat.le_trans (Nat.le_succ _) hs6)
            go_roundw
            case rel => exact ⟨i + 1, by omega, by go_num, ho8, hE6.out.below b8, hP6.out.below b8, hb6.trans b8'⟩
            case measure => simp [intOf]; omega
    · obtain rfl : i = es.length := by omega
      have HO2 : Hid (Own wr (w.heap.size + 1) _ (mergeV ps a b early)) := Lib.hid (by
        have := HO.out
        rw [List.take_length, ← Hmv.out] at this
        exact this)
      clear HO
      go_wp2_with fail
      go_ret
      exact ⟨_, rfl, HO2.out.mono (Nat.le_succ _), hbel⟩
set_option maxRecDepth 100000 in
set_option maxHeartbeats 1000000 in
theorem spec_EarlierStop (aP : Option Addr) (nP cP : Nat) (aW : Option Addr) (nW cW : Nat) (ps ws : List Int) (aA : Option Addr) (nA cA : Nat) (a : List Int) (aB : Option Addr) (nB cB : Nat) (b : List Int) (w : World) (h : Tre w aP nP cP aW nW cW ps ws) (hA : Ints w aA nA a) (_hAc : aA = none → cA = 0) (hnA : nA ≤ 1048576) (hB : Ints w aB nB b) (_hBc : aB = none → cB = 0) (hnB : nB ≤ 1048576) :
    Calls Tryz.prog 15 #[.agg #[.slice aP nP cP, .slice aW nW cW], .slice aA nA cA, .slice aB nB cB] w fun e w' => ∃ v, e = .returned (.tuple #[v, .bool (twoB ps ws a b)]) ∧ Own w' w.heap.size v (erlV ps ws a b true) ∧ Below w.heap.size w w' := by
  have hl := h.p.1
  have hlw := h.w.1
  have hpn := h.pn
  have hwn := h.wn
  have hb1 := below_new w (.cells #[.slice aP nP cP, .slice aW nW cW] 26)
  have hP1 := Lib.hid (Pair.new w (.slice aP nP cP) (.slice aW nW cW) 26)
  have H := Lib.hid h
  have Hl := Lib.hid hl
  have Hlw := Lib.hid hlw
  clear h hl hlw
  have HA := Lib.hid hA
  have HB := Lib.hid hB
  clear hA hB
  go_enter Tryz.func15, Tryz.ntmps15
  have c0 := hP1.out.c0
  have c1 := hP1.out.c1
  go_wp2_with fail
  generalize (w.alloc (.cells #[.slice aP nP cP, .slice aW nW cW] 26)) = w2 at *
  refine (spec_l2Good _ _ _ _ _ _ ps ws _ (H.out.below hb1)).mono ?_
  rintro e w3 ⟨rfl, hb3⟩
  have HP3 := Lib.hid (hP1.out.below hb3)
  have d0 := HP3.out.c0
  have d1 := HP3.out.c1
  have hb13 := hb1.trans (hb3.mono hb1.size)
  clear c0 c1 hb3 hP1
  cases hT : treeB ps ws
  · have Hv := Lib.hid (two_no1 (a := a) (b := b) hT)
    clear hT
    go_wp2_with fail
    go_ret2
    exact ⟨_, by rw [Hv.out]; rfl, by rw [erl_no Hv.out]; exact (own_nil0 w3).mono hb13.size, hb13.trans ((below_new w3 _).mono hb13.size)⟩
  have HT := Lib.hid hT
  have HTr := Lib.hid (treeB_t hT)
  clear hT
  go_wp2_with fail
  refine (spec_l3Stop _ _ _ _ _ _ ps ws _ _ _ a _ (H.out.below hb13) HTr.out.toPa (HA.out.below hb13) hnA).mono ?_
  rintro e w4 ⟨rfl, hb4⟩
  have HP4 := Lib.hid (HP3.out.below hb4)
  have e0 := HP4.out.c0
  have e1 := HP4.out.c1
  have hb14 := hb13.trans (hb4.mono hb13.size)
  clear d0 d1 hb4 HP3
  cases hS : stopB ps a
  · have Hv := Lib.hid (two_no2 (ws := ws) (b := b) hS)
    clear hS
    go_wp2_with fail
    go_ret2
    exact ⟨_, by rw [Hv.out]; rfl, by rw [erl_no Hv.out]; exact (own_nil0 w4).mono hb14.size, hb14.trans ((below_new w4 _).mono hb14.size)⟩
  have HS := Lib.hid hS
  clear hS
  go_wp2_with fail
  refine (spec_l3Stop _ _ _ _ _ _ ps ws _ _ _ b _ (H.out.below hb14) HTr.out.toPa (HB.out.below hb14) hnB).mono ?_
  rintro e w5 ⟨rfl, hb5⟩
  have HP5 := Lib.hid (HP4.out.below hb5)
  have f0 := HP5.out.c0
  have f1 := HP5.out.c1
  have hb15 := hb14.trans (hb5.mono hb14.size)
  clear e0 e1 hb5 HP4
  cases hS2 : stopB ps b
  · have Hv := Lib.hid (two_no3 (ws := ws) (a := a) hS2)
    clear hS2
    go_wp2_with fail
    go_ret2
    exact ⟨_, by rw [Hv.out]; rfl, by rw [erl_no Hv.out]; exact (own_nil0 w5).mono hb15.size, hb15.trans ((below_new w5 _).mono hb15.size)⟩
  have HS2 := Lib.hid hS2
  clear hS2
  have Hv := Lib.hid (two_yes HT.out HS.out HS2.out)
  go_wp2_with fail
  refine (spec_l3Pick _ _ _ _ _ _ ps ws _ _ _ a _ _ _ b false _ (H.out.below hb15) (HA.out.below hb15) hnA (HB.out.below hb15) hnB HTr.out.toPa HS.out HS2.out).mono ?_
  rintro e w6 ⟨v6, rfl, ho6, hb6⟩
  go_wp2_with fail
  go_ret2
  exact ⟨_, by rw [Hv.out]; rfl, by rw [erl_yes Hv.out]; exact ho6.mono hb15.size, hb15.trans (hb6.mono hb15.size)⟩
set_option maxRecDepth 100000 in
set_option maxHeartbeats 1000000 in
theorem spec_LaterStop (aP : Option Addr) (nP cP : Nat) (aW : Option Addr) (nW cW : Nat) (ps ws : List Int) (aA : Option Addr) (nA cA : Nat) (a : List Int) (aB : Option Addr) (nB cB : Nat) (b : List Int) (w : World) (h : Tre w aP nP cP aW nW cW ps ws) (hA : Ints w aA nA a) (_hAc : aA = none → cA = 0) (hnA : nA ≤ 1048576) (hB : Ints w aB nB b) (_hBc : aB = none → cB = 0) (hnB : nB ≤ 1048576) :
    Calls Tryz.prog 17 #[.agg #[.slice aP nP cP, .slice aW nW cW], .slice aA nA cA, .slice aB nB cB] w fun e w' => ∃ v, e = .returned (.tuple #[v, .bool (twoB ps ws a b)]) ∧ Own w' w.heap.size v (erlV ps ws a b false) ∧ Below w.heap.size w w' := by
  have hl := h.p.1
  have hlw := h.w.1
  have hpn := h.pn
  have hwn := h.wn
  have hb1 := below_new w (.cells #[.slice aP nP cP, .slice aW nW cW] 26)
  have hP1 := Lib.hid (Pair.new w (.slice aP nP cP) (.slice aW nW cW) 26)
  have H := Lib.hid h
  have Hl := Lib.hid hl
  have Hlw := Lib.hid hlw
  clear h hl hlw
  have HA := Lib.hid hA
  have HB := Lib.hid hB
  clear hA hB
  go_enter Tryz.func17, Tryz.ntmps17
  have c0 := hP1.out.c0
  have c1 := hP1.out.c1
  go_wp2_with fail
  generalize (w.alloc (.cells #[.slice aP nP cP, .slice aW nW cW] 26)) = w2 at *
  refine (spec_l2Good _ _ _ _ _ _ ps ws _ (H.out.below hb1)).mono ?_
  rintro e w3 ⟨rfl, hb3⟩
  have HP3 := Lib.hid (hP1.out.below hb3)
  have d0 := HP3.out.c0
  have d1 := HP3.out.c1
  have hb13 := hb1.trans (hb3.mono hb1.size)
  clear c0 c1 hb3 hP1
  cases hT : treeB ps ws
  · have Hv := Lib.hid (two_no1 (a := a) (b := b) hT)
    clear hT
    go_wp2_with fail
    go_ret2
    exact ⟨_, by rw [Hv.out]; rfl, by rw [erl_no Hv.out]; exact (own_nil0 w3).mono hb13.size, hb13.trans ((below_new w3 _).mono hb13.size)⟩
  have HT := Lib.hid hT
  have HTr := Lib.hid (treeB_t hT)
  clear hT
  go_wp2_with fail
  refine (spec_l3Stop _ _ _ _ _ _ ps ws _ _ _ a _ (H.out.below hb13) HTr.out.toPa (HA.out.below hb13) hnA).mono ?_
  rintro e w4 ⟨rfl, hb4⟩
  have HP4 := Lib.hid (HP3.out.below hb4)
  have e0 := HP4.out.c0
  have e1 := HP4.out.c1
  have hb14 := hb13.trans (hb4.mono hb13.size)
  clear d0 d1 hb4 HP3
  cases hS : stopB ps a
  · have Hv := Lib.hid (two_no2 (ws := ws) (b := b) hS)
    clear hS
    go_wp2_with fail
    go_ret2
    exact ⟨_, by rw [Hv.out]; rfl, by rw [erl_no Hv.out]; exact (own_nil0 w4).mono hb14.size, hb14.trans ((below_new w4 _).mono hb14.size)⟩
  have HS := Lib.hid hS
  clear hS
  go_wp2_with fail
  refine (spec_l3Stop _ _ _ _ _ _ ps ws _ _ _ b _ (H.out.below hb14) HTr.out.toPa (HB.out.below hb14) hnB).mono ?_
  rintro e w5 ⟨rfl, hb5⟩
  have HP5 := Lib.hid (HP4.out.below hb5)
  have f0 := HP5.out.c0
  have f1 := HP5.out.c1
  have hb15 := hb14.trans (hb5.mono hb14.size)
  clear e0 e1 hb5 HP4
  cases hS2 : stopB ps b
  · have Hv := Lib.hid (two_no3 (ws := ws) (a := a) hS2)
    clear hS2
    go_wp2_with fail
    go_ret2
    exact ⟨_, by rw [Hv.out]; rfl, by rw [erl_no Hv.out]; exact (own_nil0 w5).mono hb15.size, hb15.trans ((below_new w5 _).mono hb15.size)⟩
  have HS2 := Lib.hid hS2
  clear hS2
  have Hv := Lib.hid (two_yes HT.out HS.out HS2.out)
  go_wp2_with fail
  refine (spec_l3Pick _ _ _ _ _ _ ps ws _ _ _ a _ _ _ b true _ (H.out.below hb15) (HA.out.below hb15) hnA (HB.out.below hb15) hnB HTr.out.toPa HS.out HS2.out).mono ?_
  rintro e w6 ⟨v6, rfl, ho6, hb6⟩
  go_wp2_with fail
  go_ret2
  exact ⟨_, by rw [Hv.out]; rfl, by rw [erl_yes Hv.out]; exact ho6.mono hb15.size, hb15.trans (hb6.mono hb15.size)⟩
end Go.Proofs.YtnbomleieianoaaGreat

/- Contracts: the means of pays and the process that they are, by the program. -/
namespace Go.Proofs.YtnbomleieianoaaGreat
open Go.RowKit

set_option maxRecDepth 100000 in
set_option maxHeartbeats 2000000 in
theorem impl_spread (aP : Option Addr) (nP cP : Nat) (aW : Option Addr) (nW cW : Nat) (ps ws : List Int) (aL : Option Addr) (nL cL : Nat) (l : List Int) (V : Nat → Int) (w : World) (h : Tre w aP nP cP aW nW cW ps ws) (hT : Tr ps ws) (hL : Ints w aL nL l) (hnL : (ends ps).length = nL) (hv : ∀ i e : Nat, i < nL → nth (ends ps) i = (e : Int) → nth l i = V e) (hV : ∀ x, -2997 ≤ V x ∧ V x ≤ 2997) :
    Calls Tryz.prog 146 #[.agg #[.slice aP nP cP, .slice aW nW cW], .slice aL nL cL] w fun e w' => ∃ v, e = .returned v ∧ Own w' w.heap.size v (totK ps ws V nL) ∧ Below w.heap.size w w' := by
  have HTT := Lib.hid hT
  have hn24 := hT.n24
  have hn1 := hT.n1
  have HT := Lib.hid hT
  have hwl := hT.wl
  have hl := h.p.1
  have hlw := h.w.1
  have hpn := h.pn
  have hwn := h.wn
  have hb1 := below_new w (.cells #[.slice aP nP cP, .slice aW nW cW] 26)
  have hP1 := Lib.hid (Pair.new w (.slice aP nP cP) (.slice aW nW cW) 26)
  have H := Lib.hid h
  have Hl := Lib.hid hl
  have Hlw := Lib.hid hlw
  clear h hl hlw
  have hnW : nW ≤ nP ∧ nP ≤ nW := by have := Hlw.out; have := Hl.out; omega
  have hnP : 1 ≤ nP ∧ nP ≤ 24 := by have := Hl.out; omega
  clear hn24 hn1 hT hwl hpn hwn
  have hWP : nW = nP := by omega
  clear hnW
  subst hWP
  have HL0 := Lib.hid hL
  have Hv := Lib.hid hv
  have HV := Lib.hid hV
  have hnP : 1 ≤ nW ∧ nW ≤ 24 := by have := HTT.out.n24; have := HTT.out.n1; have := Hl.out; omega
  have hel : (ends ps).length ≤ 24 := by have := filt_length (endB ps) ps.length; have := Hl.out; rw [ends]; omega
  clear hL hv hV
  have HnL := Lib.hid hnL
  have hnL24 : nL ≤ 24 := by omega
  clear hnL
  have hmk := mk_ints nW (by omega)
  have hmx : nW ≤ maxLen := by have : maxLen = 9223372036854775807 := rfl; omega
  go_enter Tryz.func146, Tryz.ntmps146
  have c0 := hP1.out.c0
  have c1 := hP1.out.c1
  have hlt := hP1.out.lt
  have hP5 := Lib.hid (hP1.out.alloc (.cells (zv nW) 3))
  have hO5 := Own.zeros (w.alloc (.cells #[.slice aP nW cP, .slice aW nW cW] 26)) (w.alloc (.cells #[.slice aP nW cP, .slice aW nW cW] 26)).heap.size nW (Nat.le_refl _) hmx
  rw [show (w.alloc (.cells #[.slice aP nW cP, .slice aW nW cW] 26)).heap.size = w.heap.size + 1 by simp] at hO5
  have hb5 : Below w.heap.size w ((w.alloc (.cells #[.slice aP nW cP, .slice aW nW cW] 26)).alloc (.cells (zv nW) 3)) := hb1.trans ((below_new (w.alloc (.cells #[.slice aP nW cP, .slice aW nW cW] 26)) (.cells (zv nW) 3)).mono hb1.size)
  have hs5 : w.heap.size + 1 < ((w.alloc (.cells #[.slice aP nW cP, .slice aW nW cW] 26)).alloc (.cells (zv nW) 3)).heap.size := by simp
  have d0 := hP5.out.c0
  have d1 := hP5.out.c1
  go_wp2_with fail
  generalize ((w.alloc (.cells #[.slice aP nW cP, .slice aW nW cW] 26)).alloc (.cells (zv nW) 3)) = w5 at *
  clear c0 c1 hP1 hb1 hlt
  generalize hU : w.heap.size + 1 = U at *
  have HO5 := Lib.hid hO5
  clear hO5
  refine (impl_ends _ _ _ _ _ _ ps ws _ (H.out.below hb5) HTT.out.toPa).mono ?_
  rintro e w6 ⟨v6, rfl, o6, b6⟩
  obtain ⟨a6, c6, rfl⟩ := o6.shape
  rw [HnL.out] at o6 ⊢
  have hb15 := hb5.trans (b6.mono hb5.size)
  have HO := Lib.hid (HO5.out.below b6)
  have G6 := Lib.hid o6.ints
  have P6 : Hid (∀ p, a6 = some p → p.block ≠ U) := Lib.hid fun p hp => by
    subst hp
    have h1 := (World.ownsRow.lt o6 _ rfl).1
    omega
  have HP5 := Lib.hid (hP5.out.below b6)
  clear o6 b6 hb5 HO5 hP5 hs5 d0 d1 hmk
  go_wp2_with fail
  go_loopw [15] (fun v15 wr => ∃ i : Nat, i ≤ nL ∧ v15 = .int .i64 (i : Int) ∧ Own wr U (.slice (some ⟨U, 0, none⟩) nW nW) (totK ps ws V i) ∧ Ints wr a6 nL (ends ps) ∧ Pair wr w.heap.size (.slice aP nW cP) (.slice aW nW cW) ∧ Below w.heap.size w wr) (fun v15 _ => nL - (intOf v15).toNat)
  case atStart => exact ⟨0, Nat.zero_le _, rfl, by rw [← totK_zero, Hl.out]; exact HO.out, G6.out, HP5.out, hb15⟩
  case round =>
    clear hb15 HO G6 HP5
    obtain ⟨i, hi, rfl, ho, h6, hP, hbel⟩ := hrel
    have c0 := hP.c0
    have c1 := hP.c1
    have HP := Lib.hid hP
    have G6 := Lib.hid h6
    clear hP h6
    by_cases hlt2 : (i : Int) < nL
    · have hi' : i < nL := by omega
      obtain ⟨b6, o6, rfl, hc6⟩ := G6.out.at (i := i) (Below.refl _ _) (by omega)
      obtain ⟨e, he, hee, hei⟩ := end_nth (ps := ps) (i := i) (by have := HnL.out; omega)
      rw [hei] at hc6
      have heN : e < nW := by have := Hl.out; omega
      obtain ⟨bL, oL, rfl, hcL⟩ := HL0.out.at (i := i) hbel hi'
      rw [Hv.out i e hi' hei] at hcL
      obtain ⟨bW, oW, rfl, hcW⟩ := H.out.w.at (i := e) hbel heN
      have hne : b6 ≠ U := P6.out _ rfl
      have hkl : (totK ps ws V i).length = nW := by rw [totK_length]; exact Hl.out
      have d1 := ho.cell (i := e) (by omega)
      have f1 := ho.free hkl.symm e
      have hset := Own.set (w := wr.drew) ho hkl.symm e (nth ws e * V e)
      rw [← totK_succ (by have := HnL.out; omega) he hei] at hset
      have Hset := Lib.hid hset
      have hve := HV.out e
      have hwe := HTT.out.w0 e
      have hpr := mul_abs (B := 2997) (U := 20) hve hwe (by omega)
      rw [Int.mul_comm (V e) (nth ws e)] at hpr
      have hgw : U ≠ w.heap.size := by omega
      have HPn := Lib.hid (Pair.far (w := wr.drew) HP.out.drew (b := U) (i := e) hgw (.int .i64 (nth ws e * V e)))
      have G6n := Lib.hid (Ints.away (w := wr.drew) (G6.out.below (Below.refl _ _).drew) (g := U) (i := e) (fun p hp => by cases hp; exact hne) (.int .i64 (nth ws e * V e)))
      clear hset hei hee hkl ho
      generalize hz1 : nth (totK ps ws V i) e = z1 at *
      generalize hz2 : nth ws e = we at *
      generalize hz3 : V e = ve at *
      clear hz1 hz2 hz3
      have s0 : IntKind.i64.wrap (ve * we) = we * ve := by rw [Int.mul_comm]; exact IntWalk.i64_in _ (by omega)
      have s1 : (0 : Int) ≤ (e : Int) := by omega
      have s2 : (e : Int) < (nW : Int) := by omega
      have s3 : (0 : Int) ≤ (i : Int) := by omega
      have s4 : (i : Int) < (nL : Int) := by omega
      go_wp2_with fail
      refine wp_region_still_tail 13 (by kernel_rfl) (by kernel_rfl) ?_
      simp only [List.take_succ_cons, List.take_zero, List.drop_succ_cons, List.drop_zero]
      still_step
      still_step
      still_step
      still_step
      still_step
      still_step
      still_step
      still_step
      still_step
      still_step
      still_step
      still_step
      still_step
      refine wpStill_nil ?_
      change wpList _ _ _ _ _ wr.drew
      go_wp2_with fail
      go_roundw
      case rel => exact ⟨i + 1, by omega, by go_num, Hset.out, G6n.out, HPn.out, hbel.drew.setCell (show w.heap.size ≤ U by omega) _⟩
      case measure => simp [intOf]; omega
    · obtain rfl : i = nL := by omega
      have HO := Lib.hid ho
      clear ho
      go_wp2_with fail
      go_ret
      exact ⟨_, rfl, HO.out.mono (by omega), hbel⟩
set_option maxRecDepth 100000 in
set_option maxHeartbeats 2000000 in
theorem impl_arePays (aP : Option Addr) (nP cP : Nat) (aW : Option Addr) (nW cW : Nat) (ps ws : List Int) (aL : Option Addr) (nL cL : Nat) (l : List Int) (w : World) (h : Tre w aP nP cP aW nW cW ps ws) (hT : Tr ps ws) (hL : Ints w aL nL l) (hn : nL ≤ 1048576) :
    Calls Tryz.prog 92 #[.agg #[.slice aP nP cP, .slice aW nW cW], .slice aL nL cL] w fun e w' => e = .returned (.bool ((l.length == (ends ps).length) && allIn l (-999) 999)) ∧ Below w.heap.size w w' := by
  have HTT := Lib.hid hT
  have hn24 := hT.n24
  have hn1 := hT.n1
  have HT := Lib.hid hT
  have hwl := hT.wl
  have hl := h.p.1
  have hlw := h.w.1
  have hpn := h.pn
  have hwn := h.wn
  have hb1 := below_new w (.cells #[.slice aP nP cP, .slice aW nW cW] 26)
  have hP1 := Lib.hid (Pair.new w (.slice aP nP cP) (.slice aW nW cW) 26)
  have H := Lib.hid h
  have Hl := Lib.hid hl
  have Hlw := Lib.hid hlw
  clear h hl hlw
  have hnW : nW ≤ nP ∧ nP ≤ nW := by have := Hlw.out; have := Hl.out; omega
  have hnP : 1 ≤ nP ∧ nP ≤ 24 := by have := Hl.out; omega
  clear hn24 hn1 hT hwl hpn hwn
  have HL := Lib.hid hL
  have hll := Lib.hid hL.1
  clear hL
  obtain ⟨nE, hnE⟩ : ∃ z, z = (ends ps).length := ⟨_, rfl⟩
  have HNE := Lib.hid hnE
  have hnE24 : nE ≤ 24 := by have := filt_length (endB ps) ps.length; have := Hl.out; rw [hnE, ends]; have := HTT.out.n24; omega
  rw [hll.out, ← hnE]
  go_enter Tryz.func92, Tryz.ntmps92
  have c0 := hP1.out.c0
  have c1 := hP1.out.c1
  clear hnE
  by_cases hlen : nL = nE
  · subst hlen
    have hlb : ((nL : Int) == (nL : Int)) = true := by simp
    cases hA : allIn l (-999) 999
    · have HA := Lib.hid hA
      clear hA
      go_wp2_with (first
        | (go_at_call 91; refine (impl_ends _ _ _ _ _ _ ps ws _ (H.out.below hb1) HTT.out.toPa).mono ?_; rintro e w6 ⟨v6, rfl, o6, b6⟩; obtain ⟨a6, c6, rfl⟩ := o6.shape; rw [← HNE.out])
        | (go_at_call 109; refine (impl_allWithin _ _ _ _ _ l _ (by omega) (HL.out.below (hb1.trans (b6.mono hb1.size)))).mono ?_; rintro e w' ⟨rfl, rfl⟩; rw [HA.out]))
      go_ret
      exact ⟨by simp, hb1.trans (b6.mono hb1.size)⟩
    · have HA := Lib.hid hA
      clear hA
      go_wp2_with (first
        | (go_at_call 91; refine (impl_ends _ _ _ _ _ _ ps ws _ (H.out.below hb1) HTT.out.toPa).mono ?_; rintro e w6 ⟨v6, rfl, o6, b6⟩; obtain ⟨a6, c6, rfl⟩ := o6.shape; rw [← HNE.out])
        | (go_at_call 109; refine (impl_allWithin _ _ _ _ _ l _ (by omega) (HL.out.below (hb1.trans (b6.mono hb1.size)))).mono ?_; rintro e w' ⟨rfl, rfl⟩; rw [HA.out]))
      go_ret
      exact ⟨by simp, hb1.trans (b6.mono hb1.size)⟩
  · have hlb : ((nL : Int) == (nE : Int)) = false := by rw [beq_eq_false_iff_ne]; omega
    have hlc : (nL == nE) = false := by rw [beq_eq_false_iff_ne]; exact hlen
    have Hlc := Lib.hid hlc
    clear hlc hlen
    go_wp2_with (go_at_call 91; refine (impl_ends _ _ _ _ _ _ ps ws _ (H.out.below hb1) HTT.out.toPa).mono ?_; rintro e w6 ⟨v6, rfl, o6, b6⟩; obtain ⟨a6, c6, rfl⟩ := o6.shape; rw [← HNE.out])
    go_ret
    exact ⟨by rw [Hlc.out]; rfl, hb1.trans (b6.mono hb1.size)⟩
set_option maxRecDepth 100000 in
set_option maxHeartbeats 2000000 in
theorem impl_means (aP : Option Addr) (nP cP : Nat) (aW : Option Addr) (nW cW : Nat) (ps ws : List Int) (aL : Option Addr) (nL cL : Nat) (l : List Int) (V : Nat → Int) (w : World) (h : Tre w aP nP cP aW nW cW ps ws) (hT : Tr ps ws) (hL : Ints w aL nL l) (hnL : (ends ps).length = nL) (hv : ∀ i e : Nat, i < nL → nth (ends ps) i = (e : Int) → nth l i = V e) (hV : ∀ x, -999 ≤ V x ∧ V x ≤ 999) :
    Calls Tryz.prog 93 #[.agg #[.slice aP nP cP, .slice aW nW cW], .slice aL nL cL] w fun e w' => ∃ v, e = .returned v ∧ Fr.Own w' w.heap.size v (meanL ps ws V) ∧ Below w.heap.size w w' := by
  have HTT := Lib.hid hT
  have hn24 := hT.n24
  have hn1 := hT.n1
  have HT := Lib.hid hT
  have hwl := hT.wl
  have hl := h.p.1
  have hlw := h.w.1
  have hpn := h.pn
  have hwn := h.wn
  have hb1 := below_new w (.cells #[.slice aP nP cP, .slice aW nW cW] 26)
  have hP1 := Lib.hid (Pair.new w (.slice aP nP cP) (.slice aW nW cW) 26)
  have H := Lib.hid h
  have Hl := Lib.hid hl
  have Hlw := Lib.hid hlw
  clear h hl hlw
  have hnW : nW ≤ nP ∧ nP ≤ nW := by have := Hlw.out; have := Hl.out; omega
  have hnP : 1 ≤ nP ∧ nP ≤ 24 := by have := Hl.out; omega
  clear hn24 hn1 hT hwl hpn hwn
  have HL0 := Lib.hid hL
  have Hv := Lib.hid hv
  have HV := Lib.hid hV
  have HV3 : Hid (∀ x, -2997 ≤ V x ∧ V x ≤ 2997) := Lib.hid fun x => by have := hV x; omega
  have HnL := Lib.hid hnL
  have hnP : 1 ≤ nP ∧ nP ≤ 24 := by have := HTT.out.n24; have := HTT.out.n1; have := Hl.out; omega
  clear hL hv hV hnL
  have Hsl : Hid ((sums ps ws).length = nP) := Lib.hid (by rw [sums_length HTT.out]; exact Hl.out)
  have Htl : Hid ((totA ps ws V).length = nP) := Lib.hid (by rw [totA_length]; exact Hl.out)
  have Hkl : Hid ((totK ps ws V nL).length = nP) := Lib.hid (by rw [totK_length]; exact Hl.out)
  have Hka : Hid (Abs2 59940 (totK ps ws V nL)) := Lib.hid (totK_abs HTT.out HV3.out nL)
  have Hta0 : Hid (gathA ps (totK ps ws V nL) = totA ps ws V) := Lib.hid (by rw [totA, HnL.out])
  go_enter Tryz.func93, Tryz.ntmps93
  have c0 := hP1.out.c0
  have c1 := hP1.out.c1
  go_upto_region 1 with fail
  generalize (w.alloc (.cells #[.slice aP nP cP, .slice aW nW cW] 26)) = w2 at *
  go_cut [5, 6, 7] (fun v5 v6 v7 wc => MeanR w2 wc nP (totA ps ws V) (sums ps ws) v5 v6 v7)
  case first =>
    refine wp_region_noPanic ?_
    refine wp_region_held_drew (S := fun W' => KeepR w2 W' ∧ W'.cell? ⟨w.heap.size, 0, none⟩ = some (.slice aP nP cP) ∧ W'.cell? ⟨w.heap.size, 1, none⟩ = some (.slice aW nW cW)) (by kernel_rfl) ?_ (fun hHeld0 => ?_)
    · (try dsimp only); first | exact keep2 (by assumption) hP1.out | exact keep2 (KeepR.start _) hP1.out | exact keep2 (KeepR.alloc0 _ _) hP1.out | exact keep2 (KeepR.alloc (by assumption : KeepR w2 _ ∧ _).1 _) hP1.out
    refine takeH (i := 1) (oi := _) (v := ?_) rfl (by kernel_rfl) (by kernel_rfl) (by kernel_rfl) (fun _ _ _ h => h) (Or.inl ⟨by rfl, ?_⟩) (by assumption) ?_
    rotate_left
    · first | (intro w hSw; (try dsimp only at hSw); go_simp; done) | (intro w hSw; (try dsimp only at hSw); go_simp; with_reducible rfl)
    (try simp only [Act.put, List.setIfInBounds_toArray, List.set_cons_zero, List.set_cons_succ])
    refine takeH (i := 2) (oi := _) (v := ?_) rfl (by kernel_rfl) (by kernel_rfl) (by kernel_rfl) (fun _ _ _ h => h) (Or.inl ⟨by rfl, ?_⟩) (by assumption) ?_
    rotate_left
    · first | (intro w hSw; (try dsimp only at hSw); go_simp; done) | (intro w hSw; (try dsimp only at hSw); go_simp; with_reducible rfl)
    (try simp only [Act.put, List.setIfInBounds_toArray, List.set_cons_zero, List.set_cons_succ])
    refine takeH (i := 3) (oi := _) (v := ?_) rfl (by kernel_rfl) (by kernel_rfl) (by kernel_rfl) (fun _ _ _ h => h) (Or.inl ⟨by rfl, ?_⟩) (by assumption) ?_
    rotate_left
    · first | (intro w hSw; (try dsimp only at hSw); go_simp; done) | (intro w hSw; (try dsimp only at hSw); go_simp; with_reducible rfl)
    (try simp only [Act.put, List.setIfInBounds_toArray, List.set_cons_zero, List.set_cons_succ])
    refine takeH (i := 6) (oi := _) (v := ?_) rfl (by kernel_rfl) (by kernel_rfl) (by kernel_rfl) (fun _ _ _ h => h) (Or.inl ⟨by rfl, ?_⟩) (by assumption) ?_
    rotate_left
    · first | (intro w hSw; (try dsimp only at hSw); go_simp; done) | (intro w hSw; (try dsimp only at hSw); go_simp; with_reducible rfl)
    (try simp only [Act.put, List.setIfInBounds_toArray, List.set_cons_zero, List.set_cons_succ])
    refine wpAnyH_ready (rs := [0, 4]) (by kernel_rfl) (by simp) ?_
    refine consM rfl (fun Kq hKq => ?_) (consH rfl (fun Kq hKq => ?_))
    · go_simp
      refine hKq.out _ _ ?_ (fun hHeld1 => ?_)
      · (try dsimp only); first | exact keep2 (by assumption) hP1.out | exact keep2 (KeepR.start _) hP1.out | exact keep2 (KeepR.alloc0 _ _) hP1.out | exact keep2 (KeepR.alloc (by assumption : KeepR w2 _ ∧ _).1 _) hP1.out
      clear hKq Kq
      (try simp only [Act.put, List.setIfInBounds_toArray, List.set_cons_zero, List.set_cons_succ])
      clear hHeld0
      refine wpAnyH_ready (rs := [4]) (by kernel_rfl) (by simp) ?_
      refine consH rfl (fun Kq hKq => ?_)
      go_simp
      (go_at_call 146; refine (impl_spread _ _ _ _ _ _ ps ws _ _ _ l V _ (H.out.below (hb1.trans (Below.mono (by assumption : KeepR w2 _ ∧ _).1 hb1.size))) HTT.out (HL0.out.below (hb1.trans (Below.mono (by assumption : KeepR w2 _ ∧ _).1 hb1.size))) HnL.out Hv.out HV3.out).mono ?_; rintro e w5 ⟨v5, rfl, o5, b5⟩; obtain ⟨a5, c5, rfl⟩ := o5.shape; rw [Hkl.out] at o5 ⊢; have hk5 := KeepR.next b5 (by assumption : KeepR w2 _ ∧ _).1; have i5 := o5.ints; have hc5 := o5.cap.2.1)
      refine hKq.out _ _ ?_ (fun hHeld2 => ?_)
      · (try dsimp only); first | exact keep2 (by assumption) hP1.out | exact keep2 (KeepR.start _) hP1.out | exact keep2 (KeepR.alloc0 _ _) hP1.out | exact keep2 (KeepR.alloc (by assumption : KeepR w2 _ ∧ _).1 _) hP1.out
      clear hKq Kq
      (try simp only [Act.put, List.setIfInBounds_toArray, List.set_cons_zero, List.set_cons_succ])
      clear hHeld1
      refine wpAnyH_ready (rs := [5]) (by kernel_rfl) (by simp) ?_
      refine consH rfl (fun Kq hKq => ?_)
      go_simp
      (go_at_call 131; refine (impl_gathered _ _ _ _ _ _ ps ws _ _ _ (totK ps ws V nL) 59940 _ (H.out.below (hb1.trans (Below.mono (by assumption : KeepR w2 _ ∧ _).1 hb1.size))) HTT.out.toPa (by first | exact i5 | exact i5.below (Below.refl _ _).drew | exact i5.below (below_new w5 _) | exact i5.below (below_new w5 _).drew) hc5 rfl (by omega) Hka.out).mono ?_; rintro e w6 ⟨v6, rfl, o6, b6⟩; rw [Hta0.out] at o6; have hk6 := KeepR.next b6 (by assumption : KeepR w2 _ ∧ _).1)
      refine hKq.out _ _ ?_ (fun hHeld3 => ?_)
      · (try dsimp only); first | exact keep2 (by assumption) hP1.out | exact keep2 (KeepR.start _) hP1.out | exact keep2 (KeepR.alloc0 _ _) hP1.out | exact keep2 (KeepR.alloc (by assumption : KeepR w2 _ ∧ _).1 _) hP1.out
      clear hKq Kq
      (try simp only [Act.put, List.setIfInBounds_toArray, List.set_cons_zero, List.set_cons_succ])
      clear hHeld2
      refine wpAnyH_ready (rs := [7]) (by kernel_rfl) (by simp) ?_
      refine consH rfl (fun Kq hKq => ?_)
      go_simp
      (go_at_call 72; refine (impl_sums _ _ _ _ _ _ ps ws _ (H.out.below (hb1.trans (Below.mono (by assumption : KeepR w2 _ ∧ _).1 hb1.size))) HTT.out).mono ?_; rintro e w7 ⟨v7, rfl, o7, b7⟩; have hk7 := KeepR.next b7 (by assumption : KeepR w2 _ ∧ _).1)
      refine hKq.out _ _ ?_ (fun hHeld4 => ?_)
      · (try dsimp only); first | exact keep2 (by assumption) hP1.out | exact keep2 (KeepR.start _) hP1.out | exact keep2 (KeepR.alloc0 _ _) hP1.out | exact keep2 (KeepR.alloc (by assumption : KeepR w2 _ ∧ _).1 _) hP1.out
      clear hKq Kq
      (try simp only [Act.put, List.setIfInBounds_toArray, List.set_cons_zero, List.set_cons_succ])
      clear hHeld3
      refine takeH (i := 8) (oi := _) (v := ?_) rfl (by kernel_rfl) (by kernel_rfl) (by kernel_rfl) (fun _ _ _ h => h) (Or.inl ⟨by rfl, ?_⟩) (by assumption) ?_
      rotate_left
      · first | (intro w hSw; (try dsimp only at hSw); go_simp; done) | (intro w hSw; (try dsimp only at hSw); go_simp; with_reducible rfl)
      (try simp only [Act.put, List.setIfInBounds_toArray, List.set_cons_zero, List.set_cons_succ])
      refine takeH (i := 9) (oi := _) (v := ?_) rfl (by kernel_rfl) (by kernel_rfl) (by kernel_rfl) (fun _ _ _ h => h) (Or.inl ⟨by rfl, ?_⟩) (by assumption) ?_
      rotate_left
      · first | (intro w hSw; (try dsimp only at hSw); go_simp; done) | (intro w hSw; (try dsimp only at hSw); go_simp; with_reducible rfl)
      (try simp only [Act.put, List.setIfInBounds_toArray, List.set_cons_zero, List.set_cons_succ])
      refine takeH (i := 10) (oi := _) (v := ?_) rfl (by kernel_rfl) (by kernel_rfl) (by kernel_rfl) (fun _ _ _ h => h) (Or.inl ⟨by rfl, ?_⟩) (by assumption) ?_
      rotate_left
      · first | (intro w hSw; (try dsimp only at hSw); go_simp; done) | (intro w hSw; (try dsimp only at hSw); go_simp; with_reducible rfl)
      (try simp only [Act.put, List.setIfInBounds_toArray, List.set_cons_zero, List.set_cons_succ])
      refine wpAnyH_done (by kernel_rfl) ?_ _
      refine NoPanic.normal ?_
      go_wp2_with fail
      go_meet
      first
        | exact mean_mk hk7 Htl.out Hsl.out (((((Fr.own_nil0 w2).below (Below.refl _ _).drew).below b5).below b6).below b7) (Nat.le_refl _) (o6.below b7) o7 (fun q hq => by have h1 := (World.ownsRow.lt o6 q hq).1; have h2 := (World.ownsRow.lt o6 q hq).2; have h3 := b5.size; have h4 := b6.size; have h5 := b7.size; (try simp at h1 h2 h3 h4 h5); omega) (fun q hq => by have h1 := (World.ownsRow.lt o7 q hq).1; have h2 := (World.ownsRow.lt o7 q hq).2; have h3 := b5.size; have h4 := b6.size; have h5 := b7.size; (try simp at h1 h2 h3 h4 h5); omega)
        | exact mean_mk hk7 Htl.out Hsl.out (((Fr.own_nil0 w5).below b6).below b7) (Below.size hk5) (o6.below b7) o7 (fun q hq => by have h1 := (World.ownsRow.lt o6 q hq).1; have h2 := (World.ownsRow.lt o6 q hq).2; have h3 := b5.size; have h4 := b6.size; have h5 := b7.size; (try simp at h1 h2 h3 h4 h5); omega) (fun q hq => by have h1 := (World.ownsRow.lt o7 q hq).1; have h2 := (World.ownsRow.lt o7 q hq).2; have h3 := b5.size; have h4 := b6.size; have h5 := b7.size; (try simp at h1 h2 h3 h4 h5); omega)
        | exact mean_mk hk7 Htl.out Hsl.out ((Fr.own_nil0 w6).below b7) (Below.size hk6) ((o6.below (below_new w6 _)).below b7) o7 (fun q hq => by have h1 := (World.ownsRow.lt o6 q hq).1; have h2 := (World.ownsRow.lt o6 q hq).2; have h3 := b5.size; have h4 := b6.size; have h5 := b7.size; (try simp at h1 h2 h3 h4 h5); omega) (fun q hq => by have h1 := (World.ownsRow.lt o7 q hq).1; have h2 := (World.ownsRow.lt o7 q hq).2; have h3 := b5.size; have h4 := b6.size; have h5 := b7.size; (try simp at h1 h2 h3 h4 h5); omega)
        | exact mean_mk (KeepR.alloc hk7 _) Htl.out Hsl.out (Fr.own_nil0 w7) (Below.size hk7) ((o6.below b7).below (below_new w7 _)) (o7.below (below_new w7 _)) (fun q hq => by have h1 := (World.ownsRow.lt (o6.below b7) q hq).2; omega) (fun q hq => by have h1 := (World.ownsRow.lt o7 q hq).2; omega)
    · go_simp
      (go_at_call 146; refine (impl_spread _ _ _ _ _ _ ps ws _ _ _ l V _ (H.out.below (hb1.trans (Below.mono (by assumption : KeepR w2 _ ∧ _).1 hb1.size))) HTT.out (HL0.out.below (hb1.trans (Below.mono (by assumption : KeepR w2 _ ∧ _).1 hb1.size))) HnL.out Hv.out HV3.out).mono ?_; rintro e w5 ⟨v5, rfl, o5, b5⟩; obtain ⟨a5, c5, rfl⟩ := o5.shape; rw [Hkl.out] at o5 ⊢; have hk5 := KeepR.next b5 (by assumption : KeepR w2 _ ∧ _).1; have i5 := o5.ints; have hc5 := o5.cap.2.1)
      refine hKq.out _ _ ?_ (fun hHeld1 => ?_)
      · (try dsimp only); first | exact keep2 (by assumption) hP1.out | exact keep2 (KeepR.start _) hP1.out | exact keep2 (KeepR.alloc0 _ _) hP1.out | exact keep2 (KeepR.alloc (by assumption : KeepR w2 _ ∧ _).1 _) hP1.out
      clear hKq Kq
      (try simp only [Act.put, List.setIfInBounds_toArray, List.set_cons_zero, List.set_cons_succ])
      clear hHeld0
      refine wpAnyH_ready (rs := [0, 5]) (by kernel_rfl) (by simp) ?_
      refine consM rfl (fun Kq hKq => ?_) (consH rfl (fun Kq hKq => ?_))
      · go_simp
        refine hKq.out _ _ ?_ (fun hHeld2 => ?_)
        · (try dsimp only); first | exact keep2 (by assumption) hP1.out | exact keep2 (KeepR.start _) hP1.out | exact keep2 (KeepR.alloc0 _ _) hP1.out | exact keep2 (KeepR.alloc (by assumption : KeepR w2 _ ∧ _).1 _) hP1.out
        clear hKq Kq
        (try simp only [Act.put, List.setIfInBounds_toArray, List.set_cons_zero, List.set_cons_succ])
        clear hHeld1
        refine wpAnyH_ready (rs := [5]) (by kernel_rfl) (by simp) ?_
        refine consH rfl (fun Kq hKq => ?_)
        go_simp
        (go_at_call 131; refine (impl_gathered _ _ _ _ _ _ ps ws _ _ _ (totK ps ws V nL) 59940 _ (H.out.below (hb1.trans (Below.mono (by assumption : KeepR w2 _ ∧ _).1 hb1.size))) HTT.out.toPa (by first | exact i5 | exact i5.below (Below.refl _ _).drew | exact i5.below (below_new w5 _) | exact i5.below (below_new w5 _).drew) hc5 rfl (by omega) Hka.out).mono ?_; rintro e w6 ⟨v6, rfl, o6, b6⟩; rw [Hta0.out] at o6; have hk6 := KeepR.next b6 (by assumption : KeepR w2 _ ∧ _).1)
        refine hKq.out _ _ ?_ (fun hHeld3 => ?_)
        · (try dsimp only); first | exact keep2 (by assumption) hP1.out | exact keep2 (KeepR.start _) hP1.out | exact keep2 (KeepR.alloc0 _ _) hP1.out | exact keep2 (KeepR.alloc (by assumption : KeepR w2 _ ∧ _).1 _) hP1.out
        clear hKq Kq
        (try simp only [Act.put, List.setIfInBounds_toArray, List.set_cons_zero, List.set_cons_succ])
        clear hHeld2
        refine wpAnyH_ready (rs := [7]) (by kernel_rfl) (by simp) ?_
        refine consH rfl (fun Kq hKq => ?_)
        go_simp
        (go_at_call 72; refine (impl_sums _ _ _ _ _ _ ps ws _ (H.out.below (hb1.trans (Below.mono (by assumption : KeepR w2 _ ∧ _).1 hb1.size))) HTT.out).mono ?_; rintro e w7 ⟨v7, rfl, o7, b7⟩; have hk7 := KeepR.next b7 (by assumption : KeepR w2 _ ∧ _).1)
        refine hKq.out _ _ ?_ (fun hHeld4 => ?_)
        · (try dsimp only); first | exact keep2 (by assumption) hP1.out | exact keep2 (KeepR.start _) hP1.out | exact keep2 (KeepR.alloc0 _ _) hP1.out | exact keep2 (KeepR.alloc (by assumption : KeepR w2 _ ∧ _).1 _) hP1.out
        clear hKq Kq
        (try simp only [Act.put, List.setIfInBounds_toArray, List.set_cons_zero, List.set_cons_succ])
        clear hHeld3
        refine takeH (i := 8) (oi := _) (v := ?_) rfl (by kernel_rfl) (by kernel_rfl) (by kernel_rfl) (fun _ _ _ h => h) (Or.inl ⟨by rfl, ?_⟩) (by assumption) ?_
        rotate_left
        · first | (intro w hSw; (try dsimp only at hSw); go_simp; done) | (intro w hSw; (try dsimp only at hSw); go_simp; with_reducible rfl)
        (try simp only [Act.put, List.setIfInBounds_toArray, List.set_cons_zero, List.set_cons_succ])
        refine takeH (i := 9) (oi := _) (v := ?_) rfl (by kernel_rfl) (by kernel_rfl) (by kernel_rfl) (fun _ _ _ h => h) (Or.inl ⟨by rfl, ?_⟩) (by assumption) ?_
        rotate_left
        · first | (intro w hSw; (try dsimp only at hSw); go_simp; done) | (intro w hSw; (try dsimp only at hSw); go_simp; with_reducible rfl)
        (try simp only [Act.put, List.setIfInBounds_toArray, List.set_cons_zero, List.set_cons_succ])
        refine takeH (i := 10) (oi := _) (v := ?_) rfl (by kernel_rfl) (by kernel_rfl) (by kernel_rfl) (fun _ _ _ h => h) (Or.inl ⟨by rfl, ?_⟩) (by assumption) ?_
        rotate_left
        · first | (intro w hSw; (try dsimp only at hSw); go_simp; done) | (intro w hSw; (try dsimp only at hSw); go_simp; with_reducible rfl)
        (try simp only [Act.put, List.setIfInBounds_toArray, List.set_cons_zero, List.set_cons_succ])
        refine wpAnyH_done (by kernel_rfl) ?_ _
        refine NoPanic.normal ?_
        go_wp2_with fail
        go_meet
        first
          | exact mean_mk hk7 Htl.out Hsl.out (((((Fr.own_nil0 w2).below (Below.refl _ _).drew).below b5).below b6).below b7) (Nat.le_refl _) (o6.below b7) o7 (fun q hq => by have h1 := (World.ownsRow.lt o6 q hq).1; have h2 := (World.ownsRow.lt o6 q hq).2; have h3 := b5.size; have h4 := b6.size; have h5 := b7.size; (try simp at h1 h2 h3 h4 h5); omega) (fun q hq => by have h1 := (World.ownsRow.lt o7 q hq).1; have h2 := (World.ownsRow.lt o7 q hq).2; have h3 := b5.size; have h4 := b6.size; have h5 := b7.size; (try simp at h1 h2 h3 h4 h5); omega)
          | exact mean_mk hk7 Htl.out Hsl.out (((Fr.own_nil0 w5).below b6).below b7) (Below.size hk5) (o6.below b7) o7 (fun q hq => by have h1 := (World.ownsRow.lt o6 q hq).1; have h2 := (World.ownsRow.lt o6 q hq).2; have h3 := b5.size; have h4 := b6.size; have h5 := b7.size; (try simp at h1 h2 h3 h4 h5); omega) (fun q hq => by have h1 := (World.ownsRow.lt o7 q hq).1; have h2 := (World.ownsRow.lt o7 q hq).2; have h3 := b5.size; have h4 := b6.size; have h5 := b7.size; (try simp at h1 h2 h3 h4 h5); omega)
          | exact mean_mk hk7 Htl.out Hsl.out ((Fr.own_nil0 w6).below b7) (Below.size hk6) ((o6.below (below_new w6 _)).below b7) o7 (fun q hq => by have h1 := (World.ownsRow.lt o6 q hq).1; have h2 := (World.ownsRow.lt o6 q hq).2; have h3 := b5.size; have h4 := b6.size; have h5 := b7.size; (try simp at h1 h2 h3 h4 h5); omega) (fun q hq => by have h1 := (World.ownsRow.lt o7 q hq).1; have h2 := (World.ownsRow.lt o7 q hq).2; have h3 := b5.size; have h4 := b6.size; have h5 := b7.size; (try simp at h1 h2 h3 h4 h5); omega)
          | exact mean_mk (KeepR.alloc hk7 _) Htl.out Hsl.out (Fr.own_nil0 w7) (Below.size hk7) ((o6.below b7).below (below_new w7 _)) (o7.below (below_new w7 _)) (fun q hq => by have h1 := (World.ownsRow.lt (o6.below b7) q hq).2; omega) (fun q hq => by have h1 := (World.ownsRow.lt o7 q hq).2; omega)
      · go_simp
        (go_at_call 131; refine (impl_gathered _ _ _ _ _ _ ps ws _ _ _ (totK ps ws V nL) 59940 _ (H.out.below (hb1.trans (Below.mono (by assumption : KeepR w2 _ ∧ _).1 hb1.size))) HTT.out.toPa (by first | exact i5 | exact i5.below (Below.refl _ _).drew | exact i5.below (below_new w5 _) | exact i5.below (below_new w5 _).drew) hc5 rfl (by omega) Hka.out).mono ?_; rintro e w6 ⟨v6, rfl, o6, b6⟩; rw [Hta0.out] at o6; have hk6 := KeepR.next b6 (by assumption : KeepR w2 _ ∧ _).1)
        refine hKq.out _ _ ?_ (fun hHeld2 => ?_)
        · (try dsimp only); first | exact keep2 (by assumption) hP1.out | exact keep2 (KeepR.start _) hP1.out | exact keep2 (KeepR.alloc0 _ _) hP1.out | exact keep2 (KeepR.alloc (by assumption : KeepR w2 _ ∧ _).1 _) hP1.out
        clear hKq Kq
        (try simp only [Act.put, List.setIfInBounds_toArray, List.set_cons_zero, List.set_cons_succ])
        clear hHeld1
        refine wpAnyH_ready (rs := [0, 7]) (by kernel_rfl) (by simp) ?_
        refine consM rfl (fun Kq hKq => ?_) (consH rfl (fun Kq hKq => ?_))
        · go_simp
          refine hKq.out _ _ ?_ (fun hHeld3 => ?_)
          · (try dsimp only); first | exact keep2 (by assumption) hP1.out | exact keep2 (KeepR.start _) hP1.out | exact keep2 (KeepR.alloc0 _ _) hP1.out | exact keep2 (KeepR.alloc (by assumption : KeepR w2 _ ∧ _).1 _) hP1.out
          clear hKq Kq
          (try simp only [Act.put, List.setIfInBounds_toArray, List.set_cons_zero, List.set_cons_succ])
          clear hHeld2
          refine wpAnyH_ready (rs := [7]) (by kernel_rfl) (by simp) ?_
          refine consH rfl (fun Kq hKq => ?_)
          go_simp
          (go_at_call 72; refine (impl_sums _ _ _ _ _ _ ps ws _ (H.out.below (hb1.trans (Below.mono (by assumption : KeepR w2 _ ∧ _).1 hb1.size))) HTT.out).mono ?_; rintro e w7 ⟨v7, rfl, o7, b7⟩; have hk7 := KeepR.next b7 (by assumption : KeepR w2 _ ∧ _).1)
          refine hKq.out _ _ ?_ (fun hHeld4 => ?_)
          · (try dsimp only); first | exact keep2 (by assumption) hP1.out | exact keep2 (KeepR.start _) hP1.out | exact keep2 (KeepR.alloc0 _ _) hP1.out | exact keep2 (KeepR.alloc (by assumption : KeepR w2 _ ∧ _).1 _) hP1.out
          clear hKq Kq
          (try simp only [Act.put, List.setIfInBounds_toArray, List.set_cons_zero, List.set_cons_succ])
          clear hHeld3
          refine takeH (i := 8) (oi := _) (v := ?_) rfl (by kernel_rfl) (by kernel_rfl) (by kernel_rfl) (fun _ _ _ h => h) (Or.inl ⟨by rfl, ?_⟩) (by assumption) ?_
          rotate_left
          · first | (intro w hSw; (try dsimp only at hSw); go_simp; done) | (intro w hSw; (try dsimp only at hSw); go_simp; with_reducible rfl)
          (try simp only [Act.put, List.setIfInBounds_toArray, List.set_cons_zero, List.set_cons_succ])
          refine takeH (i := 9) (oi := _) (v := ?_) rfl (by kernel_rfl) (by kernel_rfl) (by kernel_rfl) (fun _ _ _ h => h) (Or.inl ⟨by rfl, ?_⟩) (by assumption) ?_
          rotate_left
          · first | (intro w hSw; (try dsimp only at hSw); go_simp; done) | (intro w hSw; (try dsimp only at hSw); go_simp; with_reducible rfl)
          (try simp only [Act.put, List.setIfInBounds_toArray, List.set_cons_zero, List.set_cons_succ])
          refine takeH (i := 10) (oi := _) (v := ?_) rfl (by kernel_rfl) (by kernel_rfl) (by kernel_rfl) (fun _ _ _ h => h) (Or.inl ⟨by rfl, ?_⟩) (by assumption) ?_
          rotate_left
          · first | (intro w hSw; (try dsimp only at hSw); go_simp; done) | (intro w hSw; (try dsimp only at hSw); go_simp; with_reducible rfl)
          (try simp only [Act.put, List.setIfInBounds_toArray, List.set_cons_zero, List.set_cons_succ])
          refine wpAnyH_done (by kernel_rfl) ?_ _
          refine NoPanic.normal ?_
          go_wp2_with fail
          go_meet
          first
            | exact mean_mk hk7 Htl.out Hsl.out (((((Fr.own_nil0 w2).below (Below.refl _ _).drew).below b5).below b6).below b7) (Nat.le_refl _) (o6.below b7) o7 (fun q hq => by have h1 := (World.ownsRow.lt o6 q hq).1; have h2 := (World.ownsRow.lt o6 q hq).2; have h3 := b5.size; have h4 := b6.size; have h5 := b7.size; (try simp at h1 h2 h3 h4 h5); omega) (fun q hq => by have h1 := (World.ownsRow.lt o7 q hq).1; have h2 := (World.ownsRow.lt o7 q hq).2; have h3 := b5.size; have h4 := b6.size; have h5 := b7.size; (try simp at h1 h2 h3 h4 h5); omega)
            | exact mean_mk hk7 Htl.out Hsl.out (((Fr.own_nil0 w5).below b6).below b7) (Below.size hk5) (o6.below b7) o7 (fun q hq => by have h1 := (World.ownsRow.lt o6 q hq).1; have h2 := (World.ownsRow.lt o6 q hq).2; have h3 := b5.size; have h4 := b6.size; have h5 := b7.size; (try simp at h1 h2 h3 h4 h5); omega) (fun q hq => by have h1 := (World.ownsRow.lt o7 q hq).1; have h2 := (World.ownsRow.lt o7 q hq).2; have h3 := b5.size; have h4 := b6.size; have h5 := b7.size; (try simp at h1 h2 h3 h4 h5); omega)
            | exact mean_mk hk7 Htl.out Hsl.out ((Fr.own_nil0 w6).below b7) (Below.size hk6) ((o6.below (below_new w6 _)).below b7) o7 (fun q hq => by have h1 := (World.ownsRow.lt o6 q hq).1; have h2 := (World.ownsRow.lt o6 q hq).2; have h3 := b5.size; have h4 := b6.size; have h5 := b7.size; (try simp at h1 h2 h3 h4 h5); omega) (fun q hq => by have h1 := (World.ownsRow.lt o7 q hq).1; have h2 := (World.ownsRow.lt o7 q hq).2; have h3 := b5.size; have h4 := b6.size; have h5 := b7.size; (try simp at h1 h2 h3 h4 h5); omega)
            | exact mean_mk (KeepR.alloc hk7 _) Htl.out Hsl.out (Fr.own_nil0 w7) (Below.size hk7) ((o6.below b7).below (below_new w7 _)) (o7.below (below_new w7 _)) (fun q hq => by have h1 := (World.ownsRow.lt (o6.below b7) q hq).2; omega) (fun q hq => by have h1 := (World.ownsRow.lt o7 q hq).2; omega)
        · go_simp
          (go_at_call 72; refine (impl_sums _ _ _ _ _ _ ps ws _ (H.out.below (hb1.trans (Below.mono (by assumption : KeepR w2 _ ∧ _).1 hb1.size))) HTT.out).mono ?_; rintro e w7 ⟨v7, rfl, o7, b7⟩; have hk7 := KeepR.next b7 (by assumption : KeepR w2 _ ∧ _).1)
          refine hKq.out _ _ ?_ (fun hHeld3 => ?_)
          · (try dsimp only); first | exact keep2 (by assumption) hP1.out | exact keep2 (KeepR.start _) hP1.out | exact keep2 (KeepR.alloc0 _ _) hP1.out | exact keep2 (KeepR.alloc (by assumption : KeepR w2 _ ∧ _).1 _) hP1.out
          clear hKq Kq
          (try simp only [Act.put, List.setIfInBounds_toArray, List.set_cons_zero, List.set_cons_succ])
          clear hHeld2
          refine wpAnyH_ready (rs := [0]) (by kernel_rfl) (by simp) ?_
          refine consH rfl (fun Kq hKq => ?_)
          go_simp
          refine hKq.out _ _ ?_ (fun hHeld4 => ?_)
          · (try dsimp only); first | exact keep2 (by assumption) hP1.out | exact keep2 (KeepR.start _) hP1.out | exact keep2 (KeepR.alloc0 _ _) hP1.out | exact keep2 (KeepR.alloc (by assumption : KeepR w2 _ ∧ _).1 _) hP1.out
          clear hKq Kq
          (try simp only [Act.put, List.setIfInBounds_toArray, List.set_cons_zero, List.set_cons_succ])
          clear hHeld3
          refine takeH (i := 8) (oi := _) (v := ?_) rfl (by kernel_rfl) (by kernel_rfl) (by kernel_rfl) (fun _ _ _ h => h) (Or.inl ⟨by rfl, ?_⟩) (by assumption) ?_
          rotate_left
          · first | (intro w hSw; (try dsimp only at hSw); go_simp; done) | (intro w hSw; (try dsimp only at hSw); go_simp; with_reducible rfl)
          (try simp only [Act.put, List.setIfInBounds_toArray, List.set_cons_zero, List.set_cons_succ])
          refine takeH (i := 9) (oi := _) (v := ?_) rfl (by kernel_rfl) (by kernel_rfl) (by kernel_rfl) (fun _ _ _ h => h) (Or.inl ⟨by rfl, ?_⟩) (by assumption) ?_
          rotate_left
          · first | (intro w hSw; (try dsimp only at hSw); go_simp; done) | (intro w hSw; (try dsimp only at hSw); go_simp; with_reducible rfl)
          (try simp only [Act.put, List.setIfInBounds_toArray, List.set_cons_zero, List.set_cons_succ])
          refine takeH (i := 10) (oi := _) (v := ?_) rfl (by kernel_rfl) (by kernel_rfl) (by kernel_rfl) (fun _ _ _ h => h) (Or.inl ⟨by rfl, ?_⟩) (by assumption) ?_
          rotate_left
          · first | (intro w hSw; (try dsimp only at hSw); go_simp; done) | (intro w hSw; (try dsimp only at hSw); go_simp; with_reducible rfl)
          (try simp only [Act.put, List.setIfInBounds_toArray, List.set_cons_zero, List.set_cons_succ])
          refine wpAnyH_done (by kernel_rfl) ?_ _
          refine NoPanic.normal ?_
          go_wp2_with fail
          go_meet
          first
            | exact mean_mk hk7 Htl.out Hsl.out (((((Fr.own_nil0 w2).below (Below.refl _ _).drew).below b5).below b6).below b7) (Nat.le_refl _) (o6.below b7) o7 (fun q hq => by have h1 := (World.ownsRow.lt o6 q hq).1; have h2 := (World.ownsRow.lt o6 q hq).2; have h3 := b5.size; have h4 := b6.size; have h5 := b7.size; (try simp at h1 h2 h3 h4 h5); omega) (fun q hq => by have h1 := (World.ownsRow.lt o7 q hq).1; have h2 := (World.ownsRow.lt o7 q hq).2; have h3 := b5.size; have h4 := b6.size; have h5 := b7.size; (try simp at h1 h2 h3 h4 h5); omega)
            | exact mean_mk hk7 Htl.out Hsl.out (((Fr.own_nil0 w5).below b6).below b7) (Below.size hk5) (o6.below b7) o7 (fun q hq => by have h1 := (World.ownsRow.lt o6 q hq).1; have h2 := (World.ownsRow.lt o6 q hq).2; have h3 := b5.size; have h4 := b6.size; have h5 := b7.size; (try simp at h1 h2 h3 h4 h5); omega) (fun q hq => by have h1 := (World.ownsRow.lt o7 q hq).1; have h2 := (World.ownsRow.lt o7 q hq).2; have h3 := b5.size; have h4 := b6.size; have h5 := b7.size; (try simp at h1 h2 h3 h4 h5); omega)
            | exact mean_mk hk7 Htl.out Hsl.out ((Fr.own_nil0 w6).below b7) (Below.size hk6) ((o6.below (below_new w6 _)).below b7) o7 (fun q hq => by have h1 := (World.ownsRow.lt o6 q hq).1; have h2 := (World.ownsRow.lt o6 q hq).2; have h3 := b5.size; have h4 := b6.size; have h5 := b7.size; (try simp at h1 h2 h3 h4 h5); omega) (fun q hq => by have h1 := (World.ownsRow.lt o7 q hq).1; have h2 := (World.ownsRow.lt o7 q hq).2; have h3 := b5.size; have h4 := b6.size; have h5 := b7.size; (try simp at h1 h2 h3 h4 h5); omega)
            | exact mean_mk (KeepR.alloc hk7 _) Htl.out Hsl.out (Fr.own_nil0 w7) (Below.size hk7) ((o6.below b7).below (below_new w7 _)) (o7.below (below_new w7 _)) (fun q hq => by have h1 := (World.ownsRow.lt (o6.below b7) q hq).2; omega) (fun q hq => by have h1 := (World.ownsRow.lt o7 q hq).2; omega)
  case rest =>
    obtain ⟨hk5, g5, a6, c6, a7, c7, rfl, rfl, rfl, o5, i6, i7, p6, p7⟩ := hcut
    have hk5b : Below w2.heap.size w2 wc := hk5
    have hb15 := hb1.trans (hk5b.mono hb1.size)
    have HO := Lib.hid o5
    have G6 := Lib.hid i6
    have G7 := Lib.hid i7
    have P6 := Lib.hid p6
    have P7 := Lib.hid p7
    have HP5 := Lib.hid (hP1.out.below hk5b)
    have hw2 : w.heap.size < w2.heap.size := hP1.out.lt
    have hw2c : w2.heap.size ≤ wc.heap.size := hk5b.size
    have Hta : Hid (∀ x, x < nP → -479520 ≤ nth (totA ps ws V) x ∧ nth (totA ps ws V) x ≤ 479520) := Lib.hid fun x hx => tot_bd999 HTT.out (by omega) HV.out (by have := Hl.out; omega)
    clear hk5 hk5b o5 i6 i7 p6 p7 hP1 hb1 c0 c1
    generalize hU : w2.heap.size = U at *
    clear hU
    go_wp2_with fail
    go_loopw [5, 22] (fun v5 v22 wr => ∃ x : Nat, x ≤ nP ∧ v22 = .int .i64 (x : Int) ∧ Fr.Own wr U v5 ((meanL ps ws V).take x) ∧ Ints wr a6 nP (totA ps ws V) ∧ Ints wr a7 nP (sums ps ws) ∧ Apart a6 v5 ∧ Apart a7 v5 ∧ Below w.heap.size w wr ∧ U ≤ wr.heap.size) (fun _ v22 _ => nP - (intOf v22).toNat)
    case atStart => exact ⟨0, Nat.zero_le _, rfl, by rw [List.take_zero]; exact HO.out, G6.out, G7.out, P6.out, P7.out, hb15, hw2c⟩
    case round =>
      clear hb15 HO G6 G7 P6 P7 HP5 hw2c
      obtain ⟨x, hx, rfl, hou, h6, h7, p6, p7, hbel, hsz⟩ := hrel
      have G6 := Lib.hid h6
      have G7 := Lib.hid h7
      have P6 := Lib.hid p6
      have P7 := Lib.hid p7
      clear h6 h7 p6 p7
      by_cases hlt : (x : Int) < nP
      · obtain ⟨b6, o6, rfl, hc6⟩ := G6.out.at (i := x) (Below.refl _ _) (by omega)
        obtain ⟨b7, o7, rfl, hc7⟩ := G7.out.at (i := x) (Below.refl _ _) (by omega)
        have Hml := Lib.hid (meanL_take ps ws V (x := x) (by have := Hl.out; omega))
        have hol : ((meanL ps ws V).take x).length ≤ 24 := by rw [List.length_take]; omega
        have hs1 := sums_pos HTT.out x (by have := Hl.out; omega)
        have hs2 := (sums_bd HTT.out x).2
        have htx := Hta.out x (by omega)
        have HcL : Hid (∀ W : World, Calls Tryz.prog 73 #[.int .i64 (nth (totA ps ws V) x), .int .i64 (nth (sums ps ws) x)] W fun e w' => e = .returned (.tuple #[.agg #[.int .i64 (nm (nth (totA ps ws V) x) (nth (sums ps ws) x)), .int .i64 (dn (nth (totA ps ws V) x) (nth (sums ps ws) x))], .bool true]) ∧ Below W.heap.size W w') := Lib.hid fun W => impl_lowest_s _ _ W (by omega) (by omega)
        clear hs1 hs2 htx
        generalize nm (nth (totA ps ws V) x) (nth (sums ps ws) x) = gn at *
        generalize dn (nth (totA ps ws V) x) (nth (sums ps ws) x) = gd at *
        generalize nth (totA ps ws V) x = tx at *
        generalize nth (sums ps ws) x = sx at *
        generalize (meanL ps ws V).take x = acc at *
        have k2 : (0 : Int) ≤ (x : Int) := by omega
        have HO := Lib.hid hou
        clear hou
        go_upto_region 6 with (go_at_call 73; refine (HcL.out _).mono ?_; rintro e w7 ⟨rfl, b7⟩
                               have q := Pair.new w7 (.int .i64 0) (.int .i64 0) 29
                               have q0 := q.c0
                               have q1 := q.c1
                               have q2 := q.f0
                               have q3 := q.f1)
        have hb17 := hbel.trans (b7.mono hbel.size)
        have hnew := below_new w7 (.cells #[.int .i64 gn, .int .i64 gd] 29)
        have HF := Lib.hid (Pair.new w7 (.int .i64 gn) (.int .i64 gd) 29)
        have G8 := Lib.hid ((G6.out.below b7).below hnew)
        have G9 := Lib.hid ((G7.out.below b7).below hnew)
        have HO8 := Lib.hid ((HO.out.below b7).below hnew)
        have hb18 := hb17.trans (hnew.mono hb17.size)
        have hs8 : U ≤ (w7.alloc (.cells #[.int .i64 gn, .int .i64 gd] 29)).heap.size := by have := b7.size; have := hnew.size; omega
        clear q q0 q1 q2 q3 hb17 b7 hnew G6 G7 HO hc6 hc7
        generalize w7.alloc (.cells #[.int .i64 gn, .int .i64 gd] 29) = w8 at *
        have z0 := HF.out.c0
        have z1 := HF.out.c1
        go_wp2_with (at_builtin; refine Fr.wp_push2 _ _ rfl rfl U _ _ rfl HO8.out rfl (by omega) hs8 ?_; intro v' w' ho hb hm)
        have h6' := G8.out.moved hm (fun _ => P6.out)
        have h7' := G9.out.moved hm (fun _ => P7.out)
        go_roundw
        case rel => exact ⟨x + 1, by omega, by go_num, by rw [Hml.out]; exact ho, h6'.1, h7'.1, h6'.2 (by omega), h7'.2 (by omega), hb18.trans (hb.mono (by omega)), Nat.le_trans hs8 hb.size⟩
        case measure => simp [intOf]; omega
      · obtain rfl : x = nP := by omega
        have hfin : (meanL ps ws V).take x = meanL ps ws V := List.take_of_length_le (by rw [meanL_length]; have := Hl.out; omega)
        rw [hfin] at hou
        go_wp2_with fail
        go_ret
        exact ⟨_, rfl, hou.mono (by omega), hbel⟩
end Go.Proofs.YtnbomleieianoaaGreat

/- Contracts: means of pays and the process that they are, of the program and of the reference. -/
namespace Go.Proofs.YtnbomleieianoaaGreat
open Go.RowKit

namespace Fr
theorem Ints.moved {w w' : World} {a : Option Addr} {n : Nat} {xs : List (Int × Int)} {v v' : Value} (h : Ints w a n xs) (hm : Moved w v w' v') (ha : 0 < n → Apart a v) : Ints w' a n xs ∧ (0 < n → Apart a v') := by
  refine ⟨⟨h.1, fun hn => ?_⟩, fun hn p hp => ?_⟩
  · obtain ⟨b, off, rfl, hb, hc⟩ := h.2 hn
    have hk := hm.2 b hb (ha hn _ rfl)
    exact ⟨b, off, rfl, Nat.lt_of_lt_of_le hb hm.1, fun j hj => ⟨(World.cell?_of_block (a := ⟨b, off + j * 2, none⟩) hk.2).trans (hc j hj).1, (World.cell?_of_block (a := ⟨b, off + j * 2 + 1, none⟩) hk.2).trans (hc j hj).2⟩⟩
  · obtain ⟨b, off, rfl, hb, _⟩ := h.2 hn
    cases hp
    exact (hm.2 b hb (ha hn _ rfl)).1
end Fr
set_option maxRecDepth 100000 in
set_option maxHeartbeats 1000000 in
theorem impl_MeansOf (aP : Option Addr) (nP cP : Nat) (aW : Option Addr) (nW cW : Nat) (ps ws : List Int) (aL : Option Addr) (nL cL : Nat) (l : List Int) (w : World) (h : Tre w aP nP cP aW nW cW ps ws) (hL : Ints w aL nL l) (_hLc : aL = none → cL = 0) (hn : nL ≤ 1048576) :
    Calls Tryz.prog 28 #[.agg #[.slice aP nP cP, .slice aW nW cW], .slice aL nL cL] w fun e w' => ∃ v, e = .returned (.tuple #[v, .bool (epB ps ws l)]) ∧ Fr.Own w' w.heap.size v (mofV ps ws l) ∧ Below w.heap.size w w' := by
  have hl := h.p.1
  have hlw := h.w.1
  have hpn := h.pn
  have hwn := h.wn
  have hb1 := below_new w (.cells #[.slice aP nP cP, .slice aW nW cW] 26)
  have hP1 := Lib.hid (Pair.new w (.slice aP nP cP) (.slice aW nW cW) 26)
  have H := Lib.hid h
  have Hl := Lib.hid hl
  have Hlw := Lib.hid hlw
  clear h hl hlw
  have HL := Lib.hid hL
  have hll := Lib.hid hL.1
  clear hL
  have hlt2 := hP1.out.lt
  go_enter Tryz.func28, Tryz.ntmps28
  have c0 := hP1.out.c0
  have c1 := hP1.out.c1
  go_wp2_with fail
  generalize (w.alloc (.cells #[.slice aP nP cP, .slice aW nW cW] 26)) = w2 at *
  refine (impl_IsTree _ _ _ _ _ _ ps ws _ (H.out.below hb1)).mono ?_
  rintro e w3 ⟨rfl, hb3⟩
  have hP3 := hP1.out.below hb3
  have d0 := hP3.c0
  have d1 := hP3.c1
  have HP3 := Lib.hid hP3
  have hb13 := hb1.trans (hb3.mono hb1.size)
  clear hP3 c0 c1 hb3
  cases hT : treeB ps ws
  · have Hv := Lib.hid (ep_no1 (l := l) hT)
    clear hT
    go_wp2_with fail
    go_ret2
    exact ⟨_, by rw [Hv.out]; rfl, by rw [mofV_no Hv.out]; exact Fr.Own.nil _ _, hb13⟩
  have HT := Lib.hid hT
  have HTr := Lib.hid (treeB_t hT)
  clear hT
  go_wp2_with fail
  refine (impl_arePays _ _ _ _ _ _ ps ws _ _ _ l _ (H.out.below hb13) HTr.out (HL.out.below hb13) hn).mono ?_
  rintro e w4 ⟨rfl, hb4⟩
  have hb14 := hb13.trans (hb4.mono hb13.size)
  have hP4 := HP3.out.below hb4
  have e0 := hP4.c0
  have e1 := hP4.c1
  have HP4 := Lib.hid hP4
  clear d0 d1 hP4 hb4
  obtain ⟨eb, heb⟩ : ∃ z, z = ((l.length == (ends ps).length) && allIn l (-999) 999) := ⟨_, rfl⟩
  rw [← heb]
  have Heb : Hid (epB ps ws l = eb) := Lib.hid (by rw [epB, HT.out, heb]; rfl)
  clear heb
  cases eb
  · have Hv := Heb
    clear Heb
    go_wp2_with fail
    go_ret2
    exact ⟨_, by rw [Hv.out]; rfl, by rw [mofV_no Hv.out]; exact Fr.Own.nil _ _, hb14⟩
  have hpt := epB_t Heb.out
  have hnE : (ends ps).length = nL := by have := hll.out; omega
  have HnE := Lib.hid hnE
  have HV := Lib.hid hpt.2.2.2.2
  have hn24 := HTr.out.n24
  have hn1 := HTr.out.n1
  have hnP : 1 ≤ nP ∧ nP ≤ 24 := by have := Hl.out; omega
  have Hat : Hid (∀ i e : Nat, i < nL → nth (ends ps) i = (e : Int) → nth l i = eV ps l e) := Lib.hid fun i e hi he => eV_at (by have := HnE.out; omega) he
  clear hpt hn24 hn1 hnE hpn hwn
  go_wp2_with fail
  refine (impl_means _ _ _ _ _ _ ps ws _ _ _ l (eV ps l) _ (H.out.below hb14) HTr.out (HL.out.below hb14) HnE.out Hat.out HV.out).mono ?_
  rintro e w5 ⟨v5, rfl, ho5, hb5⟩
  go_wp2_with fail
  go_ret2
  exact ⟨_, by rw [Heb.out]; rfl, by rw [mofV_yes Heb.out]; exact ho5.mono hb14.size, hb14.trans (hb5.mono hb14.size)⟩
end Go.Proofs.YtnbomleieianoaaGreat
