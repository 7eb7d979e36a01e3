/- Contracts: the nodes of a stopping on the way to a node, what is a stopping, by the reference. -/
import Derived.Test.YtnbomleieianoaaOn3
import Derived.Test.YtnbomleieianoaaKeep
namespace Go.Proofs.Ytnbomleieianoaa
open Go.RowKit

set_option maxRecDepth 100000 in
set_option maxHeartbeats 1000000 in
theorem spec_l3On (aP : Option Addr) (nP cP : Nat) (aW : Option Addr) (nW cW : Nat) (ps ws : List Int) (aR : Option Addr) (nR cR : Nat) (rule : List Int) (X : Nat) (w : World) (h : Tre w aP nP cP aW nW cW ps ws) (hp : Pa ps) (hR : Ints w aR nR rule) (hn : nR ≤ 1048576) (hx : X < nP) :
    Calls Try.prog 137 #[.agg #[.slice aP nP cP, .slice aW nW cW], .slice aR nR cR, .int .i64 (X : Int)] w fun e w' => ∃ v, e = .returned v ∧ Own w' w.heap.size v (rule.filter (hasB (way ps X))) ∧ Below w.heap.size w w' := by
  have Hp := Lib.hid hp
  have hn24 := hp.n24
  have hl := h.p.1
  have hlw := h.w.1
  have hpn := h.pn
  have hwn := h.wn
  have hb1 := below_new w (.cells #[.slice aP nP cP, .slice aW nW cW] 26)
  have hP1 := Lib.hid (Pair.new w (.slice aP nP cP) (.slice aW nW cW) 26)
  have H := Lib.hid h
  have Hl := Lib.hid hl
  have Hlw := Lib.hid hlw
  clear h hl hlw
  have hnP : nP ≤ 24 := by have := Hl.out; omega
  have hwl : (way ps X).length ≤ 24 := by have := way_length Hp.out X (by have := Hl.out; omega); omega
  have HR := Lib.hid hR
  clear hp hn24 hR
  go_enter Try.func137, Try.ntmps137
  have c0 := hP1.out.c0
  have c1 := hP1.out.c1
  go_wp2_with fail
  generalize (w.alloc (.cells #[.slice aP nP cP, .slice aW nW cW] 26)) = w2 at *
  go_wp2_with (first
    | (go_at_call 90; refine (spec_l2Way _ _ _ _ _ _ ps ws X _ (H.out.below hb1) Hp.out hx).mono ?_; rintro e w3 ⟨v3, rfl, ho3, hb3⟩; obtain ⟨a3, c3, rfl⟩ := ho3.shape; have hb13 := hb1.trans (hb3.mono hb1.size))
    | (go_at_call 160; refine (spec_l2Both _ _ _ rule _ _ _ (way ps X) _ (HR.out.below hb13) ho3.ints hn (by omega)).mono ?_; rintro e w4 ⟨v4, rfl, ho4, hb4⟩))
  go_ret
  exact ⟨_, rfl, ho4.mono (by have := hb13.size; omega), hb13.trans (hb4.mono hb13.size)⟩
set_option maxRecDepth 100000 in
set_option maxHeartbeats 1000000 in
theorem spec_l3Stop (aP : Option Addr) (nP cP : Nat) (aW : Option Addr) (nW cW : Nat) (ps ws : List Int) (aR : Option Addr) (nR cR : Nat) (rule : List Int) (w : World) (h : Tre w aP nP cP aW nW cW ps ws) (hp : Pa ps) (hR : Ints w aR nR rule) (hn : nR ≤ 1048576) :
    Calls Try.prog 136 #[.agg #[.slice aP nP cP, .slice aW nW cW], .slice aR nR cR] w fun e w' => e = .returned (.bool (stopB ps rule)) ∧ Below w.heap.size w w' := by
  have Hp := Lib.hid hp
  have hn24 := hp.n24
  have hl := h.p.1
  have hlw := h.w.1
  have hpn := h.pn
  have hwn := h.wn
  have hb1 := below_new w (.cells #[.slice aP nP cP, .slice aW nW cW] 26)
  have hP1 := Lib.hid (Pair.new w (.slice aP nP cP) (.slice aW nW cW) 26)
  have H := Lib.hid h
  have Hl := Lib.hid hl
  have Hlw := Lib.hid hlw
  clear h hl hlw
  have hnP : nP ≤ 24 := by have := Hl.out; omega
  have hn0 : 1 ≤ nP := by have := hp.n1; have := Hl.out; omega
  have HR := Lib.hid hR
  have Hrl := Lib.hid hR.1
  clear hp hn24 hR
  have Hcut : Hid (∀ (i x : Nat), i < (ends ps).length → nth (ends ps) i = (x : Int) → (rule.filter (hasB (way ps x))).length ≠ 1 → stopB ps rule = false) := Lib.hid fun i x h1 h2 h3 => l3_cut Hp.out h1 h2 h3
  have Hall : Hid ((∀ i, i < (ends ps).length → ∀ x : Nat, nth (ends ps) i = (x : Int) → (rule.filter (hasB (way ps x))).length = 1) → (risB rule && allIn rule 0 ((nP : Int) - 1)) = stopB ps rule) := Lib.hid fun h => by rw [← Hl.out]; exact l3_all Hp.out h
  go_enter Try.func136, Try.ntmps136
  have c0 := hP1.out.c0
  have c1 := hP1.out.c1
  go_wp2_with fail
  generalize (w.alloc (.cells #[.slice aP nP cP, .slice aW nW cW] 26)) = w2 at *
  refine (spec_l2Ends _ _ _ _ _ _ ps ws _ (H.out.below hb1) Hp.out).mono ?_
  rintro e w4 ⟨v4, rfl, ho4, hb4⟩
  obtain ⟨a4, c4, rfl⟩ := ho4.shape
  have HE := Lib.hid ho4.ints
  have HP4 := Lib.hid (hP1.out.below hb4)
  have hb14 := hb1.trans (hb4.mono hb1.size)
  have hel : (ends ps).length ≤ 24 := by have := filt_length (endB ps) ps.length; have := Hl.out; rw [ends]; omega
  have Hen : Hid (∀ i, i < (ends ps).length → ∃ e : Nat, e < nP ∧ nth (ends ps) i = (e : Int)) := Lib.hid fun i hi => by
    obtain ⟨e, h1, h2, h3⟩ := end_nth hi
    exact ⟨e, by have := Hl.out; omega, h3⟩
  clear ho4 hb4 hP1 hb1 c0 c1
  generalize ends ps = es at *
  go_wp2_with fail
  go_loopw [6] (fun v6 wr => ∃ i : Nat, i ≤ es.length ∧ v6 = .int .i64 (i : Int) ∧ (∀ j, j < i → ∀ x : Nat, nth es j = (x : Int) → (rule.filter (hasB (way ps x))).length = 1) ∧ Ints wr a4 es.length es ∧ Pair wr w.heap.size (.slice aP nP cP) (.slice aW nW cW) ∧ Below w.heap.size w wr) (fun v6 _ => es.length - (intOf v6).toNat)
  case atStart => exact ⟨0, Nat.zero_le _, rfl, fun j hj => by omega, HE.out, HP4.out, hb14⟩
  case round =>
    clear hb14 HE HP4
    obtain ⟨i, hi, rfl, hsf, hen, hP, hbel⟩ := hrel
    have x0 := hP.c0
    have x1 := hP.c1
    have HP := Lib.hid hP
    have HE := Lib.hid hen
    have Hsf := Lib.hid hsf
    clear hP hen hsf
    by_cases hlt : (i : Int) < es.length
    · obtain ⟨be, oe, rfl, hce⟩ := HE.out.at (i := i) (Below.refl _ _) (by omega)
      obtain ⟨e, he, hei⟩ := Hen.out i (by omega)
      rw [hei] at hce
      have Hcl : Hid (∀ W : World, Below w.heap.size w W → Calls Try.prog 137 #[.agg #[.slice aP nP cP, .slice aW nW cW], .slice aR nR cR, .int .i64 (e : Int)] W fun e' w' => ∃ v, e' = .returned v ∧ Own w' W.heap.size v (rule.filter (hasB (way ps e))) ∧ Below W.heap.size W w') := Lib.hid fun W hW => spec_l3On _ _ _ _ _ _ ps ws aR nR cR rule e W (H.out.below hW) Hp.out (HR.out.below hW) hn he
      have hfl : (rule.filter (hasB (way ps e))).length ≤ 1048576 := by have := List.length_filter_le (hasB (way ps e)) rule; have := Hrl.out; omega
      have Hcut' : Hid ((rule.filter (hasB (way ps e))).length ≠ 1 → stopB ps rule = false) := Lib.hid fun h => Hcut.out i e (by omega) hei h
      have Hone : Hid ((rule.filter (hasB (way ps e))).length = 1 → ∀ j, j < i + 1 → ∀ x : Nat, nth es j = (x : Int) → (rule.filter (hasB (way ps x))).length = 1) := Lib.hid fun h j hj x hx => by
        by_cases ee : j = i
        · subst ee
          obtain rfl : x = e := by omega
          exact h
        · exact Hsf.out j (by omega) x hx
      clear hei
      generalize rule.filter (hasB (way ps e)) = on at *
      by_cases h1 : (on.length : Int) = 1
      · have Hn := Lib.hid (Hone.out (by omega))
        go_wp2_with fail
        go_region_held3 (fun W' => KeepR wr W' ∧ W'.cell? ⟨w.heap.size, 0, none⟩ = some (.slice aP nP cP) ∧ W'.cell? ⟨w.heap.size, 1, none⟩ = some (.slice aW nW cW) ∧ W'.cell? ⟨be, oe + i, none⟩ = some (.int .i64 (e : Int)))
          (first | exact keepC3 (by assumption) x0 x1 hce | exact keepC3 (KeepR.start _) x0 x1 hce)
          ((go_at_call 137; refine (Hcl.out _ (hbel.trans (Below.mono (by assumption : KeepR wr _ ∧ _).1 hbel.size))).mono ?_; rintro e' w6 ⟨v6, rfl, ho6, b6⟩; obtain ⟨a6, c6, rfl⟩ := ho6.shape; have hk6 := KeepR.next b6 (by assumption : KeepR wr _ ∧ _).1))
        go_wp2_with fail
        have hk6' : Below wr.heap.size wr w6 := hk6
        go_roundw
        case rel => exact ⟨i + 1, by omega, by go_num, Hn.out, HE.out.below hk6', HP.out.below hk6', hbel.trans (hk6'.mono hbel.size)⟩
        case measure => simp [intOf]; omega
      · have Hv := Lib.hid (Hcut'.out (by omega))
        go_wp2_with fail
        go_region_held3 (fun W' => KeepR wr W' ∧ W'.cell? ⟨w.heap.size, 0, none⟩ = some (.slice aP nP cP) ∧ W'.cell? ⟨w.heap.size, 1, none⟩ = some (.slice aW nW cW) ∧ W'.cell? ⟨be, oe + i, none⟩ = some (.int .i64 (e : Int)))
          (first | exact keepC3 (by assumption) x0 x1 hce | exact keepC3 (KeepR.start _) x0 x1 hce)
          ((go_at_call 137; refine (Hcl.out _ (hbel.trans (Below.mono (by assumption : KeepR wr _ ∧ _).1 hbel.size))).mono ?_; rintro e' w6 ⟨v6, rfl, ho6, b6⟩; obtain ⟨a6, c6, rfl⟩ := ho6.shape; have hk6 := KeepR.next b6 (by assumption : KeepR wr _ ∧ _).1))
        go_wp2_with fail
        have hk6' : Below wr.heap.size wr w6 := hk6
        go_ret
        exact ⟨by rw [Hv.out]; rfl, hbel.trans (hk6'.mono hbel.size)⟩
    · obtain rfl : i = es.length := by omega
      have Hv := Lib.hid (Hall.out Hsf.out)
      go_wp2_with (go_at_call 159; refine (spec_l1Rising _ _ _ _ _ rule _ hn (HR.out.below hbel)).mono ?_; rintro e w5 ⟨rfl, hb5⟩)
      go_ret
      exact ⟨by rw [← Hv.out]; rfl, hbel.trans (hb5.mono hbel.size)⟩
end Go.Proofs.Ytnbomleieianoaa
