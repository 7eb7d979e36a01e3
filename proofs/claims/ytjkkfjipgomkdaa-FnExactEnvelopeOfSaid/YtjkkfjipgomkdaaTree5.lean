/- Contracts on trees: numbers gathered from below, sums of nodes. -/
import Derived.Test.YtjkkfjipgomkdaaTree1
namespace Go.Proofs.Ytjkkfjipgomkdaa
open Go.RowKit

def Abs2 (C : Int) (xs : List Int) : Prop := ∀ i, -C ≤ nth xs i ∧ nth xs i ≤ C
theorem gath_bd2 {l : List Int} {B : Int} {p k : Nat} (h : Abs2 B l) (hp : p < l.length) : Abs2 (2 * B) (l.set p (nth l p + nth l k)) := gath_bd h hp
theorem pow_pos2 (k : Nat) : (1 : Int) ≤ 2 ^ k := by
  induction k with
  | zero => simp
  | succ k ih => rw [Int.pow_succ]; omega
theorem pow_start {B : Int} {k : Nat} (hB : 0 ≤ B) (hk : k ≤ 23) : B * 2 ^ k ≤ B * 8388608 := by
  refine Int.mul_le_mul_of_nonneg_left ?_ hB
  have : (2 : Int) ^ k ≤ 2 ^ 23 := by
    obtain ⟨d, hd⟩ : ∃ d, k + d = 23 := ⟨23 - k, by omega⟩
    rw [← hd, Int.pow_add]
    have h1 := pow_pos2 k
    have h2 := pow_pos2 d
    have := Int.mul_le_mul_of_nonneg_left h2 (show 0 ≤ (2 : Int) ^ k by omega)
    omega
  simpa using this
theorem pow_bd {B C : Int} {k : Nat} (hB : B ≤ 1000000000) (hC : 0 ≤ C) (h : C * 2 ^ k ≤ B * 8388608) : C ≤ 8388608000000000 := by
  have h1 := pow_pos2 k
  have h2 := Int.mul_le_mul_of_nonneg_left h1 hC
  omega
theorem pow_step {B C : Int} {k : Nat} (h : C * 2 ^ (k + 1) ≤ B * 8388608) : 2 * C * 2 ^ k ≤ B * 8388608 := by
  rw [Int.pow_succ] at h
  have : 2 * C * 2 ^ k = C * (2 ^ k * 2) := by rw [Int.mul_comm 2 C, Int.mul_assoc, Int.mul_comm 2]
  omega
set_option maxRecDepth 100000 in
set_option maxHeartbeats 2000000 in
theorem impl_gathered (aP : Option Addr) (nP cP : Nat) (aW : Option Addr) (nW cW : Nat) (ps ws : List Int) (aL : Option Addr) (nL cL : Nat) (l : List Int) (B : Int) (w : World) (h : Tre w aP nP cP aW nW cW ps ws) (hp : Pa ps) (hL : Ints w aL nL l) (hLc : aL = none → cL = 0) (hLn : nP = nL) (hB : 0 ≤ B ∧ B ≤ 1000000000) (hA : Abs2 B l) :
    Calls Try.prog 104 #[.agg #[.slice aP nP cP, .slice aW nW cW], .slice aL nL cL] w fun e w' => ∃ v, e = .returned v ∧ Own w' w.heap.size v (gathA ps l) ∧ Below w.heap.size w w' := by
  subst hLn
  have hn24 := hp.n24
  have hn1 := hp.n1
  have hl := h.p.1
  have hlw := h.w.1
  have hpn := h.pn
  have hwn := h.wn
  have hb1 := below_new w (.cells #[.slice aP nP cP, .slice aW nW cW] 28)
  have hP1 := Lib.hid (Pair.new w (.slice aP nP cP) (.slice aW nW cW) 28)
  have H := Lib.hid h
  have Hl := Lib.hid hl
  have Hlw := Lib.hid hlw
  clear h hl hlw
  have hnP : 1 ≤ nP ∧ nP ≤ 24 := by have := Hl.out; omega
  clear hn24 hn1 hpn hwn
  have HL0 := Lib.hid hL
  have HL := Lib.hid hL.1
  have HA := Lib.hid hA
  have Hp := Lib.hid hp
  obtain ⟨G, hG⟩ : ∃ G, G = gathA ps l := ⟨_, rfl⟩
  have HG : Hid (gath ps (nP - 1) l = G) := Lib.hid (by rw [hG, gathA, Hl.out])
  have HGG := Lib.hid hG
  rw [← hG]
  clear hL hA hp hG
  go_enter Try.func104, Try.ntmps104
  go_wp2_with fail
  refine (impl_copied _ _ _ l _ (by omega) hLc (HL0.out.below hb1)).mono ?_
  rintro e w2 ⟨v, rfl, ho, hb2⟩
  obtain ⟨g, cg, rfl, hg1, hg2⟩ := ho.form (by rw [HL.out]; omega)
  rw [HL.out] at ho ⊢
  have hbel := hb1.trans (hb2.mono hb1.size)
  have HP := Lib.hid (hP1.out.below hb2)
  rw [show (w.alloc (.cells #[.slice aP nP cP, .slice aW nW cW] 28)).heap.size = w.heap.size + 1 by simp] at hg1 ho
  have HO := Lib.hid ho
  clear ho hb2 hP1 hb1
  go_wp2_with fail

  go_loopw [6] (fun v wr => ∃ (k : Nat) (cur : List Int) (C : Int), k < nP ∧ v = .int .i64 (k : Int) ∧ cur.length = nP ∧ gath ps k cur = G ∧ 0 ≤ C ∧ C * 2 ^ k ≤ B * 8388608 ∧ Abs2 C cur ∧ Own wr (w.heap.size + 1) (.slice (some ⟨g, 0, none⟩) nP cg) cur ∧ Pair wr w.heap.size (.slice aP nP cP) (.slice aW nW cW) ∧ Below w.heap.size w wr) (fun v _ => (intOf v).toNat)
  case atStart => exact ⟨nP - 1, l, B, by omega, vi (by omega), HL.out, HG.out, hB.1, pow_start hB.1 (by omega), HA.out, HO.out, HP.out, hbel⟩
  case round =>
    clear hbel
    obtain ⟨k, cur, C, hk, rfl, hcl, hcg, hC0, hC1, hCa, hown, hP, hbel⟩ := hrel
    have c0 := hP.c0
    have c1 := hP.c1
    have HPk := Lib.hid hP
    have Hcl := Lib.hid hcl
    clear hP hcl
    by_cases hlt : (k : Int) > 0
    · obtain ⟨K, rfl⟩ : ∃ K : Nat, k = K + 1 := ⟨k - 1, by omega⟩
      obtain ⟨bP, oP, rfl, hc⟩ := H.out.p.at (i := K + 1) hbel (by omega)
      have hup := Hp.out.upN (x := K + 1) (by omega) (by have := Hl.out; omega)
      rw [hup.1] at hc
      have hpl := hup.2
      have hstep : gath ps K (cur.set (par ps (K + 1)) (nth cur (par ps (K + 1)) + nth cur (K + 1))) = G := hcg
      have hCb := pow_bd hB.2 hC0 hC1
      have hCs := pow_step (k := K) hC1
      have habs := gath_bd2 (k := K + 1) hCa (show par ps (K + 1) < cur.length by have := Hcl.out; omega)
      have hlen2 : (cur.set (par ps (K + 1)) (nth cur (par ps (K + 1)) + nth cur (K + 1))).length = nP := by rw [List.length_set]; exact Hcl.out
      clear hup hcg
      generalize par ps (K + 1) = p at *
      have d1 := hown.cell (i := p) (by have := Hcl.out; omega)
      have d2 := hown.cell (i := K + 1) (by have := Hcl.out; omega)
      have f1 := hown.free Hcl.out.symm p
      have hset := Own.set (w := wr.drew) hown Hcl.out.symm p (nth cur p + nth cur (K + 1))
      have q1 := hCa p
      have q2 := hCa (K + 1)
      generalize hz1 : nth cur p = z1 at *
      generalize hz2 : nth cur (K + 1) = z2 at *
      have Hset := Lib.hid hset
      have Hown := Lib.hid hown
      have Hstep := Lib.hid hstep
      have Habs := Lib.hid habs
      have Hlen2 := Lib.hid hlen2
      have HCa := Lib.hid hCa
      have HCs := Lib.hid hCs
      have HCC := Lib.hid hC1
      have HPn := Lib.hid (Pair.far (w := wr.drew) HPk.out.drew (b := g) (i := p) (show g ≠ w.heap.size by omega) (.int .i64 (z1 + z2)))
      clear hset hown hstep habs hz1 hz2 hlen2 hCa hCs hC1
      have s0 : IntKind.i64.wrap (z1 + z2) = z1 + z2 := IntWalk.i64_in _ (by omega)
      have s1 : (0 : Int) ≤ (p : Int) := by omega
      have s2 : (p : Int) < (nP : Int) := by omega
      have s3 : (0 : Int) ≤ ((K + 1 : Nat) : Int) := by omega
      have s4 : ((K + 1 : Nat) : Int) < (nP : Int) := by omega
      have s5 : (0 : Int) ≤ (K : Int) + 1 := by omega
      have s6 : (K : Int) + 1 < (nP : Int) := by omega
      clear hCb
      go_wp2_with fail
      refine wp_region_still_tail 14 (by kernel_rfl) (by kernel_rfl) ?_
      simp only [List.take_succ_cons, List.take_zero, List.drop_succ_cons, List.drop_zero]
      still_step
      still_step
      still_step
      still_step
      still_step
      still_step
      still_step
      still_step
      still_step
      still_step
      still_step
      still_step
      still_step
      still_step
      refine wpStill_nil ?_
      change wpList _ _ _ _ _ wr.drew
      go_wp2_with fail
      go_roundw
      case rel => exact ⟨K, _, 2 * C, by omega, vi (by omega), Hlen2.out, Hstep.out, by omega, HCs.out, Habs.out, Hset.out, HPn.out, hbel.drew.setCell (show w.heap.size ≤ g by omega) _⟩
      case measure => simp [intOf]
    · obtain rfl : k = 0 := by omega
      have hfin : cur = G := hcg
      rw [hfin] at hown
      go_wp2_with fail
      go_ret
      exact ⟨_, rfl, hown.mono (by omega), hbel⟩
theorem ws_abs {ps ws : List Int} (h : Tr ps ws) : Abs2 20 ws := fun i => by have := h.w0 i; omega
theorem impl_sums (aP : Option Addr) (nP cP : Nat) (aW : Option Addr) (nW cW : Nat) (ps ws : List Int) (w : World) (h : Tre w aP nP cP aW nW cW ps ws) (hT : Tr ps ws) :
    Calls Try.prog 63 #[.agg #[.slice aP nP cP, .slice aW nW cW]] w fun e w' => ∃ v, e = .returned v ∧ Own w' w.heap.size v (sums ps ws) ∧ Below w.heap.size w w' := by
  have HTT := Lib.hid hT
  have hn24 := hT.n24
  have hn1 := hT.n1
  have HT := Lib.hid hT
  have hwl := hT.wl
  have hl := h.p.1
  have hlw := h.w.1
  have hpn := h.pn
  have hwn := h.wn
  have hb1 := below_new w (.cells #[.slice aP nP cP, .slice aW nW cW] 28)
  have hP1 := Lib.hid (Pair.new w (.slice aP nP cP) (.slice aW nW cW) 28)
  have H := Lib.hid h
  have Hl := Lib.hid hl
  have Hlw := Lib.hid hlw
  clear h hl hlw
  have hnW : nW ≤ nP ∧ nP ≤ nW := by have := Hlw.out; have := Hl.out; omega
  have hnP : 1 ≤ nP ∧ nP ≤ 24 := by have := Hl.out; omega
  clear hn24 hn1 hT hwl hpn hwn
  have hWP : nW = nP := by omega
  have HW := Lib.hid hWP
  clear hWP hnW
  have c0 := hP1.out.c0
  have c1 := hP1.out.c1
  go_enter Try.func63, Try.ntmps63
  go_wp2_with fail
  refine (impl_gathered _ _ _ _ _ _ ps ws _ _ _ ws 20 _ (H.out.below hb1) HTT.out.toPa (H.out.w.below hb1) H.out.wc HW.out.symm (by omega) (ws_abs HTT.out)).mono ?_
  rintro e w2 ⟨v, rfl, ho, hb2⟩
  go_wp2_with fail
  go_ret
  exact ⟨_, rfl, ho.mono (by simp), hb1.trans (hb2.mono hb1.size)⟩
set_option maxRecDepth 100000 in
set_option maxHeartbeats 2000000 in
theorem spec_l2Sums (aP : Option Addr) (nP cP : Nat) (aW : Option Addr) (nW cW : Nat) (ps ws : List Int) (w : World) (h : Tre w aP nP cP aW nW cW ps ws) (hT : Tr ps ws) :
    Calls Try.prog 61 #[.agg #[.slice aP nP cP, .slice aW nW cW]] w fun e w' => ∃ v, e = .returned v ∧ Own w' w.heap.size v (sums ps ws) ∧ Below w.heap.size w w' := by
  have HTT := Lib.hid hT
  have hn24 := hT.n24
  have hn1 := hT.n1
  have HT := Lib.hid hT
  have hwl := hT.wl
  have hl := h.p.1
  have hlw := h.w.1
  have hpn := h.pn
  have hwn := h.wn
  have hb1 := below_new w (.cells #[.slice aP nP cP, .slice aW nW cW] 28)
  have hP1 := Lib.hid (Pair.new w (.slice aP nP cP) (.slice aW nW cW) 28)
  have H := Lib.hid h
  have Hl := Lib.hid hl
  have Hlw := Lib.hid hlw
  clear h hl hlw
  have hnW : nW ≤ nP ∧ nP ≤ nW := by have := Hlw.out; have := Hl.out; omega
  have hnP : 1 ≤ nP ∧ nP ≤ 24 := by have := Hl.out; omega
  clear hn24 hn1 hT hwl hpn hwn
  have hWP : nW = nP := by omega
  clear hnW
  subst hWP
  obtain ⟨G, hG⟩ : ∃ G, G = sums ps ws := ⟨_, rfl⟩
  obtain ⟨l, hl⟩ : ∃ l, l = ws := ⟨_, rfl⟩
  obtain ⟨B, hBB⟩ : ∃ B : Int, B = 20 := ⟨_, rfl⟩
  have hB : 0 ≤ B ∧ B ≤ 1000000000 := by omega
  have HG : Hid (gath ps (nW - 1) l = G) := Lib.hid (by rw [hG, hl, sums, gathA, Hl.out])
  have HL : Hid (l.length = nW) := Lib.hid (by rw [hl]; exact Hlw.out)
  have HA : Hid (Abs2 B l) := Lib.hid (by rw [hl, hBB]; exact ws_abs HTT.out)
  have HL0 : Hid (Ints w aW nW l) := Lib.hid (by rw [hl]; exact H.out.w)
  rw [← hG]
  clear hG hl hBB
  go_enter Try.func61, Try.ntmps61
  go_wp2_with fail
  refine (spec_l1Own _ _ _ l _ (by omega) H.out.wc (HL0.out.below hb1)).mono ?_
  rintro e w2 ⟨v, rfl, ho, hb2⟩
  obtain ⟨g, cg, rfl, hg1, hg2⟩ := ho.form (by rw [HL.out]; omega)
  rw [HL.out] at ho ⊢
  have hbel := hb1.trans (hb2.mono hb1.size)
  have HP := Lib.hid (hP1.out.below hb2)
  rw [show (w.alloc (.cells #[.slice aP nW cP, .slice aW nW cW] 28)).heap.size = w.heap.size + 1 by simp] at hg1 ho
  have HO := Lib.hid ho
  clear ho hb2 hP1 hb1
  go_wp2_with fail

  go_loopw [4] (fun v wr => ∃ (k : Nat) (cur : List Int) (C : Int), k < nW ∧ v = .int .i64 (k : Int) ∧ cur.length = nW ∧ gath ps k cur = G ∧ 0 ≤ C ∧ C * 2 ^ k ≤ B * 8388608 ∧ Abs2 C cur ∧ Own wr (w.heap.size + 1) (.slice (some ⟨g, 0, none⟩) nW cg) cur ∧ Pair wr w.heap.size (.slice aP nW cP) (.slice aW nW cW) ∧ Below w.heap.size w wr) (fun v _ => (intOf v).toNat)
  case atStart => exact ⟨nW - 1, l, B, by omega, vi (by omega), HL.out, HG.out, hB.1, pow_start hB.1 (by omega), HA.out, HO.out, HP.out, hbel⟩
  case round =>
    clear hbel
    obtain ⟨k, cur, C, hk, rfl, hcl, hcg, hC0, hC1, hCa, hown, hP, hbel⟩ := hrel
    have c0 := hP.c0
    have c1 := hP.c1
    have HPk := Lib.hid hP
    have Hcl := Lib.hid hcl
    clear hP hcl
    by_cases hlt : (k : Int) > 0
    · obtain ⟨K, rfl⟩ : ∃ K : Nat, k = K + 1 := ⟨k - 1, by omega⟩
      obtain ⟨bP, oP, rfl, hc⟩ := H.out.p.at (i := K + 1) hbel (by omega)
      have hup := HTT.out.toPa.upN (x := K + 1) (by omega) (by have := Hl.out; omega)
      rw [hup.1] at hc
      have hpl := hup.2
      have hstep : gath ps K (cur.set (par ps (K + 1)) (nth cur (par ps (K + 1)) + nth cur (K + 1))) = G := hcg
      have hCb := pow_bd hB.2 hC0 hC1
      have hCs := pow_step (k := K) hC1
      have habs := gath_bd2 (k := K + 1) hCa (show par ps (K + 1) < cur.length by have := Hcl.out; omega)
      have hlen2 : (cur.set (par ps (K + 1)) (nth cur (par ps (K + 1)) + nth cur (K + 1))).length = nW := by rw [List.length_set]; exact Hcl.out
      clear hup hcg
      generalize par ps (K + 1) = p at *
      have d1 := hown.cell (i := p) (by have := Hcl.out; omega)
      have d2 := hown.cell (i := K + 1) (by have := Hcl.out; omega)
      have f1 := hown.free Hcl.out.symm p
      have hset := Own.set (w := wr.drew) hown Hcl.out.symm p (nth cur p + nth cur (K + 1))
      have q1 := hCa p
      have q2 := hCa (K + 1)
      generalize hz1 : nth cur p = z1 at *
      generalize hz2 : nth cur (K + 1) = z2 at *
      have Hset := Lib.hid hset
      have Hown := Lib.hid hown
      have Hstep := Lib.hid hstep
      have Habs := Lib.hid habs
      have Hlen2 := Lib.hid hlen2
      have HCa := Lib.hid hCa
      have HCs := Lib.hid hCs
      have HCC := Lib.hid hC1
      have HPn := Lib.hid (Pair.far (w := wr.drew) HPk.out.drew (b := g) (i := p) (show g ≠ w.heap.size by omega) (.int .i64 (z1 + z2)))
      clear hset hown hstep habs hz1 hz2 hlen2 hCa hCs hC1
      have s0 : IntKind.i64.wrap (z1 + z2) = z1 + z2 := IntWalk.i64_in _ (by omega)
      have s1 : (0 : Int) ≤ (p : Int) := by omega
      have s2 : (p : Int) < (nW : Int) := by omega
      have s3 : (0 : Int) ≤ ((K + 1 : Nat) : Int) := by omega
      have s4 : ((K + 1 : Nat) : Int) < (nW : Int) := by omega
      have s5 : (0 : Int) ≤ (K : Int) + 1 := by omega
      have s6 : (K : Int) + 1 < (nW : Int) := by omega
      clear hCb
      go_wp2_with fail
      refine wp_region_still_tail 20 (by kernel_rfl) (by kernel_rfl) ?_
      simp only [List.take_succ_cons, List.take_zero, List.drop_succ_cons, List.drop_zero]
      still_step
      still_step
      still_step
      still_step
      still_step
      still_step
      still_step
      still_step
      still_step
      still_step
      still_step
      still_step
      still_step
      still_step
      still_step
      still_step
      still_step
      still_step
      still_step
      still_step
      refine wpStill_nil ?_
      change wpList _ _ _ _ _ wr.drew
      go_wp2_with fail
      go_roundw
      case rel => exact ⟨K, _, 2 * C, by omega, vi (by omega), Hlen2.out, Hstep.out, by omega, HCs.out, Habs.out, Hset.out, HPn.out, hbel.drew.setCell (show w.heap.size ≤ g by omega) _⟩
      case measure => simp [intOf]
    · obtain rfl : k = 0 := by omega
      have hfin : cur = G := hcg
      rw [hfin] at hown
      go_wp2_with fail
      go_ret
      exact ⟨_, rfl, hown.mono (by omega), hbel⟩
end Go.Proofs.Ytjkkfjipgomkdaa
