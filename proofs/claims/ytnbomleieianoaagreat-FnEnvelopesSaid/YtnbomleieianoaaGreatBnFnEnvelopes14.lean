/- Contracts and plain laws for the statement FnEnvelopes, part 14. No conditions but those stated in each. -/
import Derived.Test.YtnbomleieianoaaGreatBnFnEnvelopes12
import Derived.Test.YtnbomleieianoaaGreatBnFnEnvelopes10
import Derived.Test.YtnbomleieianoaaGreatBnFnEnvelopes11
import Derived.Test.YtnbomleieianoaaGreatBnFnEnvelopes4
import Derived.Test.YtnbomleieianoaaGreatBnFnEnvelopes13
/- Contract: the envelope of each node, by the reference. -/
namespace Go.Proofs.YtnbomleieianoaaGreat
open Go.RowKit

namespace Fr
/-- The same behind a call of the region. -/
theorem step_push3 {ops : Array Oper} {o : Oper} {a : Act} {K : Act → World → Prop} {Q : Exit → Act → World → Prop} {E : Prop} {w : World} {x1 x2 : Int} (hgd : o.guard = none) (s x : Operand)
    (ho : o.op = .call { callee := .builtin .append, args := #[s, x], argTypes := #[43, 43] })
    (base : Nat) (v : Value) (xs : List (Int × Int)) (hs : a.eval s = v) (hown : Own w base v xs) (hx : a.eval x = .slice (some ⟨w.heap.size, 0, none⟩) 1 1)
    (hl : xs.length ≤ 1048576) (hb : base ≤ w.heap.size)
    (h : ∀ v' w', Own w' base v' (xs ++ [(x1, x2)]) → Below base w w' → Moved w v w' v' → K (a.put o.dst v') w') :
    if Region.wanted o (yielded ops a.tmps) = true then Oper.wp Tryz.prog o a (w.alloc (.cells #[.int .i64 x1, .int .i64 x2] 29)) K Q else E := by
  obtain ⟨i0, hi0, hz0, hz1, hz2⟩ := info_parts
  refine step_append_lies _ hgd s x 43 ho base 29 i0 (.agg #[.int .i64 0, .int .i64 0]) 2 16 Tryz.underlying43 hi0 hz0 hz1 hz2 rfl (by decide) v xs.length (fs xs) hs
    (hown.below ((Below.refl _ _).alloc (Nat.le_refl _) _)) ⟨w.heap.size, 0, none⟩ 1 1 [.int .i64 x1, .int .i64 x2] hx rfl
    (World.news_of_block (cs := #[.int .i64 x1, .int .i64 x2]) (t := 29) (fr := (0, 0)) (heap_alloc_new w _)) (by simp [Value.oneCell']) (by decide) (by simp only [maxLen]; omega) (by omega) (by simp; omega) (w.heap.size + 1) (by simp) ?_
  intro g cap w' h1 h2 h3 _
  have hdb : Below w.heap.size w (w.alloc (.cells #[.int .i64 x1, .int .i64 x2] 29)) := ((Below.refl _ _).alloc (Nat.le_refl _) _)
  refine h _ w' ?_ ?_ ⟨Nat.le_trans hdb.size h2.size, fun b hb' hne => ⟨fun e => ?_, ?_⟩⟩
  · unfold Own
    rw [← fs_append, List.length_append]; exact h1
  · exact (((Below.refl base w).alloc hb _)).grown h2 (by simp; omega) fun k hk => (World.ownsRow.lt hown k hk).1
  · simp [Value.ownBlock] at e
    rcases h3 with h3 | h3
    · rw [h3, e] at hne; exact hne rfl
    · omega
  · have := h2.block b (Nat.lt_of_lt_of_le hb' hdb.size) (fun e => hne e.symm)
    rw [this]; exact hdb.block b hb'
end Fr
set_option maxRecDepth 100000 in
set_option maxHeartbeats 2000000 in
theorem spec_EnvelopeOf (aP : Option Addr) (nP cP : Nat) (aW : Option Addr) (nW cW : Nat) (ps ws : List Int) (aL : Option Addr) (nL cL : Nat) (l : List Int) (w : World) (h : Tre w aP nP cP aW nW cW ps ws) (hL : Ints w aL nL l) (_hLc : aL = none → cL = 0) (hn : nL ≤ 1048576) :
    Calls Tryz.prog 34 #[.agg #[.slice aP nP cP, .slice aW nW cW], .slice aL nL cL] w fun e w' => ∃ v, e = .returned (.tuple #[v, .bool (paysB ps ws l)]) ∧ Fr.Own w' w.heap.size v (envV ps ws l) ∧ Below w.heap.size w w' := by
  have hl := h.p.1
  have hlw := h.w.1
  have hpn := h.pn
  have hwn := h.wn
  have hb1 := below_new w (.cells #[.slice aP nP cP, .slice aW nW cW] 26)
  have hP1 := Lib.hid (Pair.new w (.slice aP nP cP) (.slice aW nW cW) 26)
  have H := Lib.hid h
  have Hl := Lib.hid hl
  have Hlw := Lib.hid hlw
  clear h hl hlw
  have HL := Lib.hid hL
  have hll := Lib.hid hL.1
  clear hL
  go_enter Tryz.func34, Tryz.ntmps34
  have hnil := Fr.own_nil0 (w.alloc (.cells #[.slice aP nP cP, .slice aW nW cW] 26))
  rw [show (w.alloc (.cells #[.slice aP nP cP, .slice aW nW cW] 26)).heap.size = w.heap.size + 1 by simp] at hnil
  have hb2 : Below w.heap.size w ((w.alloc (.cells #[.slice aP nP cP, .slice aW nW cW] 26)).alloc (.cells #[] 29)) := hb1.alloc (by simp) _
  have hP2 := Lib.hid (hP1.out.alloc (.cells #[] 29))
  have hs2 : ((w.alloc (.cells #[.slice aP nP cP, .slice aW nW cW] 26)).alloc (.cells #[] 29)).heap.size = w.heap.size + 2 := by simp
  have c0 := hP2.out.c0
  have c1 := hP2.out.c1
  clear hP1 hb1
  go_wp2_with fail
  generalize ((w.alloc (.cells #[.slice aP nP cP, .slice aW nW cW] 26)).alloc (.cells #[] 29)) = w2 at *
  refine (spec_l4Pays _ _ _ _ _ _ ps ws _ _ _ l _ (H.out.below hb2) (HL.out.below hb2) hn).mono ?_
  rintro e w4 ⟨rfl, hb4⟩
  have HP4 := Lib.hid (hP2.out.below hb4)
  have HO4 := Lib.hid (hnil.below hb4)
  have e0 := HP4.out.c0
  have e1 := HP4.out.c1
  have hb14 := hb2.trans (hb4.mono hb2.size)
  have hs4 : w.heap.size + 2 ≤ w4.heap.size := by have := hb4.size; omega
  clear c0 c1 hb4 hP2 hb2 hs2 hnil
  cases hT : paysB ps ws l
  · have Hv := Lib.hid hT
    clear hT
    go_wp2_with fail
    go_ret2
    exact ⟨_, by rw [Hv.out]; rfl, by rw [envV_no Hv.out]; exact HO4.out.mono (Nat.le_succ _), hb14⟩
  have Hpays := Lib.hid hT
  obtain ⟨hTr, _, _, hleq, hlb⟩ := paysB_t hT
  have hnL : nP = nL := by have := hll.out; have := Hl.out; omega
  have HTT := Lib.hid hTr
  have Hlb := Lib.hid hlb
  have hn24 := hTr.n24
  have hnP : 1 ≤ nP ∧ nP ≤ 24 := by have := hTr.n1; have := Hl.out; omega
  have Hval := Lib.hid (envV_yes Hpays.out)
  clear hT hTr hleq hlb hn24 hn hpn hwn
  subst hnL
  have Hsl : Hid ((sums ps ws).length = nP) := Lib.hid (by rw [sums_length HTT.out]; exact Hl.out)
  have Hcl : Hid ((capW ps ws l).length = nP) := Lib.hid (by rw [capW_length]; exact Hl.out)
  have Hca := Lib.hid (worth_abs HTT.out Hlb.out 24)
  go_upto_region 3 with fail
  refine wp_region_noPanic ?_
  refine wp_region_held_drew (S := fun W' => KeepR w4 W' ∧ W'.cell? ⟨w.heap.size, 0, none⟩ = some (.slice aP nP cP) ∧ W'.cell? ⟨w.heap.size, 1, none⟩ = some (.slice aW nW cW)) (by kernel_rfl) ?_ (fun hHeld0 => ?_)
  · (try dsimp only); first | exact keep2 (by assumption) HP4.out | exact keep2 (KeepR.start _) HP4.out
  refine takeH (i := 0) (oi := _) (v := ?_) rfl (by kernel_rfl) (by kernel_rfl) (by kernel_rfl) (fun _ _ _ h => h) (Or.inl ⟨by rfl, ?_⟩) (by assumption) ?_
  rotate_left
  · first | (intro w hSw; (try dsimp only at hSw); go_simp; done) | (intro w hSw; (try dsimp only at hSw); go_simp; with_reducible rfl)
  (try simp only [Act.put, List.setIfInBounds_toArray, List.set_cons_zero, List.set_cons_succ])
  refine takeH (i := 1) (oi := _) (v := ?_) rfl (by kernel_rfl) (by kernel_rfl) (by kernel_rfl) (fun _ _ _ h => h) (Or.inl ⟨by rfl, ?_⟩) (by assumption) ?_
  rotate_left
  · first | (intro w hSw; (try dsimp only at hSw); go_simp; done) | (intro w hSw; (try dsimp only at hSw); go_simp; with_reducible rfl)
  (try simp only [Act.put, List.setIfInBounds_toArray, List.set_cons_zero, List.set_cons_succ])
  refine takeH (i := 3) (oi := _) (v := ?_) rfl (by kernel_rfl) (by kernel_rfl) (by kernel_rfl) (fun _ _ _ h => h) (Or.inl ⟨by rfl, ?_⟩) (by assumption) ?_
  rotate_left
  · first | (intro w hSw; (try dsimp only at hSw); go_simp; done) | (intro w hSw; (try dsimp only at hSw); go_simp; with_reducible rfl)
  (try simp only [Act.put, List.setIfInBounds_toArray, List.set_cons_zero, List.set_cons_succ])
  refine wpAnyH_ready (rs := [2]) (by kernel_rfl) (by simp) ?_
  refine consH rfl (fun Kq hKq => ?_)
  go_simp
  (go_at_call 100; refine (spec_l4Caps _ _ _ _ _ _ ps ws _ _ _ l _ (H.out.below (hb14.trans (Below.mono (by assumption : KeepR w4 _ ∧ _).1 hb14.size))) HTT.out (HL.out.below (hb14.trans (Below.mono (by assumption : KeepR w4 _ ∧ _).1 hb14.size))) rfl Hlb.out).mono ?_; rintro e w5 ⟨v5, rfl, o5, b5⟩; have hk5 := KeepR.next b5 (by assumption : KeepR w4 _ ∧ _).1)
  refine hKq.out _ _ ?_ (fun hHeld1 => ?_)
  · (try dsimp only); first | exact keep2 (by assumption) HP4.out | exact keep2 (KeepR.start _) HP4.out
  clear hKq Kq
  (try simp only [Act.put, List.setIfInBounds_toArray, List.set_cons_zero, List.set_cons_succ])
  clear hHeld0
  refine wpAnyH_ready (rs := [4]) (by kernel_rfl) (by simp) ?_
  refine consH rfl (fun Kq hKq => ?_)
  go_simp
  (go_at_call 75; refine (spec_l2Sums _ _ _ _ _ _ ps ws _ (H.out.below (hb14.trans (Below.mono (by assumption : KeepR w4 _ ∧ _).1 hb14.size))) HTT.out).mono ?_; rintro e w6 ⟨v6, rfl, o6, b6⟩; have hk6 := KeepR.next b6 (by assumption : KeepR w4 _ ∧ _).1)
  refine hKq.out _ _ ?_ (fun hHeld2 => ?_)
  · (try dsimp only); first | exact keep2 (by assumption) HP4.out | exact keep2 (KeepR.start _) HP4.out
  clear hKq Kq
  (try simp only [Act.put, List.setIfInBounds_toArray, List.set_cons_zero, List.set_cons_succ])
  clear hHeld1
  refine takeH (i := 5) (oi := _) (v := ?_) rfl (by kernel_rfl) (by kernel_rfl) (by kernel_rfl) (fun _ _ _ h => h) (Or.inl ⟨by rfl, ?_⟩) (by assumption) ?_
  rotate_left
  · first | (intro w hSw; (try dsimp only at hSw); go_simp; done) | (intro w hSw; (try dsimp only at hSw); go_simp; with_reducible rfl)
  (try simp only [Act.put, List.setIfInBounds_toArray, List.set_cons_zero, List.set_cons_succ])
  refine takeH (i := 6) (oi := _) (v := ?_) rfl (by kernel_rfl) (by kernel_rfl) (by kernel_rfl) (fun _ _ _ h => h) (Or.inl ⟨by rfl, ?_⟩) (by assumption) ?_
  rotate_left
  · first | (intro w hSw; (try dsimp only at hSw); go_simp; done) | (intro w hSw; (try dsimp only at hSw); go_simp; with_reducible rfl)
  (try simp only [Act.put, List.setIfInBounds_toArray, List.set_cons_zero, List.set_cons_succ])
  refine wpAnyH_done (by kernel_rfl) ?_ _
  refine NoPanic.normal ?_
  go_wp2_with fail
  obtain ⟨a5, c5, rfl⟩ := o5.shape
  obtain ⟨a6, c6, rfl⟩ := o6.shape
  rw [Hcl.out] at o5 ⊢
  rw [Hsl.out] at o6 ⊢
  have hk6' : Below w4.heap.size w4 w6 := hk6
  have hb16 := hb14.trans (hk6'.mono hb14.size)
  have G5 := Lib.hid (o5.ints.below b6)
  have G6 := Lib.hid o6.ints
  have HP6 := Lib.hid (HP4.out.below hk6')
  have HO6 := Lib.hid (HO4.out.below hk6')
  have hk5' : Below w4.heap.size w4 w5 := hk5
  have P5 : Hid (Apart a5 (Value.slice (some ⟨w.heap.size + 1, 0, none⟩) 0 0)) := Lib.hid fun p hp e => by
    obtain ⟨g, cap, he, hg, _⟩ := o5.form (by rw [capW_length]; have := Hl.out; omega)
    have hd : w4.drew.heap.size = w4.heap.size := rfl
    cases he
    cases hp
    simp [Value.ownBlock] at e
    omega
  have P6 : Hid (Apart a6 (Value.slice (some ⟨w.heap.size + 1, 0, none⟩) 0 0)) := Lib.hid fun p hp e => by
    obtain ⟨g, cap, he, hg, _⟩ := o6.form (by rw [sums_length HTT.out]; have := Hl.out; omega)
    cases he
    cases hp
    have := hk5'.size
    simp [Value.ownBlock] at e
    omega
  have hs6 : w.heap.size + 1 ≤ w6.heap.size := by have := hk6'.size; omega
  clear o5 o6 b5 b6 hk5 hk6 hk5' hk6' HP4 HO4 hb14 hs4
  generalize hU : w.heap.size + 1 = U at *
  have hUw : w.heap.size ≤ U := by omega
  clear hU
  go_loopw [6, 9] (fun v5 v8 wr => ∃ x : Nat, x ≤ nP ∧ v8 = .int .i64 (x : Int) ∧ Fr.Own wr U v5 ((envL ps ws l).take x) ∧ Ints wr a6 nP (sums ps ws) ∧ Ints wr a5 nP (capW ps ws l) ∧ Apart a6 v5 ∧ Apart a5 v5 ∧ Below w.heap.size w wr ∧ U ≤ wr.heap.size) (fun _ v8 _ => nP - (intOf v8).toNat)
  case atStart => exact ⟨0, Nat.zero_le _, rfl, by rw [List.take_zero]; exact HO6.out, G6.out, G5.out, P6.out, P5.out, hb16, hs6⟩
  case round =>
    clear hb16 HO6 G6 G5 P6 P5 HP6 hs6
    obtain ⟨x, hx, rfl, hou, h6, h7, p6, p7, hbel, hsz⟩ := hrel
    have G6 := Lib.hid h6
    have G7 := Lib.hid h7
    have P6 := Lib.hid p6
    have P7 := Lib.hid p7
    clear h6 h7 p6 p7
    by_cases hlt : (x : Int) < nP
    · obtain ⟨b6, o6, rfl, hc6⟩ := G6.out.at (i := x) (Below.refl _ _) (by omega)
      obtain ⟨b7, o7, rfl, hc7⟩ := G7.out.at (i := x) (Below.refl _ _) (by omega)
      have Hml := Lib.hid (envL_take ps ws l (x := x) (by have := Hl.out; omega))
      have hol : ((envL ps ws l).take x).length ≤ 24 := by rw [List.length_take]; omega
      have hs1 := sums_pos HTT.out x (by have := Hl.out; omega)
      have hs2 := (sums_bd HTT.out x).2
      have hcx : -479520 ≤ nth (capW ps ws l) x ∧ nth (capW ps ws l) x ≤ 479520 := Hca.out x
      have HcC : Hid (∀ W : World, Calls Tryz.prog 76 #[.int .i64 (nth (capW ps ws l) x), .int .i64 (nth (sums ps ws) x)] W fun e w' => e = .returned (.agg #[.int .i64 (nm (nth (capW ps ws l) x) (nth (sums ps ws) x)), .int .i64 (dn (nth (capW ps ws l) x) (nth (sums ps ws) x))]) ∧ Below W.heap.size W w') := Lib.hid fun W => spec_l2Cut _ _ W (by omega) (by omega)
      clear hs1 hs2 hcx
      generalize nm (nth (capW ps ws l) x) (nth (sums ps ws) x) = gn at *
      generalize dn (nth (capW ps ws l) x) (nth (sums ps ws) x) = gd at *
      generalize nth (capW ps ws l) x = tx at *
      generalize nth (sums ps ws) x = sx at *
      generalize (envL ps ws l).take x = acc at *
      have k2 : (0 : Int) ≤ (x : Int) := by omega
      obtain ⟨a5, c5, rfl⟩ := hou.shape
      have HO := Lib.hid hou
      clear hou
      go_wp2_with fail
      refine wp_region_noPanic ?_
      refine wp_region_held_drew (S := fun W' => Below U wr W' ∧ W'.cell? ⟨b6, o6 + x, none⟩ = some (.int .i64 sx) ∧ W'.cell? ⟨b7, o7 + x, none⟩ = some (.int .i64 tx)) (by kernel_rfl) ?_ (fun hHeld0 => ?_)
      · (try dsimp only); first | assumption | exact ⟨(Below.refl _ _).drew, hc6, hc7⟩ | exact ⟨(Below.mono hk9 hsz), cell_up hk9 hc6, cell_up hk9 hc7⟩ | exact ⟨Below.alloc (Below.mono hk9 hsz) hsz9 _, cell_up (below_new w9 _) (cell_up hk9 hc6), cell_up (below_new w9 _) (cell_up hk9 hc7)⟩
      refine takeH (i := 0) (oi := _) (v := ?_) rfl (by kernel_rfl) (by kernel_rfl) (by kernel_rfl) (fun _ _ _ h => h) (Or.inl ⟨by rfl, ?_⟩) (by assumption) ?_
      rotate_left
      · first | (intro w hSw; (try dsimp only at hSw); go_simp; done) | (intro w hSw; (try dsimp only at hSw); go_simp; with_reducible rfl)
      (try simp only [Act.put, List.setIfInBounds_toArray, List.set_cons_zero, List.set_cons_succ])
      refine takeH (i := 1) (oi := _) (v := ?_) rfl (by kernel_rfl) (by kernel_rfl) (by kernel_rfl) (fun _ _ _ h => h) (Or.inl ⟨by rfl, ?_⟩) (by assumption) ?_
      rotate_left
      · first | (intro w hSw; (try dsimp only at hSw); go_simp; done) | (intro w hSw; (try dsimp only at hSw); go_simp; with_reducible rfl)
      (try simp only [Act.put, List.setIfInBounds_toArray, List.set_cons_zero, List.set_cons_succ])
      refine takeH (i := 2) (oi := _) (v := ?_) rfl (by kernel_rfl) (by kernel_rfl) (by kernel_rfl) (fun _ _ _ h => h) (Or.inl ⟨by rfl, ?_⟩) (by assumption) ?_
      rotate_left
      · first | (intro w hSw; (try dsimp only at hSw); go_simp; done) | (intro w hSw; (try dsimp only at hSw); go_simp; with_reducible rfl)
      (try simp only [Act.put, List.setIfInBounds_toArray, List.set_cons_zero, List.set_cons_succ])
      refine takeH (i := 3) (oi := _) (v := ?_) rfl (by kernel_rfl) (by kernel_rfl) (by kernel_rfl) (fun _ _ _ h => h) (Or.inl ⟨by rfl, ?_⟩) (by assumption) ?_
      rotate_left
      · first | (intro w hSw; (try dsimp only at hSw); go_simp; done) | (intro w hSw; (try dsimp only at hSw); go_simp; with_reducible rfl)
      (try simp only [Act.put, List.setIfInBounds_toArray, List.set_cons_zero, List.set_cons_succ])
      refine takeH (i := 4) (oi := _) (v := ?_) rfl (by kernel_rfl) (by kernel_rfl) (by kernel_rfl) (fun _ _ _ h => h) (Or.inl ⟨by rfl, ?_⟩) (by assumption) ?_
      rotate_left
      · first | (intro w hSw; (try dsimp only at hSw); go_simp; done) | (intro w hSw; (try dsimp only at hSw); go_simp; with_reducible rfl)
      (try simp only [Act.put, List.setIfInBounds_toArray, List.set_cons_zero, List.set_cons_succ])
      refine takeH (i := 5) (oi := _) (v := ?_) rfl (by kernel_rfl) (by kernel_rfl) (by kernel_rfl) (fun _ _ _ h => h) (Or.inl ⟨by rfl, ?_⟩) (by assumption) ?_
      rotate_left
      · first | (intro w hSw; (try dsimp only at hSw); go_simp; done) | (intro w hSw; (try dsimp only at hSw); go_simp; with_reducible rfl)
      (try simp only [Act.put, List.setIfInBounds_toArray, List.set_cons_zero, List.set_cons_succ])
      refine takeH (i := 6) (oi := _) (v := ?_) rfl (by kernel_rfl) (by kernel_rfl) (by kernel_rfl) (fun _ _ _ h => h) (Or.inl ⟨by rfl, ?_⟩) (by assumption) ?_
      rotate_left
      · first | (intro w hSw; (try dsimp only at hSw); go_simp; done) | (intro w hSw; (try dsimp only at hSw); go_simp; with_reducible rfl)
      (try simp only [Act.put, List.setIfInBounds_toArray, List.set_cons_zero, List.set_cons_succ])
      refine takeH (i := 7) (oi := _) (v := ?_) rfl (by kernel_rfl) (by kernel_rfl) (by kernel_rfl) (fun _ _ _ h => h) (Or.inl ⟨by rfl, ?_⟩) (by assumption) ?_
      rotate_left
      · first | (intro w hSw; (try dsimp only at hSw); go_simp; done) | (intro w hSw; (try dsimp only at hSw); go_simp; with_reducible rfl)
      (try simp only [Act.put, List.setIfInBounds_toArray, List.set_cons_zero, List.set_cons_succ])
      refine takeH (i := 8) (oi := _) (v := ?_) rfl (by kernel_rfl) (by kernel_rfl) (by kernel_rfl) (fun _ _ _ h => h) (Or.inl ⟨by rfl, ?_⟩) (by assumption) ?_
      rotate_left
      · first | (intro w hSw; (try dsimp only at hSw); go_simp; done) | (intro w hSw; (try dsimp only at hSw); go_simp; with_reducible rfl)
      (try simp only [Act.put, List.setIfInBounds_toArray, List.set_cons_zero, List.set_cons_succ])
      refine wpAnyH_ready (rs := [9]) (by kernel_rfl) (by simp) ?_
      refine consH rfl (fun Kq hKq => ?_)
      go_simp
      (go_at_call 76; refine (HcC.out _).mono ?_; rintro e w9 ⟨rfl, b9⟩; have hk9 : KeepR wr w9 := KeepR.next b9 (KeepR.start wr); have hsz9 : U ≤ w9.heap.size := Nat.le_trans hsz (Below.size hk9))
      refine hKq.out _ _ ?_ (fun hHeld1 => ?_)
      · (try dsimp only); first | assumption | exact ⟨(Below.refl _ _).drew, hc6, hc7⟩ | exact ⟨(Below.mono hk9 hsz), cell_up hk9 hc6, cell_up hk9 hc7⟩ | exact ⟨Below.alloc (Below.mono hk9 hsz) hsz9 _, cell_up (below_new w9 _) (cell_up hk9 hc6), cell_up (below_new w9 _) (cell_up hk9 hc7)⟩
      clear hKq Kq
      (try simp only [Act.put, List.setIfInBounds_toArray, List.set_cons_zero, List.set_cons_succ])
      clear hHeld0
      refine wpAnyH_ready (rs := [10]) (by kernel_rfl) (by simp) ?_
      refine consH rfl (fun Kq hKq => ?_)
      go_simp
      refine hKq.out _ _ ?_ (fun hHeld2 => ?_)
      · (try dsimp only); first | assumption | exact ⟨(Below.refl _ _).drew, hc6, hc7⟩ | exact ⟨(Below.mono hk9 hsz), cell_up hk9 hc6, cell_up hk9 hc7⟩ | exact ⟨Below.alloc (Below.mono hk9 hsz) hsz9 _, cell_up (below_new w9 _) (cell_up hk9 hc6), cell_up (below_new w9 _) (cell_up hk9 hc7)⟩
      clear hKq Kq
      (try simp only [Act.put, List.setIfInBounds_toArray, List.set_cons_zero, List.set_cons_succ])
      clear hHeld1
      refine wpAnyH_ready (rs := [11]) (by kernel_rfl) (by simp) ?_
      refine consH rfl (fun Kq hKq => ?_)
      (refine Fr.step_push3 (x1 := gn) (x2 := gd) rfl _ _ rfl U _ _ (by rfl) (HO.out.below hk9) (by rfl) (by omega) hsz9 ?_; intro v' w' ho hb hm; have x6 := hm.cell (cell_up hk9 hc6) (P6.out ⟨b6, o6, none⟩ rfl); have x7 := hm.cell (cell_up hk9 hc7) (P7.out ⟨b7, o7, none⟩ rfl); have hSS : Below U wr w' ∧ w'.cell? ⟨b6, o6 + x, none⟩ = some (.int .i64 sx) ∧ w'.cell? ⟨b7, o7 + x, none⟩ = some (.int .i64 tx) := ⟨(Below.mono hk9 hsz).trans hb, x6, x7⟩)
      refine hKq.out _ _ ?_ (fun hHeld3 => ?_)
      · (try dsimp only); first | assumption | exact ⟨(Below.refl _ _).drew, hc6, hc7⟩ | exact ⟨(Below.mono hk9 hsz), cell_up hk9 hc6, cell_up hk9 hc7⟩ | exact ⟨Below.alloc (Below.mono hk9 hsz) hsz9 _, cell_up (below_new w9 _) (cell_up hk9 hc6), cell_up (below_new w9 _) (cell_up hk9 hc7)⟩
      clear hKq Kq
      (try simp only [Act.put, List.setIfInBounds_toArray, List.set_cons_zero, List.set_cons_succ])
      clear hHeld2
      refine takeH (i := 12) (oi := _) (v := ?_) rfl (by kernel_rfl) (by kernel_rfl) (by kernel_rfl) (fun _ _ _ h => h) (Or.inl ⟨by rfl, ?_⟩) (by assumption) ?_
      rotate_left
      · first | (intro w hSw; (try dsimp only at hSw); go_simp; done) | (intro w hSw; (try dsimp only at hSw); go_simp; with_reducible rfl)
      (try simp only [Act.put, List.setIfInBounds_toArray, List.set_cons_zero, List.set_cons_succ])
      refine wpAnyH_done (by kernel_rfl) ?_ _
      refine NoPanic.normal ?_
      go_wp2_with fail
      have hk9' : Below wr.heap.size wr w9 := hk9
      have h6' := (G6.out.below hk9').moved hm (fun _ => P6.out)
      have h7' := (G7.out.below hk9').moved hm (fun _ => P7.out)
      go_roundw
      case rel => exact ⟨x + 1, by omega, by go_num, by rw [Hml.out]; exact ho, h6'.1, h7'.1, h6'.2 (by omega), h7'.2 (by omega), (hbel.trans (hk9'.mono hbel.size)).trans (hb.mono hUw), Nat.le_trans hsz9 hb.size⟩
      case measure => simp [intOf]; omega
    · obtain rfl : x = nP := by omega
      have hfin : (envL ps ws l).take x = envL ps ws l := List.take_of_length_le (by rw [envL_length]; have := Hl.out; omega)
      rw [hfin] at hou
      go_wp2_with fail
      go_ret2
      exact ⟨_, by rw [Hpays.out]; rfl, by rw [Hval.out]; exact hou.mono hUw, hbel⟩
end Go.Proofs.YtnbomleieianoaaGreat

/- Contracts: the best rules, by the reference. -/
namespace Go.Proofs.YtnbomleieianoaaGreat
open Go.RowKit

/-- Caps, sums and no bools, just made, apart from each other. -/
def ThreeB (u wc : World) (n : Nat) (ps ws l : List Int) (v6 v7 v8 : Value) : Prop :=
  KeepR u wc ∧ ∃ (a6 : Option Addr) (c6 : Nat) (a7 : Option Addr) (c7 g8 : Nat), v6 = .slice a6 n c6 ∧ v7 = .slice a7 n c7 ∧ v8 = .slice (some ⟨g8, 0, none⟩) 0 0 ∧ Ints wc a6 n (capW ps ws l) ∧ Ints wc a7 n (sums ps ws) ∧ Bo.Own wc u.heap.size v8 [] ∧ Apart a6 v8 ∧ Apart a7 v8
theorem threeB_mk {u wc : World} {n : Nat} {ps ws l : List Int} {v6 v7 : Value} {b6 b7 b8 g8 : Nat} (hk : KeepR u wc) (hc : (capW ps ws l).length = n) (hs : (sums ps ws).length = n) (h6 : Own wc b6 v6 (capW ps ws l)) (h7 : Own wc b7 v7 (sums ps ws)) (h8 : Bo.Own wc b8 (.slice (some ⟨g8, 0, none⟩) 0 0) []) (hb8 : u.heap.size ≤ b8)
    (s6 : ∀ g, v6.ownBlock = some g → g ≠ g8) (s7 : ∀ g, v7.ownBlock = some g → g ≠ g8) : ThreeB u wc n ps ws l v6 v7 (.slice (some ⟨g8, 0, none⟩) 0 0) := by
  obtain ⟨a6, c6, rfl⟩ := h6.shape
  obtain ⟨a7, c7, rfl⟩ := h7.shape
  rw [hc] at h6 s6 ⊢
  rw [hs] at h7 s7 ⊢
  exact ⟨hk, a6, c6, a7, c7, g8, rfl, rfl, rfl, h6.ints, h7.ints, h8.mono hb8, (fun p hp e => by subst hp; simp [Value.ownBlock] at e; exact s6 _ rfl e.symm), (fun p hp e => by subst hp; simp [Value.ownBlock] at e; exact s7 _ rfl e.symm)⟩
set_option maxRecDepth 100000 in
set_option maxHeartbeats 2000000 in
theorem spec_BestRule (aP : Option Addr) (nP cP : Nat) (aW : Option Addr) (nW cW : Nat) (ps ws : List Int) (aL : Option Addr) (nL cL : Nat) (l : List Int) (w : World) (h : Tre w aP nP cP aW nW cW ps ws) (hL : Ints w aL nL l) (_hLc : aL = none → cL = 0) (hn : nL ≤ 1048576) :
    Calls Tryz.prog 37 #[.agg #[.slice aP nP cP, .slice aW nW cW], .slice aL nL cL] w fun e w' => ∃ v, e = .returned (.tuple #[v, .bool (paysB ps ws l)]) ∧ Own w' w.heap.size v (bestV ps ws l) ∧ Below w.heap.size w w' := by
  have hl := h.p.1
  have hlw := h.w.1
  have hpn := h.pn
  have hwn := h.wn
  have hb1 := below_new w (.cells #[.slice aP nP cP, .slice aW nW cW] 26)
  have hP1 := Lib.hid (Pair.new w (.slice aP nP cP) (.slice aW nW cW) 26)
  have H := Lib.hid h
  have Hl := Lib.hid hl
  have Hlw := Lib.hid hlw
  clear h hl hlw
  have HL := Lib.hid hL
  have hll := Lib.hid hL.1
  clear hL
  have hlt2 := hP1.out.lt
  go_enter Tryz.func37, Tryz.ntmps37
  have c0 := hP1.out.c0
  have c1 := hP1.out.c1
  go_wp2_with fail
  try generalize (w.alloc (.cells #[.slice aP nP cP, .slice aW nW cW] 26)) = w2 at *
  refine (spec_l4Pays _ _ _ _ _ _ ps ws _ _ _ l _ (H.out.below hb1) (HL.out.below hb1) hn).mono ?_
  rintro e w3 ⟨rfl, hb3⟩
  have hP3 := hP1.out.below hb3
  have d0 := hP3.c0
  have d1 := hP3.c1
  have HP3 := Lib.hid hP3
  have hb13 := hb1.trans (hb3.mono hb1.size)
  clear hP3 hb3
  try clear c0 c1
  cases hT : paysB ps ws l
  · have Hno := Lib.hid hT
    clear hT
    go_wp2_with fail
    go_ret2
    exact ⟨_, by rw [Hno.out]; rfl, by rw [bestV_no Hno.out]; exact (own_nil0 w3).mono hb13.size, hb13.trans ((below_new w3 _).mono hb13.size)⟩
  have Hpays := Lib.hid hT
  have hpt := paysB_t hT
  have hTr := hpt.1
  have hn24 := hTr.n24
  have hn1 := hTr.n1
  have hnL : nP = nL := by have := hll.out; have := hpt.2.2.2.1; have := Hl.out; omega
  have hnW : nP = nW := by have := Hlw.out; have := hTr.wl; have := Hl.out; omega
  have hnP : 1 ≤ nP ∧ nP ≤ 24 := by have := Hl.out; omega
  have Hpp := Lib.hid hpt.2.2.2.2
  have HTr := Lib.hid hTr
  have HnW := Lib.hid hnW
  have hnW2 : nP ≤ nW := by omega
  clear hT hpt hn24 hn1 hTr hpn hwn hnW
  subst hnL
  have Hsl : Hid ((sums ps ws).length = nP) := Lib.hid (by rw [sums_length HTr.out]; exact Hl.out)
  have Hcl : Hid ((capW ps ws l).length = nP) := Lib.hid (by rw [capW_length]; exact Hl.out)
  go_upto_region 3 with fail
  go_cut [6, 7, 8] (fun v6 v7 v8 wc => ThreeB w3 wc nP ps ws l v6 v7 v8)
  case first =>
    go_region_held3 (fun W' => KeepR w3 W' ∧ W'.cell? ⟨w.heap.size, 0, none⟩ = some (.slice aP nP cP) ∧ W'.cell? ⟨w.heap.size, 1, none⟩ = some (.slice aW nW cW))
      (first | exact keep2 (by assumption) HP3.out | exact keep2 (KeepR.alloc0 _ _) HP3.out | exact keep2 (KeepR.start _) HP3.out | exact keep2 (KeepR.alloc (by assumption : KeepR w3 _ ∧ _).1 _) HP3.out | exact keep2 (KeepR.alloc (by assumption : KeepR w3 _ ∧ _).1 _).drew HP3.out)
      (first
        | (go_at_call 100; refine (spec_l4Caps _ _ _ _ _ _ ps ws _ _ _ l _ (H.out.below (hb13.trans (Below.mono (by assumption : KeepR w3 _ ∧ _).1 hb13.size))) HTr.out (HL.out.below (hb13.trans (Below.mono (by assumption : KeepR w3 _ ∧ _).1 hb13.size))) rfl Hpp.out).mono ?_; rintro e w5 ⟨v5, rfl, o5, b5⟩; have hk5 := KeepR.next b5 (by assumption : KeepR w3 _ ∧ _).1)
        | (go_at_call 75; refine (spec_l2Sums _ _ _ _ _ _ ps ws _ (H.out.below (hb13.trans (Below.mono (by assumption : KeepR w3 _ ∧ _).1 hb13.size))) HTr.out).mono ?_; rintro e w6 ⟨v6, rfl, o6, b6⟩; have hk6 := KeepR.next b6 (by assumption : KeepR w3 _ ∧ _).1))
    all_goals (go_wp2_with fail)
    all_goals go_meet
    all_goals first
      | exact threeB_mk hk6 Hcl.out Hsl.out (o5.below b6) o6 ((((Bo.own_nil0 w3).below (Below.refl _ _).drew).below b5).below b6) (Nat.le_refl _) (fun g hg => by have h1 := World.ownsRow.lt o5 g hg; (try simp at h1); omega) (fun g hg => by have h1 := World.ownsRow.lt o6 g hg; have h2 := b5.size; (try simp at h1); (try simp at h2); omega)
      | exact threeB_mk hk6 Hcl.out Hsl.out ((o5.below (below_new w5 _)).below b6) o6 ((Bo.own_nil0 w5).below b6) (Below.size hk5) (fun g hg => by have h1 := World.ownsRow.lt o5 g hg; omega) (fun g hg => by have h1 := World.ownsRow.lt o6 g hg; (try simp at h1); omega)
      | exact threeB_mk (KeepR.alloc hk6 _) Hcl.out Hsl.out ((o5.below b6).below (below_new w6 _)) (o6.below (below_new w6 _)) (Bo.own_nil0 w6) (Below.size hk6) (fun g hg => by have h1 := World.ownsRow.lt (o5.below b6) g hg; omega) (fun g hg => by have h1 := World.ownsRow.lt o6 g hg; omega)
  case rest =>
    clear d0 d1
    obtain ⟨hk4, a6, c6, a7, c7, g8, rfl, rfl, rfl, i6, i7, o8, s6, s7⟩ := hcut
    have hk4b : Below w3.heap.size w3 wc := hk4
    have hb14 := hb13.trans (hk4b.mono hb13.size)
    have HP4 := Lib.hid (HP3.out.below hk4b)
    have hW3 : w.heap.size < w3.heap.size := HP3.out.lt
    have G6 := Lib.hid i6
    have G7 := Lib.hid i7
    have O8 := Lib.hid o8
    have S6 := Lib.hid s6
    have S7 := Lib.hid s7
    have hsz0 : w3.heap.size ≤ wc.heap.size := hk4b.size
    clear i6 i7 o8 s6 s7 hk4 hk4b hb13
    go_wp2_with fail
    go_loopw [8, 9] (fun v8 v9 wr => ∃ k : Nat, k ≤ nP ∧ v9 = .int .i64 (k : Int) ∧ Bo.Own wr w3.heap.size v8 ((List.range k).map (bestB ps ws l)) ∧ Ints wr a6 nP (capW ps ws l) ∧ Ints wr a7 nP (sums ps ws) ∧ (0 < nP → Apart a6 v8) ∧ (0 < nP → Apart a7 v8) ∧ Pair wr w.heap.size (.slice aP nP cP) (.slice aW nW cW) ∧ Below w.heap.size w wr ∧ w3.heap.size ≤ wr.heap.size) (fun _ v9 _ => nP - (intOf v9).toNat)
    case atStart => exact ⟨0, Nat.zero_le _, rfl, O8.out, G6.out, G7.out, (fun _ => S6.out), (fun _ => S7.out), HP4.out, hb14, hsz0⟩
    case round =>
      clear O8 G6 G7 S6 S7 HP4 hb14 hsz0
      obtain ⟨k, hk, rfl, hown, h6, h7, hs6, hs7, hP, hbel, hsz⟩ := hrel
      have c0 := hP.c0
      have c1 := hP.c1
      have HP := Lib.hid hP
      have G6 := Lib.hid h6
      have G7 := Lib.hid h7
      have S6 := Lib.hid hs6
      have S7 := Lib.hid hs7
      clear hP h6 h7 hs6 hs7
      by_cases hlt : (k : Int) < nP
      · obtain ⟨b6, o6, rfl, hc6⟩ := G6.out.at (i := k) (Below.refl _ _) (by omega)
        obtain ⟨b7, o7, rfl, hc7⟩ := G7.out.at (i := k) (Below.refl _ _) (by omega)
        obtain ⟨bL, oL, rfl, hLw, hcL⟩ := HL.out.at2 (i := k) hbel (by omega)
        have Hms := Lib.hid (map_succ (bestB ps ws l) k)
        have hlv : bestB ps ws l k = (nth (sums ps ws) k * nth l k == nth (capW ps ws l) k) := rfl
        have hll2 : ((List.range k).map (bestB ps ws l)).length ≤ 24 := by simp; omega
        have hsb := sums_bd HTr.out k
        have hlb := Hpp.out k
        have hmb := mul_abs (B := 999) (U := 480) hlb hsb (by omega)
        rw [Int.mul_comm (nth l k) (nth (sums ps ws) k)] at hmb
        generalize (List.range k).map (bestB ps ws l) = bsk at *
        generalize bestB ps ws l k = bk at *
        generalize nth (sums ps ws) k = u at *
        generalize nth l k = p at *
        generalize nth (capW ps ws l) k = r at *
        have hcm : (r == u * p) = bk := by rw [hlv, Bool.eq_iff_iff, beq_iff_eq, beq_iff_eq]; exact eq_comm
        have k1 : IntKind.i64.wrap (u * p) = u * p := IntWalk.i64_in _ (by omega)
        have k2 : (0 : Int) ≤ (k : Int) := by omega
        clear hlv hsb hlb hmb
        go_wp2_with fail
        have hbLw : bL < w.heap.size := hLw
        have HA0 : Hid (∀ o, Below w3.heap.size wr (wr.alloc o).drew) := Lib.hid fun o => ((Below.refl _ _).alloc hsz o).drew
        have HA0' : Hid (∀ o, Below wr.heap.size wr (wr.alloc o).drew) := Lib.hid fun o => (below_new wr o).drew
        go_region_held3 (fun W' => Below w3.heap.size wr W' ∧ W'.cell? ⟨b6, o6 + k, none⟩ = some (.int .i64 r) ∧ W'.cell? ⟨b7, o7 + k, none⟩ = some (.int .i64 u) ∧ W'.cell? ⟨bL, oL + k, none⟩ = some (.int .i64 p))
          (first | assumption | exact ⟨(Below.refl _ _).drew, hc6, hc7, hcL⟩ | exact ⟨HA0.out _, cell_up (HA0'.out _) hc6, cell_up (HA0'.out _) hc7, cell_up (HA0'.out _) hcL⟩)
          (first
            | (refine Bo.step_push2 (u := bk) rfl _ _ rfl w3.heap.size _ _ (by rfl) hown (by rfl) (by omega) hsz ?_; intro v' w' ho hb hm
               have x6 := hm.cell hc6 (S6.out (by omega) ⟨b6, o6, none⟩ rfl)
               have x7 := hm.cell hc7 (S7.out (by omega) ⟨b7, o7, none⟩ rfl)
               have xL := hm.cell hcL (fun e => by have h1 := (World.ownsRow.lt hown _ e).1; simp at h1; omega)
               have hSS : Below w3.heap.size wr w' ∧ w'.cell? ⟨b6, o6 + k, none⟩ = some (.int .i64 r) ∧ w'.cell? ⟨b7, o7 + k, none⟩ = some (.int .i64 u) ∧ w'.cell? ⟨bL, oL + k, none⟩ = some (.int .i64 p) := ⟨hb, x6, x7, xL⟩))
        go_wp2_with fail
        have hg6 := G6.out.moved hm S6.out
        have hg7 := G7.out.moved hm S7.out
        go_roundw
        case rel => exact ⟨k + 1, by omega, by go_num, by rw [Hms.out]; exact ho, hg6.1, hg7.1, hg6.2, hg7.2, HP.out.up hb (by omega), hbel.trans (hb.mono (by omega)), Nat.le_trans hsz hb.size⟩
        case measure => simp [intOf]; omega
      · obtain rfl : k = nP := by omega
        obtain ⟨a8, c8, rfl⟩ := hown.shape
        have hbl : ((List.range k).map (bestB ps ws l)).length = k := by simp
        rw [hbl] at hown ⊢
        have HB := Lib.hid hown.bools
        clear hown hbl
        go_wp2_with fail
        refine (spec_l4First _ _ _ _ _ _ ps ws _ _ _ ((List.range k).map (bestB ps ws l)) _ (H.out.below hbel) HTr.out.toPa HB.out rfl (fun x hx he => by rw [Bo.nth_map_range (by have := Hl.out; omega), bestB, nth_capW HTr.out hx, stepA, if_pos he]; simp)).mono ?_
        rintro e w9 ⟨v9, rfl, o9, b9⟩
        have Hf : Hid (firsts ps (bS ((List.range k).map (bestB ps ws l))) = firsts ps (fS (bestB ps ws l))) := Lib.hid (firB_congr HTr.out.toPa fun y hy => bS_map (by have := Hl.out; omega))
        have O9 := Lib.hid o9
        clear o9
        go_wp2_with fail
        go_ret2
        exact ⟨_, by rw [Hpays.out]; rfl, by rw [bestV_yes Hpays.out, ← Hf.out]; exact O9.out.mono hbel.size, hbel.trans (b9.mono hbel.size)⟩
end Go.Proofs.YtnbomleieianoaaGreat

/- Contracts: the latest best rule, by the reference. -/
namespace Go.Proofs.YtnbomleieianoaaGreat
open Go.RowKit

set_option maxRecDepth 100000 in
set_option maxHeartbeats 2000000 in
theorem spec_LatestRule (aP : Option Addr) (nP cP : Nat) (aW : Option Addr) (nW cW : Nat) (ps ws : List Int) (aL : Option Addr) (nL cL : Nat) (l : List Int) (w : World) (h : Tre w aP nP cP aW nW cW ps ws) (hL : Ints w aL nL l) (_hLc : aL = none → cL = 0) (hn : nL ≤ 1048576) :
    Calls Tryz.prog 40 #[.agg #[.slice aP nP cP, .slice aW nW cW], .slice aL nL cL] w fun e w' => ∃ v, e = .returned (.tuple #[v, .bool (paysB ps ws l)]) ∧ Own w' w.heap.size v (lateV ps ws l) ∧ Below w.heap.size w w' := by
  have hl := h.p.1
  have hlw := h.w.1
  have hpn := h.pn
  have hwn := h.wn
  have hb1 := below_new w (.cells #[.slice aP nP cP, .slice aW nW cW] 26)
  have hP1 := Lib.hid (Pair.new w (.slice aP nP cP) (.slice aW nW cW) 26)
  have H := Lib.hid h
  have Hl := Lib.hid hl
  have Hlw := Lib.hid hlw
  clear h hl hlw
  have HL := Lib.hid hL
  have hll := Lib.hid hL.1
  clear hL
  have hlt2 := hP1.out.lt
  go_enter Tryz.func40, Tryz.ntmps40
  have c0 := hP1.out.c0
  have c1 := hP1.out.c1
  go_wp2_with fail
  try generalize (w.alloc (.cells #[.slice aP nP cP, .slice aW nW cW] 26)) = w2 at *
  refine (spec_l4Pays _ _ _ _ _ _ ps ws _ _ _ l _ (H.out.below hb1) (HL.out.below hb1) hn).mono ?_
  rintro e w3 ⟨rfl, hb3⟩
  have hP3 := hP1.out.below hb3
  have d0 := hP3.c0
  have d1 := hP3.c1
  have HP3 := Lib.hid hP3
  have hb13 := hb1.trans (hb3.mono hb1.size)
  clear hP3 hb3
  try clear c0 c1
  cases hT : paysB ps ws l
  · have Hno := Lib.hid hT
    clear hT
    go_wp2_with fail
    go_ret2
    exact ⟨_, by rw [Hno.out]; rfl, by rw [lateV_no Hno.out]; exact (own_nil0 w3).mono hb13.size, hb13.trans ((below_new w3 _).mono hb13.size)⟩
  have Hpays := Lib.hid hT
  have hpt := paysB_t hT
  have hTr := hpt.1
  have hn24 := hTr.n24
  have hn1 := hTr.n1
  have hnL : nP = nL := by have := hll.out; have := hpt.2.2.2.1; have := Hl.out; omega
  have hnW : nP = nW := by have := Hlw.out; have := hTr.wl; have := Hl.out; omega
  have hnP : 1 ≤ nP ∧ nP ≤ 24 := by have := Hl.out; omega
  have Hpp := Lib.hid hpt.2.2.2.2
  have HTr := Lib.hid hTr
  have HnW := Lib.hid hnW
  have hnW2 : nP ≤ nW := by omega
  clear hT hpt hn24 hn1 hTr hpn hwn hnW
  subst hnL
  have Hsl : Hid ((sums ps ws).length = nP) := Lib.hid (by rw [sums_length HTr.out]; exact Hl.out)
  have Hcl : Hid ((capW ps ws l).length = nP) := Lib.hid (by rw [capW_length]; exact Hl.out)
  go_upto_region 3 with fail
  go_cut [6, 7, 8] (fun v6 v7 v8 wc => ThreeB w3 wc nP ps ws l v6 v7 v8)
  case first =>
    go_region_held3 (fun W' => KeepR w3 W' ∧ W'.cell? ⟨w.heap.size, 0, none⟩ = some (.slice aP nP cP) ∧ W'.cell? ⟨w.heap.size, 1, none⟩ = some (.slice aW nW cW))
      (first | exact keep2 (by assumption) HP3.out | exact keep2 (KeepR.alloc0 _ _) HP3.out | exact keep2 (KeepR.start _) HP3.out | exact keep2 (KeepR.alloc (by assumption : KeepR w3 _ ∧ _).1 _) HP3.out | exact keep2 (KeepR.alloc (by assumption : KeepR w3 _ ∧ _).1 _).drew HP3.out)
      (first
        | (go_at_call 100; refine (spec_l4Caps _ _ _ _ _ _ ps ws _ _ _ l _ (H.out.below (hb13.trans (Below.mono (by assumption : KeepR w3 _ ∧ _).1 hb13.size))) HTr.out (HL.out.below (hb13.trans (Below.mono (by assumption : KeepR w3 _ ∧ _).1 hb13.size))) rfl Hpp.out).mono ?_; rintro e w5 ⟨v5, rfl, o5, b5⟩; have hk5 := KeepR.next b5 (by assumption : KeepR w3 _ ∧ _).1)
        | (go_at_call 75; refine (spec_l2Sums _ _ _ _ _ _ ps ws _ (H.out.below (hb13.trans (Below.mono (by assumption : KeepR w3 _ ∧ _).1 hb13.size))) HTr.out).mono ?_; rintro e w6 ⟨v6, rfl, o6, b6⟩; have hk6 := KeepR.next b6 (by assumption : KeepR w3 _ ∧ _).1))
    all_goals (go_wp2_with fail)
    all_goals go_meet
    all_goals first
      | exact threeB_mk hk6 Hcl.out Hsl.out (o5.below b6) o6 ((((Bo.own_nil0 w3).below (Below.refl _ _).drew).below b5).below b6) (Nat.le_refl _) (fun g hg => by have h1 := World.ownsRow.lt o5 g hg; (try simp at h1); omega) (fun g hg => by have h1 := World.ownsRow.lt o6 g hg; have h2 := b5.size; (try simp at h1); (try simp at h2); omega)
      | exact threeB_mk hk6 Hcl.out Hsl.out ((o5.below (below_new w5 _)).below b6) o6 ((Bo.own_nil0 w5).below b6) (Below.size hk5) (fun g hg => by have h1 := World.ownsRow.lt o5 g hg; omega) (fun g hg => by have h1 := World.ownsRow.lt o6 g hg; (try simp at h1); omega)
      | exact threeB_mk (KeepR.alloc hk6 _) Hcl.out Hsl.out ((o5.below b6).below (below_new w6 _)) (o6.below (below_new w6 _)) (Bo.own_nil0 w6) (Below.size hk6) (fun g hg => by have h1 := World.ownsRow.lt (o5.below b6) g hg; omega) (fun g hg => by have h1 := World.ownsRow.lt o6 g hg; omega)
  case rest =>
    clear d0 d1
    obtain ⟨hk4, a6, c6, a7, c7, g8, rfl, rfl, rfl, i6, i7, o8, s6, s7⟩ := hcut
    have hk4b : Below w3.heap.size w3 wc := hk4
    have hb14 := hb13.trans (hk4b.mono hb13.size)
    have HP4 := Lib.hid (HP3.out.below hk4b)
    have hW3 : w.heap.size < w3.heap.size := HP3.out.lt
    have G6 := Lib.hid i6
    have G7 := Lib.hid i7
    have O8 := Lib.hid o8
    have S6 := Lib.hid s6
    have S7 := Lib.hid s7
    have hsz0 : w3.heap.size ≤ wc.heap.size := hk4b.size
    clear i6 i7 o8 s6 s7 hk4 hk4b hb13
    go_wp2_with fail
    go_loopw [8, 9] (fun v8 v9 wr => ∃ k : Nat, k ≤ nP ∧ v9 = .int .i64 (k : Int) ∧ Bo.Own wr w3.heap.size v8 ((List.range k).map (lateB ps ws l)) ∧ Ints wr a6 nP (capW ps ws l) ∧ Ints wr a7 nP (sums ps ws) ∧ (0 < nP → Apart a6 v8) ∧ (0 < nP → Apart a7 v8) ∧ Pair wr w.heap.size (.slice aP nP cP) (.slice aW nW cW) ∧ Below w.heap.size w wr ∧ w3.heap.size ≤ wr.heap.size) (fun _ v9 _ => nP - (intOf v9).toNat)
    case atStart => exact ⟨0, Nat.zero_le _, rfl, O8.out, G6.out, G7.out, (fun _ => S6.out), (fun _ => S7.out), HP4.out, hb14, hsz0⟩
    case round =>
      clear O8 G6 G7 S6 S7 HP4 hb14 hsz0
      obtain ⟨k, hk, rfl, hown, h6, h7, hs6, hs7, hP, hbel, hsz⟩ := hrel
      have c0 := hP.c0
      have c1 := hP.c1
      have HP := Lib.hid hP
      have G6 := Lib.hid h6
      have G7 := Lib.hid h7
      have S6 := Lib.hid hs6
      have S7 := Lib.hid hs7
      clear hP h6 h7 hs6 hs7
      by_cases hlt : (k : Int) < nP
      · obtain ⟨b7, o7, rfl, hc7⟩ := G7.out.at (i := k) (Below.refl _ _) (by omega)
        obtain ⟨bL, oL, rfl, hLw, hcL⟩ := HL.out.at2 (i := k) hbel (by omega)
        obtain ⟨bW, oW, rfl, hWw, hcW⟩ := H.out.w.at2 (i := k) hbel (by omega)
        have hwp : (endB ps k = true → nth ws k > 0) ∧ (endB ps k = false → ¬ nth ws k > 0) := ⟨fun he => by have := HTr.out.leaf k (by have := Hl.out; omega) he; omega, fun he => by have := HTr.out.inner k (by have := Hl.out; omega) he; omega⟩
        have Hms := Lib.hid (map_succ (lateB ps ws l) k)
        have hlv : lateB ps ws l k = (endB ps k || decide (nth (sums ps ws) k * nth l k > kidSum ps (fun y => nth (capW ps ws l) y) k ps.length)) := rfl
        have hll2 : ((List.range k).map (lateB ps ws l)).length ≤ 24 := by simp; omega
        have hsb := sums_bd HTr.out k
        have hlb := Hpp.out k
        have hmb := mul_abs (B := 999) (U := 480) hlb hsb (by omega)
        rw [Int.mul_comm (nth l k) (nth (sums ps ws) k)] at hmb
        have Hcall : Hid (∀ W : World, Below w.heap.size w W → Ints W a6 nP (capW ps ws l) → Calls Tryz.prog 106 #[.agg #[.slice aP nP cP, .slice (some ⟨bW, oW, none⟩) nW cW], .slice a6 nP c6, .int .i64 (k : Int)] W fun e w' => e = .returned (.int .i64 (kidSum ps (fun y => nth (capW ps ws l) y) k ps.length)) ∧ Below W.heap.size W w') := Lib.hid fun W hW hI => by
          have := spec_l4Kids _ _ _ _ _ _ ps ws a6 nP c6 (capW ps ws l) k 1000000000 W (H.out.below hW) HTr.out.toPa hI (Nat.le_refl _) (by omega) (fun i => by have := worth_abs HTr.out Hpp.out 24 i; unfold capW; omega) (by omega)
          rw [Int.toNat_natCast] at this
          exact this
        generalize (List.range k).map (lateB ps ws l) = bsk at *
        generalize lateB ps ws l k = bk at *
        generalize nth (sums ps ws) k = u at *
        generalize nth l k = p at *
        generalize nth ws k = v at *
        generalize kidSum ps (fun y => nth (capW ps ws l) y) k ps.length = r at *
        have k1 : IntKind.i64.wrap (u * p) = u * p := IntWalk.i64_in _ (by omega)
        have k2 : (0 : Int) ≤ (k : Int) := by omega
        have k3 : (k : Int) < (nW : Int) := by omega
        have hHW : w.heap.size < w3.heap.size := hW3
        have HA0 : Hid (∀ o, Below w.heap.size w (wr.alloc o).drew) := Lib.hid fun o => (hbel.alloc hbel.size o).drew
        have HA0' : Hid (∀ o, Below wr.heap.size wr (wr.alloc o).drew) := Lib.hid fun o => (below_new wr o).drew
        clear hsb hlb hmb
        cases he : endB ps k
        · have hu := hwp.2 he
          have hu2 : ¬ (0 : Int) < v := hu
          have hu3 : decide ((0 : Int) < v) = false := decide_eq_false hu2
          rw [he, Bool.false_or] at hlv
          clear hwp he
          go_wp2_with fail
          go_region_held3 (fun W' => Below w.heap.size w W' ∧ W'.cell? ⟨w.heap.size, 0, none⟩ = some (.slice aP nP cP) ∧ W'.cell? ⟨w.heap.size, 1, none⟩ = some (.slice (some ⟨bW, oW, none⟩) nW cW) ∧ W'.cell? ⟨bW, oW + k, none⟩ = some (.int .i64 v) ∧ W'.cell? ⟨b7, o7 + k, none⟩ = some (.int .i64 u) ∧ W'.cell? ⟨bL, oL + k, none⟩ = some (.int .i64 p))
            (first | assumption | exact bk5_start hbel c0 c1 hcW hc7 hcL | exact bk5_alloc (by assumption))
            (first
              | (go_at_call 106; refine (Hcall.out _ (by assumption : Below w.heap.size w _ ∧ _).1 (G6.out.below (Below.refl _ _).drew)).mono ?_; rintro e wk ⟨rfl, bk7⟩
                 have hk7 := bk5_next bk7 (by assumption : Below w.heap.size w _ ∧ _ ∧ _ ∧ _ ∧ _ ∧ _)
                 have hown7 := (hown.below (Below.refl _ _).drew).below bk7
                 have hsz7 : w3.heap.size ≤ wk.heap.size := Nat.le_trans hsz bk7.size)
              | (refine Bo.step_push3 (u := decide (u * p > r)) rfl _ _ rfl w3.heap.size _ _ (by rfl) hown7 (by rfl) (by omega) hsz7 ?_; intro v' w' ho hb hm
                 have xP := hm.cell hk7.2.1 (fun e => by have h1 := (World.ownsRow.lt hown7 _ e).1; simp at h1; omega)
                 have xW := hm.cell hk7.2.2.1 (fun e => by have h1 := (World.ownsRow.lt hown7 _ e).1; simp at h1; omega)
                 have xV := hm.cell hk7.2.2.2.1 (fun e => by have h1 := (World.ownsRow.lt hown7 _ e).1; simp at h1; omega)
                 have x7 := hm.cell hk7.2.2.2.2.1 (S7.out (by omega) ⟨b7, o7, none⟩ rfl)
                 have xL := hm.cell hk7.2.2.2.2.2 (fun e => by have h1 := (World.ownsRow.lt hown7 _ e).1; simp at h1; omega)
                 have hSS : Below w.heap.size w w' ∧ w'.cell? ⟨w.heap.size, 0, none⟩ = some (.slice aP nP cP) ∧ w'.cell? ⟨w.heap.size, 1, none⟩ = some (.slice (some ⟨bW, oW, none⟩) nW cW) ∧ w'.cell? ⟨bW, oW + k, none⟩ = some (.int .i64 v) ∧ w'.cell? ⟨b7, o7 + k, none⟩ = some (.int .i64 u) ∧ w'.cell? ⟨bL, oL + k, none⟩ = some (.int .i64 p) := ⟨hk7.1.trans (hb.mono (by omega)), xP, xW, xV, x7, xL⟩))
          go_wp2_with fail
          have hg6 := ((G6.out.below (Below.refl _ _).drew).below bk7).moved hm S6.out
          have hg7 := ((G7.out.below (Below.refl _ _).drew).below bk7).moved hm S7.out
          go_roundw
          case rel => exact ⟨k + 1, by omega, by go_num, by rw [Hms.out, hlv]; exact ho, hg6.1, hg7.1, hg6.2, hg7.2, ((HP.out.below (Below.refl _ _).drew).below bk7).up hb (by omega), (show Below w.heap.size w wk from hk7.1).trans (hb.mono (by omega)), Nat.le_trans hsz7 hb.size⟩
          case measure => simp [intOf]; omega
        · have hu := hwp.1 he
          have hu2 : (0 : Int) < v := hu
          have hu3 : decide ((0 : Int) < v) = true := decide_eq_true hu2
          rw [he, Bool.true_or] at hlv
          clear hwp he
          go_wp2_with fail
          refine wp_region_noPanic ?_
          refine wp_region_held_drew (S := (fun W' => Below w.heap.size w W' ∧ W'.cell? ⟨w.heap.size, 0, none⟩ = some (.slice aP nP cP) ∧ W'.cell? ⟨w.heap.size, 1, none⟩ = some (.slice (some ⟨bW, oW, none⟩) nW cW) ∧ W'.cell? ⟨bW, oW + k, none⟩ = some (.int .i64 v) ∧ W'.cell? ⟨b7, o7 + k, none⟩ = some (.int .i64 u) ∧ W'.cell? ⟨bL, oL + k, none⟩ = some (.int .i64 p))) (by kernel_rfl) ?_ (fun hHeld0 => ?_)
          · (try dsimp only); first | assumption | exact bk5_start hbel c0 c1 hcW hc7 hcL | exact ⟨HA0.out _, cell_up (HA0'.out _) c0, cell_up (HA0'.out _) c1, cell_up (HA0'.out _) hcW, cell_up (HA0'.out _) hc7, cell_up (HA0'.out _) hcL⟩
          refine takeH (i := 0) (oi := _) (v := ?_) rfl (by kernel_rfl) (by kernel_rfl) (by kernel_rfl) (fun _ _ _ h => h) (Or.inl ⟨by rfl, ?_⟩) (by assumption) ?_
          rotate_left
          · first | (intro w hSw; (try dsimp only at hSw); go_simp; done) | (intro w hSw; (try dsimp only at hSw); go_simp; with_reducible rfl)
          (try simp only [Act.put, List.setIfInBounds_toArray, List.set_cons_zero, List.set_cons_succ])
          refine takeH (i := 1) (oi := _) (v := ?_) rfl (by kernel_rfl) (by kernel_rfl) (by kernel_rfl) (fun _ _ _ h => h) (Or.inl ⟨by rfl, ?_⟩) (by assumption) ?_
          rotate_left
          · first | (intro w hSw; (try dsimp only at hSw); go_simp; done) | (intro w hSw; (try dsimp only at hSw); go_simp; with_reducible rfl)
          (try simp only [Act.put, List.setIfInBounds_toArray, List.set_cons_zero, List.set_cons_succ])
          refine takeH (i := 2) (oi := _) (v := ?_) rfl (by kernel_rfl) (by kernel_rfl) (by kernel_rfl) (fun _ _ _ h => h) (Or.inl ⟨by rfl, ?_⟩) (by assumption) ?_
          rotate_left
          · first | (intro w hSw; (try dsimp only at hSw); go_simp; done) | (intro w hSw; (try dsimp only at hSw); go_simp; with_reducible rfl)
          (try simp only [Act.put, List.setIfInBounds_toArray, List.set_cons_zero, List.set_cons_succ])
          refine takeH (i := 3) (oi := _) (v := ?_) rfl (by kernel_rfl) (by kernel_rfl) (by kernel_rfl) (fun _ _ _ h => h) (Or.inl ⟨by rfl, ?_⟩) (by assumption) ?_
          rotate_left
          · first | (intro w hSw; (try dsimp only at hSw); go_simp; done) | (intro w hSw; (try dsimp only at hSw); go_simp; with_reducible rfl)
          (try simp only [Act.put, List.setIfInBounds_toArray, List.set_cons_zero, List.set_cons_succ])
          refine takeH (i := 4) (oi := _) (v := ?_) rfl (by kernel_rfl) (by kernel_rfl) (by kernel_rfl) (fun _ _ _ h => h) (Or.inl ⟨by rfl, ?_⟩) (by assumption) ?_
          rotate_left
          · first | (intro w hSw; (try dsimp only at hSw); go_simp; done) | (intro w hSw; (try dsimp only at hSw); go_simp; with_reducible rfl)
          (try simp only [Act.put, List.setIfInBounds_toArray, List.set_cons_zero, List.set_cons_succ])
          refine takeH (i := 5) (oi := _) (v := ?_) rfl (by kernel_rfl) (by kernel_rfl) (by kernel_rfl) (fun _ _ _ h => h) (Or.inl ⟨by rfl, ?_⟩) (by assumption) ?_
          rotate_left
          · first | (intro w hSw; (try dsimp only at hSw); go_simp; done) | (intro w hSw; (try dsimp only at hSw); go_simp; with_reducible rfl)
          (try simp only [Act.put, List.setIfInBounds_toArray, List.set_cons_zero, List.set_cons_succ])
          refine takeH (i := 6) (oi := _) (v := ?_) rfl (by kernel_rfl) (by kernel_rfl) (by kernel_rfl) (fun _ _ _ h => h) (Or.inl ⟨by rfl, ?_⟩) (by assumption) ?_
          rotate_left
          · first | (intro w hSw; (try dsimp only at hSw); go_simp; done) | (intro w hSw; (try dsimp only at hSw); go_simp; with_reducible rfl)
          (try simp only [Act.put, List.setIfInBounds_toArray, List.set_cons_zero, List.set_cons_succ])
          refine takeH (i := 7) (oi := _) (v := ?_) rfl (by kernel_rfl) (by kernel_rfl) (by kernel_rfl) (fun _ _ _ h => h) (Or.inl ⟨by rfl, ?_⟩) (by assumption) ?_
          rotate_left
          · first | (intro w hSw; (try dsimp only at hSw); go_simp; done) | (intro w hSw; (try dsimp only at hSw); go_simp; with_reducible rfl)
          (try simp only [Act.put, List.setIfInBounds_toArray, List.set_cons_zero, List.set_cons_succ])
          refine takeH (i := 8) (oi := _) (v := undef) rfl (by kernel_rfl) (by kernel_rfl) (by kernel_rfl) (fun _ _ _ h => h) (Or.inr ⟨by rfl, rfl⟩) (by assumption) ?_
          (try simp only [Act.put, List.setIfInBounds_toArray, List.set_cons_zero, List.set_cons_succ])
          refine takeH (i := 9) (oi := _) (v := undef) rfl (by kernel_rfl) (by kernel_rfl) (by kernel_rfl) (fun _ _ _ h => h) (Or.inr ⟨by rfl, rfl⟩) (by assumption) ?_
          (try simp only [Act.put, List.setIfInBounds_toArray, List.set_cons_zero, List.set_cons_succ])
          refine takeH (i := 10) (oi := _) (v := undef) rfl (by kernel_rfl) (by kernel_rfl) (by kernel_rfl) (fun _ _ _ h => h) (Or.inr ⟨by rfl, rfl⟩) (by assumption) ?_
          (try simp only [Act.put, List.setIfInBounds_toArray, List.set_cons_zero, List.set_cons_succ])
          refine takeH (i := 11) (oi := _) (v := undef) rfl (by kernel_rfl) (by kernel_rfl) (by kernel_rfl) (fun _ _ _ h => h) (Or.inr ⟨by rfl, rfl⟩) (by assumption) ?_
          (try simp only [Act.put, List.setIfInBounds_toArray, List.set_cons_zero, List.set_cons_succ])
          refine takeH (i := 12) (oi := _) (v := undef) rfl (by kernel_rfl) (by kernel_rfl) (by kernel_rfl) (fun _ _ _ h => h) (Or.inr ⟨by rfl, rfl⟩) (by assumption) ?_
          (try simp only [Act.put, List.setIfInBounds_toArray, List.set_cons_zero, List.set_cons_succ])
          refine takeH (i := 13) (oi := _) (v := undef) rfl (by kernel_rfl) (by kernel_rfl) (by kernel_rfl) (fun _ _ _ h => h) (Or.inr ⟨by rfl, rfl⟩) (by assumption) ?_
          (try simp only [Act.put, List.setIfInBounds_toArray, List.set_cons_zero, List.set_cons_succ])
          refine takeH (i := 14) (oi := _) (v := undef) rfl (by kernel_rfl) (by kernel_rfl) (by kernel_rfl) (fun _ _ _ h => h) (Or.inr ⟨by rfl, rfl⟩) (by assumption) ?_
          (try simp only [Act.put, List.setIfInBounds_toArray, List.set_cons_zero, List.set_cons_succ])
          refine takeH (i := 15) (oi := _) (v := undef) rfl (by kernel_rfl) (by kernel_rfl) (by kernel_rfl) (fun _ _ _ h => h) (Or.inr ⟨by rfl, rfl⟩) (by assumption) ?_
          (try simp only [Act.put, List.setIfInBounds_toArray, List.set_cons_zero, List.set_cons_succ])
          refine takeH (i := 16) (oi := _) (v := undef) rfl (by kernel_rfl) (by kernel_rfl) (by kernel_rfl) (fun _ _ _ h => h) (Or.inr ⟨by rfl, rfl⟩) (by assumption) ?_
          (try simp only [Act.put, List.setIfInBounds_toArray, List.set_cons_zero, List.set_cons_succ])
          refine takeH (i := 17) (oi := _) (v := undef) rfl (by kernel_rfl) (by kernel_rfl) (by kernel_rfl) (fun _ _ _ h => h) (Or.inr ⟨by rfl, rfl⟩) (by assumption) ?_
          (try simp only [Act.put, List.setIfInBounds_toArray, List.set_cons_zero, List.set_cons_succ])
          refine takeH (i := 18) (oi := _) (v := undef) rfl (by kernel_rfl) (by kernel_rfl) (by kernel_rfl) (fun _ _ _ h => h) (Or.inr ⟨by rfl, rfl⟩) (by assumption) ?_
          (try simp only [Act.put, List.setIfInBounds_toArray, List.set_cons_zero, List.set_cons_succ])
          refine takeH (i := 19) (oi := _) (v := undef) rfl (by kernel_rfl) (by kernel_rfl) (by kernel_rfl) (fun _ _ _ h => h) (Or.inr ⟨by rfl, rfl⟩) (by assumption) ?_
          (try simp only [Act.put, List.setIfInBounds_toArray, List.set_cons_zero, List.set_cons_succ])
          refine takeH (i := 20) (oi := _) (v := undef) rfl (by kernel_rfl) (by kernel_rfl) (by kernel_rfl) (fun _ _ _ h => h) (Or.inr ⟨by rfl, rfl⟩) (by assumption) ?_
          (try simp only [Act.put, List.setIfInBounds_toArray, List.set_cons_zero, List.set_cons_succ])
          refine takeH (i := 21) (oi := _) (v := undef) rfl (by kernel_rfl) (by kernel_rfl) (by kernel_rfl) (fun _ _ _ h => h) (Or.inr ⟨by rfl, rfl⟩) (by assumption) ?_
          (try simp only [Act.put, List.setIfInBounds_toArray, List.set_cons_zero, List.set_cons_succ])
          refine takeH (i := 22) (oi := _) (v := ?_) rfl (by kernel_rfl) (by kernel_rfl) (by kernel_rfl) (fun _ _ _ h => h) (Or.inl ⟨by rfl, ?_⟩) (by assumption) ?_
          rotate_left
          · first | (intro w hSw; (try dsimp only at hSw); go_simp; done) | (intro w hSw; (try dsimp only at hSw); go_simp; with_reducible rfl)
          (try simp only [Act.put, List.setIfInBounds_toArray, List.set_cons_zero, List.set_cons_succ])
          refine wpAnyH_ready (rs := [23]) (by kernel_rfl) (by simp) ?_
          refine consH rfl (fun Kq hKq => ?_)
          go_simp
          refine hKq.out _ _ ?_ (fun hHeld1 => ?_)
          · (try dsimp only); first | assumption | exact bk5_start hbel c0 c1 hcW hc7 hcL | exact ⟨HA0.out _, cell_up (HA0'.out _) c0, cell_up (HA0'.out _) c1, cell_up (HA0'.out _) hcW, cell_up (HA0'.out _) hc7, cell_up (HA0'.out _) hcL⟩
          clear hKq Kq
          (try simp only [Act.put, List.setIfInBounds_toArray, List.set_cons_zero, List.set_cons_succ])
          clear hHeld0
          refine wpAnyH_ready (rs := [24]) (by kernel_rfl) (by simp) ?_
          refine consH rfl (fun Kq hKq => ?_)
          refine Bo.step_push2 (u := true) rfl _ _ rfl w3.heap.size _ _ (by rfl) hown (by rfl) (by omega) hsz ?_; intro v' w' ho hb hm
          have xP := hm.cell c0 (fun e => by have h1 := (World.ownsRow.lt hown _ e).1; simp at h1; omega)
          have xW := hm.cell c1 (fun e => by have h1 := (World.ownsRow.lt hown _ e).1; simp at h1; omega)
          have xV := hm.cell hcW (fun e => by have h1 := (World.ownsRow.lt hown _ e).1; simp at h1; omega)
          have x7 := hm.cell hc7 (S7.out (by omega) ⟨b7, o7, none⟩ rfl)
          have xL := hm.cell hcL (fun e => by have h1 := (World.ownsRow.lt hown _ e).1; simp at h1; omega)
          have hSS : Below w.heap.size w w' ∧ w'.cell? ⟨w.heap.size, 0, none⟩ = some (.slice aP nP cP) ∧ w'.cell? ⟨w.heap.size, 1, none⟩ = some (.slice (some ⟨bW, oW, none⟩) nW cW) ∧ w'.cell? ⟨bW, oW + k, none⟩ = some (.int .i64 v) ∧ w'.cell? ⟨b7, o7 + k, none⟩ = some (.int .i64 u) ∧ w'.cell? ⟨bL, oL + k, none⟩ = some (.int .i64 p) := ⟨hbel.trans (hb.mono (by omega)), xP, xW, xV, x7, xL⟩
          refine hKq.out _ _ ?_ (fun hHeld2 => ?_)
          · (try dsimp only); first | assumption | exact bk5_start hbel c0 c1 hcW hc7 hcL | exact ⟨HA0.out _, cell_up (HA0'.out _) c0, cell_up (HA0'.out _) c1, cell_up (HA0'.out _) hcW, cell_up (HA0'.out _) hc7, cell_up (HA0'.out _) hcL⟩
          clear hKq Kq
          (try simp only [Act.put, List.setIfInBounds_toArray, List.set_cons_zero, List.set_cons_succ])
          clear hHeld1
          refine takeH (i := 25) (oi := _) (v := ?_) rfl (by kernel_rfl) (by kernel_rfl) (by kernel_rfl) (fun _ _ _ h => h) (Or.inl ⟨by rfl, ?_⟩) (by assumption) ?_
          rotate_left
          · first | (intro w hSw; (try dsimp only at hSw); go_simp; done) | (intro w hSw; (try dsimp only at hSw); go_simp; with_reducible rfl)
          (try simp only [Act.put, List.setIfInBounds_toArray, List.set_cons_zero, List.set_cons_succ])
          refine wpAnyH_done (by kernel_rfl) ?_ _
          refine NoPanic.normal ?_
          go_wp2_with fail
          have hg6 := G6.out.moved hm S6.out
          have hg7 := G7.out.moved hm S7.out
          go_roundw
          case rel => exact ⟨k + 1, by omega, by go_num, by rw [Hms.out, hlv]; exact ho, hg6.1, hg7.1, hg6.2, hg7.2, HP.out.up hb (by omega), hbel.trans (hb.mono (by omega)), Nat.le_trans hsz hb.size⟩
          case measure => simp [intOf]; omega
      · obtain rfl : k = nP := by omega
        obtain ⟨a8, c8, rfl⟩ := hown.shape
        have hbl : ((List.range k).map (lateB ps ws l)).length = k := by simp
        rw [hbl] at hown ⊢
        have HB := Lib.hid hown.bools
        clear hown hbl
        go_wp2_with fail
        refine (spec_l4First _ _ _ _ _ _ ps ws _ _ _ ((List.range k).map (lateB ps ws l)) _ (H.out.below hbel) HTr.out.toPa HB.out rfl (fun x hx he => by rw [Bo.nth_map_range (by have := Hl.out; omega), lateB, he]; rfl)).mono ?_
        rintro e w9 ⟨v9, rfl, o9, b9⟩
        have Hf : Hid (firsts ps (bS ((List.range k).map (lateB ps ws l))) = firsts ps (fS (lateB ps ws l))) := Lib.hid (firB_congr HTr.out.toPa fun y hy => bS_map (by have := Hl.out; omega))
        have O9 := Lib.hid o9
        clear o9
        go_wp2_with fail
        go_ret2
        exact ⟨_, by rw [Hpays.out]; rfl, by rw [lateV_yes Hpays.out, ← Hf.out]; exact O9.out.mono hbel.size, hbel.trans (b9.mono hbel.size)⟩
end Go.Proofs.YtnbomleieianoaaGreat

/- Contracts: what going on is worth, of the program and of the reference. -/
namespace Go.Proofs.YtnbomleieianoaaGreat
open Go.RowKit

/-- What going on is worth at x. -/
def goB (ps ws l : List Int) (x : Int) : Bool := paysB ps ws l && (inB x 0 ((ps.length : Int) - 1) && !endB ps x.toNat)
def goS (ps ws l : List Int) (x : Int) : Int := kidSum ps (fun y => nth (capW ps ws l) y) x.toNat ps.length
def goN (ps ws l : List Int) (x : Int) : Int := if goB ps ws l x then nm (goS ps ws l x) (nth (sums ps ws) x.toNat) else 0
def goD (ps ws l : List Int) (x : Int) : Int := if goB ps ws l x then dn (goS ps ws l x) (nth (sums ps ws) x.toNat) else 0
theorem go_no {ps ws l : List Int} {x : Int} (h : goB ps ws l x = false) : goN ps ws l x = 0 ∧ goD ps ws l x = 0 := by unfold goN goD; rw [h]; exact ⟨rfl, rfl⟩
theorem go_yes {ps ws l : List Int} {x : Int} (h : goB ps ws l x = true) : goN ps ws l x = nm (goS ps ws l x) (nth (sums ps ws) x.toNat) ∧ goD ps ws l x = dn (goS ps ws l x) (nth (sums ps ws) x.toNat) := by unfold goN goD; rw [h]; exact ⟨rfl, rfl⟩
theorem goB_no1 {ps ws l : List Int} {x : Int} (h : paysB ps ws l = false) : goB ps ws l x = false := by rw [goB, h]; rfl
theorem goB_no2 {ps ws l : List Int} {x : Int} (h : inB x 0 ((ps.length : Int) - 1) = false) : goB ps ws l x = false := by rw [goB, h]; simp
theorem goB_no3 {ps ws l : List Int} {x : Int} (h : endB ps x.toNat = true) : goB ps ws l x = false := by rw [goB, h]; simp
theorem goB_yes {ps ws l : List Int} {x : Int} (h1 : paysB ps ws l = true) (h2 : inB x 0 ((ps.length : Int) - 1) = true) (h3 : endB ps x.toNat = false) : goB ps ws l x = true := by rw [goB, h1, h2, h3]; rfl
theorem goS_bd {ps ws l : List Int} (h : Tr ps ws) (hl : ∀ i, -999 ≤ nth l i ∧ nth l i ≤ 999) (x : Int) : -479520 ≤ goS ps ws l x ∧ goS ps ws l x ≤ 479520 := by
  have h1 := kid_bd (l := l) h (fun y hy => worth_bd h hl 24 y hy) x.toNat
  have h2 := sums_bd h x.toNat
  unfold goS capW
  omega
set_option maxRecDepth 100000 in
set_option maxHeartbeats 2000000 in
theorem impl_GoingOn (aP : Option Addr) (nP cP : Nat) (aW : Option Addr) (nW cW : Nat) (ps ws : List Int) (aL : Option Addr) (nL cL : Nat) (l : List Int) (x : Int) (w : World) (h : Tre w aP nP cP aW nW cW ps ws) (hL : Ints w aL nL l) (_hLc : aL = none → cL = 0) (hn : nL ≤ 1048576) :
    Calls Tryz.prog 47 #[.agg #[.slice aP nP cP, .slice aW nW cW], .slice aL nL cL, .int .i64 x] w fun e w' => e = .returned (.tuple #[.agg #[.int .i64 (goN ps ws l x), .int .i64 (goD ps ws l x)], .bool (goB ps ws l x)]) ∧ Below w.heap.size w w' := by
  have hl := h.p.1
  have hlw := h.w.1
  have hpn := h.pn
  have hwn := h.wn
  have hb1 := below_new w (.cells #[.slice aP nP cP, .slice aW nW cW] 26)
  have hP1 := Lib.hid (Pair.new w (.slice aP nP cP) (.slice aW nW cW) 26)
  have H := Lib.hid h
  have Hl := Lib.hid hl
  have Hlw := Lib.hid hlw
  clear h hl hlw
  have HL := Lib.hid hL
  have hll := Lib.hid hL.1
  clear hL
  have hlt2 := hP1.out.lt
  go_enter Tryz.func47, Tryz.ntmps47
  have hbb := hb1.trans ((below_new (w.alloc (.cells #[.slice aP nP cP, .slice aW nW cW] 26)) (.cells #[.int .i64 0, .int .i64 0] 29)).mono hb1.size)
  have hPP := Lib.hid (hP1.out.alloc (.cells #[.int .i64 0, .int .i64 0] 29))
  have hR1 := Pair.new (w.alloc (.cells #[.slice aP nP cP, .slice aW nW cW] 26)) (.int .i64 0) (.int .i64 0) 29
  rw [show (w.alloc (.cells #[.slice aP nP cP, .slice aW nW cW] 26)).heap.size = w.heap.size + 1 by simp] at hR1
  have HR1 := Lib.hid hR1
  have c0 := hPP.out.c0
  have c1 := hPP.out.c1
  clear hb1 hP1 hlt2 hR1
  go_wp2_with fail
  generalize ((w.alloc (.cells #[.slice aP nP cP, .slice aW nW cW] 26)).alloc (.cells #[.int .i64 0, .int .i64 0] 29)) = w2 at *
  have hlt2 := hPP.out.lt
  refine (impl_IsTree _ _ _ _ _ _ ps ws _ (H.out.below hbb)).mono ?_
  rintro e w3 ⟨rfl, hb3⟩
  have hP3 := hPP.out.below hb3
  have d0 := hP3.c0
  have d1 := hP3.c1
  have HP3 := Lib.hid hP3
  have HR := Lib.hid (HR1.out.below hb3)
  have hb13 := hbb.trans (hb3.mono hbb.size)
  clear hP3 c0 c1 hb3 HR1 hPP hbb
  cases hT : treeB ps ws
  · have Hno := Lib.hid (pays_no1 (l := l) hT)
    clear hT
    have p3 := HR.out
    have q3 := p3.c0
    have q4 := p3.c1
    have q5 := p3.f0
    have q6 := p3.f1
    have hr := p3.set (.int .i64 0) (.int .i64 0)
    clear p3
    go_wp2_with fail
    exact bodyPost_ret (v := .tuple #[.agg #[.int .i64 0, .int .i64 0], .bool false]) (by simp [results, Tryz.results47, go_sem, hr.1, hr.2]) rfl ⟨by obtain ⟨z1, z2⟩ := go_no (x := x) (goB_no1 (x := x) Hno.out); rw [z1, z2, goB_no1 Hno.out], (hb13.setCell (by simp) _).setCell (by simp) _⟩
  have HT := Lib.hid hT
  clear hT
  go_wp2_with fail
  refine (impl_isProcess _ _ _ _ _ _ ps ws _ _ _ l _ (H.out.below hb13) (HL.out.below hb13) hn).mono ?_
  rintro e w4 ⟨rfl, hb4⟩
  have hb14 := hb13.trans (hb4.mono hb13.size)
  have hP4 := HP3.out.below hb4
  have e0 := hP4.c0
  have e1 := hP4.c1
  have HP := Lib.hid hP4
  have HR4 := Lib.hid (HR.out.below hb4)
  clear d0 d1 hP4 hb4 HR HP3
  have HR := HR4
  clear HR4
  cases hp : procB ps.length l
  · have Hno := Lib.hid (pays_no2 (ws := ws) hp)
    clear hp
    have p3 := HR.out
    have q3 := p3.c0
    have q4 := p3.c1
    have q5 := p3.f0
    have q6 := p3.f1
    have hr := p3.set (.int .i64 0) (.int .i64 0)
    clear p3
    go_wp2_with fail
    exact bodyPost_ret (v := .tuple #[.agg #[.int .i64 0, .int .i64 0], .bool false]) (by simp [results, Tryz.results47, go_sem, hr.1, hr.2]) rfl ⟨by obtain ⟨z1, z2⟩ := go_no (x := x) (goB_no1 (x := x) Hno.out); rw [z1, z2, goB_no1 Hno.out], (hb14.setCell (by simp) _).setCell (by simp) _⟩
  have Hpays := Lib.hid (pays_both HT.out hp)
  have hpp := procB_t hp
  have hTr := treeB_t HT.out
  have hn24 := hTr.n24
  have hn1 := hTr.n1
  have hnL : nP = nL := by have := hll.out; have := hpp.1; have := Hl.out; omega
  have hnW : nP = nW := by have := Hlw.out; have := hTr.wl; have := Hl.out; omega
  have hnP : 1 ≤ nP ∧ nP ≤ 24 := by have := Hl.out; omega
  have Hpp := Lib.hid hpp
  have HTr := Lib.hid hTr
  have HnW := Lib.hid hnW
  have hnW2 : nP ≤ nW := by omega
  clear hp hpp hn24 hn1 hTr hpn hwn hnW
  subst hnL
  go_wp2_with fail
  refine (impl_isNode _ _ _ _ _ _ ps ws x _ (H.out.below hb14) HTr.out).mono ?_
  rintro e w5 ⟨rfl, b5⟩
  have hb15 := hb14.trans (b5.mono hb14.size)
  have HP5 := Lib.hid (HP.out.below b5)
  have HR5 := Lib.hid (HR.out.below b5)
  clear HP HR e0 e1 b5
  have HR := HR5
  clear HR5
  cases hx : inB x 0 ((ps.length : Int) - 1)
  · have Hno := Lib.hid hx
    clear hx
    have p3 := HR.out
    have q3 := p3.c0
    have q4 := p3.c1
    have q5 := p3.f0
    have q6 := p3.f1
    have hr := p3.set (.int .i64 0) (.int .i64 0)
    clear p3
    go_wp2_with fail
    exact bodyPost_ret (v := .tuple #[.agg #[.int .i64 0, .int .i64 0], .bool false]) (by simp [results, Tryz.results47, go_sem, hr.1, hr.2]) rfl ⟨by obtain ⟨z1, z2⟩ := go_no (goB_no2 Hno.out); rw [z1, z2, goB_no2 Hno.out], (hb15.setCell (by simp) _).setCell (by simp) _⟩
  have Hx := Lib.hid hx
  have hxb := inB_t hx
  obtain ⟨X, rfl⟩ : ∃ X : Nat, x = X := ⟨x.toNat, by omega⟩
  have hXn : X < nP := by have := Hl.out; omega
  clear hx hxb
  have d0 := HP5.out.c0
  have d1 := HP5.out.c1
  go_wp2_with fail
  refine (impl_isEnd _ _ _ _ _ _ ps ws _ (H.out.below hb15) HTr.out.toPa).mono ?_
  rintro e w6 ⟨v6, rfl, o6, b6⟩
  obtain ⟨a6, c6, rfl⟩ := o6.shape
  have hel : (endsB ps).length = nP := by rw [endsB_length]; exact Hl.out
  rw [hel] at o6 ⊢
  have hb16 := hb15.trans (b6.mono hb15.size)
  have HP6 := Lib.hid (HP5.out.below b6)
  have HR6 := Lib.hid (HR.out.below b6)
  obtain ⟨bE, oE, rfl, hcE⟩ := o6.bools.at (i := X) (Below.refl _ _) (by omega)
  rw [nth_endsB (by have := Hl.out; omega)] at hcE
  clear HP5 HR d0 d1 b6 o6 hel
  have HR := HR6
  clear HR6
  cases hE : endB ps X
  rotate_left
  · have Hno := Lib.hid (goB_no3 (ps := ps) (ws := ws) (l := l) (x := (X : Int)) hE)
    rw [hE] at hcE
    clear hE
    have p3 := HR.out
    have q3 := p3.c0
    have q4 := p3.c1
    have q5 := p3.f0
    have q6 := p3.f1
    have hr := p3.set (.int .i64 0) (.int .i64 0)
    clear p3
    go_wp2_with fail
    exact bodyPost_ret (v := .tuple #[.agg #[.int .i64 0, .int .i64 0], .bool false]) (by simp [results, Tryz.results47, go_sem, hr.1, hr.2]) rfl ⟨by obtain ⟨z1, z2⟩ := go_no (id Hno.out); rw [z1, z2, id Hno.out], (hb16.setCell (by simp) _).setCell (by simp) _⟩
  rw [hE] at hcE
  have HE := Lib.hid hE
  clear hE
  have d0 := HP6.out.c0
  have d1 := HP6.out.c1
  go_wp2_with fail
  refine (impl_worth _ _ _ _ _ _ ps ws _ _ _ l _ 24 _ (H.out.below hb16) HTr.out (HL.out.below hb16) rfl Hpp.out.2 (.inl ⟨by omega, rfl⟩)).mono ?_
  rintro e w7 ⟨a1, c1, a2, c2, rfl, o1, o2, b7⟩
  have hb17 := hb16.trans (b7.mono hb16.size)
  have HP7 := Lib.hid (HP6.out.below b7)
  have HR7 := Lib.hid (HR.out.below b7)
  have hown2 := World.ownsRow.lt o2
  obtain ⟨bO, oO, rfl, hcO⟩ := o2.ints.at (i := X) (Below.refl _ _) (by omega)
  have hbO : bO ≠ w.heap.size + 1 := by
    have h1 := o2
    obtain ⟨g, cp, he, hg, _⟩ := h1.form (by rw [onW_length]; have := Hl.out; omega)
    cases he
    have := HR.out.lt
    omega
  clear hown2
  rw [on_capW HTr.out (by have := Hl.out; omega)] at hcO
  clear HP6 HR d0 d1 b7 o1 o2 hcE
  have hv : goS ps ws l (X : Int) = kidSum ps (fun y => nth (capW ps ws l) y) X ps.length := rfl
  rw [← hv] at hcO
  have hbd := goS_bd HTr.out Hpp.out.2 (X : Int)
  have hsb := sums_bd HTr.out X
  have hsp := sums_pos HTr.out X (by have := Hl.out; omega)
  have hgb := goB_yes (x := (X : Int)) Hpays.out Hx.out HE.out
  obtain ⟨z1, z2⟩ := go_yes hgb
  rw [Int.toNat_natCast] at z1 z2
  have Hlow : Hid (∀ W : World, Calls Tryz.prog 73 #[.int .i64 (goS ps ws l X), .int .i64 (nth (sums ps ws) X)] W fun e w' => e = .returned (.tuple #[.agg #[.int .i64 (goN ps ws l X), .int .i64 (goD ps ws l X)], .bool true]) ∧ Below W.heap.size W w') := Lib.hid fun W => by
    rw [z1, z2]
    exact impl_lowest_s _ _ W (by omega) (by omega)
  have Hgb := Lib.hid hgb
  clear hv hbd hsb hsp hgb z1 z2
  generalize hgn : goN ps ws l X = gn at *
  generalize hgd : goD ps ws l X = gd at *
  have Hgn := Lib.hid hgn
  have Hgd := Lib.hid hgd
  clear hgn hgd
  generalize goS ps ws l X = gs at *
  have d0 := HP7.out.c0
  have d1 := HP7.out.c1
  have Hsl : Hid ((sums ps ws).length = nP) := Lib.hid (by rw [sums_length HTr.out]; exact Hl.out)
  go_wp2_with fail
  have hn2 : bO ≠ w.heap.size + 1 := hbO
  have hw7 : w.heap.size + 1 < w7.heap.size := HR7.out.lt
  refine wp_region_noPanic ?_
  refine wp_region_held_drew (S := (fun W' => Below w.heap.size w W' ∧ W'.cell? ⟨w.heap.size, 0, none⟩ = some (.slice aP nP cP) ∧ W'.cell? ⟨w.heap.size, 1, none⟩ = some (.slice aW nW cW) ∧ W'.cell? ⟨bO, oO + X, none⟩ = some (.int .i64 gs))) (by kernel_rfl) ?_ (fun hHeld0 => ?_)
  · (try dsimp only); first | assumption | exact bk3_start hb17 d0 d1 hcO | exact bk3_set (by simp) (by simp) (by simp) hn2 (bk3_set (by simp) (by simp) (by simp) hn2 (by assumption))
  refine takeH (i := 0) (oi := _) (v := ?_) rfl (by kernel_rfl) (by kernel_rfl) (by kernel_rfl) (fun _ _ _ h => h) (Or.inl ⟨by rfl, ?_⟩) (by assumption) ?_
  rotate_left
  · first | (intro w hSw; (try dsimp only at hSw); go_simp; done) | (intro w hSw; (try dsimp only at hSw); go_simp; with_reducible rfl)
  (try simp only [Act.put, List.setIfInBounds_toArray, List.set_cons_zero, List.set_cons_succ])
  refine takeH (i := 1) (oi := _) (v := ?_) rfl (by kernel_rfl) (by kernel_rfl) (by kernel_rfl) (fun _ _ _ h => h) (Or.inl ⟨by rfl, ?_⟩) (by assumption) ?_
  rotate_left
  · first | (intro w hSw; (try dsimp only at hSw); go_simp; done) | (intro w hSw; (try dsimp only at hSw); go_simp; with_reducible rfl)
  (try simp only [Act.put, List.setIfInBounds_toArray, List.set_cons_zero, List.set_cons_succ])
  refine takeH (i := 2) (oi := _) (v := ?_) rfl (by kernel_rfl) (by kernel_rfl) (by kernel_rfl) (fun _ _ _ h => h) (Or.inl ⟨by rfl, ?_⟩) (by assumption) ?_
  rotate_left
  · first | (intro w hSw; (try dsimp only at hSw); go_simp; done) | (intro w hSw; (try dsimp only at hSw); go_simp; with_reducible rfl)
  (try simp only [Act.put, List.setIfInBounds_toArray, List.set_cons_zero, List.set_cons_succ])
  refine takeH (i := 3) (oi := _) (v := ?_) rfl (by kernel_rfl) (by kernel_rfl) (by kernel_rfl) (fun _ _ _ h => h) (Or.inl ⟨by rfl, ?_⟩) (by assumption) ?_
  rotate_left
  · first | (intro w hSw; (try dsimp only at hSw); go_simp; done) | (intro w hSw; (try dsimp only at hSw); go_simp; with_reducible rfl)
  (try simp only [Act.put, List.setIfInBounds_toArray, List.set_cons_zero, List.set_cons_succ])
  refine takeH (i := 4) (oi := _) (v := ?_) rfl (by kernel_rfl) (by kernel_rfl) (by kernel_rfl) (fun _ _ _ h => h) (Or.inl ⟨by rfl, ?_⟩) (by assumption) ?_
  rotate_left
  · first | (intro w hSw; (try dsimp only at hSw); go_simp; done) | (intro w hSw; (try dsimp only at hSw); go_simp; with_reducible rfl)
  (try simp only [Act.put, List.setIfInBounds_toArray, List.set_cons_zero, List.set_cons_succ])
  refine takeH (i := 6) (oi := _) (v := ?_) rfl (by kernel_rfl) (by kernel_rfl) (by kernel_rfl) (fun _ _ _ h => h) (Or.inl ⟨by rfl, ?_⟩) (by assumption) ?_
  rotate_left
  · first | (intro w hSw; (try dsimp only at hSw); go_simp; done) | (intro w hSw; (try dsimp only at hSw); go_simp; with_reducible rfl)
  (try simp only [Act.put, List.setIfInBounds_toArray, List.set_cons_zero, List.set_cons_succ])
  refine wpAnyH_ready (rs := [5]) (by kernel_rfl) (by simp) ?_
  refine consH rfl (fun Kq hKq => ?_)
  go_simp
  (first
      | (go_at_call 72; refine (impl_sums _ _ _ _ _ _ ps ws _ (H.out.below (by assumption : Below w.heap.size w _ ∧ _).1) HTr.out).mono ?_; rintro e w8 ⟨v8, rfl, o8, b8⟩
         have hk8 := bk3_next b8 (by assumption : Below w.heap.size w _ ∧ _ ∧ _ ∧ _)
         have hR8 := pair_up b8 HR7.out.c0 HR7.out.c1 HR7.out.f0 HR7.out.f1
         obtain ⟨a8, c8, rfl⟩ := o8.shape
         rw [Hsl.out] at o8 ⊢
         obtain ⟨b8', o8', rfl, hc8⟩ := o8.ints.at (i := X) (Below.refl _ _) hXn)
      | (go_at_call 73; refine (Hlow.out _).mono ?_; rintro e w9 ⟨rfl, b9⟩
         have hk9 := bk3_next b9 (by assumption : Below w.heap.size w _ ∧ _ ∧ _ ∧ _)
         have hb9 : Below w.heap.size w w9 := hk9.1
         have hR9 := pair_up b9 hR8.c0 hR8.c1 hR8.f0 hR8.f1
         have q3 := hR9.c0
         have q4 := hR9.c1
         have q5 := hR9.f0
         have q6 := hR9.f1
         have hr := hR9.set (.int .i64 gn) (.int .i64 gd)))
  refine hKq.out _ _ ?_ (fun hHeld1 => ?_)
  · (try dsimp only); first | assumption | exact bk3_start hb17 d0 d1 hcO | exact bk3_set (by simp) (by simp) (by simp) hn2 (bk3_set (by simp) (by simp) (by simp) hn2 (by assumption))
  clear hKq Kq
  (try simp only [Act.put, List.setIfInBounds_toArray, List.set_cons_zero, List.set_cons_succ])
  clear hHeld0
  refine takeH (i := 7) (oi := _) (v := ?_) rfl (by kernel_rfl) (by kernel_rfl) (by kernel_rfl) (fun _ _ _ h => h) (Or.inl ⟨by rfl, ?_⟩) (by assumption) ?_
  rotate_left
  · first | (intro w hSw; (try dsimp only at hSw); go_simp; done) | (intro w hSw; (try dsimp only at hSw); go_simp; with_reducible rfl)
  (try simp only [Act.put, List.setIfInBounds_toArray, List.set_cons_zero, List.set_cons_succ])
  refine wpAnyH_ready (rs := [8]) (by kernel_rfl) (by simp) ?_
  refine consH rfl (fun Kq hKq => ?_)
  go_simp
  refine hKq.out _ _ ?_ (fun hHeld2 => ?_)
  · (try dsimp only); first | assumption | exact bk3_start hb17 d0 d1 hcO | exact bk3_set (by simp) (by simp) (by simp) hn2 (bk3_set (by simp) (by simp) (by simp) hn2 (by assumption))
  clear hKq Kq
  (try simp only [Act.put, List.setIfInBounds_toArray, List.set_cons_zero, List.set_cons_succ])
  clear hHeld1
  refine wpAnyH_ready (rs := [9]) (by kernel_rfl) (by simp) ?_
  refine consH rfl (fun Kq hKq => ?_)
  go_simp
  (first
      | (go_at_call 72; refine (impl_sums _ _ _ _ _ _ ps ws _ (H.out.below (by assumption : Below w.heap.size w _ ∧ _).1) HTr.out).mono ?_; rintro e w8 ⟨v8, rfl, o8, b8⟩
         have hk8 := bk3_next b8 (by assumption : Below w.heap.size w _ ∧ _ ∧ _ ∧ _)
         have hR8 := pair_up b8 HR7.out.c0 HR7.out.c1 HR7.out.f0 HR7.out.f1
         obtain ⟨a8, c8, rfl⟩ := o8.shape
         rw [Hsl.out] at o8 ⊢
         obtain ⟨b8', o8', rfl, hc8⟩ := o8.ints.at (i := X) (Below.refl _ _) hXn)
      | (go_at_call 73; refine (Hlow.out _).mono ?_; rintro e w9 ⟨rfl, b9⟩
         have hk9 := bk3_next b9 (by assumption : Below w.heap.size w _ ∧ _ ∧ _ ∧ _)
         have hb9 : Below w.heap.size w w9 := hk9.1
         have hR9 := pair_up b9 hR8.c0 hR8.c1 hR8.f0 hR8.f1
         have q3 := hR9.c0
         have q4 := hR9.c1
         have q5 := hR9.f0
         have q6 := hR9.f1
         have hr := hR9.set (.int .i64 gn) (.int .i64 gd)))
  refine hKq.out _ _ ?_ (fun hHeld3 => ?_)
  · (try dsimp only); first | assumption | exact bk3_start hb17 d0 d1 hcO | exact bk3_set (by simp) (by simp) (by simp) hn2 (bk3_set (by simp) (by simp) (by simp) hn2 (by assumption))
  clear hKq Kq
  (try simp only [Act.put, List.setIfInBounds_toArray, List.set_cons_zero, List.set_cons_succ])
  clear hHeld2
  refine takeH (i := 10) (oi := _) (v := ?_) rfl (by kernel_rfl) (by kernel_rfl) (by kernel_rfl) (fun _ _ _ h => h) (Or.inl ⟨by rfl, ?_⟩) (by assumption) ?_
  rotate_left
  · first | (intro w hSw; (try dsimp only at hSw); go_simp; done) | (intro w hSw; (try dsimp only at hSw); go_simp; with_reducible rfl)
  (try simp only [Act.put, List.setIfInBounds_toArray, List.set_cons_zero, List.set_cons_succ])
  refine takeH (i := 11) (oi := _) (v := ?_) rfl (by kernel_rfl) (by kernel_rfl) (by kernel_rfl) (fun _ _ _ h => h) (Or.inl ⟨by rfl, ?_⟩) (by assumption) ?_
  rotate_left
  · first | (intro w hSw; (try dsimp only at hSw); go_simp; done) | (intro w hSw; (try dsimp only at hSw); go_simp; with_reducible rfl)
  (try simp only [Act.put, List.setIfInBounds_toArray, List.set_cons_zero, List.set_cons_succ])
  refine wpAnyH_ready (rs := [12]) (by kernel_rfl) (by simp) ?_
  refine consH rfl (fun Kq hKq => ?_)
  go_simp
  refine hKq.out _ _ ?_ (fun hHeld4 => ?_)
  · (try dsimp only); first | assumption | exact bk3_start hb17 d0 d1 hcO | exact bk3_set (by simp) (by simp) (by simp) hn2 (bk3_set (by simp) (by simp) (by simp) hn2 (by assumption))
  clear hKq Kq
  (try simp only [Act.put, List.setIfInBounds_toArray, List.set_cons_zero, List.set_cons_succ])
  clear hHeld3
  refine takeH (i := 13) (oi := _) (v := ?_) rfl (by kernel_rfl) (by kernel_rfl) (by kernel_rfl) (fun _ _ _ h => h) (Or.inl ⟨by rfl, ?_⟩) (by assumption) ?_
  rotate_left
  · first | (intro w hSw; (try dsimp only at hSw); go_simp; done) | (intro w hSw; (try dsimp only at hSw); go_simp; with_reducible rfl)
  (try simp only [Act.put, List.setIfInBounds_toArray, List.set_cons_zero, List.set_cons_succ])
  refine wpAnyH_done (by kernel_rfl) ?_ _
  refine NoPanic.normal ?_
  go_wp2_with fail
  exact bodyPost_ret (v := .tuple #[.agg #[.int .i64 gn, .int .i64 gd], .bool true]) (by simp [results, Tryz.results47, go_sem, hr.1, hr.2]) rfl ⟨by rw [Hgb.out, Hgn.out, Hgd.out], (hb9.setCell (by simp) _).setCell (by simp) _⟩
theorem w_pos {ps ws : List Int} (h : Tr ps ws) {x : Nat} (hx : x < ps.length) : (endB ps x = true → nth ws x > 0) ∧ (endB ps x = false → ¬ nth ws x > 0) :=
  ⟨fun he => by have := h.leaf x hx he; omega, fun he => by have := h.inner x hx he; omega⟩
set_option maxRecDepth 100000 in
set_option maxHeartbeats 2000000 in
theorem spec_GoingOn (aP : Option Addr) (nP cP : Nat) (aW : Option Addr) (nW cW : Nat) (ps ws : List Int) (aL : Option Addr) (nL cL : Nat) (l : List Int) (x : Int) (w : World) (h : Tre w aP nP cP aW nW cW ps ws) (hL : Ints w aL nL l) (_hLc : aL = none → cL = 0) (hn : nL ≤ 1048576) :
    Calls Tryz.prog 48 #[.agg #[.slice aP nP cP, .slice aW nW cW], .slice aL nL cL, .int .i64 x] w fun e w' => e = .returned (.tuple #[.agg #[.int .i64 (goN ps ws l x), .int .i64 (goD ps ws l x)], .bool (goB ps ws l x)]) ∧ Below w.heap.size w w' := by
  have hl := h.p.1
  have hlw := h.w.1
  have hpn := h.pn
  have hwn := h.wn
  have hb1 := below_new w (.cells #[.slice aP nP cP, .slice aW nW cW] 26)
  have hP1 := Lib.hid (Pair.new w (.slice aP nP cP) (.slice aW nW cW) 26)
  have H := Lib.hid h
  have Hl := Lib.hid hl
  have Hlw := Lib.hid hlw
  clear h hl hlw
  have HL := Lib.hid hL
  have hll := Lib.hid hL.1
  clear hL
  have hlt2 := hP1.out.lt
  go_enter Tryz.func48, Tryz.ntmps48
  have hbb := hb1.trans ((below_new (w.alloc (.cells #[.slice aP nP cP, .slice aW nW cW] 26)) (.cells #[.int .i64 0, .int .i64 0] 29)).mono hb1.size)
  have hPP := Lib.hid (hP1.out.alloc (.cells #[.int .i64 0, .int .i64 0] 29))
  have hR1 := Pair.new (w.alloc (.cells #[.slice aP nP cP, .slice aW nW cW] 26)) (.int .i64 0) (.int .i64 0) 29
  rw [show (w.alloc (.cells #[.slice aP nP cP, .slice aW nW cW] 26)).heap.size = w.heap.size + 1 by simp] at hR1
  have HR1 := Lib.hid hR1
  have c0 := hPP.out.c0
  have c1 := hPP.out.c1
  clear hb1 hP1 hlt2 hR1
  go_wp2_with fail
  generalize ((w.alloc (.cells #[.slice aP nP cP, .slice aW nW cW] 26)).alloc (.cells #[.int .i64 0, .int .i64 0] 29)) = w2 at *
  have hlt2 := hPP.out.lt
  refine (spec_l4Pays _ _ _ _ _ _ ps ws _ _ _ l _ (H.out.below hbb) (HL.out.below hbb) hn).mono ?_
  rintro e w3 ⟨rfl, hb3⟩
  have hP3 := hPP.out.below hb3
  have d0 := hP3.c0
  have d1 := hP3.c1
  have HP := Lib.hid hP3
  have HR := Lib.hid (HR1.out.below hb3)
  have hb13 := hbb.trans (hb3.mono hbb.size)
  clear hP3 hb3 c0 c1 HR1 hPP hbb
  cases hT : paysB ps ws l
  · have Hno := Lib.hid hT
    clear hT
    have p3 := HR.out
    have q3 := p3.c0
    have q4 := p3.c1
    have q5 := p3.f0
    have q6 := p3.f1
    have hr := p3.set (.int .i64 0) (.int .i64 0)
    clear p3
    go_wp2_with fail
    exact bodyPost_ret (v := .tuple #[.agg #[.int .i64 0, .int .i64 0], .bool false]) (by simp [results, Tryz.results48, go_sem, hr.1, hr.2]) rfl ⟨by obtain ⟨z1, z2⟩ := go_no (x := x) (goB_no1 (x := x) Hno.out); rw [z1, z2, goB_no1 Hno.out], (hb13.setCell (by simp) _).setCell (by simp) _⟩
  have Hpays := Lib.hid hT
  have hpt := paysB_t hT
  have hTr := hpt.1
  have hn24 := hTr.n24
  have hn1 := hTr.n1
  have hnL : nP = nL := by have := hll.out; have := hpt.2.2.2.1; have := Hl.out; omega
  have hnW : nP = nW := by have := Hlw.out; have := hTr.wl; have := Hl.out; omega
  have hnP : 1 ≤ nP ∧ nP ≤ 24 := by have := Hl.out; omega
  have Hpp := Lib.hid hpt.2.2.2.2
  have HTr := Lib.hid hTr
  have HnW := Lib.hid hnW
  have hnW2 : nP ≤ nW := by omega
  clear hT hpt hn24 hn1 hTr hpn hwn hnW
  subst hnL
  go_wp2_with fail
  refine (spec_l2Node _ _ _ _ _ _ ps ws x _ (H.out.below hb13)).mono ?_
  rintro e w5 ⟨rfl, b5⟩
  have hb15 := hb13.trans (b5.mono hb13.size)
  have HP5 := Lib.hid (HP.out.below b5)
  have HR5 := Lib.hid (HR.out.below b5)
  clear HP HR d0 d1 b5
  have HR := HR5
  clear HR5
  have htb := (paysB_t Hpays.out).2.1
  rw [htb, Bool.true_and]
  clear htb
  cases hx : inB x 0 ((ps.length : Int) - 1)
  · have Hno := Lib.hid hx
    clear hx
    have p3 := HR.out
    have q3 := p3.c0
    have q4 := p3.c1
    have q5 := p3.f0
    have q6 := p3.f1
    have hr := p3.set (.int .i64 0) (.int .i64 0)
    clear p3
    go_wp2_with fail
    exact bodyPost_ret (v := .tuple #[.agg #[.int .i64 0, .int .i64 0], .bool false]) (by simp [results, Tryz.results48, go_sem, hr.1, hr.2]) rfl ⟨by obtain ⟨z1, z2⟩ := go_no (goB_no2 Hno.out); rw [z1, z2, goB_no2 Hno.out], (hb15.setCell (by simp) _).setCell (by simp) _⟩
  have Hx := Lib.hid hx
  have hxb := inB_t hx
  obtain ⟨X, rfl⟩ : ∃ X : Nat, x = X := ⟨x.toNat, by omega⟩
  have hXn : X < nP := by have := Hl.out; omega
  clear hx hxb
  have d0 := HP5.out.c0
  have d1 := HP5.out.c1
  obtain ⟨bW, oW, rfl, hbW, hcW⟩ := H.out.w.at2 (i := X) hb15 (by omega)
  have hwp := w_pos HTr.out (x := X) (by have := Hl.out; omega)
  cases hE : endB ps X
  rotate_left
  · have hup := hwp.1 hE
    have Hno := Lib.hid (goB_no3 (ps := ps) (ws := ws) (l := l) (x := (X : Int)) hE)
    generalize nth ws X = u at *
    clear hwp hE
    have p3 := HR.out
    have q3 := p3.c0
    have q4 := p3.c1
    have q5 := p3.f0
    have q6 := p3.f1
    have hr := p3.set (.int .i64 0) (.int .i64 0)
    clear p3
    go_wp2_with fail
    exact bodyPost_ret (v := .tuple #[.agg #[.int .i64 0, .int .i64 0], .bool false]) (by simp [results, Tryz.results48, go_sem, hr.1, hr.2]) rfl ⟨by obtain ⟨z1, z2⟩ := go_no (id Hno.out); rw [z1, z2, id Hno.out], (hb15.setCell (by simp) _).setCell (by simp) _⟩
  have hup := hwp.2 hE
  have HE := Lib.hid hE
  generalize nth ws X = u at *
  clear hE hwp
  have hv : goS ps ws l (X : Int) = kidSum ps (fun y => nth (capW ps ws l) y) X ps.length := rfl
  have hbd := goS_bd HTr.out Hpp.out (X : Int)
  have hsb := sums_bd HTr.out X
  have hsp := sums_pos HTr.out X (by have := Hl.out; omega)
  have hgb := goB_yes (x := (X : Int)) Hpays.out Hx.out HE.out
  obtain ⟨z1, z2⟩ := go_yes hgb
  rw [Int.toNat_natCast] at z1 z2
  have Hcut : Hid (∀ W : World, Calls Tryz.prog 76 #[.int .i64 (goS ps ws l X), .int .i64 (nth (sums ps ws) X)] W fun e w' => e = .returned (.agg #[.int .i64 (goN ps ws l X), .int .i64 (goD ps ws l X)]) ∧ Below W.heap.size W w') := Lib.hid fun W => by
    rw [z1, z2]
    exact spec_l2Cut _ _ W (by omega) (by omega)
  have Hcl : Hid ((capW ps ws l).length = nP) := Lib.hid (by rw [capW_length]; exact Hl.out)
  have Hkid : Hid (∀ (W : World) (a : Option Addr) (c : Nat), Below w.heap.size w W → Ints W a nP (capW ps ws l) → Calls Tryz.prog 106 #[.agg #[.slice aP nP cP, .slice (some ⟨bW, oW, none⟩) nW cW], .slice a nP c, .int .i64 (X : Int)] W fun e w' => e = .returned (.int .i64 (goS ps ws l X)) ∧ Below W.heap.size W w') := Lib.hid fun W a c hW hI => by
    have := spec_l4Kids _ _ _ _ _ _ ps ws a nP c (capW ps ws l) X 1000000000 W (H.out.below hW) HTr.out.toPa hI (Nat.le_refl _) (by omega) (fun i => by have := worth_abs HTr.out Hpp.out 24 i; unfold capW; omega) (by omega)
    rw [Int.toNat_natCast] at this
    exact this
  have Hgb := Lib.hid hgb
  clear hv hbd hsb hsp hgb z1 z2
  generalize hgn : goN ps ws l X = gn at *
  generalize hgd : goD ps ws l X = gd at *
  have Hgn := Lib.hid hgn
  have Hgd := Lib.hid hgd
  clear hgn hgd
  generalize goS ps ws l X = gs at *
  have Hsl : Hid ((sums ps ws).length = nP) := Lib.hid (by rw [sums_length HTr.out]; exact Hl.out)
  have hw5 : w.heap.size + 1 < w5.heap.size := HR.out.lt
  go_wp2_with fail
  refine wp_region_noPanic ?_
  refine wp_region_held_drew (S := (fun W' => Below w.heap.size w W' ∧ W'.cell? ⟨w.heap.size, 0, none⟩ = some (.slice aP nP cP) ∧ W'.cell? ⟨w.heap.size, 1, none⟩ = some (.slice (some ⟨bW, oW, none⟩) nW cW))) (by kernel_rfl) ?_ (fun hHeld0 => ?_)
  · (try dsimp only); first | assumption | exact bk2_start hb15 d0 d1 | exact bk2_set (by simp) (by simp) (by simp) (bk2_set (by simp) (by simp) (by simp) (by assumption))
  refine takeH (i := 0) (oi := _) (v := ?_) rfl (by kernel_rfl) (by kernel_rfl) (by kernel_rfl) (fun _ _ _ h => h) (Or.inl ⟨by rfl, ?_⟩) (by assumption) ?_
  rotate_left
  · first | (intro w hSw; (try dsimp only at hSw); go_simp; done) | (intro w hSw; (try dsimp only at hSw); go_simp; with_reducible rfl)
  (try simp only [Act.put, List.setIfInBounds_toArray, List.set_cons_zero, List.set_cons_succ])
  refine takeH (i := 1) (oi := _) (v := ?_) rfl (by kernel_rfl) (by kernel_rfl) (by kernel_rfl) (fun _ _ _ h => h) (Or.inl ⟨by rfl, ?_⟩) (by assumption) ?_
  rotate_left
  · first | (intro w hSw; (try dsimp only at hSw); go_simp; done) | (intro w hSw; (try dsimp only at hSw); go_simp; with_reducible rfl)
  (try simp only [Act.put, List.setIfInBounds_toArray, List.set_cons_zero, List.set_cons_succ])
  refine takeH (i := 2) (oi := _) (v := ?_) rfl (by kernel_rfl) (by kernel_rfl) (by kernel_rfl) (fun _ _ _ h => h) (Or.inl ⟨by rfl, ?_⟩) (by assumption) ?_
  rotate_left
  · first | (intro w hSw; (try dsimp only at hSw); go_simp; done) | (intro w hSw; (try dsimp only at hSw); go_simp; with_reducible rfl)
  (try simp only [Act.put, List.setIfInBounds_toArray, List.set_cons_zero, List.set_cons_succ])
  refine takeH (i := 4) (oi := _) (v := ?_) rfl (by kernel_rfl) (by kernel_rfl) (by kernel_rfl) (fun _ _ _ h => h) (Or.inl ⟨by rfl, ?_⟩) (by assumption) ?_
  rotate_left
  · first | (intro w hSw; (try dsimp only at hSw); go_simp; done) | (intro w hSw; (try dsimp only at hSw); go_simp; with_reducible rfl)
  (try simp only [Act.put, List.setIfInBounds_toArray, List.set_cons_zero, List.set_cons_succ])
  refine takeH (i := 6) (oi := _) (v := ?_) rfl (by kernel_rfl) (by kernel_rfl) (by kernel_rfl) (fun _ _ _ h => h) (Or.inl ⟨by rfl, ?_⟩) (by assumption) ?_
  rotate_left
  · first | (intro w hSw; (try dsimp only at hSw); go_simp; done) | (intro w hSw; (try dsimp only at hSw); go_simp; with_reducible rfl)
  (try simp only [Act.put, List.setIfInBounds_toArray, List.set_cons_zero, List.set_cons_succ])
  refine takeH (i := 8) (oi := _) (v := ?_) rfl (by kernel_rfl) (by kernel_rfl) (by kernel_rfl) (fun _ _ _ h => h) (Or.inl ⟨by rfl, ?_⟩) (by assumption) ?_
  rotate_left
  · first | (intro w hSw; (try dsimp only at hSw); go_simp; done) | (intro w hSw; (try dsimp only at hSw); go_simp; with_reducible rfl)
  (try simp only [Act.put, List.setIfInBounds_toArray, List.set_cons_zero, List.set_cons_succ])
  refine wpAnyH_ready (rs := [3]) (by kernel_rfl) (by simp) ?_
  refine consH rfl (fun Kq hKq => ?_)
  go_simp
  (first
      | (go_at_call 100; refine (spec_l4Caps _ _ _ _ _ _ ps ws _ _ _ l _ (H.out.below (by assumption : Below w.heap.size w _ ∧ _).1) HTr.out (HL.out.below (by assumption : Below w.heap.size w _ ∧ _).1) rfl Hpp.out).mono ?_; rintro e w6 ⟨v6, rfl, o6, b6⟩
         have hk6 := bk2_next b6 (by assumption : Below w.heap.size w _ ∧ _ ∧ _)
         have hR6 := pair_up b6 HR.out.c0 HR.out.c1 HR.out.f0 HR.out.f1
         obtain ⟨a6, c6, rfl⟩ := o6.shape
         rw [Hcl.out] at o6 ⊢)
      | (go_at_call 106; refine (Hkid.out _ _ _ (by assumption : Below w.heap.size w _ ∧ _).1 o6.ints).mono ?_; rintro e w7 ⟨rfl, b7⟩
         have hk7 := bk2_next b7 (by assumption : Below w.heap.size w _ ∧ _ ∧ _)
         have hR7 := pair_up b7 hR6.c0 hR6.c1 hR6.f0 hR6.f1)
      | (go_at_call 75; refine (spec_l2Sums _ _ _ _ _ _ ps ws _ (H.out.below (by assumption : Below w.heap.size w _ ∧ _).1) HTr.out).mono ?_; rintro e w8 ⟨v8, rfl, o8, b8⟩
         have hk8 := bk2_next b8 (by assumption : Below w.heap.size w _ ∧ _ ∧ _)
         have hR8 := pair_up b8 hR7.c0 hR7.c1 hR7.f0 hR7.f1
         obtain ⟨a8, c8, rfl⟩ := o8.shape
         rw [Hsl.out] at o8 ⊢
         obtain ⟨b8', o8', rfl, hc8⟩ := o8.ints.at (i := X) (Below.refl _ _) hXn)
      | (go_at_call 76; refine (Hcut.out _).mono ?_; rintro e w9 ⟨rfl, b9⟩
         have hk9 := bk2_next b9 (by assumption : Below w.heap.size w _ ∧ _ ∧ _)
         have hb9 : Below w.heap.size w w9 := hk9.1
         have hR9 := pair_up b9 hR8.c0 hR8.c1 hR8.f0 hR8.f1
         have q3 := hR9.c0
         have q4 := hR9.c1
         have q5 := hR9.f0
         have q6 := hR9.f1
         have hr := hR9.set (.int .i64 gn) (.int .i64 gd)))
  refine hKq.out _ _ ?_ (fun hHeld1 => ?_)
  · (try dsimp only); first | assumption | exact bk2_start hb15 d0 d1 | exact bk2_set (by simp) (by simp) (by simp) (bk2_set (by simp) (by simp) (by simp) (by assumption))
  clear hKq Kq
  (try simp only [Act.put, List.setIfInBounds_toArray, List.set_cons_zero, List.set_cons_succ])
  clear hHeld0
  refine wpAnyH_ready (rs := [5]) (by kernel_rfl) (by simp) ?_
  refine consH rfl (fun Kq hKq => ?_)
  go_simp
  (first
      | (go_at_call 100; refine (spec_l4Caps _ _ _ _ _ _ ps ws _ _ _ l _ (H.out.below (by assumption : Below w.heap.size w _ ∧ _).1) HTr.out (HL.out.below (by assumption : Below w.heap.size w _ ∧ _).1) rfl Hpp.out).mono ?_; rintro e w6 ⟨v6, rfl, o6, b6⟩
         have hk6 := bk2_next b6 (by assumption : Below w.heap.size w _ ∧ _ ∧ _)
         have hR6 := pair_up b6 HR.out.c0 HR.out.c1 HR.out.f0 HR.out.f1
         obtain ⟨a6, c6, rfl⟩ := o6.shape
         rw [Hcl.out] at o6 ⊢)
      | (go_at_call 106; refine (Hkid.out _ _ _ (by assumption : Below w.heap.size w _ ∧ _).1 o6.ints).mono ?_; rintro e w7 ⟨rfl, b7⟩
         have hk7 := bk2_next b7 (by assumption : Below w.heap.size w _ ∧ _ ∧ _)
         have hR7 := pair_up b7 hR6.c0 hR6.c1 hR6.f0 hR6.f1)
      | (go_at_call 75; refine (spec_l2Sums _ _ _ _ _ _ ps ws _ (H.out.below (by assumption : Below w.heap.size w _ ∧ _).1) HTr.out).mono ?_; rintro e w8 ⟨v8, rfl, o8, b8⟩
         have hk8 := bk2_next b8 (by assumption : Below w.heap.size w _ ∧ _ ∧ _)
         have hR8 := pair_up b8 hR7.c0 hR7.c1 hR7.f0 hR7.f1
         obtain ⟨a8, c8, rfl⟩ := o8.shape
         rw [Hsl.out] at o8 ⊢
         obtain ⟨b8', o8', rfl, hc8⟩ := o8.ints.at (i := X) (Below.refl _ _) hXn)
      | (go_at_call 76; refine (Hcut.out _).mono ?_; rintro e w9 ⟨rfl, b9⟩
         have hk9 := bk2_next b9 (by assumption : Below w.heap.size w _ ∧ _ ∧ _)
         have hb9 : Below w.heap.size w w9 := hk9.1
         have hR9 := pair_up b9 hR8.c0 hR8.c1 hR8.f0 hR8.f1
         have q3 := hR9.c0
         have q4 := hR9.c1
         have q5 := hR9.f0
         have q6 := hR9.f1
         have hr := hR9.set (.int .i64 gn) (.int .i64 gd)))
  refine hKq.out _ _ ?_ (fun hHeld2 => ?_)
  · (try dsimp only); first | assumption | exact bk2_start hb15 d0 d1 | exact bk2_set (by simp) (by simp) (by simp) (bk2_set (by simp) (by simp) (by simp) (by assumption))
  clear hKq Kq
  (try simp only [Act.put, List.setIfInBounds_toArray, List.set_cons_zero, List.set_cons_succ])
  clear hHeld1
  refine wpAnyH_ready (rs := [7]) (by kernel_rfl) (by simp) ?_
  refine consH rfl (fun Kq hKq => ?_)
  go_simp
  (first
      | (go_at_call 100; refine (spec_l4Caps _ _ _ _ _ _ ps ws _ _ _ l _ (H.out.below (by assumption : Below w.heap.size w _ ∧ _).1) HTr.out (HL.out.below (by assumption : Below w.heap.size w _ ∧ _).1) rfl Hpp.out).mono ?_; rintro e w6 ⟨v6, rfl, o6, b6⟩
         have hk6 := bk2_next b6 (by assumption : Below w.heap.size w _ ∧ _ ∧ _)
         have hR6 := pair_up b6 HR.out.c0 HR.out.c1 HR.out.f0 HR.out.f1
         obtain ⟨a6, c6, rfl⟩ := o6.shape
         rw [Hcl.out] at o6 ⊢)
      | (go_at_call 106; refine (Hkid.out _ _ _ (by assumption : Below w.heap.size w _ ∧ _).1 o6.ints).mono ?_; rintro e w7 ⟨rfl, b7⟩
         have hk7 := bk2_next b7 (by assumption : Below w.heap.size w _ ∧ _ ∧ _)
         have hR7 := pair_up b7 hR6.c0 hR6.c1 hR6.f0 hR6.f1)
      | (go_at_call 75; refine (spec_l2Sums _ _ _ _ _ _ ps ws _ (H.out.below (by assumption : Below w.heap.size w _ ∧ _).1) HTr.out).mono ?_; rintro e w8 ⟨v8, rfl, o8, b8⟩
         have hk8 := bk2_next b8 (by assumption : Below w.heap.size w _ ∧ _ ∧ _)
         have hR8 := pair_up b8 hR7.c0 hR7.c1 hR7.f0 hR7.f1
         obtain ⟨a8, c8, rfl⟩ := o8.shape
         rw [Hsl.out] at o8 ⊢
         obtain ⟨b8', o8', rfl, hc8⟩ := o8.ints.at (i := X) (Below.refl _ _) hXn)
      | (go_at_call 76; refine (Hcut.out _).mono ?_; rintro e w9 ⟨rfl, b9⟩
         have hk9 := bk2_next b9 (by assumption : Below w.heap.size w _ ∧ _ ∧ _)
         have hb9 : Below w.heap.size w w9 := hk9.1
         have hR9 := pair_up b9 hR8.c0 hR8.c1 hR8.f0 hR8.f1
         have q3 := hR9.c0
         have q4 := hR9.c1
         have q5 := hR9.f0
         have q6 := hR9.f1
         have hr := hR9.set (.int .i64 gn) (.int .i64 gd)))
  refine hKq.out _ _ ?_ (fun hHeld3 => ?_)
  · (try dsimp only); first | assumption | exact bk2_start hb15 d0 d1 | exact bk2_set (by simp) (by simp) (by simp) (bk2_set (by simp) (by simp) (by simp) (by assumption))
  clear hKq Kq
  (try simp only [Act.put, List.setIfInBounds_toArray, List.set_cons_zero, List.set_cons_succ])
  clear hHeld2
  refine takeH (i := 9) (oi := _) (v := ?_) rfl (by kernel_rfl) (by kernel_rfl) (by kernel_rfl) (fun _ _ _ h => h) (Or.inl ⟨by rfl, ?_⟩) (by assumption) ?_
  rotate_left
  · first | (intro w hSw; (try dsimp only at hSw); go_simp; done) | (intro w hSw; (try dsimp only at hSw); go_simp; with_reducible rfl)
  (try simp only [Act.put, List.setIfInBounds_toArray, List.set_cons_zero, List.set_cons_succ])
  refine wpAnyH_ready (rs := [10]) (by kernel_rfl) (by simp) ?_
  refine consH rfl (fun Kq hKq => ?_)
  go_simp
  refine hKq.out _ _ ?_ (fun hHeld4 => ?_)
  · (try dsimp only); first | assumption | exact bk2_start hb15 d0 d1 | exact bk2_set (by simp) (by simp) (by simp) (bk2_set (by simp) (by simp) (by simp) (by assumption))
  clear hKq Kq
  (try simp only [Act.put, List.setIfInBounds_toArray, List.set_cons_zero, List.set_cons_succ])
  clear hHeld3
  refine wpAnyH_ready (rs := [11]) (by kernel_rfl) (by simp) ?_
  refine consH rfl (fun Kq hKq => ?_)
  go_simp
  (first
      | (go_at_call 100; refine (spec_l4Caps _ _ _ _ _ _ ps ws _ _ _ l _ (H.out.below (by assumption : Below w.heap.size w _ ∧ _).1) HTr.out (HL.out.below (by assumption : Below w.heap.size w _ ∧ _).1) rfl Hpp.out).mono ?_; rintro e w6 ⟨v6, rfl, o6, b6⟩
         have hk6 := bk2_next b6 (by assumption : Below w.heap.size w _ ∧ _ ∧ _)
         have hR6 := pair_up b6 HR.out.c0 HR.out.c1 HR.out.f0 HR.out.f1
         obtain ⟨a6, c6, rfl⟩ := o6.shape
         rw [Hcl.out] at o6 ⊢)
      | (go_at_call 106; refine (Hkid.out _ _ _ (by assumption : Below w.heap.size w _ ∧ _).1 o6.ints).mono ?_; rintro e w7 ⟨rfl, b7⟩
         have hk7 := bk2_next b7 (by assumption : Below w.heap.size w _ ∧ _ ∧ _)
         have hR7 := pair_up b7 hR6.c0 hR6.c1 hR6.f0 hR6.f1)
      | (go_at_call 75; refine (spec_l2Sums _ _ _ _ _ _ ps ws _ (H.out.below (by assumption : Below w.heap.size w _ ∧ _).1) HTr.out).mono ?_; rintro e w8 ⟨v8, rfl, o8, b8⟩
         have hk8 := bk2_next b8 (by assumption : Below w.heap.size w _ ∧ _ ∧ _)
         have hR8 := pair_up b8 hR7.c0 hR7.c1 hR7.f0 hR7.f1
         obtain ⟨a8, c8, rfl⟩ := o8.shape
         rw [Hsl.out] at o8 ⊢
         obtain ⟨b8', o8', rfl, hc8⟩ := o8.ints.at (i := X) (Below.refl _ _) hXn)
      | (go_at_call 76; refine (Hcut.out _).mono ?_; rintro e w9 ⟨rfl, b9⟩
         have hk9 := bk2_next b9 (by assumption : Below w.heap.size w _ ∧ _ ∧ _)
         have hb9 : Below w.heap.size w w9 := hk9.1
         have hR9 := pair_up b9 hR8.c0 hR8.c1 hR8.f0 hR8.f1
         have q3 := hR9.c0
         have q4 := hR9.c1
         have q5 := hR9.f0
         have q6 := hR9.f1
         have hr := hR9.set (.int .i64 gn) (.int .i64 gd)))
  refine hKq.out _ _ ?_ (fun hHeld5 => ?_)
  · (try dsimp only); first | assumption | exact bk2_start hb15 d0 d1 | exact bk2_set (by simp) (by simp) (by simp) (bk2_set (by simp) (by simp) (by simp) (by assumption))
  clear hKq Kq
  (try simp only [Act.put, List.setIfInBounds_toArray, List.set_cons_zero, List.set_cons_succ])
  clear hHeld4
  refine wpAnyH_ready (rs := [12]) (by kernel_rfl) (by simp) ?_
  refine consH rfl (fun Kq hKq => ?_)
  go_simp
  refine hKq.out _ _ ?_ (fun hHeld6 => ?_)
  · (try dsimp only); first | assumption | exact bk2_start hb15 d0 d1 | exact bk2_set (by simp) (by simp) (by simp) (bk2_set (by simp) (by simp) (by simp) (by assumption))
  clear hKq Kq
  (try simp only [Act.put, List.setIfInBounds_toArray, List.set_cons_zero, List.set_cons_succ])
  clear hHeld5
  refine takeH (i := 13) (oi := _) (v := ?_) rfl (by kernel_rfl) (by kernel_rfl) (by kernel_rfl) (fun _ _ _ h => h) (Or.inl ⟨by rfl, ?_⟩) (by assumption) ?_
  rotate_left
  · first | (intro w hSw; (try dsimp only at hSw); go_simp; done) | (intro w hSw; (try dsimp only at hSw); go_simp; with_reducible rfl)
  (try simp only [Act.put, List.setIfInBounds_toArray, List.set_cons_zero, List.set_cons_succ])
  refine wpAnyH_done (by kernel_rfl) ?_ _
  refine NoPanic.normal ?_
  go_wp2_with fail
  exact bodyPost_ret (v := .tuple #[.agg #[.int .i64 gn, .int .i64 gd], .bool true]) (by simp [results, Tryz.results48, go_sem, hr.1, hr.2]) rfl ⟨by rw [Hgb.out, Hgn.out, Hgd.out], (hb9.setCell (by simp) _).setCell (by simp) _⟩
end Go.Proofs.YtnbomleieianoaaGreat
