/- Contract: the envelope of each node, by the reference. -/
import Derived.Test.YtjkkfjipgomkdaaEnv
import Derived.Test.YtjkkfjipgomkdaaFrac
namespace Go.Proofs.Ytjkkfjipgomkdaa
open Go.RowKit

namespace Fr
/-- The same behind a call of the region. -/
theorem step_push3 {ops : Array Oper} {o : Oper} {a : Act} {K : Act → World → Prop} {Q : Exit → Act → World → Prop} {E : Prop} {w : World} {x1 x2 : Int} (hgd : o.guard = none) (s x : Operand)
    (ho : o.op = .call { callee := .builtin .append, args := #[s, x], argTypes := #[38, 38] })
    (base : Nat) (v : Value) (xs : List (Int × Int)) (hs : a.eval s = v) (hown : Own w base v xs) (hx : a.eval x = .slice (some ⟨w.heap.size, 0, none⟩) 1 1)
    (hl : xs.length ≤ 1048576) (hb : base ≤ w.heap.size)
    (h : ∀ v' w', Own w' base v' (xs ++ [(x1, x2)]) → Below base w w' → Moved w v w' v' → K (a.put o.dst v') w') :
    if Region.wanted o (yielded ops a.tmps) = true then Oper.wp Try.prog o a (w.alloc (.cells #[.int .i64 x1, .int .i64 x2] 34)) K Q else E := by
  obtain ⟨i0, hi0, hz0, hz1, hz2⟩ := info_parts
  refine step_append_lies _ hgd s x 38 ho base 34 i0 (.agg #[.int .i64 0, .int .i64 0]) 2 16 Try.underlying38 hi0 hz0 hz1 hz2 rfl (by decide) v xs.length (fs xs) hs
    (hown.below ((Below.refl _ _).alloc (Nat.le_refl _) _)) ⟨w.heap.size, 0, none⟩ 1 1 [.int .i64 x1, .int .i64 x2] hx rfl
    (World.news_of_block (cs := #[.int .i64 x1, .int .i64 x2]) (t := 34) (fr := (0, 0)) (heap_alloc_new w _)) (by simp [Value.oneCell']) (by decide) (by simp only [maxLen]; omega) (by omega) (by simp; omega) (w.heap.size + 1) (by simp) ?_
  intro g cap w' h1 h2 h3 _
  have hdb : Below w.heap.size w (w.alloc (.cells #[.int .i64 x1, .int .i64 x2] 34)) := ((Below.refl _ _).alloc (Nat.le_refl _) _)
  refine h _ w' ?_ ?_ ⟨Nat.le_trans hdb.size h2.size, fun b hb' hne => ⟨fun e => ?_, ?_⟩⟩
  · unfold Own
    rw [← fs_append, List.length_append]; exact h1
  · exact (((Below.refl base w).alloc hb _)).grown h2 (by simp; omega) fun k hk => (World.ownsRow.lt hown k hk).1
  · simp [Value.ownBlock] at e
    rcases h3 with h3 | h3
    · rw [h3, e] at hne; exact hne rfl
    · omega
  · have := h2.block b (Nat.lt_of_lt_of_le hb' hdb.size) (fun e => hne e.symm)
    rw [this]; exact hdb.block b hb'
end Fr
set_option maxRecDepth 100000 in
set_option maxHeartbeats 2000000 in
theorem spec_EnvelopeOf (aP : Option Addr) (nP cP : Nat) (aW : Option Addr) (nW cW : Nat) (ps ws : List Int) (aL : Option Addr) (nL cL : Nat) (l : List Int) (w : World) (h : Tre w aP nP cP aW nW cW ps ws) (hL : Ints w aL nL l) (_hLc : aL = none → cL = 0) (hn : nL ≤ 1048576) :
    Calls Try.prog 25 #[.agg #[.slice aP nP cP, .slice aW nW cW], .slice aL nL cL] w fun e w' => ∃ v, e = .returned (.tuple #[v, .bool (paysB ps ws l)]) ∧ Fr.Own w' w.heap.size v (envV ps ws l) ∧ Below w.heap.size w w' := by
  have hl := h.p.1
  have hlw := h.w.1
  have hpn := h.pn
  have hwn := h.wn
  have hb1 := below_new w (.cells #[.slice aP nP cP, .slice aW nW cW] 28)
  have hP1 := Lib.hid (Pair.new w (.slice aP nP cP) (.slice aW nW cW) 28)
  have H := Lib.hid h
  have Hl := Lib.hid hl
  have Hlw := Lib.hid hlw
  clear h hl hlw
  have HL := Lib.hid hL
  have hll := Lib.hid hL.1
  clear hL
  go_enter Try.func25, Try.ntmps25
  have hnil := Fr.own_nil0 (w.alloc (.cells #[.slice aP nP cP, .slice aW nW cW] 28))
  rw [show (w.alloc (.cells #[.slice aP nP cP, .slice aW nW cW] 28)).heap.size = w.heap.size + 1 by simp] at hnil
  have hb2 : Below w.heap.size w ((w.alloc (.cells #[.slice aP nP cP, .slice aW nW cW] 28)).alloc (.cells #[] 34)) := hb1.alloc (by simp) _
  have hP2 := Lib.hid (hP1.out.alloc (.cells #[] 34))
  have hs2 : ((w.alloc (.cells #[.slice aP nP cP, .slice aW nW cW] 28)).alloc (.cells #[] 34)).heap.size = w.heap.size + 2 := by simp
  have c0 := hP2.out.c0
  have c1 := hP2.out.c1
  clear hP1 hb1
  go_wp2_with fail
  generalize ((w.alloc (.cells #[.slice aP nP cP, .slice aW nW cW] 28)).alloc (.cells #[] 34)) = w2 at *
  refine (spec_l4Pays _ _ _ _ _ _ ps ws _ _ _ l _ (H.out.below hb2) (HL.out.below hb2) hn).mono ?_
  rintro e w4 ⟨rfl, hb4⟩
  have HP4 := Lib.hid (hP2.out.below hb4)
  have HO4 := Lib.hid (hnil.below hb4)
  have e0 := HP4.out.c0
  have e1 := HP4.out.c1
  have hb14 := hb2.trans (hb4.mono hb2.size)
  have hs4 : w.heap.size + 2 ≤ w4.heap.size := by have := hb4.size; omega
  clear c0 c1 hb4 hP2 hb2 hs2 hnil
  cases hT : paysB ps ws l
  · have Hv := Lib.hid hT
    clear hT
    go_wp2_with fail
    go_ret2
    exact ⟨_, by rw [Hv.out]; rfl, by rw [envV_no Hv.out]; exact HO4.out.mono (Nat.le_succ _), hb14⟩
  have Hpays := Lib.hid hT
  obtain ⟨hTr, _, _, hleq, hlb⟩ := paysB_t hT
  have hnL : nP = nL := by have := hll.out; have := Hl.out; omega
  have HTT := Lib.hid hTr
  have Hlb := Lib.hid hlb
  have hn24 := hTr.n24
  have hnP : 1 ≤ nP ∧ nP ≤ 24 := by have := hTr.n1; have := Hl.out; omega
  have Hval := Lib.hid (envV_yes Hpays.out)
  clear hT hTr hleq hlb hn24 hn hpn hwn
  subst hnL
  have Hsl : Hid ((sums ps ws).length = nP) := Lib.hid (by rw [sums_length HTT.out]; exact Hl.out)
  have Hcl : Hid ((capW ps ws l).length = nP) := Lib.hid (by rw [capW_length]; exact Hl.out)
  have Hca := Lib.hid (worth_abs HTT.out Hlb.out 24)
  go_upto_region 3 with fail
  refine wp_region_noPanic ?_
  refine wp_region_held_drew (S := fun W' => KeepR w4 W' ∧ W'.cell? ⟨w.heap.size, 0, none⟩ = some (.slice aP nP cP) ∧ W'.cell? ⟨w.heap.size, 1, none⟩ = some (.slice aW nW cW)) (by kernel_rfl) ?_ (fun hHeld0 => ?_)
  · (try dsimp only); first | exact keep2 (by assumption) HP4.out | exact keep2 (KeepR.start _) HP4.out
  refine takeH (i := 0) (oi := _) (v := ?_) rfl (by kernel_rfl) (by kernel_rfl) (by kernel_rfl) (fun _ _ _ h => h) (Or.inl ⟨by rfl, ?_⟩) (by assumption) ?_
  rotate_left
  · first | (intro w hSw; (try dsimp only at hSw); go_simp; done) | (intro w hSw; (try dsimp only at hSw); go_simp; with_reducible rfl)
  (try simp only [Act.put, List.setIfInBounds_toArray, List.set_cons_zero, List.set_cons_succ])
  refine takeH (i := 1) (oi := _) (v := ?_) rfl (by kernel_rfl) (by kernel_rfl) (by kernel_rfl) (fun _ _ _ h => h) (Or.inl ⟨by rfl, ?_⟩) (by assumption) ?_
  rotate_left
  · first | (intro w hSw; (try dsimp only at hSw); go_simp; done) | (intro w hSw; (try dsimp only at hSw); go_simp; with_reducible rfl)
  (try simp only [Act.put, List.setIfInBounds_toArray, List.set_cons_zero, List.set_cons_succ])
  refine takeH (i := 3) (oi := _) (v := ?_) rfl (by kernel_rfl) (by kernel_rfl) (by kernel_rfl) (fun _ _ _ h => h) (Or.inl ⟨by rfl, ?_⟩) (by assumption) ?_
  rotate_left
  · first | (intro w hSw; (try dsimp only at hSw); go_simp; done) | (intro w hSw; (try dsimp only at hSw); go_simp; with_reducible rfl)
  (try simp only [Act.put, List.setIfInBounds_toArray, List.set_cons_zero, List.set_cons_succ])
  refine wpAnyH_ready (rs := [2]) (by kernel_rfl) (by simp) ?_
  refine consH rfl (fun Kq hKq => ?_)
  go_simp
  (go_at_call 60; refine (spec_l4Caps _ _ _ _ _ _ ps ws _ _ _ l _ (H.out.below (hb14.trans (Below.mono (by assumption : KeepR w4 _ ∧ _).1 hb14.size))) HTT.out (HL.out.below (hb14.trans (Below.mono (by assumption : KeepR w4 _ ∧ _).1 hb14.size))) rfl Hlb.out).mono ?_; rintro e w5 ⟨v5, rfl, o5, b5⟩; have hk5 := KeepR.next b5 (by assumption : KeepR w4 _ ∧ _).1)
  refine hKq.out _ _ ?_ (fun hHeld1 => ?_)
  · (try dsimp only); first | exact keep2 (by assumption) HP4.out | exact keep2 (KeepR.start _) HP4.out
  clear hKq Kq
  (try simp only [Act.put, List.setIfInBounds_toArray, List.set_cons_zero, List.set_cons_succ])
  clear hHeld0
  refine wpAnyH_ready (rs := [4]) (by kernel_rfl) (by simp) ?_
  refine consH rfl (fun Kq hKq => ?_)
  go_simp
  (go_at_call 61; refine (spec_l2Sums _ _ _ _ _ _ ps ws _ (H.out.below (hb14.trans (Below.mono (by assumption : KeepR w4 _ ∧ _).1 hb14.size))) HTT.out).mono ?_; rintro e w6 ⟨v6, rfl, o6, b6⟩; have hk6 := KeepR.next b6 (by assumption : KeepR w4 _ ∧ _).1)
  refine hKq.out _ _ ?_ (fun hHeld2 => ?_)
  · (try dsimp only); first | exact keep2 (by assumption) HP4.out | exact keep2 (KeepR.start _) HP4.out
  clear hKq Kq
  (try simp only [Act.put, List.setIfInBounds_toArray, List.set_cons_zero, List.set_cons_succ])
  clear hHeld1
  refine takeH (i := 5) (oi := _) (v := ?_) rfl (by kernel_rfl) (by kernel_rfl) (by kernel_rfl) (fun _ _ _ h => h) (Or.inl ⟨by rfl, ?_⟩) (by assumption) ?_
  rotate_left
  · first | (intro w hSw; (try dsimp only at hSw); go_simp; done) | (intro w hSw; (try dsimp only at hSw); go_simp; with_reducible rfl)
  (try simp only [Act.put, List.setIfInBounds_toArray, List.set_cons_zero, List.set_cons_succ])
  refine takeH (i := 6) (oi := _) (v := ?_) rfl (by kernel_rfl) (by kernel_rfl) (by kernel_rfl) (fun _ _ _ h => h) (Or.inl ⟨by rfl, ?_⟩) (by assumption) ?_
  rotate_left
  · first | (intro w hSw; (try dsimp only at hSw); go_simp; done) | (intro w hSw; (try dsimp only at hSw); go_simp; with_reducible rfl)
  (try simp only [Act.put, List.setIfInBounds_toArray, List.set_cons_zero, List.set_cons_succ])
  refine wpAnyH_done (by kernel_rfl) ?_ _
  refine NoPanic.normal ?_
  go_wp2_with fail
  obtain ⟨a5, c5, rfl⟩ := o5.shape
  obtain ⟨a6, c6, rfl⟩ := o6.shape
  rw [Hcl.out] at o5 ⊢
  rw [Hsl.out] at o6 ⊢
  have hk6' : Below w4.heap.size w4 w6 := hk6
  have hb16 := hb14.trans (hk6'.mono hb14.size)
  have G5 := Lib.hid (o5.ints.below b6)
  have G6 := Lib.hid o6.ints
  have HP6 := Lib.hid (HP4.out.below hk6')
  have HO6 := Lib.hid (HO4.out.below hk6')
  have hk5' : Below w4.heap.size w4 w5 := hk5
  have P5 : Hid (Apart a5 (Value.slice (some ⟨w.heap.size + 1, 0, none⟩) 0 0)) := Lib.hid fun p hp e => by
    obtain ⟨g, cap, he, hg, _⟩ := o5.form (by rw [capW_length]; have := Hl.out; omega)
    have hd : w4.drew.heap.size = w4.heap.size := rfl
    cases he
    cases hp
    simp [Value.ownBlock] at e
    omega
  have P6 : Hid (Apart a6 (Value.slice (some ⟨w.heap.size + 1, 0, none⟩) 0 0)) := Lib.hid fun p hp e => by
    obtain ⟨g, cap, he, hg, _⟩ := o6.form (by rw [sums_length HTT.out]; have := Hl.out; omega)
    cases he
    cases hp
    have := hk5'.size
    simp [Value.ownBlock] at e
    omega
  have hs6 : w.heap.size + 1 ≤ w6.heap.size := by have := hk6'.size; omega
  clear o5 o6 b5 b6 hk5 hk6 hk5' hk6' HP4 HO4 hb14 hs4
  generalize hU : w.heap.size + 1 = U at *
  have hUw : w.heap.size ≤ U := by omega
  clear hU
  go_loopw [6, 9] (fun v5 v8 wr => ∃ x : Nat, x ≤ nP ∧ v8 = .int .i64 (x : Int) ∧ Fr.Own wr U v5 ((envL ps ws l).take x) ∧ Ints wr a6 nP (sums ps ws) ∧ Ints wr a5 nP (capW ps ws l) ∧ Apart a6 v5 ∧ Apart a5 v5 ∧ Below w.heap.size w wr ∧ U ≤ wr.heap.size) (fun _ v8 _ => nP - (intOf v8).toNat)
  case atStart => exact ⟨0, Nat.zero_le _, rfl, by rw [List.take_zero]; exact HO6.out, G6.out, G5.out, P6.out, P5.out, hb16, hs6⟩
  case round =>
    clear hb16 HO6 G6 G5 P6 P5 HP6 hs6
    obtain ⟨x, hx, rfl, hou, h6, h7, p6, p7, hbel, hsz⟩ := hrel
    have G6 := Lib.hid h6
    have G7 := Lib.hid h7
    have P6 := Lib.hid p6
    have P7 := Lib.hid p7
    clear h6 h7 p6 p7
    by_cases hlt : (x : Int) < nP
    · obtain ⟨b6, o6, rfl, hc6⟩ := G6.out.at (i := x) (Below.refl _ _) (by omega)
      obtain ⟨b7, o7, rfl, hc7⟩ := G7.out.at (i := x) (Below.refl _ _) (by omega)
      have Hml := Lib.hid (envL_take ps ws l (x := x) (by have := Hl.out; omega))
      have hol : ((envL ps ws l).take x).length ≤ 24 := by rw [List.length_take]; omega
      have hs1 := sums_pos HTT.out x (by have := Hl.out; omega)
      have hs2 := (sums_bd HTT.out x).2
      have hcx : -479520 ≤ nth (capW ps ws l) x ∧ nth (capW ps ws l) x ≤ 479520 := Hca.out x
      have HcC : Hid (∀ W : World, Calls Try.prog 62 #[.int .i64 (nth (capW ps ws l) x), .int .i64 (nth (sums ps ws) x)] W fun e w' => e = .returned (.agg #[.int .i64 (nm (nth (capW ps ws l) x) (nth (sums ps ws) x)), .int .i64 (dn (nth (capW ps ws l) x) (nth (sums ps ws) x))]) ∧ Below W.heap.size W w') := Lib.hid fun W => spec_l2Cut _ _ W (by omega) (by omega)
      clear hs1 hs2 hcx
      generalize nm (nth (capW ps ws l) x) (nth (sums ps ws) x) = gn at *
      generalize dn (nth (capW ps ws l) x) (nth (sums ps ws) x) = gd at *
      generalize nth (capW ps ws l) x = tx at *
      generalize nth (sums ps ws) x = sx at *
      generalize (envL ps ws l).take x = acc at *
      have k2 : (0 : Int) ≤ (x : Int) := by omega
      obtain ⟨a5, c5, rfl⟩ := hou.shape
      have HO := Lib.hid hou
      clear hou
      go_wp2_with fail
      refine wp_region_noPanic ?_
      refine wp_region_held_drew (S := fun W' => Below U wr W' ∧ W'.cell? ⟨b6, o6 + x, none⟩ = some (.int .i64 sx) ∧ W'.cell? ⟨b7, o7 + x, none⟩ = some (.int .i64 tx)) (by kernel_rfl) ?_ (fun hHeld0 => ?_)
      · (try dsimp only); first | assumption | exact ⟨(Below.refl _ _).drew, hc6, hc7⟩ | exact ⟨(Below.mono hk9 hsz), cell_up hk9 hc6, cell_up hk9 hc7⟩ | exact ⟨Below.alloc (Below.mono hk9 hsz) hsz9 _, cell_up (below_new w9 _) (cell_up hk9 hc6), cell_up (below_new w9 _) (cell_up hk9 hc7)⟩
      refine takeH (i := 0) (oi := _) (v := ?_) rfl (by kernel_rfl) (by kernel_rfl) (by kernel_rfl) (fun _ _ _ h => h) (Or.inl ⟨by rfl, ?_⟩) (by assumption) ?_
      rotate_left
      · first | (intro w hSw; (try dsimp only at hSw); go_simp; done) | (intro w hSw; (try dsimp only at hSw); go_simp; with_reducible rfl)
      (try simp only [Act.put, List.setIfInBounds_toArray, List.set_cons_zero, List.set_cons_succ])
      refine takeH (i := 1) (oi := _) (v := ?_) rfl (by kernel_rfl) (by kernel_rfl) (by kernel_rfl) (fun _ _ _ h => h) (Or.inl ⟨by rfl, ?_⟩) (by assumption) ?_
      rotate_left
      · first | (intro w hSw; (try dsimp only at hSw); go_simp; done) | (intro w hSw; (try dsimp only at hSw); go_simp; with_reducible rfl)
      (try simp only [Act.put, List.setIfInBounds_toArray, List.set_cons_zero, List.set_cons_succ])
      refine takeH (i := 2) (oi := _) (v := ?_) rfl (by kernel_rfl) (by kernel_rfl) (by kernel_rfl) (fun _ _ _ h => h) (Or.inl ⟨by rfl, ?_⟩) (by assumption) ?_
      rotate_left
      · first | (intro w hSw; (try dsimp only at hSw); go_simp; done) | (intro w hSw; (try dsimp only at hSw); go_simp; with_reducible rfl)
      (try simp only [Act.put, List.setIfInBounds_toArray, List.set_cons_zero, List.set_cons_succ])
      refine takeH (i := 3) (oi := _) (v := ?_) rfl (by kernel_rfl) (by kernel_rfl) (by kernel_rfl) (fun _ _ _ h => h) (Or.inl ⟨by rfl, ?_⟩) (by assumption) ?_
      rotate_left
      · first | (intro w hSw; (try dsimp only at hSw); go_simp; done) | (intro w hSw; (try dsimp only at hSw); go_simp; with_reducible rfl)
      (try simp only [Act.put, List.setIfInBounds_toArray, List.set_cons_zero, List.set_cons_succ])
      refine takeH (i := 4) (oi := _) (v := ?_) rfl (by kernel_rfl) (by kernel_rfl) (by kernel_rfl) (fun _ _ _ h => h) (Or.inl ⟨by rfl, ?_⟩) (by assumption) ?_
      rotate_left
      · first | (intro w hSw; (try dsimp only at hSw); go_simp; done) | (intro w hSw; (try dsimp only at hSw); go_simp; with_reducible rfl)
      (try simp only [Act.put, List.setIfInBounds_toArray, List.set_cons_zero, List.set_cons_succ])
      refine takeH (i := 5) (oi := _) (v := ?_) rfl (by kernel_rfl) (by kernel_rfl) (by kernel_rfl) (fun _ _ _ h => h) (Or.inl ⟨by rfl, ?_⟩) (by assumption) ?_
      rotate_left
      · first | (intro w hSw; (try dsimp only at hSw); go_simp; done) | (intro w hSw; (try dsimp only at hSw); go_simp; with_reducible rfl)
      (try simp only [Act.put, List.setIfInBounds_toArray, List.set_cons_zero, List.set_cons_succ])
      refine takeH (i := 6) (oi := _) (v := ?_) rfl (by kernel_rfl) (by kernel_rfl) (by kernel_rfl) (fun _ _ _ h => h) (Or.inl ⟨by rfl, ?_⟩) (by assumption) ?_
      rotate_left
      · first | (intro w hSw; (try dsimp only at hSw); go_simp; done) | (intro w hSw; (try dsimp only at hSw); go_simp; with_reducible rfl)
      (try simp only [Act.put, List.setIfInBounds_toArray, List.set_cons_zero, List.set_cons_succ])
      refine takeH (i := 7) (oi := _) (v := ?_) rfl (by kernel_rfl) (by kernel_rfl) (by kernel_rfl) (fun _ _ _ h => h) (Or.inl ⟨by rfl, ?_⟩) (by assumption) ?_
      rotate_left
      · first | (intro w hSw; (try dsimp only at hSw); go_simp; done) | (intro w hSw; (try dsimp only at hSw); go_simp; with_reducible rfl)
      (try simp only [Act.put, List.setIfInBounds_toArray, List.set_cons_zero, List.set_cons_succ])
      refine takeH (i := 8) (oi := _) (v := ?_) rfl (by kernel_rfl) (by kernel_rfl) (by kernel_rfl) (fun _ _ _ h => h) (Or.inl ⟨by rfl, ?_⟩) (by assumption) ?_
      rotate_left
      · first | (intro w hSw; (try dsimp only at hSw); go_simp; done) | (intro w hSw; (try dsimp only at hSw); go_simp; with_reducible rfl)
      (try simp only [Act.put, List.setIfInBounds_toArray, List.set_cons_zero, List.set_cons_succ])
      refine wpAnyH_ready (rs := [9]) (by kernel_rfl) (by simp) ?_
      refine consH rfl (fun Kq hKq => ?_)
      go_simp
      (go_at_call 62; refine (HcC.out _).mono ?_; rintro e w9 ⟨rfl, b9⟩; have hk9 : KeepR wr w9 := KeepR.next b9 (KeepR.start wr); have hsz9 : U ≤ w9.heap.size := Nat.le_trans hsz (Below.size hk9))
      refine hKq.out _ _ ?_ (fun hHeld1 => ?_)
      · (try dsimp only); first | assumption | exact ⟨(Below.refl _ _).drew, hc6, hc7⟩ | exact ⟨(Below.mono hk9 hsz), cell_up hk9 hc6, cell_up hk9 hc7⟩ | exact ⟨Below.alloc (Below.mono hk9 hsz) hsz9 _, cell_up (below_new w9 _) (cell_up hk9 hc6), cell_up (below_new w9 _) (cell_up hk9 hc7)⟩
      clear hKq Kq
      (try simp only [Act.put, List.setIfInBounds_toArray, List.set_cons_zero, List.set_cons_succ])
      clear hHeld0
      refine wpAnyH_ready (rs := [10]) (by kernel_rfl) (by simp) ?_
      refine consH rfl (fun Kq hKq => ?_)
      go_simp
      refine hKq.out _ _ ?_ (fun hHeld2 => ?_)
      · (try dsimp only); first | assumption | exact ⟨(Below.refl _ _).drew, hc6, hc7⟩ | exact ⟨(Below.mono hk9 hsz), cell_up hk9 hc6, cell_up hk9 hc7⟩ | exact ⟨Below.alloc (Below.mono hk9 hsz) hsz9 _, cell_up (below_new w9 _) (cell_up hk9 hc6), cell_up (below_new w9 _) (cell_up hk9 hc7)⟩
      clear hKq Kq
      (try simp only [Act.put, List.setIfInBounds_toArray, List.set_cons_zero, List.set_cons_succ])
      clear hHeld1
      refine wpAnyH_ready (rs := [11]) (by kernel_rfl) (by simp) ?_
      refine consH rfl (fun Kq hKq => ?_)
      (refine Fr.step_push3 (x1 := gn) (x2 := gd) rfl _ _ rfl U _ _ (by rfl) (HO.out.below hk9) (by rfl) (by omega) hsz9 ?_; intro v' w' ho hb hm; have x6 := hm.cell (cell_up hk9 hc6) (P6.out ⟨b6, o6, none⟩ rfl); have x7 := hm.cell (cell_up hk9 hc7) (P7.out ⟨b7, o7, none⟩ rfl); have hSS : Below U wr w' ∧ w'.cell? ⟨b6, o6 + x, none⟩ = some (.int .i64 sx) ∧ w'.cell? ⟨b7, o7 + x, none⟩ = some (.int .i64 tx) := ⟨(Below.mono hk9 hsz).trans hb, x6, x7⟩)
      refine hKq.out _ _ ?_ (fun hHeld3 => ?_)
      · (try dsimp only); first | assumption | exact ⟨(Below.refl _ _).drew, hc6, hc7⟩ | exact ⟨(Below.mono hk9 hsz), cell_up hk9 hc6, cell_up hk9 hc7⟩ | exact ⟨Below.alloc (Below.mono hk9 hsz) hsz9 _, cell_up (below_new w9 _) (cell_up hk9 hc6), cell_up (below_new w9 _) (cell_up hk9 hc7)⟩
      clear hKq Kq
      (try simp only [Act.put, List.setIfInBounds_toArray, List.set_cons_zero, List.set_cons_succ])
      clear hHeld2
      refine takeH (i := 12) (oi := _) (v := ?_) rfl (by kernel_rfl) (by kernel_rfl) (by kernel_rfl) (fun _ _ _ h => h) (Or.inl ⟨by rfl, ?_⟩) (by assumption) ?_
      rotate_left
      · first | (intro w hSw; (try dsimp only at hSw); go_simp; done) | (intro w hSw; (try dsimp only at hSw); go_simp; with_reducible rfl)
      (try simp only [Act.put, List.setIfInBounds_toArray, List.set_cons_zero, List.set_cons_succ])
      refine wpAnyH_done (by kernel_rfl) ?_ _
      refine NoPanic.normal ?_
      go_wp2_with fail
      have hk9' : Below wr.heap.size wr w9 := hk9
      have h6' := (G6.out.below hk9').moved hm (fun _ => P6.out)
      have h7' := (G7.out.below hk9').moved hm (fun _ => P7.out)
      go_roundw
      case rel => exact ⟨x + 1, by omega, by go_num, by rw [Hml.out]; exact ho, h6'.1, h7'.1, h6'.2 (by omega), h7'.2 (by omega), (hbel.trans (hk9'.mono hbel.size)).trans (hb.mono hUw), Nat.le_trans hsz9 hb.size⟩
      case measure => simp [intOf]; omega
    · obtain rfl : x = nP := by omega
      have hfin : (envL ps ws l).take x = envL ps ws l := List.take_of_length_le (by rw [envL_length]; have := Hl.out; omega)
      rw [hfin] at hou
      go_wp2_with fail
      go_ret2
      exact ⟨_, by rw [Hpays.out]; rfl, by rw [Hval.out]; exact hou.mono hUw, hbel⟩
end Go.Proofs.Ytjkkfjipgomkdaa
