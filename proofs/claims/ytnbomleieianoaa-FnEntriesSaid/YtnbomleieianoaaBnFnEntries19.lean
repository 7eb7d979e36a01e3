/- Contracts and plain laws for the statement FnEntries, part 19. No conditions but those stated in each. -/
import Derived.Test.YtnbomleieianoaaBnFnEntries18
import Derived.Test.YtnbomleieianoaaBnFnEntries5
import Derived.Test.YtnbomleieianoaaBnFnEntries14
/- Contracts: the means at the nodes, by the reference. -/
namespace Go.Proofs.Ytnbomleieianoaa
open Go.RowKit

namespace Fr
/-- The same behind a call of the region. -/
theorem step_push3 {ops : Array Oper} {o : Oper} {a : Act} {K : Act → World → Prop} {Q : Exit → Act → World → Prop} {E : Prop} {w : World} {x1 x2 : Int} (hgd : o.guard = none) (s x : Operand)
    (ho : o.op = .call { callee := .builtin .append, args := #[s, x], argTypes := #[42, 42] })
    (base : Nat) (v : Value) (xs : List (Int × Int)) (hs : a.eval s = v) (hown : Own w base v xs) (hx : a.eval x = .slice (some ⟨w.heap.size, 0, none⟩) 1 1)
    (hl : xs.length ≤ 1048576) (hb : base ≤ w.heap.size)
    (h : ∀ v' w', Own w' base v' (xs ++ [(x1, x2)]) → Below base w w' → Moved w v w' v' → K (a.put o.dst v') w') :
    if Region.wanted o (yielded ops a.tmps) = true then Oper.wp Try.prog o a (w.alloc (.cells #[.int .i64 x1, .int .i64 x2] 48)) K Q else E := by
  obtain ⟨i0, hi0, hz0, hz1, hz2⟩ := info_parts
  refine step_append_lies _ hgd s x 42 ho base 48 i0 (.agg #[.int .i64 0, .int .i64 0]) 2 16 Try.underlying42 hi0 hz0 hz1 hz2 rfl (by decide) v xs.length (fs xs) hs
    (hown.below ((Below.refl _ _).alloc (Nat.le_refl _) _)) ⟨w.heap.size, 0, none⟩ 1 1 [.int .i64 x1, .int .i64 x2] hx rfl
    (World.news_of_block (cs := #[.int .i64 x1, .int .i64 x2]) (t := 48) (fr := (0, 0)) (heap_alloc_new w _)) (by simp [Value.oneCell']) (by decide) (by simp only [maxLen]; omega) (by omega) (by simp; omega) (w.heap.size + 1) (by simp) ?_
  intro g cap w' h1 h2 h3 _
  have hdb : Below w.heap.size w (w.alloc (.cells #[.int .i64 x1, .int .i64 x2] 48)) := ((Below.refl _ _).alloc (Nat.le_refl _) _)
  refine h _ w' ?_ ?_ ⟨Nat.le_trans hdb.size h2.size, fun b hb' hne => ⟨fun e => ?_, ?_⟩⟩
  · unfold Own
    rw [← fs_append, List.length_append]; exact h1
  · exact (((Below.refl base w).alloc hb _)).grown h2 (by simp; omega) fun k hk => (World.ownsRow.lt hown k hk).1
  · simp [Value.ownBlock] at e
    rcases h3 with h3 | h3
    · rw [h3, e] at hne; exact hne rfl
    · omega
  · have := h2.block b (Nat.lt_of_lt_of_le hb' hdb.size) (fun e => hne e.symm)
    rw [this]; exact hdb.block b hb'
end Fr
/-- The means at the nodes. -/
def meanL (ps ws : List Int) (V : Nat → Int) : List (Int × Int) := (List.range ps.length).map fun x => (nm (nth (totA ps ws V) x) (nth (sums ps ws) x), dn (nth (totA ps ws V) x) (nth (sums ps ws) x))
theorem meanL_length (ps ws : List Int) (V : Nat → Int) : (meanL ps ws V).length = ps.length := by simp [meanL]
theorem meanL_take (ps ws : List Int) (V : Nat → Int) {x : Nat} (hx : x < ps.length) : (meanL ps ws V).take (x + 1) = (meanL ps ws V).take x ++ [(nm (nth (totA ps ws V) x) (nth (sums ps ws) x), dn (nth (totA ps ws V) x) (nth (sums ps ws) x))] := by
  rw [List.take_succ_eq_append_getElem (by rw [meanL_length]; exact hx)]
  simp [meanL]
theorem meanL_root {ps ws : List Int} {V : Nat → Int} (h : 0 < ps.length) : Fr.at1 (meanL ps ws V) 0 = nm (nth (totA ps ws V) 0) (nth (sums ps ws) 0) ∧ Fr.at2 (meanL ps ws V) 0 = dn (nth (totA ps ws V) 0) (nth (sums ps ws) 0) := by
  constructor
  · rw [Fr.at1, meanL]; simp [List.getD, h]
  · rw [Fr.at2, meanL]; simp [List.getD, h]
/-- No pairs, sums and totals, just made, apart from each other. -/
def MeanR (u wc : World) (n : Nat) (s t : List Int) (v5 v6 v7 : Value) : Prop :=
  KeepR u wc ∧ ∃ (g5 : Nat) (a6 : Option Addr) (c6 : Nat) (a7 : Option Addr) (c7 : Nat), v5 = .slice (some ⟨g5, 0, none⟩) 0 0 ∧ v6 = .slice a6 n c6 ∧ v7 = .slice a7 n c7 ∧ Fr.Own wc u.heap.size v5 [] ∧ Ints wc a6 n s ∧ Ints wc a7 n t ∧ Apart a6 v5 ∧ Apart a7 v5
theorem mean_mk {u wc : World} {n : Nat} {s t : List Int} {v6 v7 : Value} {b5 b6 b7 g5 : Nat} (hk : KeepR u wc) (hs : s.length = n) (ht : t.length = n) (h5 : Fr.Own wc b5 (.slice (some ⟨g5, 0, none⟩) 0 0) []) (hb : u.heap.size ≤ b5) (h6 : Own wc b6 v6 s) (h7 : Own wc b7 v7 t)
    (s6 : ∀ q, v6.ownBlock = some q → q ≠ g5) (s7 : ∀ q, v7.ownBlock = some q → q ≠ g5) : MeanR u wc n s t (.slice (some ⟨g5, 0, none⟩) 0 0) v6 v7 := by
  obtain ⟨a6, c6, rfl⟩ := h6.shape
  obtain ⟨a7, c7, rfl⟩ := h7.shape
  rw [hs] at h6 s6 ⊢
  rw [ht] at h7 s7 ⊢
  refine ⟨hk, g5, a6, c6, a7, c7, rfl, rfl, rfl, h5.mono hb, h6.ints, h7.ints, fun p hp e => ?_, fun p hp e => ?_⟩
  · subst hp
    simp [Value.ownBlock] at e
    exact s6 _ rfl e.symm
  · subst hp
    simp [Value.ownBlock] at e
    exact s7 _ rfl e.symm
set_option maxRecDepth 100000 in
set_option maxHeartbeats 2000000 in
theorem spec_l2Means (aP : Option Addr) (nP cP : Nat) (aW : Option Addr) (nW cW : Nat) (ps ws : List Int) (aL : Option Addr) (nL cL : Nat) (l : List Int) (V : Nat → Int) (w : World) (h : Tre w aP nP cP aW nW cW ps ws) (hT : Tr ps ws) (hL : Ints w aL nL l) (hnL : (ends ps).length = nL) (hv : ∀ i e : Nat, i < nL → nth (ends ps) i = (e : Int) → nth l i = V e) (hV : ∀ x, -2997 ≤ V x ∧ V x ≤ 2997) :
    Calls Try.prog 109 #[.agg #[.slice aP nP cP, .slice aW nW cW], .slice aL nL cL] w fun e w' => ∃ v, e = .returned v ∧ Fr.Own w' w.heap.size v (meanL ps ws V) ∧ Below w.heap.size w w' := by
  have HTT := Lib.hid hT
  have hn24 := hT.n24
  have hn1 := hT.n1
  have HT := Lib.hid hT
  have hwl := hT.wl
  have hl := h.p.1
  have hlw := h.w.1
  have hpn := h.pn
  have hwn := h.wn
  have hb1 := below_new w (.cells #[.slice aP nP cP, .slice aW nW cW] 26)
  have hP1 := Lib.hid (Pair.new w (.slice aP nP cP) (.slice aW nW cW) 26)
  have H := Lib.hid h
  have Hl := Lib.hid hl
  have Hlw := Lib.hid hlw
  clear h hl hlw
  have hnW : nW ≤ nP ∧ nP ≤ nW := by have := Hlw.out; have := Hl.out; omega
  have hnP : 1 ≤ nP ∧ nP ≤ 24 := by have := Hl.out; omega
  clear hn24 hn1 hT hwl hpn hwn
  have HL0 := Lib.hid hL
  have Hv := Lib.hid hv
  have HV := Lib.hid hV
  have HnL := Lib.hid hnL
  have hnP : 1 ≤ nP ∧ nP ≤ 24 := by have := HTT.out.n24; have := HTT.out.n1; have := Hl.out; omega
  clear hL hv hV hnL
  have Hsl : Hid ((sums ps ws).length = nP) := Lib.hid (by rw [sums_length HTT.out]; exact Hl.out)
  have Htl : Hid ((totA ps ws V).length = nP) := Lib.hid (by rw [totA_length]; exact Hl.out)
  go_enter Try.func109, Try.ntmps109
  have c0 := hP1.out.c0
  have c1 := hP1.out.c1
  go_upto_region 1 with fail
  generalize (w.alloc (.cells #[.slice aP nP cP, .slice aW nW cW] 26)) = w2 at *
  go_cut [5, 6, 7] (fun v5 v6 v7 wc => MeanR w2 wc nP (sums ps ws) (totA ps ws V) v5 v6 v7)
  case first =>
    refine wp_region_noPanic ?_
    refine wp_region_held_drew (S := fun W' => KeepR w2 W' ∧ W'.cell? ⟨w.heap.size, 0, none⟩ = some (.slice aP nP cP) ∧ W'.cell? ⟨w.heap.size, 1, none⟩ = some (.slice aW nW cW)) (by kernel_rfl) ?_ (fun hHeld0 => ?_)
    · (try dsimp only); first | exact keep2 (by assumption) hP1.out | exact keep2 (KeepR.start _) hP1.out | exact keep2 (KeepR.alloc0 _ _) hP1.out | exact keep2 (KeepR.alloc (by assumption : KeepR w2 _ ∧ _).1 _) hP1.out
    refine takeH (i := 1) (oi := _) (v := ?_) rfl (by kernel_rfl) (by kernel_rfl) (by kernel_rfl) (fun _ _ _ h => h) (Or.inl ⟨by rfl, ?_⟩) (by assumption) ?_
    rotate_left
    · first | (intro w hSw; (try dsimp only at hSw); go_simp; done) | (intro w hSw; (try dsimp only at hSw); go_simp; with_reducible rfl)
    (try simp only [Act.put, List.setIfInBounds_toArray, List.set_cons_zero, List.set_cons_succ])
    refine takeH (i := 3) (oi := _) (v := ?_) rfl (by kernel_rfl) (by kernel_rfl) (by kernel_rfl) (fun _ _ _ h => h) (Or.inl ⟨by rfl, ?_⟩) (by assumption) ?_
    rotate_left
    · first | (intro w hSw; (try dsimp only at hSw); go_simp; done) | (intro w hSw; (try dsimp only at hSw); go_simp; with_reducible rfl)
    (try simp only [Act.put, List.setIfInBounds_toArray, List.set_cons_zero, List.set_cons_succ])
    refine takeH (i := 4) (oi := _) (v := ?_) rfl (by kernel_rfl) (by kernel_rfl) (by kernel_rfl) (fun _ _ _ h => h) (Or.inl ⟨by rfl, ?_⟩) (by assumption) ?_
    rotate_left
    · first | (intro w hSw; (try dsimp only at hSw); go_simp; done) | (intro w hSw; (try dsimp only at hSw); go_simp; with_reducible rfl)
    (try simp only [Act.put, List.setIfInBounds_toArray, List.set_cons_zero, List.set_cons_succ])
    refine wpAnyH_ready (rs := [0, 2]) (by kernel_rfl) (by simp) ?_
    refine consM rfl (fun Kq hKq => ?_) (consH rfl (fun Kq hKq => ?_))
    · go_simp
      refine hKq.out _ _ ?_ (fun hHeld1 => ?_)
      · (try dsimp only); first | exact keep2 (by assumption) hP1.out | exact keep2 (KeepR.start _) hP1.out | exact keep2 (KeepR.alloc0 _ _) hP1.out | exact keep2 (KeepR.alloc (by assumption : KeepR w2 _ ∧ _).1 _) hP1.out
      clear hKq Kq
      (try simp only [Act.put, List.setIfInBounds_toArray, List.set_cons_zero, List.set_cons_succ])
      clear hHeld0
      refine wpAnyH_ready (rs := [2]) (by kernel_rfl) (by simp) ?_
      refine consH rfl (fun Kq hKq => ?_)
      go_simp
      (go_at_call 127; refine (spec_l2Sums _ _ _ _ _ _ ps ws _ (H.out.below (hb1.trans (Below.mono (by assumption : KeepR w2 _ ∧ _).1 hb1.size))) HTT.out).mono ?_; rintro e w5 ⟨v5, rfl, o5, b5⟩; have hk5 := KeepR.next b5 (by assumption : KeepR w2 _ ∧ _).1)
      refine hKq.out _ _ ?_ (fun hHeld2 => ?_)
      · (try dsimp only); first | exact keep2 (by assumption) hP1.out | exact keep2 (KeepR.start _) hP1.out | exact keep2 (KeepR.alloc0 _ _) hP1.out | exact keep2 (KeepR.alloc (by assumption : KeepR w2 _ ∧ _).1 _) hP1.out
      clear hKq Kq
      (try simp only [Act.put, List.setIfInBounds_toArray, List.set_cons_zero, List.set_cons_succ])
      clear hHeld1
      refine wpAnyH_ready (rs := [5]) (by kernel_rfl) (by simp) ?_
      refine consH rfl (fun Kq hKq => ?_)
      go_simp
      (go_at_call 156; refine (spec_l2Totals _ _ _ _ _ _ ps ws _ _ _ l V _ (H.out.below (hb1.trans (Below.mono (by assumption : KeepR w2 _ ∧ _).1 hb1.size))) HTT.out (HL0.out.below (hb1.trans (Below.mono (by assumption : KeepR w2 _ ∧ _).1 hb1.size))) HnL.out Hv.out HV.out).mono ?_; rintro e w6 ⟨v6, rfl, o6, b6⟩; have hk6 := KeepR.next b6 (by assumption : KeepR w2 _ ∧ _).1)
      refine hKq.out _ _ ?_ (fun hHeld3 => ?_)
      · (try dsimp only); first | exact keep2 (by assumption) hP1.out | exact keep2 (KeepR.start _) hP1.out | exact keep2 (KeepR.alloc0 _ _) hP1.out | exact keep2 (KeepR.alloc (by assumption : KeepR w2 _ ∧ _).1 _) hP1.out
      clear hKq Kq
      (try simp only [Act.put, List.setIfInBounds_toArray, List.set_cons_zero, List.set_cons_succ])
      clear hHeld2
      refine takeH (i := 6) (oi := _) (v := ?_) rfl (by kernel_rfl) (by kernel_rfl) (by kernel_rfl) (fun _ _ _ h => h) (Or.inl ⟨by rfl, ?_⟩) (by assumption) ?_
      rotate_left
      · first | (intro w hSw; (try dsimp only at hSw); go_simp; done) | (intro w hSw; (try dsimp only at hSw); go_simp; with_reducible rfl)
      (try simp only [Act.put, List.setIfInBounds_toArray, List.set_cons_zero, List.set_cons_succ])
      refine takeH (i := 7) (oi := _) (v := ?_) rfl (by kernel_rfl) (by kernel_rfl) (by kernel_rfl) (fun _ _ _ h => h) (Or.inl ⟨by rfl, ?_⟩) (by assumption) ?_
      rotate_left
      · first | (intro w hSw; (try dsimp only at hSw); go_simp; done) | (intro w hSw; (try dsimp only at hSw); go_simp; with_reducible rfl)
      (try simp only [Act.put, List.setIfInBounds_toArray, List.set_cons_zero, List.set_cons_succ])
      refine takeH (i := 8) (oi := _) (v := ?_) rfl (by kernel_rfl) (by kernel_rfl) (by kernel_rfl) (fun _ _ _ h => h) (Or.inl ⟨by rfl, ?_⟩) (by assumption) ?_
      rotate_left
      · first | (intro w hSw; (try dsimp only at hSw); go_simp; done) | (intro w hSw; (try dsimp only at hSw); go_simp; with_reducible rfl)
      (try simp only [Act.put, List.setIfInBounds_toArray, List.set_cons_zero, List.set_cons_succ])
      refine wpAnyH_done (by kernel_rfl) ?_ _
      refine NoPanic.normal ?_
      go_wp2_with fail
      go_meet
      first
        | exact mean_mk hk6 Hsl.out Htl.out ((((Fr.own_nil0 w2).below (Below.refl _ _).drew).below b5).below b6) (Nat.le_refl _) (o5.below b6) o6 (fun q hq => by have := (World.ownsRow.lt o5 q hq).1; simp at this; omega) (fun q hq => by have := (World.ownsRow.lt o6 q hq).1; have := b5.size; simp at this; omega)
        | exact mean_mk hk6 Hsl.out Htl.out ((Fr.own_nil0 w5).below b6) (Below.size hk5) ((o5.below (below_new w5 _)).below b6) o6 (fun q hq => by have := (World.ownsRow.lt o5 q hq).2; omega) (fun q hq => by have := (World.ownsRow.lt o6 q hq).1; simp at this; omega)
        | exact mean_mk (KeepR.alloc hk6 _) Hsl.out Htl.out (Fr.own_nil0 w6) (Below.size hk6) ((o5.below b6).below (below_new w6 _)) (o6.below (below_new w6 _)) (fun q hq => by have := (World.ownsRow.lt (o5.below b6) q hq).2; omega) (fun q hq => by have := (World.ownsRow.lt o6 q hq).2; omega)
    · go_simp
      (go_at_call 127; refine (spec_l2Sums _ _ _ _ _ _ ps ws _ (H.out.below (hb1.trans (Below.mono (by assumption : KeepR w2 _ ∧ _).1 hb1.size))) HTT.out).mono ?_; rintro e w5 ⟨v5, rfl, o5, b5⟩; have hk5 := KeepR.next b5 (by assumption : KeepR w2 _ ∧ _).1)
      refine hKq.out _ _ ?_ (fun hHeld1 => ?_)
      · (try dsimp only); first | exact keep2 (by assumption) hP1.out | exact keep2 (KeepR.start _) hP1.out | exact keep2 (KeepR.alloc0 _ _) hP1.out | exact keep2 (KeepR.alloc (by assumption : KeepR w2 _ ∧ _).1 _) hP1.out
      clear hKq Kq
      (try simp only [Act.put, List.setIfInBounds_toArray, List.set_cons_zero, List.set_cons_succ])
      clear hHeld0
      refine wpAnyH_ready (rs := [0, 5]) (by kernel_rfl) (by simp) ?_
      refine consM rfl (fun Kq hKq => ?_) (consH rfl (fun Kq hKq => ?_))
      · go_simp
        refine hKq.out _ _ ?_ (fun hHeld2 => ?_)
        · (try dsimp only); first | exact keep2 (by assumption) hP1.out | exact keep2 (KeepR.start _) hP1.out | exact keep2 (KeepR.alloc0 _ _) hP1.out | exact keep2 (KeepR.alloc (by assumption : KeepR w2 _ ∧ _).1 _) hP1.out
        clear hKq Kq
        (try simp only [Act.put, List.setIfInBounds_toArray, List.set_cons_zero, List.set_cons_succ])
        clear hHeld1
        refine wpAnyH_ready (rs := [5]) (by kernel_rfl) (by simp) ?_
        refine consH rfl (fun Kq hKq => ?_)
        go_simp
        (go_at_call 156; refine (spec_l2Totals _ _ _ _ _ _ ps ws _ _ _ l V _ (H.out.below (hb1.trans (Below.mono (by assumption : KeepR w2 _ ∧ _).1 hb1.size))) HTT.out (HL0.out.below (hb1.trans (Below.mono (by assumption : KeepR w2 _ ∧ _).1 hb1.size))) HnL.out Hv.out HV.out).mono ?_; rintro e w6 ⟨v6, rfl, o6, b6⟩; have hk6 := KeepR.next b6 (by assumption : KeepR w2 _ ∧ _).1)
        refine hKq.out _ _ ?_ (fun hHeld3 => ?_)
        · (try dsimp only); first | exact keep2 (by assumption) hP1.out | exact keep2 (KeepR.start _) hP1.out | exact keep2 (KeepR.alloc0 _ _) hP1.out | exact keep2 (KeepR.alloc (by assumption : KeepR w2 _ ∧ _).1 _) hP1.out
        clear hKq Kq
        (try simp only [Act.put, List.setIfInBounds_toArray, List.set_cons_zero, List.set_cons_succ])
        clear hHeld2
        refine takeH (i := 6) (oi := _) (v := ?_) rfl (by kernel_rfl) (by kernel_rfl) (by kernel_rfl) (fun _ _ _ h => h) (Or.inl ⟨by rfl, ?_⟩) (by assumption) ?_
        rotate_left
        · first | (intro w hSw; (try dsimp only at hSw); go_simp; done) | (intro w hSw; (try dsimp only at hSw); go_simp; with_reducible rfl)
        (try simp only [Act.put, List.setIfInBounds_toArray, List.set_cons_zero, List.set_cons_succ])
        refine takeH (i := 7) (oi := _) (v := ?_) rfl (by kernel_rfl) (by kernel_rfl) (by kernel_rfl) (fun _ _ _ h => h) (Or.inl ⟨by rfl, ?_⟩) (by assumption) ?_
        rotate_left
        · first | (intro w hSw; (try dsimp only at hSw); go_simp; done) | (intro w hSw; (try dsimp only at hSw); go_simp; with_reducible rfl)
        (try simp only [Act.put, List.setIfInBounds_toArray, List.set_cons_zero, List.set_cons_succ])
        refine takeH (i := 8) (oi := _) (v := ?_) rfl (by kernel_rfl) (by kernel_rfl) (by kernel_rfl) (fun _ _ _ h => h) (Or.inl ⟨by rfl, ?_⟩) (by assumption) ?_
        rotate_left
        · first | (intro w hSw; (try dsimp only at hSw); go_simp; done) | (intro w hSw; (try dsimp only at hSw); go_simp; with_reducible rfl)
        (try simp only [Act.put, List.setIfInBounds_toArray, List.set_cons_zero, List.set_cons_succ])
        refine wpAnyH_done (by kernel_rfl) ?_ _
        refine NoPanic.normal ?_
        go_wp2_with fail
        go_meet
        first
          | exact mean_mk hk6 Hsl.out Htl.out ((((Fr.own_nil0 w2).below (Below.refl _ _).drew).below b5).below b6) (Nat.le_refl _) (o5.below b6) o6 (fun q hq => by have := (World.ownsRow.lt o5 q hq).1; simp at this; omega) (fun q hq => by have := (World.ownsRow.lt o6 q hq).1; have := b5.size; simp at this; omega)
          | exact mean_mk hk6 Hsl.out Htl.out ((Fr.own_nil0 w5).below b6) (Below.size hk5) ((o5.below (below_new w5 _)).below b6) o6 (fun q hq => by have := (World.ownsRow.lt o5 q hq).2; omega) (fun q hq => by have := (World.ownsRow.lt o6 q hq).1; simp at this; omega)
          | exact mean_mk (KeepR.alloc hk6 _) Hsl.out Htl.out (Fr.own_nil0 w6) (Below.size hk6) ((o5.below b6).below (below_new w6 _)) (o6.below (below_new w6 _)) (fun q hq => by have := (World.ownsRow.lt (o5.below b6) q hq).2; omega) (fun q hq => by have := (World.ownsRow.lt o6 q hq).2; omega)
      · go_simp
        (go_at_call 156; refine (spec_l2Totals _ _ _ _ _ _ ps ws _ _ _ l V _ (H.out.below (hb1.trans (Below.mono (by assumption : KeepR w2 _ ∧ _).1 hb1.size))) HTT.out (HL0.out.below (hb1.trans (Below.mono (by assumption : KeepR w2 _ ∧ _).1 hb1.size))) HnL.out Hv.out HV.out).mono ?_; rintro e w6 ⟨v6, rfl, o6, b6⟩; have hk6 := KeepR.next b6 (by assumption : KeepR w2 _ ∧ _).1)
        refine hKq.out _ _ ?_ (fun hHeld2 => ?_)
        · (try dsimp only); first | exact keep2 (by assumption) hP1.out | exact keep2 (KeepR.start _) hP1.out | exact keep2 (KeepR.alloc0 _ _) hP1.out | exact keep2 (KeepR.alloc (by assumption : KeepR w2 _ ∧ _).1 _) hP1.out
        clear hKq Kq
        (try simp only [Act.put, List.setIfInBounds_toArray, List.set_cons_zero, List.set_cons_succ])
        clear hHeld1
        refine wpAnyH_ready (rs := [0]) (by kernel_rfl) (by simp) ?_
        refine consH rfl (fun Kq hKq => ?_)
        go_simp
        refine hKq.out _ _ ?_ (fun hHeld3 => ?_)
        · (try dsimp only); first | exact keep2 (by assumption) hP1.out | exact keep2 (KeepR.start _) hP1.out | exact keep2 (KeepR.alloc0 _ _) hP1.out | exact keep2 (KeepR.alloc (by assumption : KeepR w2 _ ∧ _).1 _) hP1.out
        clear hKq Kq
        (try simp only [Act.put, List.setIfInBounds_toArray, List.set_cons_zero, List.set_cons_succ])
        clear hHeld2
        refine takeH (i := 6) (oi := _) (v := ?_) rfl (by kernel_rfl) (by kernel_rfl) (by kernel_rfl) (fun _ _ _ h => h) (Or.inl ⟨by rfl, ?_⟩) (by assumption) ?_
        rotate_left
        · first | (intro w hSw; (try dsimp only at hSw); go_simp; done) | (intro w hSw; (try dsimp only at hSw); go_simp; with_reducible rfl)
        (try simp only [Act.put, List.setIfInBounds_toArray, List.set_cons_zero, List.set_cons_succ])
        refine takeH (i := 7) (oi := _) (v := ?_) rfl (by kernel_rfl) (by kernel_rfl) (by kernel_rfl) (fun _ _ _ h => h) (Or.inl ⟨by rfl, ?_⟩) (by assumption) ?_
        rotate_left
        · first | (intro w hSw; (try dsimp only at hSw); go_simp; done) | (intro w hSw; (try dsimp only at hSw); go_simp; with_reducible rfl)
        (try simp only [Act.put, List.setIfInBounds_toArray, List.set_cons_zero, List.set_cons_succ])
        refine takeH (i := 8) (oi := _) (v := ?_) rfl (by kernel_rfl) (by kernel_rfl) (by kernel_rfl) (fun _ _ _ h => h) (Or.inl ⟨by rfl, ?_⟩) (by assumption) ?_
        rotate_left
        · first | (intro w hSw; (try dsimp only at hSw); go_simp; done) | (intro w hSw; (try dsimp only at hSw); go_simp; with_reducible rfl)
        (try simp only [Act.put, List.setIfInBounds_toArray, List.set_cons_zero, List.set_cons_succ])
        refine wpAnyH_done (by kernel_rfl) ?_ _
        refine NoPanic.normal ?_
        go_wp2_with fail
        go_meet
        first
          | exact mean_mk hk6 Hsl.out Htl.out ((((Fr.own_nil0 w2).below (Below.refl _ _).drew).below b5).below b6) (Nat.le_refl _) (o5.below b6) o6 (fun q hq => by have := (World.ownsRow.lt o5 q hq).1; simp at this; omega) (fun q hq => by have := (World.ownsRow.lt o6 q hq).1; have := b5.size; simp at this; omega)
          | exact mean_mk hk6 Hsl.out Htl.out ((Fr.own_nil0 w5).below b6) (Below.size hk5) ((o5.below (below_new w5 _)).below b6) o6 (fun q hq => by have := (World.ownsRow.lt o5 q hq).2; omega) (fun q hq => by have := (World.ownsRow.lt o6 q hq).1; simp at this; omega)
          | exact mean_mk (KeepR.alloc hk6 _) Hsl.out Htl.out (Fr.own_nil0 w6) (Below.size hk6) ((o5.below b6).below (below_new w6 _)) (o6.below (below_new w6 _)) (fun q hq => by have := (World.ownsRow.lt (o5.below b6) q hq).2; omega) (fun q hq => by have := (World.ownsRow.lt o6 q hq).2; omega)
  case rest =>
    obtain ⟨hk5, g5, a6, c6, a7, c7, rfl, rfl, rfl, o5, i6, i7, p6, p7⟩ := hcut
    have hk5b : Below w2.heap.size w2 wc := hk5
    have hb15 := hb1.trans (hk5b.mono hb1.size)
    have HO := Lib.hid o5
    have G6 := Lib.hid i6
    have G7 := Lib.hid i7
    have P6 := Lib.hid p6
    have P7 := Lib.hid p7
    have HP5 := Lib.hid (hP1.out.below hk5b)
    have hw2 : w.heap.size < w2.heap.size := hP1.out.lt
    have hw2c : w2.heap.size ≤ wc.heap.size := hk5b.size
    have Hta := Lib.hid (totA_abs HTT.out HV.out)
    clear hk5 hk5b o5 i6 i7 p6 p7 hP1 hb1 c0 c1
    generalize hU : w2.heap.size = U at *
    clear hU
    go_wp2_with fail
    go_loopw [5, 8] (fun v5 v8 wr => ∃ x : Nat, x ≤ nP ∧ v8 = .int .i64 (x : Int) ∧ Fr.Own wr U v5 ((meanL ps ws V).take x) ∧ Ints wr a6 nP (sums ps ws) ∧ Ints wr a7 nP (totA ps ws V) ∧ Apart a6 v5 ∧ Apart a7 v5 ∧ Pair wr w.heap.size (.slice aP nP cP) (.slice aW nW cW) ∧ Below w.heap.size w wr ∧ U ≤ wr.heap.size) (fun _ v8 _ => nP - (intOf v8).toNat)
    case atStart => exact ⟨0, Nat.zero_le _, rfl, by rw [List.take_zero]; exact HO.out, G6.out, G7.out, P6.out, P7.out, HP5.out, hb15, hw2c⟩
    case round =>
      clear hb15 HO G6 G7 P6 P7 HP5 hw2c
      obtain ⟨x, hx, rfl, hou, h6, h7, p6, p7, hP, hbel, hsz⟩ := hrel
      have HP := Lib.hid hP
      have G6 := Lib.hid h6
      have G7 := Lib.hid h7
      have P6 := Lib.hid p6
      have P7 := Lib.hid p7
      clear hP h6 h7 p6 p7
      by_cases hlt : (x : Int) < nP
      · obtain ⟨b6, o6, rfl, hc6⟩ := G6.out.at (i := x) (Below.refl _ _) (by omega)
        obtain ⟨b7, o7, rfl, hc7⟩ := G7.out.at (i := x) (Below.refl _ _) (by omega)
        have Hml := Lib.hid (meanL_take ps ws V (x := x) (by have := Hl.out; omega))
        have hol : ((meanL ps ws V).take x).length ≤ 24 := by rw [List.length_take]; omega
        have hs1 := sums_pos HTT.out x (by have := Hl.out; omega)
        have hs2 := (sums_bd HTT.out x).2
        have htx := Hta.out x
        have HcC : Hid (∀ W : World, Calls Try.prog 128 #[.int .i64 (nth (totA ps ws V) x), .int .i64 (nth (sums ps ws) x)] W fun e w' => e = .returned (.agg #[.int .i64 (nm (nth (totA ps ws V) x) (nth (sums ps ws) x)), .int .i64 (dn (nth (totA ps ws V) x) (nth (sums ps ws) x))]) ∧ Below W.heap.size W w') := Lib.hid fun W => spec_l2Cut _ _ W (by omega) (by omega)
        clear hs1 hs2 htx
        generalize nm (nth (totA ps ws V) x) (nth (sums ps ws) x) = gn at *
        generalize dn (nth (totA ps ws V) x) (nth (sums ps ws) x) = gd at *
        generalize nth (totA ps ws V) x = tx at *
        generalize nth (sums ps ws) x = sx at *
        generalize (meanL ps ws V).take x = acc at *
        have k2 : (0 : Int) ≤ (x : Int) := by omega
        obtain ⟨a5, c5, rfl⟩ := hou.shape
        have HO := Lib.hid hou
        clear hou
        go_wp2_with fail
        refine wp_region_noPanic ?_
        refine wp_region_held_drew (S := fun W' => Below U wr W' ∧ W'.cell? ⟨b6, o6 + x, none⟩ = some (.int .i64 sx) ∧ W'.cell? ⟨b7, o7 + x, none⟩ = some (.int .i64 tx)) (by kernel_rfl) ?_ (fun hHeld0 => ?_)
        · (try dsimp only); first | assumption | exact ⟨(Below.refl _ _).drew, hc6, hc7⟩ | exact ⟨(Below.mono hk9 hsz), cell_up hk9 hc6, cell_up hk9 hc7⟩ | exact ⟨Below.alloc (Below.mono hk9 hsz) hsz9 _, cell_up (below_new w9 _) (cell_up hk9 hc6), cell_up (below_new w9 _) (cell_up hk9 hc7)⟩
        refine takeH (i := 0) (oi := _) (v := ?_) rfl (by kernel_rfl) (by kernel_rfl) (by kernel_rfl) (fun _ _ _ h => h) (Or.inl ⟨by rfl, ?_⟩) (by assumption) ?_
        rotate_left
        · first | (intro w hSw; (try dsimp only at hSw); go_simp; done) | (intro w hSw; (try dsimp only at hSw); go_simp; with_reducible rfl)
        (try simp only [Act.put, List.setIfInBounds_toArray, List.set_cons_zero, List.set_cons_succ])
        refine takeH (i := 1) (oi := _) (v := ?_) rfl (by kernel_rfl) (by kernel_rfl) (by kernel_rfl) (fun _ _ _ h => h) (Or.inl ⟨by rfl, ?_⟩) (by assumption) ?_
        rotate_left
        · first | (intro w hSw; (try dsimp only at hSw); go_simp; done) | (intro w hSw; (try dsimp only at hSw); go_simp; with_reducible rfl)
        (try simp only [Act.put, List.setIfInBounds_toArray, List.set_cons_zero, List.set_cons_succ])
        refine takeH (i := 2) (oi := _) (v := ?_) rfl (by kernel_rfl) (by kernel_rfl) (by kernel_rfl) (fun _ _ _ h => h) (Or.inl ⟨by rfl, ?_⟩) (by assumption) ?_
        rotate_left
        · first | (intro w hSw; (try dsimp only at hSw); go_simp; done) | (intro w hSw; (try dsimp only at hSw); go_simp; with_reducible rfl)
        (try simp only [Act.put, List.setIfInBounds_toArray, List.set_cons_zero, List.set_cons_succ])
        refine takeH (i := 3) (oi := _) (v := ?_) rfl (by kernel_rfl) (by kernel_rfl) (by kernel_rfl) (fun _ _ _ h => h) (Or.inl ⟨by rfl, ?_⟩) (by assumption) ?_
        rotate_left
        · first | (intro w hSw; (try dsimp only at hSw); go_simp; done) | (intro w hSw; (try dsimp only at hSw); go_simp; with_reducible rfl)
        (try simp only [Act.put, List.setIfInBounds_toArray, List.set_cons_zero, List.set_cons_succ])
        refine takeH (i := 4) (oi := _) (v := ?_) rfl (by kernel_rfl) (by kernel_rfl) (by kernel_rfl) (fun _ _ _ h => h) (Or.inl ⟨by rfl, ?_⟩) (by assumption) ?_
        rotate_left
        · first | (intro w hSw; (try dsimp only at hSw); go_simp; done) | (intro w hSw; (try dsimp only at hSw); go_simp; with_reducible rfl)
        (try simp only [Act.put, List.setIfInBounds_toArray, List.set_cons_zero, List.set_cons_succ])
        refine takeH (i := 5) (oi := _) (v := ?_) rfl (by kernel_rfl) (by kernel_rfl) (by kernel_rfl) (fun _ _ _ h => h) (Or.inl ⟨by rfl, ?_⟩) (by assumption) ?_
        rotate_left
        · first | (intro w hSw; (try dsimp only at hSw); go_simp; done) | (intro w hSw; (try dsimp only at hSw); go_simp; with_reducible rfl)
        (try simp only [Act.put, List.setIfInBounds_toArray, List.set_cons_zero, List.set_cons_succ])
        refine takeH (i := 6) (oi := _) (v := ?_) rfl (by kernel_rfl) (by kernel_rfl) (by kernel_rfl) (fun _ _ _ h => h) (Or.inl ⟨by rfl, ?_⟩) (by assumption) ?_
        rotate_left
        · first | (intro w hSw; (try dsimp only at hSw); go_simp; done) | (intro w hSw; (try dsimp only at hSw); go_simp; with_reducible rfl)
        (try simp only [Act.put, List.setIfInBounds_toArray, List.set_cons_zero, List.set_cons_succ])
        refine takeH (i := 7) (oi := _) (v := ?_) rfl (by kernel_rfl) (by kernel_rfl) (by kernel_rfl) (fun _ _ _ h => h) (Or.inl ⟨by rfl, ?_⟩) (by assumption) ?_
        rotate_left
        · first | (intro w hSw; (try dsimp only at hSw); go_simp; done) | (intro w hSw; (try dsimp only at hSw); go_simp; with_reducible rfl)
        (try simp only [Act.put, List.setIfInBounds_toArray, List.set_cons_zero, List.set_cons_succ])
        refine takeH (i := 8) (oi := _) (v := ?_) rfl (by kernel_rfl) (by kernel_rfl) (by kernel_rfl) (fun _ _ _ h => h) (Or.inl ⟨by rfl, ?_⟩) (by assumption) ?_
        rotate_left
        · first | (intro w hSw; (try dsimp only at hSw); go_simp; done) | (intro w hSw; (try dsimp only at hSw); go_simp; with_reducible rfl)
        (try simp only [Act.put, List.setIfInBounds_toArray, List.set_cons_zero, List.set_cons_succ])
        refine wpAnyH_ready (rs := [9]) (by kernel_rfl) (by simp) ?_
        refine consH rfl (fun Kq hKq => ?_)
        go_simp
        (go_at_call 128; refine (HcC.out _).mono ?_; rintro e w9 ⟨rfl, b9⟩; have hk9 : KeepR wr w9 := KeepR.next b9 (KeepR.start wr); have hsz9 : U ≤ w9.heap.size := Nat.le_trans hsz (Below.size hk9))
        refine hKq.out _ _ ?_ (fun hHeld1 => ?_)
        · (try dsimp only); first | assumption | exact ⟨(Below.refl _ _).drew, hc6, hc7⟩ | exact ⟨(Below.mono hk9 hsz), cell_up hk9 hc6, cell_up hk9 hc7⟩ | exact ⟨Below.alloc (Below.mono hk9 hsz) hsz9 _, cell_up (below_new w9 _) (cell_up hk9 hc6), cell_up (below_new w9 _) (cell_up hk9 hc7)⟩
        clear hKq Kq
        (try simp only [Act.put, List.setIfInBounds_toArray, List.set_cons_zero, List.set_cons_succ])
        clear hHeld0
        refine wpAnyH_ready (rs := [10]) (by kernel_rfl) (by simp) ?_
        refine consH rfl (fun Kq hKq => ?_)
        go_simp
        refine hKq.out _ _ ?_ (fun hHeld2 => ?_)
        · (try dsimp only); first | assumption | exact ⟨(Below.refl _ _).drew, hc6, hc7⟩ | exact ⟨(Below.mono hk9 hsz), cell_up hk9 hc6, cell_up hk9 hc7⟩ | exact ⟨Below.alloc (Below.mono hk9 hsz) hsz9 _, cell_up (below_new w9 _) (cell_up hk9 hc6), cell_up (below_new w9 _) (cell_up hk9 hc7)⟩
        clear hKq Kq
        (try simp only [Act.put, List.setIfInBounds_toArray, List.set_cons_zero, List.set_cons_succ])
        clear hHeld1
        refine wpAnyH_ready (rs := [11]) (by kernel_rfl) (by simp) ?_
        refine consH rfl (fun Kq hKq => ?_)
        (refine Fr.step_push3 (x1 := gn) (x2 := gd) rfl _ _ rfl U _ _ (by rfl) (HO.out.below hk9) (by rfl) (by omega) hsz9 ?_; intro v' w' ho hb hm; have x6 := hm.cell (cell_up hk9 hc6) (P6.out ⟨b6, o6, none⟩ rfl); have x7 := hm.cell (cell_up hk9 hc7) (P7.out ⟨b7, o7, none⟩ rfl); have hSS : Below U wr w' ∧ w'.cell? ⟨b6, o6 + x, none⟩ = some (.int .i64 sx) ∧ w'.cell? ⟨b7, o7 + x, none⟩ = some (.int .i64 tx) := ⟨(Below.mono hk9 hsz).trans hb, x6, x7⟩)
        refine hKq.out _ _ ?_ (fun hHeld3 => ?_)
        · (try dsimp only); first | assumption | exact ⟨(Below.refl _ _).drew, hc6, hc7⟩ | exact ⟨(Below.mono hk9 hsz), cell_up hk9 hc6, cell_up hk9 hc7⟩ | exact ⟨Below.alloc (Below.mono hk9 hsz) hsz9 _, cell_up (below_new w9 _) (cell_up hk9 hc6), cell_up (below_new w9 _) (cell_up hk9 hc7)⟩
        clear hKq Kq
        (try simp only [Act.put, List.setIfInBounds_toArray, List.set_cons_zero, List.set_cons_succ])
        clear hHeld2
        refine takeH (i := 12) (oi := _) (v := ?_) rfl (by kernel_rfl) (by kernel_rfl) (by kernel_rfl) (fun _ _ _ h => h) (Or.inl ⟨by rfl, ?_⟩) (by assumption) ?_
        rotate_left
        · first | (intro w hSw; (try dsimp only at hSw); go_simp; done) | (intro w hSw; (try dsimp only at hSw); go_simp; with_reducible rfl)
        (try simp only [Act.put, List.setIfInBounds_toArray, List.set_cons_zero, List.set_cons_succ])
        refine wpAnyH_done (by kernel_rfl) ?_ _
        refine NoPanic.normal ?_
        go_wp2_with fail
        have hk9' : Below wr.heap.size wr w9 := hk9
        have h6' := (G6.out.below hk9').moved hm (fun _ => P6.out)
        have h7' := (G7.out.below hk9').moved hm (fun _ => P7.out)
        go_roundw
        case rel => exact ⟨x + 1, by omega, by go_num, by rw [Hml.out]; exact ho, h6'.1, h7'.1, h6'.2 (by omega), h7'.2 (by omega), (HP.out.below hk9').up hb (by omega), (hbel.trans (hk9'.mono hbel.size)).trans (hb.mono (by omega)), Nat.le_trans hsz9 hb.size⟩
        case measure => simp [intOf]; omega
      · obtain rfl : x = nP := by omega
        have hfin : (meanL ps ws V).take x = meanL ps ws V := List.take_of_length_le (by rw [meanL_length]; have := Hl.out; omega)
        rw [hfin] at hou
        go_wp2_with fail
        go_ret
        exact ⟨_, rfl, hou.mono (by omega), hbel⟩
end Go.Proofs.Ytnbomleieianoaa

/- Contracts: the bound of a list, what a seer has, by the reference. -/
namespace Go.Proofs.Ytnbomleieianoaa
open Go.RowKit

/-- The values of the ends. -/
def grL (ps pay num : List Int) : List Int := (ends ps).map fun e => bdV ps pay num e.toNat
theorem grL_length (ps pay num : List Int) : (grL ps pay num).length = (ends ps).length := by simp [grL]
theorem nth_grL {ps pay num : List Int} {i e : Nat} (hi : i < (ends ps).length) (he : nth (ends ps) i = (e : Int)) : nth (grL ps pay num) i = bdV ps pay num e := by
  rw [nth_lt (by rw [grL_length]; exact hi)]
  rw [nth_lt hi] at he
  simp [grL, he]
theorem grL_take {ps pay num : List Int} {i e : Nat} (hi : i < (ends ps).length) (he : nth (ends ps) i = (e : Int)) : (grL ps pay num).take (i + 1) = (grL ps pay num).take i ++ [bdV ps pay num e] := by
  rw [take_succ_nth (by rw [grL_length]; exact hi), nth_grL hi he]
theorem bdV_bd {ps pay num : List Int} (h1 : ∀ i, -999 ≤ nth pay i ∧ nth pay i ≤ 999) (h2 : ∀ i, -999 ≤ nth num i ∧ nth num i ≤ 999) (e : Nat) : -2997 ≤ bdV ps pay num e ∧ bdV ps pay num e ≤ 2997 := by
  have := bdE_bd (ps := ps) h1 h2 e
  have := h2 0
  rw [bdV]; omega
set_option maxRecDepth 100000 in
set_option maxHeartbeats 2000000 in
theorem spec_l4Bound (aP : Option Addr) (nP cP : Nat) (aW : Option Addr) (nW cW : Nat) (ps ws : List Int) (aA : Option Addr) (nA cA : Nat) (pay : List Int) (aB : Option Addr) (nB cB : Nat) (num : List Int) (w : World) (h : Tre w aP nP cP aW nW cW ps ws) (hT : Tr ps ws) (hA : Ints w aA nA pay) (hnA : nP = nA) (hB : Ints w aB nB num) (hnB : nP = nB) (h1 : ∀ i, -999 ≤ nth pay i ∧ nth pay i ≤ 999) (h2 : ∀ i, -999 ≤ nth num i ∧ nth num i ≤ 999) :
    Calls Try.prog 118 #[.agg #[.slice aP nP cP, .slice aW nW cW], .slice aA nA cA, .slice aB nB cB] w fun e w' => e = .returned (.agg #[.int .i64 (nm (bndS ps ws pay num) (nth (sums ps ws) 0)), .int .i64 (dn (bndS ps ws pay num) (nth (sums ps ws) 0))]) ∧ Below w.heap.size w w' := by
  subst hnA
  subst hnB
  have HTT := Lib.hid hT
  have hn24 := hT.n24
  have hn1 := hT.n1
  have HT := Lib.hid hT
  have hwl := hT.wl
  have hl := h.p.1
  have hlw := h.w.1
  have hpn := h.pn
  have hwn := h.wn
  have hb1 := below_new w (.cells #[.slice aP nP cP, .slice aW nW cW] 26)
  have hP1 := Lib.hid (Pair.new w (.slice aP nP cP) (.slice aW nW cW) 26)
  have H := Lib.hid h
  have Hl := Lib.hid hl
  have Hlw := Lib.hid hlw
  clear h hl hlw
  have hnW : nW ≤ nP ∧ nP ≤ nW := by have := Hlw.out; have := Hl.out; omega
  have hnP : 1 ≤ nP ∧ nP ≤ 24 := by have := Hl.out; omega
  clear hn24 hn1 hT hwl hpn hwn
  have HA := Lib.hid hA
  have HB := Lib.hid hB
  have Hb1 := Lib.hid h1
  have Hb2 := Lib.hid h2
  have hnP : 1 ≤ nP ∧ nP ≤ 24 := by have := HTT.out.n24; have := HTT.out.n1; have := Hl.out; omega
  clear hA hB h1 h2
  go_enter Try.func118, Try.ntmps118
  have hbb := hb1.trans ((below_new (w.alloc (.cells #[.slice aP nP cP, .slice aW nW cW] 26)) (.cells #[.int .i64 0, .int .i64 0] 48)).mono hb1.size)
  have hPP := Lib.hid (hP1.out.alloc (.cells #[.int .i64 0, .int .i64 0] 48))
  have hR1 := Pair.new (w.alloc (.cells #[.slice aP nP cP, .slice aW nW cW] 26)) (.int .i64 0) (.int .i64 0) 48
  rw [show (w.alloc (.cells #[.slice aP nP cP, .slice aW nW cW] 26)).heap.size = w.heap.size + 1 by simp] at hR1
  have HR1 := Lib.hid hR1
  have c0 := hPP.out.c0
  have c1 := hPP.out.c1
  clear hb1 hP1 hR1
  go_upto_region 1 with fail
  generalize ((w.alloc (.cells #[.slice aP nP cP, .slice aW nW cW] 26)).alloc (.cells #[.int .i64 0, .int .i64 0] 48)) = w2 at *
  go_wp2_with (go_at_call 89; refine (spec_l2Ends _ _ _ _ _ _ ps ws _ (H.out.below hbb) HTT.out.toPa).mono ?_; rintro e w7 ⟨v7, rfl, ho7, hb7⟩; obtain ⟨a7, c7, rfl⟩ := ho7.shape)
  have hnew := below_new w7 (.cells #[] 3)
  have hlt7 : ∀ q, (Value.slice a7 (ends ps).length c7).ownBlock = some q → q < w7.heap.size := fun q hq => (World.ownsRow.lt ho7 q hq).2
  have K7 := Lib.hid (ho7.ints.below hnew)
  have hnil := own_nil0 w7
  have HO7 := Lib.hid hnil
  have HP7 := Lib.hid ((hPP.out.below hb7).below hnew)
  have HR7 := Lib.hid ((HR1.out.below hb7).below hnew)
  have hb17 := (hbb.trans (hb7.mono hbb.size)).trans (hnew.mono (Nat.le_trans hbb.size hb7.size))
  have Hap0 : Hid (0 < (ends ps).length → Apart a7 (Value.slice (some ⟨w7.heap.size, 0, none⟩) 0 0)) := Lib.hid fun _ p hp e => by
    subst hp
    have := hlt7 _ rfl
    simp [Value.ownBlock] at e
    omega
  have hw7 : w.heap.size + 1 < w7.heap.size := (HR1.out.below hb7).lt
  have hw7' : w7.heap.size ≤ (w7.alloc (.cells #[] 3)).heap.size := by simp
  have hel : (ends ps).length ≤ 24 := by have := filt_length (endB ps) ps.length; have := Hl.out; rw [ends]; omega
  have Hen : Hid (∀ i, i < (ends ps).length → ∃ e : Nat, e < nP ∧ nth (ends ps) i = (e : Int)) := Lib.hid fun i hi => by
    obtain ⟨e, h1, h2, h3⟩ := end_nth hi
    exact ⟨e, by have := Hl.out; omega, h3⟩
  clear ho7 hb7 hnil hnew hlt7 hPP HR1 hbb c0 c1
  generalize w7.alloc (.cells #[] 3) = w8 at *
  generalize hU : w7.heap.size = U at *
  clear hU
  have Hgl : Hid (∀ i e : Nat, i < (ends ps).length → nth (ends ps) i = (e : Int) → (grL ps pay num).take (i + 1) = (grL ps pay num).take i ++ [bdV ps pay num e]) := Lib.hid fun i e h1 h2 => grL_take h1 h2
  go_loopw [8, 9] (fun v8 v9 wr => ∃ i : Nat, i ≤ (ends ps).length ∧ v9 = .int .i64 (i : Int) ∧ Own wr U v8 ((grL ps pay num).take i) ∧ Ints wr a7 (ends ps).length (ends ps) ∧ (0 < (ends ps).length → Apart a7 v8) ∧ Pair wr w.heap.size (.slice aP nP cP) (.slice aW nW cW) ∧ Pair wr (w.heap.size + 1) (.int .i64 0) (.int .i64 0) ∧ Below w.heap.size w wr ∧ U ≤ wr.heap.size) (fun _ v9 _ => (ends ps).length - (intOf v9).toNat)
  case atStart => exact ⟨0, Nat.zero_le _, rfl, by rw [List.take_zero]; exact HO7.out, K7.out, Hap0.out, HP7.out, HR7.out, hb17, hw7'⟩
  case round =>
    clear hb17 HO7 K7 Hap0 HP7 HR7 hw7'
    obtain ⟨i, hi, rfl, hou, h7, hap, hP, hR, hbel, hsz⟩ := hrel
    have HP := Lib.hid hP
    have HR := Lib.hid hR
    have K7 := Lib.hid h7
    have Hap := Lib.hid hap
    have x0 := hP.c0
    have x1 := hP.c1
    clear hP hR h7 hap
    obtain ⟨a5, c5, rfl⟩ := hou.shape
    have HO := Lib.hid hou
    clear hou
    by_cases hlt : (i : Int) < (ends ps).length
    · obtain ⟨b7, o7, rfl, hc7⟩ := K7.out.at (i := i) (Below.refl _ _) (by omega)
      obtain ⟨e, he, hei⟩ := Hen.out i (by omega)
      rw [hei] at hc7
      have HglI := Lib.hid (Hgl.out i e (by omega) hei)
      obtain ⟨wo, rfl⟩ : ∃ wo, wo = wr := ⟨_, rfl⟩
      have HcW : Hid (∀ W : World, Below w.heap.size w W → Calls Try.prog 90 #[.agg #[.slice aP nP cP, .slice aW nW cW], .int .i64 (e : Int)] W fun e' w' => ∃ v, e' = .returned v ∧ Own w' W.heap.size v (way ps e) ∧ Below W.heap.size W w') := Lib.hid fun W hW => spec_l2Way _ _ _ _ _ _ ps ws e W (H.out.below hW) HTT.out.toPa he
      have hll : ((grL ps pay num).take i).length ≤ 24 := by rw [List.length_take]; omega
      clear hei
      generalize hacc : (grL ps pay num).take i = acc at *
      clear hacc
      go_wp2_with fail
      refine wp_region_noPanic ?_
      refine wp_region_held_drew (S := fun W' => KeepR wo W' ∧ W'.cell? ⟨w.heap.size, 0, none⟩ = some (.slice aP nP cP) ∧ W'.cell? ⟨w.heap.size, 1, none⟩ = some (.slice aW nW cW) ∧ W'.cell? ⟨b7, o7 + i, none⟩ = some (.int .i64 (e : Int))) (by kernel_rfl) ?_ (fun hHeld0 => ?_)
      · (try dsimp only); first | exact keepC3 (by assumption) x0 x1 hc7 | exact keepC3 (KeepR.start _) x0 x1 hc7
      refine takeH (i := 0) (oi := _) (v := ?_) rfl (by kernel_rfl) (by kernel_rfl) (by kernel_rfl) (fun _ _ _ h => h) (Or.inl ⟨by rfl, ?_⟩) (by assumption) ?_
      rotate_left
      · first | (intro w hSw; (try dsimp only at hSw); go_simp; done) | (intro w hSw; (try dsimp only at hSw); go_simp; with_reducible rfl)
      (try simp only [Act.put, List.setIfInBounds_toArray, List.set_cons_zero, List.set_cons_succ])
      refine takeH (i := 1) (oi := _) (v := ?_) rfl (by kernel_rfl) (by kernel_rfl) (by kernel_rfl) (fun _ _ _ h => h) (Or.inl ⟨by rfl, ?_⟩) (by assumption) ?_
      rotate_left
      · first | (intro w hSw; (try dsimp only at hSw); go_simp; done) | (intro w hSw; (try dsimp only at hSw); go_simp; with_reducible rfl)
      (try simp only [Act.put, List.setIfInBounds_toArray, List.set_cons_zero, List.set_cons_succ])
      refine takeH (i := 2) (oi := _) (v := ?_) rfl (by kernel_rfl) (by kernel_rfl) (by kernel_rfl) (fun _ _ _ h => h) (Or.inl ⟨by rfl, ?_⟩) (by assumption) ?_
      rotate_left
      · first | (intro w hSw; (try dsimp only at hSw); go_simp; done) | (intro w hSw; (try dsimp only at hSw); go_simp; with_reducible rfl)
      (try simp only [Act.put, List.setIfInBounds_toArray, List.set_cons_zero, List.set_cons_succ])
      refine takeH (i := 3) (oi := _) (v := ?_) rfl (by kernel_rfl) (by kernel_rfl) (by kernel_rfl) (fun _ _ _ h => h) (Or.inl ⟨by rfl, ?_⟩) (by assumption) ?_
      rotate_left
      · first | (intro w hSw; (try dsimp only at hSw); go_simp; done) | (intro w hSw; (try dsimp only at hSw); go_simp; with_reducible rfl)
      (try simp only [Act.put, List.setIfInBounds_toArray, List.set_cons_zero, List.set_cons_succ])
      refine takeH (i := 4) (oi := _) (v := ?_) rfl (by kernel_rfl) (by kernel_rfl) (by kernel_rfl) (fun _ _ _ h => h) (Or.inl ⟨by rfl, ?_⟩) (by assumption) ?_
      rotate_left
      · first | (intro w hSw; (try dsimp only at hSw); go_simp; done) | (intro w hSw; (try dsimp only at hSw); go_simp; with_reducible rfl)
      (try simp only [Act.put, List.setIfInBounds_toArray, List.set_cons_zero, List.set_cons_succ])
      refine wpAnyH_ready (rs := [5]) (by kernel_rfl) (by simp) ?_
      refine consH rfl (fun Kq hKq => ?_)
      go_simp
      (go_at_call 90; refine (HcW.out _ (hbel.trans (Below.mono (by assumption : KeepR wo _ ∧ _).1 hbel.size))).mono ?_; rintro e' w9 ⟨v9, rfl, ho9, b9⟩; obtain ⟨a9, c9, rfl⟩ := ho9.shape; have hk9 := KeepR.next b9 (by assumption : KeepR wo _ ∧ _).1)
      refine hKq.out _ _ ?_ (fun hHeld1 => ?_)
      · (try dsimp only); first | exact keepC3 (by assumption) x0 x1 hc7 | exact keepC3 (KeepR.start _) x0 x1 hc7
      clear hKq Kq
      (try simp only [Act.put, List.setIfInBounds_toArray, List.set_cons_zero, List.set_cons_succ])
      clear hHeld0
      refine takeH (i := 6) (oi := _) (v := ?_) rfl (by kernel_rfl) (by kernel_rfl) (by kernel_rfl) (fun _ _ _ h => h) (Or.inl ⟨by rfl, ?_⟩) (by assumption) ?_
      rotate_left
      · first | (intro w hSw; (try dsimp only at hSw); go_simp; done) | (intro w hSw; (try dsimp only at hSw); go_simp; with_reducible rfl)
      (try simp only [Act.put, List.setIfInBounds_toArray, List.set_cons_zero, List.set_cons_succ])
      refine wpAnyH_done (by kernel_rfl) ?_ _
      refine NoPanic.normal ?_
      go_wp2_with fail
      have hk9' : Below wo.heap.size wo w9 := hk9
      have hb19 := hbel.trans (hk9'.mono hbel.size)
      obtain ⟨bA, oA, rfl, hcA⟩ := HA.out.at (i := 0) hb19 (by omega)
      obtain ⟨bN, oN, rfl, hcN⟩ := HB.out.at (i := 0) hb19 (by omega)
      rw [Nat.add_zero] at hcA hcN
      have ha0 := Hb1.out 0
      have hb0 := Hb2.out 0
      have K9 := Lib.hid ho9.ints
      have K7' := Lib.hid (K7.out.below hk9')
      have HP9 := Lib.hid (HP.out.below hk9')
      have HR9 := Lib.hid (HR.out.below hk9')
      have HO9 := Lib.hid (HO.out.below hk9')
      have hsz9 : U ≤ w9.heap.size := Nat.le_trans hsz hk9'.size
      have HA9 := Lib.hid (HA.out.below hb19)
      have HB9 := Lib.hid (HB.out.below hb19)
      have hwl := way_length HTT.out.toPa e (by have := Hl.out; omega)
      have HW : Hid (∀ k, k < (way ps e).length → ∃ y : Nat, y < nP ∧ nth (way ps e) k = (y : Int)) := Lib.hid fun k hk => by
        obtain ⟨y, h1, h2⟩ := nth_way HTT.out.toPa (x := e) (by have := Hl.out; omega) hk
        exact ⟨y, by omega, h2⟩
      have He0 : Hid (exc pay num 0 = nth pay 0 - nth num 0) := Lib.hid (by rw [exc, Int.toNat_zero])
      have HM1 : Hid (mxT (exc pay num) (way ps e) 1 = nth pay 0 - nth num 0) := Lib.hid (by rw [mxT_one (way_root HTT.out.toPa e (by have := Hl.out; omega)), He0.out])
      have HMs : Hid (∀ k, mxT (exc pay num) (way ps e) (k + 1) = max (mxT (exc pay num) (way ps e) k) (exc pay num (nth (way ps e) k))) := Lib.hid fun k => rfl
      have HMb : Hid (∀ k, -1998 ≤ mxT (exc pay num) (way ps e) k ∧ mxT (exc pay num) (way ps e) k ≤ 1998) := Lib.hid fun k => mxT_bd (exc_bd Hb1.out Hb2.out) _ k
      have Hex : Hid (∀ y : Nat, exc pay num (y : Int) = nth pay y - nth num y) := Lib.hid fun y => by rw [exc, Int.toNat_natCast]
      have HbV : Hid (bdV ps pay num e = mxT (exc pay num) (way ps e) (way ps e).length + nth num 0) := Lib.hid rfl
      have hw1 : 1 ≤ (way ps e).length ∧ (way ps e).length ≤ 24 := by omega
      clear ho9 hk9 K7 HP HR HO x0 x1 hwl hbel hsz hc7 b9
      generalize way ps e = ww at *
      generalize nth pay 0 = a0 at *
      generalize hn0 : nth num 0 = n0 at *
      have Hn0 := Lib.hid hn0
      clear hn0
      have j1 : IntKind.i64.wrap (a0 - n0) = a0 - n0 := IntWalk.i64_in _ (by omega)
      go_quiet (fail)
      go_wp2_with fail
      go_loopw [11, 12] (fun v11 v12 wr => ∃ k : Nat, 1 ≤ k ∧ k ≤ ww.length ∧ v12 = .int .i64 (k : Int) ∧ v11 = .int .i64 (mxT (exc pay num) ww k) ∧ Below w9.heap.size w9 wr) (fun _ v12 _ => ww.length - (intOf v12).toNat)
      case atStart => exact ⟨1, Nat.le_refl _, hw1.1, rfl, by rw [HM1.out], below_drewN (Below.refl _ _) _⟩
      case round =>
        obtain ⟨k, hk1, hk, rfl, rfl, hb6⟩ := hrel
        by_cases hltk : (k : Int) < ww.length
        · obtain ⟨b9, o9, rfl, hc9⟩ := K9.out.at (i := k) hb6 (by omega)
          obtain ⟨y, hy, hye⟩ := HW.out k (by omega)
          rw [hye] at hc9
          have HMk := Lib.hid (HMs.out k)
          rw [hye, Hex.out y] at HMk
          obtain ⟨b1, o1, g1, hcp⟩ := HA9.out.at (i := y) hb6 hy
          obtain ⟨b2, o2, g2, hcn⟩ := HB9.out.at (i := y) hb6 hy
          cases g1
          cases g2
          have hpy := Hb1.out y
          have hny := Hb2.out y
          clear hye
          generalize nth pay y = py at *
          generalize nth num y = ny at *
          generalize hmk : mxT (exc pay num) ww k = mk at *
          clear hmk
          have k1 : IntKind.i64.wrap (py - ny) = py - ny := IntWalk.i64_in _ (by omega)
          have k4 : (0 : Int) ≤ (y : Int) := by omega
          have k5 : (y : Int) < (nP : Int) := by omega
          have k6 : (0 : Int) ≤ (k : Int) := by omega
          have HcM : Hid (∀ W : World, Calls Try.prog 94 #[.int .i64 mk, .int .i64 (py - ny)] W fun e' w' => e' = .returned (.int .i64 (mxT (exc pay num) ww (k + 1))) ∧ W = w') := Lib.hid fun W => by
            have := spec_l1Most mk (py - ny) W
            rw [show most mk (py - ny) = mxT (exc pay num) ww (k + 1) by rw [HMk.out, most]; split <;> omega] at this
            exact this
          go_wp2_with fail
          go_region_held3 (fun W' => Below wr.heap.size wr W' ∧ W'.cell? ⟨b9, o9 + k, none⟩ = some (.int .i64 (y : Int)) ∧ W'.cell? ⟨bA, oA + y, none⟩ = some (.int .i64 py) ∧ W'.cell? ⟨bN, oN + y, none⟩ = some (.int .i64 ny))
            (first | assumption | exact ⟨(Below.refl _ _).drew, hc9, hcp, hcn⟩)
            ((go_at_call 94; refine (HcM.out _).mono ?_; rintro e' w' ⟨rfl, rfl⟩))
          go_wp2_with fail
          go_roundw
          case rel => exact ⟨k + 1, by omega, by omega, by go_num, rfl, hb6.drew⟩
          case measure => simp [intOf]; omega
        · obtain rfl : k = ww.length := by omega
          have hb16 := hb19.trans (hb6.mono hb19.size)
          have K8 := Lib.hid (K7'.out.below hb6)
          have HP8 := Lib.hid (HP9.out.below hb6)
          have HR8 := Lib.hid (HR9.out.below hb6)
          have HO8 := HO9.out.below hb6
          have hsz8 : U ≤ wr.heap.size := Nat.le_trans hsz9 hb6.size
          have hmb := HMb.out ww.length
          obtain ⟨b2, o2, g2, hcn⟩ := HB9.out.at (i := 0) hb6 (by omega)
          cases g2
          rw [Nat.add_zero, Hn0.out] at hcn
          have HbVm := Lib.hid HbV.out
          rw [HbVm.out] at HglI
          generalize mxT (exc pay num) ww ww.length = mk at *
          have k1 : IntKind.i64.wrap (mk + n0) = mk + n0 := IntWalk.i64_in _ (by omega)
          have k3 : (0 : Int) < (nP : Int) := by omega
          have HO8' := Lib.hid HO8
          clear HO8
          go_wp2_with (at_builtin; refine wp_push2 _ _ rfl rfl U _ _ rfl HO8'.out rfl (by omega) hsz8 ?_; intro v' w' ho hb hm)
          have h7' := K8.out.moved hm Hap.out
          go_roundw
          case rel => exact ⟨i + 1, by omega, by go_num, by rw [HglI.out]; exact ho, h7'.1, h7'.2, HP8.out.up hb (by omega), HR8.out.up hb (by omega), hb16.trans (hb.mono (by omega)), Nat.le_trans hsz8 hb.size⟩
          case measure => simp [intOf]; omega
    · obtain rfl : i = (ends ps).length := by omega
      have hfin : (grL ps pay num).take (ends ps).length = grL ps pay num := List.take_of_length_le (by rw [grL_length]; exact Nat.le_refl _)
      have HO2 := HO.out
      rw [hfin] at HO2 ⊢
      rw [grL_length] at HO2 ⊢
      have HI := Lib.hid HO2.ints
      have HcM : Hid (∀ W : World, Below wr.heap.size wr W → Calls Try.prog 109 #[.agg #[.slice aP nP cP, .slice aW nW cW], .slice a5 (ends ps).length c5] W fun e' w' => ∃ (gb go q : Nat), e' = .returned (.slice (some ⟨gb, go, none⟩) nP q) ∧ w'.cell? ⟨gb, go, none⟩ = some (.int .i64 (nm (bndS ps ws pay num) (nth (sums ps ws) 0))) ∧ w'.cell? ⟨gb, go + 1, none⟩ = some (.int .i64 (dn (bndS ps ws pay num) (nth (sums ps ws) 0))) ∧ Below W.heap.size W w') := Lib.hid fun W hW => (spec_l2Means _ _ _ _ _ _ ps ws _ _ _ (grL ps pay num) (bdV ps pay num) W (H.out.below (hbel.trans (hW.mono hbel.size))) HTT.out (HI.out.below hW) rfl (fun i e hi he => nth_grL hi he) (bdV_bd Hb1.out Hb2.out)).mono fun e' w' ⟨v, he, ho, hb⟩ => by
        obtain ⟨a, c, rfl⟩ := ho.shape
        have hml : (meanL ps ws (bdV ps pay num)).length = nP := by rw [meanL_length]; exact Hl.out
        rw [hml] at he ho
        obtain ⟨gb, go, rfl, _, hc⟩ := ho.ints.2 (by omega)
        obtain ⟨h1, h2⟩ := hc 0 (by omega)
        obtain ⟨r1, r2⟩ := meanL_root (ps := ps) (ws := ws) (V := bdV ps pay num) (by have := Hl.out; omega)
        rw [r1, tot_root HTT.out] at h1
        rw [r2, tot_root HTT.out] at h2
        exact ⟨gb, go, c, he, by simpa using h1, by simpa using h2, hb⟩
      generalize hgn : nm (bndS ps ws pay num) (nth (sums ps ws) 0) = gn at *
      generalize hgd : dn (bndS ps ws pay num) (nth (sums ps ws) 0) = gd at *
      have Hgn := Lib.hid hgn
      have Hgd := Lib.hid hgd
      clear hgn hgd hfin HO2
      have k3 : (0 : Int) < (nP : Int) := by omega
      have k4 : 0 < nP := by omega
      go_wp2_with (go_at_call 109; refine (HcM.out _ (Below.refl _ _)).mono ?_; rintro e' w9 ⟨gb, go, q9, rfl, z0, z1, b9⟩
                   have hb19 := hbel.trans (b9.mono hbel.size)
                   have hR9 := HR.out.below b9
                   have q3 := hR9.c0
                   have q4 := hR9.c1
                   have q5 := hR9.f0
                   have q6 := hR9.f1
                   have hr := hR9.set (.int .i64 gn) (.int .i64 gd))
      exact bodyPost_ret (v := .agg #[.int .i64 gn, .int .i64 gd]) (by simp [results, Try.results118, go_sem, hr.1, hr.2]) rfl ⟨by rw [← Hgn.out, ← Hgd.out], (hb19.setCell (by simp) _).setCell (by simp) _⟩
set_option maxRecDepth 100000 in
set_option maxHeartbeats 1000000 in
theorem spec_SeerMean (aP : Option Addr) (nP cP : Nat) (aW : Option Addr) (nW cW : Nat) (ps ws : List Int) (aL : Option Addr) (nL cL : Nat) (l : List Int) (w : World) (h : Tre w aP nP cP aW nW cW ps ws) (hL : Ints w aL nL l) (_hLc : aL = none → cL = 0) (hn : nL ≤ 1048576) :
    Calls Try.prog 50 #[.agg #[.slice aP nP cP, .slice aW nW cW], .slice aL nL cL] w fun e w' => e = .returned (.tuple #[.agg #[.int .i64 (boN (paysB ps ws l) ps ws l (zeL ps)), .int .i64 (boD (paysB ps ws l) ps ws l (zeL ps))], .bool (paysB ps ws l)]) ∧ Below w.heap.size w w' := by
  have hl := h.p.1
  have hlw := h.w.1
  have hpn := h.pn
  have hwn := h.wn
  have hb1 := below_new w (.cells #[.slice aP nP cP, .slice aW nW cW] 26)
  have hP1 := Lib.hid (Pair.new w (.slice aP nP cP) (.slice aW nW cW) 26)
  have H := Lib.hid h
  have Hl := Lib.hid hl
  have Hlw := Lib.hid hlw
  clear h hl hlw
  have HL := Lib.hid hL
  have hll := Lib.hid hL.1
  clear hL
  go_enter Try.func50, Try.ntmps50
  have hbb := hb1.trans ((below_new (w.alloc (.cells #[.slice aP nP cP, .slice aW nW cW] 26)) (.cells #[.int .i64 0, .int .i64 0] 48)).mono hb1.size)
  have hPP := Lib.hid (hP1.out.alloc (.cells #[.int .i64 0, .int .i64 0] 48))
  have hR1 := Pair.new (w.alloc (.cells #[.slice aP nP cP, .slice aW nW cW] 26)) (.int .i64 0) (.int .i64 0) 48
  rw [show (w.alloc (.cells #[.slice aP nP cP, .slice aW nW cW] 26)).heap.size = w.heap.size + 1 by simp] at hR1
  have HR1 := Lib.hid hR1
  have c0 := hPP.out.c0
  have c1 := hPP.out.c1
  clear hb1 hP1 hR1
  go_wp2_with fail
  generalize ((w.alloc (.cells #[.slice aP nP cP, .slice aW nW cW] 26)).alloc (.cells #[.int .i64 0, .int .i64 0] 48)) = w2 at *
  refine (spec_l4Pays _ _ _ _ _ _ ps ws _ _ _ l _ (H.out.below hbb) (HL.out.below hbb) hn).mono ?_
  rintro e w4 ⟨rfl, hb4⟩
  have HP4 := Lib.hid (hPP.out.below hb4)
  have HR4 := Lib.hid (HR1.out.below hb4)
  have e0 := HP4.out.c0
  have e1 := HP4.out.c1
  have hb14 := hbb.trans (hb4.mono hbb.size)
  clear c0 c1 hb4 hPP HR1 hbb
  cases hT : paysB ps ws l
  · have Hv := Lib.hid hT
    clear hT
    have q3 := HR4.out.c0
    have q4 := HR4.out.c1
    have q5 := HR4.out.f0
    have q6 := HR4.out.f1
    have hr := HR4.out.set (.int .i64 0) (.int .i64 0)
    go_wp2_with fail
    exact bodyPost_ret (v := .tuple #[.agg #[.int .i64 0, .int .i64 0], .bool false]) (by simp [results, Try.results50, go_sem, hr.1, hr.2]) rfl ⟨by rw [Hv.out]; rfl, (hb14.setCell (by simp) _).setCell (by simp) _⟩
  have Hc := Lib.hid hT
  obtain ⟨hTr, _, _, hleq, hlb⟩ := paysB_t hT
  have hnL : nP = nL := by have := hll.out; have := Hl.out; omega
  have HTr := Lib.hid hTr
  have Hlb := Lib.hid hlb
  have hn24 : nP ≤ 24 := by have := hTr.n24; have := Hl.out; omega
  clear hT hTr hleq hlb hn hpn hwn
  subst hnL
  have hmk := mk_ints nP (by omega)
  have hmx : nP ≤ maxLen := by have : maxLen = 9223372036854775807 := rfl; omega
  have HcB : Hid (∀ (W : World) (ag : Option Addr) (cg : Nat), Below w.heap.size w W → Ints W ag nP (zeL ps) → Calls Try.prog 118 #[.agg #[.slice aP nP cP, .slice aW nW cW], .slice aL nP cL, .slice ag nP cg] W fun e w' => e = .returned (.agg #[.int .i64 (nm (bndS ps ws l (zeL ps)) (nth (sums ps ws) 0)), .int .i64 (dn (bndS ps ws l (zeL ps)) (nth (sums ps ws) 0))]) ∧ Below W.heap.size W w') := Lib.hid fun W ag cg hW hI => spec_l4Bound _ _ _ _ _ _ ps ws _ _ _ l _ _ _ (zeL ps) W (H.out.below hW) HTr.out (HL.out.below hW) rfl hI rfl Hlb.out (nth_zeL ps)
  have HZ : Hid (∀ W : World, Ints (W.alloc (.cells (zv nP) 3)) (some ⟨W.heap.size, 0, none⟩) nP (zeL ps)) := Lib.hid fun W => by
    have := (Own.zeros W W.heap.size nP (Nat.le_refl _) hmx).ints
    rw [zeL, Hl.out]
    exact this
  generalize hgn : nm (bndS ps ws l (zeL ps)) (nth (sums ps ws) 0) = gn at *
  generalize hgd : dn (bndS ps ws l (zeL ps)) (nth (sums ps ws) 0) = gd at *
  have Hgn := Lib.hid hgn
  have Hgd := Lib.hid hgd
  clear hgn hgd
  have hnew := (below_new w4 (.cells (zv nP) 3)).drew
  have hb15 := hb14.trans (hnew.mono hb14.size)
  have HR5 := Lib.hid (HR4.out.below hnew)
  have HP5 := Lib.hid (HP4.out.below hnew)
  have hz := (HZ.out w4).below (Below.refl _ _).drew
  have hS0 : Below w.heap.size w w4.drew ∧ w4.drew.cell? ⟨w.heap.size, 0, none⟩ = some (.slice aP nP cP) ∧ w4.drew.cell? ⟨w.heap.size, 1, none⟩ = some (.slice aW nW cW) := ⟨hb14.drew, e0, e1⟩
  have hSz : Below w.heap.size w (w4.alloc (.cells (zv nP) 3)).drew ∧ (w4.alloc (.cells (zv nP) 3)).drew.cell? ⟨w.heap.size, 0, none⟩ = some (.slice aP nP cP) ∧ (w4.alloc (.cells (zv nP) 3)).drew.cell? ⟨w.heap.size, 1, none⟩ = some (.slice aW nW cW) := ⟨hb15, HP5.out.c0, HP5.out.c1⟩
  go_wp2_with fail
  refine wp_region_noPanic ?_
  refine wp_region_held_drew (S := fun W' => Below w.heap.size w W' ∧ W'.cell? ⟨w.heap.size, 0, none⟩ = some (.slice aP nP cP) ∧ W'.cell? ⟨w.heap.size, 1, none⟩ = some (.slice aW nW cW)) (by kernel_rfl) ?_ (fun hHeld0 => ?_)
  · (try dsimp only); first | exact hS0 | exact hSz | exact hS9 | exact ⟨(hb19.setCell (by simp) _).setCell (by simp) _, cell_far (cell_far hP9.c0 (by simp)) (by simp), cell_far (cell_far hP9.c1 (by simp)) (by simp)⟩
  refine takeH (i := 0) (oi := _) (v := ?_) rfl (by kernel_rfl) (by kernel_rfl) (by kernel_rfl) (fun _ _ _ h => h) (Or.inl ⟨by rfl, ?_⟩) (by assumption) ?_
  rotate_left
  · first | (intro w hSw; (try dsimp only at hSw); go_simp; done) | (intro w hSw; (try dsimp only at hSw); go_simp; with_reducible rfl)
  (try simp only [Act.put, List.setIfInBounds_toArray, List.set_cons_zero, List.set_cons_succ])
  refine takeH (i := 1) (oi := _) (v := ?_) rfl (by kernel_rfl) (by kernel_rfl) (by kernel_rfl) (fun _ _ _ h => h) (Or.inl ⟨by rfl, ?_⟩) (by assumption) ?_
  rotate_left
  · first | (intro w hSw; (try dsimp only at hSw); go_simp; done) | (intro w hSw; (try dsimp only at hSw); go_simp; with_reducible rfl)
  (try simp only [Act.put, List.setIfInBounds_toArray, List.set_cons_zero, List.set_cons_succ])
  refine takeH (i := 2) (oi := _) (v := ?_) rfl (by kernel_rfl) (by kernel_rfl) (by kernel_rfl) (fun _ _ _ h => h) (Or.inl ⟨by rfl, ?_⟩) (by assumption) ?_
  rotate_left
  · first | (intro w hSw; (try dsimp only at hSw); go_simp; done) | (intro w hSw; (try dsimp only at hSw); go_simp; with_reducible rfl)
  (try simp only [Act.put, List.setIfInBounds_toArray, List.set_cons_zero, List.set_cons_succ])
  refine takeH (i := 3) (oi := _) (v := ?_) rfl (by kernel_rfl) (by kernel_rfl) (by kernel_rfl) (fun _ _ _ h => h) (Or.inl ⟨by rfl, ?_⟩) (by assumption) ?_
  rotate_left
  · first | (intro w hSw; (try dsimp only at hSw); go_simp; done) | (intro w hSw; (try dsimp only at hSw); go_simp; with_reducible rfl)
  (try simp only [Act.put, List.setIfInBounds_toArray, List.set_cons_zero, List.set_cons_succ])
  refine wpAnyH_ready (rs := [4]) (by kernel_rfl) (by simp) ?_
  refine consH rfl (fun Kq hKq => ?_)
  go_simp
  refine hKq.out _ _ ?_ (fun hHeld1 => ?_)
  · (try dsimp only); first | exact hS0 | exact hSz | exact hS9 | exact ⟨(hb19.setCell (by simp) _).setCell (by simp) _, cell_far (cell_far hP9.c0 (by simp)) (by simp), cell_far (cell_far hP9.c1 (by simp)) (by simp)⟩
  clear hKq Kq
  (try simp only [Act.put, List.setIfInBounds_toArray, List.set_cons_zero, List.set_cons_succ])
  clear hHeld0
  refine wpAnyH_ready (rs := [5]) (by kernel_rfl) (by simp) ?_
  refine consH rfl (fun Kq hKq => ?_)
  go_simp
  (go_at_call 118; refine (HcB.out _ _ _ hb15 hz).mono ?_; rintro e w9 ⟨rfl, b9⟩; have hb19 := hb15.trans (b9.mono hb15.size); have hR9 := HR5.out.below b9; have hP9 := HP5.out.below b9; have q3 := hR9.c0; have q4 := hR9.c1; have q5 := hR9.f0; have q6 := hR9.f1; have hr := hR9.set (.int .i64 gn) (.int .i64 gd); have hS9 : Below w.heap.size w w9 ∧ w9.cell? ⟨w.heap.size, 0, none⟩ = some (.slice aP nP cP) ∧ w9.cell? ⟨w.heap.size, 1, none⟩ = some (.slice aW nW cW) := ⟨hb19, hP9.c0, hP9.c1⟩)
  refine hKq.out _ _ ?_ (fun hHeld2 => ?_)
  · (try dsimp only); first | exact hS0 | exact hSz | exact hS9 | exact ⟨(hb19.setCell (by simp) _).setCell (by simp) _, cell_far (cell_far hP9.c0 (by simp)) (by simp), cell_far (cell_far hP9.c1 (by simp)) (by simp)⟩
  clear hKq Kq
  (try simp only [Act.put, List.setIfInBounds_toArray, List.set_cons_zero, List.set_cons_succ])
  clear hHeld1
  refine wpAnyH_ready (rs := [6]) (by kernel_rfl) (by simp) ?_
  refine consH rfl (fun Kq hKq => ?_)
  go_simp
  refine hKq.out _ _ ?_ (fun hHeld3 => ?_)
  · (try dsimp only); first | exact hS0 | exact hSz | exact hS9 | exact ⟨(hb19.setCell (by simp) _).setCell (by simp) _, cell_far (cell_far hP9.c0 (by simp)) (by simp), cell_far (cell_far hP9.c1 (by simp)) (by simp)⟩
  clear hKq Kq
  (try simp only [Act.put, List.setIfInBounds_toArray, List.set_cons_zero, List.set_cons_succ])
  clear hHeld2
  refine takeH (i := 7) (oi := _) (v := ?_) rfl (by kernel_rfl) (by kernel_rfl) (by kernel_rfl) (fun _ _ _ h => h) (Or.inl ⟨by rfl, ?_⟩) (by assumption) ?_
  rotate_left
  · first | (intro w hSw; (try dsimp only at hSw); go_simp; done) | (intro w hSw; (try dsimp only at hSw); go_simp; with_reducible rfl)
  (try simp only [Act.put, List.setIfInBounds_toArray, List.set_cons_zero, List.set_cons_succ])
  refine wpAnyH_done (by kernel_rfl) ?_ _
  refine NoPanic.normal ?_
  go_wp2_with fail
  exact bodyPost_ret (v := .tuple #[.agg #[.int .i64 gn, .int .i64 gd], .bool true]) (by simp [results, Try.results50, go_sem, hr.1, hr.2]) rfl ⟨by rw [Hc.out, ← Hgn.out, ← Hgd.out]; rfl, (hb19.setCell (by simp) _).setCell (by simp) _⟩
end Go.Proofs.Ytnbomleieianoaa

/- Contracts: the bound of a balanced list, by the program and by the reference. -/
namespace Go.Proofs.Ytnbomleieianoaa
open Go.RowKit

theorem bb_no1 {ps ws pay num : List Int} (h : balV ps ws num = false) : bbB ps ws pay num = false := by rw [bbB, h]; rfl
theorem bb_no2 {ps ws pay num : List Int} (h : paysB ps ws pay = false) : bbB ps ws pay num = false := by rw [bbB, h]; simp
theorem bb_no3 {ps ws pay num : List Int} (h : paysB ps ws num = false) : bbB ps ws pay num = false := bb_no1 (balV_no h)
theorem bb_yes {ps ws pay num : List Int} (h1 : balV ps ws num = true) (h2 : paysB ps ws pay = true) : bbB ps ws pay num = true := by rw [bbB, h1, h2]; rfl
set_option maxRecDepth 100000 in
set_option maxHeartbeats 1000000 in
theorem impl_BalanceBound (aP : Option Addr) (nP cP : Nat) (aW : Option Addr) (nW cW : Nat) (ps ws : List Int) (aA : Option Addr) (nA cA : Nat) (pay : List Int) (aB : Option Addr) (nB cB : Nat) (num : List Int) (w : World) (h : Tre w aP nP cP aW nW cW ps ws) (hA : Ints w aA nA pay) (_hAc : aA = none → cA = 0) (hnA : nA ≤ 1048576) (hB : Ints w aB nB num) (hBc : aB = none → cB = 0) (hnB : nB ≤ 1048576) :
    Calls Try.prog 45 #[.agg #[.slice aP nP cP, .slice aW nW cW], .slice aA nA cA, .slice aB nB cB] w fun e w' => e = .returned (.tuple #[.agg #[.int .i64 (boN (bbB ps ws pay num) ps ws pay num), .int .i64 (boD (bbB ps ws pay num) ps ws pay num)], .bool (bbB ps ws pay num)]) ∧ Below w.heap.size w w' := by
  have hl := h.p.1
  have hlw := h.w.1
  have hpn := h.pn
  have hwn := h.wn
  have hb1 := below_new w (.cells #[.slice aP nP cP, .slice aW nW cW] 26)
  have hP1 := Lib.hid (Pair.new w (.slice aP nP cP) (.slice aW nW cW) 26)
  have H := Lib.hid h
  have Hl := Lib.hid hl
  have Hlw := Lib.hid hlw
  clear h hl hlw
  have HA := Lib.hid hA
  have hal := Lib.hid hA.1
  have HB := Lib.hid hB
  have hbl := Lib.hid hB.1
  clear hA hB
  go_enter Try.func45, Try.ntmps45
  have hbb := hb1.trans ((below_new (w.alloc (.cells #[.slice aP nP cP, .slice aW nW cW] 26)) (.cells #[.int .i64 0, .int .i64 0] 48)).mono hb1.size)
  have hPP := Lib.hid (hP1.out.alloc (.cells #[.int .i64 0, .int .i64 0] 48))
  have hR1 := Pair.new (w.alloc (.cells #[.slice aP nP cP, .slice aW nW cW] 26)) (.int .i64 0) (.int .i64 0) 48
  rw [show (w.alloc (.cells #[.slice aP nP cP, .slice aW nW cW] 26)).heap.size = w.heap.size + 1 by simp] at hR1
  have HR1 := Lib.hid hR1
  have c0 := hPP.out.c0
  have c1 := hPP.out.c1
  clear hb1 hP1 hR1
  go_wp2_with fail
  generalize ((w.alloc (.cells #[.slice aP nP cP, .slice aW nW cW] 26)).alloc (.cells #[.int .i64 0, .int .i64 0] 48)) = w2 at *
  refine (impl_IsBalanced _ _ _ _ _ _ ps ws _ _ _ num _ (H.out.below hbb) (HB.out.below hbb) hBc hnB).mono ?_
  rintro e w3 ⟨rfl, hb3⟩
  have HP3 := Lib.hid (hPP.out.below hb3)
  have HR3 := Lib.hid (HR1.out.below hb3)
  have d0 := HP3.out.c0
  have d1 := HP3.out.c1
  have hb13 := hbb.trans (hb3.mono hbb.size)
  clear c0 c1 hb3 hPP HR1 hbb
  cases hp : paysB ps ws num
  · have Hv := Lib.hid (bb_no3 (pay := pay) hp)
    clear hp
    have q3 := HR3.out.c0
    have q4 := HR3.out.c1
    have q5 := HR3.out.f0
    have q6 := HR3.out.f1
    have hr := HR3.out.set (.int .i64 0) (.int .i64 0)
    go_wp2_with fail
    exact bodyPost_ret (v := .tuple #[.agg #[.int .i64 0, .int .i64 0], .bool false]) (by simp [results, Try.results45, go_sem, hr.1, hr.2]) rfl ⟨by rw [Hv.out]; rfl, (hb13.setCell (by simp) _).setCell (by simp) _⟩
  have HpB := Lib.hid hp
  have Hbv := Lib.hid (balV_yes hp)
  cases hb : balV ps ws num
  · have Hv := Lib.hid (bb_no1 (pay := pay) hb)
    clear hb hp
    have q3 := HR3.out.c0
    have q4 := HR3.out.c1
    have q5 := HR3.out.f0
    have q6 := HR3.out.f1
    have hr := HR3.out.set (.int .i64 0) (.int .i64 0)
    go_wp2_with fail
    exact bodyPost_ret (v := .tuple #[.agg #[.int .i64 0, .int .i64 0], .bool false]) (by simp [results, Try.results45, go_sem, hr.1, hr.2]) rfl ⟨by rw [Hv.out]; rfl, (hb13.setCell (by simp) _).setCell (by simp) _⟩
  have HbV := Lib.hid hb
  have HT := Lib.hid (paysB_t hp).2.1
  clear hb hp
  go_wp2_with fail
  refine (impl_isProcess _ _ _ _ _ _ ps ws _ _ _ pay _ (H.out.below hb13) (HA.out.below hb13) hnA).mono ?_
  rintro e w4 ⟨rfl, hb4⟩
  have HP4 := Lib.hid (HP3.out.below hb4)
  have HR4 := Lib.hid (HR3.out.below hb4)
  have e0 := HP4.out.c0
  have e1 := HP4.out.c1
  have hb14 := hb13.trans (hb4.mono hb13.size)
  clear d0 d1 hb4 HP3 HR3
  cases hp : procB ps.length pay
  · have Hv := Lib.hid (bb_no2 (num := num) (pays_no2 (ws := ws) hp))
    clear hp
    have q3 := HR4.out.c0
    have q4 := HR4.out.c1
    have q5 := HR4.out.f0
    have q6 := HR4.out.f1
    have hr := HR4.out.set (.int .i64 0) (.int .i64 0)
    go_wp2_with fail
    exact bodyPost_ret (v := .tuple #[.agg #[.int .i64 0, .int .i64 0], .bool false]) (by simp [results, Try.results45, go_sem, hr.1, hr.2]) rfl ⟨by rw [Hv.out]; rfl, (hb14.setCell (by simp) _).setCell (by simp) _⟩
  have HpA := Lib.hid (pays_both HT.out hp)
  have Hc := Lib.hid (bb_yes HbV.out HpA.out)
  clear hp
  obtain ⟨hTr, _, _, hleq, hlb⟩ := paysB_t HpA.out
  obtain ⟨_, _, _, hleq2, hlb2⟩ := paysB_t HpB.out
  have hnA' : nP = nA := by have := hal.out; have := Hl.out; omega
  have hnB' : nP = nB := by have := hbl.out; have := Hl.out; omega
  have HTr := Lib.hid hTr
  have Hlb := Lib.hid hlb
  have Hlb2 := Lib.hid hlb2
  clear hTr hleq hlb hleq2 hlb2 hnA hnB hpn hwn
  subst hnA'
  subst hnB'
  have HcB : Hid (∀ W : World, Below w.heap.size w W → Calls Try.prog 115 #[.agg #[.slice aP nP cP, .slice aW nW cW], .slice aA nP cA, .slice aB nP cB] W fun e w' => e = .returned (.tuple #[.agg #[.int .i64 (nm (bndS ps ws pay num) (nth (sums ps ws) 0)), .int .i64 (dn (bndS ps ws pay num) (nth (sums ps ws) 0))], .bool true]) ∧ Below W.heap.size W w') := Lib.hid fun W hW => impl_bound _ _ _ _ _ _ ps ws _ _ _ pay _ _ _ num W (H.out.below hW) HTr.out (HA.out.below hW) rfl (HB.out.below hW) rfl Hlb.out Hlb2.out
  generalize hgn : nm (bndS ps ws pay num) (nth (sums ps ws) 0) = gn at *
  generalize hgd : dn (bndS ps ws pay num) (nth (sums ps ws) 0) = gd at *
  have Hgn := Lib.hid hgn
  have Hgd := Lib.hid hgd
  clear hgn hgd
  go_wp2_with (go_at_call 115; refine (HcB.out _ hb14).mono ?_; rintro e w9 ⟨rfl, b9⟩
               have hb19 := hb14.trans (b9.mono hb14.size)
               have hR9 := HR4.out.below b9
               have q3 := hR9.c0
               have q4 := hR9.c1
               have q5 := hR9.f0
               have q6 := hR9.f1
               have hr := hR9.set (.int .i64 gn) (.int .i64 gd))
  exact bodyPost_ret (v := .tuple #[.agg #[.int .i64 gn, .int .i64 gd], .bool true]) (by simp [results, Try.results45, go_sem, hr.1, hr.2]) rfl ⟨by rw [Hc.out, ← Hgn.out, ← Hgd.out]; rfl, (hb19.setCell (by simp) _).setCell (by simp) _⟩
set_option maxRecDepth 100000 in
set_option maxHeartbeats 1000000 in
theorem spec_BalanceBound (aP : Option Addr) (nP cP : Nat) (aW : Option Addr) (nW cW : Nat) (ps ws : List Int) (aA : Option Addr) (nA cA : Nat) (pay : List Int) (aB : Option Addr) (nB cB : Nat) (num : List Int) (w : World) (h : Tre w aP nP cP aW nW cW ps ws) (hA : Ints w aA nA pay) (_hAc : aA = none → cA = 0) (hnA : nA ≤ 1048576) (hB : Ints w aB nB num) (_hBc : aB = none → cB = 0) (hnB : nB ≤ 1048576) :
    Calls Try.prog 46 #[.agg #[.slice aP nP cP, .slice aW nW cW], .slice aA nA cA, .slice aB nB cB] w fun e w' => e = .returned (.tuple #[.agg #[.int .i64 (boN (bbB ps ws pay num) ps ws pay num), .int .i64 (boD (bbB ps ws pay num) ps ws pay num)], .bool (bbB ps ws pay num)]) ∧ Below w.heap.size w w' := by
  have hl := h.p.1
  have hlw := h.w.1
  have hpn := h.pn
  have hwn := h.wn
  have hb1 := below_new w (.cells #[.slice aP nP cP, .slice aW nW cW] 26)
  have hP1 := Lib.hid (Pair.new w (.slice aP nP cP) (.slice aW nW cW) 26)
  have H := Lib.hid h
  have Hl := Lib.hid hl
  have Hlw := Lib.hid hlw
  clear h hl hlw
  have HA := Lib.hid hA
  have hal := Lib.hid hA.1
  have HB := Lib.hid hB
  have hbl := Lib.hid hB.1
  clear hA hB
  go_enter Try.func46, Try.ntmps46
  have hbb := hb1.trans ((below_new (w.alloc (.cells #[.slice aP nP cP, .slice aW nW cW] 26)) (.cells #[.int .i64 0, .int .i64 0] 48)).mono hb1.size)
  have hPP := Lib.hid (hP1.out.alloc (.cells #[.int .i64 0, .int .i64 0] 48))
  have hR1 := Pair.new (w.alloc (.cells #[.slice aP nP cP, .slice aW nW cW] 26)) (.int .i64 0) (.int .i64 0) 48
  rw [show (w.alloc (.cells #[.slice aP nP cP, .slice aW nW cW] 26)).heap.size = w.heap.size + 1 by simp] at hR1
  have HR1 := Lib.hid hR1
  have c0 := hPP.out.c0
  have c1 := hPP.out.c1
  clear hb1 hP1 hR1
  go_wp2_with fail
  generalize ((w.alloc (.cells #[.slice aP nP cP, .slice aW nW cW] 26)).alloc (.cells #[.int .i64 0, .int .i64 0] 48)) = w2 at *
  refine (spec_l4Pays _ _ _ _ _ _ ps ws _ _ _ pay _ (H.out.below hbb) (HA.out.below hbb) hnA).mono ?_
  rintro e w3 ⟨rfl, hb3⟩
  have HP3 := Lib.hid (hPP.out.below hb3)
  have HR3 := Lib.hid (HR1.out.below hb3)
  have d0 := HP3.out.c0
  have d1 := HP3.out.c1
  have hb13 := hbb.trans (hb3.mono hbb.size)
  clear c0 c1 hb3 hPP HR1 hbb
  cases hp : paysB ps ws pay
  · have Hv := Lib.hid (bb_no2 (num := num) hp)
    clear hp
    have q3 := HR3.out.c0
    have q4 := HR3.out.c1
    have q5 := HR3.out.f0
    have q6 := HR3.out.f1
    have hr := HR3.out.set (.int .i64 0) (.int .i64 0)
    go_wp2_with fail
    exact bodyPost_ret (v := .tuple #[.agg #[.int .i64 0, .int .i64 0], .bool false]) (by simp [results, Try.results46, go_sem, hr.1, hr.2]) rfl ⟨by rw [Hv.out]; rfl, (hb13.setCell (by simp) _).setCell (by simp) _⟩
  have HpA := Lib.hid hp
  clear hp
  go_wp2_with fail
  refine (spec_l4Pays _ _ _ _ _ _ ps ws _ _ _ num _ (H.out.below hb13) (HB.out.below hb13) hnB).mono ?_
  rintro e w4 ⟨rfl, hb4⟩
  have HP4 := Lib.hid (HP3.out.below hb4)
  have HR4 := Lib.hid (HR3.out.below hb4)
  have e0 := HP4.out.c0
  have e1 := HP4.out.c1
  have hb14 := hb13.trans (hb4.mono hb13.size)
  clear d0 d1 hb4 HP3 HR3
  cases hp : paysB ps ws num
  · have Hv := Lib.hid (bb_no3 (pay := pay) hp)
    clear hp
    have q3 := HR4.out.c0
    have q4 := HR4.out.c1
    have q5 := HR4.out.f0
    have q6 := HR4.out.f1
    have hr := HR4.out.set (.int .i64 0) (.int .i64 0)
    go_wp2_with fail
    exact bodyPost_ret (v := .tuple #[.agg #[.int .i64 0, .int .i64 0], .bool false]) (by simp [results, Try.results46, go_sem, hr.1, hr.2]) rfl ⟨by rw [Hv.out]; rfl, (hb14.setCell (by simp) _).setCell (by simp) _⟩
  have HpB := Lib.hid hp
  have Hbv := Lib.hid (balV_yes hp)
  clear hp
  obtain ⟨hTr, _, _, hleq, hlb⟩ := paysB_t HpA.out
  obtain ⟨_, _, _, hleq2, hlb2⟩ := paysB_t HpB.out
  have hnA' : nP = nA := by have := hal.out; have := Hl.out; omega
  have hnB' : nP = nB := by have := hbl.out; have := Hl.out; omega
  have HTr := Lib.hid hTr
  have Hlb := Lib.hid hlb
  have Hlb2 := Lib.hid hlb2
  clear hTr hleq hlb hleq2 hlb2 hnA hnB hpn hwn
  subst hnA'
  subst hnB'
  go_wp2_with fail
  refine (spec_l4Balanced _ _ _ _ _ _ ps ws _ _ _ num _ (H.out.below hb14) HTr.out (HB.out.below hb14) rfl Hlb2.out).mono ?_
  rintro e w5 ⟨rfl, hb5⟩
  have HP5 := Lib.hid (HP4.out.below hb5)
  have HR5 := Lib.hid (HR4.out.below hb5)
  have f0 := HP5.out.c0
  have f1 := HP5.out.c1
  have hb15 := hb14.trans (hb5.mono hb14.size)
  clear e0 e1 hb5 HP4 HR4
  cases hb : balB ps ws num
  · have Hv := Lib.hid (bb_no1 (pay := pay) (show balV ps ws num = false by rw [Hbv.out, hb]))
    clear hb
    have q3 := HR5.out.c0
    have q4 := HR5.out.c1
    have q5 := HR5.out.f0
    have q6 := HR5.out.f1
    have hr := HR5.out.set (.int .i64 0) (.int .i64 0)
    go_wp2_with fail
    exact bodyPost_ret (v := .tuple #[.agg #[.int .i64 0, .int .i64 0], .bool false]) (by simp [results, Try.results46, go_sem, hr.1, hr.2]) rfl ⟨by rw [Hv.out]; rfl, (hb15.setCell (by simp) _).setCell (by simp) _⟩
  have Hc := Lib.hid (bb_yes (show balV ps ws num = true by rw [Hbv.out, hb]) HpA.out)
  clear hb
  have HcB : Hid (∀ W : World, Below w.heap.size w W → Calls Try.prog 118 #[.agg #[.slice aP nP cP, .slice aW nW cW], .slice aA nP cA, .slice aB nP cB] W fun e w' => e = .returned (.agg #[.int .i64 (nm (bndS ps ws pay num) (nth (sums ps ws) 0)), .int .i64 (dn (bndS ps ws pay num) (nth (sums ps ws) 0))]) ∧ Below W.heap.size W w') := Lib.hid fun W hW => spec_l4Bound _ _ _ _ _ _ ps ws _ _ _ pay _ _ _ num W (H.out.below hW) HTr.out (HA.out.below hW) rfl (HB.out.below hW) rfl Hlb.out Hlb2.out
  generalize hgn : nm (bndS ps ws pay num) (nth (sums ps ws) 0) = gn at *
  generalize hgd : dn (bndS ps ws pay num) (nth (sums ps ws) 0) = gd at *
  have Hgn := Lib.hid hgn
  have Hgd := Lib.hid hgd
  clear hgn hgd
  go_wp2_with (go_at_call 118; refine (HcB.out _ hb15).mono ?_; rintro e w9 ⟨rfl, b9⟩
               have hb19 := hb15.trans (b9.mono hb15.size)
               have hR9 := HR5.out.below b9
               have q3 := hR9.c0
               have q4 := hR9.c1
               have q5 := hR9.f0
               have q6 := hR9.f1
               have hr := hR9.set (.int .i64 gn) (.int .i64 gd))
  exact bodyPost_ret (v := .tuple #[.agg #[.int .i64 gn, .int .i64 gd], .bool true]) (by simp [results, Try.results46, go_sem, hr.1, hr.2]) rfl ⟨by rw [Hc.out, ← Hgn.out, ← Hgd.out]; rfl, (hb19.setCell (by simp) _).setCell (by simp) _⟩
end Go.Proofs.Ytnbomleieianoaa
