/- Contracts: the means at the nodes, by the reference. -/
import Derived.Test.YtjkkfjipgomkdaaSeer2
namespace Go.Proofs.Ytjkkfjipgomkdaa
open Go.RowKit

namespace Fr
/-- The same behind a call of the region. -/
theorem step_push3 {ops : Array Oper} {o : Oper} {a : Act} {K : Act → World → Prop} {Q : Exit → Act → World → Prop} {E : Prop} {w : World} {x1 x2 : Int} (hgd : o.guard = none) (s x : Operand)
    (ho : o.op = .call { callee := .builtin .append, args := #[s, x], argTypes := #[38, 38] })
    (base : Nat) (v : Value) (xs : List (Int × Int)) (hs : a.eval s = v) (hown : Own w base v xs) (hx : a.eval x = .slice (some ⟨w.heap.size, 0, none⟩) 1 1)
    (hl : xs.length ≤ 1048576) (hb : base ≤ w.heap.size)
    (h : ∀ v' w', Own w' base v' (xs ++ [(x1, x2)]) → Below base w w' → Moved w v w' v' → K (a.put o.dst v') w') :
    if Region.wanted o (yielded ops a.tmps) = true then Oper.wp Try.prog o a (w.alloc (.cells #[.int .i64 x1, .int .i64 x2] 34)) K Q else E := by
  obtain ⟨i0, hi0, hz0, hz1, hz2⟩ := info_parts
  refine step_append_lies _ hgd s x 38 ho base 34 i0 (.agg #[.int .i64 0, .int .i64 0]) 2 16 Try.underlying38 hi0 hz0 hz1 hz2 rfl (by decide) v xs.length (fs xs) hs
    (hown.below ((Below.refl _ _).alloc (Nat.le_refl _) _)) ⟨w.heap.size, 0, none⟩ 1 1 [.int .i64 x1, .int .i64 x2] hx rfl
    (World.news_of_block (cs := #[.int .i64 x1, .int .i64 x2]) (t := 34) (fr := (0, 0)) (heap_alloc_new w _)) (by simp [Value.oneCell']) (by decide) (by simp only [maxLen]; omega) (by omega) (by simp; omega) (w.heap.size + 1) (by simp) ?_
  intro g cap w' h1 h2 h3 _
  have hdb : Below w.heap.size w (w.alloc (.cells #[.int .i64 x1, .int .i64 x2] 34)) := ((Below.refl _ _).alloc (Nat.le_refl _) _)
  refine h _ w' ?_ ?_ ⟨Nat.le_trans hdb.size h2.size, fun b hb' hne => ⟨fun e => ?_, ?_⟩⟩
  · unfold Own
    rw [← fs_append, List.length_append]; exact h1
  · exact (((Below.refl base w).alloc hb _)).grown h2 (by simp; omega) fun k hk => (World.ownsRow.lt hown k hk).1
  · simp [Value.ownBlock] at e
    rcases h3 with h3 | h3
    · rw [h3, e] at hne; exact hne rfl
    · omega
  · have := h2.block b (Nat.lt_of_lt_of_le hb' hdb.size) (fun e => hne e.symm)
    rw [this]; exact hdb.block b hb'
end Fr
/-- The means at the nodes. -/
def meanL (ps ws : List Int) (V : Nat → Int) : List (Int × Int) := (List.range ps.length).map fun x => (nm (nth (totA ps ws V) x) (nth (sums ps ws) x), dn (nth (totA ps ws V) x) (nth (sums ps ws) x))
theorem meanL_length (ps ws : List Int) (V : Nat → Int) : (meanL ps ws V).length = ps.length := by simp [meanL]
theorem meanL_take (ps ws : List Int) (V : Nat → Int) {x : Nat} (hx : x < ps.length) : (meanL ps ws V).take (x + 1) = (meanL ps ws V).take x ++ [(nm (nth (totA ps ws V) x) (nth (sums ps ws) x), dn (nth (totA ps ws V) x) (nth (sums ps ws) x))] := by
  rw [List.take_succ_eq_append_getElem (by rw [meanL_length]; exact hx)]
  simp [meanL]
theorem meanL_root {ps ws : List Int} {V : Nat → Int} (h : 0 < ps.length) : Fr.at1 (meanL ps ws V) 0 = nm (nth (totA ps ws V) 0) (nth (sums ps ws) 0) ∧ Fr.at2 (meanL ps ws V) 0 = dn (nth (totA ps ws V) 0) (nth (sums ps ws) 0) := by
  constructor
  · rw [Fr.at1, meanL]; simp [List.getD, h]
  · rw [Fr.at2, meanL]; simp [List.getD, h]
/-- No pairs, sums and totals, just made, apart from each other. -/
def MeanR (u wc : World) (n : Nat) (s t : List Int) (v5 v6 v7 : Value) : Prop :=
  KeepR u wc ∧ ∃ (g5 : Nat) (a6 : Option Addr) (c6 : Nat) (a7 : Option Addr) (c7 : Nat), v5 = .slice (some ⟨g5, 0, none⟩) 0 0 ∧ v6 = .slice a6 n c6 ∧ v7 = .slice a7 n c7 ∧ Fr.Own wc u.heap.size v5 [] ∧ Ints wc a6 n s ∧ Ints wc a7 n t ∧ Apart a6 v5 ∧ Apart a7 v5
theorem mean_mk {u wc : World} {n : Nat} {s t : List Int} {v6 v7 : Value} {b5 b6 b7 g5 : Nat} (hk : KeepR u wc) (hs : s.length = n) (ht : t.length = n) (h5 : Fr.Own wc b5 (.slice (some ⟨g5, 0, none⟩) 0 0) []) (hb : u.heap.size ≤ b5) (h6 : Own wc b6 v6 s) (h7 : Own wc b7 v7 t)
    (s6 : ∀ q, v6.ownBlock = some q → q ≠ g5) (s7 : ∀ q, v7.ownBlock = some q → q ≠ g5) : MeanR u wc n s t (.slice (some ⟨g5, 0, none⟩) 0 0) v6 v7 := by
  obtain ⟨a6, c6, rfl⟩ := h6.shape
  obtain ⟨a7, c7, rfl⟩ := h7.shape
  rw [hs] at h6 s6 ⊢
  rw [ht] at h7 s7 ⊢
  refine ⟨hk, g5, a6, c6, a7, c7, rfl, rfl, rfl, h5.mono hb, h6.ints, h7.ints, fun p hp e => ?_, fun p hp e => ?_⟩
  · subst hp
    simp [Value.ownBlock] at e
    exact s6 _ rfl e.symm
  · subst hp
    simp [Value.ownBlock] at e
    exact s7 _ rfl e.symm
set_option maxRecDepth 100000 in
set_option maxHeartbeats 2000000 in
theorem spec_l2Means (aP : Option Addr) (nP cP : Nat) (aW : Option Addr) (nW cW : Nat) (ps ws : List Int) (aL : Option Addr) (nL cL : Nat) (l : List Int) (V : Nat → Int) (w : World) (h : Tre w aP nP cP aW nW cW ps ws) (hT : Tr ps ws) (hL : Ints w aL nL l) (hnL : (ends ps).length = nL) (hv : ∀ i e : Nat, i < nL → nth (ends ps) i = (e : Int) → nth l i = V e) (hV : ∀ x, -2997 ≤ V x ∧ V x ≤ 2997) :
    Calls Try.prog 98 #[.agg #[.slice aP nP cP, .slice aW nW cW], .slice aL nL cL] w fun e w' => ∃ v, e = .returned v ∧ Fr.Own w' w.heap.size v (meanL ps ws V) ∧ Below w.heap.size w w' := by
  have HTT := Lib.hid hT
  have hn24 := hT.n24
  have hn1 := hT.n1
  have HT := Lib.hid hT
  have hwl := hT.wl
  have hl := h.p.1
  have hlw := h.w.1
  have hpn := h.pn
  have hwn := h.wn
  have hb1 := below_new w (.cells #[.slice aP nP cP, .slice aW nW cW] 28)
  have hP1 := Lib.hid (Pair.new w (.slice aP nP cP) (.slice aW nW cW) 28)
  have H := Lib.hid h
  have Hl := Lib.hid hl
  have Hlw := Lib.hid hlw
  clear h hl hlw
  have hnW : nW ≤ nP ∧ nP ≤ nW := by have := Hlw.out; have := Hl.out; omega
  have hnP : 1 ≤ nP ∧ nP ≤ 24 := by have := Hl.out; omega
  clear hn24 hn1 hT hwl hpn hwn
  have HL0 := Lib.hid hL
  have Hv := Lib.hid hv
  have HV := Lib.hid hV
  have HnL := Lib.hid hnL
  have hnP : 1 ≤ nP ∧ nP ≤ 24 := by have := HTT.out.n24; have := HTT.out.n1; have := Hl.out; omega
  clear hL hv hV hnL
  have Hsl : Hid ((sums ps ws).length = nP) := Lib.hid (by rw [sums_length HTT.out]; exact Hl.out)
  have Htl : Hid ((totA ps ws V).length = nP) := Lib.hid (by rw [totA_length]; exact Hl.out)
  go_enter Try.func98, Try.ntmps98
  have c0 := hP1.out.c0
  have c1 := hP1.out.c1
  go_upto_region 1 with fail
  generalize (w.alloc (.cells #[.slice aP nP cP, .slice aW nW cW] 28)) = w2 at *
  go_cut [5, 6, 7] (fun v5 v6 v7 wc => MeanR w2 wc nP (sums ps ws) (totA ps ws V) v5 v6 v7)
  case first =>
    refine wp_region_noPanic ?_
    refine wp_region_held_drew (S := fun W' => KeepR w2 W' ∧ W'.cell? ⟨w.heap.size, 0, none⟩ = some (.slice aP nP cP) ∧ W'.cell? ⟨w.heap.size, 1, none⟩ = some (.slice aW nW cW)) (by kernel_rfl) ?_ (fun hHeld0 => ?_)
    · (try dsimp only); first | exact keep2 (by assumption) hP1.out | exact keep2 (KeepR.start _) hP1.out | exact keep2 (KeepR.alloc0 _ _) hP1.out | exact keep2 (KeepR.alloc (by assumption : KeepR w2 _ ∧ _).1 _) hP1.out
    refine takeH (i := 1) (oi := _) (v := ?_) rfl (by kernel_rfl) (by kernel_rfl) (by kernel_rfl) (fun _ _ _ h => h) (Or.inl ⟨by rfl, ?_⟩) (by assumption) ?_
    rotate_left
    · first | (intro w hSw; (try dsimp only at hSw); go_simp; done) | (intro w hSw; (try dsimp only at hSw); go_simp; with_reducible rfl)
    (try simp only [Act.put, List.setIfInBounds_toArray, List.set_cons_zero, List.set_cons_succ])
    refine takeH (i := 3) (oi := _) (v := ?_) rfl (by kernel_rfl) (by kernel_rfl) (by kernel_rfl) (fun _ _ _ h => h) (Or.inl ⟨by rfl, ?_⟩) (by assumption) ?_
    rotate_left
    · first | (intro w hSw; (try dsimp only at hSw); go_simp; done) | (intro w hSw; (try dsimp only at hSw); go_simp; with_reducible rfl)
    (try simp only [Act.put, List.setIfInBounds_toArray, List.set_cons_zero, List.set_cons_succ])
    refine takeH (i := 4) (oi := _) (v := ?_) rfl (by kernel_rfl) (by kernel_rfl) (by kernel_rfl) (fun _ _ _ h => h) (Or.inl ⟨by rfl, ?_⟩) (by assumption) ?_
    rotate_left
    · first | (intro w hSw; (try dsimp only at hSw); go_simp; done) | (intro w hSw; (try dsimp only at hSw); go_simp; with_reducible rfl)
    (try simp only [Act.put, List.setIfInBounds_toArray, List.set_cons_zero, List.set_cons_succ])
    refine wpAnyH_ready (rs := [0, 2]) (by kernel_rfl) (by simp) ?_
    refine consM rfl (fun Kq hKq => ?_) (consH rfl (fun Kq hKq => ?_))
    · go_simp
      refine hKq.out _ _ ?_ (fun hHeld1 => ?_)
      · (try dsimp only); first | exact keep2 (by assumption) hP1.out | exact keep2 (KeepR.start _) hP1.out | exact keep2 (KeepR.alloc0 _ _) hP1.out | exact keep2 (KeepR.alloc (by assumption : KeepR w2 _ ∧ _).1 _) hP1.out
      clear hKq Kq
      (try simp only [Act.put, List.setIfInBounds_toArray, List.set_cons_zero, List.set_cons_succ])
      clear hHeld0
      refine wpAnyH_ready (rs := [2]) (by kernel_rfl) (by simp) ?_
      refine consH rfl (fun Kq hKq => ?_)
      go_simp
      (go_at_call 61; refine (spec_l2Sums _ _ _ _ _ _ ps ws _ (H.out.below (hb1.trans (Below.mono (by assumption : KeepR w2 _ ∧ _).1 hb1.size))) HTT.out).mono ?_; rintro e w5 ⟨v5, rfl, o5, b5⟩; have hk5 := KeepR.next b5 (by assumption : KeepR w2 _ ∧ _).1)
      refine hKq.out _ _ ?_ (fun hHeld2 => ?_)
      · (try dsimp only); first | exact keep2 (by assumption) hP1.out | exact keep2 (KeepR.start _) hP1.out | exact keep2 (KeepR.alloc0 _ _) hP1.out | exact keep2 (KeepR.alloc (by assumption : KeepR w2 _ ∧ _).1 _) hP1.out
      clear hKq Kq
      (try simp only [Act.put, List.setIfInBounds_toArray, List.set_cons_zero, List.set_cons_succ])
      clear hHeld1
      refine wpAnyH_ready (rs := [5]) (by kernel_rfl) (by simp) ?_
      refine consH rfl (fun Kq hKq => ?_)
      go_simp
      (go_at_call 112; refine (spec_l2Totals _ _ _ _ _ _ ps ws _ _ _ l V _ (H.out.below (hb1.trans (Below.mono (by assumption : KeepR w2 _ ∧ _).1 hb1.size))) HTT.out (HL0.out.below (hb1.trans (Below.mono (by assumption : KeepR w2 _ ∧ _).1 hb1.size))) HnL.out Hv.out HV.out).mono ?_; rintro e w6 ⟨v6, rfl, o6, b6⟩; have hk6 := KeepR.next b6 (by assumption : KeepR w2 _ ∧ _).1)
      refine hKq.out _ _ ?_ (fun hHeld3 => ?_)
      · (try dsimp only); first | exact keep2 (by assumption) hP1.out | exact keep2 (KeepR.start _) hP1.out | exact keep2 (KeepR.alloc0 _ _) hP1.out | exact keep2 (KeepR.alloc (by assumption : KeepR w2 _ ∧ _).1 _) hP1.out
      clear hKq Kq
      (try simp only [Act.put, List.setIfInBounds_toArray, List.set_cons_zero, List.set_cons_succ])
      clear hHeld2
      refine takeH (i := 6) (oi := _) (v := ?_) rfl (by kernel_rfl) (by kernel_rfl) (by kernel_rfl) (fun _ _ _ h => h) (Or.inl ⟨by rfl, ?_⟩) (by assumption) ?_
      rotate_left
      · first | (intro w hSw; (try dsimp only at hSw); go_simp; done) | (intro w hSw; (try dsimp only at hSw); go_simp; with_reducible rfl)
      (try simp only [Act.put, List.setIfInBounds_toArray, List.set_cons_zero, List.set_cons_succ])
      refine takeH (i := 7) (oi := _) (v := ?_) rfl (by kernel_rfl) (by kernel_rfl) (by kernel_rfl) (fun _ _ _ h => h) (Or.inl ⟨by rfl, ?_⟩) (by assumption) ?_
      rotate_left
      · first | (intro w hSw; (try dsimp only at hSw); go_simp; done) | (intro w hSw; (try dsimp only at hSw); go_simp; with_reducible rfl)
      (try simp only [Act.put, List.setIfInBounds_toArray, List.set_cons_zero, List.set_cons_succ])
      refine takeH (i := 8) (oi := _) (v := ?_) rfl (by kernel_rfl) (by kernel_rfl) (by kernel_rfl) (fun _ _ _ h => h) (Or.inl ⟨by rfl, ?_⟩) (by assumption) ?_
      rotate_left
      · first | (intro w hSw; (try dsimp only at hSw); go_simp; done) | (intro w hSw; (try dsimp only at hSw); go_simp; with_reducible rfl)
      (try simp only [Act.put, List.setIfInBounds_toArray, List.set_cons_zero, List.set_cons_succ])
      refine wpAnyH_done (by kernel_rfl) ?_ _
      refine NoPanic.normal ?_
      go_wp2_with fail
      go_meet
      first
        | exact mean_mk hk6 Hsl.out Htl.out ((((Fr.own_nil0 w2).below (Below.refl _ _).drew).below b5).below b6) (Nat.le_refl _) (o5.below b6) o6 (fun q hq => by have := (World.ownsRow.lt o5 q hq).1; simp at this; omega) (fun q hq => by have := (World.ownsRow.lt o6 q hq).1; have := b5.size; simp at this; omega)
        | exact mean_mk hk6 Hsl.out Htl.out ((Fr.own_nil0 w5).below b6) (Below.size hk5) ((o5.below (below_new w5 _)).below b6) o6 (fun q hq => by have := (World.ownsRow.lt o5 q hq).2; omega) (fun q hq => by have := (World.ownsRow.lt o6 q hq).1; simp at this; omega)
        | exact mean_mk (KeepR.alloc hk6 _) Hsl.out Htl.out (Fr.own_nil0 w6) (Below.size hk6) ((o5.below b6).below (below_new w6 _)) (o6.below (below_new w6 _)) (fun q hq => by have := (World.ownsRow.lt (o5.below b6) q hq).2; omega) (fun q hq => by have := (World.ownsRow.lt o6 q hq).2; omega)
    · go_simp
      (go_at_call 61; refine (spec_l2Sums _ _ _ _ _ _ ps ws _ (H.out.below (hb1.trans (Below.mono (by assumption : KeepR w2 _ ∧ _).1 hb1.size))) HTT.out).mono ?_; rintro e w5 ⟨v5, rfl, o5, b5⟩; have hk5 := KeepR.next b5 (by assumption : KeepR w2 _ ∧ _).1)
      refine hKq.out _ _ ?_ (fun hHeld1 => ?_)
      · (try dsimp only); first | exact keep2 (by assumption) hP1.out | exact keep2 (KeepR.start _) hP1.out | exact keep2 (KeepR.alloc0 _ _) hP1.out | exact keep2 (KeepR.alloc (by assumption : KeepR w2 _ ∧ _).1 _) hP1.out
      clear hKq Kq
      (try simp only [Act.put, List.setIfInBounds_toArray, List.set_cons_zero, List.set_cons_succ])
      clear hHeld0
      refine wpAnyH_ready (rs := [0, 5]) (by kernel_rfl) (by simp) ?_
      refine consM rfl (fun Kq hKq => ?_) (consH rfl (fun Kq hKq => ?_))
      · go_simp
        refine hKq.out _ _ ?_ (fun hHeld2 => ?_)
        · (try dsimp only); first | exact keep2 (by assumption) hP1.out | exact keep2 (KeepR.start _) hP1.out | exact keep2 (KeepR.alloc0 _ _) hP1.out | exact keep2 (KeepR.alloc (by assumption : KeepR w2 _ ∧ _).1 _) hP1.out
        clear hKq Kq
        (try simp only [Act.put, List.setIfInBounds_toArray, List.set_cons_zero, List.set_cons_succ])
        clear hHeld1
        refine wpAnyH_ready (rs := [5]) (by kernel_rfl) (by simp) ?_
        refine consH rfl (fun Kq hKq => ?_)
        go_simp
        (go_at_call 112; refine (spec_l2Totals _ _ _ _ _ _ ps ws _ _ _ l V _ (H.out.below (hb1.trans (Below.mono (by assumption : KeepR w2 _ ∧ _).1 hb1.size))) HTT.out (HL0.out.below (hb1.trans (Below.mono (by assumption : KeepR w2 _ ∧ _).1 hb1.size))) HnL.out Hv.out HV.out).mono ?_; rintro e w6 ⟨v6, rfl, o6, b6⟩; have hk6 := KeepR.next b6 (by assumption : KeepR w2 _ ∧ _).1)
        refine hKq.out _ _ ?_ (fun hHeld3 => ?_)
        · (try dsimp only); first | exact keep2 (by assumption) hP1.out | exact keep2 (KeepR.start _) hP1.out | exact keep2 (KeepR.alloc0 _ _) hP1.out | exact keep2 (KeepR.alloc (by assumption : KeepR w2 _ ∧ _).1 _) hP1.out
        clear hKq Kq
        (try simp only [Act.put, List.setIfInBounds_toArray, List.set_cons_zero, List.set_cons_succ])
        clear hHeld2
        refine takeH (i := 6) (oi := _) (v := ?_) rfl (by kernel_rfl) (by kernel_rfl) (by kernel_rfl) (fun _ _ _ h => h) (Or.inl ⟨by rfl, ?_⟩) (by assumption) ?_
        rotate_left
        · first | (intro w hSw; (try dsimp only at hSw); go_simp; done) | (intro w hSw; (try dsimp only at hSw); go_simp; with_reducible rfl)
        (try simp only [Act.put, List.setIfInBounds_toArray, List.set_cons_zero, List.set_cons_succ])
        refine takeH (i := 7) (oi := _) (v := ?_) rfl (by kernel_rfl) (by kernel_rfl) (by kernel_rfl) (fun _ _ _ h => h) (Or.inl ⟨by rfl, ?_⟩) (by assumption) ?_
        rotate_left
        · first | (intro w hSw; (try dsimp only at hSw); go_simp; done) | (intro w hSw; (try dsimp only at hSw); go_simp; with_reducible rfl)
        (try simp only [Act.put, List.setIfInBounds_toArray, List.set_cons_zero, List.set_cons_succ])
        refine takeH (i := 8) (oi := _) (v := ?_) rfl (by kernel_rfl) (by kernel_rfl) (by kernel_rfl) (fun _ _ _ h => h) (Or.inl ⟨by rfl, ?_⟩) (by assumption) ?_
        rotate_left
        · first | (intro w hSw; (try dsimp only at hSw); go_simp; done) | (intro w hSw; (try dsimp only at hSw); go_simp; with_reducible rfl)
        (try simp only [Act.put, List.setIfInBounds_toArray, List.set_cons_zero, List.set_cons_succ])
        refine wpAnyH_done (by kernel_rfl) ?_ _
        refine NoPanic.normal ?_
        go_wp2_with fail
        go_meet
        first
          | exact mean_mk hk6 Hsl.out Htl.out ((((Fr.own_nil0 w2).below (Below.refl _ _).drew).below b5).below b6) (Nat.le_refl _) (o5.below b6) o6 (fun q hq => by have := (World.ownsRow.lt o5 q hq).1; simp at this; omega) (fun q hq => by have := (World.ownsRow.lt o6 q hq).1; have := b5.size; simp at this; omega)
          | exact mean_mk hk6 Hsl.out Htl.out ((Fr.own_nil0 w5).below b6) (Below.size hk5) ((o5.below (below_new w5 _)).below b6) o6 (fun q hq => by have := (World.ownsRow.lt o5 q hq).2; omega) (fun q hq => by have := (World.ownsRow.lt o6 q hq).1; simp at this; omega)
          | exact mean_mk (KeepR.alloc hk6 _) Hsl.out Htl.out (Fr.own_nil0 w6) (Below.size hk6) ((o5.below b6).below (below_new w6 _)) (o6.below (below_new w6 _)) (fun q hq => by have := (World.ownsRow.lt (o5.below b6) q hq).2; omega) (fun q hq => by have := (World.ownsRow.lt o6 q hq).2; omega)
      · go_simp
        (go_at_call 112; refine (spec_l2Totals _ _ _ _ _ _ ps ws _ _ _ l V _ (H.out.below (hb1.trans (Below.mono (by assumption : KeepR w2 _ ∧ _).1 hb1.size))) HTT.out (HL0.out.below (hb1.trans (Below.mono (by assumption : KeepR w2 _ ∧ _).1 hb1.size))) HnL.out Hv.out HV.out).mono ?_; rintro e w6 ⟨v6, rfl, o6, b6⟩; have hk6 := KeepR.next b6 (by assumption : KeepR w2 _ ∧ _).1)
        refine hKq.out _ _ ?_ (fun hHeld2 => ?_)
        · (try dsimp only); first | exact keep2 (by assumption) hP1.out | exact keep2 (KeepR.start _) hP1.out | exact keep2 (KeepR.alloc0 _ _) hP1.out | exact keep2 (KeepR.alloc (by assumption : KeepR w2 _ ∧ _).1 _) hP1.out
        clear hKq Kq
        (try simp only [Act.put, List.setIfInBounds_toArray, List.set_cons_zero, List.set_cons_succ])
        clear hHeld1
        refine wpAnyH_ready (rs := [0]) (by kernel_rfl) (by simp) ?_
        refine consH rfl (fun Kq hKq => ?_)
        go_simp
        refine hKq.out _ _ ?_ (fun hHeld3 => ?_)
        · (try dsimp only); first | exact keep2 (by assumption) hP1.out | exact keep2 (KeepR.start _) hP1.out | exact keep2 (KeepR.alloc0 _ _) hP1.out | exact keep2 (KeepR.alloc (by assumption : KeepR w2 _ ∧ _).1 _) hP1.out
        clear hKq Kq
        (try simp only [Act.put, List.setIfInBounds_toArray, List.set_cons_zero, List.set_cons_succ])
        clear hHeld2
        refine takeH (i := 6) (oi := _) (v := ?_) rfl (by kernel_rfl) (by kernel_rfl) (by kernel_rfl) (fun _ _ _ h => h) (Or.inl ⟨by rfl, ?_⟩) (by assumption) ?_
        rotate_left
        · first | (intro w hSw; (try dsimp only at hSw); go_simp; done) | (intro w hSw; (try dsimp only at hSw); go_simp; with_reducible rfl)
        (try simp only [Act.put, List.setIfInBounds_toArray, List.set_cons_zero, List.set_cons_succ])
        refine takeH (i := 7) (oi := _) (v := ?_) rfl (by kernel_rfl) (by kernel_rfl) (by kernel_rfl) (fun _ _ _ h => h) (Or.inl ⟨by rfl, ?_⟩) (by assumption) ?_
        rotate_left
        · first | (intro w hSw; (try dsimp only at hSw); go_simp; done) | (intro w hSw; (try dsimp only at hSw); go_simp; with_reducible rfl)
        (try simp only [Act.put, List.setIfInBounds_toArray, List.set_cons_zero, List.set_cons_succ])
        refine takeH (i := 8) (oi := _) (v := ?_) rfl (by kernel_rfl) (by kernel_rfl) (by kernel_rfl) (fun _ _ _ h => h) (Or.inl ⟨by rfl, ?_⟩) (by assumption) ?_
        rotate_left
        · first | (intro w hSw; (try dsimp only at hSw); go_simp; done) | (intro w hSw; (try dsimp only at hSw); go_simp; with_reducible rfl)
        (try simp only [Act.put, List.setIfInBounds_toArray, List.set_cons_zero, List.set_cons_succ])
        refine wpAnyH_done (by kernel_rfl) ?_ _
        refine NoPanic.normal ?_
        go_wp2_with fail
        go_meet
        first
          | exact mean_mk hk6 Hsl.out Htl.out ((((Fr.own_nil0 w2).below (Below.refl _ _).drew).below b5).below b6) (Nat.le_refl _) (o5.below b6) o6 (fun q hq => by have := (World.ownsRow.lt o5 q hq).1; simp at this; omega) (fun q hq => by have := (World.ownsRow.lt o6 q hq).1; have := b5.size; simp at this; omega)
          | exact mean_mk hk6 Hsl.out Htl.out ((Fr.own_nil0 w5).below b6) (Below.size hk5) ((o5.below (below_new w5 _)).below b6) o6 (fun q hq => by have := (World.ownsRow.lt o5 q hq).2; omega) (fun q hq => by have := (World.ownsRow.lt o6 q hq).1; simp at this; omega)
          | exact mean_mk (KeepR.alloc hk6 _) Hsl.out Htl.out (Fr.own_nil0 w6) (Below.size hk6) ((o5.below b6).below (below_new w6 _)) (o6.below (below_new w6 _)) (fun q hq => by have := (World.ownsRow.lt (o5.below b6) q hq).2; omega) (fun q hq => by have := (World.ownsRow.lt o6 q hq).2; omega)
  case rest =>
    obtain ⟨hk5, g5, a6, c6, a7, c7, rfl, rfl, rfl, o5, i6, i7, p6, p7⟩ := hcut
    have hk5b : Below w2.heap.size w2 wc := hk5
    have hb15 := hb1.trans (hk5b.mono hb1.size)
    have HO := Lib.hid o5
    have G6 := Lib.hid i6
    have G7 := Lib.hid i7
    have P6 := Lib.hid p6
    have P7 := Lib.hid p7
    have HP5 := Lib.hid (hP1.out.below hk5b)
    have hw2 : w.heap.size < w2.heap.size := hP1.out.lt
    have hw2c : w2.heap.size ≤ wc.heap.size := hk5b.size
    have Hta := Lib.hid (totA_abs HTT.out HV.out)
    clear hk5 hk5b o5 i6 i7 p6 p7 hP1 hb1 c0 c1
    generalize hU : w2.heap.size = U at *
    clear hU
    go_wp2_with fail
    go_loopw [5, 8] (fun v5 v8 wr => ∃ x : Nat, x ≤ nP ∧ v8 = .int .i64 (x : Int) ∧ Fr.Own wr U v5 ((meanL ps ws V).take x) ∧ Ints wr a6 nP (sums ps ws) ∧ Ints wr a7 nP (totA ps ws V) ∧ Apart a6 v5 ∧ Apart a7 v5 ∧ Pair wr w.heap.size (.slice aP nP cP) (.slice aW nW cW) ∧ Below w.heap.size w wr ∧ U ≤ wr.heap.size) (fun _ v8 _ => nP - (intOf v8).toNat)
    case atStart => exact ⟨0, Nat.zero_le _, rfl, by rw [List.take_zero]; exact HO.out, G6.out, G7.out, P6.out, P7.out, HP5.out, hb15, hw2c⟩
    case round =>
      clear hb15 HO G6 G7 P6 P7 HP5 hw2c
      obtain ⟨x, hx, rfl, hou, h6, h7, p6, p7, hP, hbel, hsz⟩ := hrel
      have HP := Lib.hid hP
      have G6 := Lib.hid h6
      have G7 := Lib.hid h7
      have P6 := Lib.hid p6
      have P7 := Lib.hid p7
      clear hP h6 h7 p6 p7
      by_cases hlt : (x : Int) < nP
      · obtain ⟨b6, o6, rfl, hc6⟩ := G6.out.at (i := x) (Below.refl _ _) (by omega)
        obtain ⟨b7, o7, rfl, hc7⟩ := G7.out.at (i := x) (Below.refl _ _) (by omega)
        have Hml := Lib.hid (meanL_take ps ws V (x := x) (by have := Hl.out; omega))
        have hol : ((meanL ps ws V).take x).length ≤ 24 := by rw [List.length_take]; omega
        have hs1 := sums_pos HTT.out x (by have := Hl.out; omega)
        have hs2 := (sums_bd HTT.out x).2
        have htx := Hta.out x
        have HcC : Hid (∀ W : World, Calls Try.prog 62 #[.int .i64 (nth (totA ps ws V) x), .int .i64 (nth (sums ps ws) x)] W fun e w' => e = .returned (.agg #[.int .i64 (nm (nth (totA ps ws V) x) (nth (sums ps ws) x)), .int .i64 (dn (nth (totA ps ws V) x) (nth (sums ps ws) x))]) ∧ Below W.heap.size W w') := Lib.hid fun W => spec_l2Cut _ _ W (by omega) (by omega)
        clear hs1 hs2 htx
        generalize nm (nth (totA ps ws V) x) (nth (sums ps ws) x) = gn at *
        generalize dn (nth (totA ps ws V) x) (nth (sums ps ws) x) = gd at *
        generalize nth (totA ps ws V) x = tx at *
        generalize nth (sums ps ws) x = sx at *
        generalize (meanL ps ws V).take x = acc at *
        have k2 : (0 : Int) ≤ (x : Int) := by omega
        obtain ⟨a5, c5, rfl⟩ := hou.shape
        have HO := Lib.hid hou
        clear hou
        go_wp2_with fail
        refine wp_region_noPanic ?_
        refine wp_region_held_drew (S := fun W' => Below U wr W' ∧ W'.cell? ⟨b6, o6 + x, none⟩ = some (.int .i64 sx) ∧ W'.cell? ⟨b7, o7 + x, none⟩ = some (.int .i64 tx)) (by kernel_rfl) ?_ (fun hHeld0 => ?_)
        · (try dsimp only); first | assumption | exact ⟨(Below.refl _ _).drew, hc6, hc7⟩ | exact ⟨(Below.mono hk9 hsz), cell_up hk9 hc6, cell_up hk9 hc7⟩ | exact ⟨Below.alloc (Below.mono hk9 hsz) hsz9 _, cell_up (below_new w9 _) (cell_up hk9 hc6), cell_up (below_new w9 _) (cell_up hk9 hc7)⟩
        refine takeH (i := 0) (oi := _) (v := ?_) rfl (by kernel_rfl) (by kernel_rfl) (by kernel_rfl) (fun _ _ _ h => h) (Or.inl ⟨by rfl, ?_⟩) (by assumption) ?_
        rotate_left
        · first | (intro w hSw; (try dsimp only at hSw); go_simp; done) | (intro w hSw; (try dsimp only at hSw); go_simp; with_reducible rfl)
        (try simp only [Act.put, List.setIfInBounds_toArray, List.set_cons_zero, List.set_cons_succ])
        refine takeH (i := 1) (oi := _) (v := ?_) rfl (by kernel_rfl) (by kernel_rfl) (by kernel_rfl) (fun _ _ _ h => h) (Or.inl ⟨by rfl, ?_⟩) (by assumption) ?_
        rotate_left
        · first | (intro w hSw; (try dsimp only at hSw); go_simp; done) | (intro w hSw; (try dsimp only at hSw); go_simp; with_reducible rfl)
        (try simp only [Act.put, List.setIfInBounds_toArray, List.set_cons_zero, List.set_cons_succ])
        refine takeH (i := 2) (oi := _) (v := ?_) rfl (by kernel_rfl) (by kernel_rfl) (by kernel_rfl) (fun _ _ _ h => h) (Or.inl ⟨by rfl, ?_⟩) (by assumption) ?_
        rotate_left
        · first | (intro w hSw; (try dsimp only at hSw); go_simp; done) | (intro w hSw; (try dsimp only at hSw); go_simp; with_reducible rfl)
        (try simp only [Act.put, List.setIfInBounds_toArray, List.set_cons_zero, List.set_cons_succ])
        refine takeH (i := 3) (oi := _) (v := ?_) rfl (by kernel_rfl) (by kernel_rfl) (by kernel_rfl) (fun _ _ _ h => h) (Or.inl ⟨by rfl, ?_⟩) (by assumption) ?_
        rotate_left
        · first | (intro w hSw; (try dsimp only at hSw); go_simp; done) | (intro w hSw; (try dsimp only at hSw); go_simp; with_reducible rfl)
        (try simp only [Act.put, List.setIfInBounds_toArray, List.set_cons_zero, List.set_cons_succ])
        refine takeH (i := 4) (oi := _) (v := ?_) rfl (by kernel_rfl) (by kernel_rfl) (by kernel_rfl) (fun _ _ _ h => h) (Or.inl ⟨by rfl, ?_⟩) (by assumption) ?_
        rotate_left
        · first | (intro w hSw; (try dsimp only at hSw); go_simp; done) | (intro w hSw; (try dsimp only at hSw); go_simp; with_reducible rfl)
        (try simp only [Act.put, List.setIfInBounds_toArray, List.set_cons_zero, List.set_cons_succ])
        refine takeH (i := 5) (oi := _) (v := ?_) rfl (by kernel_rfl) (by kernel_rfl) (by kernel_rfl) (fun _ _ _ h => h) (Or.inl ⟨by rfl, ?_⟩) (by assumption) ?_
        rotate_left
        · first | (intro w hSw; (try dsimp only at hSw); go_simp; done) | (intro w hSw; (try dsimp only at hSw); go_simp; with_reducible rfl)
        (try simp only [Act.put, List.setIfInBounds_toArray, List.set_cons_zero, List.set_cons_succ])
        refine takeH (i := 6) (oi := _) (v := ?_) rfl (by kernel_rfl) (by kernel_rfl) (by kernel_rfl) (fun _ _ _ h => h) (Or.inl ⟨by rfl, ?_⟩) (by assumption) ?_
        rotate_left
        · first | (intro w hSw; (try dsimp only at hSw); go_simp; done) | (intro w hSw; (try dsimp only at hSw); go_simp; with_reducible rfl)
        (try simp only [Act.put, List.setIfInBounds_toArray, List.set_cons_zero, List.set_cons_succ])
        refine takeH (i := 7) (oi := _) (v := ?_) rfl (by kernel_rfl) (by kernel_rfl) (by kernel_rfl) (fun _ _ _ h => h) (Or.inl ⟨by rfl, ?_⟩) (by assumption) ?_
        rotate_left
        · first | (intro w hSw; (try dsimp only at hSw); go_simp; done) | (intro w hSw; (try dsimp only at hSw); go_simp; with_reducible rfl)
        (try simp only [Act.put, List.setIfInBounds_toArray, List.set_cons_zero, List.set_cons_succ])
        refine takeH (i := 8) (oi := _) (v := ?_) rfl (by kernel_rfl) (by kernel_rfl) (by kernel_rfl) (fun _ _ _ h => h) (Or.inl ⟨by rfl, ?_⟩) (by assumption) ?_
        rotate_left
        · first | (intro w hSw; (try dsimp only at hSw); go_simp; done) | (intro w hSw; (try dsimp only at hSw); go_simp; with_reducible rfl)
        (try simp only [Act.put, List.setIfInBounds_toArray, List.set_cons_zero, List.set_cons_succ])
        refine wpAnyH_ready (rs := [9]) (by kernel_rfl) (by simp) ?_
        refine consH rfl (fun Kq hKq => ?_)
        go_simp
        (go_at_call 62; refine (HcC.out _).mono ?_; rintro e w9 ⟨rfl, b9⟩; have hk9 : KeepR wr w9 := KeepR.next b9 (KeepR.start wr); have hsz9 : U ≤ w9.heap.size := Nat.le_trans hsz (Below.size hk9))
        refine hKq.out _ _ ?_ (fun hHeld1 => ?_)
        · (try dsimp only); first | assumption | exact ⟨(Below.refl _ _).drew, hc6, hc7⟩ | exact ⟨(Below.mono hk9 hsz), cell_up hk9 hc6, cell_up hk9 hc7⟩ | exact ⟨Below.alloc (Below.mono hk9 hsz) hsz9 _, cell_up (below_new w9 _) (cell_up hk9 hc6), cell_up (below_new w9 _) (cell_up hk9 hc7)⟩
        clear hKq Kq
        (try simp only [Act.put, List.setIfInBounds_toArray, List.set_cons_zero, List.set_cons_succ])
        clear hHeld0
        refine wpAnyH_ready (rs := [10]) (by kernel_rfl) (by simp) ?_
        refine consH rfl (fun Kq hKq => ?_)
        go_simp
        refine hKq.out _ _ ?_ (fun hHeld2 => ?_)
        · (try dsimp only); first | assumption | exact ⟨(Below.refl _ _).drew, hc6, hc7⟩ | exact ⟨(Below.mono hk9 hsz), cell_up hk9 hc6, cell_up hk9 hc7⟩ | exact ⟨Below.alloc (Below.mono hk9 hsz) hsz9 _, cell_up (below_new w9 _) (cell_up hk9 hc6), cell_up (below_new w9 _) (cell_up hk9 hc7)⟩
        clear hKq Kq
        (try simp only [Act.put, List.setIfInBounds_toArray, List.set_cons_zero, List.set_cons_succ])
        clear hHeld1
        refine wpAnyH_ready (rs := [11]) (by kernel_rfl) (by simp) ?_
        refine consH rfl (fun Kq hKq => ?_)
        (refine Fr.step_push3 (x1 := gn) (x2 := gd) rfl _ _ rfl U _ _ (by rfl) (HO.out.below hk9) (by rfl) (by omega) hsz9 ?_; intro v' w' ho hb hm; have x6 := hm.cell (cell_up hk9 hc6) (P6.out ⟨b6, o6, none⟩ rfl); have x7 := hm.cell (cell_up hk9 hc7) (P7.out ⟨b7, o7, none⟩ rfl); have hSS : Below U wr w' ∧ w'.cell? ⟨b6, o6 + x, none⟩ = some (.int .i64 sx) ∧ w'.cell? ⟨b7, o7 + x, none⟩ = some (.int .i64 tx) := ⟨(Below.mono hk9 hsz).trans hb, x6, x7⟩)
        refine hKq.out _ _ ?_ (fun hHeld3 => ?_)
        · (try dsimp only); first | assumption | exact ⟨(Below.refl _ _).drew, hc6, hc7⟩ | exact ⟨(Below.mono hk9 hsz), cell_up hk9 hc6, cell_up hk9 hc7⟩ | exact ⟨Below.alloc (Below.mono hk9 hsz) hsz9 _, cell_up (below_new w9 _) (cell_up hk9 hc6), cell_up (below_new w9 _) (cell_up hk9 hc7)⟩
        clear hKq Kq
        (try simp only [Act.put, List.setIfInBounds_toArray, List.set_cons_zero, List.set_cons_succ])
        clear hHeld2
        refine takeH (i := 12) (oi := _) (v := ?_) rfl (by kernel_rfl) (by kernel_rfl) (by kernel_rfl) (fun _ _ _ h => h) (Or.inl ⟨by rfl, ?_⟩) (by assumption) ?_
        rotate_left
        · first | (intro w hSw; (try dsimp only at hSw); go_simp; done) | (intro w hSw; (try dsimp only at hSw); go_simp; with_reducible rfl)
        (try simp only [Act.put, List.setIfInBounds_toArray, List.set_cons_zero, List.set_cons_succ])
        refine wpAnyH_done (by kernel_rfl) ?_ _
        refine NoPanic.normal ?_
        go_wp2_with fail
        have hk9' : Below wr.heap.size wr w9 := hk9
        have h6' := (G6.out.below hk9').moved hm (fun _ => P6.out)
        have h7' := (G7.out.below hk9').moved hm (fun _ => P7.out)
        go_roundw
        case rel => exact ⟨x + 1, by omega, by go_num, by rw [Hml.out]; exact ho, h6'.1, h7'.1, h6'.2 (by omega), h7'.2 (by omega), (HP.out.below hk9').up hb (by omega), (hbel.trans (hk9'.mono hbel.size)).trans (hb.mono (by omega)), Nat.le_trans hsz9 hb.size⟩
        case measure => simp [intOf]; omega
      · obtain rfl : x = nP := by omega
        have hfin : (meanL ps ws V).take x = meanL ps ws V := List.take_of_length_le (by rw [meanL_length]; have := Hl.out; omega)
        rw [hfin] at hou
        go_wp2_with fail
        go_ret
        exact ⟨_, rfl, hou.mono (by omega), hbel⟩
end Go.Proofs.Ytjkkfjipgomkdaa
