/- Contracts and plain laws for the statement FnDrifts, part 7. No conditions but those stated in each. -/
import Derived.Test.YtnbomleieianoaaBnFnDrifts2
import Derived.Test.YtnbomleieianoaaBnFnDrifts4
import Derived.Test.YtnbomleieianoaaBnFnDrifts6
/- Small words on memory: appending to slices of bools that the call owns. -/
namespace Go.Proofs.Ytnbomleieianoaa
open Go.RowKit
namespace Bo
theorem info_parts2 : ∃ i0, Try.prog.info? 4 = some i0 ∧ i0.zero = some (.bool false) ∧ i0.size = 1 ∧ i0.bytes = 1 := by
  have := info_bool
  cases h : Try.prog.info? 4 with
  | none => rw [h] at this; cases this
  | some i => rw [h] at this; simp at this; exact ⟨i, rfl, this.1, this.2.1, this.2.2⟩
theorem own_nil0 (w : World) : Own (w.alloc (.cells #[] 4)) w.heap.size (.slice (some ⟨w.heap.size, 0, none⟩) 0 0) [] := by
  have := World.ownsRow_lit (size := 1) (e := 4) (base := w.heap.size) w #[] 0 (Nat.le_refl _) (by simp [maxLen]) (by simp)
  simpa [Own, cs] using this
theorem own_lit1 (w : World) (base : Nat) (u : Bool) (hb : base ≤ w.heap.size) : Own (w.alloc (.cells #[.bool u] 4)) base (.slice (some ⟨w.heap.size, 0, none⟩) 1 1) [u] := by
  have := World.ownsRow_lit (size := 1) (e := 4) (base := base) w #[.bool u] 1 hb (by simp [maxLen]) (by simp)
  simpa [Own, cs] using this
theorem run_app1 {w : World} (ty : TypeId) (base : Nat) (v : Value) (xs : List Bool) (hown : Own w base v xs) (p : Addr) (c : Nat) (u : Bool) (hu : w.cell? (p.add 0) = some (.bool u)) (hl : xs.length ≤ 17592186040320) (hbase : base ≤ w.heap.size) :
    ∃ v' w', (Builtin.append_ #[81, 81] ty #[v, .slice (some p) 1 c]).run Try.prog w = .ok v' w' ∧ Own w' base v' (xs ++ [u]) ∧ Below base w w' ∧ Moved w v w' v' := by
  obtain ⟨i0, hi0, hz0, hz1, hz2⟩ := info_parts2
  obtain ⟨v', w', hr, h1, h2, _, h4⟩ := run_append_own_at (P := Try.prog) w base 81 ty 4 i0 (.bool false) 1 1 Try.underlying81 hi0 hz0 hz1 hz2 rfl (by decide) v xs.length (cs xs) hown p 1 c [.bool u] rfl
    (fun j x hx => by
      cases j with
      | zero => simp at hx; rw [hu, hx]
      | succ j => simp at hx) (by simp [Value.oneCell']) (by simp only [maxLen]; omega) (by omega) hbase
  refine ⟨v', w', hr, ?_, (Below.refl _ _).grown h2 hbase fun k hk => (World.ownsRow.lt hown k hk).1, h2.size, fun g hg hne => ⟨?_, h2.block g hg (fun e => hne e.symm)⟩⟩
  · unfold Own
    rw [← cs_append, List.length_append]
    exact h1
  · rcases h4 with h4 | h4
    · rw [h4]; exact hne
    · rw [h4]; intro e; cases e; omega
/-- 'append(xs, u)' where u was just laid into a new block. -/
theorem wp_push2 {ops : Array Oper} {rest : List Oper} {o : Oper} {a : Act} {Q : Exit → Act → World → Prop} {w : World} {u : Bool} (s x : Operand)
    (hgd : o.guard = none) (ho : o.op = .call { callee := .builtin .append, args := #[s, x], argTypes := #[81, 81] })
    (base : Nat) (v : Value) (xs : List Bool) (hs : a.eval s = v) (hown : Own w base v xs) (hx : a.eval x = .slice (some ⟨w.heap.size, 0, none⟩) 1 1)
    (hl : xs.length ≤ 17592186040320) (hb : base ≤ w.heap.size)
    (h : ∀ v' w', Own w' base v' (xs ++ [u]) → Below base w w' → Moved w v w' v' → wpList Try.prog ops Q rest (a.put o.dst v') w') : wpList Try.prog ops Q (o :: rest) a (w.alloc (.cells #[.bool u] 4)) := by
  have hb0 : Below w.heap.size w (w.alloc (.cells #[.bool u] 4)) := below_new w _
  obtain ⟨v', w', hr, h1, h2, h3⟩ := run_app1 (w := w.alloc (.cells #[.bool u] 4)) o.type base v xs (hown.below hb0) ⟨w.heap.size, 0, none⟩ 1 u (by
    have : (⟨w.heap.size, 0, none⟩ : Addr).add 0 = ⟨w.heap.size, 0, none⟩ := by unfold Addr.add; split <;> simp_all
    rw [this, World.cell?_alloc_at _ _ _ _ rfl]; rfl) hl (by simp; omega)
  refine wpList_plain hgd fun K hK => ?_
  unfold Oper.wp execOp
  simp only [ho, resolve, invoke, builtin, Sem.run_bind, Sem.run_pure, Result.andThen_ok, List.map_toArray, List.map_cons, List.map_nil, hs, hx, hr]
  refine hK _ _ (h v' w' h1 ((hb0.mono hb).trans h2) ⟨by have := h3.1; simp at this; omega, fun g hg hne => ?_⟩)
  have := h3.2 g (by simp; omega) hne
  exact ⟨this.1, this.2.trans (hb0.block g hg)⟩
/-- The same as a step of a region that draws its order. -/
theorem step_push2 {ops : Array Oper} {o : Oper} {a : Act} {K : Act → World → Prop} {Q : Exit → Act → World → Prop} {E : Prop} {w : World} {u : Bool} (hgd : o.guard = none) (s x : Operand)
    (ho : o.op = .call { callee := .builtin .append, args := #[s, x], argTypes := #[81, 81] })
    (base : Nat) (v : Value) (xs : List Bool) (hs : a.eval s = v) (hown : Own w base v xs) (hx : a.eval x = .slice (some ⟨w.heap.size, 0, none⟩) 1 1)
    (hl : xs.length ≤ 17592186040320) (hb : base ≤ w.heap.size)
    (h : ∀ v' w', Own w' base v' (xs ++ [u]) → Below base w w' → Moved w v w' v' → K (a.put o.dst v') w') :
    if Region.wanted o (yielded ops a.tmps) = true then Oper.wp Try.prog o a (w.alloc (.cells #[.bool u] 4)).drew K Q else E := by
  have hw : Region.wanted o (yielded ops a.tmps) = true := by simp [Region.wanted, hgd]
  rw [if_pos hw]
  have hb0 : Below w.heap.size w (w.alloc (.cells #[.bool u] 4)).drew := (below_new w _).drew
  obtain ⟨v', w', hr, h1, h2, h3⟩ := run_app1 (w := (w.alloc (.cells #[.bool u] 4)).drew) o.type base v xs (hown.below hb0) ⟨w.heap.size, 0, none⟩ 1 u (by
    have : (⟨w.heap.size, 0, none⟩ : Addr).add 0 = ⟨w.heap.size, 0, none⟩ := by unfold Addr.add; split <;> simp_all
    rw [this]
    show (w.alloc (.cells #[.bool u] 4)).cell? _ = _
    rw [World.cell?_alloc_at _ _ _ _ rfl]; rfl) hl (by simp; omega)
  unfold Oper.wp execOp
  simp only [ho, resolve, invoke, builtin, Sem.run_bind, Sem.run_pure, Result.andThen_ok, List.map_toArray, List.map_cons, List.map_nil, hs, hx, hr]
  refine h v' w' h1 ((hb0.mono hb).trans h2) ⟨by have := h3.1; simp at this; omega, fun g hg hne => ?_⟩
  have := h3.2 g (by simp; omega) hne
  exact ⟨this.1, this.2.trans (hb0.block g hg)⟩
/-- The same where the world is no longer drawn. -/
theorem step_push3 {ops : Array Oper} {o : Oper} {a : Act} {K : Act → World → Prop} {Q : Exit → Act → World → Prop} {E : Prop} {w : World} {u : Bool} (hgd : o.guard = none) (s x : Operand)
    (ho : o.op = .call { callee := .builtin .append, args := #[s, x], argTypes := #[81, 81] })
    (base : Nat) (v : Value) (xs : List Bool) (hs : a.eval s = v) (hown : Own w base v xs) (hx : a.eval x = .slice (some ⟨w.heap.size, 0, none⟩) 1 1)
    (hl : xs.length ≤ 17592186040320) (hb : base ≤ w.heap.size)
    (h : ∀ v' w', Own w' base v' (xs ++ [u]) → Below base w w' → Moved w v w' v' → K (a.put o.dst v') w') :
    if Region.wanted o (yielded ops a.tmps) = true then Oper.wp Try.prog o a (w.alloc (.cells #[.bool u] 4)) K Q else E := by
  have hw : Region.wanted o (yielded ops a.tmps) = true := by simp [Region.wanted, hgd]
  rw [if_pos hw]
  have hb0 : Below w.heap.size w (w.alloc (.cells #[.bool u] 4)) := below_new w _
  obtain ⟨v', w', hr, h1, h2, h3⟩ := run_app1 (w := (w.alloc (.cells #[.bool u] 4))) o.type base v xs (hown.below hb0) ⟨w.heap.size, 0, none⟩ 1 u (by
    have : (⟨w.heap.size, 0, none⟩ : Addr).add 0 = ⟨w.heap.size, 0, none⟩ := by unfold Addr.add; split <;> simp_all
    rw [this]
    rw [World.cell?_alloc_at _ _ _ _ rfl]; rfl) hl (by simp; omega)
  unfold Oper.wp execOp
  simp only [ho, resolve, invoke, builtin, Sem.run_bind, Sem.run_pure, Result.andThen_ok, List.map_toArray, List.map_cons, List.map_nil, hs, hx, hr]
  refine h v' w' h1 ((hb0.mono hb).trans h2) ⟨by have := h3.1; simp at this; omega, fun g hg hne => ?_⟩
  have := h3.2 g (by simp; omega) hne
  exact ⟨this.1, this.2.trans (hb0.block g hg)⟩
theorem Own.moved {w w' : World} {base : Nat} {u v v' : Value} {xs : List Bool} (h : Own w base u xs) (hm : Moved w v w' v') (ha : ∀ g, u.ownBlock = some g → v.ownBlock ≠ some g) : Own w' base u xs := by
  unfold Own World.ownsRow at *
  refine ⟨h.1, ?_⟩
  rcases h.2 with h1 | ⟨g, cp, cur, h1, h2, h3, h4⟩
  · exact .inl h1
  · have hlt : g < w.heap.size := by
      rcases Nat.lt_or_ge g w.heap.size with hl | hl
      · exact hl
      · rw [Array.getElem?_eq_none hl] at h3; cases h3
    exact .inr ⟨g, cp, cur, h1, h2, by rw [(hm.2 g hlt (ha g (by rw [h1]; rfl))).2]; exact h3, h4⟩
end Bo
end Go.Proofs.Ytnbomleieianoaa

/- Contract: a stopping drawn by the cursor. No conditions but those stated. -/
namespace Go.Proofs.Ytnbomleieianoaa
open Go.RowKit

theorem Bo.own_other {w w' : World} {base g : Nat} {v : Value} {xs : List Bool} (h : Bo.Own w base v xs) (hg : w.grownBy w' (some g)) (hlt : g < base) : Bo.Own w' base v xs :=
  h.grown hg (by
    cases hb : v.ownBlock with
    | none => exact .inl rfl
    | some k => refine .inr fun e => ?_; cases e; have := (World.ownsRow.lt h g hb).1; omega)
/-- A list that is being made and a list of bools, of the call's own and apart; the tree's box lies ahead of them. -/
structure Sp (w wr : World) (g : Nat) (a : Option Addr) (n cap : Nat) (lim : Int) (x y vO : Value) (gd N cd : Nat) (xs : List Int) (ds : List Bool) : Prop where
  cq : Cq w wr g a n cap lim
  box : Pair wr w.heap.size x y
  o : Own wr (w.heap.size + 1) vO xs
  d : Bo.Own wr (w.heap.size + 1) (.slice (some ⟨gd, 0, none⟩) N cd) ds
  ne : vO.ownBlock ≠ some gd
theorem Sp.below {w wr w' : World} {g : Nat} {a : Option Addr} {n cap : Nat} {lim : Int} {x y vO : Value} {gd N cd : Nat} {xs : List Int} {ds : List Bool} (h : Sp w wr g a n cap lim x y vO gd N cd xs ds) (hb : Below wr.heap.size wr w') : Sp w w' g a n cap lim x y vO gd N cd xs ds :=
  ⟨h.cq.below hb, h.box.below hb, h.o.below hb, h.d.below hb, h.ne⟩
theorem Sp.step {w wr w' : World} {g : Nat} {a : Option Addr} {n cap : Nat} {lim lim' : Int} {x y vO : Value} {gd N cd : Nat} {xs : List Int} {ds : List Bool} (h : Sp w wr g a n cap lim x y vO gd N cd xs ds) (hc : Cur w' g a n cap lim') (hg : wr.grownBy w' (some g)) : Sp w w' g a n cap lim' x y vO gd N cd xs ds :=
  ⟨h.cq.step hc hg, pair_other h.box hg (by have := h.cq.glt; omega), own_other h.o hg (by have := h.cq.glt; omega), Bo.own_other h.d hg (by have := h.cq.glt; omega), h.ne⟩
theorem Sp.mono {w wr : World} {g : Nat} {a : Option Addr} {n cap : Nat} {lim lim' : Int} {x y vO : Value} {gd N cd : Nat} {xs : List Int} {ds : List Bool} (h : Sp w wr g a n cap lim x y vO gd N cd xs ds) (hl : lim ≤ lim') : Sp w wr g a n cap lim' x y vO gd N cd xs ds :=
  ⟨h.cq.mono hl, h.box, h.o, h.d, h.ne⟩
theorem Sp.push {w wr w' : World} {g : Nat} {a : Option Addr} {n cap : Nat} {lim : Int} {x y vO v' : Value} {gd N cd : Nat} {xs xs' : List Int} {ds : List Bool} (h : Sp w wr g a n cap lim x y vO gd N cd xs ds) (ho : Own w' (w.heap.size + 1) v' xs') (hb : Below (w.heap.size + 1) wr w') (hm : Moved wr vO w' v') : Sp w w' g a n cap lim x y v' gd N cd xs' ds :=
  ⟨h.cq.up (hb.mono (by omega)), h.box.up hb (by omega), ho, h.d.moved hm (fun k h1 e => h.ne (by cases h1; exact e)), (hm.2 gd h.d.lt.2 h.ne).1⟩
theorem Sp.put {w wr : World} {g : Nat} {a : Option Addr} {n cap : Nat} {lim : Int} {x y vO : Value} {gd N cd : Nat} {xs : List Int} {ds : List Bool} (h : Sp w wr g a n cap lim x y vO gd N cd xs ds) (hn : N = ds.length) (i : Nat) (u : Bool) : Sp w (wr.setCell ⟨gd, i, none⟩ (.bool u)) g a n cap lim x y vO gd N cd xs (ds.set i u) := by
  have h1 := h.d.lt
  exact ⟨h.cq.up (show Below w.heap.size wr (wr.setCell ⟨gd, i, none⟩ (.bool u)) from (Below.refl w.heap.size wr).setCell (show w.heap.size ≤ gd by omega) _), h.box.far (by omega) _, h.o.far (a := ⟨gd, i, none⟩) h.ne _, h.d.set hn i u, h.ne⟩
set_option maxRecDepth 100000 in
set_option maxHeartbeats 4000000 in
theorem spec_stop3 (g : Nat) (a : Option Addr) (n cap : Nat) (lim : Int) (base : Nat) (aP : Option Addr) (nP cP : Nat) (aW : Option Addr) (nW cW : Nat) (ps ws : List Int) (w : World) (hl : lim ≤ 20000) (hD : DTre w base aP nP cP aW nW cW ps ws) (hgb : g < base) (h : Cur w g a n cap lim) :
    Calls Try.prog 131 #[.pointer (some ⟨g, 0, none⟩), .agg #[.slice aP nP cP, .slice aW nW cW]] w fun e w' => (∃ v, e = .returned v ∧ OwnA w' w.heap.size v 31) ∧ Cur w' g a n cap (lim + 1000) ∧ w.grownBy w' (some g) := by
  have C0 := Lib.hid (((Cq.start h).lit (.cells #[.slice aP nP cP, .slice aW nW cW] 26)).lit (.cells #[] 3))
  have P0 := Lib.hid ((Pair.new w (.slice aP nP cP) (.slice aW nW cW) 26).alloc (.cells #[] 3))
  have hnil : Own ((w.alloc (.cells #[.slice aP nP cP, .slice aW nW cW] 26)).alloc (.cells #[] 3)) (w.heap.size + 1) (.slice (some ⟨w.heap.size + 1, 0, none⟩) 0 0) [] := by
    have := own_nil0 (w.alloc (.cells #[.slice aP nP cP, .slice aW nW cW] 26))
    simpa using this
  have O0 := Lib.hid hnil
  have hgw := h.lt
  have hnP := hD.pn
  have HD := Lib.hid (fun w' (hg : w.grownBy w' (some g)) => (hD.other hg hgb).tre)
  have Hl := Lib.hid hD.p.ints.1
  have Hlw := Lib.hid hD.w.ints.1
  clear h hD hnil
  go_enter Try.func131, Try.ntmps131
  have c0 := P0.out.c0
  have c1 := P0.out.c1
  go_wp2_with fail
  generalize ((w.alloc (.cells #[.slice aP nP cP, .slice aW nW cW] 26)).alloc (.cells #[] 3)) = w1 at *
  refine (spec_l2Good _ _ _ _ _ _ ps ws _ (HD.out _ C0.out.grow)).mono ?_
  rintro e w2 ⟨rfl, b2⟩
  have C2 := Lib.hid (C0.out.below b2)
  have P2 := Lib.hid (P0.out.below b2)
  have O2 := Lib.hid (O0.out.below b2)
  have d0 := P2.out.c0
  have d1 := P2.out.c1
  have hs2 : w.heap.size < w2.heap.size := P2.out.lt
  clear b2 c0 c1 C0 P0 O0
  cases ht : treeB ps ws
  · clear ht
    go_wp2_with fail
    go_ret
    exact ⟨⟨_, rfl, [], O2.out.mono (by omega), by simp⟩, C2.out.cur.mono (by omega), C2.out.grow⟩
  · have hTr := Lib.hid (treeB_t ht)
    clear ht
    have hn1 : 1 ≤ nP ∧ nP ≤ 24 := by have := hTr.out.n1; have := hTr.out.n24; have := Hl.out; omega
    have hmk := Bo.mk_bools nP (by omega)
    have hmx : nP ≤ maxLen := by have : maxLen = 9223372036854775807 := rfl; omega
    have hS : Sp w (w2.alloc (.cells (Bo.zv nP) 4)) g a n cap (lim + 10) (.slice aP nP cP) (.slice aW nW cW) (.slice (some ⟨w.heap.size + 1, 0, none⟩) 0 0) w2.heap.size nP nP [] (List.replicate nP false) :=
      ⟨(C2.out.lit _).mono (by omega), P2.out.alloc _, O2.out.lit _, (Bo.Own.zeros w2 (w.heap.size + 1) nP (by omega) hmx), by have := (World.ownsRow.lt O2.out (w.heap.size + 1) rfl).2; simp [Value.ownBlock]; omega⟩
    have HS := Lib.hid hS
    clear hS C2 P2 O2
    go_wp2_with fail
    clear hmk d1 d0
    generalize (w2.alloc (.cells (Bo.zv nP) 4)) = w3 at *
    generalize w2.heap.size = gd at *
    generalize (Value.slice (some ⟨w.heap.size + 1, 0, none⟩) 0 0) = v0 at *
    go_loopw [5, 7] (fun v5 v7 wr => ∃ (k : Nat) (xs : List Int) (ds : List Bool), k ≤ nP ∧ v7 = .int .i64 (k : Int) ∧ xs.length ≤ k ∧ ds.length = nP ∧ Sp w wr g a n cap (lim + 10 + 2 * (k : Int)) (.slice aP nP cP) (.slice aW nW cW) v5 gd nP nP xs ds) (fun _ v7 _ => nP - (intOf v7).toNat)
    case atStart => exact ⟨0, [], List.replicate nP false, Nat.zero_le _, rfl, by simp, by simp, HS.out.mono (by omega)⟩
    case round =>
      clear HS
      obtain ⟨k, xs, ds, hk, rfl, hxl, hdl, hS⟩ := hrel
      have HS := Lib.hid hS
      have Hdl := Lib.hid hdl
      clear hS hdl
      by_cases hlt : (k : Int) < nP
      · have d0 := HS.out.box.c0
        have d1 := HS.out.box.c1
        have hgdl := HS.out.d.lt.2
        have hdk := HS.out.d.cell (i := k) (by have := Hdl.out; omega)
        have hfk := HS.out.d.free Hdl.out.symm k
        have hwl : nW = nP := by have := hTr.out.wl; have := Hl.out; have := Hlw.out; omega
        obtain ⟨bW, oW, rfl, hcW⟩ := (HD.out _ HS.out.cq.grow).w.at (i := k) (Below.refl _ _) (by omega)
        have hkW : k < nW := by omega
        have hsr : w.heap.size + 1 ≤ wr.heap.size := HS.out.box.lt
        generalize nth ws k = wq at *
        generalize Bo.nth ds k = dk at *
        clear hwl
        by_cases hk0 : (k : Int) > 0
        · obtain ⟨bP, oP, rfl, hcP⟩ := (HD.out _ HS.out.cq.grow).p.at (i := k) (Below.refl _ _) (by omega)
          have hup := hTr.out.toPa.upN (x := k) (by omega) (by have := Hl.out; omega)
          rw [hup.1] at hcP
          have hupl := hup.2
          clear hup
          generalize par ps k = p at *
          have hdp := HS.out.d.cell (i := p) (by have := Hdl.out; omega)
          generalize Bo.nth ds p = dp at *
          cases dp
          · by_cases hq : wq > 0
            · go_wp2_with (at_builtin; refine wp_push2 (.tmp 48) (.tmp 50) rfl rfl (w.heap.size + 1) _ xs rfl HS.out.o rfl (by omega) hsr ?_; intro v' w' ho hb hm; have HS2 := Lib.hid (HS.out.push ho hb hm); clear ho hb hm; have e1 := HS2.out.d.cell (i := k) (by have := Hdl.out; omega); have e2 := HS2.out.d.free Hdl.out.symm k)
              go_roundw
              case rel => exact ⟨k + 1, _, _, by omega, by go_num, by simp; omega, by rw [List.length_set]; exact Hdl.out, (HS2.out.put Hdl.out.symm k true).mono (by omega)⟩
              case measure => simp [intOf]; omega
            · go_wp2_with fail
              refine (spec_one g a n cap _ _ _ (by omega) (by omega) HS.out.cq.cur).mono ?_
              rintro e w7 ⟨⟨t, rfl⟩, c7, g7⟩
              have HS7 := Lib.hid (HS.out.step c7 g7)
              have hsr7 : w.heap.size + 1 ≤ w7.heap.size := HS7.out.box.lt
              clear c7 g7 hdk hfk hdp d0 d1 hcW hcP
              cases t
              · go_wp2_with fail
                go_roundw
                case rel => exact ⟨k + 1, xs, ds, by omega, by go_num, by omega, Hdl.out, HS7.out.mono (by omega)⟩
                case measure => simp [intOf]; omega
              · go_wp2_with (at_builtin; refine wp_push2 (.tmp 48) (.tmp 50) rfl rfl (w.heap.size + 1) _ xs rfl HS7.out.o rfl (by omega) hsr7 ?_; intro v' w' ho hb hm; have HS2 := Lib.hid (HS7.out.push ho hb hm); clear ho hb hm; have e1 := HS2.out.d.cell (i := k) (by have := Hdl.out; omega); have e2 := HS2.out.d.free Hdl.out.symm k)
                go_roundw
                case rel => exact ⟨k + 1, _, _, by omega, by go_num, by simp; omega, by rw [List.length_set]; exact Hdl.out, (HS2.out.put Hdl.out.symm k true).mono (by omega)⟩
                case measure => simp [intOf]; omega
          · go_wp2_with fail
            go_roundw
            case rel => exact ⟨k + 1, xs, _, by omega, by go_num, by omega, by rw [List.length_set]; exact Hdl.out, (HS.out.put Hdl.out.symm k true).mono (by omega)⟩
            case measure => simp [intOf]; omega
        · by_cases hq : wq > 0
          · go_wp2_with (at_builtin; refine wp_push2 (.tmp 48) (.tmp 50) rfl rfl (w.heap.size + 1) _ xs rfl HS.out.o rfl (by omega) hsr ?_; intro v' w' ho hb hm; have HS2 := Lib.hid (HS.out.push ho hb hm); clear ho hb hm; have e1 := HS2.out.d.cell (i := k) (by have := Hdl.out; omega); have e2 := HS2.out.d.free Hdl.out.symm k)
            go_roundw
            case rel => exact ⟨k + 1, _, _, by omega, by go_num, by simp; omega, by rw [List.length_set]; exact Hdl.out, (HS2.out.put Hdl.out.symm k true).mono (by omega)⟩
            case measure => simp [intOf]; omega
          · go_wp2_with fail
            refine (spec_one g a n cap _ _ _ (by omega) (by omega) HS.out.cq.cur).mono ?_
            rintro e w7 ⟨⟨t, rfl⟩, c7, g7⟩
            have HS7 := Lib.hid (HS.out.step c7 g7)
            have hsr7 : w.heap.size + 1 ≤ w7.heap.size := HS7.out.box.lt
            clear c7 g7 hdk hfk d0 d1 hcW
            cases t
            · go_wp2_with fail
              go_roundw
              case rel => exact ⟨k + 1, xs, ds, by omega, by go_num, by omega, Hdl.out, HS7.out.mono (by omega)⟩
              case measure => simp [intOf]; omega
            · go_wp2_with (at_builtin; refine wp_push2 (.tmp 48) (.tmp 50) rfl rfl (w.heap.size + 1) _ xs rfl HS7.out.o rfl (by omega) hsr7 ?_; intro v' w' ho hb hm; have HS2 := Lib.hid (HS7.out.push ho hb hm); clear ho hb hm; have e1 := HS2.out.d.cell (i := k) (by have := Hdl.out; omega); have e2 := HS2.out.d.free Hdl.out.symm k)
              go_roundw
              case rel => exact ⟨k + 1, _, _, by omega, by go_num, by simp; omega, by rw [List.length_set]; exact Hdl.out, (HS2.out.put Hdl.out.symm k true).mono (by omega)⟩
              case measure => simp [intOf]; omega
      · obtain rfl : k = nP := by omega
        clear hlt
        go_wp2_with fail
        refine (spec_one g a n cap _ _ _ (by omega) (by omega) HS.out.cq.cur).mono ?_
        rintro e w7 ⟨⟨t, rfl⟩, c7, g7⟩
        have HS7 := Lib.hid (HS.out.step c7 g7)
        have d0 := HS7.out.box.c0
        have d1 := HS7.out.box.c1
        clear c7 g7 HS
        cases t
        · go_wp2_with fail
          go_ret
          exact ⟨⟨_, rfl, xs, HS7.out.o.mono (by omega), by omega⟩, HS7.out.cq.cur.mono (by omega), HS7.out.cq.grow⟩
        · go_wp2_with fail
          refine (spec_nodeOf g a n cap _ aP k cP aW nW cW _ (by omega) hnP HS7.out.cq.cur).mono ?_
          rintro e w8 ⟨⟨z, rfl⟩, c8, g8⟩
          have HS8 := Lib.hid (HS7.out.step c8 g8)
          have hsr8 : w.heap.size + 1 ≤ w8.heap.size := HS8.out.box.lt
          clear c8 g8 HS7 d0 d1
          go_wp2_with (at_builtin; refine wp_push2 (.tmp 57) (.tmp 61) rfl rfl (w.heap.size + 1) _ xs rfl HS8.out.o rfl (by omega) hsr8 ?_; intro v' w' ho hb hm; have HS2 := Lib.hid (HS8.out.push ho hb hm); clear ho hb hm)
          go_ret
          exact ⟨⟨_, rfl, _, HS2.out.o.mono (by omega), by simp; omega⟩, HS2.out.cq.cur.mono (by omega), HS2.out.cq.grow⟩
end Go.Proofs.Ytnbomleieianoaa

/- Contracts: what is drawn with a tree. No conditions but those stated. -/
namespace Go.Proofs.Ytnbomleieianoaa
open Go.RowKit

set_option maxHeartbeats 1000000 in
theorem spec_tree (g : Nat) (a : Option Addr) (n cap : Nat) (lim : Int) (w : World) (hl : lim ≤ 10000) (h : Cur w g a n cap lim) :
    Calls Try.prog 82 #[.pointer (some ⟨g, 0, none⟩)] w fun e w' => (∃ v, e = .returned v ∧ TreV w' w.heap.size v) ∧ Cur w' g a n cap (lim + 400) ∧ w.grownBy w' (some g) := by
  have C0 := Lib.hid (((Cq.start h).lit (.cells #[.slice none 0 0, .slice none 0 0] 26)))
  have R0 := Lib.hid (Pair.new w (.slice none 0 0) (.slice none 0 0) 26)
  have hs0 : w.heap.size < (w.alloc (.cells #[.slice none 0 0, .slice none 0 0] 26)).heap.size := by simp
  have hgw := h.lt
  clear h
  go_enter Try.func82, Try.ntmps82
  go_wp2_with fail
  generalize (w.alloc (.cells #[.slice none 0 0, .slice none 0 0] 26)) = w1 at *
  refine (spec_someTree g a n cap lim 24 _ (by omega) (by omega) C0.out.cur).mono ?_
  rintro e w2 ⟨⟨v, rfl, aP, nP, cP, aW, nW, cW, ps, ws, rfl, hD⟩, c2, g2⟩
  have C2 := Lib.hid (C0.out.step c2 g2)
  have R2 := pair_other R0.out g2 (by omega)
  have e0 := R2.c0
  have e1 := R2.c1
  have f0 := R2.f0
  have f1 := R2.f1
  have hr := R2.set (.slice aP nP cP) (.slice aW nW cW)
  have hp : (Value.slice aP nP cP).ownBlock ≠ some w.heap.size := fun e => by have := (World.ownsRow.lt hD.p _ e).1; omega
  have hw : (Value.slice aW nW cW).ownBlock ≠ some w.heap.size := fun e => by have := (World.ownsRow.lt hD.w _ e).1; omega
  have HD := Lib.hid hD
  have Hp := Lib.hid hp
  have Hw := Lib.hid hw
  clear c2 g2 hD hp hw
  go_wp2_with fail
  exact bodyPost_ret (v := .agg #[.slice aP nP cP, .slice aW nW cW]) (by simp [results, Try.results82, go_sem, hr.1, hr.2]) rfl ⟨⟨_, rfl, _, _, _, _, _, _, ps, ws, rfl, ((HD.out.p.far (a := ⟨w.heap.size, 0, none⟩) Hp.out _).far (a := ⟨w.heap.size, 1, none⟩) Hp.out _).mono (by omega), ((HD.out.w.far (a := ⟨w.heap.size, 0, none⟩) Hw.out _).far (a := ⟨w.heap.size, 1, none⟩) Hw.out _).mono (by omega), HD.out.pn, HD.out.wn⟩, (Two.doneC C2.out _ _).cur, (Two.doneC C2.out _ _).grow⟩
/-- A draw under way: the world w0 has the new cursor g and the empty box rb for the result; the tree lies in the box tb. -/
structure Bx (w0 w : World) (rb tb : Nat) (aP : Option Addr) (nP cP : Nat) (aW : Option Addr) (nW cW : Nat) (ps ws : List Int) : Prop where
  box : Pair w tb (.slice aP nP cP) (.slice aW nW cW)
  t : DTre w w0.heap.size aP nP cP aW nW cW ps ws
  ge : w0.heap.size ≤ tb
  res : Pair w rb (.slice none 0 0) (.slice none 0 0)
  lt : rb < w0.heap.size
theorem Bx.below {w0 w w' : World} {rb tb : Nat} {aP : Option Addr} {nP cP : Nat} {aW : Option Addr} {nW cW : Nat} {ps ws : List Int} (h : Bx w0 w rb tb aP nP cP aW nW cW ps ws) (hb : Below w.heap.size w w') : Bx w0 w' rb tb aP nP cP aW nW cW ps ws :=
  ⟨h.box.below hb, h.t.below hb, h.ge, h.res.below hb, h.lt⟩
theorem Bx.lit {w0 w : World} {rb tb : Nat} {aP : Option Addr} {nP cP : Nat} {aW : Option Addr} {nW cW : Nat} {ps ws : List Int} (h : Bx w0 w rb tb aP nP cP aW nW cW ps ws) (o : Obj) : Bx w0 (w.alloc o) rb tb aP nP cP aW nW cW ps ws := h.below (below_new w o)
theorem Bx.drew {w0 w : World} {rb tb : Nat} {aP : Option Addr} {nP cP : Nat} {aW : Option Addr} {nW cW : Nat} {ps ws : List Int} (h : Bx w0 w rb tb aP nP cP aW nW cW ps ws) : Bx w0 w.drew rb tb aP nP cP aW nW cW ps ws := h.below (Below.refl _ _).drew
theorem Bx.other {w0 w w' : World} {rb tb g : Nat} {aP : Option Addr} {nP cP : Nat} {aW : Option Addr} {nW cW : Nat} {ps ws : List Int} (h : Bx w0 w rb tb aP nP cP aW nW cW ps ws) (hg : w.grownBy w' (some g)) (hlt : g < w0.heap.size) (hne : rb ≠ g) : Bx w0 w' rb tb aP nP cP aW nW cW ps ws :=
  ⟨pair_other h.box hg (by have := h.ge; omega), h.t.other hg hlt, h.ge, pair_other h.res hg hne, h.lt⟩
/-- A tree put into a new box. -/
theorem bx_new {w0 w : World} {rb : Nat} {aP : Option Addr} {nP cP : Nat} {aW : Option Addr} {nW cW : Nat} {ps ws : List Int} (t : TypeId) (hT : DTre w w0.heap.size aP nP cP aW nW cW ps ws) (hs : w0.heap.size ≤ w.heap.size) (hr : Pair w rb (.slice none 0 0) (.slice none 0 0)) (hlt : rb < w0.heap.size) :
    Bx w0 (w.alloc (.cells #[.slice aP nP cP, .slice aW nW cW] t)) rb w.heap.size aP nP cP aW nW cW ps ws :=
  ⟨Pair.new w _ _ t, hT.below (below_new w _), hs, hr.alloc _, hlt⟩
theorem own_res {w : World} {base rb : Nat} {v x y : Value} {xs : List Int} (h : Own w base v xs) (hlt : rb < base) : Own ((w.setCell ⟨rb, 0, none⟩ x).setCell ⟨rb, 1, none⟩ y) base v xs := by
  have hne : v.ownBlock ≠ some rb := fun e => by have := (World.ownsRow.lt h _ e).1; omega
  exact (h.far (a := ⟨rb, 0, none⟩) hne x).far (a := ⟨rb, 1, none⟩) hne y
theorem OwnA.res {w : World} {base rb m : Nat} {v x y : Value} (h : OwnA w base v m) (hlt : rb < base) : OwnA ((w.setCell ⟨rb, 0, none⟩ x).setCell ⟨rb, 1, none⟩ y) base v m := by
  obtain ⟨xs, h1, h2⟩ := h; exact ⟨xs, own_res h1 hlt, h2⟩
theorem DTre.res {w : World} {base rb : Nat} {x y : Value} {aP : Option Addr} {nP cP : Nat} {aW : Option Addr} {nW cW : Nat} {ps ws : List Int} (h : DTre w base aP nP cP aW nW cW ps ws) (hlt : rb < base) : DTre ((w.setCell ⟨rb, 0, none⟩ x).setCell ⟨rb, 1, none⟩ y) base aP nP cP aW nW cW ps ws :=
  ⟨own_res h.p hlt, own_res h.w hlt, h.pn, h.wn⟩
/-- What a draw leaves alone. -/
theorem draw_below {w w0 w' : World} {g rb : Nat} {x y : Value} (hb : Below w.heap.size w w0) (hg : w0.grownBy w' (some g)) (h1 : w.heap.size ≤ g) (h2 : w.heap.size ≤ rb) : Below w.heap.size w ((w'.setCell ⟨rb, 0, none⟩ x).setCell ⟨rb, 1, none⟩ y) :=
  ((hb.grown hg hb.size (fun k hk => by cases hk; exact h1)).setCell h2 _).setCell h2 _
/-- A tree and lists, drawn. -/
def DrT (w : World) (base : Nat) (v : Value) : Prop := ∃ (aP : Option Addr) (nP cP : Nat) (aW : Option Addr) (nW cW : Nat) (ps ws : List Int), v = .agg #[.slice aP nP cP, .slice aW nW cW] ∧ DTre w base aP nP cP aW nW cW ps ws
def DrTL (w : World) (base : Nat) (v : Value) : Prop := ∃ (aP : Option Addr) (nP cP : Nat) (aW : Option Addr) (nW cW : Nat) (ps ws : List Int) (u : Value), v = .tuple #[.agg #[.slice aP nP cP, .slice aW nW cW], u] ∧ DTre w base aP nP cP aW nW cW ps ws ∧ OwnA w base u 40
def DrTLL (w : World) (base : Nat) (v : Value) : Prop := ∃ (aP : Option Addr) (nP cP : Nat) (aW : Option Addr) (nW cW : Nat) (ps ws : List Int) (u u2 : Value), v = .tuple #[.agg #[.slice aP nP cP, .slice aW nW cW], u, u2] ∧ DTre w base aP nP cP aW nW cW ps ws ∧ OwnA w base u 40 ∧ OwnA w base u2 40
def DrTLI (w : World) (base : Nat) (v : Value) (I : Int → Prop) : Prop := ∃ (aP : Option Addr) (nP cP : Nat) (aW : Option Addr) (nW cW : Nat) (ps ws : List Int) (u : Value) (x : Int), v = .tuple #[.agg #[.slice aP nP cP, .slice aW nW cW], u, .int .i64 x] ∧ DTre w base aP nP cP aW nW cW ps ws ∧ OwnA w base u 40 ∧ I x
def DrTLII (w : World) (base : Nat) (v : Value) (I : Int → Int → Prop) : Prop := ∃ (aP : Option Addr) (nP cP : Nat) (aW : Option Addr) (nW cW : Nat) (ps ws : List Int) (u : Value) (x y : Int), v = .tuple #[.agg #[.slice aP nP cP, .slice aW nW cW], u, .int .i64 x, .int .i64 y] ∧ DTre w base aP nP cP aW nW cW ps ws ∧ OwnA w base u 40 ∧ I x y
set_option maxRecDepth 100000 in
set_option maxHeartbeats 2000000 in
theorem spec_DrawCostlySteps (a : Option Addr) (n cap : Nat) (w : World) (h : Bytes w a n) :
    Calls Try.prog 51 #[.slice a n cap] w fun e w' => (∃ v, e = .returned v ∧ DrTLI w' w.heap.size v (fun _ => True)) ∧ Below w.heap.size w w' := by
  have hb0 : Below w.heap.size w ((w.alloc (.cells #[.slice none 0 0, .slice none 0 0] 26)).alloc (.cells #[.slice a n cap, .int .i64 0, .int .u64 0] 75)) := (below_new w _).alloc (by simp) _
  have hc := Cur.new (cap := cap) 75 (h.below (below_new w (.cells #[.slice none 0 0, .slice none 0 0] 26)))
  have R0 := Lib.hid ((Pair.new w (.slice none 0 0) (.slice none 0 0) 26).alloc (.cells #[.slice a n cap, .int .i64 0, .int .u64 0] 75))
  have hs0 : ((w.alloc (.cells #[.slice none 0 0, .slice none 0 0] 26)).alloc (.cells #[.slice a n cap, .int .i64 0, .int .u64 0] 75)).heap.size = w.heap.size + 1 + 1 := by simp
  rw [show (w.alloc (.cells #[.slice none 0 0, .slice none 0 0] 26)).heap.size = w.heap.size + 1 by simp] at hc
  have C0 := Lib.hid (Cq.start hc)
  clear hc h
  go_enter Try.func51, Try.ntmps51
  go_wp2_with fail
  generalize ((w.alloc (.cells #[.slice none 0 0, .slice none 0 0] 26)).alloc (.cells #[.slice a n cap, .int .i64 0, .int .u64 0] 75)) = w0 at *
  have hg0 : w.heap.size + 1 < w0.heap.size := by omega
  have HB0 := Lib.hid hb0
  clear hs0 hb0
  refine (spec_tree (w.heap.size + 1) a n cap 0 _ (by omega) C0.out.cur).mono ?_
  rintro e w1 ⟨⟨v, rfl, aP, nP, cP, aW, nW, cW, ps, ws, rfl, hD⟩, c1, g1⟩
  have C1 := Lib.hid (C0.out.step c1 g1)
  have R1 := Lib.hid (pair_other R0.out g1 (by omega))
  have HD := Lib.hid hD
  have hs1 := C1.out.size
  have hP5 := Pair.new w1 (.slice none 0 0) (.slice none 0 0) 26
  have x0 := hP5.c0
  have x1 := hP5.c1
  have y0 := hP5.f0
  have y1 := hP5.f1
  clear c1 g1 hD hP5 R0 C0
  have B3 := Lib.hid (bx_new 26 HD.out hs1 R1.out (by omega))
  have C3 := Lib.hid (C1.out.lit (.cells #[.slice aP nP cP, .slice aW nW cW] 26))
  have hnP := HD.out.pn
  go_wp2_with fail
  clear x0 x1 y0 y1 R1 HD C1
  generalize (w1.alloc (.cells #[.slice aP nP cP, .slice aW nW cW] 26)) = w3 at *
  generalize w1.heap.size = tb at *
  have c0 := B3.out.box.c0
  have c1 := B3.out.box.c1
  refine wp_region_noPanic ?_
  refine wp_region_held_drew (S := (fun W' => W'.cell? ⟨tb, 0, none⟩ = some (.slice aP nP cP) ∧ W'.cell? ⟨tb, 1, none⟩ = some (.slice aW nW cW))) (by kernel_rfl) ?_ (fun hHeld0 => ?_)
  · (try dsimp only); first | assumption | exact ⟨B3.out.drew.box.c0, B3.out.drew.box.c1⟩ | exact ⟨((B3.out.lit _).drew).box.c0, ((B3.out.lit _).drew).box.c1⟩ | exact ⟨HX.out.c0, HX.out.c1⟩ | exact ⟨(B4a.out.lit _).box.c0, (B4a.out.lit _).box.c1⟩
  refine takeH (i := 0) (oi := _) (v := ?_) rfl (by kernel_rfl) (by kernel_rfl) (by kernel_rfl) (fun _ _ _ h => h) (Or.inl ⟨by rfl, ?_⟩) (by assumption) ?_
  rotate_left
  · first | (intro w hSw; (try dsimp only at hSw); go_simp; done) | (intro w hSw; (try dsimp only at hSw); go_simp; with_reducible rfl)
  (try simp only [Act.put, List.setIfInBounds_toArray, List.set_cons_zero, List.set_cons_succ])
  refine takeH (i := 1) (oi := _) (v := ?_) rfl (by kernel_rfl) (by kernel_rfl) (by kernel_rfl) (fun _ _ _ h => h) (Or.inl ⟨by rfl, ?_⟩) (by assumption) ?_
  rotate_left
  · first | (intro w hSw; (try dsimp only at hSw); go_simp; done) | (intro w hSw; (try dsimp only at hSw); go_simp; with_reducible rfl)
  (try simp only [Act.put, List.setIfInBounds_toArray, List.set_cons_zero, List.set_cons_succ])
  refine takeH (i := 2) (oi := _) (v := ?_) rfl (by kernel_rfl) (by kernel_rfl) (by kernel_rfl) (fun _ _ _ h => h) (Or.inl ⟨by rfl, ?_⟩) (by assumption) ?_
  rotate_left
  · first | (intro w hSw; (try dsimp only at hSw); go_simp; done) | (intro w hSw; (try dsimp only at hSw); go_simp; with_reducible rfl)
  (try simp only [Act.put, List.setIfInBounds_toArray, List.set_cons_zero, List.set_cons_succ])
  refine takeH (i := 4) (oi := _) (v := ?_) rfl (by kernel_rfl) (by kernel_rfl) (by kernel_rfl) (fun _ _ _ h => h) (Or.inl ⟨by rfl, ?_⟩) (by assumption) ?_
  rotate_left
  · first | (intro w hSw; (try dsimp only at hSw); go_simp; done) | (intro w hSw; (try dsimp only at hSw); go_simp; with_reducible rfl)
  (try simp only [Act.put, List.setIfInBounds_toArray, List.set_cons_zero, List.set_cons_succ])
  refine wpAnyH_ready (rs := [3, 5]) (by kernel_rfl) (by simp) ?_
  refine consM rfl (fun Kq hKq => ?_) (consH rfl (fun Kq hKq => ?_))
  · go_simp
    refine (spec_pays (w.heap.size + 1) a n cap _ aP nP cP aW nW cW _ (by omega) hnP (C3.out.drew).cur).mono ?_
    rintro e w4a ⟨⟨vL, rfl, o4a⟩, c4a, g4a⟩
    have C4a := Lib.hid ((C3.out.drew).step c4a g4a)
    have B4a := Lib.hid ((B3.out.drew).other g4a (by omega) (by omega))
    have VL4a := Lib.hid ((o4a.mono (C3.out.drew).size).more (show _ ≤ 40 by omega))
    have hSS := And.intro B4a.out.box.c0 B4a.out.box.c1
    clear c4a g4a o4a
    refine hKq.out _ _ ?_ (fun hHeld1 => ?_)
    · (try dsimp only); first | assumption | exact ⟨B3.out.drew.box.c0, B3.out.drew.box.c1⟩ | exact ⟨((B3.out.lit _).drew).box.c0, ((B3.out.lit _).drew).box.c1⟩ | exact ⟨HX.out.c0, HX.out.c1⟩ | exact ⟨(B4a.out.lit _).box.c0, (B4a.out.lit _).box.c1⟩
    clear hKq Kq
    (try simp only [Act.put, List.setIfInBounds_toArray, List.set_cons_zero, List.set_cons_succ])
    clear hHeld0
    refine wpAnyH_ready (rs := [5]) (by kernel_rfl) (by simp) ?_
    refine consH rfl (fun Kq hKq => ?_)
    go_simp
    refine hKq.out _ _ ?_ (fun hHeld2 => ?_)
    · (try dsimp only); first | assumption | exact ⟨B3.out.drew.box.c0, B3.out.drew.box.c1⟩ | exact ⟨((B3.out.lit _).drew).box.c0, ((B3.out.lit _).drew).box.c1⟩ | exact ⟨HX.out.c0, HX.out.c1⟩ | exact ⟨(B4a.out.lit _).box.c0, (B4a.out.lit _).box.c1⟩
    clear hKq Kq
    (try simp only [Act.put, List.setIfInBounds_toArray, List.set_cons_zero, List.set_cons_succ])
    clear hHeld1
    refine wpAnyH_ready (rs := [6]) (by kernel_rfl) (by simp) ?_
    refine consH rfl (fun Kq hKq => ?_)
    go_simp
    refine (spec_among (w.heap.size + 1) a n cap _ _ 8 8 [0, 1, 2, 5, 400, 999, 1000, -1] _ (by omega) (by omega) (ints_lit _ [0, 1, 2, 5, 400, 999, 1000, -1] _ 8 rfl rfl) C4a.out.cur.ne (C4a.out.lit _).cur).mono ?_
    rintro e w5a ⟨⟨i5a, hi5a, rfl⟩, c5a, g5a⟩
    generalize nth _ i5a = vI at *
    have C5a := Lib.hid ((C4a.out.lit _).step c5a g5a)
    have B5a := Lib.hid ((B4a.out.lit _).other g5a (by omega) (by omega))
    have VL5a := Lib.hid (OwnA.other (OwnA.below VL4a.out (below_new _ _)) g5a (by omega))
    have hSS := And.intro B5a.out.box.c0 B5a.out.box.c1
    clear c5a g5a
    have e0 := B5a.out.res.c0
    have e1 := B5a.out.res.c1
    have f0 := B5a.out.res.f0
    have f1 := B5a.out.res.f1
    have HX := Lib.hid ((B5a.out.box.far (show w.heap.size ≠ tb by have := B5a.out.ge; omega) (i := 0) (.slice aP nP cP)).far (show w.heap.size ≠ tb by have := B5a.out.ge; omega) (i := 1) (.slice aW nW cW))
    have hr := B5a.out.res.set (.slice aP nP cP) (.slice aW nW cW)
    refine hKq.out _ _ ?_ (fun hHeld3 => ?_)
    · (try dsimp only); first | assumption | exact ⟨B3.out.drew.box.c0, B3.out.drew.box.c1⟩ | exact ⟨((B3.out.lit _).drew).box.c0, ((B3.out.lit _).drew).box.c1⟩ | exact ⟨HX.out.c0, HX.out.c1⟩ | exact ⟨(B4a.out.lit _).box.c0, (B4a.out.lit _).box.c1⟩
    clear hKq Kq
    (try simp only [Act.put, List.setIfInBounds_toArray, List.set_cons_zero, List.set_cons_succ])
    clear hHeld2
    refine wpAnyH_ready (rs := [7]) (by kernel_rfl) (by simp) ?_
    refine consH rfl (fun Kq hKq => ?_)
    go_simp
    refine hKq.out _ _ ?_ (fun hHeld4 => ?_)
    · (try dsimp only); first | assumption | exact ⟨B3.out.drew.box.c0, B3.out.drew.box.c1⟩ | exact ⟨((B3.out.lit _).drew).box.c0, ((B3.out.lit _).drew).box.c1⟩ | exact ⟨HX.out.c0, HX.out.c1⟩ | exact ⟨(B4a.out.lit _).box.c0, (B4a.out.lit _).box.c1⟩
    clear hKq Kq
    (try simp only [Act.put, List.setIfInBounds_toArray, List.set_cons_zero, List.set_cons_succ])
    clear hHeld3
    refine takeH (i := 8) (oi := _) (v := ?_) rfl (by kernel_rfl) (by kernel_rfl) (by kernel_rfl) (fun _ _ _ h => h) (Or.inl ⟨by rfl, ?_⟩) (by assumption) ?_
    rotate_left
    · first | (intro w hSw; (try dsimp only at hSw); go_simp; done) | (intro w hSw; (try dsimp only at hSw); go_simp; with_reducible rfl)
    (try simp only [Act.put, List.setIfInBounds_toArray, List.set_cons_zero, List.set_cons_succ])
    refine takeH (i := 9) (oi := _) (v := ?_) rfl (by kernel_rfl) (by kernel_rfl) (by kernel_rfl) (fun _ _ _ h => h) (Or.inl ⟨by rfl, ?_⟩) (by assumption) ?_
    rotate_left
    · first | (intro w hSw; (try dsimp only at hSw); go_simp; done) | (intro w hSw; (try dsimp only at hSw); go_simp; with_reducible rfl)
    (try simp only [Act.put, List.setIfInBounds_toArray, List.set_cons_zero, List.set_cons_succ])
    refine wpAnyH_done (by kernel_rfl) ?_ _
    refine NoPanic.normal ?_
    have hbb := draw_below HB0.out C5a.out.grow (show w.heap.size ≤ w.heap.size + 1 by omega) (Nat.le_refl w.heap.size) (x := .slice aP nP cP) (y := .slice aW nW cW)
    have hTT := (B5a.out.t.res (rb := w.heap.size) (x := .slice aP nP cP) (y := .slice aW nW cW) (by omega)).mono (base' := w.heap.size) (by omega)
    have ZL := (((VL5a.out.res (rb := w.heap.size) (x := .slice aP nP cP) (y := .slice aW nW cW) (by omega)).mono (base' := w.heap.size) (by omega)))
    go_wp2_with fail
    exact bodyPost_ret (v := .tuple #[.agg #[.slice aP nP cP, .slice aW nW cW], vL, .int .i64 vI]) (by simp [results, Try.results51, go_sem, hr.1, hr.2]) rfl ⟨⟨_, rfl, _, _, _, _, _, _, ps, ws, _, _, rfl, hTT, ZL, trivial⟩, hbb⟩
  · go_simp
    refine hKq.out _ _ ?_ (fun hHeld1 => ?_)
    · (try dsimp only); first | assumption | exact ⟨B3.out.drew.box.c0, B3.out.drew.box.c1⟩ | exact ⟨((B3.out.lit _).drew).box.c0, ((B3.out.lit _).drew).box.c1⟩ | exact ⟨HX.out.c0, HX.out.c1⟩ | exact ⟨(B4a.out.lit _).box.c0, (B4a.out.lit _).box.c1⟩
    clear hKq Kq
    (try simp only [Act.put, List.setIfInBounds_toArray, List.set_cons_zero, List.set_cons_succ])
    clear hHeld0
    refine wpAnyH_ready (rs := [3]) (by kernel_rfl) (by simp) ?_
    refine consH rfl (fun Kq hKq => ?_)
    go_simp
    refine (spec_pays (w.heap.size + 1) a n cap _ aP nP cP aW nW cW _ (by omega) hnP ((C3.out.lit _).drew).cur).mono ?_
    rintro e w4b ⟨⟨vL, rfl, o4b⟩, c4b, g4b⟩
    have C4b := Lib.hid (((C3.out.lit _).drew).step c4b g4b)
    have B4b := Lib.hid (((B3.out.lit _).drew).other g4b (by omega) (by omega))
    have I04b := Lib.hid (Ints.other (ints_lit _ [0, 1, 2, 5, 400, 999, 1000, -1] _ 8 rfl rfl).drew g4b (by intro p hp; cases hp; show w3.heap.size ≠ _; have := C3.out.size; omega))
    have VL4b := Lib.hid ((o4b.mono ((C3.out.lit _).drew).size).more (show _ ≤ 40 by omega))
    have hSS := And.intro B4b.out.box.c0 B4b.out.box.c1
    clear c4b g4b o4b
    refine hKq.out _ _ ?_ (fun hHeld2 => ?_)
    · (try dsimp only); first | assumption | exact ⟨B3.out.drew.box.c0, B3.out.drew.box.c1⟩ | exact ⟨((B3.out.lit _).drew).box.c0, ((B3.out.lit _).drew).box.c1⟩ | exact ⟨HX.out.c0, HX.out.c1⟩ | exact ⟨(B4a.out.lit _).box.c0, (B4a.out.lit _).box.c1⟩
    clear hKq Kq
    (try simp only [Act.put, List.setIfInBounds_toArray, List.set_cons_zero, List.set_cons_succ])
    clear hHeld1
    refine wpAnyH_ready (rs := [6]) (by kernel_rfl) (by simp) ?_
    refine consH rfl (fun Kq hKq => ?_)
    go_simp
    refine (spec_among (w.heap.size + 1) a n cap _ _ 8 8 [0, 1, 2, 5, 400, 999, 1000, -1] _ (by omega) (by omega) I04b.out (by intro p hp; cases hp; show w3.heap.size ≠ _; have := C3.out.size; omega) C4b.out.cur).mono ?_
    rintro e w5b ⟨⟨i5b, hi5b, rfl⟩, c5b, g5b⟩
    generalize nth _ i5b = vI at *
    have C5b := Lib.hid (C4b.out.step c5b g5b)
    have B5b := Lib.hid (B4b.out.other g5b (by omega) (by omega))
    have VL5b := Lib.hid (OwnA.other VL4b.out g5b (by omega))
    have hSS := And.intro B5b.out.box.c0 B5b.out.box.c1
    clear c5b g5b
    have e0 := B5b.out.res.c0
    have e1 := B5b.out.res.c1
    have f0 := B5b.out.res.f0
    have f1 := B5b.out.res.f1
    have HX := Lib.hid ((B5b.out.box.far (show w.heap.size ≠ tb by have := B5b.out.ge; omega) (i := 0) (.slice aP nP cP)).far (show w.heap.size ≠ tb by have := B5b.out.ge; omega) (i := 1) (.slice aW nW cW))
    have hr := B5b.out.res.set (.slice aP nP cP) (.slice aW nW cW)
    refine hKq.out _ _ ?_ (fun hHeld3 => ?_)
    · (try dsimp only); first | assumption | exact ⟨B3.out.drew.box.c0, B3.out.drew.box.c1⟩ | exact ⟨((B3.out.lit _).drew).box.c0, ((B3.out.lit _).drew).box.c1⟩ | exact ⟨HX.out.c0, HX.out.c1⟩ | exact ⟨(B4a.out.lit _).box.c0, (B4a.out.lit _).box.c1⟩
    clear hKq Kq
    (try simp only [Act.put, List.setIfInBounds_toArray, List.set_cons_zero, List.set_cons_succ])
    clear hHeld2
    refine wpAnyH_ready (rs := [7]) (by kernel_rfl) (by simp) ?_
    refine consH rfl (fun Kq hKq => ?_)
    go_simp
    refine hKq.out _ _ ?_ (fun hHeld4 => ?_)
    · (try dsimp only); first | assumption | exact ⟨B3.out.drew.box.c0, B3.out.drew.box.c1⟩ | exact ⟨((B3.out.lit _).drew).box.c0, ((B3.out.lit _).drew).box.c1⟩ | exact ⟨HX.out.c0, HX.out.c1⟩ | exact ⟨(B4a.out.lit _).box.c0, (B4a.out.lit _).box.c1⟩
    clear hKq Kq
    (try simp only [Act.put, List.setIfInBounds_toArray, List.set_cons_zero, List.set_cons_succ])
    clear hHeld3
    refine takeH (i := 8) (oi := _) (v := ?_) rfl (by kernel_rfl) (by kernel_rfl) (by kernel_rfl) (fun _ _ _ h => h) (Or.inl ⟨by rfl, ?_⟩) (by assumption) ?_
    rotate_left
    · first | (intro w hSw; (try dsimp only at hSw); go_simp; done) | (intro w hSw; (try dsimp only at hSw); go_simp; with_reducible rfl)
    (try simp only [Act.put, List.setIfInBounds_toArray, List.set_cons_zero, List.set_cons_succ])
    refine takeH (i := 9) (oi := _) (v := ?_) rfl (by kernel_rfl) (by kernel_rfl) (by kernel_rfl) (fun _ _ _ h => h) (Or.inl ⟨by rfl, ?_⟩) (by assumption) ?_
    rotate_left
    · first | (intro w hSw; (try dsimp only at hSw); go_simp; done) | (intro w hSw; (try dsimp only at hSw); go_simp; with_reducible rfl)
    (try simp only [Act.put, List.setIfInBounds_toArray, List.set_cons_zero, List.set_cons_succ])
    refine wpAnyH_done (by kernel_rfl) ?_ _
    refine NoPanic.normal ?_
    have hbb := draw_below HB0.out C5b.out.grow (show w.heap.size ≤ w.heap.size + 1 by omega) (Nat.le_refl w.heap.size) (x := .slice aP nP cP) (y := .slice aW nW cW)
    have hTT := (B5b.out.t.res (rb := w.heap.size) (x := .slice aP nP cP) (y := .slice aW nW cW) (by omega)).mono (base' := w.heap.size) (by omega)
    have ZL := (((VL5b.out.res (rb := w.heap.size) (x := .slice aP nP cP) (y := .slice aW nW cW) (by omega)).mono (base' := w.heap.size) (by omega)))
    go_wp2_with fail
    exact bodyPost_ret (v := .tuple #[.agg #[.slice aP nP cP, .slice aW nW cW], vL, .int .i64 vI]) (by simp [results, Try.results51, go_sem, hr.1, hr.2]) rfl ⟨⟨_, rfl, _, _, _, _, _, _, ps, ws, _, _, rfl, hTT, ZL, trivial⟩, hbb⟩
set_option maxRecDepth 100000 in
set_option maxHeartbeats 2000000 in
theorem spec_DrawDriftsOf (a : Option Addr) (n cap : Nat) (w : World) (h : Bytes w a n) :
    Calls Try.prog 30 #[.slice a n cap] w fun e w' => (∃ v, e = .returned v ∧ DrTL w' w.heap.size v) ∧ Below w.heap.size w w' := by
  have hb0 : Below w.heap.size w ((w.alloc (.cells #[.slice none 0 0, .slice none 0 0] 26)).alloc (.cells #[.slice a n cap, .int .i64 0, .int .u64 0] 75)) := (below_new w _).alloc (by simp) _
  have hc := Cur.new (cap := cap) 75 (h.below (below_new w (.cells #[.slice none 0 0, .slice none 0 0] 26)))
  have R0 := Lib.hid ((Pair.new w (.slice none 0 0) (.slice none 0 0) 26).alloc (.cells #[.slice a n cap, .int .i64 0, .int .u64 0] 75))
  have hs0 : ((w.alloc (.cells #[.slice none 0 0, .slice none 0 0] 26)).alloc (.cells #[.slice a n cap, .int .i64 0, .int .u64 0] 75)).heap.size = w.heap.size + 1 + 1 := by simp
  rw [show (w.alloc (.cells #[.slice none 0 0, .slice none 0 0] 26)).heap.size = w.heap.size + 1 by simp] at hc
  have C0 := Lib.hid (Cq.start hc)
  clear hc h
  go_enter Try.func30, Try.ntmps30
  go_wp2_with fail
  generalize ((w.alloc (.cells #[.slice none 0 0, .slice none 0 0] 26)).alloc (.cells #[.slice a n cap, .int .i64 0, .int .u64 0] 75)) = w0 at *
  have hg0 : w.heap.size + 1 < w0.heap.size := by omega
  have HB0 := Lib.hid hb0
  clear hs0 hb0
  refine (spec_tree (w.heap.size + 1) a n cap 0 _ (by omega) C0.out.cur).mono ?_
  rintro e w1 ⟨⟨v, rfl, aP, nP, cP, aW, nW, cW, ps, ws, rfl, hD⟩, c1, g1⟩
  have C1 := Lib.hid (C0.out.step c1 g1)
  have R1 := Lib.hid (pair_other R0.out g1 (by omega))
  have HD := Lib.hid hD
  have hs1 := C1.out.size
  have hP5 := Pair.new w1 (.slice none 0 0) (.slice none 0 0) 26
  have x0 := hP5.c0
  have x1 := hP5.c1
  have y0 := hP5.f0
  have y1 := hP5.f1
  clear c1 g1 hD hP5 R0 C0
  have B3 := Lib.hid (bx_new 26 HD.out hs1 R1.out (by omega))
  have C3 := Lib.hid (C1.out.lit (.cells #[.slice aP nP cP, .slice aW nW cW] 26))
  have hnP := HD.out.pn
  go_wp2_with fail
  clear x0 x1 y0 y1 R1 HD C1
  generalize (w1.alloc (.cells #[.slice aP nP cP, .slice aW nW cW] 26)) = w3 at *
  generalize w1.heap.size = tb at *
  have c0 := B3.out.box.c0
  have c1 := B3.out.box.c1
  refine wp_region_noPanic ?_
  refine wp_region_held_drew (S := (fun W' => W'.cell? ⟨tb, 0, none⟩ = some (.slice aP nP cP) ∧ W'.cell? ⟨tb, 1, none⟩ = some (.slice aW nW cW))) (by kernel_rfl) ?_ (fun hHeld0 => ?_)
  · (try dsimp only); first | assumption | exact ⟨B3.out.drew.box.c0, B3.out.drew.box.c1⟩ | exact ⟨((B3.out.lit _).drew).box.c0, ((B3.out.lit _).drew).box.c1⟩ | exact ⟨HX.out.c0, HX.out.c1⟩
  refine takeH (i := 0) (oi := _) (v := ?_) rfl (by kernel_rfl) (by kernel_rfl) (by kernel_rfl) (fun _ _ _ h => h) (Or.inl ⟨by rfl, ?_⟩) (by assumption) ?_
  rotate_left
  · first | (intro w hSw; (try dsimp only at hSw); go_simp; done) | (intro w hSw; (try dsimp only at hSw); go_simp; with_reducible rfl)
  (try simp only [Act.put, List.setIfInBounds_toArray, List.set_cons_zero, List.set_cons_succ])
  refine takeH (i := 1) (oi := _) (v := ?_) rfl (by kernel_rfl) (by kernel_rfl) (by kernel_rfl) (fun _ _ _ h => h) (Or.inl ⟨by rfl, ?_⟩) (by assumption) ?_
  rotate_left
  · first | (intro w hSw; (try dsimp only at hSw); go_simp; done) | (intro w hSw; (try dsimp only at hSw); go_simp; with_reducible rfl)
  (try simp only [Act.put, List.setIfInBounds_toArray, List.set_cons_zero, List.set_cons_succ])
  refine takeH (i := 2) (oi := _) (v := ?_) rfl (by kernel_rfl) (by kernel_rfl) (by kernel_rfl) (fun _ _ _ h => h) (Or.inl ⟨by rfl, ?_⟩) (by assumption) ?_
  rotate_left
  · first | (intro w hSw; (try dsimp only at hSw); go_simp; done) | (intro w hSw; (try dsimp only at hSw); go_simp; with_reducible rfl)
  (try simp only [Act.put, List.setIfInBounds_toArray, List.set_cons_zero, List.set_cons_succ])
  refine wpAnyH_ready (rs := [3]) (by kernel_rfl) (by simp) ?_
  refine consH rfl (fun Kq hKq => ?_)
  go_simp
  refine (spec_fair3 (w.heap.size + 1) a n cap _ w0.heap.size aP nP cP aW nW cW ps ws _ (by omega) (B3.out.drew).t (by omega) (C3.out.drew).cur).mono ?_
  rintro e w4a ⟨⟨vL, rfl, o4a⟩, c4a, g4a⟩
  have C4a := Lib.hid ((C3.out.drew).step c4a g4a)
  have B4a := Lib.hid ((B3.out.drew).other g4a (by omega) (by omega))
  have VL4a := Lib.hid ((o4a.mono (C3.out.drew).size).more (show _ ≤ 40 by omega))
  have hSS := And.intro B4a.out.box.c0 B4a.out.box.c1
  clear c4a g4a o4a
  have e0 := B4a.out.res.c0
  have e1 := B4a.out.res.c1
  have f0 := B4a.out.res.f0
  have f1 := B4a.out.res.f1
  have HX := Lib.hid ((B4a.out.box.far (show w.heap.size ≠ tb by have := B4a.out.ge; omega) (i := 0) (.slice aP nP cP)).far (show w.heap.size ≠ tb by have := B4a.out.ge; omega) (i := 1) (.slice aW nW cW))
  have hr := B4a.out.res.set (.slice aP nP cP) (.slice aW nW cW)
  refine hKq.out _ _ ?_ (fun hHeld1 => ?_)
  · (try dsimp only); first | assumption | exact ⟨B3.out.drew.box.c0, B3.out.drew.box.c1⟩ | exact ⟨((B3.out.lit _).drew).box.c0, ((B3.out.lit _).drew).box.c1⟩ | exact ⟨HX.out.c0, HX.out.c1⟩
  clear hKq Kq
  (try simp only [Act.put, List.setIfInBounds_toArray, List.set_cons_zero, List.set_cons_succ])
  clear hHeld0
  refine wpAnyH_ready (rs := [4]) (by kernel_rfl) (by simp) ?_
  refine consH rfl (fun Kq hKq => ?_)
  go_simp
  refine hKq.out _ _ ?_ (fun hHeld2 => ?_)
  · (try dsimp only); first | assumption | exact ⟨B3.out.drew.box.c0, B3.out.drew.box.c1⟩ | exact ⟨((B3.out.lit _).drew).box.c0, ((B3.out.lit _).drew).box.c1⟩ | exact ⟨HX.out.c0, HX.out.c1⟩
  clear hKq Kq
  (try simp only [Act.put, List.setIfInBounds_toArray, List.set_cons_zero, List.set_cons_succ])
  clear hHeld1
  refine takeH (i := 5) (oi := _) (v := ?_) rfl (by kernel_rfl) (by kernel_rfl) (by kernel_rfl) (fun _ _ _ h => h) (Or.inl ⟨by rfl, ?_⟩) (by assumption) ?_
  rotate_left
  · first | (intro w hSw; (try dsimp only at hSw); go_simp; done) | (intro w hSw; (try dsimp only at hSw); go_simp; with_reducible rfl)
  (try simp only [Act.put, List.setIfInBounds_toArray, List.set_cons_zero, List.set_cons_succ])
  refine wpAnyH_done (by kernel_rfl) ?_ _
  refine NoPanic.normal ?_
  have hbb := draw_below HB0.out C4a.out.grow (show w.heap.size ≤ w.heap.size + 1 by omega) (Nat.le_refl w.heap.size) (x := .slice aP nP cP) (y := .slice aW nW cW)
  have hTT := (B4a.out.t.res (rb := w.heap.size) (x := .slice aP nP cP) (y := .slice aW nW cW) (by omega)).mono (base' := w.heap.size) (by omega)
  have ZL := (((VL4a.out.res (rb := w.heap.size) (x := .slice aP nP cP) (y := .slice aW nW cW) (by omega)).mono (base' := w.heap.size) (by omega)))
  go_wp2_with fail
  exact bodyPost_ret (v := .tuple #[.agg #[.slice aP nP cP, .slice aW nW cW], vL]) (by simp [results, Try.results30, go_sem, hr.1, hr.2]) rfl ⟨⟨_, rfl, _, _, _, _, _, _, ps, ws, _, rfl, hTT, ZL⟩, hbb⟩
set_option maxHeartbeats 1000000 in
theorem spec_DrawDoobParts (a : Option Addr) (n cap : Nat) (w : World) (h : Bytes w a n) :
    Calls Try.prog 24 #[.slice a n cap] w fun e w' => (∃ v, e = .returned v ∧ DrTL w' w.heap.size v) ∧ Below w.heap.size w w' := by
  have hb1 := below_new w (.cells #[.slice none 0 0, .slice none 0 0] 26)
  have R1 := Lib.hid (Pair.new w (.slice none 0 0) (.slice none 0 0) 26)
  have HB := Lib.hid (h.below hb1)
  have hs1 : w.heap.size < (w.alloc (.cells #[.slice none 0 0, .slice none 0 0] 26)).heap.size := by simp
  clear h
  go_enter Try.func24, Try.ntmps24
  go_wp2_with fail
  generalize (w.alloc (.cells #[.slice none 0 0, .slice none 0 0] 26)) = w1 at *
  refine (spec_DrawDriftsOf a n cap _ HB.out).mono ?_
  rintro e w2 ⟨⟨v, rfl, aP, nP, cP, aW, nW, cW, ps, ws, vL, rfl, hD, oL⟩, b2⟩
  have R2 := R1.out.below b2
  have e0 := R2.c0
  have e1 := R2.c1
  have f0 := R2.f0
  have f1 := R2.f1
  have hr := R2.set (.slice aP nP cP) (.slice aW nW cW)
  have hbb : Below w.heap.size w ((w2.setCell ⟨w.heap.size, 0, none⟩ (.slice aP nP cP)).setCell ⟨w.heap.size, 1, none⟩ (.slice aW nW cW)) := ((hb1.trans (b2.mono hb1.size)).setCell (Nat.le_refl _) _).setCell (Nat.le_refl _) _
  have HBB := Lib.hid hbb
  have HD := Lib.hid hD
  have OL := Lib.hid oL
  clear R2 hD oL b2 hb1 hbb
  go_wp2_with fail
  exact bodyPost_ret (v := .tuple #[.agg #[.slice aP nP cP, .slice aW nW cW], vL]) (by simp [results, Try.results24, go_sem, hr.1, hr.2]) rfl ⟨⟨_, rfl, _, _, _, _, _, _, ps, ws, _, rfl, (((HD.out.res (rb := w.heap.size) (x := .slice aP nP cP) (y := .slice aW nW cW) (by omega)).mono (base' := w.heap.size) (by omega))), (((OL.out.res (rb := w.heap.size) (x := .slice aP nP cP) (y := .slice aW nW cW) (by omega)).mono (base' := w.heap.size) (by omega)))⟩, HBB.out⟩
set_option maxRecDepth 100000 in
set_option maxHeartbeats 2000000 in
theorem spec_DrawIsProcess (a : Option Addr) (n cap : Nat) (w : World) (h : Bytes w a n) :
    Calls Try.prog 38 #[.slice a n cap] w fun e w' => (∃ v, e = .returned v ∧ DrTL w' w.heap.size v) ∧ Below w.heap.size w w' := by
  have hb0 : Below w.heap.size w ((w.alloc (.cells #[.slice none 0 0, .slice none 0 0] 26)).alloc (.cells #[.slice a n cap, .int .i64 0, .int .u64 0] 75)) := (below_new w _).alloc (by simp) _
  have hc := Cur.new (cap := cap) 75 (h.below (below_new w (.cells #[.slice none 0 0, .slice none 0 0] 26)))
  have R0 := Lib.hid ((Pair.new w (.slice none 0 0) (.slice none 0 0) 26).alloc (.cells #[.slice a n cap, .int .i64 0, .int .u64 0] 75))
  have hs0 : ((w.alloc (.cells #[.slice none 0 0, .slice none 0 0] 26)).alloc (.cells #[.slice a n cap, .int .i64 0, .int .u64 0] 75)).heap.size = w.heap.size + 1 + 1 := by simp
  rw [show (w.alloc (.cells #[.slice none 0 0, .slice none 0 0] 26)).heap.size = w.heap.size + 1 by simp] at hc
  have C0 := Lib.hid (Cq.start hc)
  clear hc h
  go_enter Try.func38, Try.ntmps38
  go_wp2_with fail
  generalize ((w.alloc (.cells #[.slice none 0 0, .slice none 0 0] 26)).alloc (.cells #[.slice a n cap, .int .i64 0, .int .u64 0] 75)) = w0 at *
  have hg0 : w.heap.size + 1 < w0.heap.size := by omega
  have HB0 := Lib.hid hb0
  clear hs0 hb0
  refine (spec_tree (w.heap.size + 1) a n cap 0 _ (by omega) C0.out.cur).mono ?_
  rintro e w1 ⟨⟨v, rfl, aP, nP, cP, aW, nW, cW, ps, ws, rfl, hD⟩, c1, g1⟩
  have C1 := Lib.hid (C0.out.step c1 g1)
  have R1 := Lib.hid (pair_other R0.out g1 (by omega))
  have HD := Lib.hid hD
  have hs1 := C1.out.size
  have hP5 := Pair.new w1 (.slice none 0 0) (.slice none 0 0) 26
  have x0 := hP5.c0
  have x1 := hP5.c1
  have y0 := hP5.f0
  have y1 := hP5.f1
  clear c1 g1 hD hP5 R0 C0
  have B3 := Lib.hid (bx_new 26 HD.out hs1 R1.out (by omega))
  have C3 := Lib.hid (C1.out.lit (.cells #[.slice aP nP cP, .slice aW nW cW] 26))
  have hnP := HD.out.pn
  go_wp2_with fail
  clear x0 x1 y0 y1 R1 HD C1
  generalize (w1.alloc (.cells #[.slice aP nP cP, .slice aW nW cW] 26)) = w3 at *
  generalize w1.heap.size = tb at *
  have c0 := B3.out.box.c0
  have c1 := B3.out.box.c1
  refine wp_region_noPanic ?_
  refine wp_region_held_drew (S := (fun W' => W'.cell? ⟨tb, 0, none⟩ = some (.slice aP nP cP) ∧ W'.cell? ⟨tb, 1, none⟩ = some (.slice aW nW cW))) (by kernel_rfl) ?_ (fun hHeld0 => ?_)
  · (try dsimp only); first | assumption | exact ⟨B3.out.drew.box.c0, B3.out.drew.box.c1⟩ | exact ⟨((B3.out.lit _).drew).box.c0, ((B3.out.lit _).drew).box.c1⟩ | exact ⟨HX.out.c0, HX.out.c1⟩
  refine takeH (i := 0) (oi := _) (v := ?_) rfl (by kernel_rfl) (by kernel_rfl) (by kernel_rfl) (fun _ _ _ h => h) (Or.inl ⟨by rfl, ?_⟩) (by assumption) ?_
  rotate_left
  · first | (intro w hSw; (try dsimp only at hSw); go_simp; done) | (intro w hSw; (try dsimp only at hSw); go_simp; with_reducible rfl)
  (try simp only [Act.put, List.setIfInBounds_toArray, List.set_cons_zero, List.set_cons_succ])
  refine takeH (i := 1) (oi := _) (v := ?_) rfl (by kernel_rfl) (by kernel_rfl) (by kernel_rfl) (fun _ _ _ h => h) (Or.inl ⟨by rfl, ?_⟩) (by assumption) ?_
  rotate_left
  · first | (intro w hSw; (try dsimp only at hSw); go_simp; done) | (intro w hSw; (try dsimp only at hSw); go_simp; with_reducible rfl)
  (try simp only [Act.put, List.setIfInBounds_toArray, List.set_cons_zero, List.set_cons_succ])
  refine takeH (i := 2) (oi := _) (v := ?_) rfl (by kernel_rfl) (by kernel_rfl) (by kernel_rfl) (fun _ _ _ h => h) (Or.inl ⟨by rfl, ?_⟩) (by assumption) ?_
  rotate_left
  · first | (intro w hSw; (try dsimp only at hSw); go_simp; done) | (intro w hSw; (try dsimp only at hSw); go_simp; with_reducible rfl)
  (try simp only [Act.put, List.setIfInBounds_toArray, List.set_cons_zero, List.set_cons_succ])
  refine wpAnyH_ready (rs := [3]) (by kernel_rfl) (by simp) ?_
  refine consH rfl (fun Kq hKq => ?_)
  go_simp
  refine (spec_pays (w.heap.size + 1) a n cap _ aP nP cP aW nW cW _ (by omega) hnP (C3.out.drew).cur).mono ?_
  rintro e w4a ⟨⟨vL, rfl, o4a⟩, c4a, g4a⟩
  have C4a := Lib.hid ((C3.out.drew).step c4a g4a)
  have B4a := Lib.hid ((B3.out.drew).other g4a (by omega) (by omega))
  have VL4a := Lib.hid ((o4a.mono (C3.out.drew).size).more (show _ ≤ 40 by omega))
  have hSS := And.intro B4a.out.box.c0 B4a.out.box.c1
  clear c4a g4a o4a
  have e0 := B4a.out.res.c0
  have e1 := B4a.out.res.c1
  have f0 := B4a.out.res.f0
  have f1 := B4a.out.res.f1
  have HX := Lib.hid ((B4a.out.box.far (show w.heap.size ≠ tb by have := B4a.out.ge; omega) (i := 0) (.slice aP nP cP)).far (show w.heap.size ≠ tb by have := B4a.out.ge; omega) (i := 1) (.slice aW nW cW))
  have hr := B4a.out.res.set (.slice aP nP cP) (.slice aW nW cW)
  refine hKq.out _ _ ?_ (fun hHeld1 => ?_)
  · (try dsimp only); first | assumption | exact ⟨B3.out.drew.box.c0, B3.out.drew.box.c1⟩ | exact ⟨((B3.out.lit _).drew).box.c0, ((B3.out.lit _).drew).box.c1⟩ | exact ⟨HX.out.c0, HX.out.c1⟩
  clear hKq Kq
  (try simp only [Act.put, List.setIfInBounds_toArray, List.set_cons_zero, List.set_cons_succ])
  clear hHeld0
  refine wpAnyH_ready (rs := [4]) (by kernel_rfl) (by simp) ?_
  refine consH rfl (fun Kq hKq => ?_)
  go_simp
  refine hKq.out _ _ ?_ (fun hHeld2 => ?_)
  · (try dsimp only); first | assumption | exact ⟨B3.out.drew.box.c0, B3.out.drew.box.c1⟩ | exact ⟨((B3.out.lit _).drew).box.c0, ((B3.out.lit _).drew).box.c1⟩ | exact ⟨HX.out.c0, HX.out.c1⟩
  clear hKq Kq
  (try simp only [Act.put, List.setIfInBounds_toArray, List.set_cons_zero, List.set_cons_succ])
  clear hHeld1
  refine takeH (i := 5) (oi := _) (v := ?_) rfl (by kernel_rfl) (by kernel_rfl) (by kernel_rfl) (fun _ _ _ h => h) (Or.inl ⟨by rfl, ?_⟩) (by assumption) ?_
  rotate_left
  · first | (intro w hSw; (try dsimp only at hSw); go_simp; done) | (intro w hSw; (try dsimp only at hSw); go_simp; with_reducible rfl)
  (try simp only [Act.put, List.setIfInBounds_toArray, List.set_cons_zero, List.set_cons_succ])
  refine wpAnyH_done (by kernel_rfl) ?_ _
  refine NoPanic.normal ?_
  have hbb := draw_below HB0.out C4a.out.grow (show w.heap.size ≤ w.heap.size + 1 by omega) (Nat.le_refl w.heap.size) (x := .slice aP nP cP) (y := .slice aW nW cW)
  have hTT := (B4a.out.t.res (rb := w.heap.size) (x := .slice aP nP cP) (y := .slice aW nW cW) (by omega)).mono (base' := w.heap.size) (by omega)
  have ZL := (((VL4a.out.res (rb := w.heap.size) (x := .slice aP nP cP) (y := .slice aW nW cW) (by omega)).mono (base' := w.heap.size) (by omega)))
  go_wp2_with fail
  exact bodyPost_ret (v := .tuple #[.agg #[.slice aP nP cP, .slice aW nW cW], vL]) (by simp [results, Try.results38, go_sem, hr.1, hr.2]) rfl ⟨⟨_, rfl, _, _, _, _, _, _, ps, ws, _, rfl, hTT, ZL⟩, hbb⟩
set_option maxRecDepth 100000 in
set_option maxHeartbeats 2000000 in
theorem spec_DrawFirstEntry (a : Option Addr) (n cap : Nat) (w : World) (h : Bytes w a n) :
    Calls Try.prog 11 #[.slice a n cap] w fun e w' => (∃ v, e = .returned v ∧ DrTLI w' w.heap.size v (fun x => -8 ≤ x ∧ x ≤ 21)) ∧ Below w.heap.size w w' := by
  have hb0 : Below w.heap.size w ((w.alloc (.cells #[.slice none 0 0, .slice none 0 0] 26)).alloc (.cells #[.slice a n cap, .int .i64 0, .int .u64 0] 75)) := (below_new w _).alloc (by simp) _
  have hc := Cur.new (cap := cap) 75 (h.below (below_new w (.cells #[.slice none 0 0, .slice none 0 0] 26)))
  have R0 := Lib.hid ((Pair.new w (.slice none 0 0) (.slice none 0 0) 26).alloc (.cells #[.slice a n cap, .int .i64 0, .int .u64 0] 75))
  have hs0 : ((w.alloc (.cells #[.slice none 0 0, .slice none 0 0] 26)).alloc (.cells #[.slice a n cap, .int .i64 0, .int .u64 0] 75)).heap.size = w.heap.size + 1 + 1 := by simp
  rw [show (w.alloc (.cells #[.slice none 0 0, .slice none 0 0] 26)).heap.size = w.heap.size + 1 by simp] at hc
  have C0 := Lib.hid (Cq.start hc)
  clear hc h
  go_enter Try.func11, Try.ntmps11
  go_wp2_with fail
  generalize ((w.alloc (.cells #[.slice none 0 0, .slice none 0 0] 26)).alloc (.cells #[.slice a n cap, .int .i64 0, .int .u64 0] 75)) = w0 at *
  have hg0 : w.heap.size + 1 < w0.heap.size := by omega
  have HB0 := Lib.hid hb0
  clear hs0 hb0
  refine (spec_tree (w.heap.size + 1) a n cap 0 _ (by omega) C0.out.cur).mono ?_
  rintro e w1 ⟨⟨v, rfl, aP, nP, cP, aW, nW, cW, ps, ws, rfl, hD⟩, c1, g1⟩
  have C1 := Lib.hid (C0.out.step c1 g1)
  have R1 := Lib.hid (pair_other R0.out g1 (by omega))
  have HD := Lib.hid hD
  have hs1 := C1.out.size
  have hP5 := Pair.new w1 (.slice none 0 0) (.slice none 0 0) 26
  have x0 := hP5.c0
  have x1 := hP5.c1
  have y0 := hP5.f0
  have y1 := hP5.f1
  clear c1 g1 hD hP5 R0 C0
  have B3 := Lib.hid (bx_new 26 HD.out hs1 R1.out (by omega))
  have C3 := Lib.hid (C1.out.lit (.cells #[.slice aP nP cP, .slice aW nW cW] 26))
  have hnP := HD.out.pn
  go_wp2_with fail
  clear x0 x1 y0 y1 R1 HD C1
  generalize (w1.alloc (.cells #[.slice aP nP cP, .slice aW nW cW] 26)) = w3 at *
  generalize w1.heap.size = tb at *
  have c0 := B3.out.box.c0
  have c1 := B3.out.box.c1
  refine wp_region_noPanic ?_
  refine wp_region_held_drew (S := (fun W' => W'.cell? ⟨tb, 0, none⟩ = some (.slice aP nP cP) ∧ W'.cell? ⟨tb, 1, none⟩ = some (.slice aW nW cW))) (by kernel_rfl) ?_ (fun hHeld0 => ?_)
  · (try dsimp only); first | assumption | exact ⟨B3.out.drew.box.c0, B3.out.drew.box.c1⟩ | exact ⟨((B3.out.lit _).drew).box.c0, ((B3.out.lit _).drew).box.c1⟩ | exact ⟨HX.out.c0, HX.out.c1⟩
  refine takeH (i := 0) (oi := _) (v := ?_) rfl (by kernel_rfl) (by kernel_rfl) (by kernel_rfl) (fun _ _ _ h => h) (Or.inl ⟨by rfl, ?_⟩) (by assumption) ?_
  rotate_left
  · first | (intro w hSw; (try dsimp only at hSw); go_simp; done) | (intro w hSw; (try dsimp only at hSw); go_simp; with_reducible rfl)
  (try simp only [Act.put, List.setIfInBounds_toArray, List.set_cons_zero, List.set_cons_succ])
  refine takeH (i := 1) (oi := _) (v := ?_) rfl (by kernel_rfl) (by kernel_rfl) (by kernel_rfl) (fun _ _ _ h => h) (Or.inl ⟨by rfl, ?_⟩) (by assumption) ?_
  rotate_left
  · first | (intro w hSw; (try dsimp only at hSw); go_simp; done) | (intro w hSw; (try dsimp only at hSw); go_simp; with_reducible rfl)
  (try simp only [Act.put, List.setIfInBounds_toArray, List.set_cons_zero, List.set_cons_succ])
  refine takeH (i := 2) (oi := _) (v := ?_) rfl (by kernel_rfl) (by kernel_rfl) (by kernel_rfl) (fun _ _ _ h => h) (Or.inl ⟨by rfl, ?_⟩) (by assumption) ?_
  rotate_left
  · first | (intro w hSw; (try dsimp only at hSw); go_simp; done) | (intro w hSw; (try dsimp only at hSw); go_simp; with_reducible rfl)
  (try simp only [Act.put, List.setIfInBounds_toArray, List.set_cons_zero, List.set_cons_succ])
  refine takeH (i := 4) (oi := _) (v := ?_) rfl (by kernel_rfl) (by kernel_rfl) (by kernel_rfl) (fun _ _ _ h => h) (Or.inl ⟨by rfl, ?_⟩) (by assumption) ?_
  rotate_left
  · first | (intro w hSw; (try dsimp only at hSw); go_simp; done) | (intro w hSw; (try dsimp only at hSw); go_simp; with_reducible rfl)
  (try simp only [Act.put, List.setIfInBounds_toArray, List.set_cons_zero, List.set_cons_succ])
  refine wpAnyH_ready (rs := [3]) (by kernel_rfl) (by simp) ?_
  refine consH rfl (fun Kq hKq => ?_)
  go_simp
  refine (spec_fair3 (w.heap.size + 1) a n cap _ w0.heap.size aP nP cP aW nW cW ps ws _ (by omega) (B3.out.drew).t (by omega) (C3.out.drew).cur).mono ?_
  rintro e w4a ⟨⟨vL, rfl, o4a⟩, c4a, g4a⟩
  have C4a := Lib.hid ((C3.out.drew).step c4a g4a)
  have B4a := Lib.hid ((B3.out.drew).other g4a (by omega) (by omega))
  have VL4a := Lib.hid ((o4a.mono (C3.out.drew).size).more (show _ ≤ 40 by omega))
  have hSS := And.intro B4a.out.box.c0 B4a.out.box.c1
  clear c4a g4a o4a
  refine hKq.out _ _ ?_ (fun hHeld1 => ?_)
  · (try dsimp only); first | assumption | exact ⟨B3.out.drew.box.c0, B3.out.drew.box.c1⟩ | exact ⟨((B3.out.lit _).drew).box.c0, ((B3.out.lit _).drew).box.c1⟩ | exact ⟨HX.out.c0, HX.out.c1⟩
  clear hKq Kq
  (try simp only [Act.put, List.setIfInBounds_toArray, List.set_cons_zero, List.set_cons_succ])
  clear hHeld0
  refine wpAnyH_ready (rs := [5]) (by kernel_rfl) (by simp) ?_
  refine consH rfl (fun Kq hKq => ?_)
  go_simp
  refine (spec_pick (w.heap.size + 1) a n cap _ 30 _ (by omega) (by omega) C4a.out.cur).mono ?_
  rintro e w5a ⟨⟨vI, rfl, hvI0, hvI1⟩, c5a, g5a⟩
  have C5a := Lib.hid (C4a.out.step c5a g5a)
  have B5a := Lib.hid (B4a.out.other g5a (by omega) (by omega))
  have VL5a := Lib.hid (OwnA.other VL4a.out g5a (by omega))
  have hSS := And.intro B5a.out.box.c0 B5a.out.box.c1
  clear c5a g5a
  have kk : IntKind.i64.wrap (vI - 8) = vI - 8 := IntWalk.i64_in _ (by omega)
  have e0 := B5a.out.res.c0
  have e1 := B5a.out.res.c1
  have f0 := B5a.out.res.f0
  have f1 := B5a.out.res.f1
  have HX := Lib.hid ((B5a.out.box.far (show w.heap.size ≠ tb by have := B5a.out.ge; omega) (i := 0) (.slice aP nP cP)).far (show w.heap.size ≠ tb by have := B5a.out.ge; omega) (i := 1) (.slice aW nW cW))
  have hr := B5a.out.res.set (.slice aP nP cP) (.slice aW nW cW)
  refine hKq.out _ _ ?_ (fun hHeld2 => ?_)
  · (try dsimp only); first | assumption | exact ⟨B3.out.drew.box.c0, B3.out.drew.box.c1⟩ | exact ⟨((B3.out.lit _).drew).box.c0, ((B3.out.lit _).drew).box.c1⟩ | exact ⟨HX.out.c0, HX.out.c1⟩
  clear hKq Kq
  (try simp only [Act.put, List.setIfInBounds_toArray, List.set_cons_zero, List.set_cons_succ])
  clear hHeld1
  refine takeH (i := 6) (oi := _) (v := ?_) rfl (by kernel_rfl) (by kernel_rfl) (by kernel_rfl) (fun _ _ _ h => h) (Or.inl ⟨by rfl, ?_⟩) (by assumption) ?_
  rotate_left
  · first | (intro w hSw; (try dsimp only at hSw); go_simp; done) | (intro w hSw; (try dsimp only at hSw); go_simp; with_reducible rfl)
  (try simp only [Act.put, List.setIfInBounds_toArray, List.set_cons_zero, List.set_cons_succ])
  refine wpAnyH_ready (rs := [7]) (by kernel_rfl) (by simp) ?_
  refine consH rfl (fun Kq hKq => ?_)
  go_simp
  refine hKq.out _ _ ?_ (fun hHeld3 => ?_)
  · (try dsimp only); first | assumption | exact ⟨B3.out.drew.box.c0, B3.out.drew.box.c1⟩ | exact ⟨((B3.out.lit _).drew).box.c0, ((B3.out.lit _).drew).box.c1⟩ | exact ⟨HX.out.c0, HX.out.c1⟩
  clear hKq Kq
  (try simp only [Act.put, List.setIfInBounds_toArray, List.set_cons_zero, List.set_cons_succ])
  clear hHeld2
  refine takeH (i := 8) (oi := _) (v := ?_) rfl (by kernel_rfl) (by kernel_rfl) (by kernel_rfl) (fun _ _ _ h => h) (Or.inl ⟨by rfl, ?_⟩) (by assumption) ?_
  rotate_left
  · first | (intro w hSw; (try dsimp only at hSw); go_simp; done) | (intro w hSw; (try dsimp only at hSw); go_simp; with_reducible rfl)
  (try simp only [Act.put, List.setIfInBounds_toArray, List.set_cons_zero, List.set_cons_succ])
  refine takeH (i := 9) (oi := _) (v := ?_) rfl (by kernel_rfl) (by kernel_rfl) (by kernel_rfl) (fun _ _ _ h => h) (Or.inl ⟨by rfl, ?_⟩) (by assumption) ?_
  rotate_left
  · first | (intro w hSw; (try dsimp only at hSw); go_simp; done) | (intro w hSw; (try dsimp only at hSw); go_simp; with_reducible rfl)
  (try simp only [Act.put, List.setIfInBounds_toArray, List.set_cons_zero, List.set_cons_succ])
  refine wpAnyH_done (by kernel_rfl) ?_ _
  refine NoPanic.normal ?_
  have hbb := draw_below HB0.out C5a.out.grow (show w.heap.size ≤ w.heap.size + 1 by omega) (Nat.le_refl w.heap.size) (x := .slice aP nP cP) (y := .slice aW nW cW)
  have hTT := (B5a.out.t.res (rb := w.heap.size) (x := .slice aP nP cP) (y := .slice aW nW cW) (by omega)).mono (base' := w.heap.size) (by omega)
  have ZL := (((VL5a.out.res (rb := w.heap.size) (x := .slice aP nP cP) (y := .slice aW nW cW) (by omega)).mono (base' := w.heap.size) (by omega)))
  go_wp2_with fail
  exact bodyPost_ret (v := .tuple #[.agg #[.slice aP nP cP, .slice aW nW cW], vL, .int .i64 (vI - 8)]) (by simp [results, Try.results11, go_sem, hr.1, hr.2]) rfl ⟨⟨_, rfl, _, _, _, _, _, _, ps, ws, _, _, rfl, hTT, ZL, (by omega)⟩, hbb⟩
set_option maxRecDepth 100000 in
set_option maxHeartbeats 2000000 in
theorem spec_DrawStopAt (a : Option Addr) (n cap : Nat) (w : World) (h : Bytes w a n) :
    Calls Try.prog 62 #[.slice a n cap] w fun e w' => (∃ v, e = .returned v ∧ DrTLI w' w.heap.size v (fun _ => True)) ∧ Below w.heap.size w w' := by
  have hb0 : Below w.heap.size w ((w.alloc (.cells #[.slice none 0 0, .slice none 0 0] 26)).alloc (.cells #[.slice a n cap, .int .i64 0, .int .u64 0] 75)) := (below_new w _).alloc (by simp) _
  have hc := Cur.new (cap := cap) 75 (h.below (below_new w (.cells #[.slice none 0 0, .slice none 0 0] 26)))
  have R0 := Lib.hid ((Pair.new w (.slice none 0 0) (.slice none 0 0) 26).alloc (.cells #[.slice a n cap, .int .i64 0, .int .u64 0] 75))
  have hs0 : ((w.alloc (.cells #[.slice none 0 0, .slice none 0 0] 26)).alloc (.cells #[.slice a n cap, .int .i64 0, .int .u64 0] 75)).heap.size = w.heap.size + 1 + 1 := by simp
  rw [show (w.alloc (.cells #[.slice none 0 0, .slice none 0 0] 26)).heap.size = w.heap.size + 1 by simp] at hc
  have C0 := Lib.hid (Cq.start hc)
  clear hc h
  go_enter Try.func62, Try.ntmps62
  go_wp2_with fail
  generalize ((w.alloc (.cells #[.slice none 0 0, .slice none 0 0] 26)).alloc (.cells #[.slice a n cap, .int .i64 0, .int .u64 0] 75)) = w0 at *
  have hg0 : w.heap.size + 1 < w0.heap.size := by omega
  have HB0 := Lib.hid hb0
  clear hs0 hb0
  refine (spec_tree (w.heap.size + 1) a n cap 0 _ (by omega) C0.out.cur).mono ?_
  rintro e w1 ⟨⟨v, rfl, aP, nP, cP, aW, nW, cW, ps, ws, rfl, hD⟩, c1, g1⟩
  have C1 := Lib.hid (C0.out.step c1 g1)
  have R1 := Lib.hid (pair_other R0.out g1 (by omega))
  have HD := Lib.hid hD
  have hs1 := C1.out.size
  have hP5 := Pair.new w1 (.slice none 0 0) (.slice none 0 0) 26
  have x0 := hP5.c0
  have x1 := hP5.c1
  have y0 := hP5.f0
  have y1 := hP5.f1
  clear c1 g1 hD hP5 R0 C0
  have B3 := Lib.hid (bx_new 26 HD.out hs1 R1.out (by omega))
  have C3 := Lib.hid (C1.out.lit (.cells #[.slice aP nP cP, .slice aW nW cW] 26))
  have hnP := HD.out.pn
  go_wp2_with fail
  clear x0 x1 y0 y1 R1 HD C1
  generalize (w1.alloc (.cells #[.slice aP nP cP, .slice aW nW cW] 26)) = w3 at *
  generalize w1.heap.size = tb at *
  have c0 := B3.out.box.c0
  have c1 := B3.out.box.c1
  refine wp_region_noPanic ?_
  refine wp_region_held_drew (S := (fun W' => W'.cell? ⟨tb, 0, none⟩ = some (.slice aP nP cP) ∧ W'.cell? ⟨tb, 1, none⟩ = some (.slice aW nW cW))) (by kernel_rfl) ?_ (fun hHeld0 => ?_)
  · (try dsimp only); first | assumption | exact ⟨B3.out.drew.box.c0, B3.out.drew.box.c1⟩ | exact ⟨((B3.out.lit _).drew).box.c0, ((B3.out.lit _).drew).box.c1⟩ | exact ⟨HX.out.c0, HX.out.c1⟩
  refine takeH (i := 0) (oi := _) (v := ?_) rfl (by kernel_rfl) (by kernel_rfl) (by kernel_rfl) (fun _ _ _ h => h) (Or.inl ⟨by rfl, ?_⟩) (by assumption) ?_
  rotate_left
  · first | (intro w hSw; (try dsimp only at hSw); go_simp; done) | (intro w hSw; (try dsimp only at hSw); go_simp; with_reducible rfl)
  (try simp only [Act.put, List.setIfInBounds_toArray, List.set_cons_zero, List.set_cons_succ])
  refine takeH (i := 1) (oi := _) (v := ?_) rfl (by kernel_rfl) (by kernel_rfl) (by kernel_rfl) (fun _ _ _ h => h) (Or.inl ⟨by rfl, ?_⟩) (by assumption) ?_
  rotate_left
  · first | (intro w hSw; (try dsimp only at hSw); go_simp; done) | (intro w hSw; (try dsimp only at hSw); go_simp; with_reducible rfl)
  (try simp only [Act.put, List.setIfInBounds_toArray, List.set_cons_zero, List.set_cons_succ])
  refine takeH (i := 2) (oi := _) (v := ?_) rfl (by kernel_rfl) (by kernel_rfl) (by kernel_rfl) (fun _ _ _ h => h) (Or.inl ⟨by rfl, ?_⟩) (by assumption) ?_
  rotate_left
  · first | (intro w hSw; (try dsimp only at hSw); go_simp; done) | (intro w hSw; (try dsimp only at hSw); go_simp; with_reducible rfl)
  (try simp only [Act.put, List.setIfInBounds_toArray, List.set_cons_zero, List.set_cons_succ])
  refine takeH (i := 4) (oi := _) (v := ?_) rfl (by kernel_rfl) (by kernel_rfl) (by kernel_rfl) (fun _ _ _ h => h) (Or.inl ⟨by rfl, ?_⟩) (by assumption) ?_
  rotate_left
  · first | (intro w hSw; (try dsimp only at hSw); go_simp; done) | (intro w hSw; (try dsimp only at hSw); go_simp; with_reducible rfl)
  (try simp only [Act.put, List.setIfInBounds_toArray, List.set_cons_zero, List.set_cons_succ])
  refine takeH (i := 5) (oi := _) (v := ?_) rfl (by kernel_rfl) (by kernel_rfl) (by kernel_rfl) (fun _ _ _ h => h) (Or.inl ⟨by rfl, ?_⟩) (by assumption) ?_
  rotate_left
  · first | (intro w hSw; (try dsimp only at hSw); go_simp; done) | (intro w hSw; (try dsimp only at hSw); go_simp; with_reducible rfl)
  (try simp only [Act.put, List.setIfInBounds_toArray, List.set_cons_zero, List.set_cons_succ])
  refine wpAnyH_ready (rs := [3]) (by kernel_rfl) (by simp) ?_
  refine consH rfl (fun Kq hKq => ?_)
  go_simp
  refine (spec_stop3 (w.heap.size + 1) a n cap _ w0.heap.size aP nP cP aW nW cW ps ws _ (by omega) (B3.out.drew).t (by omega) (C3.out.drew).cur).mono ?_
  rintro e w4a ⟨⟨vL, rfl, o4a⟩, c4a, g4a⟩
  have C4a := Lib.hid ((C3.out.drew).step c4a g4a)
  have B4a := Lib.hid ((B3.out.drew).other g4a (by omega) (by omega))
  have VL4a := Lib.hid ((o4a.mono (C3.out.drew).size).more (show _ ≤ 40 by omega))
  have hSS := And.intro B4a.out.box.c0 B4a.out.box.c1
  clear c4a g4a o4a
  refine hKq.out _ _ ?_ (fun hHeld1 => ?_)
  · (try dsimp only); first | assumption | exact ⟨B3.out.drew.box.c0, B3.out.drew.box.c1⟩ | exact ⟨((B3.out.lit _).drew).box.c0, ((B3.out.lit _).drew).box.c1⟩ | exact ⟨HX.out.c0, HX.out.c1⟩
  clear hKq Kq
  (try simp only [Act.put, List.setIfInBounds_toArray, List.set_cons_zero, List.set_cons_succ])
  clear hHeld0
  refine wpAnyH_ready (rs := [6]) (by kernel_rfl) (by simp) ?_
  refine consH rfl (fun Kq hKq => ?_)
  go_simp
  refine (spec_nodeOf (w.heap.size + 1) a n cap _ aP nP cP aW nW cW _ (by omega) hnP C4a.out.cur).mono ?_
  rintro e w5a ⟨⟨vI, rfl⟩, c5a, g5a⟩
  have C5a := Lib.hid (C4a.out.step c5a g5a)
  have B5a := Lib.hid (B4a.out.other g5a (by omega) (by omega))
  have VL5a := Lib.hid (OwnA.other VL4a.out g5a (by omega))
  have hSS := And.intro B5a.out.box.c0 B5a.out.box.c1
  clear c5a g5a
  have e0 := B5a.out.res.c0
  have e1 := B5a.out.res.c1
  have f0 := B5a.out.res.f0
  have f1 := B5a.out.res.f1
  have HX := Lib.hid ((B5a.out.box.far (show w.heap.size ≠ tb by have := B5a.out.ge; omega) (i := 0) (.slice aP nP cP)).far (show w.heap.size ≠ tb by have := B5a.out.ge; omega) (i := 1) (.slice aW nW cW))
  have hr := B5a.out.res.set (.slice aP nP cP) (.slice aW nW cW)
  refine hKq.out _ _ ?_ (fun hHeld2 => ?_)
  · (try dsimp only); first | assumption | exact ⟨B3.out.drew.box.c0, B3.out.drew.box.c1⟩ | exact ⟨((B3.out.lit _).drew).box.c0, ((B3.out.lit _).drew).box.c1⟩ | exact ⟨HX.out.c0, HX.out.c1⟩
  clear hKq Kq
  (try simp only [Act.put, List.setIfInBounds_toArray, List.set_cons_zero, List.set_cons_succ])
  clear hHeld1
  refine wpAnyH_ready (rs := [7]) (by kernel_rfl) (by simp) ?_
  refine consH rfl (fun Kq hKq => ?_)
  go_simp
  refine hKq.out _ _ ?_ (fun hHeld3 => ?_)
  · (try dsimp only); first | assumption | exact ⟨B3.out.drew.box.c0, B3.out.drew.box.c1⟩ | exact ⟨((B3.out.lit _).drew).box.c0, ((B3.out.lit _).drew).box.c1⟩ | exact ⟨HX.out.c0, HX.out.c1⟩
  clear hKq Kq
  (try simp only [Act.put, List.setIfInBounds_toArray, List.set_cons_zero, List.set_cons_succ])
  clear hHeld2
  refine takeH (i := 8) (oi := _) (v := ?_) rfl (by kernel_rfl) (by kernel_rfl) (by kernel_rfl) (fun _ _ _ h => h) (Or.inl ⟨by rfl, ?_⟩) (by assumption) ?_
  rotate_left
  · first | (intro w hSw; (try dsimp only at hSw); go_simp; done) | (intro w hSw; (try dsimp only at hSw); go_simp; with_reducible rfl)
  (try simp only [Act.put, List.setIfInBounds_toArray, List.set_cons_zero, List.set_cons_succ])
  refine takeH (i := 9) (oi := _) (v := ?_) rfl (by kernel_rfl) (by kernel_rfl) (by kernel_rfl) (fun _ _ _ h => h) (Or.inl ⟨by rfl, ?_⟩) (by assumption) ?_
  rotate_left
  · first | (intro w hSw; (try dsimp only at hSw); go_simp; done) | (intro w hSw; (try dsimp only at hSw); go_simp; with_reducible rfl)
  (try simp only [Act.put, List.setIfInBounds_toArray, List.set_cons_zero, List.set_cons_succ])
  refine wpAnyH_done (by kernel_rfl) ?_ _
  refine NoPanic.normal ?_
  have hbb := draw_below HB0.out C5a.out.grow (show w.heap.size ≤ w.heap.size + 1 by omega) (Nat.le_refl w.heap.size) (x := .slice aP nP cP) (y := .slice aW nW cW)
  have hTT := (B5a.out.t.res (rb := w.heap.size) (x := .slice aP nP cP) (y := .slice aW nW cW) (by omega)).mono (base' := w.heap.size) (by omega)
  have ZL := (((VL5a.out.res (rb := w.heap.size) (x := .slice aP nP cP) (y := .slice aW nW cW) (by omega)).mono (base' := w.heap.size) (by omega)))
  go_wp2_with fail
  exact bodyPost_ret (v := .tuple #[.agg #[.slice aP nP cP, .slice aW nW cW], vL, .int .i64 vI]) (by simp [results, Try.results62, go_sem, hr.1, hr.2]) rfl ⟨⟨_, rfl, _, _, _, _, _, _, ps, ws, _, _, rfl, hTT, ZL, trivial⟩, hbb⟩
set_option maxRecDepth 100000 in
set_option maxHeartbeats 2000000 in
theorem spec_DrawCrossings (a : Option Addr) (n cap : Nat) (w : World) (h : Bytes w a n) :
    Calls Try.prog 16 #[.slice a n cap] w fun e w' => (∃ v, e = .returned v ∧ DrTLII w' w.heap.size v (fun x y => (-6 ≤ x ∧ x ≤ 13) ∧ x ≤ y ∧ y ≤ 20)) ∧ Below w.heap.size w w' := by
  have hb0 : Below w.heap.size w ((w.alloc (.cells #[.slice none 0 0, .slice none 0 0] 26)).alloc (.cells #[.slice a n cap, .int .i64 0, .int .u64 0] 75)) := (below_new w _).alloc (by simp) _
  have hc := Cur.new (cap := cap) 75 (h.below (below_new w (.cells #[.slice none 0 0, .slice none 0 0] 26)))
  have R0 := Lib.hid ((Pair.new w (.slice none 0 0) (.slice none 0 0) 26).alloc (.cells #[.slice a n cap, .int .i64 0, .int .u64 0] 75))
  have hs0 : ((w.alloc (.cells #[.slice none 0 0, .slice none 0 0] 26)).alloc (.cells #[.slice a n cap, .int .i64 0, .int .u64 0] 75)).heap.size = w.heap.size + 1 + 1 := by simp
  rw [show (w.alloc (.cells #[.slice none 0 0, .slice none 0 0] 26)).heap.size = w.heap.size + 1 by simp] at hc
  have C0 := Lib.hid (Cq.start hc)
  clear hc h
  go_enter Try.func16, Try.ntmps16
  go_wp2_with fail
  generalize ((w.alloc (.cells #[.slice none 0 0, .slice none 0 0] 26)).alloc (.cells #[.slice a n cap, .int .i64 0, .int .u64 0] 75)) = w0 at *
  have hg0 : w.heap.size + 1 < w0.heap.size := by omega
  have HB0 := Lib.hid hb0
  clear hs0 hb0
  refine (spec_tree (w.heap.size + 1) a n cap 0 _ (by omega) C0.out.cur).mono ?_
  rintro e w1 ⟨⟨v, rfl, aP, nP, cP, aW, nW, cW, ps, ws, rfl, hD⟩, c1, g1⟩
  have C1 := Lib.hid (C0.out.step c1 g1)
  have R1 := Lib.hid (pair_other R0.out g1 (by omega))
  have HD := Lib.hid hD
  have hs1 := C1.out.size
  have hP5 := Pair.new w1 (.slice none 0 0) (.slice none 0 0) 26
  have x0 := hP5.c0
  have x1 := hP5.c1
  have y0 := hP5.f0
  have y1 := hP5.f1
  clear c1 g1 hD hP5 R0 C0
  have B3 := Lib.hid (bx_new 26 HD.out hs1 R1.out (by omega))
  have C3 := Lib.hid (C1.out.lit (.cells #[.slice aP nP cP, .slice aW nW cW] 26))
  have hnP := HD.out.pn
  go_wp2_with fail
  clear x0 x1 y0 y1 R1 HD C1
  generalize (w1.alloc (.cells #[.slice aP nP cP, .slice aW nW cW] 26)) = w3 at *
  generalize w1.heap.size = tb at *
  have c0 := B3.out.box.c0
  have c1 := B3.out.box.c1
  refine (spec_pick (w.heap.size + 1) a n cap _ 20 _ (by omega) (by omega) C3.out.cur).mono ?_
  rintro e w4 ⟨⟨vlo, rfl, hlo0, hlo1⟩, cc4, gg4⟩
  have C4 := Lib.hid (C3.out.step cc4 gg4)
  have B4 := Lib.hid (B3.out.other gg4 (by omega) (by omega))
  clear cc4 gg4 c0 c1
  have c0 := B4.out.box.c0
  have c1 := B4.out.box.c1
  have k6 : IntKind.i64.wrap (vlo - 6) = vlo - 6 := IntWalk.i64_in _ (by omega)
  go_wp2_with fail
  refine wp_region_noPanic ?_
  refine wp_region_held_drew (S := (fun W' => W'.cell? ⟨tb, 0, none⟩ = some (.slice aP nP cP) ∧ W'.cell? ⟨tb, 1, none⟩ = some (.slice aW nW cW))) (by kernel_rfl) ?_ (fun hHeld0 => ?_)
  · (try dsimp only); first | assumption | exact ⟨B4.out.drew.box.c0, B4.out.drew.box.c1⟩ | exact ⟨((B4.out.lit _).drew).box.c0, ((B4.out.lit _).drew).box.c1⟩ | exact ⟨HX.out.c0, HX.out.c1⟩
  refine takeH (i := 0) (oi := _) (v := ?_) rfl (by kernel_rfl) (by kernel_rfl) (by kernel_rfl) (fun _ _ _ h => h) (Or.inl ⟨by rfl, ?_⟩) (by assumption) ?_
  rotate_left
  · first | (intro w hSw; (try dsimp only at hSw); go_simp; done) | (intro w hSw; (try dsimp only at hSw); go_simp; with_reducible rfl)
  (try simp only [Act.put, List.setIfInBounds_toArray, List.set_cons_zero, List.set_cons_succ])
  refine takeH (i := 1) (oi := _) (v := ?_) rfl (by kernel_rfl) (by kernel_rfl) (by kernel_rfl) (fun _ _ _ h => h) (Or.inl ⟨by rfl, ?_⟩) (by assumption) ?_
  rotate_left
  · first | (intro w hSw; (try dsimp only at hSw); go_simp; done) | (intro w hSw; (try dsimp only at hSw); go_simp; with_reducible rfl)
  (try simp only [Act.put, List.setIfInBounds_toArray, List.set_cons_zero, List.set_cons_succ])
  refine takeH (i := 2) (oi := _) (v := ?_) rfl (by kernel_rfl) (by kernel_rfl) (by kernel_rfl) (fun _ _ _ h => h) (Or.inl ⟨by rfl, ?_⟩) (by assumption) ?_
  rotate_left
  · first | (intro w hSw; (try dsimp only at hSw); go_simp; done) | (intro w hSw; (try dsimp only at hSw); go_simp; with_reducible rfl)
  (try simp only [Act.put, List.setIfInBounds_toArray, List.set_cons_zero, List.set_cons_succ])
  refine takeH (i := 4) (oi := _) (v := ?_) rfl (by kernel_rfl) (by kernel_rfl) (by kernel_rfl) (fun _ _ _ h => h) (Or.inl ⟨by rfl, ?_⟩) (by assumption) ?_
  rotate_left
  · first | (intro w hSw; (try dsimp only at hSw); go_simp; done) | (intro w hSw; (try dsimp only at hSw); go_simp; with_reducible rfl)
  (try simp only [Act.put, List.setIfInBounds_toArray, List.set_cons_zero, List.set_cons_succ])
  refine takeH (i := 5) (oi := _) (v := ?_) rfl (by kernel_rfl) (by kernel_rfl) (by kernel_rfl) (fun _ _ _ h => h) (Or.inl ⟨by rfl, ?_⟩) (by assumption) ?_
  rotate_left
  · first | (intro w hSw; (try dsimp only at hSw); go_simp; done) | (intro w hSw; (try dsimp only at hSw); go_simp; with_reducible rfl)
  (try simp only [Act.put, List.setIfInBounds_toArray, List.set_cons_zero, List.set_cons_succ])
  refine takeH (i := 6) (oi := _) (v := ?_) rfl (by kernel_rfl) (by kernel_rfl) (by kernel_rfl) (fun _ _ _ h => h) (Or.inl ⟨by rfl, ?_⟩) (by assumption) ?_
  rotate_left
  · first | (intro w hSw; (try dsimp only at hSw); go_simp; done) | (intro w hSw; (try dsimp only at hSw); go_simp; with_reducible rfl)
  (try simp only [Act.put, List.setIfInBounds_toArray, List.set_cons_zero, List.set_cons_succ])
  refine wpAnyH_ready (rs := [3]) (by kernel_rfl) (by simp) ?_
  refine consH rfl (fun Kq hKq => ?_)
  go_simp
  refine (spec_fair3 (w.heap.size + 1) a n cap _ w0.heap.size aP nP cP aW nW cW ps ws _ (by omega) (B4.out.drew).t (by omega) (C4.out.drew).cur).mono ?_
  rintro e w5b ⟨⟨vL, rfl, o5b⟩, c5b, g5b⟩
  have C5b := Lib.hid ((C4.out.drew).step c5b g5b)
  have B5b := Lib.hid ((B4.out.drew).other g5b (by omega) (by omega))
  have VL5b := Lib.hid ((o5b.mono (C4.out.drew).size).more (show _ ≤ 40 by omega))
  have hSS := And.intro B5b.out.box.c0 B5b.out.box.c1
  clear c5b g5b o5b
  refine hKq.out _ _ ?_ (fun hHeld1 => ?_)
  · (try dsimp only); first | assumption | exact ⟨B4.out.drew.box.c0, B4.out.drew.box.c1⟩ | exact ⟨((B4.out.lit _).drew).box.c0, ((B4.out.lit _).drew).box.c1⟩ | exact ⟨HX.out.c0, HX.out.c1⟩
  clear hKq Kq
  (try simp only [Act.put, List.setIfInBounds_toArray, List.set_cons_zero, List.set_cons_succ])
  clear hHeld0
  refine wpAnyH_ready (rs := [7]) (by kernel_rfl) (by simp) ?_
  refine consH rfl (fun Kq hKq => ?_)
  go_simp
  refine (spec_pick (w.heap.size + 1) a n cap _ 8 _ (by omega) (by omega) C5b.out.cur).mono ?_
  rintro e w6b ⟨⟨vI, rfl, hvI0, hvI1⟩, c6b, g6b⟩
  have C6b := Lib.hid (C5b.out.step c6b g6b)
  have B6b := Lib.hid (B5b.out.other g6b (by omega) (by omega))
  have VL6b := Lib.hid (OwnA.other VL5b.out g6b (by omega))
  have hSS := And.intro B6b.out.box.c0 B6b.out.box.c1
  clear c6b g6b
  have kk : IntKind.i64.wrap (vlo - 6 + vI) = vlo - 6 + vI := IntWalk.i64_in _ (by omega)
  have e0 := B6b.out.res.c0
  have e1 := B6b.out.res.c1
  have f0 := B6b.out.res.f0
  have f1 := B6b.out.res.f1
  have HX := Lib.hid ((B6b.out.box.far (show w.heap.size ≠ tb by have := B6b.out.ge; omega) (i := 0) (.slice aP nP cP)).far (show w.heap.size ≠ tb by have := B6b.out.ge; omega) (i := 1) (.slice aW nW cW))
  have hr := B6b.out.res.set (.slice aP nP cP) (.slice aW nW cW)
  refine hKq.out _ _ ?_ (fun hHeld2 => ?_)
  · (try dsimp only); first | assumption | exact ⟨B4.out.drew.box.c0, B4.out.drew.box.c1⟩ | exact ⟨((B4.out.lit _).drew).box.c0, ((B4.out.lit _).drew).box.c1⟩ | exact ⟨HX.out.c0, HX.out.c1⟩
  clear hKq Kq
  (try simp only [Act.put, List.setIfInBounds_toArray, List.set_cons_zero, List.set_cons_succ])
  clear hHeld1
  refine takeH (i := 8) (oi := _) (v := ?_) rfl (by kernel_rfl) (by kernel_rfl) (by kernel_rfl) (fun _ _ _ h => h) (Or.inl ⟨by rfl, ?_⟩) (by assumption) ?_
  rotate_left
  · first | (intro w hSw; (try dsimp only at hSw); go_simp; done) | (intro w hSw; (try dsimp only at hSw); go_simp; with_reducible rfl)
  (try simp only [Act.put, List.setIfInBounds_toArray, List.set_cons_zero, List.set_cons_succ])
  refine wpAnyH_ready (rs := [9]) (by kernel_rfl) (by simp) ?_
  refine consH rfl (fun Kq hKq => ?_)
  go_simp
  refine hKq.out _ _ ?_ (fun hHeld3 => ?_)
  · (try dsimp only); first | assumption | exact ⟨B4.out.drew.box.c0, B4.out.drew.box.c1⟩ | exact ⟨((B4.out.lit _).drew).box.c0, ((B4.out.lit _).drew).box.c1⟩ | exact ⟨HX.out.c0, HX.out.c1⟩
  clear hKq Kq
  (try simp only [Act.put, List.setIfInBounds_toArray, List.set_cons_zero, List.set_cons_succ])
  clear hHeld2
  refine takeH (i := 10) (oi := _) (v := ?_) rfl (by kernel_rfl) (by kernel_rfl) (by kernel_rfl) (fun _ _ _ h => h) (Or.inl ⟨by rfl, ?_⟩) (by assumption) ?_
  rotate_left
  · first | (intro w hSw; (try dsimp only at hSw); go_simp; done) | (intro w hSw; (try dsimp only at hSw); go_simp; with_reducible rfl)
  (try simp only [Act.put, List.setIfInBounds_toArray, List.set_cons_zero, List.set_cons_succ])
  refine takeH (i := 11) (oi := _) (v := ?_) rfl (by kernel_rfl) (by kernel_rfl) (by kernel_rfl) (fun _ _ _ h => h) (Or.inl ⟨by rfl, ?_⟩) (by assumption) ?_
  rotate_left
  · first | (intro w hSw; (try dsimp only at hSw); go_simp; done) | (intro w hSw; (try dsimp only at hSw); go_simp; with_reducible rfl)
  (try simp only [Act.put, List.setIfInBounds_toArray, List.set_cons_zero, List.set_cons_succ])
  refine takeH (i := 12) (oi := _) (v := ?_) rfl (by kernel_rfl) (by kernel_rfl) (by kernel_rfl) (fun _ _ _ h => h) (Or.inl ⟨by rfl, ?_⟩) (by assumption) ?_
  rotate_left
  · first | (intro w hSw; (try dsimp only at hSw); go_simp; done) | (intro w hSw; (try dsimp only at hSw); go_simp; with_reducible rfl)
  (try simp only [Act.put, List.setIfInBounds_toArray, List.set_cons_zero, List.set_cons_succ])
  refine wpAnyH_done (by kernel_rfl) ?_ _
  refine NoPanic.normal ?_
  have hbb := draw_below HB0.out C6b.out.grow (show w.heap.size ≤ w.heap.size + 1 by omega) (Nat.le_refl w.heap.size) (x := .slice aP nP cP) (y := .slice aW nW cW)
  have hTT := (B6b.out.t.res (rb := w.heap.size) (x := .slice aP nP cP) (y := .slice aW nW cW) (by omega)).mono (base' := w.heap.size) (by omega)
  have ZL := (((VL6b.out.res (rb := w.heap.size) (x := .slice aP nP cP) (y := .slice aW nW cW) (by omega)).mono (base' := w.heap.size) (by omega)))
  go_wp2_with fail
  exact bodyPost_ret (v := .tuple #[.agg #[.slice aP nP cP, .slice aW nW cW], vL, .int .i64 (vlo - 6), .int .i64 (vlo - 6 + vI)]) (by simp [results, Try.results16, go_sem, hr.1, hr.2]) rfl ⟨⟨_, rfl, _, _, _, _, _, _, ps, ws, _, _, _, rfl, hTT, ZL, by omega⟩, hbb⟩
set_option maxHeartbeats 1000000 in
theorem spec_DrawCountStops (a : Option Addr) (n cap : Nat) (w : World) (h : Bytes w a n) :
    Calls Try.prog 65 #[.slice a n cap] w fun e w' => (∃ v, e = .returned v ∧ DrT w' w.heap.size v) ∧ Below w.heap.size w w' := by
  have hb0 : Below w.heap.size w ((w.alloc (.cells #[.slice none 0 0, .slice none 0 0] 26)).alloc (.cells #[.slice a n cap, .int .i64 0, .int .u64 0] 75)) := (below_new w _).alloc (by simp) _
  have hc := Cur.new (cap := cap) 75 (h.below (below_new w (.cells #[.slice none 0 0, .slice none 0 0] 26)))
  have R0 := Lib.hid ((Pair.new w (.slice none 0 0) (.slice none 0 0) 26).alloc (.cells #[.slice a n cap, .int .i64 0, .int .u64 0] 75))
  have hs0 : ((w.alloc (.cells #[.slice none 0 0, .slice none 0 0] 26)).alloc (.cells #[.slice a n cap, .int .i64 0, .int .u64 0] 75)).heap.size = w.heap.size + 1 + 1 := by simp
  rw [show (w.alloc (.cells #[.slice none 0 0, .slice none 0 0] 26)).heap.size = w.heap.size + 1 by simp] at hc
  have C0 := Lib.hid (Cq.start hc)
  clear hc h
  go_enter Try.func65, Try.ntmps65
  go_wp2_with fail
  generalize ((w.alloc (.cells #[.slice none 0 0, .slice none 0 0] 26)).alloc (.cells #[.slice a n cap, .int .i64 0, .int .u64 0] 75)) = w0 at *
  have hg0 : w.heap.size + 1 < w0.heap.size := by omega
  have HB0 := Lib.hid hb0
  clear hs0 hb0
  refine (spec_tree (w.heap.size + 1) a n cap 0 _ (by omega) C0.out.cur).mono ?_
  rintro e w1 ⟨⟨v, rfl, aP, nP, cP, aW, nW, cW, ps, ws, rfl, hD⟩, c1, g1⟩
  have C1 := Lib.hid (C0.out.step c1 g1)
  have R1 := pair_other R0.out g1 (by omega)
  have e0 := R1.c0
  have e1 := R1.c1
  have f0 := R1.f0
  have f1 := R1.f1
  have hr := R1.set (.slice aP nP cP) (.slice aW nW cW)
  have HD := Lib.hid hD
  have hbb := draw_below HB0.out C1.out.grow (show w.heap.size ≤ w.heap.size + 1 by omega) (Nat.le_refl w.heap.size) (x := .slice aP nP cP) (y := .slice aW nW cW)
  have HBB := Lib.hid hbb
  clear hD c1 g1 hbb R1
  go_wp2_with fail
  exact bodyPost_ret (v := .agg #[.slice aP nP cP, .slice aW nW cW]) (by simp [results, Try.results65, go_sem, hr.1, hr.2]) rfl ⟨⟨_, rfl, _, _, _, _, _, _, ps, ws, rfl, (HD.out.res (rb := w.heap.size) (x := .slice aP nP cP) (y := .slice aW nW cW) (by omega)).mono (base' := w.heap.size) (by omega)⟩, HBB.out⟩
end Go.Proofs.Ytnbomleieianoaa
