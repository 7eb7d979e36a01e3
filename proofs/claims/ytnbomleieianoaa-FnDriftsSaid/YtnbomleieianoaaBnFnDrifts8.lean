/- Contracts and plain laws for the statement FnDrifts, part 8. No conditions but those stated in each. -/
import Derived.Test.YtnbomleieianoaaBnFnDrifts7
import Derived.Test.YtnbomleieianoaaBnFnDrifts5
import Derived.Test.YtnbomleieianoaaBnFnDrifts4
/- Contract: a tree of halves and a list that is mostly balanced, drawn by the cursor. No conditions but those stated. -/
namespace Go.Proofs.Ytnbomleieianoaa
open Go.RowKit

theorem own_litn (w : World) (base : Nat) (xs : List Int) (c : Array Value) (k : Nat) (hc : c.toList = cs xs) (hk : k = xs.length) (hb : base ≤ w.heap.size) (hm : k ≤ 1000) : Own (w.alloc (.cells c 3)) base (.slice (some ⟨w.heap.size, 0, none⟩) k k) xs := by
  subst hk
  have hz : c.size = xs.length := by rw [← Array.length_toList, hc, cs_length]
  have := World.ownsRow_lit (size := 1) (e := 3) (base := base) w c xs.length hb (by simp [maxLen]; omega) (by omega)
  unfold Own
  rwa [← hc]
/-- A list that is being made beside a tree in a box. -/
structure Hv (w w1 wr : World) (g : Nat) (a : Option Addr) (n cap : Nat) (lim : Int) (rb tb : Nat) (aP : Option Addr) (nP cP : Nat) (aW : Option Addr) (nW cW : Nat) (ps ws : List Int) (vO : Value) (xs : List Int) : Prop where
  cq : Cq w wr g a n cap lim
  bx : Bx w1 wr rb tb aP nP cP aW nW cW ps ws
  o : Own wr w1.heap.size vO xs
  nB : vO.ownBlock ≠ some tb
  nP : ∀ k, (Value.slice aP nP cP).ownBlock = some k → vO.ownBlock ≠ some k
  nW : ∀ k, (Value.slice aW nW cW).ownBlock = some k → vO.ownBlock ≠ some k
  low : w.heap.size ≤ w1.heap.size
theorem Hv.step {w w1 wr w' : World} {g : Nat} {a : Option Addr} {n cap : Nat} {lim lim' : Int} {rb tb : Nat} {aP : Option Addr} {nP cP : Nat} {aW : Option Addr} {nW cW : Nat} {ps ws : List Int} {vO : Value} {xs : List Int} (h : Hv w w1 wr g a n cap lim rb tb aP nP cP aW nW cW ps ws vO xs) (hc : Cur w' g a n cap lim') (hg : wr.grownBy w' (some g)) (hne : rb ≠ g) : Hv w w1 w' g a n cap lim' rb tb aP nP cP aW nW cW ps ws vO xs :=
  ⟨h.cq.step hc hg, h.bx.other hg (by have := h.cq.glt; have := h.low; omega) hne, own_other h.o hg (by have := h.cq.glt; have := h.low; omega), h.nB, h.nP, h.nW, h.low⟩
theorem Hv.below {w w1 wr w' : World} {g : Nat} {a : Option Addr} {n cap : Nat} {lim : Int} {rb tb : Nat} {aP : Option Addr} {nP cP : Nat} {aW : Option Addr} {nW cW : Nat} {ps ws : List Int} {vO : Value} {xs : List Int} (h : Hv w w1 wr g a n cap lim rb tb aP nP cP aW nW cW ps ws vO xs) (hb : Below wr.heap.size wr w') : Hv w w1 w' g a n cap lim rb tb aP nP cP aW nW cW ps ws vO xs :=
  ⟨h.cq.below hb, h.bx.below hb, h.o.below hb, h.nB, h.nP, h.nW, h.low⟩
theorem Hv.lit {w w1 wr : World} {g : Nat} {a : Option Addr} {n cap : Nat} {lim : Int} {rb tb : Nat} {aP : Option Addr} {nP cP : Nat} {aW : Option Addr} {nW cW : Nat} {ps ws : List Int} {vO : Value} {xs : List Int} (h : Hv w w1 wr g a n cap lim rb tb aP nP cP aW nW cW ps ws vO xs) (o : Obj) : Hv w w1 (wr.alloc o) g a n cap lim rb tb aP nP cP aW nW cW ps ws vO xs := h.below (below_new wr o)
theorem Hv.drew {w w1 wr : World} {g : Nat} {a : Option Addr} {n cap : Nat} {lim : Int} {rb tb : Nat} {aP : Option Addr} {nP cP : Nat} {aW : Option Addr} {nW cW : Nat} {ps ws : List Int} {vO : Value} {xs : List Int} (h : Hv w w1 wr g a n cap lim rb tb aP nP cP aW nW cW ps ws vO xs) : Hv w w1 wr.drew g a n cap lim rb tb aP nP cP aW nW cW ps ws vO xs := h.below (Below.refl _ _).drew
theorem Hv.mono {w w1 wr : World} {g : Nat} {a : Option Addr} {n cap : Nat} {lim lim' : Int} {rb tb : Nat} {aP : Option Addr} {nP cP : Nat} {aW : Option Addr} {nW cW : Nat} {ps ws : List Int} {vO : Value} {xs : List Int} (h : Hv w w1 wr g a n cap lim rb tb aP nP cP aW nW cW ps ws vO xs) (hl : lim ≤ lim') : Hv w w1 wr g a n cap lim' rb tb aP nP cP aW nW cW ps ws vO xs :=
  ⟨h.cq.mono hl, h.bx, h.o, h.nB, h.nP, h.nW, h.low⟩
theorem Hv.push {w w1 wr w' : World} {g : Nat} {a : Option Addr} {n cap : Nat} {lim : Int} {rb tb : Nat} {aP : Option Addr} {nP cP : Nat} {aW : Option Addr} {nW cW : Nat} {ps ws : List Int} {vO v' : Value} {xs xs' : List Int} (h : Hv w w1 wr g a n cap lim rb tb aP nP cP aW nW cW ps ws vO xs) (ho : Own w' w1.heap.size v' xs') (hb : Below w1.heap.size wr w') (hm : Moved wr vO w' v') : Hv w w1 w' g a n cap lim rb tb aP nP cP aW nW cW ps ws v' xs' :=
  ⟨h.cq.up (hb.mono h.low), ⟨pair_moved h.bx.box hm h.nB, ⟨h.bx.t.p.moved hm h.nP, h.bx.t.w.moved hm h.nW, h.bx.t.pn, h.bx.t.wn⟩, h.bx.ge, h.bx.res.up hb h.bx.lt, h.bx.lt⟩, ho, (hm.2 tb h.bx.box.lt h.nB).1,
    fun k hk => (hm.2 k (World.ownsRow.lt h.bx.t.p k hk).2 (h.nP k hk)).1, fun k hk => (hm.2 k (World.ownsRow.lt h.bx.t.w k hk).2 (h.nW k hk)).1, h.low⟩
theorem Hv.put {w w1 wr : World} {g : Nat} {a : Option Addr} {n cap : Nat} {lim : Int} {rb tb : Nat} {aP : Option Addr} {nP cP : Nat} {aW : Option Addr} {nW cW : Nat} {ps ws : List Int} {go no co : Nat} {xs : List Int} (h : Hv w w1 wr g a n cap lim rb tb aP nP cP aW nW cW ps ws (.slice (some ⟨go, 0, none⟩) no co) xs) (hn : no = xs.length) (i : Nat) (u : Int) : Hv w w1 (wr.setCell ⟨go, i, none⟩ (.int .i64 u)) g a n cap lim rb tb aP nP cP aW nW cW ps ws (.slice (some ⟨go, 0, none⟩) no co) (xs.set i u) := by
  have h1 := h.o.lt
  have h2 := h.bx.lt
  have h3 := h.low
  exact ⟨Two.setC h.cq (by omega) _, ⟨h.bx.box.far (fun e => h.nB (by rw [e]; rfl)) _, ⟨h.bx.t.p.far (a := ⟨go, i, none⟩) (fun e => h.nP go e rfl) _, h.bx.t.w.far (a := ⟨go, i, none⟩) (fun e => h.nW go e rfl) _, h.bx.t.pn, h.bx.t.wn⟩, h.bx.ge, h.bx.res.far (by omega) _, h.bx.lt⟩, h.o.set hn i u, h.nB, h.nP, h.nW, h.low⟩
theorem Hv.retree {w w1 wr : World} {g : Nat} {a : Option Addr} {n cap : Nat} {lim : Int} {rb tb : Nat} {aP : Option Addr} {nP cP : Nat} {aW : Option Addr} {nW cW : Nat} {ps ws : List Int} {vO : Value} {xs : List Int} {aP' : Option Addr} {nP' cP' : Nat} {aW' : Option Addr} {nW' cW' : Nat} {ps' ws' : List Int} (h : Hv w w1 wr g a n cap lim rb tb aP nP cP aW nW cW ps ws vO xs) (hT : DTre wr w1.heap.size aP' nP' cP' aW' nW' cW' ps' ws')
    (h1 : ∀ k, (Value.slice aP' nP' cP').ownBlock = some k → vO.ownBlock ≠ some k ∧ k ≠ tb) (h2 : ∀ k, (Value.slice aW' nW' cW').ownBlock = some k → vO.ownBlock ≠ some k ∧ k ≠ tb) : Hv w w1 ((wr.setCell ⟨tb, 0, none⟩ (.slice aP' nP' cP')).setCell ⟨tb, 1, none⟩ (.slice aW' nW' cW')) g a n cap lim rb tb aP' nP' cP' aW' nW' cW' ps' ws' vO xs := by
  have h3 := h.bx.ge
  have h4 := h.low
  have h5 := h.bx.lt
  have e1 : (Value.slice aP' nP' cP').ownBlock ≠ some tb := fun e => (h1 tb e).2 rfl
  have e2 : (Value.slice aW' nW' cW').ownBlock ≠ some tb := fun e => (h2 tb e).2 rfl
  exact ⟨Two.setC (Two.setC h.cq (by omega) _) (by omega) _, ⟨(h.bx.box.sto0 _).sto1 _, ⟨(hT.p.far (a := ⟨tb, 0, none⟩) e1 _).far (a := ⟨tb, 1, none⟩) e1 _, (hT.w.far (a := ⟨tb, 0, none⟩) e2 _).far (a := ⟨tb, 1, none⟩) e2 _, hT.pn, hT.wn⟩, h3, (h.bx.res.far (by omega) _).far (by omega) _, h5⟩, (h.o.far (a := ⟨tb, 0, none⟩) h.nB _).far (a := ⟨tb, 1, none⟩) h.nB _, h.nB, fun k hk => (h1 k hk).1, fun k hk => (h2 k hk).1, h4⟩
set_option maxRecDepth 100000 in
set_option maxHeartbeats 4000000 in
theorem spec_halves (g : Nat) (a : Option Addr) (n cap : Nat) (lim : Int) (w : World) (hl : lim ≤ 5000) (h : Cur w g a n cap lim) :
    Calls Try.prog 114 #[.pointer (some ⟨g, 0, none⟩)] w fun e w' => (∃ v, e = .returned v ∧ DrTL w' w.heap.size v) ∧ Cur w' g a n cap (lim + 1000) ∧ w.grownBy w' (some g) := by
  have C0 := Lib.hid ((Cq.start h).lit (.cells #[.slice none 0 0, .slice none 0 0] 26))
  have R0 := Lib.hid (Pair.new w (.slice none 0 0) (.slice none 0 0) 26)
  have hs0 : w.heap.size < (w.alloc (.cells #[.slice none 0 0, .slice none 0 0] 26)).heap.size := by simp
  have hgw := h.lt
  clear h
  go_enter Try.func114, Try.ntmps114
  go_wp2_with fail
  generalize (w.alloc (.cells #[.slice none 0 0, .slice none 0 0] 26)) = w1 at *
  refine (spec_one g a n cap _ _ _ (by omega) (by omega) C0.out.cur).mono ?_
  rintro e w2 ⟨⟨t, rfl⟩, c2, g2⟩
  have C2 := Lib.hid (C0.out.step c2 g2)
  have R2 := Lib.hid (pair_other R0.out g2 (by omega))
  have hs2 : w1.heap.size ≤ w2.heap.size := g2.size
  clear c2 g2 C0 R0
  cases t
  · go_wp2_with fail
    have hp : Own ((w2.alloc (.cells #[.int .i64 (-1), .int .i64 0, .int .i64 0, .int .i64 1, .int .i64 1, .int .i64 2, .int .i64 2] 3)).alloc (.cells #[.int .i64 0, .int .i64 0, .int .i64 0, .int .i64 1, .int .i64 1, .int .i64 1, .int .i64 1] 3)) w1.heap.size (.slice (some ⟨w2.heap.size, 0, none⟩) 7 7) [-1, 0, 0, 1, 1, 2, 2] := (own_litn w2 w1.heap.size _ _ 7 rfl rfl hs2 (by omega)).lit _
    have hw : Own ((w2.alloc (.cells #[.int .i64 (-1), .int .i64 0, .int .i64 0, .int .i64 1, .int .i64 1, .int .i64 2, .int .i64 2] 3)).alloc (.cells #[.int .i64 0, .int .i64 0, .int .i64 0, .int .i64 1, .int .i64 1, .int .i64 1, .int .i64 1] 3)) w1.heap.size (.slice (some ⟨w2.heap.size + 1, 0, none⟩) 7 7) [0, 0, 0, 1, 1, 1, 1] := by
      have := own_litn (w2.alloc (.cells #[.int .i64 (-1), .int .i64 0, .int .i64 0, .int .i64 1, .int .i64 1, .int .i64 2, .int .i64 2] 3)) w1.heap.size [0, 0, 0, 1, 1, 1, 1] #[.int .i64 0, .int .i64 0, .int .i64 0, .int .i64 1, .int .i64 1, .int .i64 1, .int .i64 1] 7 rfl rfl (by simp; omega) (by omega)
      simpa using this
    have C3 := Lib.hid ((C2.out.lit (.cells #[.int .i64 (-1), .int .i64 0, .int .i64 0, .int .i64 1, .int .i64 1, .int .i64 2, .int .i64 2] 3)).lit (.cells #[.int .i64 0, .int .i64 0, .int .i64 0, .int .i64 1, .int .i64 1, .int .i64 1, .int .i64 1] 3))
    have R3 := Lib.hid ((R2.out.alloc (.cells #[.int .i64 (-1), .int .i64 0, .int .i64 0, .int .i64 1, .int .i64 1, .int .i64 2, .int .i64 2] 3)).alloc (.cells #[.int .i64 0, .int .i64 0, .int .i64 0, .int .i64 1, .int .i64 1, .int .i64 1, .int .i64 1] 3))
    have hs3 : ((w2.alloc (.cells #[.int .i64 (-1), .int .i64 0, .int .i64 0, .int .i64 1, .int .i64 1, .int .i64 2, .int .i64 2] 3)).alloc (.cells #[.int .i64 0, .int .i64 0, .int .i64 0, .int .i64 1, .int .i64 1, .int .i64 1, .int .i64 1] 3)).heap.size = w2.heap.size + 1 + 1 := by simp
    have HP3 := Lib.hid hp
    have HW3 := Lib.hid hw
    clear hp hw C2 R2
    generalize ((w2.alloc (.cells #[.int .i64 (-1), .int .i64 0, .int .i64 0, .int .i64 1, .int .i64 1, .int .i64 2, .int .i64 2] 3)).alloc (.cells #[.int .i64 0, .int .i64 0, .int .i64 0, .int .i64 1, .int .i64 1, .int .i64 1, .int .i64 1] 3)) = w3 at *
    refine (spec_pick g a n cap _ _ _ (by omega) (by omega) C3.out.cur).mono ?_
    rintro e w4 ⟨⟨x, rfl, hx0, hx1⟩, c4, g4⟩
    have C4 := Lib.hid (C3.out.step c4 g4)
    have R4 := pair_other R3.out g4 (by omega)
    have hp4 := own_other HP3.out g4 (by omega)
    have hw4 := own_other HW3.out g4 (by omega)
    have hs4 : w2.heap.size + 1 + 1 ≤ w4.heap.size := by have := g4.size; omega
    obtain ⟨u, hu⟩ : ∃ u, u = x - 4 := ⟨_, rfl⟩
    have k0 : IntKind.i64.wrap (x - 4) = u := by rw [hu]; exact IntWalk.i64_in _ (by omega)
    have ho5 := own_litn w4 w1.heap.size [u] #[.int .i64 u] 1 rfl rfl (by omega) (by omega)
    have hD5 : DTre (w4.alloc (.cells #[.int .i64 u] 3)) w1.heap.size (some ⟨w2.heap.size, 0, none⟩) 7 7 (some ⟨w2.heap.size + 1, 0, none⟩) 7 7 [-1, 0, 0, 1, 1, 2, 2] [0, 0, 0, 1, 1, 1, 1] := ⟨hp4.lit _, hw4.lit _, by omega, by omega⟩
    have hB6 := bx_new (w0 := w1) 26 hD5 (by simp; omega) (R4.alloc _) hs0
    have hH : Hv w w1 ((w4.alloc (.cells #[.int .i64 u] 3)).alloc (.cells #[.slice (some ⟨w2.heap.size, 0, none⟩) 7 7, .slice (some ⟨w2.heap.size + 1, 0, none⟩) 7 7] 26)) g a n cap (lim + 10) w.heap.size (w4.alloc (.cells #[.int .i64 u] 3)).heap.size (some ⟨w2.heap.size, 0, none⟩) 7 7 (some ⟨w2.heap.size + 1, 0, none⟩) 7 7 [-1, 0, 0, 1, 1, 2, 2] [0, 0, 0, 1, 1, 1, 1] (.slice (some ⟨w4.heap.size, 0, none⟩) 1 1) [u] :=
      ⟨((C4.out.lit _).lit _).mono (by omega), hB6, ho5.lit _, by simp [Value.ownBlock], fun k hk => by simp [Value.ownBlock] at hk ⊢; omega, fun k hk => by simp [Value.ownBlock] at hk ⊢; omega, by omega⟩
    have HH := Lib.hid hH
    have hP6 := Pair.new (w4.alloc (.cells #[.int .i64 u] 3)) (.slice none 0 0) (.slice none 0 0) 26
    have x0 := hP6.c0
    have x1 := hP6.c1
    have y0 := hP6.f0
    have y1 := hP6.f1
    have Hu := Lib.hid hu
    clear hu c4 g4 hH hB6 hD5 ho5 hp4 hw4 R4 C3 R3 HP3 HW3 hP6
    go_wp2_with fail
    clear x0 x1 y0 y1
    have htb : (w4.alloc (.cells #[.int .i64 u] 3)).heap.size = w4.heap.size + 1 := by simp
    rw [htb] at HH
    generalize ((w4.alloc (.cells #[.int .i64 u] 3)).alloc (.cells #[.slice (some ⟨w2.heap.size, 0, none⟩) 7 7, .slice (some ⟨w2.heap.size + 1, 0, none⟩) 7 7] 26)) = w5 at *
    clear htb C4
    refine (spec_one g a n cap _ _ _ (by omega) (by omega) HH.out.cq.cur).mono ?_
    rintro e w6 ⟨⟨t, rfl⟩, c6, g6⟩
    have HH6 := Lib.hid (HH.out.step c6 g6 (by omega))
    clear c6 g6 HH
    cases t
    · generalize w2.heap.size + 1 = bw at *
      generalize w2.heap.size = bp at *
      generalize w4.heap.size + 1 = tb at *
      generalize (Value.slice (some ⟨w4.heap.size, 0, none⟩) 1 1) = v0 at *
      have d0 := HH6.out.bx.box.c0
      go_wp2_with fail
      have Hpar : Hid (∀ k : Nat, k < 3 → nth [-1, 0, 0, 1, 1, 2, 2] (2 * k + 1) = (k : Int)) := Lib.hid fun k hk => by
        rcases (show k = 0 ∨ k = 1 ∨ k = 2 by omega) with rfl | rfl | rfl <;> rfl
      go_loopw [6, 7] (fun v6 v7 wr => ∃ (k x : Nat) (xs : List Int), k ≤ 3 ∧ x = 2 * k + 1 ∧ v7 = .int .i64 (x : Int) ∧ xs.length = x ∧ Hv w w1 wr g a n cap (lim + 20 + 2 * (k : Int)) w.heap.size tb (some ⟨bp, 0, none⟩) 7 7 (some ⟨bw, 0, none⟩) 7 7 [-1, 0, 0, 1, 1, 2, 2] [0, 0, 0, 1, 1, 1, 1] v6 xs) (fun _ v7 _ => 7 - (intOf v7).toNat)
      case atStart => exact ⟨0, 1, [u], by omega, rfl, rfl, rfl, HH6.out.mono (by omega)⟩
      case round =>
        clear HH6
        obtain ⟨k, x, xs, hk, hx, rfl, hxl, hH⟩ := hrel
        have HX := Lib.hid hx
        have Hxl := Lib.hid hxl
        have HH8 := Lib.hid hH
        clear hx hxl hH d0
        have d0 := HH8.out.bx.box.c0
        have hxb : 1 ≤ x := by have := HX.out; omega
        by_cases hlt : (x : Int) < 7
        · have hkK : k < 3 := by have := HX.out; omega
          have hkx : k < x := by have := HX.out; omega
          go_wp2_with fail
          refine (spec_pick g a n cap _ _ _ (by omega) (by omega) HH8.out.cq.cur).mono ?_
          rintro e w9 ⟨⟨p, rfl, hp0, hp1⟩, c9, g9⟩
          have HH9 := Lib.hid (HH8.out.step c9 g9 (by omega))
          obtain ⟨d, hd⟩ : ∃ d, IntKind.i64.wrap (p - 3) = d := ⟨_, rfl⟩
          clear c9 g9 HH8 d0 hp0 hp1
          obtain ⟨go, co, hv, hgo, hgl⟩ := HH9.out.o.form (by have := Hxl.out; omega)
          rw [Hxl.out] at hv
          subst hv
          have h9c := HH9.out.o.cell (i := k) (by have := Hxl.out; omega)
          have hxs : xs.length ≤ 24 := by have := Hxl.out; omega
          have hpx : nth [-1, 0, 0, 1, 1, 2, 2] x = (k : Int) := by rw [HX.out]; exact Hpar.out k hkK
          generalize hq : nth xs k = q at *
          clear hq
          obtain ⟨u1, z1⟩ : ∃ u1, IntKind.i64.wrap (q + d) = u1 := ⟨_, rfl⟩
          obtain ⟨u2, z2⟩ : ∃ u2, IntKind.i64.wrap (q - d) = u2 := ⟨_, rfl⟩
          have s1 : (0 : Int) ≤ (x : Int) := by omega
          have s2 : (0 : Int) ≤ (k : Int) := by omega
          have s3 : (k : Int) < (x : Int) := by omega
          have d0 := HH9.out.bx.box.c0
          have e9 := HH9.out.bx.t.p.cell (i := x) (by show x < 7; omega)
          rw [hpx] at e9
          go_wp2_with fail
          refine wp_region_noPanic ?_
          refine wp_region_held_drew (S := (fun W' => W'.cell? ⟨tb, 0, none⟩ = some (.slice (some ⟨bp, 0, none⟩) 7 7) ∧ W'.cell? ⟨bp, x, none⟩ = some (.int .i64 (nth [-1, 0, 0, 1, 1, 2, 2] x)))) (by kernel_rfl) ?_ (fun hHeld0 => ?_)
          · (try dsimp only); first | assumption | exact ⟨HH9.out.bx.box.c0, HH9.out.bx.t.p.cell (i := x) (by show x < 7; omega)⟩ | exact ⟨(HH9.out.lit _).drew.bx.box.c0, (HH9.out.lit _).drew.bx.t.p.cell (i := x) (by show x < 7; omega)⟩
          refine takeH (i := 0) (oi := _) (v := ?_) rfl (by kernel_rfl) (by kernel_rfl) (by kernel_rfl) (fun _ _ _ h => h) (Or.inl ⟨by rfl, ?_⟩) (by assumption) ?_
          rotate_left
          · first | (intro w hSw; (try dsimp only at hSw); go_simp; done) | (intro w hSw; (try dsimp only at hSw); go_simp; with_reducible rfl)
          (try simp only [Act.put, List.setIfInBounds_toArray, List.set_cons_zero, List.set_cons_succ])
          refine takeH (i := 1) (oi := _) (v := ?_) rfl (by kernel_rfl) (by kernel_rfl) (by kernel_rfl) (fun _ _ _ h => h) (Or.inl ⟨by rfl, ?_⟩) (by assumption) ?_
          rotate_left
          · first | (intro w hSw; (try dsimp only at hSw); go_simp; done) | (intro w hSw; (try dsimp only at hSw); go_simp; with_reducible rfl)
          (try simp only [Act.put, List.setIfInBounds_toArray, List.set_cons_zero, List.set_cons_succ])
          refine takeH (i := 2) (oi := _) (v := ?_) rfl (by kernel_rfl) (by kernel_rfl) (by kernel_rfl) (fun _ _ _ h => h) (Or.inl ⟨by rfl, ?_⟩) (by assumption) ?_
          rotate_left
          · first | (intro w hSw; (try dsimp only at hSw); go_simp; done) | (intro w hSw; (try dsimp only at hSw); go_simp; with_reducible rfl)
          (try simp only [Act.put, List.setIfInBounds_toArray, List.set_cons_zero, List.set_cons_succ])
          refine takeH (i := 3) (oi := _) (v := ?_) rfl (by kernel_rfl) (by kernel_rfl) (by kernel_rfl) (fun _ _ _ h => h) (Or.inl ⟨by rfl, ?_⟩) (by assumption) ?_
          rotate_left
          · first | (intro w hSw; (try dsimp only at hSw); go_simp; done) | (intro w hSw; (try dsimp only at hSw); go_simp; with_reducible rfl)
          (try simp only [Act.put, List.setIfInBounds_toArray, List.set_cons_zero, List.set_cons_succ])
          refine takeH (i := 4) (oi := _) (v := ?_) rfl (by kernel_rfl) (by kernel_rfl) (by kernel_rfl) (fun _ _ _ h => h) (Or.inl ⟨by rfl, ?_⟩) (by assumption) ?_
          rotate_left
          · first | (intro w hSw; (try dsimp only at hSw); go_simp; done) | (intro w hSw; (try dsimp only at hSw); go_simp; with_reducible rfl)
          (try simp only [Act.put, List.setIfInBounds_toArray, List.set_cons_zero, List.set_cons_succ])
          refine takeH (i := 5) (oi := _) (v := ?_) rfl (by kernel_rfl) (by kernel_rfl) (by kernel_rfl) (fun _ _ _ h => h) (Or.inl ⟨by rfl, ?_⟩) (by assumption) ?_
          rotate_left
          · first | (intro w hSw; (try dsimp only at hSw); go_simp; done) | (intro w hSw; (try dsimp only at hSw); go_simp; with_reducible rfl)
          (try simp only [Act.put, List.setIfInBounds_toArray, List.set_cons_zero, List.set_cons_succ])
          refine takeH (i := 6) (oi := _) (v := ?_) rfl (by kernel_rfl) (by kernel_rfl) (by kernel_rfl) (fun _ _ _ h => h) (Or.inl ⟨by rfl, ?_⟩) (by assumption) ?_
          rotate_left
          · first | (intro w hSw; (try dsimp only at hSw); go_simp; done) | (intro w hSw; (try dsimp only at hSw); go_simp; with_reducible rfl)
          (try simp only [Act.put, List.setIfInBounds_toArray, List.set_cons_zero, List.set_cons_succ])
          refine takeH (i := 7) (oi := _) (v := ?_) rfl (by kernel_rfl) (by kernel_rfl) (by kernel_rfl) (fun _ _ _ h => h) (Or.inl ⟨by rfl, ?_⟩) (by assumption) ?_
          rotate_left
          · first | (intro w hSw; (try dsimp only at hSw); go_simp; done) | (intro w hSw; (try dsimp only at hSw); go_simp; with_reducible rfl)
          (try simp only [Act.put, List.setIfInBounds_toArray, List.set_cons_zero, List.set_cons_succ])
          refine takeH (i := 9) (oi := _) (v := ?_) rfl (by kernel_rfl) (by kernel_rfl) (by kernel_rfl) (fun _ _ _ h => h) (Or.inl ⟨by rfl, ?_⟩) (by assumption) ?_
          rotate_left
          · first | (intro w hSw; (try dsimp only at hSw); go_simp; done) | (intro w hSw; (try dsimp only at hSw); go_simp; with_reducible rfl)
          (try simp only [Act.put, List.setIfInBounds_toArray, List.set_cons_zero, List.set_cons_succ])
          refine takeH (i := 11) (oi := _) (v := ?_) rfl (by kernel_rfl) (by kernel_rfl) (by kernel_rfl) (fun _ _ _ h => h) (Or.inl ⟨by rfl, ?_⟩) (by assumption) ?_
          rotate_left
          · first | (intro w hSw; (try dsimp only at hSw); go_simp; done) | (intro w hSw; (try dsimp only at hSw); go_simp; with_reducible rfl)
          (try simp only [Act.put, List.setIfInBounds_toArray, List.set_cons_zero, List.set_cons_succ])
          refine takeH (i := 12) (oi := _) (v := ?_) rfl (by kernel_rfl) (by kernel_rfl) (by kernel_rfl) (fun _ _ _ h => h) (Or.inl ⟨by rfl, ?_⟩) (by assumption) ?_
          rotate_left
          · first | (intro w hSw; (try dsimp only at hSw); go_simp; done) | (intro w hSw; (try dsimp only at hSw); go_simp; with_reducible rfl)
          (try simp only [Act.put, List.setIfInBounds_toArray, List.set_cons_zero, List.set_cons_succ])
          refine takeH (i := 13) (oi := _) (v := ?_) rfl (by kernel_rfl) (by kernel_rfl) (by kernel_rfl) (fun _ _ _ h => h) (Or.inl ⟨by rfl, ?_⟩) (by assumption) ?_
          rotate_left
          · first | (intro w hSw; (try dsimp only at hSw); go_simp; done) | (intro w hSw; (try dsimp only at hSw); go_simp; with_reducible rfl)
          (try simp only [Act.put, List.setIfInBounds_toArray, List.set_cons_zero, List.set_cons_succ])
          refine takeH (i := 14) (oi := _) (v := ?_) rfl (by kernel_rfl) (by kernel_rfl) (by kernel_rfl) (fun _ _ _ h => h) (Or.inl ⟨by rfl, ?_⟩) (by assumption) ?_
          rotate_left
          · first | (intro w hSw; (try dsimp only at hSw); go_simp; done) | (intro w hSw; (try dsimp only at hSw); go_simp; with_reducible rfl)
          (try simp only [Act.put, List.setIfInBounds_toArray, List.set_cons_zero, List.set_cons_succ])
          refine takeH (i := 15) (oi := _) (v := ?_) rfl (by kernel_rfl) (by kernel_rfl) (by kernel_rfl) (fun _ _ _ h => h) (Or.inl ⟨by rfl, ?_⟩) (by assumption) ?_
          rotate_left
          · first | (intro w hSw; (try dsimp only at hSw); go_simp; done) | (intro w hSw; (try dsimp only at hSw); go_simp; with_reducible rfl)
          (try simp only [Act.put, List.setIfInBounds_toArray, List.set_cons_zero, List.set_cons_succ])
          refine takeH (i := 16) (oi := _) (v := ?_) rfl (by kernel_rfl) (by kernel_rfl) (by kernel_rfl) (fun _ _ _ h => h) (Or.inl ⟨by rfl, ?_⟩) (by assumption) ?_
          rotate_left
          · first | (intro w hSw; (try dsimp only at hSw); go_simp; done) | (intro w hSw; (try dsimp only at hSw); go_simp; with_reducible rfl)
          (try simp only [Act.put, List.setIfInBounds_toArray, List.set_cons_zero, List.set_cons_succ])
          refine takeH (i := 17) (oi := _) (v := ?_) rfl (by kernel_rfl) (by kernel_rfl) (by kernel_rfl) (fun _ _ _ h => h) (Or.inl ⟨by rfl, ?_⟩) (by assumption) ?_
          rotate_left
          · first | (intro w hSw; (try dsimp only at hSw); go_simp; done) | (intro w hSw; (try dsimp only at hSw); go_simp; with_reducible rfl)
          (try simp only [Act.put, List.setIfInBounds_toArray, List.set_cons_zero, List.set_cons_succ])
          refine takeH (i := 19) (oi := _) (v := ?_) rfl (by kernel_rfl) (by kernel_rfl) (by kernel_rfl) (fun _ _ _ h => h) (Or.inl ⟨by rfl, ?_⟩) (by assumption) ?_
          rotate_left
          · first | (intro w hSw; (try dsimp only at hSw); go_simp; done) | (intro w hSw; (try dsimp only at hSw); go_simp; with_reducible rfl)
          (try simp only [Act.put, List.setIfInBounds_toArray, List.set_cons_zero, List.set_cons_succ])
          refine wpAnyH_ready (rs := [8, 18]) (by kernel_rfl) (by simp) ?_
          refine consM rfl (fun Kq hKq => ?_) (consH rfl (fun Kq hKq => ?_))
          · go_simp
            refine hKq.out _ _ ?_ (fun hHeld1 => ?_)
            · (try dsimp only); first | assumption | exact ⟨HH9.out.bx.box.c0, HH9.out.bx.t.p.cell (i := x) (by show x < 7; omega)⟩ | exact ⟨(HH9.out.lit _).drew.bx.box.c0, (HH9.out.lit _).drew.bx.t.p.cell (i := x) (by show x < 7; omega)⟩
            clear hKq Kq
            (try simp only [Act.put, List.setIfInBounds_toArray, List.set_cons_zero, List.set_cons_succ])
            clear hHeld0
            refine takeH (i := 10) (oi := _) (v := ?_) rfl (by kernel_rfl) (by kernel_rfl) (by kernel_rfl) (fun _ _ _ h => h) (Or.inl ⟨by rfl, ?_⟩) (by assumption) ?_
            rotate_left
            · first | (intro w hSw; (try dsimp only at hSw); go_simp; done) | (intro w hSw; (try dsimp only at hSw); go_simp; with_reducible rfl)
            (try simp only [Act.put, List.setIfInBounds_toArray, List.set_cons_zero, List.set_cons_succ])
            refine wpAnyH_ready (rs := [18]) (by kernel_rfl) (by simp) ?_
            refine consH rfl (fun Kq hKq => ?_)
            go_simp
            refine hKq.out _ _ ?_ (fun hHeld2 => ?_)
            · (try dsimp only); first | assumption | exact ⟨HH9.out.bx.box.c0, HH9.out.bx.t.p.cell (i := x) (by show x < 7; omega)⟩ | exact ⟨(HH9.out.lit _).drew.bx.box.c0, (HH9.out.lit _).drew.bx.t.p.cell (i := x) (by show x < 7; omega)⟩
            clear hKq Kq
            (try simp only [Act.put, List.setIfInBounds_toArray, List.set_cons_zero, List.set_cons_succ])
            clear hHeld1
            refine takeH (i := 20) (oi := _) (v := ?_) rfl (by kernel_rfl) (by kernel_rfl) (by kernel_rfl) (fun _ _ _ h => h) (Or.inl ⟨by rfl, ?_⟩) (by assumption) ?_
            rotate_left
            · first | (intro w hSw; (try dsimp only at hSw); go_simp; done) | (intro w hSw; (try dsimp only at hSw); go_simp; with_reducible rfl)
            (try simp only [Act.put, List.setIfInBounds_toArray, List.set_cons_zero, List.set_cons_succ])
            refine wpAnyH_ready (rs := [21]) (by kernel_rfl) (by simp) ?_
            refine consH rfl (fun Kq hKq => ?_)
            go_simp
            refine hKq.out _ _ ?_ (fun hHeld3 => ?_)
            · (try dsimp only); first | assumption | exact ⟨HH9.out.bx.box.c0, HH9.out.bx.t.p.cell (i := x) (by show x < 7; omega)⟩ | exact ⟨(HH9.out.lit _).drew.bx.box.c0, (HH9.out.lit _).drew.bx.t.p.cell (i := x) (by show x < 7; omega)⟩
            clear hKq Kq
            (try simp only [Act.put, List.setIfInBounds_toArray, List.set_cons_zero, List.set_cons_succ])
            clear hHeld2
            refine wpAnyH_ready (rs := [22]) (by kernel_rfl) (by simp) ?_
            refine consH rfl (fun Kq hKq => ?_)
            refine step_appI rfl _ _ rfl w1.heap.size (.slice (some ⟨go, 0, none⟩) x co) xs (by rfl) (HH9.out.o.lit _).drew _ 2 2 [u1, u2] (by rfl) (fun h => by cases h) (ints_lit _ [_, _] _ 2 rfl rfl).drew (by omega) (by have := HH9.out.bx.box.lt; have := HH9.out.bx.ge; simp; omega) ?_; intro v' w' ho hb hm
            have HH10 := Lib.hid ((HH9.out.lit _).drew.push ho hb hm)
            have hSS := And.intro HH10.out.bx.box.c0 (HH10.out.bx.t.p.cell (i := x) (by show x < 7; omega))
            clear ho hb hm
            refine hKq.out _ _ ?_ (fun hHeld4 => ?_)
            · (try dsimp only); first | assumption | exact ⟨HH9.out.bx.box.c0, HH9.out.bx.t.p.cell (i := x) (by show x < 7; omega)⟩ | exact ⟨(HH9.out.lit _).drew.bx.box.c0, (HH9.out.lit _).drew.bx.t.p.cell (i := x) (by show x < 7; omega)⟩
            clear hKq Kq
            (try simp only [Act.put, List.setIfInBounds_toArray, List.set_cons_zero, List.set_cons_succ])
            clear hHeld3
            refine takeH (i := 23) (oi := _) (v := ?_) rfl (by kernel_rfl) (by kernel_rfl) (by kernel_rfl) (fun _ _ _ h => h) (Or.inl ⟨by rfl, ?_⟩) (by assumption) ?_
            rotate_left
            · first | (intro w hSw; (try dsimp only at hSw); go_simp; done) | (intro w hSw; (try dsimp only at hSw); go_simp; with_reducible rfl)
            (try simp only [Act.put, List.setIfInBounds_toArray, List.set_cons_zero, List.set_cons_succ])
            refine wpAnyH_done (by kernel_rfl) ?_ _
            refine NoPanic.normal ?_
            go_wp2_with fail
            exact ⟨⟨k + 1, x + 2, _, by omega, by have := HX.out; omega, by go_num, by rw [List.length_append, Hxl.out]; rfl, HH10.out.mono (by omega)⟩, by have := HX.out; simp [intOf]; omega⟩
          · go_simp
            refine hKq.out _ _ ?_ (fun hHeld1 => ?_)
            · (try dsimp only); first | assumption | exact ⟨HH9.out.bx.box.c0, HH9.out.bx.t.p.cell (i := x) (by show x < 7; omega)⟩ | exact ⟨(HH9.out.lit _).drew.bx.box.c0, (HH9.out.lit _).drew.bx.t.p.cell (i := x) (by show x < 7; omega)⟩
            clear hKq Kq
            (try simp only [Act.put, List.setIfInBounds_toArray, List.set_cons_zero, List.set_cons_succ])
            clear hHeld0
            refine takeH (i := 20) (oi := _) (v := ?_) rfl (by kernel_rfl) (by kernel_rfl) (by kernel_rfl) (fun _ _ _ h => h) (Or.inl ⟨by rfl, ?_⟩) (by assumption) ?_
            rotate_left
            · first | (intro w hSw; (try dsimp only at hSw); go_simp; done) | (intro w hSw; (try dsimp only at hSw); go_simp; with_reducible rfl)
            (try simp only [Act.put, List.setIfInBounds_toArray, List.set_cons_zero, List.set_cons_succ])
            refine wpAnyH_ready (rs := [8]) (by kernel_rfl) (by simp) ?_
            refine consH rfl (fun Kq hKq => ?_)
            go_simp
            refine hKq.out _ _ ?_ (fun hHeld2 => ?_)
            · (try dsimp only); first | assumption | exact ⟨HH9.out.bx.box.c0, HH9.out.bx.t.p.cell (i := x) (by show x < 7; omega)⟩ | exact ⟨(HH9.out.lit _).drew.bx.box.c0, (HH9.out.lit _).drew.bx.t.p.cell (i := x) (by show x < 7; omega)⟩
            clear hKq Kq
            (try simp only [Act.put, List.setIfInBounds_toArray, List.set_cons_zero, List.set_cons_succ])
            clear hHeld1
            refine takeH (i := 10) (oi := _) (v := ?_) rfl (by kernel_rfl) (by kernel_rfl) (by kernel_rfl) (fun _ _ _ h => h) (Or.inl ⟨by rfl, ?_⟩) (by assumption) ?_
            rotate_left
            · first | (intro w hSw; (try dsimp only at hSw); go_simp; done) | (intro w hSw; (try dsimp only at hSw); go_simp; with_reducible rfl)
            (try simp only [Act.put, List.setIfInBounds_toArray, List.set_cons_zero, List.set_cons_succ])
            refine wpAnyH_ready (rs := [21]) (by kernel_rfl) (by simp) ?_
            refine consH rfl (fun Kq hKq => ?_)
            go_simp
            refine hKq.out _ _ ?_ (fun hHeld3 => ?_)
            · (try dsimp only); first | assumption | exact ⟨HH9.out.bx.box.c0, HH9.out.bx.t.p.cell (i := x) (by show x < 7; omega)⟩ | exact ⟨(HH9.out.lit _).drew.bx.box.c0, (HH9.out.lit _).drew.bx.t.p.cell (i := x) (by show x < 7; omega)⟩
            clear hKq Kq
            (try simp only [Act.put, List.setIfInBounds_toArray, List.set_cons_zero, List.set_cons_succ])
            clear hHeld2
            refine wpAnyH_ready (rs := [22]) (by kernel_rfl) (by simp) ?_
            refine consH rfl (fun Kq hKq => ?_)
            refine step_appI rfl _ _ rfl w1.heap.size (.slice (some ⟨go, 0, none⟩) x co) xs (by rfl) (HH9.out.o.lit _).drew _ 2 2 [u1, u2] (by rfl) (fun h => by cases h) (ints_lit _ [_, _] _ 2 rfl rfl).drew (by omega) (by have := HH9.out.bx.box.lt; have := HH9.out.bx.ge; simp; omega) ?_; intro v' w' ho hb hm
            have HH10 := Lib.hid ((HH9.out.lit _).drew.push ho hb hm)
            have hSS := And.intro HH10.out.bx.box.c0 (HH10.out.bx.t.p.cell (i := x) (by show x < 7; omega))
            clear ho hb hm
            refine hKq.out _ _ ?_ (fun hHeld4 => ?_)
            · (try dsimp only); first | assumption | exact ⟨HH9.out.bx.box.c0, HH9.out.bx.t.p.cell (i := x) (by show x < 7; omega)⟩ | exact ⟨(HH9.out.lit _).drew.bx.box.c0, (HH9.out.lit _).drew.bx.t.p.cell (i := x) (by show x < 7; omega)⟩
            clear hKq Kq
            (try simp only [Act.put, List.setIfInBounds_toArray, List.set_cons_zero, List.set_cons_succ])
            clear hHeld3
            refine takeH (i := 23) (oi := _) (v := ?_) rfl (by kernel_rfl) (by kernel_rfl) (by kernel_rfl) (fun _ _ _ h => h) (Or.inl ⟨by rfl, ?_⟩) (by assumption) ?_
            rotate_left
            · first | (intro w hSw; (try dsimp only at hSw); go_simp; done) | (intro w hSw; (try dsimp only at hSw); go_simp; with_reducible rfl)
            (try simp only [Act.put, List.setIfInBounds_toArray, List.set_cons_zero, List.set_cons_succ])
            refine wpAnyH_done (by kernel_rfl) ?_ _
            refine NoPanic.normal ?_
            go_wp2_with fail
            exact ⟨⟨k + 1, x + 2, _, by omega, by have := HX.out; omega, by go_num, by rw [List.length_append, Hxl.out]; rfl, HH10.out.mono (by omega)⟩, by have := HX.out; simp [intOf]; omega⟩
        · obtain rfl : x = 7 := by have := HX.out; omega
          clear hlt d0
          obtain ⟨go, co, hv, hgo, hgl⟩ := HH8.out.o.form (by have := Hxl.out; omega)
          rw [Hxl.out] at hv
          subst hv
          have d0 := HH8.out.bx.box.c0
          go_wp2_with fail
          refine (spec_one g a n cap _ _ _ (by omega) (by omega) HH8.out.cq.cur).mono ?_
          rintro e w9 ⟨⟨t, rfl⟩, c9, g9⟩
          have HH9 := Lib.hid (HH8.out.step c9 g9 (by omega))
          clear c9 g9 HH8 d0
          cases t
          · have d0 := HH9.out.bx.box.c0
            have d1 := HH9.out.bx.box.c1
            have e0 := HH9.out.bx.res.c0
            have e1 := HH9.out.bx.res.c1
            have f0 := HH9.out.bx.res.f0
            have f1 := HH9.out.bx.res.f1
            have hr := HH9.out.bx.res.set (.slice (some ⟨bp, 0, none⟩) 7 7) (.slice (some ⟨bw, 0, none⟩) 7 7)
            have hTT := (HH9.out.bx.t.res (rb := w.heap.size) (x := .slice (some ⟨bp, 0, none⟩) 7 7) (y := .slice (some ⟨bw, 0, none⟩) 7 7) (by omega)).mono (base' := w.heap.size) (by omega)
            have hOO := (own_res (rb := w.heap.size) (x := .slice (some ⟨bp, 0, none⟩) 7 7) (y := .slice (some ⟨bw, 0, none⟩) 7 7) HH9.out.o (by omega)).mono (base' := w.heap.size) (by omega)
            have hCC := Two.doneC HH9.out.cq (.slice (some ⟨bp, 0, none⟩) 7 7) (.slice (some ⟨bw, 0, none⟩) 7 7)
            have HTT := Lib.hid hTT
            have HOO := Lib.hid hOO
            have HCC := Lib.hid hCC
            clear hTT hOO hCC
            go_wp2_with fail
            exact bodyPost_ret (v := .tuple #[.agg #[.slice (some ⟨bp, 0, none⟩) 7 7, .slice (some ⟨bw, 0, none⟩) 7 7], .slice (some ⟨go, 0, none⟩) 7 co]) (by simp [results, Try.results114, go_sem, hr.1, hr.2]) rfl ⟨⟨_, rfl, _, _, _, _, _, _, _, _, _, rfl, HTT.out, ⟨_, HOO.out, by have := Hxl.out; omega⟩⟩, HCC.out.cur.mono (by omega), HCC.out.grow⟩
          · go_wp2_with fail
            refine (spec_pick g a n cap _ _ _ (by omega) (by omega) HH9.out.cq.cur).mono ?_
            rintro e w10 ⟨⟨x0, rfl, hx0, hx1⟩, c10, g10⟩
            obtain ⟨X, rfl⟩ : ∃ X : Nat, x0 = X := ⟨x0.toNat, by omega⟩
            have hX : X < 7 := by omega
            have HH10 := Lib.hid (HH9.out.step c10 g10 (by omega))
            have hcX := HH10.out.o.cell (i := X) (by have := Hxl.out; omega)
            have hltgo := HH10.out.o.lt.2
            have r1 : (0 : Int) ≤ (X : Int) := by omega
            have r2 : (X : Int) < 7 := by omega
            clear c10 g10 HH9 hx0 hx1
            go_wp2_with fail
            refine wp_region_noPanic ?_
            refine wp_region_held_drew (S := (fun _ => True)) (by kernel_rfl) ?_ (fun hHeld0 => ?_)
            · trivial
            refine takeH (i := 0) (oi := _) (v := ?_) rfl (by kernel_rfl) (by kernel_rfl) (by kernel_rfl) (fun _ _ _ h => h) (Or.inl ⟨by rfl, ?_⟩) (by assumption) ?_
            rotate_left
            · first | (intro w hSw; (try dsimp only at hSw); go_simp; done) | (intro w hSw; (try dsimp only at hSw); go_simp; with_reducible rfl)
            (try simp only [Act.put, List.setIfInBounds_toArray, List.set_cons_zero, List.set_cons_succ])
            refine takeH (i := 1) (oi := _) (v := ?_) rfl (by kernel_rfl) (by kernel_rfl) (by kernel_rfl) (fun _ _ _ h => h) (Or.inl ⟨by rfl, ?_⟩) (by assumption) ?_
            rotate_left
            · first | (intro w hSw; (try dsimp only at hSw); go_simp; done) | (intro w hSw; (try dsimp only at hSw); go_simp; with_reducible rfl)
            (try simp only [Act.put, List.setIfInBounds_toArray, List.set_cons_zero, List.set_cons_succ])
            refine takeH (i := 2) (oi := _) (v := ?_) rfl (by kernel_rfl) (by kernel_rfl) (by kernel_rfl) (fun _ _ _ h => h) (Or.inl ⟨by rfl, ?_⟩) (by assumption) ?_
            rotate_left
            · first | (intro w hSw; (try dsimp only at hSw); go_simp; done) | (intro w hSw; (try dsimp only at hSw); go_simp; with_reducible rfl)
            (try simp only [Act.put, List.setIfInBounds_toArray, List.set_cons_zero, List.set_cons_succ])
            refine takeH (i := 3) (oi := _) (v := ?_) rfl (by kernel_rfl) (by kernel_rfl) (by kernel_rfl) (fun _ _ _ h => h) (Or.inl ⟨by rfl, ?_⟩) (by assumption) ?_
            rotate_left
            · first | (intro w hSw; (try dsimp only at hSw); go_simp; done) | (intro w hSw; (try dsimp only at hSw); go_simp; with_reducible rfl)
            (try simp only [Act.put, List.setIfInBounds_toArray, List.set_cons_zero, List.set_cons_succ])
            refine takeH (i := 4) (oi := _) (v := ?_) rfl (by kernel_rfl) (by kernel_rfl) (by kernel_rfl) (fun _ _ _ h => h) (Or.inl ⟨by rfl, ?_⟩) (by assumption) ?_
            rotate_left
            · first | (intro w hSw; (try dsimp only at hSw); go_simp; done) | (intro w hSw; (try dsimp only at hSw); go_simp; with_reducible rfl)
            (try simp only [Act.put, List.setIfInBounds_toArray, List.set_cons_zero, List.set_cons_succ])
            refine takeH (i := 6) (oi := _) (v := ?_) rfl (by kernel_rfl) (by kernel_rfl) (by kernel_rfl) (fun _ _ _ h => h) (Or.inl ⟨by rfl, ?_⟩) (by assumption) ?_
            rotate_left
            · first | (intro w hSw; (try dsimp only at hSw); go_simp; done) | (intro w hSw; (try dsimp only at hSw); go_simp; with_reducible rfl)
            (try simp only [Act.put, List.setIfInBounds_toArray, List.set_cons_zero, List.set_cons_succ])
            refine wpAnyH_ready (rs := [5, 7]) (by kernel_rfl) (by simp) ?_
            refine consM rfl (fun Kq hKq => ?_) (consH rfl (fun Kq hKq => ?_))
            · go_simp
              refine hKq.out _ _ ?_ (fun hHeld1 => ?_)
              · trivial
              clear hKq Kq
              (try simp only [Act.put, List.setIfInBounds_toArray, List.set_cons_zero, List.set_cons_succ])
              clear hHeld0
              refine wpAnyH_ready (rs := [7]) (by kernel_rfl) (by simp) ?_
              refine consH rfl (fun Kq hKq => ?_)
              go_simp
              refine hKq.out _ _ ?_ (fun hHeld2 => ?_)
              · trivial
              clear hKq Kq
              (try simp only [Act.put, List.setIfInBounds_toArray, List.set_cons_zero, List.set_cons_succ])
              clear hHeld1
              refine wpAnyH_ready (rs := [8]) (by kernel_rfl) (by simp) ?_
              refine consH rfl (fun Kq hKq => ?_)
              go_simp
              refine (spec_among g a n cap _ _ 3 3 [1, -1, 1000] _ (by omega) (by omega) (ints_lit _ [1, -1, 1000] _ 3 rfl rfl).drew HH10.out.cq.cur.ne (HH10.out.lit _).drew.cq.cur).mono ?_
              rintro e w11 ⟨⟨i11, hi11, rfl⟩, c11, g11⟩
              generalize nth _ i11 = dv at *
              have HH11 := Lib.hid ((HH10.out.lit _).drew.step c11 g11 (by omega))
              have h11c := HH11.out.o.cell (i := X) (by have := Hxl.out; omega)
              have h11f := HH11.out.o.free Hxl.out.symm X
              clear c11 g11
              refine hKq.out _ _ ?_ (fun hHeld3 => ?_)
              · trivial
              clear hKq Kq
              (try simp only [Act.put, List.setIfInBounds_toArray, List.set_cons_zero, List.set_cons_succ])
              clear hHeld2
              refine takeH (i := 9) (oi := _) (v := ?_) rfl (by kernel_rfl) (by kernel_rfl) (by kernel_rfl) (fun _ _ _ h => h) (Or.inl ⟨by rfl, ?_⟩) (by assumption) ?_
              rotate_left
              · first | (intro w hSw; (try dsimp only at hSw); go_simp; done) | (intro w hSw; (try dsimp only at hSw); go_simp; with_reducible rfl)
              (try simp only [Act.put, List.setIfInBounds_toArray, List.set_cons_zero, List.set_cons_succ])
              refine takeH (i := 10) (oi := _) (v := ?_) rfl (by kernel_rfl) (by kernel_rfl) (by kernel_rfl) (fun _ _ _ h => h) (Or.inl ⟨by rfl, ?_⟩) (by assumption) ?_
              rotate_left
              · first | (intro w hSw; (try dsimp only at hSw); go_simp; done) | (intro w hSw; (try dsimp only at hSw); go_simp; with_reducible rfl)
              (try simp only [Act.put, List.setIfInBounds_toArray, List.set_cons_zero, List.set_cons_succ])
              refine wpAnyH_ready (rs := [11]) (by kernel_rfl) (by simp) ?_
              refine consH rfl (fun Kq hKq => ?_)
              go_simp
              refine hKq.out _ _ ?_ (fun hHeld4 => ?_)
              · trivial
              clear hKq Kq
              (try simp only [Act.put, List.setIfInBounds_toArray, List.set_cons_zero, List.set_cons_succ])
              clear hHeld3
              refine wpAnyH_done (by kernel_rfl) ?_ _
              refine NoPanic.normal ?_
              obtain ⟨us, hus⟩ : ∃ us, IntKind.i64.wrap (nth xs X + dv) = us := ⟨_, rfl⟩
              have HH12 := Lib.hid (HH11.out.put Hxl.out.symm X us)
              have d0 := HH12.out.bx.box.c0
              have d1 := HH12.out.bx.box.c1
              have e0 := HH12.out.bx.res.c0
              have e1 := HH12.out.bx.res.c1
              have f0 := HH12.out.bx.res.f0
              have f1 := HH12.out.bx.res.f1
              have hr := HH12.out.bx.res.set (.slice (some ⟨bp, 0, none⟩) 7 7) (.slice (some ⟨bw, 0, none⟩) 7 7)
              have hTT := (HH12.out.bx.t.res (rb := w.heap.size) (x := .slice (some ⟨bp, 0, none⟩) 7 7) (y := .slice (some ⟨bw, 0, none⟩) 7 7) (by omega)).mono (base' := w.heap.size) (by omega)
              have hOO := (own_res (rb := w.heap.size) (x := .slice (some ⟨bp, 0, none⟩) 7 7) (y := .slice (some ⟨bw, 0, none⟩) 7 7) HH12.out.o (by omega)).mono (base' := w.heap.size) (by omega)
              have hCC := Two.doneC HH12.out.cq (.slice (some ⟨bp, 0, none⟩) 7 7) (.slice (some ⟨bw, 0, none⟩) 7 7)
              have HTT := Lib.hid hTT
              have HOO := Lib.hid hOO
              have HCC := Lib.hid hCC
              clear hTT hOO hCC
              go_wp2_with fail
              exact bodyPost_ret (v := .tuple #[.agg #[.slice (some ⟨bp, 0, none⟩) 7 7, .slice (some ⟨bw, 0, none⟩) 7 7], .slice (some ⟨go, 0, none⟩) 7 co]) (by simp [results, Try.results114, go_sem, hr.1, hr.2]) rfl ⟨⟨_, rfl, _, _, _, _, _, _, _, _, _, rfl, HTT.out, ⟨_, HOO.out, by rw [List.length_set]; have := Hxl.out; omega⟩⟩, HCC.out.cur.mono (by omega), HCC.out.grow⟩
            · go_simp
              refine hKq.out _ _ ?_ (fun hHeld1 => ?_)
              · trivial
              clear hKq Kq
              (try simp only [Act.put, List.setIfInBounds_toArray, List.set_cons_zero, List.set_cons_succ])
              clear hHeld0
              refine wpAnyH_ready (rs := [5, 8]) (by kernel_rfl) (by simp) ?_
              refine consM rfl (fun Kq hKq => ?_) (consH rfl (fun Kq hKq => ?_))
              · go_simp
                refine hKq.out _ _ ?_ (fun hHeld2 => ?_)
                · trivial
                clear hKq Kq
                (try simp only [Act.put, List.setIfInBounds_toArray, List.set_cons_zero, List.set_cons_succ])
                clear hHeld1
                refine wpAnyH_ready (rs := [8]) (by kernel_rfl) (by simp) ?_
                refine consH rfl (fun Kq hKq => ?_)
                go_simp
                refine (spec_among g a n cap _ _ 3 3 [1, -1, 1000] _ (by omega) (by omega) (ints_lit _ [1, -1, 1000] _ 3 rfl rfl).drew HH10.out.cq.cur.ne (HH10.out.lit _).drew.cq.cur).mono ?_
                rintro e w11 ⟨⟨i11, hi11, rfl⟩, c11, g11⟩
                generalize nth _ i11 = dv at *
                have HH11 := Lib.hid ((HH10.out.lit _).drew.step c11 g11 (by omega))
                have h11c := HH11.out.o.cell (i := X) (by have := Hxl.out; omega)
                have h11f := HH11.out.o.free Hxl.out.symm X
                clear c11 g11
                refine hKq.out _ _ ?_ (fun hHeld3 => ?_)
                · trivial
                clear hKq Kq
                (try simp only [Act.put, List.setIfInBounds_toArray, List.set_cons_zero, List.set_cons_succ])
                clear hHeld2
                refine takeH (i := 9) (oi := _) (v := ?_) rfl (by kernel_rfl) (by kernel_rfl) (by kernel_rfl) (fun _ _ _ h => h) (Or.inl ⟨by rfl, ?_⟩) (by assumption) ?_
                rotate_left
                · first | (intro w hSw; (try dsimp only at hSw); go_simp; done) | (intro w hSw; (try dsimp only at hSw); go_simp; with_reducible rfl)
                (try simp only [Act.put, List.setIfInBounds_toArray, List.set_cons_zero, List.set_cons_succ])
                refine takeH (i := 10) (oi := _) (v := ?_) rfl (by kernel_rfl) (by kernel_rfl) (by kernel_rfl) (fun _ _ _ h => h) (Or.inl ⟨by rfl, ?_⟩) (by assumption) ?_
                rotate_left
                · first | (intro w hSw; (try dsimp only at hSw); go_simp; done) | (intro w hSw; (try dsimp only at hSw); go_simp; with_reducible rfl)
                (try simp only [Act.put, List.setIfInBounds_toArray, List.set_cons_zero, List.set_cons_succ])
                refine wpAnyH_ready (rs := [11]) (by kernel_rfl) (by simp) ?_
                refine consH rfl (fun Kq hKq => ?_)
                go_simp
                refine hKq.out _ _ ?_ (fun hHeld4 => ?_)
                · trivial
                clear hKq Kq
                (try simp only [Act.put, List.setIfInBounds_toArray, List.set_cons_zero, List.set_cons_succ])
                clear hHeld3
                refine wpAnyH_done (by kernel_rfl) ?_ _
                refine NoPanic.normal ?_
                obtain ⟨us, hus⟩ : ∃ us, IntKind.i64.wrap (nth xs X + dv) = us := ⟨_, rfl⟩
                have HH12 := Lib.hid (HH11.out.put Hxl.out.symm X us)
                have d0 := HH12.out.bx.box.c0
                have d1 := HH12.out.bx.box.c1
                have e0 := HH12.out.bx.res.c0
                have e1 := HH12.out.bx.res.c1
                have f0 := HH12.out.bx.res.f0
                have f1 := HH12.out.bx.res.f1
                have hr := HH12.out.bx.res.set (.slice (some ⟨bp, 0, none⟩) 7 7) (.slice (some ⟨bw, 0, none⟩) 7 7)
                have hTT := (HH12.out.bx.t.res (rb := w.heap.size) (x := .slice (some ⟨bp, 0, none⟩) 7 7) (y := .slice (some ⟨bw, 0, none⟩) 7 7) (by omega)).mono (base' := w.heap.size) (by omega)
                have hOO := (own_res (rb := w.heap.size) (x := .slice (some ⟨bp, 0, none⟩) 7 7) (y := .slice (some ⟨bw, 0, none⟩) 7 7) HH12.out.o (by omega)).mono (base' := w.heap.size) (by omega)
                have hCC := Two.doneC HH12.out.cq (.slice (some ⟨bp, 0, none⟩) 7 7) (.slice (some ⟨bw, 0, none⟩) 7 7)
                have HTT := Lib.hid hTT
                have HOO := Lib.hid hOO
                have HCC := Lib.hid hCC
                clear hTT hOO hCC
                go_wp2_with fail
                exact bodyPost_ret (v := .tuple #[.agg #[.slice (some ⟨bp, 0, none⟩) 7 7, .slice (some ⟨bw, 0, none⟩) 7 7], .slice (some ⟨go, 0, none⟩) 7 co]) (by simp [results, Try.results114, go_sem, hr.1, hr.2]) rfl ⟨⟨_, rfl, _, _, _, _, _, _, _, _, _, rfl, HTT.out, ⟨_, HOO.out, by rw [List.length_set]; have := Hxl.out; omega⟩⟩, HCC.out.cur.mono (by omega), HCC.out.grow⟩
              · go_simp
                refine (spec_among g a n cap _ _ 3 3 [1, -1, 1000] _ (by omega) (by omega) (ints_lit _ [1, -1, 1000] _ 3 rfl rfl).drew HH10.out.cq.cur.ne (HH10.out.lit _).drew.cq.cur).mono ?_
                rintro e w11 ⟨⟨i11, hi11, rfl⟩, c11, g11⟩
                generalize nth _ i11 = dv at *
                have HH11 := Lib.hid ((HH10.out.lit _).drew.step c11 g11 (by omega))
                have h11c := HH11.out.o.cell (i := X) (by have := Hxl.out; omega)
                have h11f := HH11.out.o.free Hxl.out.symm X
                clear c11 g11
                refine hKq.out _ _ ?_ (fun hHeld2 => ?_)
                · trivial
                clear hKq Kq
                (try simp only [Act.put, List.setIfInBounds_toArray, List.set_cons_zero, List.set_cons_succ])
                clear hHeld1
                refine wpAnyH_ready (rs := [5]) (by kernel_rfl) (by simp) ?_
                refine consH rfl (fun Kq hKq => ?_)
                go_simp
                refine hKq.out _ _ ?_ (fun hHeld3 => ?_)
                · trivial
                clear hKq Kq
                (try simp only [Act.put, List.setIfInBounds_toArray, List.set_cons_zero, List.set_cons_succ])
                clear hHeld2
                refine takeH (i := 9) (oi := _) (v := ?_) rfl (by kernel_rfl) (by kernel_rfl) (by kernel_rfl) (fun _ _ _ h => h) (Or.inl ⟨by rfl, ?_⟩) (by assumption) ?_
                rotate_left
                · first | (intro w hSw; (try dsimp only at hSw); go_simp; done) | (intro w hSw; (try dsimp only at hSw); go_simp; with_reducible rfl)
                (try simp only [Act.put, List.setIfInBounds_toArray, List.set_cons_zero, List.set_cons_succ])
                refine takeH (i := 10) (oi := _) (v := ?_) rfl (by kernel_rfl) (by kernel_rfl) (by kernel_rfl) (fun _ _ _ h => h) (Or.inl ⟨by rfl, ?_⟩) (by assumption) ?_
                rotate_left
                · first | (intro w hSw; (try dsimp only at hSw); go_simp; done) | (intro w hSw; (try dsimp only at hSw); go_simp; with_reducible rfl)
                (try simp only [Act.put, List.setIfInBounds_toArray, List.set_cons_zero, List.set_cons_succ])
                refine wpAnyH_ready (rs := [11]) (by kernel_rfl) (by simp) ?_
                refine consH rfl (fun Kq hKq => ?_)
                go_simp
                refine hKq.out _ _ ?_ (fun hHeld4 => ?_)
                · trivial
                clear hKq Kq
                (try simp only [Act.put, List.setIfInBounds_toArray, List.set_cons_zero, List.set_cons_succ])
                clear hHeld3
                refine wpAnyH_done (by kernel_rfl) ?_ _
                refine NoPanic.normal ?_
                obtain ⟨us, hus⟩ : ∃ us, IntKind.i64.wrap (nth xs X + dv) = us := ⟨_, rfl⟩
                have HH12 := Lib.hid (HH11.out.put Hxl.out.symm X us)
                have d0 := HH12.out.bx.box.c0
                have d1 := HH12.out.bx.box.c1
                have e0 := HH12.out.bx.res.c0
                have e1 := HH12.out.bx.res.c1
                have f0 := HH12.out.bx.res.f0
                have f1 := HH12.out.bx.res.f1
                have hr := HH12.out.bx.res.set (.slice (some ⟨bp, 0, none⟩) 7 7) (.slice (some ⟨bw, 0, none⟩) 7 7)
                have hTT := (HH12.out.bx.t.res (rb := w.heap.size) (x := .slice (some ⟨bp, 0, none⟩) 7 7) (y := .slice (some ⟨bw, 0, none⟩) 7 7) (by omega)).mono (base' := w.heap.size) (by omega)
                have hOO := (own_res (rb := w.heap.size) (x := .slice (some ⟨bp, 0, none⟩) 7 7) (y := .slice (some ⟨bw, 0, none⟩) 7 7) HH12.out.o (by omega)).mono (base' := w.heap.size) (by omega)
                have hCC := Two.doneC HH12.out.cq (.slice (some ⟨bp, 0, none⟩) 7 7) (.slice (some ⟨bw, 0, none⟩) 7 7)
                have HTT := Lib.hid hTT
                have HOO := Lib.hid hOO
                have HCC := Lib.hid hCC
                clear hTT hOO hCC
                go_wp2_with fail
                exact bodyPost_ret (v := .tuple #[.agg #[.slice (some ⟨bp, 0, none⟩) 7 7, .slice (some ⟨bw, 0, none⟩) 7 7], .slice (some ⟨go, 0, none⟩) 7 co]) (by simp [results, Try.results114, go_sem, hr.1, hr.2]) rfl ⟨⟨_, rfl, _, _, _, _, _, _, _, _, _, rfl, HTT.out, ⟨_, HOO.out, by rw [List.length_set]; have := Hxl.out; omega⟩⟩, HCC.out.cur.mono (by omega), HCC.out.grow⟩
    · have tb0 : w4.heap.size + 1 < w6.heap.size := HH6.out.bx.box.lt
      have ow0 : w4.heap.size < w6.heap.size := HH6.out.o.lt.2
      have hs6 : w1.heap.size ≤ w6.heap.size := by have := HH6.out.bx.ge; omega
      have hp := (own_litn w6 w1.heap.size [-1, 0, 0, 1, 1] #[.int .i64 (-1), .int .i64 0, .int .i64 0, .int .i64 1, .int .i64 1] 5 rfl rfl hs6 (by omega)).lit (.cells #[.int .i64 0, .int .i64 0, .int .i64 2, .int .i64 1, .int .i64 1] 3)
      have hw : Own ((w6.alloc (.cells #[.int .i64 (-1), .int .i64 0, .int .i64 0, .int .i64 1, .int .i64 1] 3)).alloc (.cells #[.int .i64 0, .int .i64 0, .int .i64 2, .int .i64 1, .int .i64 1] 3)) w1.heap.size (.slice (some ⟨w6.heap.size + 1, 0, none⟩) 5 5) [0, 0, 2, 1, 1] := by
        have := own_litn (w6.alloc (.cells #[.int .i64 (-1), .int .i64 0, .int .i64 0, .int .i64 1, .int .i64 1] 3)) w1.heap.size [0, 0, 2, 1, 1] #[.int .i64 0, .int .i64 0, .int .i64 2, .int .i64 1, .int .i64 1] 5 rfl rfl (by simp; omega) (by omega)
        simpa using this
      have hH7 := ((HH6.out.lit (.cells #[.int .i64 (-1), .int .i64 0, .int .i64 0, .int .i64 1, .int .i64 1] 3)).lit (.cells #[.int .i64 0, .int .i64 0, .int .i64 2, .int .i64 1, .int .i64 1] 3)).retree ⟨hp, hw, by omega, by omega⟩ (fun k hk => by simp [Value.ownBlock] at hk ⊢; omega) (fun k hk => by simp [Value.ownBlock] at hk ⊢; omega)
      simp (disch := (first | omega | (simp [World.setCell]; omega))) only [World.setCell_alloc_past] at hH7
      have HH7 := Lib.hid hH7
      have hb7 := HH6.out.bx.box
      have x0 := hb7.c0
      have x1 := hb7.c1
      have y0 := hb7.f0
      have y1 := hb7.f1
      have d0 := HH7.out.bx.box.c0
      clear hp hw hH7 hb7
      go_wp2_with fail
      clear x0 x1 y0 y1 d0 HH6
      generalize ((((w6.setCell ⟨w4.heap.size + 1, 0, none⟩ (.slice (some ⟨w6.heap.size, 0, none⟩) 5 5)).setCell ⟨w4.heap.size + 1, 1, none⟩ (.slice (some ⟨w6.heap.size + 1, 0, none⟩) 5 5)).alloc (.cells #[.int .i64 (-1), .int .i64 0, .int .i64 0, .int .i64 1, .int .i64 1] 3)).alloc (.cells #[.int .i64 0, .int .i64 0, .int .i64 2, .int .i64 1, .int .i64 1] 3)) = w7 at *
      generalize w6.heap.size + 1 = bw at *
      generalize w6.heap.size = bp at *
      generalize w4.heap.size + 1 = tb at *
      generalize (Value.slice (some ⟨w4.heap.size, 0, none⟩) 1 1) = v0 at *
      have d0 := HH7.out.bx.box.c0
      have Hpar : Hid (∀ k : Nat, k < 2 → nth [-1, 0, 0, 1, 1] (2 * k + 1) = (k : Int)) := Lib.hid fun k hk => by
        rcases (show k = 0 ∨ k = 1 by omega) with rfl | rfl <;> rfl
      go_loopw [6, 7] (fun v6 v7 wr => ∃ (k x : Nat) (xs : List Int), k ≤ 2 ∧ x = 2 * k + 1 ∧ v7 = .int .i64 (x : Int) ∧ xs.length = x ∧ Hv w w1 wr g a n cap (lim + 20 + 2 * (k : Int)) w.heap.size tb (some ⟨bp, 0, none⟩) 5 5 (some ⟨bw, 0, none⟩) 5 5 [-1, 0, 0, 1, 1] [0, 0, 2, 1, 1] v6 xs) (fun _ v7 _ => 5 - (intOf v7).toNat)
      case atStart => exact ⟨0, 1, [u], by omega, rfl, rfl, rfl, HH7.out.mono (by omega)⟩
      case round =>
        clear HH7
        obtain ⟨k, x, xs, hk, hx, rfl, hxl, hH⟩ := hrel
        have HX := Lib.hid hx
        have Hxl := Lib.hid hxl
        have HH8 := Lib.hid hH
        clear hx hxl hH d0
        have d0 := HH8.out.bx.box.c0
        have hxb : 1 ≤ x := by have := HX.out; omega
        by_cases hlt : (x : Int) < 5
        · have hkK : k < 2 := by have := HX.out; omega
          have hkx : k < x := by have := HX.out; omega
          go_wp2_with fail
          refine (spec_pick g a n cap _ _ _ (by omega) (by omega) HH8.out.cq.cur).mono ?_
          rintro e w9 ⟨⟨p, rfl, hp0, hp1⟩, c9, g9⟩
          have HH9 := Lib.hid (HH8.out.step c9 g9 (by omega))
          obtain ⟨d, hd⟩ : ∃ d, IntKind.i64.wrap (p - 3) = d := ⟨_, rfl⟩
          clear c9 g9 HH8 d0 hp0 hp1
          obtain ⟨go, co, hv, hgo, hgl⟩ := HH9.out.o.form (by have := Hxl.out; omega)
          rw [Hxl.out] at hv
          subst hv
          have h9c := HH9.out.o.cell (i := k) (by have := Hxl.out; omega)
          have hxs : xs.length ≤ 24 := by have := Hxl.out; omega
          have hpx : nth [-1, 0, 0, 1, 1] x = (k : Int) := by rw [HX.out]; exact Hpar.out k hkK
          generalize hq : nth xs k = q at *
          clear hq
          obtain ⟨u1, z1⟩ : ∃ u1, IntKind.i64.wrap (q + d) = u1 := ⟨_, rfl⟩
          obtain ⟨u2, z2⟩ : ∃ u2, IntKind.i64.wrap (q - d) = u2 := ⟨_, rfl⟩
          have s1 : (0 : Int) ≤ (x : Int) := by omega
          have s2 : (0 : Int) ≤ (k : Int) := by omega
          have s3 : (k : Int) < (x : Int) := by omega
          have d0 := HH9.out.bx.box.c0
          have e9 := HH9.out.bx.t.p.cell (i := x) (by show x < 5; omega)
          rw [hpx] at e9
          go_wp2_with fail
          refine wp_region_noPanic ?_
          refine wp_region_held_drew (S := (fun W' => W'.cell? ⟨tb, 0, none⟩ = some (.slice (some ⟨bp, 0, none⟩) 5 5) ∧ W'.cell? ⟨bp, x, none⟩ = some (.int .i64 (nth [-1, 0, 0, 1, 1] x)))) (by kernel_rfl) ?_ (fun hHeld0 => ?_)
          · (try dsimp only); first | assumption | exact ⟨HH9.out.bx.box.c0, HH9.out.bx.t.p.cell (i := x) (by show x < 5; omega)⟩ | exact ⟨(HH9.out.lit _).drew.bx.box.c0, (HH9.out.lit _).drew.bx.t.p.cell (i := x) (by show x < 5; omega)⟩
          refine takeH (i := 0) (oi := _) (v := ?_) rfl (by kernel_rfl) (by kernel_rfl) (by kernel_rfl) (fun _ _ _ h => h) (Or.inl ⟨by rfl, ?_⟩) (by assumption) ?_
          rotate_left
          · first | (intro w hSw; (try dsimp only at hSw); go_simp; done) | (intro w hSw; (try dsimp only at hSw); go_simp; with_reducible rfl)
          (try simp only [Act.put, List.setIfInBounds_toArray, List.set_cons_zero, List.set_cons_succ])
          refine takeH (i := 1) (oi := _) (v := ?_) rfl (by kernel_rfl) (by kernel_rfl) (by kernel_rfl) (fun _ _ _ h => h) (Or.inl ⟨by rfl, ?_⟩) (by assumption) ?_
          rotate_left
          · first | (intro w hSw; (try dsimp only at hSw); go_simp; done) | (intro w hSw; (try dsimp only at hSw); go_simp; with_reducible rfl)
          (try simp only [Act.put, List.setIfInBounds_toArray, List.set_cons_zero, List.set_cons_succ])
          refine takeH (i := 2) (oi := _) (v := ?_) rfl (by kernel_rfl) (by kernel_rfl) (by kernel_rfl) (fun _ _ _ h => h) (Or.inl ⟨by rfl, ?_⟩) (by assumption) ?_
          rotate_left
          · first | (intro w hSw; (try dsimp only at hSw); go_simp; done) | (intro w hSw; (try dsimp only at hSw); go_simp; with_reducible rfl)
          (try simp only [Act.put, List.setIfInBounds_toArray, List.set_cons_zero, List.set_cons_succ])
          refine takeH (i := 3) (oi := _) (v := ?_) rfl (by kernel_rfl) (by kernel_rfl) (by kernel_rfl) (fun _ _ _ h => h) (Or.inl ⟨by rfl, ?_⟩) (by assumption) ?_
          rotate_left
          · first | (intro w hSw; (try dsimp only at hSw); go_simp; done) | (intro w hSw; (try dsimp only at hSw); go_simp; with_reducible rfl)
          (try simp only [Act.put, List.setIfInBounds_toArray, List.set_cons_zero, List.set_cons_succ])
          refine takeH (i := 4) (oi := _) (v := ?_) rfl (by kernel_rfl) (by kernel_rfl) (by kernel_rfl) (fun _ _ _ h => h) (Or.inl ⟨by rfl, ?_⟩) (by assumption) ?_
          rotate_left
          · first | (intro w hSw; (try dsimp only at hSw); go_simp; done) | (intro w hSw; (try dsimp only at hSw); go_simp; with_reducible rfl)
          (try simp only [Act.put, List.setIfInBounds_toArray, List.set_cons_zero, List.set_cons_succ])
          refine takeH (i := 5) (oi := _) (v := ?_) rfl (by kernel_rfl) (by kernel_rfl) (by kernel_rfl) (fun _ _ _ h => h) (Or.inl ⟨by rfl, ?_⟩) (by assumption) ?_
          rotate_left
          · first | (intro w hSw; (try dsimp only at hSw); go_simp; done) | (intro w hSw; (try dsimp only at hSw); go_simp; with_reducible rfl)
          (try simp only [Act.put, List.setIfInBounds_toArray, List.set_cons_zero, List.set_cons_succ])
          refine takeH (i := 6) (oi := _) (v := ?_) rfl (by kernel_rfl) (by kernel_rfl) (by kernel_rfl) (fun _ _ _ h => h) (Or.inl ⟨by rfl, ?_⟩) (by assumption) ?_
          rotate_left
          · first | (intro w hSw; (try dsimp only at hSw); go_simp; done) | (intro w hSw; (try dsimp only at hSw); go_simp; with_reducible rfl)
          (try simp only [Act.put, List.setIfInBounds_toArray, List.set_cons_zero, List.set_cons_succ])
          refine takeH (i := 7) (oi := _) (v := ?_) rfl (by kernel_rfl) (by kernel_rfl) (by kernel_rfl) (fun _ _ _ h => h) (Or.inl ⟨by rfl, ?_⟩) (by assumption) ?_
          rotate_left
          · first | (intro w hSw; (try dsimp only at hSw); go_simp; done) | (intro w hSw; (try dsimp only at hSw); go_simp; with_reducible rfl)
          (try simp only [Act.put, List.setIfInBounds_toArray, List.set_cons_zero, List.set_cons_succ])
          refine takeH (i := 9) (oi := _) (v := ?_) rfl (by kernel_rfl) (by kernel_rfl) (by kernel_rfl) (fun _ _ _ h => h) (Or.inl ⟨by rfl, ?_⟩) (by assumption) ?_
          rotate_left
          · first | (intro w hSw; (try dsimp only at hSw); go_simp; done) | (intro w hSw; (try dsimp only at hSw); go_simp; with_reducible rfl)
          (try simp only [Act.put, List.setIfInBounds_toArray, List.set_cons_zero, List.set_cons_succ])
          refine takeH (i := 11) (oi := _) (v := ?_) rfl (by kernel_rfl) (by kernel_rfl) (by kernel_rfl) (fun _ _ _ h => h) (Or.inl ⟨by rfl, ?_⟩) (by assumption) ?_
          rotate_left
          · first | (intro w hSw; (try dsimp only at hSw); go_simp; done) | (intro w hSw; (try dsimp only at hSw); go_simp; with_reducible rfl)
          (try simp only [Act.put, List.setIfInBounds_toArray, List.set_cons_zero, List.set_cons_succ])
          refine takeH (i := 12) (oi := _) (v := ?_) rfl (by kernel_rfl) (by kernel_rfl) (by kernel_rfl) (fun _ _ _ h => h) (Or.inl ⟨by rfl, ?_⟩) (by assumption) ?_
          rotate_left
          · first | (intro w hSw; (try dsimp only at hSw); go_simp; done) | (intro w hSw; (try dsimp only at hSw); go_simp; with_reducible rfl)
          (try simp only [Act.put, List.setIfInBounds_toArray, List.set_cons_zero, List.set_cons_succ])
          refine takeH (i := 13) (oi := _) (v := ?_) rfl (by kernel_rfl) (by kernel_rfl) (by kernel_rfl) (fun _ _ _ h => h) (Or.inl ⟨by rfl, ?_⟩) (by assumption) ?_
          rotate_left
          · first | (intro w hSw; (try dsimp only at hSw); go_simp; done) | (intro w hSw; (try dsimp only at hSw); go_simp; with_reducible rfl)
          (try simp only [Act.put, List.setIfInBounds_toArray, List.set_cons_zero, List.set_cons_succ])
          refine takeH (i := 14) (oi := _) (v := ?_) rfl (by kernel_rfl) (by kernel_rfl) (by kernel_rfl) (fun _ _ _ h => h) (Or.inl ⟨by rfl, ?_⟩) (by assumption) ?_
          rotate_left
          · first | (intro w hSw; (try dsimp only at hSw); go_simp; done) | (intro w hSw; (try dsimp only at hSw); go_simp; with_reducible rfl)
          (try simp only [Act.put, List.setIfInBounds_toArray, List.set_cons_zero, List.set_cons_succ])
          refine takeH (i := 15) (oi := _) (v := ?_) rfl (by kernel_rfl) (by kernel_rfl) (by kernel_rfl) (fun _ _ _ h => h) (Or.inl ⟨by rfl, ?_⟩) (by assumption) ?_
          rotate_left
          · first | (intro w hSw; (try dsimp only at hSw); go_simp; done) | (intro w hSw; (try dsimp only at hSw); go_simp; with_reducible rfl)
          (try simp only [Act.put, List.setIfInBounds_toArray, List.set_cons_zero, List.set_cons_succ])
          refine takeH (i := 16) (oi := _) (v := ?_) rfl (by kernel_rfl) (by kernel_rfl) (by kernel_rfl) (fun _ _ _ h => h) (Or.inl ⟨by rfl, ?_⟩) (by assumption) ?_
          rotate_left
          · first | (intro w hSw; (try dsimp only at hSw); go_simp; done) | (intro w hSw; (try dsimp only at hSw); go_simp; with_reducible rfl)
          (try simp only [Act.put, List.setIfInBounds_toArray, List.set_cons_zero, List.set_cons_succ])
          refine takeH (i := 17) (oi := _) (v := ?_) rfl (by kernel_rfl) (by kernel_rfl) (by kernel_rfl) (fun _ _ _ h => h) (Or.inl ⟨by rfl, ?_⟩) (by assumption) ?_
          rotate_left
          · first | (intro w hSw; (try dsimp only at hSw); go_simp; done) | (intro w hSw; (try dsimp only at hSw); go_simp; with_reducible rfl)
          (try simp only [Act.put, List.setIfInBounds_toArray, List.set_cons_zero, List.set_cons_succ])
          refine takeH (i := 19) (oi := _) (v := ?_) rfl (by kernel_rfl) (by kernel_rfl) (by kernel_rfl) (fun _ _ _ h => h) (Or.inl ⟨by rfl, ?_⟩) (by assumption) ?_
          rotate_left
          · first | (intro w hSw; (try dsimp only at hSw); go_simp; done) | (intro w hSw; (try dsimp only at hSw); go_simp; with_reducible rfl)
          (try simp only [Act.put, List.setIfInBounds_toArray, List.set_cons_zero, List.set_cons_succ])
          refine wpAnyH_ready (rs := [8, 18]) (by kernel_rfl) (by simp) ?_
          refine consM rfl (fun Kq hKq => ?_) (consH rfl (fun Kq hKq => ?_))
          · go_simp
            refine hKq.out _ _ ?_ (fun hHeld1 => ?_)
            · (try dsimp only); first | assumption | exact ⟨HH9.out.bx.box.c0, HH9.out.bx.t.p.cell (i := x) (by show x < 5; omega)⟩ | exact ⟨(HH9.out.lit _).drew.bx.box.c0, (HH9.out.lit _).drew.bx.t.p.cell (i := x) (by show x < 5; omega)⟩
            clear hKq Kq
            (try simp only [Act.put, List.setIfInBounds_toArray, List.set_cons_zero, List.set_cons_succ])
            clear hHeld0
            refine takeH (i := 10) (oi := _) (v := ?_) rfl (by kernel_rfl) (by kernel_rfl) (by kernel_rfl) (fun _ _ _ h => h) (Or.inl ⟨by rfl, ?_⟩) (by assumption) ?_
            rotate_left
            · first | (intro w hSw; (try dsimp only at hSw); go_simp; done) | (intro w hSw; (try dsimp only at hSw); go_simp; with_reducible rfl)
            (try simp only [Act.put, List.setIfInBounds_toArray, List.set_cons_zero, List.set_cons_succ])
            refine wpAnyH_ready (rs := [18]) (by kernel_rfl) (by simp) ?_
            refine consH rfl (fun Kq hKq => ?_)
            go_simp
            refine hKq.out _ _ ?_ (fun hHeld2 => ?_)
            · (try dsimp only); first | assumption | exact ⟨HH9.out.bx.box.c0, HH9.out.bx.t.p.cell (i := x) (by show x < 5; omega)⟩ | exact ⟨(HH9.out.lit _).drew.bx.box.c0, (HH9.out.lit _).drew.bx.t.p.cell (i := x) (by show x < 5; omega)⟩
            clear hKq Kq
            (try simp only [Act.put, List.setIfInBounds_toArray, List.set_cons_zero, List.set_cons_succ])
            clear hHeld1
            refine takeH (i := 20) (oi := _) (v := ?_) rfl (by kernel_rfl) (by kernel_rfl) (by kernel_rfl) (fun _ _ _ h => h) (Or.inl ⟨by rfl, ?_⟩) (by assumption) ?_
            rotate_left
            · first | (intro w hSw; (try dsimp only at hSw); go_simp; done) | (intro w hSw; (try dsimp only at hSw); go_simp; with_reducible rfl)
            (try simp only [Act.put, List.setIfInBounds_toArray, List.set_cons_zero, List.set_cons_succ])
            refine wpAnyH_ready (rs := [21]) (by kernel_rfl) (by simp) ?_
            refine consH rfl (fun Kq hKq => ?_)
            go_simp
            refine hKq.out _ _ ?_ (fun hHeld3 => ?_)
            · (try dsimp only); first | assumption | exact ⟨HH9.out.bx.box.c0, HH9.out.bx.t.p.cell (i := x) (by show x < 5; omega)⟩ | exact ⟨(HH9.out.lit _).drew.bx.box.c0, (HH9.out.lit _).drew.bx.t.p.cell (i := x) (by show x < 5; omega)⟩
            clear hKq Kq
            (try simp only [Act.put, List.setIfInBounds_toArray, List.set_cons_zero, List.set_cons_succ])
            clear hHeld2
            refine wpAnyH_ready (rs := [22]) (by kernel_rfl) (by simp) ?_
            refine consH rfl (fun Kq hKq => ?_)
            refine step_appI rfl _ _ rfl w1.heap.size (.slice (some ⟨go, 0, none⟩) x co) xs (by rfl) (HH9.out.o.lit _).drew _ 2 2 [u1, u2] (by rfl) (fun h => by cases h) (ints_lit _ [_, _] _ 2 rfl rfl).drew (by omega) (by have := HH9.out.bx.box.lt; have := HH9.out.bx.ge; simp; omega) ?_; intro v' w' ho hb hm
            have HH10 := Lib.hid ((HH9.out.lit _).drew.push ho hb hm)
            have hSS := And.intro HH10.out.bx.box.c0 (HH10.out.bx.t.p.cell (i := x) (by show x < 5; omega))
            clear ho hb hm
            refine hKq.out _ _ ?_ (fun hHeld4 => ?_)
            · (try dsimp only); first | assumption | exact ⟨HH9.out.bx.box.c0, HH9.out.bx.t.p.cell (i := x) (by show x < 5; omega)⟩ | exact ⟨(HH9.out.lit _).drew.bx.box.c0, (HH9.out.lit _).drew.bx.t.p.cell (i := x) (by show x < 5; omega)⟩
            clear hKq Kq
            (try simp only [Act.put, List.setIfInBounds_toArray, List.set_cons_zero, List.set_cons_succ])
            clear hHeld3
            refine takeH (i := 23) (oi := _) (v := ?_) rfl (by kernel_rfl) (by kernel_rfl) (by kernel_rfl) (fun _ _ _ h => h) (Or.inl ⟨by rfl, ?_⟩) (by assumption) ?_
            rotate_left
            · first | (intro w hSw; (try dsimp only at hSw); go_simp; done) | (intro w hSw; (try dsimp only at hSw); go_simp; with_reducible rfl)
            (try simp only [Act.put, List.setIfInBounds_toArray, List.set_cons_zero, List.set_cons_succ])
            refine wpAnyH_done (by kernel_rfl) ?_ _
            refine NoPanic.normal ?_
            go_wp2_with fail
            exact ⟨⟨k + 1, x + 2, _, by omega, by have := HX.out; omega, by go_num, by rw [List.length_append, Hxl.out]; rfl, HH10.out.mono (by omega)⟩, by have := HX.out; simp [intOf]; omega⟩
          · go_simp
            refine hKq.out _ _ ?_ (fun hHeld1 => ?_)
            · (try dsimp only); first | assumption | exact ⟨HH9.out.bx.box.c0, HH9.out.bx.t.p.cell (i := x) (by show x < 5; omega)⟩ | exact ⟨(HH9.out.lit _).drew.bx.box.c0, (HH9.out.lit _).drew.bx.t.p.cell (i := x) (by show x < 5; omega)⟩
            clear hKq Kq
            (try simp only [Act.put, List.setIfInBounds_toArray, List.set_cons_zero, List.set_cons_succ])
            clear hHeld0
            refine takeH (i := 20) (oi := _) (v := ?_) rfl (by kernel_rfl) (by kernel_rfl) (by kernel_rfl) (fun _ _ _ h => h) (Or.inl ⟨by rfl, ?_⟩) (by assumption) ?_
            rotate_left
            · first | (intro w hSw; (try dsimp only at hSw); go_simp; done) | (intro w hSw; (try dsimp only at hSw); go_simp; with_reducible rfl)
            (try simp only [Act.put, List.setIfInBounds_toArray, List.set_cons_zero, List.set_cons_succ])
            refine wpAnyH_ready (rs := [8]) (by kernel_rfl) (by simp) ?_
            refine consH rfl (fun Kq hKq => ?_)
            go_simp
            refine hKq.out _ _ ?_ (fun hHeld2 => ?_)
            · (try dsimp only); first | assumption | exact ⟨HH9.out.bx.box.c0, HH9.out.bx.t.p.cell (i := x) (by show x < 5; omega)⟩ | exact ⟨(HH9.out.lit _).drew.bx.box.c0, (HH9.out.lit _).drew.bx.t.p.cell (i := x) (by show x < 5; omega)⟩
            clear hKq Kq
            (try simp only [Act.put, List.setIfInBounds_toArray, List.set_cons_zero, List.set_cons_succ])
            clear hHeld1
            refine takeH (i := 10) (oi := _) (v := ?_) rfl (by kernel_rfl) (by kernel_rfl) (by kernel_rfl) (fun _ _ _ h => h) (Or.inl ⟨by rfl, ?_⟩) (by assumption) ?_
            rotate_left
            · first | (intro w hSw; (try dsimp only at hSw); go_simp; done) | (intro w hSw; (try dsimp only at hSw); go_simp; with_reducible rfl)
            (try simp only [Act.put, List.setIfInBounds_toArray, List.set_cons_zero, List.set_cons_succ])
            refine wpAnyH_ready (rs := [21]) (by kernel_rfl) (by simp) ?_
            refine consH rfl (fun Kq hKq => ?_)
            go_simp
            refine hKq.out _ _ ?_ (fun hHeld3 => ?_)
            · (try dsimp only); first | assumption | exact ⟨HH9.out.bx.box.c0, HH9.out.bx.t.p.cell (i := x) (by show x < 5; omega)⟩ | exact ⟨(HH9.out.lit _).drew.bx.box.c0, (HH9.out.lit _).drew.bx.t.p.cell (i := x) (by show x < 5; omega)⟩
            clear hKq Kq
            (try simp only [Act.put, List.setIfInBounds_toArray, List.set_cons_zero, List.set_cons_succ])
            clear hHeld2
            refine wpAnyH_ready (rs := [22]) (by kernel_rfl) (by simp) ?_
            refine consH rfl (fun Kq hKq => ?_)
            refine step_appI rfl _ _ rfl w1.heap.size (.slice (some ⟨go, 0, none⟩) x co) xs (by rfl) (HH9.out.o.lit _).drew _ 2 2 [u1, u2] (by rfl) (fun h => by cases h) (ints_lit _ [_, _] _ 2 rfl rfl).drew (by omega) (by have := HH9.out.bx.box.lt; have := HH9.out.bx.ge; simp; omega) ?_; intro v' w' ho hb hm
            have HH10 := Lib.hid ((HH9.out.lit _).drew.push ho hb hm)
            have hSS := And.intro HH10.out.bx.box.c0 (HH10.out.bx.t.p.cell (i := x) (by show x < 5; omega))
            clear ho hb hm
            refine hKq.out _ _ ?_ (fun hHeld4 => ?_)
            · (try dsimp only); first | assumption | exact ⟨HH9.out.bx.box.c0, HH9.out.bx.t.p.cell (i := x) (by show x < 5; omega)⟩ | exact ⟨(HH9.out.lit _).drew.bx.box.c0, (HH9.out.lit _).drew.bx.t.p.cell (i := x) (by show x < 5; omega)⟩
            clear hKq Kq
            (try simp only [Act.put, List.setIfInBounds_toArray, List.set_cons_zero, List.set_cons_succ])
            clear hHeld3
            refine takeH (i := 23) (oi := _) (v := ?_) rfl (by kernel_rfl) (by kernel_rfl) (by kernel_rfl) (fun _ _ _ h => h) (Or.inl ⟨by rfl, ?_⟩) (by assumption) ?_
            rotate_left
            · first | (intro w hSw; (try dsimp only at hSw); go_simp; done) | (intro w hSw; (try dsimp only at hSw); go_simp; with_reducible rfl)
            (try simp only [Act.put, List.setIfInBounds_toArray, List.set_cons_zero, List.set_cons_succ])
            refine wpAnyH_done (by kernel_rfl) ?_ _
            refine NoPanic.normal ?_
            go_wp2_with fail
            exact ⟨⟨k + 1, x + 2, _, by omega, by have := HX.out; omega, by go_num, by rw [List.length_append, Hxl.out]; rfl, HH10.out.mono (by omega)⟩, by have := HX.out; simp [intOf]; omega⟩
        · obtain rfl : x = 5 := by have := HX.out; omega
          clear hlt d0
          obtain ⟨go, co, hv, hgo, hgl⟩ := HH8.out.o.form (by have := Hxl.out; omega)
          rw [Hxl.out] at hv
          subst hv
          have d0 := HH8.out.bx.box.c0
          go_wp2_with fail
          refine (spec_one g a n cap _ _ _ (by omega) (by omega) HH8.out.cq.cur).mono ?_
          rintro e w9 ⟨⟨t, rfl⟩, c9, g9⟩
          have HH9 := Lib.hid (HH8.out.step c9 g9 (by omega))
          clear c9 g9 HH8 d0
          cases t
          · have d0 := HH9.out.bx.box.c0
            have d1 := HH9.out.bx.box.c1
            have e0 := HH9.out.bx.res.c0
            have e1 := HH9.out.bx.res.c1
            have f0 := HH9.out.bx.res.f0
            have f1 := HH9.out.bx.res.f1
            have hr := HH9.out.bx.res.set (.slice (some ⟨bp, 0, none⟩) 5 5) (.slice (some ⟨bw, 0, none⟩) 5 5)
            have hTT := (HH9.out.bx.t.res (rb := w.heap.size) (x := .slice (some ⟨bp, 0, none⟩) 5 5) (y := .slice (some ⟨bw, 0, none⟩) 5 5) (by omega)).mono (base' := w.heap.size) (by omega)
            have hOO := (own_res (rb := w.heap.size) (x := .slice (some ⟨bp, 0, none⟩) 5 5) (y := .slice (some ⟨bw, 0, none⟩) 5 5) HH9.out.o (by omega)).mono (base' := w.heap.size) (by omega)
            have hCC := Two.doneC HH9.out.cq (.slice (some ⟨bp, 0, none⟩) 5 5) (.slice (some ⟨bw, 0, none⟩) 5 5)
            have HTT := Lib.hid hTT
            have HOO := Lib.hid hOO
            have HCC := Lib.hid hCC
            clear hTT hOO hCC
            go_wp2_with fail
            exact bodyPost_ret (v := .tuple #[.agg #[.slice (some ⟨bp, 0, none⟩) 5 5, .slice (some ⟨bw, 0, none⟩) 5 5], .slice (some ⟨go, 0, none⟩) 5 co]) (by simp [results, Try.results114, go_sem, hr.1, hr.2]) rfl ⟨⟨_, rfl, _, _, _, _, _, _, _, _, _, rfl, HTT.out, ⟨_, HOO.out, by have := Hxl.out; omega⟩⟩, HCC.out.cur.mono (by omega), HCC.out.grow⟩
          · go_wp2_with fail
            refine (spec_pick g a n cap _ _ _ (by omega) (by omega) HH9.out.cq.cur).mono ?_
            rintro e w10 ⟨⟨x0, rfl, hx0, hx1⟩, c10, g10⟩
            obtain ⟨X, rfl⟩ : ∃ X : Nat, x0 = X := ⟨x0.toNat, by omega⟩
            have hX : X < 5 := by omega
            have HH10 := Lib.hid (HH9.out.step c10 g10 (by omega))
            have hcX := HH10.out.o.cell (i := X) (by have := Hxl.out; omega)
            have hltgo := HH10.out.o.lt.2
            have r1 : (0 : Int) ≤ (X : Int) := by omega
            have r2 : (X : Int) < 5 := by omega
            clear c10 g10 HH9 hx0 hx1
            go_wp2_with fail
            refine wp_region_noPanic ?_
            refine wp_region_held_drew (S := (fun _ => True)) (by kernel_rfl) ?_ (fun hHeld0 => ?_)
            · trivial
            refine takeH (i := 0) (oi := _) (v := ?_) rfl (by kernel_rfl) (by kernel_rfl) (by kernel_rfl) (fun _ _ _ h => h) (Or.inl ⟨by rfl, ?_⟩) (by assumption) ?_
            rotate_left
            · first | (intro w hSw; (try dsimp only at hSw); go_simp; done) | (intro w hSw; (try dsimp only at hSw); go_simp; with_reducible rfl)
            (try simp only [Act.put, List.setIfInBounds_toArray, List.set_cons_zero, List.set_cons_succ])
            refine takeH (i := 1) (oi := _) (v := ?_) rfl (by kernel_rfl) (by kernel_rfl) (by kernel_rfl) (fun _ _ _ h => h) (Or.inl ⟨by rfl, ?_⟩) (by assumption) ?_
            rotate_left
            · first | (intro w hSw; (try dsimp only at hSw); go_simp; done) | (intro w hSw; (try dsimp only at hSw); go_simp; with_reducible rfl)
            (try simp only [Act.put, List.setIfInBounds_toArray, List.set_cons_zero, List.set_cons_succ])
            refine takeH (i := 2) (oi := _) (v := ?_) rfl (by kernel_rfl) (by kernel_rfl) (by kernel_rfl) (fun _ _ _ h => h) (Or.inl ⟨by rfl, ?_⟩) (by assumption) ?_
            rotate_left
            · first | (intro w hSw; (try dsimp only at hSw); go_simp; done) | (intro w hSw; (try dsimp only at hSw); go_simp; with_reducible rfl)
            (try simp only [Act.put, List.setIfInBounds_toArray, List.set_cons_zero, List.set_cons_succ])
            refine takeH (i := 3) (oi := _) (v := ?_) rfl (by kernel_rfl) (by kernel_rfl) (by kernel_rfl) (fun _ _ _ h => h) (Or.inl ⟨by rfl, ?_⟩) (by assumption) ?_
            rotate_left
            · first | (intro w hSw; (try dsimp only at hSw); go_simp; done) | (intro w hSw; (try dsimp only at hSw); go_simp; with_reducible rfl)
            (try simp only [Act.put, List.setIfInBounds_toArray, List.set_cons_zero, List.set_cons_succ])
            refine takeH (i := 4) (oi := _) (v := ?_) rfl (by kernel_rfl) (by kernel_rfl) (by kernel_rfl) (fun _ _ _ h => h) (Or.inl ⟨by rfl, ?_⟩) (by assumption) ?_
            rotate_left
            · first | (intro w hSw; (try dsimp only at hSw); go_simp; done) | (intro w hSw; (try dsimp only at hSw); go_simp; with_reducible rfl)
            (try simp only [Act.put, List.setIfInBounds_toArray, List.set_cons_zero, List.set_cons_succ])
            refine takeH (i := 6) (oi := _) (v := ?_) rfl (by kernel_rfl) (by kernel_rfl) (by kernel_rfl) (fun _ _ _ h => h) (Or.inl ⟨by rfl, ?_⟩) (by assumption) ?_
            rotate_left
            · first | (intro w hSw; (try dsimp only at hSw); go_simp; done) | (intro w hSw; (try dsimp only at hSw); go_simp; with_reducible rfl)
            (try simp only [Act.put, List.setIfInBounds_toArray, List.set_cons_zero, List.set_cons_succ])
            refine wpAnyH_ready (rs := [5, 7]) (by kernel_rfl) (by simp) ?_
            refine consM rfl (fun Kq hKq => ?_) (consH rfl (fun Kq hKq => ?_))
            · go_simp
              refine hKq.out _ _ ?_ (fun hHeld1 => ?_)
              · trivial
              clear hKq Kq
              (try simp only [Act.put, List.setIfInBounds_toArray, List.set_cons_zero, List.set_cons_succ])
              clear hHeld0
              refine wpAnyH_ready (rs := [7]) (by kernel_rfl) (by simp) ?_
              refine consH rfl (fun Kq hKq => ?_)
              go_simp
              refine hKq.out _ _ ?_ (fun hHeld2 => ?_)
              · trivial
              clear hKq Kq
              (try simp only [Act.put, List.setIfInBounds_toArray, List.set_cons_zero, List.set_cons_succ])
              clear hHeld1
              refine wpAnyH_ready (rs := [8]) (by kernel_rfl) (by simp) ?_
              refine consH rfl (fun Kq hKq => ?_)
              go_simp
              refine (spec_among g a n cap _ _ 3 3 [1, -1, 1000] _ (by omega) (by omega) (ints_lit _ [1, -1, 1000] _ 3 rfl rfl).drew HH10.out.cq.cur.ne (HH10.out.lit _).drew.cq.cur).mono ?_
              rintro e w11 ⟨⟨i11, hi11, rfl⟩, c11, g11⟩
              generalize nth _ i11 = dv at *
              have HH11 := Lib.hid ((HH10.out.lit _).drew.step c11 g11 (by omega))
              have h11c := HH11.out.o.cell (i := X) (by have := Hxl.out; omega)
              have h11f := HH11.out.o.free Hxl.out.symm X
              clear c11 g11
              refine hKq.out _ _ ?_ (fun hHeld3 => ?_)
              · trivial
              clear hKq Kq
              (try simp only [Act.put, List.setIfInBounds_toArray, List.set_cons_zero, List.set_cons_succ])
              clear hHeld2
              refine takeH (i := 9) (oi := _) (v := ?_) rfl (by kernel_rfl) (by kernel_rfl) (by kernel_rfl) (fun _ _ _ h => h) (Or.inl ⟨by rfl, ?_⟩) (by assumption) ?_
              rotate_left
              · first | (intro w hSw; (try dsimp only at hSw); go_simp; done) | (intro w hSw; (try dsimp only at hSw); go_simp; with_reducible rfl)
              (try simp only [Act.put, List.setIfInBounds_toArray, List.set_cons_zero, List.set_cons_succ])
              refine takeH (i := 10) (oi := _) (v := ?_) rfl (by kernel_rfl) (by kernel_rfl) (by kernel_rfl) (fun _ _ _ h => h) (Or.inl ⟨by rfl, ?_⟩) (by assumption) ?_
              rotate_left
              · first | (intro w hSw; (try dsimp only at hSw); go_simp; done) | (intro w hSw; (try dsimp only at hSw); go_simp; with_reducible rfl)
              (try simp only [Act.put, List.setIfInBounds_toArray, List.set_cons_zero, List.set_cons_succ])
              refine wpAnyH_ready (rs := [11]) (by kernel_rfl) (by simp) ?_
              refine consH rfl (fun Kq hKq => ?_)
              go_simp
              refine hKq.out _ _ ?_ (fun hHeld4 => ?_)
              · trivial
              clear hKq Kq
              (try simp only [Act.put, List.setIfInBounds_toArray, List.set_cons_zero, List.set_cons_succ])
              clear hHeld3
              refine wpAnyH_done (by kernel_rfl) ?_ _
              refine NoPanic.normal ?_
              obtain ⟨us, hus⟩ : ∃ us, IntKind.i64.wrap (nth xs X + dv) = us := ⟨_, rfl⟩
              have HH12 := Lib.hid (HH11.out.put Hxl.out.symm X us)
              have d0 := HH12.out.bx.box.c0
              have d1 := HH12.out.bx.box.c1
              have e0 := HH12.out.bx.res.c0
              have e1 := HH12.out.bx.res.c1
              have f0 := HH12.out.bx.res.f0
              have f1 := HH12.out.bx.res.f1
              have hr := HH12.out.bx.res.set (.slice (some ⟨bp, 0, none⟩) 5 5) (.slice (some ⟨bw, 0, none⟩) 5 5)
              have hTT := (HH12.out.bx.t.res (rb := w.heap.size) (x := .slice (some ⟨bp, 0, none⟩) 5 5) (y := .slice (some ⟨bw, 0, none⟩) 5 5) (by omega)).mono (base' := w.heap.size) (by omega)
              have hOO := (own_res (rb := w.heap.size) (x := .slice (some ⟨bp, 0, none⟩) 5 5) (y := .slice (some ⟨bw, 0, none⟩) 5 5) HH12.out.o (by omega)).mono (base' := w.heap.size) (by omega)
              have hCC := Two.doneC HH12.out.cq (.slice (some ⟨bp, 0, none⟩) 5 5) (.slice (some ⟨bw, 0, none⟩) 5 5)
              have HTT := Lib.hid hTT
              have HOO := Lib.hid hOO
              have HCC := Lib.hid hCC
              clear hTT hOO hCC
              go_wp2_with fail
              exact bodyPost_ret (v := .tuple #[.agg #[.slice (some ⟨bp, 0, none⟩) 5 5, .slice (some ⟨bw, 0, none⟩) 5 5], .slice (some ⟨go, 0, none⟩) 5 co]) (by simp [results, Try.results114, go_sem, hr.1, hr.2]) rfl ⟨⟨_, rfl, _, _, _, _, _, _, _, _, _, rfl, HTT.out, ⟨_, HOO.out, by rw [List.length_set]; have := Hxl.out; omega⟩⟩, HCC.out.cur.mono (by omega), HCC.out.grow⟩
            · go_simp
              refine hKq.out _ _ ?_ (fun hHeld1 => ?_)
              · trivial
              clear hKq Kq
              (try simp only [Act.put, List.setIfInBounds_toArray, List.set_cons_zero, List.set_cons_succ])
              clear hHeld0
              refine wpAnyH_ready (rs := [5, 8]) (by kernel_rfl) (by simp) ?_
              refine consM rfl (fun Kq hKq => ?_) (consH rfl (fun Kq hKq => ?_))
              · go_simp
                refine hKq.out _ _ ?_ (fun hHeld2 => ?_)
                · trivial
                clear hKq Kq
                (try simp only [Act.put, List.setIfInBounds_toArray, List.set_cons_zero, List.set_cons_succ])
                clear hHeld1
                refine wpAnyH_ready (rs := [8]) (by kernel_rfl) (by simp) ?_
                refine consH rfl (fun Kq hKq => ?_)
                go_simp
                refine (spec_among g a n cap _ _ 3 3 [1, -1, 1000] _ (by omega) (by omega) (ints_lit _ [1, -1, 1000] _ 3 rfl rfl).drew HH10.out.cq.cur.ne (HH10.out.lit _).drew.cq.cur).mono ?_
                rintro e w11 ⟨⟨i11, hi11, rfl⟩, c11, g11⟩
                generalize nth _ i11 = dv at *
                have HH11 := Lib.hid ((HH10.out.lit _).drew.step c11 g11 (by omega))
                have h11c := HH11.out.o.cell (i := X) (by have := Hxl.out; omega)
                have h11f := HH11.out.o.free Hxl.out.symm X
                clear c11 g11
                refine hKq.out _ _ ?_ (fun hHeld3 => ?_)
                · trivial
                clear hKq Kq
                (try simp only [Act.put, List.setIfInBounds_toArray, List.set_cons_zero, List.set_cons_succ])
                clear hHeld2
                refine takeH (i := 9) (oi := _) (v := ?_) rfl (by kernel_rfl) (by kernel_rfl) (by kernel_rfl) (fun _ _ _ h => h) (Or.inl ⟨by rfl, ?_⟩) (by assumption) ?_
                rotate_left
                · first | (intro w hSw; (try dsimp only at hSw); go_simp; done) | (intro w hSw; (try dsimp only at hSw); go_simp; with_reducible rfl)
                (try simp only [Act.put, List.setIfInBounds_toArray, List.set_cons_zero, List.set_cons_succ])
                refine takeH (i := 10) (oi := _) (v := ?_) rfl (by kernel_rfl) (by kernel_rfl) (by kernel_rfl) (fun _ _ _ h => h) (Or.inl ⟨by rfl, ?_⟩) (by assumption) ?_
                rotate_left
                · first | (intro w hSw; (try dsimp only at hSw); go_simp; done) | (intro w hSw; (try dsimp only at hSw); go_simp; with_reducible rfl)
                (try simp only [Act.put, List.setIfInBounds_toArray, List.set_cons_zero, List.set_cons_succ])
                refine wpAnyH_ready (rs := [11]) (by kernel_rfl) (by simp) ?_
                refine consH rfl (fun Kq hKq => ?_)
                go_simp
                refine hKq.out _ _ ?_ (fun hHeld4 => ?_)
                · trivial
                clear hKq Kq
                (try simp only [Act.put, List.setIfInBounds_toArray, List.set_cons_zero, List.set_cons_succ])
                clear hHeld3
                refine wpAnyH_done (by kernel_rfl) ?_ _
                refine NoPanic.normal ?_
                obtain ⟨us, hus⟩ : ∃ us, IntKind.i64.wrap (nth xs X + dv) = us := ⟨_, rfl⟩
                have HH12 := Lib.hid (HH11.out.put Hxl.out.symm X us)
                have d0 := HH12.out.bx.box.c0
                have d1 := HH12.out.bx.box.c1
                have e0 := HH12.out.bx.res.c0
                have e1 := HH12.out.bx.res.c1
                have f0 := HH12.out.bx.res.f0
                have f1 := HH12.out.bx.res.f1
                have hr := HH12.out.bx.res.set (.slice (some ⟨bp, 0, none⟩) 5 5) (.slice (some ⟨bw, 0, none⟩) 5 5)
                have hTT := (HH12.out.bx.t.res (rb := w.heap.size) (x := .slice (some ⟨bp, 0, none⟩) 5 5) (y := .slice (some ⟨bw, 0, none⟩) 5 5) (by omega)).mono (base' := w.heap.size) (by omega)
                have hOO := (own_res (rb := w.heap.size) (x := .slice (some ⟨bp, 0, none⟩) 5 5) (y := .slice (some ⟨bw, 0, none⟩) 5 5) HH12.out.o (by omega)).mono (base' := w.heap.size) (by omega)
                have hCC := Two.doneC HH12.out.cq (.slice (some ⟨bp, 0, none⟩) 5 5) (.slice (some ⟨bw, 0, none⟩) 5 5)
                have HTT := Lib.hid hTT
                have HOO := Lib.hid hOO
                have HCC := Lib.hid hCC
                clear hTT hOO hCC
                go_wp2_with fail
                exact bodyPost_ret (v := .tuple #[.agg #[.slice (some ⟨bp, 0, none⟩) 5 5, .slice (some ⟨bw, 0, none⟩) 5 5], .slice (some ⟨go, 0, none⟩) 5 co]) (by simp [results, Try.results114, go_sem, hr.1, hr.2]) rfl ⟨⟨_, rfl, _, _, _, _, _, _, _, _, _, rfl, HTT.out, ⟨_, HOO.out, by rw [List.length_set]; have := Hxl.out; omega⟩⟩, HCC.out.cur.mono (by omega), HCC.out.grow⟩
              · go_simp
                refine (spec_among g a n cap _ _ 3 3 [1, -1, 1000] _ (by omega) (by omega) (ints_lit _ [1, -1, 1000] _ 3 rfl rfl).drew HH10.out.cq.cur.ne (HH10.out.lit _).drew.cq.cur).mono ?_
                rintro e w11 ⟨⟨i11, hi11, rfl⟩, c11, g11⟩
                generalize nth _ i11 = dv at *
                have HH11 := Lib.hid ((HH10.out.lit _).drew.step c11 g11 (by omega))
                have h11c := HH11.out.o.cell (i := X) (by have := Hxl.out; omega)
                have h11f := HH11.out.o.free Hxl.out.symm X
                clear c11 g11
                refine hKq.out _ _ ?_ (fun hHeld2 => ?_)
                · trivial
                clear hKq Kq
                (try simp only [Act.put, List.setIfInBounds_toArray, List.set_cons_zero, List.set_cons_succ])
                clear hHeld1
                refine wpAnyH_ready (rs := [5]) (by kernel_rfl) (by simp) ?_
                refine consH rfl (fun Kq hKq => ?_)
                go_simp
                refine hKq.out _ _ ?_ (fun hHeld3 => ?_)
                · trivial
                clear hKq Kq
                (try simp only [Act.put, List.setIfInBounds_toArray, List.set_cons_zero, List.set_cons_succ])
                clear hHeld2
                refine takeH (i := 9) (oi := _) (v := ?_) rfl (by kernel_rfl) (by kernel_rfl) (by kernel_rfl) (fun _ _ _ h => h) (Or.inl ⟨by rfl, ?_⟩) (by assumption) ?_
                rotate_left
                · first | (intro w hSw; (try dsimp only at hSw); go_simp; done) | (intro w hSw; (try dsimp only at hSw); go_simp; with_reducible rfl)
                (try simp only [Act.put, List.setIfInBounds_toArray, List.set_cons_zero, List.set_cons_succ])
                refine takeH (i := 10) (oi := _) (v := ?_) rfl (by kernel_rfl) (by kernel_rfl) (by kernel_rfl) (fun _ _ _ h => h) (Or.inl ⟨by rfl, ?_⟩) (by assumption) ?_
                rotate_left
                · first | (intro w hSw; (try dsimp only at hSw); go_simp; done) | (intro w hSw; (try dsimp only at hSw); go_simp; with_reducible rfl)
                (try simp only [Act.put, List.setIfInBounds_toArray, List.set_cons_zero, List.set_cons_succ])
                refine wpAnyH_ready (rs := [11]) (by kernel_rfl) (by simp) ?_
                refine consH rfl (fun Kq hKq => ?_)
                go_simp
                refine hKq.out _ _ ?_ (fun hHeld4 => ?_)
                · trivial
                clear hKq Kq
                (try simp only [Act.put, List.setIfInBounds_toArray, List.set_cons_zero, List.set_cons_succ])
                clear hHeld3
                refine wpAnyH_done (by kernel_rfl) ?_ _
                refine NoPanic.normal ?_
                obtain ⟨us, hus⟩ : ∃ us, IntKind.i64.wrap (nth xs X + dv) = us := ⟨_, rfl⟩
                have HH12 := Lib.hid (HH11.out.put Hxl.out.symm X us)
                have d0 := HH12.out.bx.box.c0
                have d1 := HH12.out.bx.box.c1
                have e0 := HH12.out.bx.res.c0
                have e1 := HH12.out.bx.res.c1
                have f0 := HH12.out.bx.res.f0
                have f1 := HH12.out.bx.res.f1
                have hr := HH12.out.bx.res.set (.slice (some ⟨bp, 0, none⟩) 5 5) (.slice (some ⟨bw, 0, none⟩) 5 5)
                have hTT := (HH12.out.bx.t.res (rb := w.heap.size) (x := .slice (some ⟨bp, 0, none⟩) 5 5) (y := .slice (some ⟨bw, 0, none⟩) 5 5) (by omega)).mono (base' := w.heap.size) (by omega)
                have hOO := (own_res (rb := w.heap.size) (x := .slice (some ⟨bp, 0, none⟩) 5 5) (y := .slice (some ⟨bw, 0, none⟩) 5 5) HH12.out.o (by omega)).mono (base' := w.heap.size) (by omega)
                have hCC := Two.doneC HH12.out.cq (.slice (some ⟨bp, 0, none⟩) 5 5) (.slice (some ⟨bw, 0, none⟩) 5 5)
                have HTT := Lib.hid hTT
                have HOO := Lib.hid hOO
                have HCC := Lib.hid hCC
                clear hTT hOO hCC
                go_wp2_with fail
                exact bodyPost_ret (v := .tuple #[.agg #[.slice (some ⟨bp, 0, none⟩) 5 5, .slice (some ⟨bw, 0, none⟩) 5 5], .slice (some ⟨go, 0, none⟩) 5 co]) (by simp [results, Try.results114, go_sem, hr.1, hr.2]) rfl ⟨⟨_, rfl, _, _, _, _, _, _, _, _, _, rfl, HTT.out, ⟨_, HOO.out, by rw [List.length_set]; have := Hxl.out; omega⟩⟩, HCC.out.cur.mono (by omega), HCC.out.grow⟩
  · go_wp2_with fail
    refine (spec_someTree g a n cap _ 9 _ (by omega) (by omega) C2.out.cur).mono ?_
    rintro e w3 ⟨⟨v, rfl, aP, nP, cP, aW, nW, cW, ps, ws, rfl, hD⟩, c3, g3⟩
    have C3 := Lib.hid (C2.out.step c3 g3)
    have R3 := pair_other R2.out g3 (by omega)
    have hs3 : w1.heap.size ≤ w3.heap.size := by have := g3.size; omega
    have hB := bx_new (w0 := w1) 26 (hD.mono hs2) hs3 R3 hs0
    have B4 := Lib.hid hB
    have C4 := Lib.hid (C3.out.lit (.cells #[.slice aP nP cP, .slice aW nW cW] 26))
    have hnP := hD.pn
    have hP6 := Pair.new w3 (.slice none 0 0) (.slice none 0 0) 26
    have x0 := hP6.c0
    have x1 := hP6.c1
    have y0 := hP6.f0
    have y1 := hP6.f1
    clear c3 g3 hB R3 C3 hD R2 C2 hP6
    go_wp2_with fail
    clear x0 x1 y0 y1
    generalize (w3.alloc (.cells #[.slice aP nP cP, .slice aW nW cW] 26)) = w4 at *
    generalize w3.heap.size = tb at *
    have c0 := B4.out.box.c0
    have c1 := B4.out.box.c1
    refine wp_region_noPanic ?_
    refine wp_region_held_drew (S := (fun W' => W'.cell? ⟨tb, 0, none⟩ = some (.slice aP nP cP) ∧ W'.cell? ⟨tb, 1, none⟩ = some (.slice aW nW cW))) (by kernel_rfl) ?_ (fun hHeld0 => ?_)
    · (try dsimp only); first | assumption | exact ⟨B4.out.drew.box.c0, B4.out.drew.box.c1⟩ | exact ⟨HX.out.c0, HX.out.c1⟩
    refine takeH (i := 0) (oi := _) (v := ?_) rfl (by kernel_rfl) (by kernel_rfl) (by kernel_rfl) (fun _ _ _ h => h) (Or.inl ⟨by rfl, ?_⟩) (by assumption) ?_
    rotate_left
    · first | (intro w hSw; (try dsimp only at hSw); go_simp; done) | (intro w hSw; (try dsimp only at hSw); go_simp; with_reducible rfl)
    (try simp only [Act.put, List.setIfInBounds_toArray, List.set_cons_zero, List.set_cons_succ])
    refine takeH (i := 1) (oi := _) (v := ?_) rfl (by kernel_rfl) (by kernel_rfl) (by kernel_rfl) (fun _ _ _ h => h) (Or.inl ⟨by rfl, ?_⟩) (by assumption) ?_
    rotate_left
    · first | (intro w hSw; (try dsimp only at hSw); go_simp; done) | (intro w hSw; (try dsimp only at hSw); go_simp; with_reducible rfl)
    (try simp only [Act.put, List.setIfInBounds_toArray, List.set_cons_zero, List.set_cons_succ])
    refine takeH (i := 2) (oi := _) (v := ?_) rfl (by kernel_rfl) (by kernel_rfl) (by kernel_rfl) (fun _ _ _ h => h) (Or.inl ⟨by rfl, ?_⟩) (by assumption) ?_
    rotate_left
    · first | (intro w hSw; (try dsimp only at hSw); go_simp; done) | (intro w hSw; (try dsimp only at hSw); go_simp; with_reducible rfl)
    (try simp only [Act.put, List.setIfInBounds_toArray, List.set_cons_zero, List.set_cons_succ])
    refine wpAnyH_ready (rs := [3]) (by kernel_rfl) (by simp) ?_
    refine consH rfl (fun Kq hKq => ?_)
    go_simp
    refine (spec_pays g a n cap _ aP nP cP aW nW cW _ (by omega) hnP C4.out.drew.cur).mono ?_
    rintro e w5 ⟨⟨vL, rfl, oL⟩, c5, g5⟩
    have C5 := Lib.hid (C4.out.drew.step c5 g5)
    have B5 := Lib.hid (B4.out.drew.other g5 (by omega) (by omega))
    have VL := Lib.hid (oL.mono (base' := w.heap.size + 1) (by have := C4.out.size; have := B4.out.lt; simp; have := B4.out.box.lt; have := B4.out.ge; omega))
    have hSS := And.intro B5.out.box.c0 B5.out.box.c1
    have e0 := B5.out.res.c0
    have e1 := B5.out.res.c1
    have f0 := B5.out.res.f0
    have f1 := B5.out.res.f1
    have HX := Lib.hid ((B5.out.box.far (show w.heap.size ≠ tb by have := B5.out.ge; omega) (i := 0) (.slice aP nP cP)).far (show w.heap.size ≠ tb by have := B5.out.ge; omega) (i := 1) (.slice aW nW cW))
    have hr := B5.out.res.set (.slice aP nP cP) (.slice aW nW cW)
    clear c5 g5 oL
    refine hKq.out _ _ ?_ (fun hHeld1 => ?_)
    · (try dsimp only); first | assumption | exact ⟨B4.out.drew.box.c0, B4.out.drew.box.c1⟩ | exact ⟨HX.out.c0, HX.out.c1⟩
    clear hKq Kq
    (try simp only [Act.put, List.setIfInBounds_toArray, List.set_cons_zero, List.set_cons_succ])
    clear hHeld0
    refine wpAnyH_ready (rs := [4]) (by kernel_rfl) (by simp) ?_
    refine consH rfl (fun Kq hKq => ?_)
    go_simp
    refine hKq.out _ _ ?_ (fun hHeld2 => ?_)
    · (try dsimp only); first | assumption | exact ⟨B4.out.drew.box.c0, B4.out.drew.box.c1⟩ | exact ⟨HX.out.c0, HX.out.c1⟩
    clear hKq Kq
    (try simp only [Act.put, List.setIfInBounds_toArray, List.set_cons_zero, List.set_cons_succ])
    clear hHeld1
    refine takeH (i := 5) (oi := _) (v := ?_) rfl (by kernel_rfl) (by kernel_rfl) (by kernel_rfl) (fun _ _ _ h => h) (Or.inl ⟨by rfl, ?_⟩) (by assumption) ?_
    rotate_left
    · first | (intro w hSw; (try dsimp only at hSw); go_simp; done) | (intro w hSw; (try dsimp only at hSw); go_simp; with_reducible rfl)
    (try simp only [Act.put, List.setIfInBounds_toArray, List.set_cons_zero, List.set_cons_succ])
    refine wpAnyH_done (by kernel_rfl) ?_ _
    refine NoPanic.normal ?_
    have hTT := (B5.out.t.res (rb := w.heap.size) (x := .slice aP nP cP) (y := .slice aW nW cW) (by omega)).mono (base' := w.heap.size) (by omega)
    have hOO := ((VL.out.res (rb := w.heap.size) (x := .slice aP nP cP) (y := .slice aW nW cW) (by omega)).mono (base' := w.heap.size) (by omega)).more (show 31 ≤ 40 by omega)
    have hCC := Two.doneC C5.out (.slice aP nP cP) (.slice aW nW cW)
    go_wp2_with fail
    exact bodyPost_ret (v := .tuple #[.agg #[.slice aP nP cP, .slice aW nW cW], vL]) (by simp [results, Try.results114, go_sem, hr.1, hr.2]) rfl ⟨⟨_, rfl, _, _, _, _, _, _, ps, ws, _, rfl, hTT, hOO⟩, hCC.cur.mono (by omega), hCC.grow⟩
set_option maxRecDepth 100000 in
set_option maxHeartbeats 2000000 in
theorem spec_DrawBalanceBound (a : Option Addr) (n cap : Nat) (w : World) (h : Bytes w a n) :
    Calls Try.prog 44 #[.slice a n cap] w fun e w' => (∃ v, e = .returned v ∧ DrTLL w' w.heap.size v) ∧ Below w.heap.size w w' := by
  have hb0 : Below w.heap.size w ((w.alloc (.cells #[.slice none 0 0, .slice none 0 0] 26)).alloc (.cells #[.slice a n cap, .int .i64 0, .int .u64 0] 75)) := (below_new w _).alloc (by simp) _
  have hc := Cur.new (cap := cap) 75 (h.below (below_new w (.cells #[.slice none 0 0, .slice none 0 0] 26)))
  have R0 := Lib.hid ((Pair.new w (.slice none 0 0) (.slice none 0 0) 26).alloc (.cells #[.slice a n cap, .int .i64 0, .int .u64 0] 75))
  have hs0 : ((w.alloc (.cells #[.slice none 0 0, .slice none 0 0] 26)).alloc (.cells #[.slice a n cap, .int .i64 0, .int .u64 0] 75)).heap.size = w.heap.size + 1 + 1 := by simp
  rw [show (w.alloc (.cells #[.slice none 0 0, .slice none 0 0] 26)).heap.size = w.heap.size + 1 by simp] at hc
  have C0 := Lib.hid (Cq.start hc)
  clear hc h
  go_enter Try.func44, Try.ntmps44
  go_wp2_with fail
  generalize ((w.alloc (.cells #[.slice none 0 0, .slice none 0 0] 26)).alloc (.cells #[.slice a n cap, .int .i64 0, .int .u64 0] 75)) = w0 at *
  have hg0 : w.heap.size + 1 < w0.heap.size := by omega
  have HB0 := Lib.hid hb0
  clear hs0 hb0
  refine (spec_halves (w.heap.size + 1) a n cap 0 _ (by omega) C0.out.cur).mono ?_
  rintro e w1 ⟨⟨v, rfl, aP, nP, cP, aW, nW, cW, ps, ws, vM, rfl, hD, oM⟩, c1, g1⟩
  have VM1 := Lib.hid oM
  have C1 := Lib.hid (C0.out.step c1 g1)
  have R1 := Lib.hid (pair_other R0.out g1 (by omega))
  have HD := Lib.hid hD
  have hs1 := C1.out.size
  have hP5 := Pair.new w1 (.slice none 0 0) (.slice none 0 0) 26
  have x0 := hP5.c0
  have x1 := hP5.c1
  have y0 := hP5.f0
  have y1 := hP5.f1
  clear c1 g1 hD hP5 R0 C0 oM
  have B3 := Lib.hid (bx_new 26 HD.out hs1 R1.out (by omega))
  have C3 := Lib.hid (C1.out.lit (.cells #[.slice aP nP cP, .slice aW nW cW] 26))
  have hnP := HD.out.pn
  have VM3 := Lib.hid (VM1.out.below (below_new w1 (.cells #[.slice aP nP cP, .slice aW nW cW] 26)))
  go_wp2_with fail
  clear x0 x1 y0 y1 R1 HD C1
  generalize (w1.alloc (.cells #[.slice aP nP cP, .slice aW nW cW] 26)) = w3 at *
  generalize w1.heap.size = tb at *
  have c0 := B3.out.box.c0
  have c1 := B3.out.box.c1
  refine wp_region_noPanic ?_
  refine wp_region_held_drew (S := (fun W' => W'.cell? ⟨tb, 0, none⟩ = some (.slice aP nP cP) ∧ W'.cell? ⟨tb, 1, none⟩ = some (.slice aW nW cW))) (by kernel_rfl) ?_ (fun hHeld0 => ?_)
  · (try dsimp only); first | assumption | exact ⟨B3.out.drew.box.c0, B3.out.drew.box.c1⟩ | exact ⟨((B3.out.lit _).drew).box.c0, ((B3.out.lit _).drew).box.c1⟩ | exact ⟨HX.out.c0, HX.out.c1⟩
  refine takeH (i := 0) (oi := _) (v := ?_) rfl (by kernel_rfl) (by kernel_rfl) (by kernel_rfl) (fun _ _ _ h => h) (Or.inl ⟨by rfl, ?_⟩) (by assumption) ?_
  rotate_left
  · first | (intro w hSw; (try dsimp only at hSw); go_simp; done) | (intro w hSw; (try dsimp only at hSw); go_simp; with_reducible rfl)
  (try simp only [Act.put, List.setIfInBounds_toArray, List.set_cons_zero, List.set_cons_succ])
  refine takeH (i := 1) (oi := _) (v := ?_) rfl (by kernel_rfl) (by kernel_rfl) (by kernel_rfl) (fun _ _ _ h => h) (Or.inl ⟨by rfl, ?_⟩) (by assumption) ?_
  rotate_left
  · first | (intro w hSw; (try dsimp only at hSw); go_simp; done) | (intro w hSw; (try dsimp only at hSw); go_simp; with_reducible rfl)
  (try simp only [Act.put, List.setIfInBounds_toArray, List.set_cons_zero, List.set_cons_succ])
  refine takeH (i := 2) (oi := _) (v := ?_) rfl (by kernel_rfl) (by kernel_rfl) (by kernel_rfl) (fun _ _ _ h => h) (Or.inl ⟨by rfl, ?_⟩) (by assumption) ?_
  rotate_left
  · first | (intro w hSw; (try dsimp only at hSw); go_simp; done) | (intro w hSw; (try dsimp only at hSw); go_simp; with_reducible rfl)
  (try simp only [Act.put, List.setIfInBounds_toArray, List.set_cons_zero, List.set_cons_succ])
  refine takeH (i := 4) (oi := _) (v := ?_) rfl (by kernel_rfl) (by kernel_rfl) (by kernel_rfl) (fun _ _ _ h => h) (Or.inl ⟨by rfl, ?_⟩) (by assumption) ?_
  rotate_left
  · first | (intro w hSw; (try dsimp only at hSw); go_simp; done) | (intro w hSw; (try dsimp only at hSw); go_simp; with_reducible rfl)
  (try simp only [Act.put, List.setIfInBounds_toArray, List.set_cons_zero, List.set_cons_succ])
  refine wpAnyH_ready (rs := [3]) (by kernel_rfl) (by simp) ?_
  refine consH rfl (fun Kq hKq => ?_)
  go_simp
  refine (spec_pays (w.heap.size + 1) a n cap _ aP nP cP aW nW cW _ (by omega) hnP (C3.out.drew).cur).mono ?_
  rintro e w4a ⟨⟨vL, rfl, o4a⟩, c4a, g4a⟩
  have C4a := Lib.hid ((C3.out.drew).step c4a g4a)
  have B4a := Lib.hid ((B3.out.drew).other g4a (by omega) (by omega))
  have VM4a := Lib.hid (OwnA.other (OwnA.below VM3.out (Below.refl _ _).drew) g4a (by omega))
  have VL4a := Lib.hid ((o4a.mono (C3.out.drew).size).more (show _ ≤ 40 by omega))
  have hSS := And.intro B4a.out.box.c0 B4a.out.box.c1
  clear c4a g4a o4a
  have e0 := B4a.out.res.c0
  have e1 := B4a.out.res.c1
  have f0 := B4a.out.res.f0
  have f1 := B4a.out.res.f1
  have HX := Lib.hid ((B4a.out.box.far (show w.heap.size ≠ tb by have := B4a.out.ge; omega) (i := 0) (.slice aP nP cP)).far (show w.heap.size ≠ tb by have := B4a.out.ge; omega) (i := 1) (.slice aW nW cW))
  have hr := B4a.out.res.set (.slice aP nP cP) (.slice aW nW cW)
  refine hKq.out _ _ ?_ (fun hHeld1 => ?_)
  · (try dsimp only); first | assumption | exact ⟨B3.out.drew.box.c0, B3.out.drew.box.c1⟩ | exact ⟨((B3.out.lit _).drew).box.c0, ((B3.out.lit _).drew).box.c1⟩ | exact ⟨HX.out.c0, HX.out.c1⟩
  clear hKq Kq
  (try simp only [Act.put, List.setIfInBounds_toArray, List.set_cons_zero, List.set_cons_succ])
  clear hHeld0
  refine wpAnyH_ready (rs := [5]) (by kernel_rfl) (by simp) ?_
  refine consH rfl (fun Kq hKq => ?_)
  go_simp
  refine hKq.out _ _ ?_ (fun hHeld2 => ?_)
  · (try dsimp only); first | assumption | exact ⟨B3.out.drew.box.c0, B3.out.drew.box.c1⟩ | exact ⟨((B3.out.lit _).drew).box.c0, ((B3.out.lit _).drew).box.c1⟩ | exact ⟨HX.out.c0, HX.out.c1⟩
  clear hKq Kq
  (try simp only [Act.put, List.setIfInBounds_toArray, List.set_cons_zero, List.set_cons_succ])
  clear hHeld1
  refine takeH (i := 6) (oi := _) (v := ?_) rfl (by kernel_rfl) (by kernel_rfl) (by kernel_rfl) (fun _ _ _ h => h) (Or.inl ⟨by rfl, ?_⟩) (by assumption) ?_
  rotate_left
  · first | (intro w hSw; (try dsimp only at hSw); go_simp; done) | (intro w hSw; (try dsimp only at hSw); go_simp; with_reducible rfl)
  (try simp only [Act.put, List.setIfInBounds_toArray, List.set_cons_zero, List.set_cons_succ])
  refine takeH (i := 7) (oi := _) (v := ?_) rfl (by kernel_rfl) (by kernel_rfl) (by kernel_rfl) (fun _ _ _ h => h) (Or.inl ⟨by rfl, ?_⟩) (by assumption) ?_
  rotate_left
  · first | (intro w hSw; (try dsimp only at hSw); go_simp; done) | (intro w hSw; (try dsimp only at hSw); go_simp; with_reducible rfl)
  (try simp only [Act.put, List.setIfInBounds_toArray, List.set_cons_zero, List.set_cons_succ])
  refine wpAnyH_done (by kernel_rfl) ?_ _
  refine NoPanic.normal ?_
  have hbb := draw_below HB0.out C4a.out.grow (show w.heap.size ≤ w.heap.size + 1 by omega) (Nat.le_refl w.heap.size) (x := .slice aP nP cP) (y := .slice aW nW cW)
  have hTT := (B4a.out.t.res (rb := w.heap.size) (x := .slice aP nP cP) (y := .slice aW nW cW) (by omega)).mono (base' := w.heap.size) (by omega)
  have ZM := (((VM4a.out.res (rb := w.heap.size) (x := .slice aP nP cP) (y := .slice aW nW cW) (by omega)).mono (base' := w.heap.size) (by omega)))
  have ZL := (((VL4a.out.res (rb := w.heap.size) (x := .slice aP nP cP) (y := .slice aW nW cW) (by omega)).mono (base' := w.heap.size) (by omega)))
  go_wp2_with fail
  exact bodyPost_ret (v := .tuple #[.agg #[.slice aP nP cP, .slice aW nW cW], vL, vM]) (by simp [results, Try.results44, go_sem, hr.1, hr.2]) rfl ⟨⟨_, rfl, _, _, _, _, _, _, ps, ws, _, _, rfl, hTT, ZL, ZM⟩, hbb⟩
end Go.Proofs.Ytnbomleieianoaa

/- Contracts of the reference: the rule of a level. -/
namespace Go.Proofs.Ytnbomleieianoaa
open Go.RowKit

theorem firB_congr {ps : List Int} (h : Pa ps) {S S' : Int → Bool} (hS : ∀ y : Nat, y < ps.length → S y = S' y) : firsts ps S = firsts ps S' := filt_congr fun y hy => by
  unfold firB; rw [stop_congr h hS hy]
/-- What a property of nodes says of a number. -/
def fS (f : Nat → Bool) (y : Int) : Bool := f y.toNat
theorem bS_map {n : Nat} {f : Nat → Bool} {y : Nat} (h : y < n) : bS ((List.range n).map f) (y : Int) = fS f y := by
  unfold bS fS
  rw [Int.toNat_natCast, Bo.nth_map_range h]; simp
theorem map_succ (f : Nat → Bool) (k : Nat) : (List.range (k + 1)).map f = (List.range k).map f ++ [f k] := by rw [List.range_succ, List.map_append]; rfl
/-- Does the rule of a level stop at x? -/
def levB (ps l : List Int) (lev : Int) (x : Nat) : Bool := endB ps x || decide (nth l x ≥ lev)
end Go.Proofs.Ytnbomleieianoaa
