/- Contracts and plain laws for the statement FnRules, part 7. No conditions but those stated in each. -/
import Derived.Test.YtnbomleieianoaaGreatBnFnRules6
import Derived.Test.YtnbomleieianoaaGreatBnFnRules5
/- Contract: a list that is mostly a rule, drawn by the cursor. No conditions but those stated. -/
namespace Go.Proofs.YtnbomleieianoaaGreat
open Go.RowKit

/-- Some list of a few numbers, in memory from base on. -/
def LisA (w : World) (base : Nat) (v : Value) (m : Nat) : Prop := ∃ (a : Option Addr) (k c : Nat) (xs : List Int), v = .slice a k c ∧ Ints w a k xs ∧ k ≤ m ∧ (a = none → c = 0) ∧ ∀ p, a = some p → base ≤ p.block
theorem own_ge {w : World} {base : Nat} {a : Option Addr} {k c : Nat} {xs : List Int} (h : Own w base (.slice a k c) xs) : ∀ p, a = some p → base ≤ p.block := fun p hp => by
  subst hp
  have hb : (Value.slice (some p) k c).ownBlock = some p.block := by obtain ⟨b, off, i⟩ := p; rfl
  exact (World.ownsRow.lt h p.block hb).1
theorem OwnA.lis {w : World} {base m : Nat} {v : Value} (h : OwnA w base v m) : LisA w base v m := by
  obtain ⟨xs, h1, h2⟩ := h
  obtain ⟨a, c, rfl⟩ := h1.shape
  exact ⟨a, xs.length, c, xs, rfl, h1.ints, h2, h1.cap.2.1, own_ge h1⟩
theorem LisA.below {w w' : World} {base m : Nat} {v : Value} (h : LisA w base v m) (hb : Below w.heap.size w w') : LisA w' base v m := by
  obtain ⟨a, k, c, xs, rfl, h1, h2, h3, h4⟩ := h
  exact ⟨a, k, c, xs, rfl, h1.below hb, h2, h3, h4⟩
theorem LisA.other {w w' : World} {base g m : Nat} {v : Value} (h : LisA w base v m) (hg : w.grownBy w' (some g)) (hlt : g < base) : LisA w' base v m := by
  obtain ⟨a, k, c, xs, rfl, h1, h2, h3, h4⟩ := h
  exact ⟨a, k, c, xs, rfl, h1.other hg (fun p hp => by have := h4 p hp; omega), h2, h3, h4⟩
theorem LisA.mono {w : World} {base base' m : Nat} {v : Value} (h : LisA w base v m) (hb : base' ≤ base) : LisA w base' v m := by
  obtain ⟨a, k, c, xs, rfl, h1, h2, h3, h4⟩ := h
  exact ⟨a, k, c, xs, rfl, h1, h2, h3, fun p hp => by have := h4 p hp; omega⟩
theorem LisA.more {w : World} {base m m' : Nat} {v : Value} (h : LisA w base v m) (hb : m ≤ m') : LisA w base v m' := by
  obtain ⟨a, k, c, xs, rfl, h1, h2, h3, h4⟩ := h
  exact ⟨a, k, c, xs, rfl, h1, by omega, h3, h4⟩
theorem LisA.res {w : World} {base rb m : Nat} {v x y : Value} (h : LisA w base v m) (hlt : rb < base) : LisA ((w.setCell ⟨rb, 0, none⟩ x).setCell ⟨rb, 1, none⟩ y) base v m := by
  obtain ⟨a, k, c, xs, rfl, h1, h2, h3, h4⟩ := h
  exact ⟨a, k, c, xs, rfl, ints_far (ints_far h1 (fun p hp => by have := h4 p hp; omega) x) (fun p hp => by have := h4 p hp; omega) y, h2, h3, h4⟩
theorem Bo.own_other2 {w w' : World} {base g : Nat} {v : Value} {xs : List Bool} (h : Bo.Own w base v xs) (hg : w.grownBy w' (some g)) (hlt : g < base) : Bo.Own w' base v xs :=
  h.grown hg (by
    cases hb : v.ownBlock with
    | none => exact .inl rfl
    | some k => refine .inr fun e => ?_; cases e; have := (World.ownsRow.lt h g hb).1; omega)
set_option maxRecDepth 100000 in
set_option maxHeartbeats 4000000 in
theorem spec_stops (g : Nat) (a : Option Addr) (n cap : Nat) (lim : Int) (base : Nat) (aP : Option Addr) (nP cP : Nat) (aW : Option Addr) (nW cW : Nat) (ps ws : List Int) (w : World) (hl : lim ≤ 20000) (hD : DTre w base aP nP cP aW nW cW ps ws) (hgb : g < base) (h : Cur w g a n cap lim) :
    Calls Tryz.prog 95 #[.pointer (some ⟨g, 0, none⟩), .agg #[.slice aP nP cP, .slice aW nW cW]] w fun e w' => (∃ v, e = .returned v ∧ LisA w' w.heap.size v 31) ∧ Cur w' g a n cap (lim + 1000) ∧ w.grownBy w' (some g) := by
  have C0 := Lib.hid ((Cq.start h).lit (.cells #[.slice aP nP cP, .slice aW nW cW] 26))
  have P0 := Lib.hid (Pair.new w (.slice aP nP cP) (.slice aW nW cW) 26)
  have hs0 : w.heap.size < (w.alloc (.cells #[.slice aP nP cP, .slice aW nW cW] 26)).heap.size := by simp
  have hgw := h.lt
  have hnP := hD.pn
  have HD := Lib.hid (fun w' (hg : w.grownBy w' (some g)) => (hD.other hg hgb).tre)
  have Hl := Lib.hid hD.p.ints.1
  have Hlw := Lib.hid hD.w.ints.1
  clear h hD
  go_enter Tryz.func95, Tryz.ntmps95
  have c0 := P0.out.c0
  have c1 := P0.out.c1
  go_wp2_with fail
  generalize (w.alloc (.cells #[.slice aP nP cP, .slice aW nW cW] 26)) = w1 at *
  refine (spec_l2Good _ _ _ _ _ _ ps ws _ (HD.out _ C0.out.grow)).mono ?_
  rintro e w2 ⟨rfl, b2⟩
  have C2 := Lib.hid (C0.out.below b2)
  have P2 := Lib.hid (P0.out.below b2)
  have d0 := P2.out.c0
  have d1 := P2.out.c1
  have hs2 : w.heap.size < w2.heap.size := P2.out.lt
  clear b2 c0 c1 C0 P0
  cases ht : treeB ps ws
  · clear ht
    have ho := World.ownsRow_lit (size := 1) (e := 3) (base := w.heap.size) w2 #[.int .i64 0] 1 (by omega) (by simp [maxLen]) (by simp)
    have ho2 : Own (w2.alloc (.cells #[.int .i64 0] 3)) w.heap.size (.slice (some ⟨w2.heap.size, 0, none⟩) 1 1) [0] := ho
    have HO := Lib.hid ho2
    clear ho ho2
    go_wp2_with fail
    go_ret
    exact ⟨⟨_, rfl, OwnA.lis ⟨[0], HO.out, by simp⟩⟩, (C2.out.lit _).cur.mono (by omega), (C2.out.lit _).grow⟩
  · have hTr := Lib.hid (treeB_t ht)
    clear ht
    have hn1 : 1 ≤ nP ∧ nP ≤ 24 := by have := hTr.out.n1; have := hTr.out.n24; have := Hl.out; omega
    have C3 := Lib.hid (C2.out.lit (.cells #[] 4))
    have P3 := Lib.hid (P2.out.alloc (.cells #[] 4))
    have O3 := Lib.hid ((Bo.own_nil0 w2).mono (base' := w.heap.size + 1) (by omega))
    go_wp2_with fail
    clear d0 d1 C2 P2
    generalize (w2.alloc (.cells #[] 4)) = w3 at *
    generalize (Value.slice (some ⟨w2.heap.size, 0, none⟩) 0 0) = v0 at *
    go_loopw [5, 6] (fun v5 v6 wr => ∃ (k : Nat) (bs : List Bool), k ≤ nP ∧ v6 = .int .i64 (k : Int) ∧ bs.length = k ∧ (∀ z, z < k → endB ps z = true → Bo.nth bs z = true) ∧ Bo.Own wr (w.heap.size + 1) v5 bs ∧ Pair wr w.heap.size (.slice aP nP cP) (.slice aW nW cW) ∧ Cq w wr g a n cap (lim + 2 * (k : Int))) (fun _ v6 _ => nP - (intOf v6).toNat)
    case atStart => exact ⟨0, [], Nat.zero_le _, rfl, rfl, fun z hz => by omega, O3.out, P3.out, C3.out.mono (by omega)⟩
    case round =>
      clear C3 P3 O3
      obtain ⟨k, bs, hk, rfl, hbl, hbe, ho, hP, hC⟩ := hrel
      have Hbl := Lib.hid hbl
      have Hbe := Lib.hid hbe
      have O := Lib.hid ho
      have P := Lib.hid hP
      have C := Lib.hid hC
      have d0 := hP.c0
      have d1 := hP.c1
      have hbs : bs.length ≤ 24 := by omega
      clear hbl hbe ho hP hC
      by_cases hlt : (k : Int) < nP
      · have hwl : nW = nP := by have := hTr.out.wl; have := Hl.out; have := Hlw.out; omega
        obtain ⟨bW, oW, rfl, hcW⟩ := (HD.out _ C.out.grow).w.at (i := k) (Below.refl _ _) (by omega)
        have hkW : k < nW := by omega
        have hsr : w.heap.size + 1 ≤ wr.heap.size := P.out.lt
        have hleaf : endB ps k = true → nth ws k > 0 := fun he => by have := hTr.out.leaf k (by have := Hl.out; omega) he; omega
        have Hleaf := Lib.hid hleaf
        clear hwl hleaf
        by_cases hq : nth ws k > 0
        · go_wp2_with (at_builtin; refine Bo.wp_push2 (u := true) (.tmp 20) (.tmp 31) rfl rfl (w.heap.size + 1) _ bs rfl O.out rfl (by omega) hsr ?_; intro v' w' ho hb hm; have O2 := Lib.hid ho; have P2 := Lib.hid (P.out.up hb (by omega)); have C2 := Lib.hid (C.out.up (hb.mono (by omega))); clear ho hb hm)
          go_roundw
          case rel => exact ⟨k + 1, _, by omega, by go_num, by simp [Hbl.out], fun z hz he => by
            by_cases e : z = k
            · subst e; rw [← Hbl.out]; simp [Bo.nth, List.getD]
            · have := Hbe.out z (by omega) he
              rw [← this]; have := Hbl.out; simp [Bo.nth, List.getD, List.getElem?_append, show z < bs.length by omega], O2.out, P2.out, C2.out.mono (by omega)⟩
          case measure => simp [intOf]; omega
        · have hne : ¬ endB ps k = true := fun he => hq (Hleaf.out he)
          have Hne := Lib.hid hne
          clear hne
          generalize nth ws k = wq at *
          go_wp2_with fail
          refine (spec_one g a n cap _ _ _ (by omega) (by omega) C.out.cur).mono ?_
          rintro e w7 ⟨⟨t, rfl⟩, c7, g7⟩
          have C7 := Lib.hid (C.out.step c7 g7)
          have P7 := Lib.hid (pair_other P.out g7 (by omega))
          have O7 := Lib.hid (Bo.own_other2 O.out g7 (by omega))
          have hsr7 : w.heap.size + 1 ≤ w7.heap.size := P7.out.lt
          clear c7 g7 C P O d0 d1 hcW
          go_wp2_with (at_builtin; refine Bo.wp_push2 (u := t) (.tmp 20) (.tmp 31) rfl rfl (w.heap.size + 1) _ bs rfl O7.out rfl (by omega) hsr7 ?_; intro v' w' ho hb hm; have O2 := Lib.hid ho; have P2 := Lib.hid (P7.out.up hb (by omega)); have C2 := Lib.hid (C7.out.up (hb.mono (by omega))); clear ho hb hm)
          go_roundw
          case rel => exact ⟨k + 1, _, by omega, by go_num, by simp [Hbl.out], fun z hz he => by
            by_cases e : z = k
            · subst e; exact absurd he Hne.out
            · have := Hbe.out z (by omega) he
              rw [← this]; have := Hbl.out; simp [Bo.nth, List.getD, List.getElem?_append, show z < bs.length by omega], O2.out, P2.out, C2.out.mono (by omega)⟩
          case measure => simp [intOf]; omega
      · obtain rfl : k = nP := by omega
        clear hlt
        obtain ⟨a5, c5, hv⟩ := O.out.shape
        rw [Hbl.out] at hv
        subst hv
        have HBo := Lib.hid O.out.bools
        go_wp2_with fail
        refine (spec_l4First _ _ _ _ _ _ ps ws _ _ _ bs _ (HD.out _ C.out.grow) hTr.out.toPa HBo.out rfl (fun z hz he => Hbe.out z (by have := Hl.out; omega) he)).mono ?_
        rintro e w7 ⟨v7, rfl, o7, b7⟩
        have C7 := Lib.hid (C.out.below b7)
        have P7 := Lib.hid (P.out.below b7)
        have O7 := Lib.hid (o7.mono (base' := w.heap.size + 1) (by have := P.out.lt; omega))
        have hfl := firsts_length ps (bS bs)
        generalize firsts ps (bS bs) = fl at *
        have hfl2 : fl.length ≤ 24 := by have := Hl.out; omega
        clear o7 b7 C P O HBo hfl d0 d1
        go_wp2_with fail
        refine (spec_one g a n cap _ _ _ (by omega) (by omega) C7.out.cur).mono ?_
        rintro e w8 ⟨⟨t, rfl⟩, c8, g8⟩
        have C8 := Lib.hid (C7.out.step c8 g8)
        have P8 := Lib.hid (pair_other P7.out g8 (by omega))
        have O8 := Lib.hid (own_other O7.out g8 (by omega))
        have d0 := P8.out.c0
        have d1 := P8.out.c1
        clear c8 g8 C7 P7 O7
        cases t
        · obtain ⟨m, hm⟩ : ∃ m, m = fl.length := ⟨_, rfl⟩
          obtain ⟨a7, c7, hv⟩ := O8.out.shape
          rw [← hm] at hv
          subst hv
          have Hm := Lib.hid hm
          have hm31 : m ≤ 31 := by omega
          clear hm
          by_cases hm0 : (m : Int) > 0
          · go_wp2_with fail
            refine (spec_one g a n cap _ _ _ (by omega) (by omega) C8.out.cur).mono ?_
            rintro e wA ⟨⟨t, rfl⟩, cA, gA⟩
            have CA := Lib.hid (C8.out.step cA gA)
            have OA := Lib.hid (own_other O8.out gA (by omega))
            clear cA gA
            cases t
            · go_wp2_with fail
              go_ret
              exact ⟨⟨_, rfl, OwnA.lis ⟨_, OA.out.mono (by omega), by have := Hm.out; omega⟩⟩, CA.out.cur.mono (by omega), CA.out.grow⟩
            · obtain ⟨go, co, hv, hgo, hgl⟩ := OA.out.form (by have := Hm.out; omega)
              rw [← Hm.out] at hv
              obtain ⟨rfl, -, rfl⟩ := Value.slice.inj hv
              have hcap := OA.out.cap.1
              have hcap2 := OA.out.cap.2.2.2
              have r1 : (1 : Int) ≤ (m : Int) := by omega
              have r2 : (m : Int) ≤ (c7 : Int) := by omega
              clear hv
              by_cases hc1 : c7 = 1
              · have hm1 : m = 1 := by omega
                subst hc1
                subst hm1
                go_wp2_with fail
                go_ret
                exact ⟨⟨_, rfl, _, _, _, [], rfl, ints_nil _ _, by omega, (fun h => by cases h), fun p hp => by cases hp; show w.heap.size ≤ go; omega⟩, CA.out.cur.mono (by omega), CA.out.grow⟩
              · go_wp2_with fail
                go_ret
                exact ⟨⟨_, rfl, _, _, _, _, rfl, OA.out.ints.rest (by omega), by omega, (fun h => by cases h), fun p hp => by cases hp; show w.heap.size ≤ go; omega⟩, CA.out.cur.mono (by omega), CA.out.grow⟩
          · go_wp2_with fail
            go_ret
            exact ⟨⟨_, rfl, OwnA.lis ⟨_, O8.out.mono (by omega), by have := Hm.out; omega⟩⟩, C8.out.cur.mono (by omega), C8.out.grow⟩
        · go_wp2_with fail
          refine (spec_nodeOf g a n cap _ aP k cP aW nW cW _ (by omega) hnP C8.out.cur).mono ?_
          rintro e w9 ⟨⟨z, rfl⟩, c9, g9⟩
          have C9 := Lib.hid (C8.out.step c9 g9)
          have O9 := Lib.hid (own_other O8.out g9 (by omega))
          have hsr9 : w.heap.size + 1 ≤ w9.heap.size := by have := (pair_other P8.out g9 (by omega)).lt; omega
          clear c9 g9 C8 O8 P8 d0 d1
          go_upto_region 11 with (at_builtin; refine wp_push2 (.tmp 38) (.tmp 42) rfl rfl (w.heap.size + 1) _ fl rfl O9.out rfl (by omega) hsr9 ?_; intro v' w' ho hb hm; have OB := Lib.hid ho; have CB := Lib.hid (C9.out.up (hb.mono (by omega))); obtain ⟨gl, hgl⟩ : ∃ gl, gl = fl ++ [z] := ⟨_, rfl⟩; have hgl2 : gl.length ≤ 25 := by { rw [hgl]; simp; omega }; rw [← hgl] at OB; have HgL := Lib.hid hgl; clear ho hb hm hgl)
          obtain ⟨m, hm⟩ : ∃ m, m = gl.length := ⟨_, rfl⟩
          obtain ⟨a7, c7, hv⟩ := OB.out.shape
          rw [← hm] at hv
          subst hv
          have Hm := Lib.hid hm
          have hm31 : m ≤ 31 := by omega
          clear hm
          by_cases hm0 : (m : Int) > 0
          · go_wp2_with fail
            refine (spec_one g a n cap _ _ _ (by omega) (by omega) CB.out.cur).mono ?_
            rintro e wA ⟨⟨t, rfl⟩, cA, gA⟩
            have CA := Lib.hid (CB.out.step cA gA)
            have OA := Lib.hid (own_other OB.out gA (by omega))
            clear cA gA
            cases t
            · go_wp2_with fail
              go_ret
              exact ⟨⟨_, rfl, OwnA.lis ⟨_, OA.out.mono (by omega), by have := Hm.out; omega⟩⟩, CA.out.cur.mono (by omega), CA.out.grow⟩
            · obtain ⟨go, co, hv, hgo, hgl⟩ := OA.out.form (by have := Hm.out; omega)
              rw [← Hm.out] at hv
              obtain ⟨rfl, -, rfl⟩ := Value.slice.inj hv
              have hcap := OA.out.cap.1
              have hcap2 := OA.out.cap.2.2.2
              have r1 : (1 : Int) ≤ (m : Int) := by omega
              have r2 : (m : Int) ≤ (c7 : Int) := by omega
              clear hv
              by_cases hc1 : c7 = 1
              · have hm1 : m = 1 := by omega
                subst hc1
                subst hm1
                go_wp2_with fail
                go_ret
                exact ⟨⟨_, rfl, _, _, _, [], rfl, ints_nil _ _, by omega, (fun h => by cases h), fun p hp => by cases hp; show w.heap.size ≤ go; omega⟩, CA.out.cur.mono (by omega), CA.out.grow⟩
              · go_wp2_with fail
                go_ret
                exact ⟨⟨_, rfl, _, _, _, _, rfl, OA.out.ints.rest (by omega), by omega, (fun h => by cases h), fun p hp => by cases hp; show w.heap.size ≤ go; omega⟩, CA.out.cur.mono (by omega), CA.out.grow⟩
          · go_wp2_with fail
            go_ret
            exact ⟨⟨_, rfl, OwnA.lis ⟨_, OB.out.mono (by omega), by have := Hm.out; omega⟩⟩, CB.out.cur.mono (by omega), CB.out.grow⟩
end Go.Proofs.YtnbomleieianoaaGreat
