/- Contracts and plain laws for the statement FnDoob, part 17. No conditions but those stated in each. -/
import Derived.Test.YtnbomleieianoaaBnFnDoob15
import Derived.Test.YtnbomleieianoaaBnFnDoob16
import Derived.Test.YtnbomleieianoaaBnFnDoob6
import Derived.Test.YtnbomleieianoaaBnFnDoob8
import Derived.Deep.DeepCutAuto
import Derived.Deep.CutRange
/- Contract: the fair part of a process and what is known, by the program. -/
namespace Go.Proofs.Ytnbomleieianoaa
open Go.RowKit

namespace Fr
/-- 'append(xs, p)', p in some block, as a step of a region that draws its order. -/
theorem step_pushP {ops : Array Oper} {o : Oper} {a : Act} {K : Act → World → Prop} {Q : Exit → Act → World → Prop} {E : Prop} {W : World} {x1 x2 : Int} {g0 : Nat} (hgd : o.guard = none) (s x : Operand)
    (ho : o.op = .call { callee := .builtin .append, args := #[s, x], argTypes := #[42, 42] })
    (base : Nat) (v : Value) (xs : List (Int × Int)) (hs : a.eval s = v) (hown : Own W base v xs) (hx : a.eval x = .slice (some ⟨g0, 0, none⟩) 1 1)
    (hp : Pair W g0 (.int .i64 x1) (.int .i64 x2)) (hl : xs.length ≤ 1048576) (hb : base ≤ W.heap.size)
    (h : ∀ v' w', Own w' base v' (xs ++ [(x1, x2)]) → Below base W w' → Moved W v w' v' → K (a.put o.dst v') w') :
    if Region.wanted o (yielded ops a.tmps) = true then Oper.wp Try.prog o a W K Q else E := by
  obtain ⟨i0, hi0, hz0, hz1, hz2⟩ := info_parts
  refine step_append_lies _ hgd s x 42 ho base 48 i0 (.agg #[.int .i64 0, .int .i64 0]) 2 16 Try.underlying42 hi0 hz0 hz1 hz2 rfl (by decide) v xs.length (fs xs) hs
    hown ⟨g0, 0, none⟩ 1 1 [.int .i64 x1, .int .i64 x2] hx rfl
    (fun j u hu => ?_) (by simp [Value.oneCell']) (by decide) (by simp only [maxLen]; omega) (by omega) hb W.heap.size rfl ?_
  · have hadd : (⟨g0, 0, none⟩ : Addr).add j = ⟨g0, j, none⟩ := by unfold Addr.add; split <;> simp_all
    rw [hadd]
    match j, hu with
    | 0, hu => cases hu; exact hp.c0
    | 1, hu => cases hu; exact hp.c1
  · intro g cap w' h1 h2 h3 _
    refine h _ w' ?_ ?_ ⟨h2.size, fun b hb' hne => ⟨fun e => ?_, ?_⟩⟩
    · unfold Own
      rw [← fs_append, List.length_append]; exact h1
    · exact (Below.refl base W).grown h2 hb fun k hk => (World.ownsRow.lt hown k hk).1
    · simp [Value.ownBlock] at e
      rcases h3 with h3 | h3
      · rw [h3, e] at hne; exact hne rfl
      · omega
    · exact h2.block b hb' (fun e => hne e.symm)
end Fr
theorem step_growF {ops : Array Oper} {o : Oper} {a : Act} {K : Act → World → Prop} {Q : Exit → Act → World → Prop} {E : Prop} {w0 W : World} {x1 x2 : Int} {B g0 n : Nat} {v7 v8 : Value} {fs ks ds : List (Int × Int)} {a9 : Option Addr} (hgd : o.guard = none) (s x : Operand)
    (ho : o.op = .call { callee := .builtin .append, args := #[s, x], argTypes := #[42, 42] })
    (hs : a.eval s = v7) (hx : a.eval x = .slice (some ⟨g0, 0, none⟩) 1 1) (HG : Grow w0 B v7 v8 fs ks a9 n ds) (hn : 0 < n) (hW : Below w0.heap.size w0 W)
    (hp : Pair W g0 (.int .i64 x1) (.int .i64 x2)) (hl : fs.length ≤ 1048576) (hB : B ≤ w0.heap.size)
    (h : ∀ v' w', Grow w' B v' v8 (fs ++ [(x1, x2)]) ks a9 n ds → Below B w0 w' → (∀ g y z, Pair W g y z → v7.ownBlock ≠ some g → Pair w' g y z) → K (a.put o.dst v') w') :
    if Region.wanted o (yielded ops a.tmps) = true then Oper.wp Try.prog o a W K Q else E :=
  Fr.step_pushP hgd s x ho B v7 fs hs (HG.f.below hW) hx hp hl (Nat.le_trans hB hW.size) fun v' w' h1 h2 h3 =>
    h v' w' ((HG.below hW).pushF hn h1 h3) ((hW.mono hB).trans h2) fun g y z hq he => pair_moved hq h3 he
theorem step_growK {ops : Array Oper} {o : Oper} {a : Act} {K : Act → World → Prop} {Q : Exit → Act → World → Prop} {E : Prop} {w0 W : World} {x1 x2 : Int} {B g0 n : Nat} {v7 v8 : Value} {fs ks ds : List (Int × Int)} {a9 : Option Addr} (hgd : o.guard = none) (s x : Operand)
    (ho : o.op = .call { callee := .builtin .append, args := #[s, x], argTypes := #[42, 42] })
    (hs : a.eval s = v8) (hx : a.eval x = .slice (some ⟨g0, 0, none⟩) 1 1) (HG : Grow w0 B v7 v8 fs ks a9 n ds) (hn : 0 < n) (hW : Below w0.heap.size w0 W)
    (hp : Pair W g0 (.int .i64 x1) (.int .i64 x2)) (hl : ks.length ≤ 1048576) (hB : B ≤ w0.heap.size)
    (h : ∀ v' w', Grow w' B v7 v' fs (ks ++ [(x1, x2)]) a9 n ds → Below B w0 w' → (∀ g y z, Pair W g y z → v8.ownBlock ≠ some g → Pair w' g y z) → K (a.put o.dst v') w') :
    if Region.wanted o (yielded ops a.tmps) = true then Oper.wp Try.prog o a W K Q else E :=
  Fr.step_pushP hgd s x ho B v8 ks hs (HG.k.below hW) hx hp hl (Nat.le_trans hB hW.size) fun v' w' h1 h2 h3 =>
    h v' w' ((HG.below hW).pushK hn h1 h3) ((hW.mono hB).trans h2) fun g y z hq he => pair_moved hq h3 he
theorem low_if {a b : Int} (h : okF (nm a b) (dn a b) = true) : lowN a b = nm a b ∧ lowD a b = dn a b := by
  unfold lowN lowD; rw [if_pos h, if_pos h]; exact ⟨rfl, rfl⟩
theorem frOk_of {x y : Int} (h : FrG x y) : FrOk (x, y) := ⟨inB_mk h.1.1 h.1.2, inB_mk h.2.1.1 h.2.1.2, h.1, h.2.1, h.2.2⟩
theorem two_cells2 {W : World} {G g : Nat} {x y u v : Value} (h1 : Pair W G x y) (h2 : Pair W g u v) : (Pair W G x y ∧ Pair W g u v) ∧ (W.cell? ⟨G, 0, none⟩ = some x ∧ W.cell? ⟨G, 1, none⟩ = some y) ∧ W.cell? ⟨g, 0, none⟩ = some u ∧ W.cell? ⟨g, 1, none⟩ = some v := ⟨⟨h1, h2⟩, ⟨h1.c0, h1.c1⟩, h2.c0, h2.c1⟩
set_option maxRecDepth 100000 in
set_option maxHeartbeats 4000000 in
theorem impl_DoobParts (aP : Option Addr) (nP cP : Nat) (aW : Option Addr) (nW cW : Nat) (ps ws : List Int) (aL : Option Addr) (nL cL : Nat) (l : List Int) (w : World) (h : Tre w aP nP cP aW nW cW ps ws) (hL : Ints w aL nL l) (_hLc : aL = none → cL = 0) (hn : nL ≤ 1048576) :
    Calls Try.prog 25 #[.agg #[.slice aP nP cP, .slice aW nW cW], .slice aL nL cL] w fun e w' => ∃ v u, e = .returned (.tuple #[v, u, .bool (dbB ps ws l)]) ∧ Fr.Own w' w.heap.size v (dbF ps ws l) ∧ Fr.Own w' w.heap.size u (dbK ps ws l) ∧ Below w.heap.size w w' := by
  have hl := h.p.1
  have hlw := h.w.1
  have hpn := h.pn
  have hwn := h.wn
  have hb1 := below_new w (.cells #[.slice aP nP cP, .slice aW nW cW] 26)
  have hP1 := Lib.hid (Pair.new w (.slice aP nP cP) (.slice aW nW cW) 26)
  have H := Lib.hid h
  have Hl := Lib.hid hl
  have Hlw := Lib.hid hlw
  clear h hl hlw
  have HL := Lib.hid hL
  have hll := Lib.hid hL.1
  clear hL
  have hlt2 := hP1.out.lt
  go_enter Try.func25, Try.ntmps25
  have c0 := hP1.out.c0
  have c1 := hP1.out.c1
  go_wp2_with fail
  generalize (w.alloc (.cells #[.slice aP nP cP, .slice aW nW cW] 26)) = w2 at *
  refine (impl_IsTree _ _ _ _ _ _ ps ws _ (H.out.below hb1)).mono ?_
  rintro e w3 ⟨rfl, hb3⟩
  have hP3 := hP1.out.below hb3
  have d0 := hP3.c0
  have d1 := hP3.c1
  have HP3 := Lib.hid hP3
  have hb13 := hb1.trans (hb3.mono hb1.size)
  clear hP3 c0 c1 hb3
  cases hT : treeB ps ws
  · have Hv := Lib.hid (pays_no1 (l := l) hT)
    clear hT
    go_wp2_with fail
    go_ret3
    exact ⟨_, _, by rw [db_no1 Hv.out]; rfl, by rw [(db_no (db_no1 Hv.out)).1]; exact Fr.Own.nil _ _, by rw [(db_no (db_no1 Hv.out)).2]; exact Fr.Own.nil _ _, hb13⟩
  have HT := Lib.hid hT
  clear hT
  go_wp2_with fail
  refine (impl_isProcess _ _ _ _ _ _ ps ws _ _ _ l _ (H.out.below hb13) (HL.out.below hb13) hn).mono ?_
  rintro e w4 ⟨rfl, hb4⟩
  have hb14 := hb13.trans (hb4.mono hb13.size)
  have hP4 := HP3.out.below hb4
  have e0 := hP4.c0
  have e1 := hP4.c1
  have HP4 := Lib.hid hP4
  clear d0 d1 hP4 hb4
  cases hp : procB ps.length l
  · have Hv := Lib.hid (pays_no2 (ws := ws) hp)
    clear hp
    go_wp2_with fail
    go_ret3
    exact ⟨_, _, by rw [db_no1 Hv.out]; rfl, by rw [(db_no (db_no1 Hv.out)).1]; exact Fr.Own.nil _ _, by rw [(db_no (db_no1 Hv.out)).2]; exact Fr.Own.nil _ _, hb14⟩
  have Hpays := Lib.hid (pays_both HT.out hp)
  have hpp := procB_t hp
  have hTr := treeB_t HT.out
  have hn24 := hTr.n24
  have hn1 := hTr.n1
  have hnL : nP = nL := by have := hll.out; have := hpp.1; have := Hl.out; omega
  have hnW : nP = nW := by have := Hlw.out; have := hTr.wl; have := Hl.out; omega
  have hnP : 1 ≤ nP ∧ nP ≤ 24 := by have := Hl.out; omega
  have Hpp := Lib.hid hpp
  have HTr := Lib.hid hTr
  have HnW := Lib.hid hnW
  have hnW2 : nP ≤ nW := by omega
  clear hp hpp hn24 hn1 hTr hpn hwn hnW
  subst hnL
  go_wp2_with fail
  refine (impl_drifts _ _ _ _ _ _ ps ws _ _ _ l _ (H.out.below hb14) HTr.out (HL.out.below hb14) rfl Hpp.out.2).mono ?_
  rintro e w5 ⟨v5, rfl, ho5, hb5⟩
  obtain ⟨a9, c9, rfl⟩ := ho5.shape
  have hdl : (driftL ps ws l).length = nP := by rw [driftL_length]; exact Hl.out
  rw [hdl] at ho5 ⊢
  have o1 := (Fr.own_nil0 w5).below (below_new (w5.alloc (.cells #[] 48)) (.cells #[] 48))
  have o2 := Fr.own_nil0 (w5.alloc (.cells #[] 48))
  rw [show (w5.alloc (.cells #[] 48)).heap.size = w5.heap.size + 1 by simp] at o2
  have nb : Below w5.heap.size w5 ((w5.alloc (.cells #[] 48)).alloc (.cells #[] 48)) := (below_new w5 (.cells #[] 48)).alloc (by simp) _
  have hB5 : w.heap.size + 1 ≤ w5.heap.size := (HP4.out.below hb5).lt
  have hG : Grow ((w5.alloc (.cells #[] 48)).alloc (.cells #[] 48)) (w.heap.size + 1) (.slice (some ⟨w5.heap.size, 0, none⟩) 0 0) (.slice (some ⟨w5.heap.size + 1, 0, none⟩) 0 0) [] [] a9 nP (driftL ps ws l) :=
    ⟨o1.mono hB5, o2.mono (by omega), ho5.ints.below nb, fun g hg e => by simp [Value.ownBlock] at hg e; omega, fun p hp e => by subst hp; have := (ho5.lt _ rfl).2; simp [Value.ownBlock] at e; omega, fun p hp e => by subst hp; have := (ho5.lt _ rfl).2; simp [Value.ownBlock] at e; omega⟩
  have HG := Lib.hid hG
  have HP5 := Lib.hid ((HP4.out.below hb5).below nb)
  have hb15 := Lib.hid ((hb14.trans (hb5.mono hb14.size)).trans (nb.mono (hb14.trans (hb5.mono hb14.size)).size))
  clear ho5 hG hdl e0 e1 hb5 hb14 HP4 o1 o2 nb hB5
  have Hkz := Lib.hid (kn_zero ps ws l)
  have Hnil : Hid (faL ps ws l 0 = [] ∧ knL ps ws l 0 = []) := Lib.hid ⟨rfl, rfl⟩
  go_wp2_with fail
  obtain ⟨w6, hw6⟩ : ∃ z, z = ((w5.alloc (.cells #[] 48)).alloc (.cells #[] 48)) := ⟨_, rfl⟩
  rw [← hw6] at HG HP5 hb15 ⊢
  clear hw6
  go_loopw [8, 9, 33] (fun v8 v9 v33 wr => ∃ x : Nat, x ≤ nP ∧ v33 = .int .i64 (x : Int) ∧ (∀ y, y < x → FrG (kn1 ps ws l y) (kn2 ps ws l y)) ∧ (∀ y, y < x → okA ps ws l y = true ∧ okB ps ws l y = true) ∧ Grow wr (w.heap.size + 1) v8 v9 (faL ps ws l x) (knL ps ws l x) a9 nP (driftL ps ws l) ∧ Pair wr w.heap.size (.slice aP nP cP) (.slice aW nW cW) ∧ Below w.heap.size w wr) (fun _ _ v33 _ => nP - (intOf v33).toNat)
  case atStart => exact ⟨0, Nat.zero_le _, rfl, fun y hy => by omega, fun y hy => by omega, by rw [Hnil.out.1, Hnil.out.2]; exact HG.out, HP5.out, hb15.out⟩
  case round =>
    clear HG HP5 hb15
    obtain ⟨x, hx, rfl, hfr, hok, hG, hP, hbel⟩ := hrel
    have HFr := Lib.hid hfr
    have HOk := Lib.hid hok
    have HG := Lib.hid hG
    have HP := Lib.hid hP
    have HB := Lib.hid hbel
    obtain ⟨wq, rfl⟩ : ∃ z, z = wr := ⟨_, rfl⟩
    clear hfr hok hG hP hbel
    by_cases hlt : (x : Int) < nP
    · have hxp : x < ps.length := by have := Hl.out; omega
      obtain ⟨bl, ol, rfl, hbl, hcl⟩ := HL.out.at2 (i := x) HB.out (by omega)
      have hz := Pair.new wq (.int .i64 0) (.int .i64 1) 48
      have z0 := (Pair.new wq (.int .i64 0) (.int .i64 0) 48).c0
      have z1 := (Pair.new wq (.int .i64 0) (.int .i64 0) 48).c1
      have z2 := (Pair.new wq (.int .i64 0) (.int .i64 0) 48).f0
      have z3 := (Pair.new wq (.int .i64 0) (.int .i64 0) 48).f1
      have HZ := Lib.hid hz
      have hnew := below_new wq (.cells #[.int .i64 0, .int .i64 1] 48)
      have HG1 := Lib.hid (HG.out.below hnew)
      have HP1 := Lib.hid (HP.out.below hnew)
      have HB1 := Lib.hid (HB.out.trans (hnew.mono HB.out.size))
      have hwq : w.heap.size ≤ wq.heap.size := HB.out.size
      have hwl : w.heap.size < wq.heap.size := HP.out.lt
      have HW := Lib.hid hnew
      have HPq := Lib.hid HP.out
      have HBq := Lib.hid HB.out
      clear hz hnew HP HB
      go_upto_if 40 with fail
      clear z0 z1 z2 z3 hcl
      generalize hG0 : wq.heap.size = G at *
      generalize (wq.alloc (.cells #[.int .i64 0, .int .i64 1] 48)) = wa at *
      go_cut [13] from 39 to 40 (fun v13 wc => v13 = .bool (okA ps ws l x) ∧ (okA ps ws l x = true → Pair wc G (.int .i64 (kn1 ps ws l x)) (.int .i64 (kn2 ps ws l x))) ∧ Below G wq wc)
      case first => as_aux_lemma =>
        by_cases hx0 : x = 0
        · have hx0' : ¬ (x : Int) > 0 := by omega
          have hkz := Hkz.out
          have HX := Lib.hid hx0
          clear hx0
          go_wp2_with fail
          go_meet
          case rel => exact ⟨by rw [HX.out, okA, hkz.1, hkz.2, frg_ok frg_01], fun _ => by rw [HX.out, hkz.1, hkz.2]; exact HZ.out, HW.out⟩
        · have hx0' : (x : Int) > 0 := by omega
          have hup := HTr.out.toPa.upN (x := x) (by omega) hxp
          have hpl := hup.2
          obtain ⟨bp, op, hpe, hbp, hcp⟩ := H.out.p.at2 (i := x) HB1.out (by omega)
          rw [hup.1] at hcp
          subst hpe
          have hpn : par ps x < nP := by omega
          have hku := kn_up (ps := ps) ws l (x := x) (by omega) hup.2
          have hkp := HFr.out (par ps x) hpl
          have hdp := drf_frg Hpays.out (x := par ps x) (by have := Hl.out; omega)
          have hka := knL_at ps ws l x (par ps x) hpl
          have hkl := knL_length ps ws l x
          obtain ⟨a8', c8', rfl⟩ := HG1.out.k.shape
          obtain ⟨bk, ok8, hke, hbk, hck⟩ := HG1.out.k.ints.2 (by omega)
          subst hke
          have hbk2 := (HG.out.k.lt bk rfl).2
          obtain ⟨bd, od, hde, hbd2, -⟩ := HG.out.d.2 (by omega)
          subst hde
          obtain ⟨bd', od', hde', -, hcd⟩ := HG1.out.d.2 (by omega)
          obtain ⟨rfl, rfl⟩ : bd = bd' ∧ od = od' := by cases hde'; exact ⟨rfl, rfl⟩
          obtain ⟨g1, g2⟩ := hck (par ps x) (by omega)
          obtain ⟨g3, g4⟩ := hcd (par ps x) hpn
          rw [hka.1] at g1
          rw [hka.2] at g2
          have g5 := HP1.out.c0
          have HA0 := fun W : World => impl_AddFractions_t (kn1 ps ws l (par ps x)) (kn2 ps ws l (par ps x)) (Fr.at1 (driftL ps ws l) (par ps x)) (Fr.at2 (driftL ps ws l) (par ps x)) W (frOk_of hkp) (frOk_of hdp)
          have Hb0 : lowB (kn1 ps ws l (par ps x) * Fr.at2 (driftL ps ws l) (par ps x) + Fr.at1 (driftL ps ws l) (par ps x) * kn2 ps ws l (par ps x)) (kn2 ps ws l (par ps x) * Fr.at2 (driftL ps ws l) (par ps x)) = okA ps ws l x := by rw [okA, hku.1, hku.2]; rfl
          have Hr0 : okA ps ws l x = true → lowN (kn1 ps ws l (par ps x) * Fr.at2 (driftL ps ws l) (par ps x) + Fr.at1 (driftL ps ws l) (par ps x) * kn2 ps ws l (par ps x)) (kn2 ps ws l (par ps x) * Fr.at2 (driftL ps ws l) (par ps x)) = kn1 ps ws l x ∧ lowD (kn1 ps ws l (par ps x) * Fr.at2 (driftL ps ws l) (par ps x) + Fr.at1 (driftL ps ws l) (par ps x) * kn2 ps ws l (par ps x)) (kn2 ps ws l (par ps x) * Fr.at2 (driftL ps ws l) (par ps x)) = kn2 ps ws l x := fun h => by rw [hku.1, hku.2]; exact ad_low (Hb0.trans h)
          rw [Hb0] at HA0
          have HRR := Lib.hid Hr0
          have HA := Lib.hid HA0
          have n1 : w.heap.size ≠ G := by omega
          have n2 : bp ≠ G := by omega
          have n3 : bk ≠ G := by omega
          have n4 : bd ≠ G := by omega
          have N1 := Lib.hid (And.intro (And.intro n1 n2) (And.intro n3 n4))
          have HKL := Lib.hid hkl
          clear hck hcd hka hkl hku hkp hdp hup hbk hbk2 hbd2 hbp hde' n1 n2 n3 n4 Hb0 Hr0 HA0
          generalize lowN (kn1 ps ws l (par ps x) * Fr.at2 (driftL ps ws l) (par ps x) + Fr.at1 (driftL ps ws l) (par ps x) * kn2 ps ws l (par ps x)) (kn2 ps ws l (par ps x) * Fr.at2 (driftL ps ws l) (par ps x)) = r1 at *
          generalize lowD (kn1 ps ws l (par ps x) * Fr.at2 (driftL ps ws l) (par ps x) + Fr.at1 (driftL ps ws l) (par ps x) * kn2 ps ws l (par ps x)) (kn2 ps ws l (par ps x) * Fr.at2 (driftL ps ws l) (par ps x)) = r2 at *
          generalize kn1 ps ws l (par ps x) = k1 at *
          generalize kn2 ps ws l (par ps x) = k2 at *
          generalize Fr.at1 (driftL ps ws l) (par ps x) = d1 at *
          generalize Fr.at2 (driftL ps ws l) (par ps x) = d2 at *
          generalize kn1 ps ws l x = s1 at *
          generalize kn2 ps ws l x = s2 at *
          generalize okA ps ws l x = ok at *
          generalize hq : par ps x = q at *
          have j1 : (0 : Int) ≤ (x : Int) := by omega
          have j2 : (0 : Int) ≤ (q : Int) := by omega
          have j3 : (q : Int) < (x : Int) := by omega
          have j4 : (q : Int) < (nP : Int) := by omega
          have j5 : q < (knL ps ws l x).length := by rw [HKL.out]; omega
          have j6 : (q : Int) < ((knL ps ws l x).length : Int) := by omega
          clear hq
          go_wp2_with fail
          refine wp_region_noPanic ?_
          refine wp_region_held_drew (S := (fun W' => ((W'.cell? ⟨w.heap.size, 0, none⟩ = some (.slice (some ⟨bp, op, none⟩) nP cP) ∧ W'.cell? ⟨bp, op + x, none⟩ = some (.int .i64 (q : Int))) ∧ W'.cell? ⟨bk, ok8 + q * 2, none⟩ = some (.int .i64 k1) ∧ W'.cell? ⟨bk, ok8 + q * 2 + 1, none⟩ = some (.int .i64 k2)) ∧ W'.cell? ⟨bd, od + q * 2, none⟩ = some (.int .i64 d1) ∧ W'.cell? ⟨bd, od + q * 2 + 1, none⟩ = some (.int .i64 d2))) (by kernel_rfl) ?_ (fun hHeld0 => ?_)
          · (try dsimp only); first | assumption | exact ⟨⟨⟨g5, hcp⟩, g1, g2⟩, g3, g4⟩ | exact ⟨⟨⟨cell_far (cell_far hSS.1.1.1 N1.out.1.1) N1.out.1.1, cell_far (cell_far hSS.1.1.2 N1.out.1.2) N1.out.1.2⟩, cell_far (cell_far hSS.1.2.1 N1.out.2.1) N1.out.2.1, cell_far (cell_far hSS.1.2.2 N1.out.2.1) N1.out.2.1⟩, cell_far (cell_far hSS.2.1 N1.out.2.2) N1.out.2.2, cell_far (cell_far hSS.2.2 N1.out.2.2) N1.out.2.2⟩
          refine takeH (i := 0) (oi := _) (v := ?_) rfl (by kernel_rfl) (by kernel_rfl) (by kernel_rfl) (fun _ _ _ h => h) (Or.inl ⟨by rfl, ?_⟩) (by assumption) ?_
          rotate_left
          · first | (intro w hSw; (try dsimp only at hSw); go_simp; done) | (intro w hSw; (try dsimp only at hSw); go_simp; with_reducible rfl)
          (try simp only [Act.put, List.setIfInBounds_toArray, List.set_cons_zero, List.set_cons_succ])
          refine takeH (i := 1) (oi := _) (v := ?_) rfl (by kernel_rfl) (by kernel_rfl) (by kernel_rfl) (fun _ _ _ h => h) (Or.inl ⟨by rfl, ?_⟩) (by assumption) ?_
          rotate_left
          · first | (intro w hSw; (try dsimp only at hSw); go_simp; done) | (intro w hSw; (try dsimp only at hSw); go_simp; with_reducible rfl)
          (try simp only [Act.put, List.setIfInBounds_toArray, List.set_cons_zero, List.set_cons_succ])
          refine takeH (i := 2) (oi := _) (v := ?_) rfl (by kernel_rfl) (by kernel_rfl) (by kernel_rfl) (fun _ _ _ h => h) (Or.inl ⟨by rfl, ?_⟩) (by assumption) ?_
          rotate_left
          · first | (intro w hSw; (try dsimp only at hSw); go_simp; done) | (intro w hSw; (try dsimp only at hSw); go_simp; with_reducible rfl)
          (try simp only [Act.put, List.setIfInBounds_toArray, List.set_cons_zero, List.set_cons_succ])
          refine takeH (i := 3) (oi := _) (v := ?_) rfl (by kernel_rfl) (by kernel_rfl) (by kernel_rfl) (fun _ _ _ h => h) (Or.inl ⟨by rfl, ?_⟩) (by assumption) ?_
          rotate_left
          · first | (intro w hSw; (try dsimp only at hSw); go_simp; done) | (intro w hSw; (try dsimp only at hSw); go_simp; with_reducible rfl)
          (try simp only [Act.put, List.setIfInBounds_toArray, List.set_cons_zero, List.set_cons_succ])
          refine takeH (i := 4) (oi := _) (v := ?_) rfl (by kernel_rfl) (by kernel_rfl) (by kernel_rfl) (fun _ _ _ h => h) (Or.inl ⟨by rfl, ?_⟩) (by assumption) ?_
          rotate_left
          · first | (intro w hSw; (try dsimp only at hSw); go_simp; done) | (intro w hSw; (try dsimp only at hSw); go_simp; with_reducible rfl)
          (try simp only [Act.put, List.setIfInBounds_toArray, List.set_cons_zero, List.set_cons_succ])
          refine takeH (i := 5) (oi := _) (v := ?_) rfl (by kernel_rfl) (by kernel_rfl) (by kernel_rfl) (fun _ _ _ h => h) (Or.inl ⟨by rfl, ?_⟩) (by assumption) ?_
          rotate_left
          · first | (intro w hSw; (try dsimp only at hSw); go_simp; done) | (intro w hSw; (try dsimp only at hSw); go_simp; with_reducible rfl)
          (try simp only [Act.put, List.setIfInBounds_toArray, List.set_cons_zero, List.set_cons_succ])
          refine takeH (i := 6) (oi := _) (v := ?_) rfl (by kernel_rfl) (by kernel_rfl) (by kernel_rfl) (fun _ _ _ h => h) (Or.inl ⟨by rfl, ?_⟩) (by assumption) ?_
          rotate_left
          · first | (intro w hSw; (try dsimp only at hSw); go_simp; done) | (intro w hSw; (try dsimp only at hSw); go_simp; with_reducible rfl)
          (try simp only [Act.put, List.setIfInBounds_toArray, List.set_cons_zero, List.set_cons_succ])
          refine takeH (i := 7) (oi := _) (v := ?_) rfl (by kernel_rfl) (by kernel_rfl) (by kernel_rfl) (fun _ _ _ h => h) (Or.inl ⟨by rfl, ?_⟩) (by assumption) ?_
          rotate_left
          · first | (intro w hSw; (try dsimp only at hSw); go_simp; done) | (intro w hSw; (try dsimp only at hSw); go_simp; with_reducible rfl)
          (try simp only [Act.put, List.setIfInBounds_toArray, List.set_cons_zero, List.set_cons_succ])
          refine wpAnyH_ready (rs := [8]) (by kernel_rfl) (by simp) ?_
          refine consH rfl (fun Kq hKq => ?_)
          go_simp
          (go_at_call 29; refine (HA.out _).mono ?_; rintro e w9 ⟨rfl, b9⟩
           have b92 := (Below.refl wa.heap.size wa).drew.trans b9
           have hR9 := HZ.out.below b92
           have q3 := hR9.c0
           have q4 := hR9.c1
           have q5 := hR9.f0
           have q6 := hR9.f1
           have HR : Hid (Pair ((w9.setCell ⟨G, 0, none⟩ (.int .i64 r1)).setCell ⟨G, 1, none⟩ (.int .i64 r2)) G (.int .i64 r1) (.int .i64 r2) ∧ Below G wq ((w9.setCell ⟨G, 0, none⟩ (.int .i64 r1)).setCell ⟨G, 1, none⟩ (.int .i64 r2))) := Lib.hid ⟨(hR9.sto0 _).sto1 _, (((HW.out.trans (b92.mono (by rw [← hG0]; exact HW.out.size)))).setCell (Nat.le_refl _) _).setCell (Nat.le_refl _) _⟩
           have hSS := And.intro (And.intro (And.intro (cell_up b92 g5) (cell_up b92 hcp)) (And.intro (cell_up b92 g1) (cell_up b92 g2))) (And.intro (cell_up b92 g3) (cell_up b92 g4)))
          refine hKq.out _ _ ?_ (fun hHeld1 => ?_)
          · (try dsimp only); first | assumption | exact ⟨⟨⟨g5, hcp⟩, g1, g2⟩, g3, g4⟩ | exact ⟨⟨⟨cell_far (cell_far hSS.1.1.1 N1.out.1.1) N1.out.1.1, cell_far (cell_far hSS.1.1.2 N1.out.1.2) N1.out.1.2⟩, cell_far (cell_far hSS.1.2.1 N1.out.2.1) N1.out.2.1, cell_far (cell_far hSS.1.2.2 N1.out.2.1) N1.out.2.1⟩, cell_far (cell_far hSS.2.1 N1.out.2.2) N1.out.2.2, cell_far (cell_far hSS.2.2 N1.out.2.2) N1.out.2.2⟩
          clear hKq Kq
          (try simp only [Act.put, List.setIfInBounds_toArray, List.set_cons_zero, List.set_cons_succ])
          clear hHeld0
          refine takeH (i := 9) (oi := _) (v := ?_) rfl (by kernel_rfl) (by kernel_rfl) (by kernel_rfl) (fun _ _ _ h => h) (Or.inl ⟨by rfl, ?_⟩) (by assumption) ?_
          rotate_left
          · first | (intro w hSw; (try dsimp only at hSw); go_simp; done) | (intro w hSw; (try dsimp only at hSw); go_simp; with_reducible rfl)
          (try simp only [Act.put, List.setIfInBounds_toArray, List.set_cons_zero, List.set_cons_succ])
          refine takeH (i := 10) (oi := _) (v := ?_) rfl (by kernel_rfl) (by kernel_rfl) (by kernel_rfl) (fun _ _ _ h => h) (Or.inl ⟨by rfl, ?_⟩) (by assumption) ?_
          rotate_left
          · first | (intro w hSw; (try dsimp only at hSw); go_simp; done) | (intro w hSw; (try dsimp only at hSw); go_simp; with_reducible rfl)
          (try simp only [Act.put, List.setIfInBounds_toArray, List.set_cons_zero, List.set_cons_succ])
          refine takeH (i := 11) (oi := _) (v := ?_) rfl (by kernel_rfl) (by kernel_rfl) (by kernel_rfl) (fun _ _ _ h => h) (Or.inl ⟨by rfl, ?_⟩) (by assumption) ?_
          rotate_left
          · first | (intro w hSw; (try dsimp only at hSw); go_simp; done) | (intro w hSw; (try dsimp only at hSw); go_simp; with_reducible rfl)
          (try simp only [Act.put, List.setIfInBounds_toArray, List.set_cons_zero, List.set_cons_succ])
          refine wpAnyH_ready (rs := [12]) (by kernel_rfl) (by simp) ?_
          refine consH rfl (fun Kq hKq => ?_)
          go_simp
          refine hKq.out _ _ ?_ (fun hHeld2 => ?_)
          · (try dsimp only); first | assumption | exact ⟨⟨⟨g5, hcp⟩, g1, g2⟩, g3, g4⟩ | exact ⟨⟨⟨cell_far (cell_far hSS.1.1.1 N1.out.1.1) N1.out.1.1, cell_far (cell_far hSS.1.1.2 N1.out.1.2) N1.out.1.2⟩, cell_far (cell_far hSS.1.2.1 N1.out.2.1) N1.out.2.1, cell_far (cell_far hSS.1.2.2 N1.out.2.1) N1.out.2.1⟩, cell_far (cell_far hSS.2.1 N1.out.2.2) N1.out.2.2, cell_far (cell_far hSS.2.2 N1.out.2.2) N1.out.2.2⟩
          clear hKq Kq
          (try simp only [Act.put, List.setIfInBounds_toArray, List.set_cons_zero, List.set_cons_succ])
          clear hHeld1
          refine takeH (i := 13) (oi := _) (v := ?_) rfl (by kernel_rfl) (by kernel_rfl) (by kernel_rfl) (fun _ _ _ h => h) (Or.inl ⟨by rfl, ?_⟩) (by assumption) ?_
          rotate_left
          · first | (intro w hSw; (try dsimp only at hSw); go_simp; done) | (intro w hSw; (try dsimp only at hSw); go_simp; with_reducible rfl)
          (try simp only [Act.put, List.setIfInBounds_toArray, List.set_cons_zero, List.set_cons_succ])
          refine wpAnyH_done (by kernel_rfl) ?_ _
          refine NoPanic.normal ?_
          go_wp2_with fail
          go_meet
          case rel => exact ⟨rfl, fun h => by rw [← (HRR.out h).1, ← (HRR.out h).2]; exact HR.out.1, HR.out.2⟩
      case rest =>
      obtain ⟨rfl, hPG, hbw⟩ := hcut
      obtain ⟨wd, hwd⟩ : ∃ z, z = wc := ⟨_, rfl⟩
      rw [← hwd] at hPG hbw ⊢
      have hbc : Below wq.heap.size wq wd := by rw [hG0]; exact hbw
      have HGd := Lib.hid (HG.out.below hbc)
      have HPq0 : Pair wq w.heap.size (.slice aP nP cP) (.slice aW nW cW) := HPq.out
      have HPd := Lib.hid (HPq0.below hbc)
      have HBd := Lib.hid (HBq.out.trans (hbc.mono HBq.out.size))
      have HPG0 := Lib.hid hPG
      have hGd : G ≤ wd.heap.size := by have := hbc.size; omega
      have hkU : 1 ≤ x → FrG (kn1 ps ws l (par ps x)) (kn2 ps ws l (par ps x)) := fun h1 => HFr.out _ ((HTr.out.toPa.upN (x := x) h1 hxp).2)
      have Hkk : Hid (okA ps ws l x = true → FrG (kn1 ps ws l x) (kn2 ps ws l x)) := Lib.hid fun h1 => kn_frg Hpays.out hxp h1 hkU
      clear hwd hPG hbw hbc HPq0 hkU HG1 HP1 HB1 HZ HW HPq HBq
      as_aux_lemma =>
      cases hA : okA ps ws l x
      · have Hno := Lib.hid (db_no2 hxp (by rw [hA]; rfl))
        go_wp2_with fail
        go_ret3
        exact ⟨_, _, by rw [Hno.out]; rfl, by rw [(db_no Hno.out).1]; exact Fr.Own.nil _ _, by rw [(db_no Hno.out).2]; exact Fr.Own.nil _ _, HBd.out⟩
      have HA := Lib.hid hA
      have HFx := Lib.hid (Hkk.out hA)
      have HPG := Lib.hid (HPG0.out hA)
      clear hA
      have s0 := HPG.out.c0
      have s1 := HPG.out.c1
      have hpk := pk_bd (Hpp.out.2 x) (show 1 ≤ kn2 ps ws l x ∧ kn2 ps ws l x ≤ 1000000000000 by have := HFx.out.2.1; omega)
      have hfx := HFx.out
      have HLw0 := Lib.hid fun W : World => impl_lowest (nth l x * kn2 ps ws l x - kn1 ps ws l x) (kn2 ps ws l x) W (by have := hfx.2.1; omega) (by have := hfx.1; omega) (by have := hfx.2.1; omega)
      have HRR : Hid (okB ps ws l x = true → lowN (nth l x * kn2 ps ws l x - kn1 ps ws l x) (kn2 ps ws l x) = fa1 ps ws l x ∧ lowD (nth l x * kn2 ps ws l x - kn1 ps ws l x) (kn2 ps ws l x) = fa2 ps ws l x) := Lib.hid fun h => low_if h
      have HLw : Hid (∀ W : World, Calls Try.prog 97 #[.int .i64 (nth l x * kn2 ps ws l x - kn1 ps ws l x), .int .i64 (kn2 ps ws l x)] W fun e w' => e = .returned (.tuple #[.agg #[.int .i64 (lowN (nth l x * kn2 ps ws l x - kn1 ps ws l x) (kn2 ps ws l x)), .int .i64 (lowD (nth l x * kn2 ps ws l x - kn1 ps ws l x) (kn2 ps ws l x))], .bool (okB ps ws l x)]) ∧ Below W.heap.size W w') := HLw0
      clear HLw0
      generalize hr1 : lowN (nth l x * kn2 ps ws l x - kn1 ps ws l x) (kn2 ps ws l x) = r1 at *
      generalize hr2 : lowD (nth l x * kn2 ps ws l x - kn1 ps ws l x) (kn2 ps ws l x) = r2 at *
      obtain ⟨k1, hk1⟩ : ∃ z, z = kn1 ps ws l x := ⟨_, rfl⟩
      obtain ⟨k2, hk2⟩ : ∃ z, z = kn2 ps ws l x := ⟨_, rfl⟩
      obtain ⟨p, hp⟩ : ∃ z, z = nth l x := ⟨_, rfl⟩
      rw [← hk1, ← hk2] at HPG
      rw [← hk1] at s0
      rw [← hk2] at s1
      rw [← hk2, ← hp] at hpk
      rw [← hk1] at hfx
      rw [← hk1, ← hk2, ← hp] at HLw
      rw [← hp]
      obtain ⟨m, hm⟩ : ∃ z, z = p * k2 := ⟨_, rfl⟩
      rw [← hm] at HLw hpk
      have Hm := Lib.hid hm
      obtain ⟨d, hd⟩ : ∃ z, z = m - k1 := ⟨_, rfl⟩
      rw [← hd] at HLw
      have i1 : IntKind.i64.wrap (p * k2) = m := by rw [← hm]; exact IntWalk.i64_in _ (by omega)
      have i2 : IntKind.i64.wrap (m - k1) = d := by rw [← hd]; exact IntWalk.i64_in _ (by have := hfx.1; omega)
      have HK := Lib.hid (And.intro hk1 hk2)
      clear hpk hfx hr1 hr2 hm hd hp hk1 hk2
      go_wp2_with fail
      refine (HLw.out _).mono ?_
      rintro e we ⟨rfl, be⟩
      clear s0 s1 i1 i2 HLw Hm
      have bf := be.trans ((below_new we (.cells #[.int .i64 r1, .int .i64 r2] 48)).mono be.size)
      have HGf := Lib.hid (HGd.out.below bf)
      have HPf := Lib.hid (HPd.out.below bf)
      have HBf := Lib.hid (HBd.out.trans (bf.mono HBd.out.size))
      have HPGf := Lib.hid (HPG.out.below bf)
      have HPF := Lib.hid (Pair.new we (.int .i64 r1) (.int .i64 r2) 48)
      have hwe : wd.heap.size ≤ we.heap.size := be.size
      have zz := Pair.new we (.int .i64 0) (.int .i64 0) 48
      have zz0 := zz.c0
      have zz1 := zz.c1
      have zz2 := zz.f0
      have zz3 := zz.f1
      clear zz bf be
      go_upto_if 74 with fail
      clear zz0 zz1 zz2 zz3
      generalize hge : we.heap.size = ge at *
      generalize (we.alloc (.cells #[.int .i64 r1, .int .i64 r2] 48)) = wf at *
      cases hB : okB ps ws l x
      · have Hno := Lib.hid (db_no2 hxp (by rw [HA.out, hB]; rfl))
        go_wp2_with fail
        go_ret3
        exact ⟨_, _, by rw [Hno.out]; rfl, by rw [(db_no Hno.out).1]; exact Fr.Own.nil _ _, by rw [(db_no Hno.out).2]; exact Fr.Own.nil _ _, HBf.out⟩
      have HBo := Lib.hid hB
      have hrr := HRR.out hB
      rw [hrr.1, hrr.2] at HPF
      clear hB hrr HRR
      generalize hf1 : fa1 ps ws l x = f1 at *
      generalize hf2 : fa2 ps ws l x = f2 at *
      have HF := Lib.hid (And.intro hf1 hf2)
      clear hf1 hf2
      have hkl := knL_length ps ws l x
      have hfl := faL_length ps ws l x
      have HE8 := Lib.hid (fun (g : Nat) (e : u8.ownBlock = some g) => (HGd.out.f.lt g e).2)
      have HE9 := Lib.hid (fun (g : Nat) (e : u9.ownBlock = some g) => (HGd.out.k.lt g e).2)
      have HE8q := Lib.hid (fun (g : Nat) (e : u8.ownBlock = some g) => (HG.out.f.lt g e).2)
      have HE9q := Lib.hid (fun (g : Nat) (e : u9.ownBlock = some g) => (HG.out.k.lt g e).2)
      have hsz : w.heap.size + 1 ≤ wf.heap.size := HPf.out.lt
      have hgf : ge < wf.heap.size := HPF.out.lt
      have q0 := HPGf.out.c0
      have q1 := HPGf.out.c1
      have q2 := HPF.out.c0
      have q3 := HPF.out.c1
      have NF : ∀ (X : World) (g : Nat), X.heap.size = g → Pair (X.alloc (.cells #[.int .i64 f1, .int .i64 f2] 48)) g (.int .i64 f1) (.int .i64 f2) := fun X g e => by subst e; exact Pair.new X _ _ _
      have NK : ∀ (X : World) (g : Nat), X.heap.size = g → Pair (X.alloc (.cells #[.int .i64 k1, .int .i64 k2] 48)) g (.int .i64 k1) (.int .i64 k2) := fun X g e => by subst e; exact Pair.new X _ _ _
      have HNF := Lib.hid NF
      have HNK := Lib.hid NK
      clear NF NK HGd HPd HBd HPG HG
      go_wp2_with fail
      refine wp_region_noPanic ?_
      refine wp_region_held_drew (S := (fun W' => (Pair W' G (.int .i64 k1) (.int .i64 k2) ∧ Pair W' ge (.int .i64 f1) (.int .i64 f2)) ∧ (W'.cell? ⟨G, 0, none⟩ = some (.int .i64 k1) ∧ W'.cell? ⟨G, 1, none⟩ = some (.int .i64 k2)) ∧ W'.cell? ⟨ge, 0, none⟩ = some (.int .i64 f1) ∧ W'.cell? ⟨ge, 1, none⟩ = some (.int .i64 f2))) (by kernel_rfl) ?_ (fun hHeld0 => ?_)
      · (try dsimp only); first | exact two_cells2 HPGf.out.drew HPF.out.drew | exact two_cells2 (HPGf.out.alloc _).drew (HPF.out.alloc _).drew | exact two_cells2 ((HPGf.out.alloc _).alloc _).drew ((HPF.out.alloc _).alloc _).drew | exact two_cells2 hS1.1 hS1.2 | exact two_cells2 (hS1.1.alloc _) (hS1.2.alloc _) | exact two_cells2 hS2.1 hS2.2
      refine takeH (i := 0) (oi := _) (v := ?_) rfl (by kernel_rfl) (by kernel_rfl) (by kernel_rfl) (fun _ _ _ h => h) (Or.inl ⟨by rfl, ?_⟩) (by assumption) ?_
      rotate_left
      · first | (intro w hSw; (try dsimp only at hSw); go_simp; done) | (intro w hSw; (try dsimp only at hSw); go_simp; with_reducible rfl)
      (try simp only [Act.put, List.setIfInBounds_toArray, List.set_cons_zero, List.set_cons_succ])
      refine takeH (i := 1) (oi := _) (v := ?_) rfl (by kernel_rfl) (by kernel_rfl) (by kernel_rfl) (fun _ _ _ h => h) (Or.inl ⟨by rfl, ?_⟩) (by assumption) ?_
      rotate_left
      · first | (intro w hSw; (try dsimp only at hSw); go_simp; done) | (intro w hSw; (try dsimp only at hSw); go_simp; with_reducible rfl)
      (try simp only [Act.put, List.setIfInBounds_toArray, List.set_cons_zero, List.set_cons_succ])
      refine takeH (i := 4) (oi := _) (v := ?_) rfl (by kernel_rfl) (by kernel_rfl) (by kernel_rfl) (fun _ _ _ h => h) (Or.inl ⟨by rfl, ?_⟩) (by assumption) ?_
      rotate_left
      · first | (intro w hSw; (try dsimp only at hSw); go_simp; done) | (intro w hSw; (try dsimp only at hSw); go_simp; with_reducible rfl)
      (try simp only [Act.put, List.setIfInBounds_toArray, List.set_cons_zero, List.set_cons_succ])
      refine takeH (i := 5) (oi := _) (v := ?_) rfl (by kernel_rfl) (by kernel_rfl) (by kernel_rfl) (fun _ _ _ h => h) (Or.inl ⟨by rfl, ?_⟩) (by assumption) ?_
      rotate_left
      · first | (intro w hSw; (try dsimp only at hSw); go_simp; done) | (intro w hSw; (try dsimp only at hSw); go_simp; with_reducible rfl)
      (try simp only [Act.put, List.setIfInBounds_toArray, List.set_cons_zero, List.set_cons_succ])
      refine wpAnyH_ready (rs := [2, 6]) (by kernel_rfl) (by simp) ?_
      refine consM rfl (fun Kq hKq => ?_) (consH rfl (fun Kq hKq => ?_))
      · go_simp
        refine hKq.out _ _ ?_ (fun hHeld1 => ?_)
        · (try dsimp only); first | exact two_cells2 HPGf.out.drew HPF.out.drew | exact two_cells2 (HPGf.out.alloc _).drew (HPF.out.alloc _).drew | exact two_cells2 ((HPGf.out.alloc _).alloc _).drew ((HPF.out.alloc _).alloc _).drew | exact two_cells2 hS1.1 hS1.2 | exact two_cells2 (hS1.1.alloc _) (hS1.2.alloc _) | exact two_cells2 hS2.1 hS2.2
        clear hKq Kq
        (try simp only [Act.put, List.setIfInBounds_toArray, List.set_cons_zero, List.set_cons_succ])
        clear hHeld0
        refine wpAnyH_ready (rs := [3, 6]) (by kernel_rfl) (by simp) ?_
        refine consM rfl (fun Kq hKq => ?_) (consH rfl (fun Kq hKq => ?_))
        · (refine step_growF (w0 := wf) (B := w.heap.size + 1) rfl _ _ rfl (by rfl) (by rfl) HGf.out (by omega) (below_new wf _).drew (HNF.out _ _ (by simp)).drew (by rw [hfl]; omega) hsz ?_; intro v' w' HG1 hb1 hk1
           have hS1 := And.intro (hk1 G _ _ (HPGf.out.alloc _).drew (fun e => by have := HE8q.out _ e; omega)) (hk1 ge _ _ (HPF.out.alloc _).drew (fun e => by have := HE8.out _ e; omega))
           have hsz1 : w.heap.size + 1 ≤ w'.heap.size := Nat.le_trans hsz (hb1.size))
          refine hKq.out _ _ ?_ (fun hHeld2 => ?_)
          · (try dsimp only); first | exact two_cells2 HPGf.out.drew HPF.out.drew | exact two_cells2 (HPGf.out.alloc _).drew (HPF.out.alloc _).drew | exact two_cells2 ((HPGf.out.alloc _).alloc _).drew ((HPF.out.alloc _).alloc _).drew | exact two_cells2 hS1.1 hS1.2 | exact two_cells2 (hS1.1.alloc _) (hS1.2.alloc _) | exact two_cells2 hS2.1 hS2.2
          clear hKq Kq
          (try simp only [Act.put, List.setIfInBounds_toArray, List.set_cons_zero, List.set_cons_succ])
          clear hHeld1
          refine wpAnyH_ready (rs := [6]) (by kernel_rfl) (by simp) ?_
          refine consH rfl (fun Kq hKq => ?_)
          go_simp
          refine hKq.out _ _ ?_ (fun hHeld3 => ?_)
          · (try dsimp only); first | exact two_cells2 HPGf.out.drew HPF.out.drew | exact two_cells2 (HPGf.out.alloc _).drew (HPF.out.alloc _).drew | exact two_cells2 ((HPGf.out.alloc _).alloc _).drew ((HPF.out.alloc _).alloc _).drew | exact two_cells2 hS1.1 hS1.2 | exact two_cells2 (hS1.1.alloc _) (hS1.2.alloc _) | exact two_cells2 hS2.1 hS2.2
          clear hKq Kq
          (try simp only [Act.put, List.setIfInBounds_toArray, List.set_cons_zero, List.set_cons_succ])
          clear hHeld2
          refine wpAnyH_ready (rs := [7]) (by kernel_rfl) (by simp) ?_
          refine consH rfl (fun Kq hKq => ?_)
          (refine step_growK (w0 := w') (B := w.heap.size + 1) rfl _ _ rfl (by rfl) (by rfl) HG1 (by omega) (below_new w' _) (HNK.out _ _ (by simp)) (by rw [hkl]; omega) hsz1 ?_; intro v'' w'' HG2 hb2 hk2
           have hS2 := And.intro (hk2 G _ _ (hS1.1.alloc _) (fun e => by have := HE9q.out _ e; omega)) (hk2 ge _ _ (hS1.2.alloc _) (fun e => by have := HE9.out _ e; omega)))
          refine hKq.out _ _ ?_ (fun hHeld4 => ?_)
          · (try dsimp only); first | exact two_cells2 HPGf.out.drew HPF.out.drew | exact two_cells2 (HPGf.out.alloc _).drew (HPF.out.alloc _).drew | exact two_cells2 ((HPGf.out.alloc _).alloc _).drew ((HPF.out.alloc _).alloc _).drew | exact two_cells2 hS1.1 hS1.2 | exact two_cells2 (hS1.1.alloc _) (hS1.2.alloc _) | exact two_cells2 hS2.1 hS2.2
          clear hKq Kq
          (try simp only [Act.put, List.setIfInBounds_toArray, List.set_cons_zero, List.set_cons_succ])
          clear hHeld3
          refine takeH (i := 8) (oi := _) (v := ?_) rfl (by kernel_rfl) (by kernel_rfl) (by kernel_rfl) (fun _ _ _ h => h) (Or.inl ⟨by rfl, ?_⟩) (by assumption) ?_
          rotate_left
          · first | (intro w hSw; (try dsimp only at hSw); go_simp; done) | (intro w hSw; (try dsimp only at hSw); go_simp; with_reducible rfl)
          (try simp only [Act.put, List.setIfInBounds_toArray, List.set_cons_zero, List.set_cons_succ])
          refine takeH (i := 9) (oi := _) (v := ?_) rfl (by kernel_rfl) (by kernel_rfl) (by kernel_rfl) (fun _ _ _ h => h) (Or.inl ⟨by rfl, ?_⟩) (by assumption) ?_
          rotate_left
          · first | (intro w hSw; (try dsimp only at hSw); go_simp; done) | (intro w hSw; (try dsimp only at hSw); go_simp; with_reducible rfl)
          (try simp only [Act.put, List.setIfInBounds_toArray, List.set_cons_zero, List.set_cons_succ])
          refine wpAnyH_done (by kernel_rfl) ?_ _
          refine NoPanic.normal ?_
          go_wp2_with fail
          have HG3 : Grow w'' (w.heap.size + 1) v' v'' (faL ps ws l (x + 1)) (knL ps ws l (x + 1)) a9 nP (driftL ps ws l) := by
            rw [faL_succ, knL_succ, HF.out.1, HF.out.2, ← HK.out.1, ← HK.out.2]; exact HG2
          have HP3 := (HPf.out.up hb1 (by omega)).up hb2 (by omega)
          have HB3 := (HBf.out.trans (hb1.mono (by omega))).trans (hb2.mono (by omega))
          clear HG1 HG2 hk1 hk2 hS1 hS2
          go_roundw
          case rel => exact ⟨x + 1, by omega, by go_num, fun y hy => by
            by_cases e : y = x
            · subst e; exact Hkk.out HA.out
            · exact HFr.out y (by omega), fun y hy => by
            by_cases e : y = x
            · subst e; exact ⟨HA.out, HBo.out⟩
            · exact HOk.out y (by omega), HG3, HP3, HB3⟩
          case measure => simp [intOf]; omega
        · go_simp
          refine hKq.out _ _ ?_ (fun hHeld2 => ?_)
          · (try dsimp only); first | exact two_cells2 HPGf.out.drew HPF.out.drew | exact two_cells2 (HPGf.out.alloc _).drew (HPF.out.alloc _).drew | exact two_cells2 ((HPGf.out.alloc _).alloc _).drew ((HPF.out.alloc _).alloc _).drew | exact two_cells2 hS1.1 hS1.2 | exact two_cells2 (hS1.1.alloc _) (hS1.2.alloc _) | exact two_cells2 hS2.1 hS2.2
          clear hKq Kq
          (try simp only [Act.put, List.setIfInBounds_toArray, List.set_cons_zero, List.set_cons_succ])
          clear hHeld1
          refine wpAnyH_ready (rs := [3]) (by kernel_rfl) (by simp) ?_
          refine consH rfl (fun Kq hKq => ?_)
          (refine step_growF (w0 := wf) (B := w.heap.size + 1) rfl _ _ rfl (by rfl) (by rfl) HGf.out (by omega) ((below_new wf _).alloc (by simp) _).drew ((HNF.out _ _ (by simp)).alloc _).drew (by rw [hfl]; omega) hsz ?_; intro v' w' HG1 hb1 hk1
           have hS1 := And.intro (hk1 G _ _ ((HPGf.out.alloc _).alloc _).drew (fun e => by have := HE8q.out _ e; omega)) (hk1 ge _ _ ((HPF.out.alloc _).alloc _).drew (fun e => by have := HE8.out _ e; omega))
           have hsz1 : w.heap.size + 1 ≤ w'.heap.size := Nat.le_trans hsz (hb1.size))
          refine hKq.out _ _ ?_ (fun hHeld3 => ?_)
          · (try dsimp only); first | exact two_cells2 HPGf.out.drew HPF.out.drew | exact two_cells2 (HPGf.out.alloc _).drew (HPF.out.alloc _).drew | exact two_cells2 ((HPGf.out.alloc _).alloc _).drew ((HPF.out.alloc _).alloc _).drew | exact two_cells2 hS1.1 hS1.2 | exact two_cells2 (hS1.1.alloc _) (hS1.2.alloc _) | exact two_cells2 hS2.1 hS2.2
          clear hKq Kq
          (try simp only [Act.put, List.setIfInBounds_toArray, List.set_cons_zero, List.set_cons_succ])
          clear hHeld2
          refine wpAnyH_ready (rs := [7]) (by kernel_rfl) (by simp) ?_
          refine consH rfl (fun Kq hKq => ?_)
          (refine step_growK (w0 := w') (B := w.heap.size + 1) rfl _ _ rfl (by rfl) (by rfl) HG1 (by omega) (Below.refl _ _) (hk1 _ _ _ (HNK.out _ _ (by simp)).drew (fun e => by have := HE8.out _ e; (try simp at this); omega)) (by rw [hkl]; omega) hsz1 ?_; intro v'' w'' HG2 hb2 hk2
           have hS2 := And.intro (hk2 G _ _ hS1.1 (fun e => by have := HE9q.out _ e; omega)) (hk2 ge _ _ hS1.2 (fun e => by have := HE9.out _ e; omega)))
          refine hKq.out _ _ ?_ (fun hHeld4 => ?_)
          · (try dsimp only); first | exact two_cells2 HPGf.out.drew HPF.out.drew | exact two_cells2 (HPGf.out.alloc _).drew (HPF.out.alloc _).drew | exact two_cells2 ((HPGf.out.alloc _).alloc _).drew ((HPF.out.alloc _).alloc _).drew | exact two_cells2 hS1.1 hS1.2 | exact two_cells2 (hS1.1.alloc _) (hS1.2.alloc _) | exact two_cells2 hS2.1 hS2.2
          clear hKq Kq
          (try simp only [Act.put, List.setIfInBounds_toArray, List.set_cons_zero, List.set_cons_succ])
          clear hHeld3
          refine takeH (i := 8) (oi := _) (v := ?_) rfl (by kernel_rfl) (by kernel_rfl) (by kernel_rfl) (fun _ _ _ h => h) (Or.inl ⟨by rfl, ?_⟩) (by assumption) ?_
          rotate_left
          · first | (intro w hSw; (try dsimp only at hSw); go_simp; done) | (intro w hSw; (try dsimp only at hSw); go_simp; with_reducible rfl)
          (try simp only [Act.put, List.setIfInBounds_toArray, List.set_cons_zero, List.set_cons_succ])
          refine takeH (i := 9) (oi := _) (v := ?_) rfl (by kernel_rfl) (by kernel_rfl) (by kernel_rfl) (fun _ _ _ h => h) (Or.inl ⟨by rfl, ?_⟩) (by assumption) ?_
          rotate_left
          · first | (intro w hSw; (try dsimp only at hSw); go_simp; done) | (intro w hSw; (try dsimp only at hSw); go_simp; with_reducible rfl)
          (try simp only [Act.put, List.setIfInBounds_toArray, List.set_cons_zero, List.set_cons_succ])
          refine wpAnyH_done (by kernel_rfl) ?_ _
          refine NoPanic.normal ?_
          go_wp2_with fail
          have HG3 : Grow w'' (w.heap.size + 1) v' v'' (faL ps ws l (x + 1)) (knL ps ws l (x + 1)) a9 nP (driftL ps ws l) := by
            rw [faL_succ, knL_succ, HF.out.1, HF.out.2, ← HK.out.1, ← HK.out.2]; exact HG2
          have HP3 := (HPf.out.up hb1 (by omega)).up hb2 (by omega)
          have HB3 := (HBf.out.trans (hb1.mono (by omega))).trans (hb2.mono (by omega))
          clear HG1 HG2 hk1 hk2 hS1 hS2
          go_roundw
          case rel => exact ⟨x + 1, by omega, by go_num, fun y hy => by
            by_cases e : y = x
            · subst e; exact Hkk.out HA.out
            · exact HFr.out y (by omega), fun y hy => by
            by_cases e : y = x
            · subst e; exact ⟨HA.out, HBo.out⟩
            · exact HOk.out y (by omega), HG3, HP3, HB3⟩
          case measure => simp [intOf]; omega
      · go_simp
        refine hKq.out _ _ ?_ (fun hHeld1 => ?_)
        · (try dsimp only); first | exact two_cells2 HPGf.out.drew HPF.out.drew | exact two_cells2 (HPGf.out.alloc _).drew (HPF.out.alloc _).drew | exact two_cells2 ((HPGf.out.alloc _).alloc _).drew ((HPF.out.alloc _).alloc _).drew | exact two_cells2 hS1.1 hS1.2 | exact two_cells2 (hS1.1.alloc _) (hS1.2.alloc _) | exact two_cells2 hS2.1 hS2.2
        clear hKq Kq
        (try simp only [Act.put, List.setIfInBounds_toArray, List.set_cons_zero, List.set_cons_succ])
        clear hHeld0
        refine wpAnyH_ready (rs := [2]) (by kernel_rfl) (by simp) ?_
        refine consH rfl (fun Kq hKq => ?_)
        go_simp
        refine hKq.out _ _ ?_ (fun hHeld2 => ?_)
        · (try dsimp only); first | exact two_cells2 HPGf.out.drew HPF.out.drew | exact two_cells2 (HPGf.out.alloc _).drew (HPF.out.alloc _).drew | exact two_cells2 ((HPGf.out.alloc _).alloc _).drew ((HPF.out.alloc _).alloc _).drew | exact two_cells2 hS1.1 hS1.2 | exact two_cells2 (hS1.1.alloc _) (hS1.2.alloc _) | exact two_cells2 hS2.1 hS2.2
        clear hKq Kq
        (try simp only [Act.put, List.setIfInBounds_toArray, List.set_cons_zero, List.set_cons_succ])
        clear hHeld1
        refine wpAnyH_ready (rs := [3]) (by kernel_rfl) (by simp) ?_
        refine consH rfl (fun Kq hKq => ?_)
        (refine step_growF (w0 := wf) (B := w.heap.size + 1) rfl _ _ rfl (by rfl) (by rfl) HGf.out (by omega) ((below_new wf _).alloc (by simp) _).drew (HNF.out _ _ (by simp)).drew (by rw [hfl]; omega) hsz ?_; intro v' w' HG1 hb1 hk1
         have hS1 := And.intro (hk1 G _ _ ((HPGf.out.alloc _).alloc _).drew (fun e => by have := HE8q.out _ e; omega)) (hk1 ge _ _ ((HPF.out.alloc _).alloc _).drew (fun e => by have := HE8.out _ e; omega))
         have hsz1 : w.heap.size + 1 ≤ w'.heap.size := Nat.le_trans hsz (hb1.size))
        refine hKq.out _ _ ?_ (fun hHeld3 => ?_)
        · (try dsimp only); first | exact two_cells2 HPGf.out.drew HPF.out.drew | exact two_cells2 (HPGf.out.alloc _).drew (HPF.out.alloc _).drew | exact two_cells2 ((HPGf.out.alloc _).alloc _).drew ((HPF.out.alloc _).alloc _).drew | exact two_cells2 hS1.1 hS1.2 | exact two_cells2 (hS1.1.alloc _) (hS1.2.alloc _) | exact two_cells2 hS2.1 hS2.2
        clear hKq Kq
        (try simp only [Act.put, List.setIfInBounds_toArray, List.set_cons_zero, List.set_cons_succ])
        clear hHeld2
        refine wpAnyH_ready (rs := [7]) (by kernel_rfl) (by simp) ?_
        refine consH rfl (fun Kq hKq => ?_)
        (refine step_growK (w0 := w') (B := w.heap.size + 1) rfl _ _ rfl (by rfl) (by rfl) HG1 (by omega) (Below.refl _ _) (hk1 _ _ _ ((HNK.out _ _ (by simp)).alloc _).drew (fun e => by have := HE8.out _ e; (try simp at this); omega)) (by rw [hkl]; omega) hsz1 ?_; intro v'' w'' HG2 hb2 hk2
         have hS2 := And.intro (hk2 G _ _ hS1.1 (fun e => by have := HE9q.out _ e; omega)) (hk2 ge _ _ hS1.2 (fun e => by have := HE9.out _ e; omega)))
        refine hKq.out _ _ ?_ (fun hHeld4 => ?_)
        · (try dsimp only); first | exact two_cells2 HPGf.out.drew HPF.out.drew | exact two_cells2 (HPGf.out.alloc _).drew (HPF.out.alloc _).drew | exact two_cells2 ((HPGf.out.alloc _).alloc _).drew ((HPF.out.alloc _).alloc _).drew | exact two_cells2 hS1.1 hS1.2 | exact two_cells2 (hS1.1.alloc _) (hS1.2.alloc _) | exact two_cells2 hS2.1 hS2.2
        clear hKq Kq
        (try simp only [Act.put, List.setIfInBounds_toArray, List.set_cons_zero, List.set_cons_succ])
        clear hHeld3
        refine takeH (i := 8) (oi := _) (v := ?_) rfl (by kernel_rfl) (by kernel_rfl) (by kernel_rfl) (fun _ _ _ h => h) (Or.inl ⟨by rfl, ?_⟩) (by assumption) ?_
        rotate_left
        · first | (intro w hSw; (try dsimp only at hSw); go_simp; done) | (intro w hSw; (try dsimp only at hSw); go_simp; with_reducible rfl)
        (try simp only [Act.put, List.setIfInBounds_toArray, List.set_cons_zero, List.set_cons_succ])
        refine takeH (i := 9) (oi := _) (v := ?_) rfl (by kernel_rfl) (by kernel_rfl) (by kernel_rfl) (fun _ _ _ h => h) (Or.inl ⟨by rfl, ?_⟩) (by assumption) ?_
        rotate_left
        · first | (intro w hSw; (try dsimp only at hSw); go_simp; done) | (intro w hSw; (try dsimp only at hSw); go_simp; with_reducible rfl)
        (try simp only [Act.put, List.setIfInBounds_toArray, List.set_cons_zero, List.set_cons_succ])
        refine wpAnyH_done (by kernel_rfl) ?_ _
        refine NoPanic.normal ?_
        go_wp2_with fail
        have HG3 : Grow w'' (w.heap.size + 1) v' v'' (faL ps ws l (x + 1)) (knL ps ws l (x + 1)) a9 nP (driftL ps ws l) := by
          rw [faL_succ, knL_succ, HF.out.1, HF.out.2, ← HK.out.1, ← HK.out.2]; exact HG2
        have HP3 := (HPf.out.up hb1 (by omega)).up hb2 (by omega)
        have HB3 := (HBf.out.trans (hb1.mono (by omega))).trans (hb2.mono (by omega))
        clear HG1 HG2 hk1 hk2 hS1 hS2
        go_roundw
        case rel => exact ⟨x + 1, by omega, by go_num, fun y hy => by
          by_cases e : y = x
          · subst e; exact Hkk.out HA.out
          · exact HFr.out y (by omega), fun y hy => by
          by_cases e : y = x
          · subst e; exact ⟨HA.out, HBo.out⟩
          · exact HOk.out y (by omega), HG3, HP3, HB3⟩
        case measure => simp [intOf]; omega
    · obtain rfl : x = nP := by omega
      have Hy := Lib.hid (db_all Hpays.out (fun y hy => HOk.out y (by have := Hl.out; omega)))
      have hdy := db_yes Hy.out
      rw [Hl.out] at hdy
      have Hdy := Lib.hid hdy
      clear hdy
      go_wp2_with fail
      go_ret3
      exact ⟨_, _, by rw [Hy.out]; rfl, by rw [Hdy.out.1]; exact HG.out.f.mono (Nat.le_succ _), by rw [Hdy.out.2]; exact HG.out.k.mono (Nat.le_succ _), HB.out⟩
end Go.Proofs.Ytnbomleieianoaa
