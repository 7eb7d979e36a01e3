/- Contracts and plain laws for the statement FnDoob, part 15. No conditions but those stated in each. -/
import Derived.Test.YtnbomleieianoaaBnFnDoob12
import Derived.Test.YtnbomleieianoaaBnFnDoob13
import Derived.Test.YtnbomleieianoaaBnFnDoob3
import Derived.Test.YtnbomleieianoaaBnFnDoob4
import Derived.Deep.DeepCutAuto
import Derived.Deep.CutRange
/- Contract: the fair part of a process and what is known, by the reference. -/
namespace Go.Proofs.Ytnbomleieianoaa
open Go.RowKit

namespace Fr
theorem Own.moved {w w' : World} {base : Nat} {u v v' : Value} {xs : List (Int × Int)} (h : Own w base u xs) (hm : Moved w v w' v') (ha : ∀ g, u.ownBlock = some g → v.ownBlock ≠ some g) : Own w' base u xs := by
  unfold Own World.ownsRow at *
  refine ⟨h.1, ?_⟩
  rcases h.2 with h1 | ⟨g, cp, cur, h1, h2, h3, h4⟩
  · exact .inl h1
  · have hlt : g < w.heap.size := by
      rcases Nat.lt_or_ge g w.heap.size with hl | hl
      · exact hl
      · rw [Array.getElem?_eq_none hl] at h3; cases h3
    have hk := hm.2 g hlt (ha g (by rw [h1]; rfl))
    exact .inr ⟨g, cp, cur, h1, h2, by rw [hk.2]; exact h3, h4⟩
theorem Own.lt {w : World} {base : Nat} {v : Value} {xs : List (Int × Int)} (h : Own w base v xs) : ∀ k, v.ownBlock = some k → base ≤ k ∧ k < w.heap.size := World.ownsRow.lt h
end Fr
/-- Two lists of pairs that grow, beside one that is read. -/
structure Grow (w : World) (B : Nat) (v7 v8 : Value) (fs ks : List (Int × Int)) (a9 : Option Addr) (n : Nat) (ds : List (Int × Int)) : Prop where
  f : Fr.Own w B v7 fs
  k : Fr.Own w B v8 ks
  d : Fr.Ints w a9 n ds
  fk : ∀ g, v7.ownBlock = some g → v8.ownBlock ≠ some g
  df : Apart a9 v7
  dk : Apart a9 v8
theorem Grow.below {w w' : World} {B : Nat} {v7 v8 : Value} {fs ks : List (Int × Int)} {a9 : Option Addr} {n : Nat} {ds : List (Int × Int)} (h : Grow w B v7 v8 fs ks a9 n ds) (hb : Below w.heap.size w w') : Grow w' B v7 v8 fs ks a9 n ds :=
  ⟨h.f.below hb, h.k.below hb, h.d.below hb, h.fk, h.df, h.dk⟩
theorem Grow.pushK {w w' : World} {B : Nat} {v7 v8 v' : Value} {fs ks ks' : List (Int × Int)} {a9 : Option Addr} {n : Nat} {ds : List (Int × Int)} (h : Grow w B v7 v8 fs ks a9 n ds) (hn : 0 < n) (ho : Fr.Own w' B v' ks') (hm : Moved w v8 w' v') : Grow w' B v7 v' fs ks' a9 n ds := by
  have hd := h.d.moved hm fun _ => h.dk
  exact ⟨h.f.moved hm h.fk, ho, hd.1, fun g hg => (hm.2 g (h.f.lt g hg).2 (h.fk g hg)).1, h.df, hd.2 hn⟩
theorem Grow.pushF {w w' : World} {B : Nat} {v7 v8 v' : Value} {fs ks fs' : List (Int × Int)} {a9 : Option Addr} {n : Nat} {ds : List (Int × Int)} (h : Grow w B v7 v8 fs ks a9 n ds) (hn : 0 < n) (ho : Fr.Own w' B v' fs') (hm : Moved w v7 w' v') : Grow w' B v' v8 fs' ks a9 n ds := by
  have hd := h.d.moved hm fun _ => h.df
  exact ⟨ho, h.k.moved hm (fun g hg e => h.fk g e hg), hd.1, fun g hg e => (hm.2 g (h.k.lt g e).2 (fun e2 => h.fk g e2 e)).1 hg, hd.2 hn, h.dk⟩
set_option maxRecDepth 100000 in
set_option maxHeartbeats 4000000 in
theorem spec_DoobParts (aP : Option Addr) (nP cP : Nat) (aW : Option Addr) (nW cW : Nat) (ps ws : List Int) (aL : Option Addr) (nL cL : Nat) (l : List Int) (w : World) (h : Tre w aP nP cP aW nW cW ps ws) (hL : Ints w aL nL l) (_hLc : aL = none → cL = 0) (hn : nL ≤ 1048576) :
    Calls Try.prog 26 #[.agg #[.slice aP nP cP, .slice aW nW cW], .slice aL nL cL] w fun e w' => ∃ v u, e = .returned (.tuple #[v, u, .bool (dbB ps ws l)]) ∧ Fr.Own w' w.heap.size v (dbF ps ws l) ∧ Fr.Own w' w.heap.size u (dbK ps ws l) ∧ Below w.heap.size w w' := by
  have hl := h.p.1
  have hlw := h.w.1
  have hpn := h.pn
  have hwn := h.wn
  have hb1 := below_new w (.cells #[.slice aP nP cP, .slice aW nW cW] 26)
  have hP1 := Lib.hid (Pair.new w (.slice aP nP cP) (.slice aW nW cW) 26)
  have H := Lib.hid h
  have Hl := Lib.hid hl
  have Hlw := Lib.hid hlw
  clear h hl hlw
  have HL := Lib.hid hL
  have hll := Lib.hid hL.1
  clear hL
  go_enter Try.func26, Try.ntmps26
  have o1 := (Fr.own_nil0 (w.alloc (.cells #[.slice aP nP cP, .slice aW nW cW] 26))).below (below_new ((w.alloc (.cells #[.slice aP nP cP, .slice aW nW cW] 26)).alloc (.cells #[] 48)) (.cells #[] 48))
  have o2 := Fr.own_nil0 ((w.alloc (.cells #[.slice aP nP cP, .slice aW nW cW] 26)).alloc (.cells #[] 48))
  rw [show (w.alloc (.cells #[.slice aP nP cP, .slice aW nW cW] 26)).heap.size = w.heap.size + 1 by simp] at o1
  rw [show ((w.alloc (.cells #[.slice aP nP cP, .slice aW nW cW] 26)).alloc (.cells #[] 48)).heap.size = w.heap.size + 2 by simp] at o2
  have hPP := Lib.hid ((hP1.out.alloc (.cells #[] 48)).alloc (.cells #[] 48))
  have hbb : Below w.heap.size w (((w.alloc (.cells #[.slice aP nP cP, .slice aW nW cW] 26)).alloc (.cells #[] 48)).alloc (.cells #[] 48)) := (hb1.alloc (by simp) _).alloc (by simp; omega) _
  have hss : (((w.alloc (.cells #[.slice aP nP cP, .slice aW nW cW] 26)).alloc (.cells #[] 48)).alloc (.cells #[] 48)).heap.size = w.heap.size + 3 := by simp
  have O1 := Lib.hid o1
  have O2 := Lib.hid (o2.mono (show w.heap.size + 1 ≤ w.heap.size + 2 by omega))
  have c0 := hPP.out.c0
  have c1 := hPP.out.c1
  clear o1 o2 hb1 hP1
  go_wp2_with fail
  generalize (((w.alloc (.cells #[.slice aP nP cP, .slice aW nW cW] 26)).alloc (.cells #[] 48)).alloc (.cells #[] 48)) = w2 at *
  refine (spec_l3Good _ _ _ _ _ _ ps ws _ _ _ l _ (H.out.below hbb) (HL.out.below hbb) hn).mono ?_
  rintro e w3 ⟨rfl, hb3⟩
  have HP3 := Lib.hid (hPP.out.below hb3)
  have O1 := Lib.hid (O1.out.below hb3)
  have O2 := Lib.hid (O2.out.below hb3)
  have d0 := HP3.out.c0
  have d1 := HP3.out.c1
  have hb13 := hbb.trans (hb3.mono hbb.size)
  have hs3 : w.heap.size + 3 ≤ w3.heap.size := by have := hb3.size; omega
  clear hb3 c0 c1 hPP hbb hss
  cases hT : paysB ps ws l
  · have Hv := Lib.hid (db_no1 hT)
    clear hT
    go_wp2_with fail
    go_ret3
    exact ⟨_, _, by rw [Hv.out]; rfl, by rw [(db_no Hv.out).1]; exact O1.out.mono (by omega), by rw [(db_no Hv.out).2]; exact O2.out.mono (by omega), hb13⟩
  have Hpays := Lib.hid hT
  have hpt := paysB_t hT
  have HTr := Lib.hid hpt.1
  have hnL : nP = nL := by have := hll.out; have := hpt.2.2.2.1; have := Hl.out; omega
  have Hpp := Lib.hid hpt.2.2.2.2
  have hnP : 1 ≤ nP ∧ nP ≤ 24 := by have := hpt.1.n1; have := hpt.1.n24; have := Hl.out; omega
  clear hT hpt hpn hwn
  subst hnL
  go_wp2_with fail
  refine (spec_l3Drifts _ _ _ _ _ _ ps ws _ _ _ l _ (H.out.below hb13) HTr.out (HL.out.below hb13) Hpp.out rfl).mono ?_
  rintro e w5 ⟨v5, rfl, ho5, hb5⟩
  obtain ⟨a9, c9, rfl⟩ := ho5.shape
  have hdl : (driftL ps ws l).length = nP := by rw [driftL_length]; exact Hl.out
  rw [hdl] at ho5 ⊢
  have hG : Grow w5 (w.heap.size + 1) (.slice (some ⟨w.heap.size + 1, 0, none⟩) 0 0) (.slice (some ⟨w.heap.size + 2, 0, none⟩) 0 0) [] [] a9 nP (driftL ps ws l) :=
    ⟨O1.out.below hb5, O2.out.below hb5, ho5.ints, fun g hg e => by simp [Value.ownBlock] at hg e; omega, fun p hp e => by subst hp; have := (ho5.lt _ rfl).1; simp [Value.ownBlock] at e; omega, fun p hp e => by subst hp; have := (ho5.lt _ rfl).1; simp [Value.ownBlock] at e; omega⟩
  have HG := Lib.hid hG
  have HP5 := Lib.hid (HP3.out.below hb5)
  have hb15 := Lib.hid (hb13.trans (hb5.mono hb13.size))
  clear ho5 hG hdl d0 d1 hb5 hb13 HP3 O1 O2 hs3
  have Hkz := Lib.hid (kn_zero ps ws l)
  have Hnil : Hid (faL ps ws l 0 = [] ∧ knL ps ws l 0 = []) := Lib.hid ⟨rfl, rfl⟩
  obtain ⟨w6, hw6⟩ : ∃ z, z = w5 := ⟨_, rfl⟩
  rw [← hw6] at HG HP5 hb15 ⊢
  clear hw6
  go_wp2_with fail
  go_loopw [7, 8, 10] (fun v7 v8 v10 wr => ∃ x : Nat, x ≤ nP ∧ v10 = .int .i64 (x : Int) ∧ (∀ y, y < x → FrG (kn1 ps ws l y) (kn2 ps ws l y)) ∧ (∀ y, y < x → okA ps ws l y = true ∧ okB ps ws l y = true) ∧ Grow wr (w.heap.size + 1) v7 v8 (faL ps ws l x) (knL ps ws l x) a9 nP (driftL ps ws l) ∧ Pair wr w.heap.size (.slice aP nP cP) (.slice aW nW cW) ∧ Below w.heap.size w wr) (fun _ _ v10 _ => nP - (intOf v10).toNat)
  case atStart => exact ⟨0, Nat.zero_le _, rfl, fun y hy => by omega, fun y hy => by omega, by rw [Hnil.out.1, Hnil.out.2]; exact HG.out, HP5.out, hb15.out⟩
  case round =>
    clear HG HP5 hb15
    obtain ⟨x, hx, rfl, hfr, hok, hG, hP, hbel⟩ := hrel
    have HFr := Lib.hid hfr
    have HOk := Lib.hid hok
    have HG := Lib.hid hG
    have HP := Lib.hid hP
    have HB := Lib.hid hbel
    obtain ⟨wq, rfl⟩ : ∃ z, z = wr := ⟨_, rfl⟩
    clear hfr hok hG hP hbel
    by_cases hlt : (x : Int) < nP
    · have hxp : x < ps.length := by have := Hl.out; omega
      have hz := Pair.new wq (.int .i64 0) (.int .i64 1) 48
      have z0 := (Pair.new wq (.int .i64 0) (.int .i64 0) 48).c0
      have z1 := (Pair.new wq (.int .i64 0) (.int .i64 0) 48).c1
      have z2 := (Pair.new wq (.int .i64 0) (.int .i64 0) 48).f0
      have z3 := (Pair.new wq (.int .i64 0) (.int .i64 0) 48).f1
      have HZ := Lib.hid hz
      have hnew := below_new wq (.cells #[.int .i64 0, .int .i64 1] 48)
      have HG1 := Lib.hid (HG.out.below hnew)
      have HP1 := Lib.hid (HP.out.below hnew)
      have HB1 := Lib.hid (HB.out.trans (hnew.mono HB.out.size))
      have hwq : w.heap.size ≤ wq.heap.size := HB.out.size
      have hwl : w.heap.size < wq.heap.size := HP.out.lt
      have HW := Lib.hid hnew
      have HPq := Lib.hid HP.out
      have HBq := Lib.hid HB.out
      clear hz hnew HP HB
      go_upto_if 32 with fail
      clear z0 z1 z2 z3
      generalize hG0 : wq.heap.size = G at *
      generalize (wq.alloc (.cells #[.int .i64 0, .int .i64 1] 48)) = wa at *
      go_cut [10] from 31 to 32 (fun v10 wc => v10 = .int .i64 (x : Int) ∧ Pair wc G (.int .i64 (kn1 ps ws l x)) (.int .i64 (kn2 ps ws l x)) ∧ Below G wq wc)
      case first => as_aux_lemma =>
        by_cases hx0 : x = 0
        · have hx0' : ¬ (x : Int) > 0 := by omega
          have hkz := Hkz.out
          have HX := Lib.hid hx0
          clear hx0
          go_wp2_with fail
          go_meet
          case rel => exact ⟨rfl, by rw [HX.out, hkz.1, hkz.2]; exact HZ.out, HW.out⟩
        · have hx0' : (x : Int) > 0 := by omega
          have hup := HTr.out.toPa.upN (x := x) (by omega) hxp
          have hpl := hup.2
          obtain ⟨bp, op, hpe, hbp, hcp⟩ := H.out.p.at2 (i := x) HB1.out (by omega)
          rw [hup.1] at hcp
          subst hpe
          have hpn : par ps x < nP := by omega
          have hku := kn_up (ps := ps) ws l (x := x) (by omega) hup.2
          have hkp := HFr.out (par ps x) hpl
          have hdp := drf_frg Hpays.out (x := par ps x) (by have := Hl.out; omega)
          have hbd := ad_bd hkp hdp
          have hka := knL_at ps ws l x (par ps x) hpl
          have hkl := knL_length ps ws l x
          obtain ⟨a7', c7', rfl⟩ := HG1.out.f.shape
          obtain ⟨a8', c8', rfl⟩ := HG1.out.k.shape
          obtain ⟨bk, ok8, hke, hbk, hck⟩ := HG1.out.k.ints.2 (by omega)
          subst hke
          have hbk2 := (HG.out.k.lt bk rfl).2
          obtain ⟨bd, od, hde, hbd2, -⟩ := HG.out.d.2 (by omega)
          subst hde
          obtain ⟨bd', od', hde', -, hcd⟩ := HG1.out.d.2 (by omega)
          obtain ⟨rfl, rfl⟩ : bd = bd' ∧ od = od' := by cases hde'; exact ⟨rfl, rfl⟩
          obtain ⟨g1, g2⟩ := hck (par ps x) (by omega)
          obtain ⟨g3, g4⟩ := hcd (par ps x) hpn
          rw [hka.1] at g1
          rw [hka.2] at g2
          have g5 := HP1.out.c0
          have HA : Hid (∀ W : World, Calls Try.prog 99 #[.agg #[.int .i64 (kn1 ps ws l (par ps x)), .int .i64 (kn2 ps ws l (par ps x))], .agg #[.int .i64 (Fr.at1 (driftL ps ws l) (par ps x)), .int .i64 (Fr.at2 (driftL ps ws l) (par ps x))]] W fun e w' => e = .returned (.agg #[.int .i64 (kn1 ps ws l x), .int .i64 (kn2 ps ws l x)]) ∧ Below W.heap.size W w') := Lib.hid fun W => by
            rw [hku.1, hku.2]
            exact spec_l2Add _ _ _ _ W (by have := hkp.2.1; omega) (by have := hdp.2.1; omega) (by omega) (by omega) (by omega)
          have n1 : w.heap.size ≠ G := by omega
          have n2 : bp ≠ G := by omega
          have n3 : bk ≠ G := by omega
          have n4 : bd ≠ G := by omega
          have N1 := Lib.hid (And.intro (And.intro n1 n2) (And.intro n3 n4))
          have HKL := Lib.hid hkl
          clear hck hcd hka hkl hku hkp hdp hbd hup hbk hbk2 hbd2 hbp hde' n1 n2 n3 n4
          generalize kn1 ps ws l (par ps x) = k1 at *
          generalize kn2 ps ws l (par ps x) = k2 at *
          generalize Fr.at1 (driftL ps ws l) (par ps x) = d1 at *
          generalize Fr.at2 (driftL ps ws l) (par ps x) = d2 at *
          generalize kn1 ps ws l x = r1 at *
          generalize kn2 ps ws l x = r2 at *
          generalize hq : par ps x = q at *
          have j1 : (0 : Int) ≤ (x : Int) := by omega
          have j2 : (0 : Int) ≤ (q : Int) := by omega
          have j3 : (q : Int) < (x : Int) := by omega
          have j4 : (q : Int) < (nP : Int) := by omega
          have j5 : q < (knL ps ws l x).length := by rw [HKL.out]; omega
          have j6 : (q : Int) < ((knL ps ws l x).length : Int) := by omega
          clear hq
          go_wp2_with fail
          refine wp_region_noPanic ?_
          refine wp_region_held_drew (S := (fun W' => ((W'.cell? ⟨w.heap.size, 0, none⟩ = some (.slice (some ⟨bp, op, none⟩) nP cP) ∧ W'.cell? ⟨bp, op + x, none⟩ = some (.int .i64 (q : Int))) ∧ W'.cell? ⟨bk, ok8 + q * 2, none⟩ = some (.int .i64 k1) ∧ W'.cell? ⟨bk, ok8 + q * 2 + 1, none⟩ = some (.int .i64 k2)) ∧ W'.cell? ⟨bd, od + q * 2, none⟩ = some (.int .i64 d1) ∧ W'.cell? ⟨bd, od + q * 2 + 1, none⟩ = some (.int .i64 d2))) (by kernel_rfl) ?_ (fun hHeld0 => ?_)
          · (try dsimp only); first | assumption | exact ⟨⟨⟨g5, hcp⟩, g1, g2⟩, g3, g4⟩ | exact ⟨⟨⟨cell_far (cell_far hSS.1.1.1 N1.out.1.1) N1.out.1.1, cell_far (cell_far hSS.1.1.2 N1.out.1.2) N1.out.1.2⟩, cell_far (cell_far hSS.1.2.1 N1.out.2.1) N1.out.2.1, cell_far (cell_far hSS.1.2.2 N1.out.2.1) N1.out.2.1⟩, cell_far (cell_far hSS.2.1 N1.out.2.2) N1.out.2.2, cell_far (cell_far hSS.2.2 N1.out.2.2) N1.out.2.2⟩
          refine takeH (i := 0) (oi := _) (v := ?_) rfl (by kernel_rfl) (by kernel_rfl) (by kernel_rfl) (fun _ _ _ h => h) (Or.inl ⟨by rfl, ?_⟩) (by assumption) ?_
          rotate_left
          · first | (intro w hSw; (try dsimp only at hSw); go_simp; done) | (intro w hSw; (try dsimp only at hSw); go_simp; with_reducible rfl)
          (try simp only [Act.put, List.setIfInBounds_toArray, List.set_cons_zero, List.set_cons_succ])
          refine takeH (i := 1) (oi := _) (v := ?_) rfl (by kernel_rfl) (by kernel_rfl) (by kernel_rfl) (fun _ _ _ h => h) (Or.inl ⟨by rfl, ?_⟩) (by assumption) ?_
          rotate_left
          · first | (intro w hSw; (try dsimp only at hSw); go_simp; done) | (intro w hSw; (try dsimp only at hSw); go_simp; with_reducible rfl)
          (try simp only [Act.put, List.setIfInBounds_toArray, List.set_cons_zero, List.set_cons_succ])
          refine takeH (i := 2) (oi := _) (v := ?_) rfl (by kernel_rfl) (by kernel_rfl) (by kernel_rfl) (fun _ _ _ h => h) (Or.inl ⟨by rfl, ?_⟩) (by assumption) ?_
          rotate_left
          · first | (intro w hSw; (try dsimp only at hSw); go_simp; done) | (intro w hSw; (try dsimp only at hSw); go_simp; with_reducible rfl)
          (try simp only [Act.put, List.setIfInBounds_toArray, List.set_cons_zero, List.set_cons_succ])
          refine takeH (i := 3) (oi := _) (v := ?_) rfl (by kernel_rfl) (by kernel_rfl) (by kernel_rfl) (fun _ _ _ h => h) (Or.inl ⟨by rfl, ?_⟩) (by assumption) ?_
          rotate_left
          · first | (intro w hSw; (try dsimp only at hSw); go_simp; done) | (intro w hSw; (try dsimp only at hSw); go_simp; with_reducible rfl)
          (try simp only [Act.put, List.setIfInBounds_toArray, List.set_cons_zero, List.set_cons_succ])
          refine takeH (i := 4) (oi := _) (v := ?_) rfl (by kernel_rfl) (by kernel_rfl) (by kernel_rfl) (fun _ _ _ h => h) (Or.inl ⟨by rfl, ?_⟩) (by assumption) ?_
          rotate_left
          · first | (intro w hSw; (try dsimp only at hSw); go_simp; done) | (intro w hSw; (try dsimp only at hSw); go_simp; with_reducible rfl)
          (try simp only [Act.put, List.setIfInBounds_toArray, List.set_cons_zero, List.set_cons_succ])
          refine takeH (i := 5) (oi := _) (v := ?_) rfl (by kernel_rfl) (by kernel_rfl) (by kernel_rfl) (fun _ _ _ h => h) (Or.inl ⟨by rfl, ?_⟩) (by assumption) ?_
          rotate_left
          · first | (intro w hSw; (try dsimp only at hSw); go_simp; done) | (intro w hSw; (try dsimp only at hSw); go_simp; with_reducible rfl)
          (try simp only [Act.put, List.setIfInBounds_toArray, List.set_cons_zero, List.set_cons_succ])
          refine takeH (i := 6) (oi := _) (v := ?_) rfl (by kernel_rfl) (by kernel_rfl) (by kernel_rfl) (fun _ _ _ h => h) (Or.inl ⟨by rfl, ?_⟩) (by assumption) ?_
          rotate_left
          · first | (intro w hSw; (try dsimp only at hSw); go_simp; done) | (intro w hSw; (try dsimp only at hSw); go_simp; with_reducible rfl)
          (try simp only [Act.put, List.setIfInBounds_toArray, List.set_cons_zero, List.set_cons_succ])
          refine takeH (i := 7) (oi := _) (v := ?_) rfl (by kernel_rfl) (by kernel_rfl) (by kernel_rfl) (fun _ _ _ h => h) (Or.inl ⟨by rfl, ?_⟩) (by assumption) ?_
          rotate_left
          · first | (intro w hSw; (try dsimp only at hSw); go_simp; done) | (intro w hSw; (try dsimp only at hSw); go_simp; with_reducible rfl)
          (try simp only [Act.put, List.setIfInBounds_toArray, List.set_cons_zero, List.set_cons_succ])
          refine takeH (i := 8) (oi := _) (v := ?_) rfl (by kernel_rfl) (by kernel_rfl) (by kernel_rfl) (fun _ _ _ h => h) (Or.inl ⟨by rfl, ?_⟩) (by assumption) ?_
          rotate_left
          · first | (intro w hSw; (try dsimp only at hSw); go_simp; done) | (intro w hSw; (try dsimp only at hSw); go_simp; with_reducible rfl)
          (try simp only [Act.put, List.setIfInBounds_toArray, List.set_cons_zero, List.set_cons_succ])
          refine takeH (i := 9) (oi := _) (v := ?_) rfl (by kernel_rfl) (by kernel_rfl) (by kernel_rfl) (fun _ _ _ h => h) (Or.inl ⟨by rfl, ?_⟩) (by assumption) ?_
          rotate_left
          · first | (intro w hSw; (try dsimp only at hSw); go_simp; done) | (intro w hSw; (try dsimp only at hSw); go_simp; with_reducible rfl)
          (try simp only [Act.put, List.setIfInBounds_toArray, List.set_cons_zero, List.set_cons_succ])
          refine takeH (i := 10) (oi := _) (v := ?_) rfl (by kernel_rfl) (by kernel_rfl) (by kernel_rfl) (fun _ _ _ h => h) (Or.inl ⟨by rfl, ?_⟩) (by assumption) ?_
          rotate_left
          · first | (intro w hSw; (try dsimp only at hSw); go_simp; done) | (intro w hSw; (try dsimp only at hSw); go_simp; with_reducible rfl)
          (try simp only [Act.put, List.setIfInBounds_toArray, List.set_cons_zero, List.set_cons_succ])
          refine takeH (i := 11) (oi := _) (v := ?_) rfl (by kernel_rfl) (by kernel_rfl) (by kernel_rfl) (fun _ _ _ h => h) (Or.inl ⟨by rfl, ?_⟩) (by assumption) ?_
          rotate_left
          · first | (intro w hSw; (try dsimp only at hSw); go_simp; done) | (intro w hSw; (try dsimp only at hSw); go_simp; with_reducible rfl)
          (try simp only [Act.put, List.setIfInBounds_toArray, List.set_cons_zero, List.set_cons_succ])
          refine takeH (i := 12) (oi := _) (v := ?_) rfl (by kernel_rfl) (by kernel_rfl) (by kernel_rfl) (fun _ _ _ h => h) (Or.inl ⟨by rfl, ?_⟩) (by assumption) ?_
          rotate_left
          · first | (intro w hSw; (try dsimp only at hSw); go_simp; done) | (intro w hSw; (try dsimp only at hSw); go_simp; with_reducible rfl)
          (try simp only [Act.put, List.setIfInBounds_toArray, List.set_cons_zero, List.set_cons_succ])
          refine takeH (i := 13) (oi := _) (v := ?_) rfl (by kernel_rfl) (by kernel_rfl) (by kernel_rfl) (fun _ _ _ h => h) (Or.inl ⟨by rfl, ?_⟩) (by assumption) ?_
          rotate_left
          · first | (intro w hSw; (try dsimp only at hSw); go_simp; done) | (intro w hSw; (try dsimp only at hSw); go_simp; with_reducible rfl)
          (try simp only [Act.put, List.setIfInBounds_toArray, List.set_cons_zero, List.set_cons_succ])
          refine takeH (i := 14) (oi := _) (v := ?_) rfl (by kernel_rfl) (by kernel_rfl) (by kernel_rfl) (fun _ _ _ h => h) (Or.inl ⟨by rfl, ?_⟩) (by assumption) ?_
          rotate_left
          · first | (intro w hSw; (try dsimp only at hSw); go_simp; done) | (intro w hSw; (try dsimp only at hSw); go_simp; with_reducible rfl)
          (try simp only [Act.put, List.setIfInBounds_toArray, List.set_cons_zero, List.set_cons_succ])
          refine takeH (i := 15) (oi := _) (v := ?_) rfl (by kernel_rfl) (by kernel_rfl) (by kernel_rfl) (fun _ _ _ h => h) (Or.inl ⟨by rfl, ?_⟩) (by assumption) ?_
          rotate_left
          · first | (intro w hSw; (try dsimp only at hSw); go_simp; done) | (intro w hSw; (try dsimp only at hSw); go_simp; with_reducible rfl)
          (try simp only [Act.put, List.setIfInBounds_toArray, List.set_cons_zero, List.set_cons_succ])
          refine wpAnyH_ready (rs := [16]) (by kernel_rfl) (by simp) ?_
          refine consH rfl (fun Kq hKq => ?_)
          go_simp
          (go_at_call 99; refine (HA.out _).mono ?_; rintro e w9 ⟨rfl, b9⟩
           have b92 := (Below.refl wa.heap.size wa).drew.trans b9
           have hR9 := HZ.out.below b92
           have q3 := hR9.c0
           have q4 := hR9.c1
           have q5 := hR9.f0
           have q6 := hR9.f1
           have HR : Hid (Pair ((w9.setCell ⟨G, 0, none⟩ (.int .i64 r1)).setCell ⟨G, 1, none⟩ (.int .i64 r2)) G (.int .i64 r1) (.int .i64 r2) ∧ Below G wq ((w9.setCell ⟨G, 0, none⟩ (.int .i64 r1)).setCell ⟨G, 1, none⟩ (.int .i64 r2))) := Lib.hid ⟨(hR9.sto0 _).sto1 _, (((HW.out.trans (b92.mono (by rw [← hG0]; exact HW.out.size)))).setCell (Nat.le_refl _) _).setCell (Nat.le_refl _) _⟩
           have hSS := And.intro (And.intro (And.intro (cell_up b92 g5) (cell_up b92 hcp)) (And.intro (cell_up b92 g1) (cell_up b92 g2))) (And.intro (cell_up b92 g3) (cell_up b92 g4)))
          refine hKq.out _ _ ?_ (fun hHeld1 => ?_)
          · (try dsimp only); first | assumption | exact ⟨⟨⟨g5, hcp⟩, g1, g2⟩, g3, g4⟩ | exact ⟨⟨⟨cell_far (cell_far hSS.1.1.1 N1.out.1.1) N1.out.1.1, cell_far (cell_far hSS.1.1.2 N1.out.1.2) N1.out.1.2⟩, cell_far (cell_far hSS.1.2.1 N1.out.2.1) N1.out.2.1, cell_far (cell_far hSS.1.2.2 N1.out.2.1) N1.out.2.1⟩, cell_far (cell_far hSS.2.1 N1.out.2.2) N1.out.2.2, cell_far (cell_far hSS.2.2 N1.out.2.2) N1.out.2.2⟩
          clear hKq Kq
          (try simp only [Act.put, List.setIfInBounds_toArray, List.set_cons_zero, List.set_cons_succ])
          clear hHeld0
          refine wpAnyH_ready (rs := [17]) (by kernel_rfl) (by simp) ?_
          refine consH rfl (fun Kq hKq => ?_)
          go_simp
          refine hKq.out _ _ ?_ (fun hHeld2 => ?_)
          · (try dsimp only); first | assumption | exact ⟨⟨⟨g5, hcp⟩, g1, g2⟩, g3, g4⟩ | exact ⟨⟨⟨cell_far (cell_far hSS.1.1.1 N1.out.1.1) N1.out.1.1, cell_far (cell_far hSS.1.1.2 N1.out.1.2) N1.out.1.2⟩, cell_far (cell_far hSS.1.2.1 N1.out.2.1) N1.out.2.1, cell_far (cell_far hSS.1.2.2 N1.out.2.1) N1.out.2.1⟩, cell_far (cell_far hSS.2.1 N1.out.2.2) N1.out.2.2, cell_far (cell_far hSS.2.2 N1.out.2.2) N1.out.2.2⟩
          clear hKq Kq
          (try simp only [Act.put, List.setIfInBounds_toArray, List.set_cons_zero, List.set_cons_succ])
          clear hHeld1
          refine wpAnyH_done (by kernel_rfl) ?_ _
          refine NoPanic.normal ?_
          go_wp2_with fail
          go_meet
          case rel => exact ⟨rfl, HR.out.1, HR.out.2⟩
      case rest =>
      obtain ⟨rfl, hPG, hbw⟩ := hcut
      obtain ⟨wd, hwd⟩ : ∃ z, z = wc := ⟨_, rfl⟩
      rw [← hwd] at hPG hbw ⊢
      have hbc : Below wq.heap.size wq wd := by rw [hG0]; exact hbw
      have HGd := Lib.hid (HG.out.below hbc)
      have HPq0 : Pair wq w.heap.size (.slice aP nP cP) (.slice aW nW cW) := HPq.out
      have HPd := Lib.hid (HPq0.below hbc)
      have HBd := Lib.hid (HBq.out.trans (hbc.mono HBq.out.size))
      have HPG := Lib.hid hPG
      have hGd : G < wd.heap.size := hPG.lt
      have hkU : 1 ≤ x → FrG (kn1 ps ws l (par ps x)) (kn2 ps ws l (par ps x)) := fun h1 => HFr.out _ ((HTr.out.toPa.upN (x := x) h1 hxp).2)
      have Hkb := Lib.hid (kn_bd Hpays.out hxp hkU)
      have Hkf := Lib.hid (kn_frac Hpays.out hxp hkU)
      have Hff := Lib.hid (fa_frac (ps := ps) (ws := ws) (l := l) (x := x) Hkb.out.2.1)
      have Hkk : Hid (okA ps ws l x = true → FrG (kn1 ps ws l x) (kn2 ps ws l x)) := Lib.hid fun h1 => kn_frg Hpays.out hxp h1 hkU
      clear hwd hPG hbw hbc HPq0 hkU HG HG1 HP1 HB1 HZ HW HPq HBq
      go_upto_region 11 with fail
      go_cut [12] from 50 to 61 (fun v12 wc => (∃ g, v12 = .pointer (some ⟨g, 0, none⟩) ∧ wd.heap.size ≤ g ∧ Pair wc g (.int .i64 (fa1 ps ws l x)) (.int .i64 (fa2 ps ws l x))) ∧ Below wd.heap.size wd wc)
      case first => as_aux_lemma =>
        obtain ⟨bl, ol, rfl, hbl, hcl⟩ := HL.out.at2 (i := x) HBd.out (by omega)
        have g1 := HPG.out.c0
        have g2 := HPG.out.c1
        have hpb := Hpp.out x
        have hpk := pk_bd hpb Hkb.out.2
        have hkb := Hkb.out
        have hfe := adN_neg (nth l x) (kn1 ps ws l x) (kn2 ps ws l x)
        have HA : Hid (∀ W : World, Calls Try.prog 99 #[.agg #[.int .i64 (nth l x), .int .i64 1], .agg #[.int .i64 (-(kn1 ps ws l x)), .int .i64 (kn2 ps ws l x)]] W fun e w' => e = .returned (.agg #[.int .i64 (fa1 ps ws l x), .int .i64 (fa2 ps ws l x)]) ∧ Below W.heap.size W w') := Lib.hid fun W => by
          unfold fa1 fa2
          rw [← hfe.1, ← hfe.2]
          exact spec_l2Add _ _ _ _ W (by omega) (by omega) (by omega) (by omega) (by omega)
        have n1 : bl ≠ wd.heap.size := by have := HBd.out.size; omega
        have n2 : G ≠ wd.heap.size := by omega
        have N1 := Lib.hid (And.intro n1 n2)
        generalize kn1 ps ws l x = k1 at *
        generalize kn2 ps ws l x = k2 at *
        generalize fa1 ps ws l x = r1 at *
        generalize fa2 ps ws l x = r2 at *
        generalize nth l x = p at *
        have j1 : (0 : Int) ≤ (x : Int) := by omega
        have j2 : IntKind.i64.wrap (-k1) = -k1 := IntWalk.i64_in _ (by omega)
        clear hpb hpk hkb hfe n1 n2
        go_wp2_with fail
        refine wp_region_noPanic ?_
        refine wp_region_held_drew (S := (fun W' => W'.cell? ⟨bl, ol + x, none⟩ = some (.int .i64 p) ∧ W'.cell? ⟨G, 0, none⟩ = some (.int .i64 k1) ∧ W'.cell? ⟨G, 1, none⟩ = some (.int .i64 k2))) (by kernel_rfl) ?_ (fun hHeld0 => ?_)
        · (try dsimp only); first | assumption | exact ⟨hcl, g1, g2⟩ | exact ⟨cell_up (below_new w9 _) hSS.1, cell_up (below_new w9 _) hSS.2.1, cell_up (below_new w9 _) hSS.2.2⟩ | exact ⟨cell_up (below_new wd _).drew hcl, cell_up (below_new wd _).drew g1, cell_up (below_new wd _).drew g2⟩ | exact ⟨cell_far (cell_far hSS.1 N1.out.1) N1.out.1, cell_far (cell_far hSS.2.1 N1.out.2) N1.out.2, cell_far (cell_far hSS.2.2 N1.out.2) N1.out.2⟩
        refine takeH (i := 0) (oi := _) (v := ?_) rfl (by kernel_rfl) (by kernel_rfl) (by kernel_rfl) (fun _ _ _ h => h) (Or.inl ⟨by rfl, ?_⟩) (by assumption) ?_
        rotate_left
        · first | (intro w hSw; (try dsimp only at hSw); go_simp; done) | (intro w hSw; (try dsimp only at hSw); go_simp; with_reducible rfl)
        (try simp only [Act.put, List.setIfInBounds_toArray, List.set_cons_zero, List.set_cons_succ])
        refine takeH (i := 1) (oi := _) (v := ?_) rfl (by kernel_rfl) (by kernel_rfl) (by kernel_rfl) (fun _ _ _ h => h) (Or.inl ⟨by rfl, ?_⟩) (by assumption) ?_
        rotate_left
        · first | (intro w hSw; (try dsimp only at hSw); go_simp; done) | (intro w hSw; (try dsimp only at hSw); go_simp; with_reducible rfl)
        (try simp only [Act.put, List.setIfInBounds_toArray, List.set_cons_zero, List.set_cons_succ])
        refine takeH (i := 2) (oi := _) (v := ?_) rfl (by kernel_rfl) (by kernel_rfl) (by kernel_rfl) (fun _ _ _ h => h) (Or.inl ⟨by rfl, ?_⟩) (by assumption) ?_
        rotate_left
        · first | (intro w hSw; (try dsimp only at hSw); go_simp; done) | (intro w hSw; (try dsimp only at hSw); go_simp; with_reducible rfl)
        (try simp only [Act.put, List.setIfInBounds_toArray, List.set_cons_zero, List.set_cons_succ])
        refine takeH (i := 3) (oi := _) (v := ?_) rfl (by kernel_rfl) (by kernel_rfl) (by kernel_rfl) (fun _ _ _ h => h) (Or.inl ⟨by rfl, ?_⟩) (by assumption) ?_
        rotate_left
        · first | (intro w hSw; (try dsimp only at hSw); go_simp; done) | (intro w hSw; (try dsimp only at hSw); go_simp; with_reducible rfl)
        (try simp only [Act.put, List.setIfInBounds_toArray, List.set_cons_zero, List.set_cons_succ])
        refine takeH (i := 4) (oi := _) (v := ?_) rfl (by kernel_rfl) (by kernel_rfl) (by kernel_rfl) (fun _ _ _ h => h) (Or.inl ⟨by rfl, ?_⟩) (by assumption) ?_
        rotate_left
        · first | (intro w hSw; (try dsimp only at hSw); go_simp; done) | (intro w hSw; (try dsimp only at hSw); go_simp; with_reducible rfl)
        (try simp only [Act.put, List.setIfInBounds_toArray, List.set_cons_zero, List.set_cons_succ])
        refine takeH (i := 5) (oi := _) (v := ?_) rfl (by kernel_rfl) (by kernel_rfl) (by kernel_rfl) (fun _ _ _ h => h) (Or.inl ⟨by rfl, ?_⟩) (by assumption) ?_
        rotate_left
        · first | (intro w hSw; (try dsimp only at hSw); go_simp; done) | (intro w hSw; (try dsimp only at hSw); go_simp; with_reducible rfl)
        (try simp only [Act.put, List.setIfInBounds_toArray, List.set_cons_zero, List.set_cons_succ])
        refine takeH (i := 6) (oi := _) (v := ?_) rfl (by kernel_rfl) (by kernel_rfl) (by kernel_rfl) (fun _ _ _ h => h) (Or.inl ⟨by rfl, ?_⟩) (by assumption) ?_
        rotate_left
        · first | (intro w hSw; (try dsimp only at hSw); go_simp; done) | (intro w hSw; (try dsimp only at hSw); go_simp; with_reducible rfl)
        (try simp only [Act.put, List.setIfInBounds_toArray, List.set_cons_zero, List.set_cons_succ])
        refine takeH (i := 7) (oi := _) (v := ?_) rfl (by kernel_rfl) (by kernel_rfl) (by kernel_rfl) (fun _ _ _ h => h) (Or.inl ⟨by rfl, ?_⟩) (by assumption) ?_
        rotate_left
        · first | (intro w hSw; (try dsimp only at hSw); go_simp; done) | (intro w hSw; (try dsimp only at hSw); go_simp; with_reducible rfl)
        (try simp only [Act.put, List.setIfInBounds_toArray, List.set_cons_zero, List.set_cons_succ])
        refine takeH (i := 8) (oi := _) (v := ?_) rfl (by kernel_rfl) (by kernel_rfl) (by kernel_rfl) (fun _ _ _ h => h) (Or.inl ⟨by rfl, ?_⟩) (by assumption) ?_
        rotate_left
        · first | (intro w hSw; (try dsimp only at hSw); go_simp; done) | (intro w hSw; (try dsimp only at hSw); go_simp; with_reducible rfl)
        (try simp only [Act.put, List.setIfInBounds_toArray, List.set_cons_zero, List.set_cons_succ])
        refine takeH (i := 9) (oi := _) (v := ?_) rfl (by kernel_rfl) (by kernel_rfl) (by kernel_rfl) (fun _ _ _ h => h) (Or.inl ⟨by rfl, ?_⟩) (by assumption) ?_
        rotate_left
        · first | (intro w hSw; (try dsimp only at hSw); go_simp; done) | (intro w hSw; (try dsimp only at hSw); go_simp; with_reducible rfl)
        (try simp only [Act.put, List.setIfInBounds_toArray, List.set_cons_zero, List.set_cons_succ])
        refine takeH (i := 10) (oi := _) (v := ?_) rfl (by kernel_rfl) (by kernel_rfl) (by kernel_rfl) (fun _ _ _ h => h) (Or.inl ⟨by rfl, ?_⟩) (by assumption) ?_
        rotate_left
        · first | (intro w hSw; (try dsimp only at hSw); go_simp; done) | (intro w hSw; (try dsimp only at hSw); go_simp; with_reducible rfl)
        (try simp only [Act.put, List.setIfInBounds_toArray, List.set_cons_zero, List.set_cons_succ])
        refine wpAnyH_ready (rs := [11, 12]) (by kernel_rfl) (by simp) ?_
        refine consM rfl (fun Kq hKq => ?_) (consH rfl (fun Kq hKq => ?_))
        · go_simp
          (go_at_call 99; refine (HA.out _).mono ?_; rintro e w9 ⟨rfl, b9⟩
           have b92 := (Below.refl wd.heap.size wd).drew.trans b9
           have hSS := And.intro (cell_up b92 hcl) (And.intro (cell_up b92 g1) (cell_up b92 g2))
           have zz := Pair.new w9 (.int .i64 0) (.int .i64 0) 48
           have zz0 := zz.c0
           have zz1 := zz.c1
           have zz2 := zz.f0
           have zz3 := zz.f1)
          refine hKq.out _ _ ?_ (fun hHeld1 => ?_)
          · (try dsimp only); first | assumption | exact ⟨hcl, g1, g2⟩ | exact ⟨cell_up (below_new w9 _) hSS.1, cell_up (below_new w9 _) hSS.2.1, cell_up (below_new w9 _) hSS.2.2⟩ | exact ⟨cell_up (below_new wd _).drew hcl, cell_up (below_new wd _).drew g1, cell_up (below_new wd _).drew g2⟩ | exact ⟨cell_far (cell_far hSS.1 N1.out.1) N1.out.1, cell_far (cell_far hSS.2.1 N1.out.2) N1.out.2, cell_far (cell_far hSS.2.2 N1.out.2) N1.out.2⟩
          clear hKq Kq
          (try simp only [Act.put, List.setIfInBounds_toArray, List.set_cons_zero, List.set_cons_succ])
          clear hHeld0
          refine wpAnyH_ready (rs := [12]) (by kernel_rfl) (by simp) ?_
          refine consH rfl (fun Kq hKq => ?_)
          go_simp
          refine hKq.out _ _ ?_ (fun hHeld2 => ?_)
          · (try dsimp only); first | assumption | exact ⟨hcl, g1, g2⟩ | exact ⟨cell_up (below_new w9 _) hSS.1, cell_up (below_new w9 _) hSS.2.1, cell_up (below_new w9 _) hSS.2.2⟩ | exact ⟨cell_up (below_new wd _).drew hcl, cell_up (below_new wd _).drew g1, cell_up (below_new wd _).drew g2⟩ | exact ⟨cell_far (cell_far hSS.1 N1.out.1) N1.out.1, cell_far (cell_far hSS.2.1 N1.out.2) N1.out.2, cell_far (cell_far hSS.2.2 N1.out.2) N1.out.2⟩
          clear hKq Kq
          (try simp only [Act.put, List.setIfInBounds_toArray, List.set_cons_zero, List.set_cons_succ])
          clear hHeld1
          refine wpAnyH_ready (rs := [13]) (by kernel_rfl) (by simp) ?_
          refine consH rfl (fun Kq hKq => ?_)
          go_simp
          refine hKq.out _ _ ?_ (fun hHeld3 => ?_)
          · (try dsimp only); first | assumption | exact ⟨hcl, g1, g2⟩ | exact ⟨cell_up (below_new w9 _) hSS.1, cell_up (below_new w9 _) hSS.2.1, cell_up (below_new w9 _) hSS.2.2⟩ | exact ⟨cell_up (below_new wd _).drew hcl, cell_up (below_new wd _).drew g1, cell_up (below_new wd _).drew g2⟩ | exact ⟨cell_far (cell_far hSS.1 N1.out.1) N1.out.1, cell_far (cell_far hSS.2.1 N1.out.2) N1.out.2, cell_far (cell_far hSS.2.2 N1.out.2) N1.out.2⟩
          clear hKq Kq
          (try simp only [Act.put, List.setIfInBounds_toArray, List.set_cons_zero, List.set_cons_succ])
          clear hHeld2
          refine wpAnyH_done (by kernel_rfl) ?_ _
          refine NoPanic.normal ?_
          go_wp2_with fail
          go_meet
          case rel => exact ⟨⟨_, rfl, b92.size, Pair.new w9 _ _ _⟩, b92.trans ((below_new w9 _).mono b92.size)⟩
        · go_simp
          have HN := (Pair.new wd (.int .i64 0) (.int .i64 0) 48).drew
          refine hKq.out _ _ ?_ (fun hHeld1 => ?_)
          · (try dsimp only); first | assumption | exact ⟨hcl, g1, g2⟩ | exact ⟨cell_up (below_new w9 _) hSS.1, cell_up (below_new w9 _) hSS.2.1, cell_up (below_new w9 _) hSS.2.2⟩ | exact ⟨cell_up (below_new wd _).drew hcl, cell_up (below_new wd _).drew g1, cell_up (below_new wd _).drew g2⟩ | exact ⟨cell_far (cell_far hSS.1 N1.out.1) N1.out.1, cell_far (cell_far hSS.2.1 N1.out.2) N1.out.2, cell_far (cell_far hSS.2.2 N1.out.2) N1.out.2⟩
          clear hKq Kq
          (try simp only [Act.put, List.setIfInBounds_toArray, List.set_cons_zero, List.set_cons_succ])
          clear hHeld0
          refine wpAnyH_ready (rs := [11]) (by kernel_rfl) (by simp) ?_
          refine consH rfl (fun Kq hKq => ?_)
          go_simp
          (go_at_call 99; refine (HA.out _).mono ?_; rintro e w9 ⟨rfl, b9⟩
           have b92 := ((below_new wd (.cells #[.int .i64 0, .int .i64 0] 48)).drew).trans (b9.mono (by simp))
           have hSS := And.intro (cell_up b92 hcl) (And.intro (cell_up b92 g1) (cell_up b92 g2))
           have zz := HN.below b9
           have zz0 := zz.c0
           have zz1 := zz.c1
           have zz2 := zz.f0
           have zz3 := zz.f1)
          refine hKq.out _ _ ?_ (fun hHeld2 => ?_)
          · (try dsimp only); first | assumption | exact ⟨hcl, g1, g2⟩ | exact ⟨cell_up (below_new w9 _) hSS.1, cell_up (below_new w9 _) hSS.2.1, cell_up (below_new w9 _) hSS.2.2⟩ | exact ⟨cell_up (below_new wd _).drew hcl, cell_up (below_new wd _).drew g1, cell_up (below_new wd _).drew g2⟩ | exact ⟨cell_far (cell_far hSS.1 N1.out.1) N1.out.1, cell_far (cell_far hSS.2.1 N1.out.2) N1.out.2, cell_far (cell_far hSS.2.2 N1.out.2) N1.out.2⟩
          clear hKq Kq
          (try simp only [Act.put, List.setIfInBounds_toArray, List.set_cons_zero, List.set_cons_succ])
          clear hHeld1
          refine wpAnyH_ready (rs := [13]) (by kernel_rfl) (by simp) ?_
          refine consH rfl (fun Kq hKq => ?_)
          go_simp
          refine hKq.out _ _ ?_ (fun hHeld3 => ?_)
          · (try dsimp only); first | assumption | exact ⟨hcl, g1, g2⟩ | exact ⟨cell_up (below_new w9 _) hSS.1, cell_up (below_new w9 _) hSS.2.1, cell_up (below_new w9 _) hSS.2.2⟩ | exact ⟨cell_up (below_new wd _).drew hcl, cell_up (below_new wd _).drew g1, cell_up (below_new wd _).drew g2⟩ | exact ⟨cell_far (cell_far hSS.1 N1.out.1) N1.out.1, cell_far (cell_far hSS.2.1 N1.out.2) N1.out.2, cell_far (cell_far hSS.2.2 N1.out.2) N1.out.2⟩
          clear hKq Kq
          (try simp only [Act.put, List.setIfInBounds_toArray, List.set_cons_zero, List.set_cons_succ])
          clear hHeld2
          refine wpAnyH_done (by kernel_rfl) ?_ _
          refine NoPanic.normal ?_
          go_wp2_with fail
          go_meet
          case rel => exact ⟨⟨_, rfl, Nat.le_refl _, (zz.sto0 _).sto1 _⟩, (b92.setCell (Nat.le_refl _) _).setCell (Nat.le_refl _) _⟩
      case rest =>
      obtain ⟨⟨g, rfl, hgg, hPF⟩, hbe⟩ := hcut
      obtain ⟨we, hwe⟩ : ∃ z, z = wc := ⟨_, rfl⟩
      rw [← hwe] at hPF hbe ⊢
      have HGe := Lib.hid (HGd.out.below hbe)
      have HPe := Lib.hid (HPd.out.below hbe)
      have HBe := Lib.hid (HBd.out.trans (hbe.mono HBd.out.size))
      have HPGe := Lib.hid (HPG.out.below hbe)
      have HPF := Lib.hid hPF
      have hkb8 : ∀ q, u8.ownBlock = some q → q < wd.heap.size := fun q hq => (HGd.out.k.lt q hq).2
      have hkb7 : ∀ q, u7.ownBlock = some q → q < wd.heap.size := fun q hq => (HGd.out.f.lt q hq).2
      have Hk8 := Lib.hid hkb8
      have Hk7 := Lib.hid hkb7
      clear hwe hPF hbe HGd HPd HBd HPG hkb8 hkb7
      have s0 := HPGe.out.c0
      have s1 := HPGe.out.c1
      go_wp2_with fail
      refine (spec_l2Frac _ _ _).mono ?_
      rintro e wf ⟨rfl, bf⟩
      rw [Hkf.out]
      have hGf := HGe.out.below bf
      have HPf := Lib.hid (HPe.out.below bf)
      have hBf := HBe.out.trans (bf.mono HBe.out.size)
      have HPGf := Lib.hid (HPGe.out.below bf)
      have HPFf := Lib.hid (HPF.out.below bf)
      have HGf := Lib.hid hGf
      clear s0 s1 bf hGf HGe HPe HBe HPGe HPF
      cases hA : okA ps ws l x
      · have Hno := Lib.hid (db_no2 hxp (by rw [hA]; rfl))
        have oe := Fr.own_nil0 (wf.alloc (.cells #[] 48))
        rw [show (wf.alloc (.cells #[] 48)).heap.size = wf.heap.size + 1 by simp] at oe
        have OEwf := Lib.hid oe
        clear oe
        go_wp2_with fail
        go_ret3
        exact ⟨_, _, by rw [Hno.out]; rfl, by rw [(db_no Hno.out).1]; exact ((Fr.own_nil0 wf).below (below_new _ _)).mono (hBf.size), by rw [(db_no Hno.out).2]; exact OEwf.out.mono (Nat.le_trans hBf.size (Nat.le_succ _)), (hBf.alloc hBf.size _).alloc (Nat.le_trans hBf.size (below_new wf _).size) _⟩
      have HA := Lib.hid hA
      clear hA
      have s0 := HPFf.out.c0
      have s1 := HPFf.out.c1
      go_wp2_with fail
      refine (spec_l2Frac _ _ _).mono ?_
      rintro e wh ⟨rfl, bh⟩
      rw [Hff.out]
      have hGh := HGf.out.below bh
      have HPh := Lib.hid (HPf.out.below bh)
      have hBh := hBf.trans (bh.mono hBf.size)
      have HPGh := Lib.hid (HPGf.out.below bh)
      have HPFh := Lib.hid (HPFf.out.below bh)
      have HGh := Lib.hid hGh
      clear s0 s1 bh hGh HGf HPf hBf HPGf HPFf
      cases hB : okB ps ws l x
      · have HBo := Lib.hid hB
        have Hno := Lib.hid (db_no2 hxp (by rw [HA.out, hB]; rfl))
        have oe := Fr.own_nil0 (wh.alloc (.cells #[] 48))
        rw [show (wh.alloc (.cells #[] 48)).heap.size = wh.heap.size + 1 by simp] at oe
        have OEwh := Lib.hid oe
        clear oe
        go_wp2_with fail
        go_ret3
        exact ⟨_, _, by rw [Hno.out]; rfl, by rw [(db_no Hno.out).1]; exact ((Fr.own_nil0 wh).below (below_new _ _)).mono (hBh.size), by rw [(db_no Hno.out).2]; exact OEwh.out.mono (Nat.le_trans hBh.size (Nat.le_succ _)), (hBh.alloc hBh.size _).alloc (Nat.le_trans hBh.size (below_new wh _).size) _⟩
      have HBo := Lib.hid hB
      clear hB
      have s0 := HPGh.out.c0
      have s1 := HPGh.out.c1
      have hsz : w.heap.size + 1 ≤ wh.heap.size := HPh.out.lt
      have hkl := knL_length ps ws l x
      have hfl := faL_length ps ws l x
      go_upto_region 15 with (at_builtin; refine Fr.wp_push2 _ _ rfl rfl (w.heap.size + 1) _ _ rfl HGh.out.k rfl (by rw [hkl]; omega) hsz ?_; intro v' w' ho hb hm)
      rw [← knL_succ] at ho
      have HG2 := Lib.hid (HGh.out.pushK (by omega) ho hm)
      have HP2 := Lib.hid (HPh.out.up hb (by omega))
      have HB2 := Lib.hid (hBh.trans (hb.mono (show w.heap.size ≤ w.heap.size + 1 by omega)))
      have HPF2 := Lib.hid (pair_moved HPFh.out hm (fun e => by have := Hk8.out _ e; omega))
      have hsz2 : w.heap.size + 1 ≤ w'.heap.size := HP2.out.lt
      obtain ⟨wi, hwi⟩ : ∃ z, z = w' := ⟨_, rfl⟩
      rw [← hwi] at HG2 HP2 HB2 HPF2 hsz2 ⊢
      clear s0 s1 ho hb hm hwi HGh HPh hBh HPGh HPFh
      have s0 := HPF2.out.c0
      have s1 := HPF2.out.c1
      go_wp2_with (at_builtin; refine Fr.wp_push2 _ _ rfl rfl (w.heap.size + 1) _ _ rfl HG2.out.f rfl (by rw [hfl]; omega) hsz2 ?_; intro v' w' ho hb hm)
      rw [← faL_succ] at ho
      have HG3 := Lib.hid (HG2.out.pushF (by omega) ho hm)
      have HP3 := Lib.hid (HP2.out.up hb (by omega))
      have HB3 := Lib.hid (HB2.out.trans (hb.mono (show w.heap.size ≤ w.heap.size + 1 by omega)))
      clear s0 s1 ho hb hm HG2 HP2 HB2 HPF2
      go_roundw
      case rel => exact ⟨x + 1, by omega, by go_num, fun y hy => by
        by_cases e : y = x
        · subst e; exact Hkk.out HA.out
        · exact HFr.out y (by omega), fun y hy => by
        by_cases e : y = x
        · subst e; exact ⟨HA.out, HBo.out⟩
        · exact HOk.out y (by omega), HG3.out, HP3.out, HB3.out⟩
      case measure => simp [intOf]; omega
    · obtain rfl : x = nP := by omega
      have Hy := Lib.hid (db_all Hpays.out (fun y hy => HOk.out y (by have := Hl.out; omega)))
      have hdy := db_yes Hy.out
      rw [Hl.out] at hdy
      have Hdy := Lib.hid hdy
      clear hdy
      go_wp2_with fail
      go_ret3
      exact ⟨_, _, by rw [Hy.out]; rfl, by rw [Hdy.out.1]; exact HG.out.f.mono (Nat.le_succ _), by rw [Hdy.out.2]; exact HG.out.k.mono (Nat.le_succ _), HB.out⟩
end Go.Proofs.Ytnbomleieianoaa
