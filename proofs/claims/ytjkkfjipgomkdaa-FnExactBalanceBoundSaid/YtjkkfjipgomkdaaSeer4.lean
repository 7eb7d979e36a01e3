/- Contracts: the bound of a list, what a seer has, by the reference. -/
import Derived.Test.YtjkkfjipgomkdaaSeer3
import Derived.Test.YtjkkfjipgomkdaaWay
namespace Go.Proofs.Ytjkkfjipgomkdaa
open Go.RowKit

/-- The values of the ends. -/
def grL (ps pay num : List Int) : List Int := (ends ps).map fun e => bdV ps pay num e.toNat
theorem grL_length (ps pay num : List Int) : (grL ps pay num).length = (ends ps).length := by simp [grL]
theorem nth_grL {ps pay num : List Int} {i e : Nat} (hi : i < (ends ps).length) (he : nth (ends ps) i = (e : Int)) : nth (grL ps pay num) i = bdV ps pay num e := by
  rw [nth_lt (by rw [grL_length]; exact hi)]
  rw [nth_lt hi] at he
  simp [grL, he]
theorem grL_take {ps pay num : List Int} {i e : Nat} (hi : i < (ends ps).length) (he : nth (ends ps) i = (e : Int)) : (grL ps pay num).take (i + 1) = (grL ps pay num).take i ++ [bdV ps pay num e] := by
  rw [take_succ_nth (by rw [grL_length]; exact hi), nth_grL hi he]
theorem bdV_bd {ps pay num : List Int} (h1 : ∀ i, -999 ≤ nth pay i ∧ nth pay i ≤ 999) (h2 : ∀ i, -999 ≤ nth num i ∧ nth num i ≤ 999) (e : Nat) : -2997 ≤ bdV ps pay num e ∧ bdV ps pay num e ≤ 2997 := by
  have := bdE_bd (ps := ps) h1 h2 e
  have := h2 0
  rw [bdV]; omega
set_option maxRecDepth 100000 in
set_option maxHeartbeats 2000000 in
theorem spec_l4Bound (aP : Option Addr) (nP cP : Nat) (aW : Option Addr) (nW cW : Nat) (ps ws : List Int) (aA : Option Addr) (nA cA : Nat) (pay : List Int) (aB : Option Addr) (nB cB : Nat) (num : List Int) (w : World) (h : Tre w aP nP cP aW nW cW ps ws) (hT : Tr ps ws) (hA : Ints w aA nA pay) (hnA : nP = nA) (hB : Ints w aB nB num) (hnB : nP = nB) (h1 : ∀ i, -999 ≤ nth pay i ∧ nth pay i ≤ 999) (h2 : ∀ i, -999 ≤ nth num i ∧ nth num i ≤ 999) :
    Calls Try.prog 56 #[.agg #[.slice aP nP cP, .slice aW nW cW], .slice aA nA cA, .slice aB nB cB] w fun e w' => e = .returned (.agg #[.int .i64 (nm (bndS ps ws pay num) (nth (sums ps ws) 0)), .int .i64 (dn (bndS ps ws pay num) (nth (sums ps ws) 0))]) ∧ Below w.heap.size w w' := by
  subst hnA
  subst hnB
  have HTT := Lib.hid hT
  have hn24 := hT.n24
  have hn1 := hT.n1
  have HT := Lib.hid hT
  have hwl := hT.wl
  have hl := h.p.1
  have hlw := h.w.1
  have hpn := h.pn
  have hwn := h.wn
  have hb1 := below_new w (.cells #[.slice aP nP cP, .slice aW nW cW] 28)
  have hP1 := Lib.hid (Pair.new w (.slice aP nP cP) (.slice aW nW cW) 28)
  have H := Lib.hid h
  have Hl := Lib.hid hl
  have Hlw := Lib.hid hlw
  clear h hl hlw
  have hnW : nW ≤ nP ∧ nP ≤ nW := by have := Hlw.out; have := Hl.out; omega
  have hnP : 1 ≤ nP ∧ nP ≤ 24 := by have := Hl.out; omega
  clear hn24 hn1 hT hwl hpn hwn
  have HA := Lib.hid hA
  have HB := Lib.hid hB
  have Hb1 := Lib.hid h1
  have Hb2 := Lib.hid h2
  have hnP : 1 ≤ nP ∧ nP ≤ 24 := by have := HTT.out.n24; have := HTT.out.n1; have := Hl.out; omega
  clear hA hB h1 h2
  go_enter Try.func56, Try.ntmps56
  have hbb := hb1.trans ((below_new (w.alloc (.cells #[.slice aP nP cP, .slice aW nW cW] 28)) (.cells #[.int .i64 0, .int .i64 0] 34)).mono hb1.size)
  have hPP := Lib.hid (hP1.out.alloc (.cells #[.int .i64 0, .int .i64 0] 34))
  have hR1 := Pair.new (w.alloc (.cells #[.slice aP nP cP, .slice aW nW cW] 28)) (.int .i64 0) (.int .i64 0) 34
  rw [show (w.alloc (.cells #[.slice aP nP cP, .slice aW nW cW] 28)).heap.size = w.heap.size + 1 by simp] at hR1
  have HR1 := Lib.hid hR1
  have c0 := hPP.out.c0
  have c1 := hPP.out.c1
  clear hb1 hP1 hR1
  go_upto_region 1 with fail
  generalize ((w.alloc (.cells #[.slice aP nP cP, .slice aW nW cW] 28)).alloc (.cells #[.int .i64 0, .int .i64 0] 34)) = w2 at *
  go_wp2_with (go_at_call 87; refine (spec_l2Ends _ _ _ _ _ _ ps ws _ (H.out.below hbb) HTT.out.toPa).mono ?_; rintro e w7 ⟨v7, rfl, ho7, hb7⟩; obtain ⟨a7, c7, rfl⟩ := ho7.shape)
  have hnew := below_new w7 (.cells #[] 3)
  have hlt7 : ∀ q, (Value.slice a7 (ends ps).length c7).ownBlock = some q → q < w7.heap.size := fun q hq => (World.ownsRow.lt ho7 q hq).2
  have K7 := Lib.hid (ho7.ints.below hnew)
  have hnil := own_nil0 w7
  have HO7 := Lib.hid hnil
  have HP7 := Lib.hid ((hPP.out.below hb7).below hnew)
  have HR7 := Lib.hid ((HR1.out.below hb7).below hnew)
  have hb17 := (hbb.trans (hb7.mono hbb.size)).trans (hnew.mono (Nat.le_trans hbb.size hb7.size))
  have Hap0 : Hid (0 < (ends ps).length → Apart a7 (Value.slice (some ⟨w7.heap.size, 0, none⟩) 0 0)) := Lib.hid fun _ p hp e => by
    subst hp
    have := hlt7 _ rfl
    simp [Value.ownBlock] at e
    omega
  have hw7 : w.heap.size + 1 < w7.heap.size := (HR1.out.below hb7).lt
  have hw7' : w7.heap.size ≤ (w7.alloc (.cells #[] 3)).heap.size := by simp
  have hel : (ends ps).length ≤ 24 := by have := filt_length (endB ps) ps.length; have := Hl.out; rw [ends]; omega
  have Hen : Hid (∀ i, i < (ends ps).length → ∃ e : Nat, e < nP ∧ nth (ends ps) i = (e : Int)) := Lib.hid fun i hi => by
    obtain ⟨e, h1, h2, h3⟩ := end_nth hi
    exact ⟨e, by have := Hl.out; omega, h3⟩
  clear ho7 hb7 hnil hnew hlt7 hPP HR1 hbb c0 c1
  generalize w7.alloc (.cells #[] 3) = w8 at *
  generalize hU : w7.heap.size = U at *
  clear hU
  have Hgl : Hid (∀ i e : Nat, i < (ends ps).length → nth (ends ps) i = (e : Int) → (grL ps pay num).take (i + 1) = (grL ps pay num).take i ++ [bdV ps pay num e]) := Lib.hid fun i e h1 h2 => grL_take h1 h2
  go_loopw [8, 9] (fun v8 v9 wr => ∃ i : Nat, i ≤ (ends ps).length ∧ v9 = .int .i64 (i : Int) ∧ Own wr U v8 ((grL ps pay num).take i) ∧ Ints wr a7 (ends ps).length (ends ps) ∧ (0 < (ends ps).length → Apart a7 v8) ∧ Pair wr w.heap.size (.slice aP nP cP) (.slice aW nW cW) ∧ Pair wr (w.heap.size + 1) (.int .i64 0) (.int .i64 0) ∧ Below w.heap.size w wr ∧ U ≤ wr.heap.size) (fun _ v9 _ => (ends ps).length - (intOf v9).toNat)
  case atStart => exact ⟨0, Nat.zero_le _, rfl, by rw [List.take_zero]; exact HO7.out, K7.out, Hap0.out, HP7.out, HR7.out, hb17, hw7'⟩
  case round =>
    clear hb17 HO7 K7 Hap0 HP7 HR7 hw7'
    obtain ⟨i, hi, rfl, hou, h7, hap, hP, hR, hbel, hsz⟩ := hrel
    have HP := Lib.hid hP
    have HR := Lib.hid hR
    have K7 := Lib.hid h7
    have Hap := Lib.hid hap
    have x0 := hP.c0
    have x1 := hP.c1
    clear hP hR h7 hap
    obtain ⟨a5, c5, rfl⟩ := hou.shape
    have HO := Lib.hid hou
    clear hou
    by_cases hlt : (i : Int) < (ends ps).length
    · obtain ⟨b7, o7, rfl, hc7⟩ := K7.out.at (i := i) (Below.refl _ _) (by omega)
      obtain ⟨e, he, hei⟩ := Hen.out i (by omega)
      rw [hei] at hc7
      have HglI := Lib.hid (Hgl.out i e (by omega) hei)
      obtain ⟨wo, rfl⟩ : ∃ wo, wo = wr := ⟨_, rfl⟩
      have HcW : Hid (∀ W : World, Below w.heap.size w W → Calls Try.prog 97 #[.agg #[.slice aP nP cP, .slice aW nW cW], .int .i64 (e : Int)] W fun e' w' => ∃ v, e' = .returned v ∧ Own w' W.heap.size v (way ps e) ∧ Below W.heap.size W w') := Lib.hid fun W hW => spec_l2Way _ _ _ _ _ _ ps ws e W (H.out.below hW) HTT.out.toPa he
      have hll : ((grL ps pay num).take i).length ≤ 24 := by rw [List.length_take]; omega
      clear hei
      generalize hacc : (grL ps pay num).take i = acc at *
      clear hacc
      go_wp2_with fail
      refine wp_region_noPanic ?_
      refine wp_region_held_drew (S := fun W' => KeepR wo W' ∧ W'.cell? ⟨w.heap.size, 0, none⟩ = some (.slice aP nP cP) ∧ W'.cell? ⟨w.heap.size, 1, none⟩ = some (.slice aW nW cW) ∧ W'.cell? ⟨b7, o7 + i, none⟩ = some (.int .i64 (e : Int))) (by kernel_rfl) ?_ (fun hHeld0 => ?_)
      · (try dsimp only); first | exact keepC3 (by assumption) x0 x1 hc7 | exact keepC3 (KeepR.start _) x0 x1 hc7
      refine takeH (i := 0) (oi := _) (v := ?_) rfl (by kernel_rfl) (by kernel_rfl) (by kernel_rfl) (fun _ _ _ h => h) (Or.inl ⟨by rfl, ?_⟩) (by assumption) ?_
      rotate_left
      · first | (intro w hSw; (try dsimp only at hSw); go_simp; done) | (intro w hSw; (try dsimp only at hSw); go_simp; with_reducible rfl)
      (try simp only [Act.put, List.setIfInBounds_toArray, List.set_cons_zero, List.set_cons_succ])
      refine takeH (i := 1) (oi := _) (v := ?_) rfl (by kernel_rfl) (by kernel_rfl) (by kernel_rfl) (fun _ _ _ h => h) (Or.inl ⟨by rfl, ?_⟩) (by assumption) ?_
      rotate_left
      · first | (intro w hSw; (try dsimp only at hSw); go_simp; done) | (intro w hSw; (try dsimp only at hSw); go_simp; with_reducible rfl)
      (try simp only [Act.put, List.setIfInBounds_toArray, List.set_cons_zero, List.set_cons_succ])
      refine takeH (i := 2) (oi := _) (v := ?_) rfl (by kernel_rfl) (by kernel_rfl) (by kernel_rfl) (fun _ _ _ h => h) (Or.inl ⟨by rfl, ?_⟩) (by assumption) ?_
      rotate_left
      · first | (intro w hSw; (try dsimp only at hSw); go_simp; done) | (intro w hSw; (try dsimp only at hSw); go_simp; with_reducible rfl)
      (try simp only [Act.put, List.setIfInBounds_toArray, List.set_cons_zero, List.set_cons_succ])
      refine takeH (i := 3) (oi := _) (v := ?_) rfl (by kernel_rfl) (by kernel_rfl) (by kernel_rfl) (fun _ _ _ h => h) (Or.inl ⟨by rfl, ?_⟩) (by assumption) ?_
      rotate_left
      · first | (intro w hSw; (try dsimp only at hSw); go_simp; done) | (intro w hSw; (try dsimp only at hSw); go_simp; with_reducible rfl)
      (try simp only [Act.put, List.setIfInBounds_toArray, List.set_cons_zero, List.set_cons_succ])
      refine takeH (i := 4) (oi := _) (v := ?_) rfl (by kernel_rfl) (by kernel_rfl) (by kernel_rfl) (fun _ _ _ h => h) (Or.inl ⟨by rfl, ?_⟩) (by assumption) ?_
      rotate_left
      · first | (intro w hSw; (try dsimp only at hSw); go_simp; done) | (intro w hSw; (try dsimp only at hSw); go_simp; with_reducible rfl)
      (try simp only [Act.put, List.setIfInBounds_toArray, List.set_cons_zero, List.set_cons_succ])
      refine wpAnyH_ready (rs := [5]) (by kernel_rfl) (by simp) ?_
      refine consH rfl (fun Kq hKq => ?_)
      go_simp
      (go_at_call 97; refine (HcW.out _ (hbel.trans (Below.mono (by assumption : KeepR wo _ ∧ _).1 hbel.size))).mono ?_; rintro e' w9 ⟨v9, rfl, ho9, b9⟩; obtain ⟨a9, c9, rfl⟩ := ho9.shape; have hk9 := KeepR.next b9 (by assumption : KeepR wo _ ∧ _).1)
      refine hKq.out _ _ ?_ (fun hHeld1 => ?_)
      · (try dsimp only); first | exact keepC3 (by assumption) x0 x1 hc7 | exact keepC3 (KeepR.start _) x0 x1 hc7
      clear hKq Kq
      (try simp only [Act.put, List.setIfInBounds_toArray, List.set_cons_zero, List.set_cons_succ])
      clear hHeld0
      refine takeH (i := 6) (oi := _) (v := ?_) rfl (by kernel_rfl) (by kernel_rfl) (by kernel_rfl) (fun _ _ _ h => h) (Or.inl ⟨by rfl, ?_⟩) (by assumption) ?_
      rotate_left
      · first | (intro w hSw; (try dsimp only at hSw); go_simp; done) | (intro w hSw; (try dsimp only at hSw); go_simp; with_reducible rfl)
      (try simp only [Act.put, List.setIfInBounds_toArray, List.set_cons_zero, List.set_cons_succ])
      refine wpAnyH_done (by kernel_rfl) ?_ _
      refine NoPanic.normal ?_
      go_wp2_with fail
      have hk9' : Below wo.heap.size wo w9 := hk9
      have hb19 := hbel.trans (hk9'.mono hbel.size)
      obtain ⟨bA, oA, rfl, hcA⟩ := HA.out.at (i := 0) hb19 (by omega)
      obtain ⟨bN, oN, rfl, hcN⟩ := HB.out.at (i := 0) hb19 (by omega)
      rw [Nat.add_zero] at hcA hcN
      have ha0 := Hb1.out 0
      have hb0 := Hb2.out 0
      have K9 := Lib.hid ho9.ints
      have K7' := Lib.hid (K7.out.below hk9')
      have HP9 := Lib.hid (HP.out.below hk9')
      have HR9 := Lib.hid (HR.out.below hk9')
      have HO9 := Lib.hid (HO.out.below hk9')
      have hsz9 : U ≤ w9.heap.size := Nat.le_trans hsz hk9'.size
      have HA9 := Lib.hid (HA.out.below hb19)
      have HB9 := Lib.hid (HB.out.below hb19)
      have hwl := way_length HTT.out.toPa e (by have := Hl.out; omega)
      have HW : Hid (∀ k, k < (way ps e).length → ∃ y : Nat, y < nP ∧ nth (way ps e) k = (y : Int)) := Lib.hid fun k hk => by
        obtain ⟨y, h1, h2⟩ := nth_way HTT.out.toPa (x := e) (by have := Hl.out; omega) hk
        exact ⟨y, by omega, h2⟩
      have He0 : Hid (exc pay num 0 = nth pay 0 - nth num 0) := Lib.hid (by rw [exc, Int.toNat_zero])
      have HM1 : Hid (mxT (exc pay num) (way ps e) 1 = nth pay 0 - nth num 0) := Lib.hid (by rw [mxT_one (way_root HTT.out.toPa e (by have := Hl.out; omega)), He0.out])
      have HMs : Hid (∀ k, mxT (exc pay num) (way ps e) (k + 1) = max (mxT (exc pay num) (way ps e) k) (exc pay num (nth (way ps e) k))) := Lib.hid fun k => rfl
      have HMb : Hid (∀ k, -1998 ≤ mxT (exc pay num) (way ps e) k ∧ mxT (exc pay num) (way ps e) k ≤ 1998) := Lib.hid fun k => mxT_bd (exc_bd Hb1.out Hb2.out) _ k
      have Hex : Hid (∀ y : Nat, exc pay num (y : Int) = nth pay y - nth num y) := Lib.hid fun y => by rw [exc, Int.toNat_natCast]
      have HbV : Hid (bdV ps pay num e = mxT (exc pay num) (way ps e) (way ps e).length + nth num 0) := Lib.hid rfl
      have hw1 : 1 ≤ (way ps e).length ∧ (way ps e).length ≤ 24 := by omega
      clear ho9 hk9 K7 HP HR HO x0 x1 hwl hbel hsz hc7 b9
      generalize way ps e = ww at *
      generalize nth pay 0 = a0 at *
      generalize hn0 : nth num 0 = n0 at *
      have Hn0 := Lib.hid hn0
      clear hn0
      have j1 : IntKind.i64.wrap (a0 - n0) = a0 - n0 := IntWalk.i64_in _ (by omega)
      go_quiet (fail)
      go_wp2_with fail
      go_loopw [11, 12] (fun v11 v12 wr => ∃ k : Nat, 1 ≤ k ∧ k ≤ ww.length ∧ v12 = .int .i64 (k : Int) ∧ v11 = .int .i64 (mxT (exc pay num) ww k) ∧ Below w9.heap.size w9 wr) (fun _ v12 _ => ww.length - (intOf v12).toNat)
      case atStart => exact ⟨1, Nat.le_refl _, hw1.1, rfl, by rw [HM1.out], below_drewN (Below.refl _ _) _⟩
      case round =>
        obtain ⟨k, hk1, hk, rfl, rfl, hb6⟩ := hrel
        by_cases hltk : (k : Int) < ww.length
        · obtain ⟨b9, o9, rfl, hc9⟩ := K9.out.at (i := k) hb6 (by omega)
          obtain ⟨y, hy, hye⟩ := HW.out k (by omega)
          rw [hye] at hc9
          have HMk := Lib.hid (HMs.out k)
          rw [hye, Hex.out y] at HMk
          obtain ⟨b1, o1, g1, hcp⟩ := HA9.out.at (i := y) hb6 hy
          obtain ⟨b2, o2, g2, hcn⟩ := HB9.out.at (i := y) hb6 hy
          cases g1
          cases g2
          have hpy := Hb1.out y
          have hny := Hb2.out y
          clear hye
          generalize nth pay y = py at *
          generalize nth num y = ny at *
          generalize hmk : mxT (exc pay num) ww k = mk at *
          clear hmk
          have k1 : IntKind.i64.wrap (py - ny) = py - ny := IntWalk.i64_in _ (by omega)
          have k4 : (0 : Int) ≤ (y : Int) := by omega
          have k5 : (y : Int) < (nP : Int) := by omega
          have k6 : (0 : Int) ≤ (k : Int) := by omega
          have HcM : Hid (∀ W : World, Calls Try.prog 74 #[.int .i64 mk, .int .i64 (py - ny)] W fun e' w' => e' = .returned (.int .i64 (mxT (exc pay num) ww (k + 1))) ∧ W = w') := Lib.hid fun W => by
            have := spec_l1Most mk (py - ny) W
            rw [show most mk (py - ny) = mxT (exc pay num) ww (k + 1) by rw [HMk.out, most]; split <;> omega] at this
            exact this
          go_wp2_with fail
          go_region_held3 (fun W' => Below wr.heap.size wr W' ∧ W'.cell? ⟨b9, o9 + k, none⟩ = some (.int .i64 (y : Int)) ∧ W'.cell? ⟨bA, oA + y, none⟩ = some (.int .i64 py) ∧ W'.cell? ⟨bN, oN + y, none⟩ = some (.int .i64 ny))
            (first | assumption | exact ⟨(Below.refl _ _).drew, hc9, hcp, hcn⟩)
            ((go_at_call 74; refine (HcM.out _).mono ?_; rintro e' w' ⟨rfl, rfl⟩))
          go_wp2_with fail
          go_roundw
          case rel => exact ⟨k + 1, by omega, by omega, by go_num, rfl, hb6.drew⟩
          case measure => simp [intOf]; omega
        · obtain rfl : k = ww.length := by omega
          have hb16 := hb19.trans (hb6.mono hb19.size)
          have K8 := Lib.hid (K7'.out.below hb6)
          have HP8 := Lib.hid (HP9.out.below hb6)
          have HR8 := Lib.hid (HR9.out.below hb6)
          have HO8 := HO9.out.below hb6
          have hsz8 : U ≤ wr.heap.size := Nat.le_trans hsz9 hb6.size
          have hmb := HMb.out ww.length
          obtain ⟨b2, o2, g2, hcn⟩ := HB9.out.at (i := 0) hb6 (by omega)
          cases g2
          rw [Nat.add_zero, Hn0.out] at hcn
          have HbVm := Lib.hid HbV.out
          rw [HbVm.out] at HglI
          generalize mxT (exc pay num) ww ww.length = mk at *
          have k1 : IntKind.i64.wrap (mk + n0) = mk + n0 := IntWalk.i64_in _ (by omega)
          have k3 : (0 : Int) < (nP : Int) := by omega
          have HO8' := Lib.hid HO8
          clear HO8
          go_wp2_with (at_builtin; refine wp_push2 _ _ rfl rfl U _ _ rfl HO8'.out rfl (by omega) hsz8 ?_; intro v' w' ho hb hm)
          have h7' := K8.out.moved hm Hap.out
          go_roundw
          case rel => exact ⟨i + 1, by omega, by go_num, by rw [HglI.out]; exact ho, h7'.1, h7'.2, HP8.out.up hb (by omega), HR8.out.up hb (by omega), hb16.trans (hb.mono (by omega)), Nat.le_trans hsz8 hb.size⟩
          case measure => simp [intOf]; omega
    · obtain rfl : i = (ends ps).length := by omega
      have hfin : (grL ps pay num).take (ends ps).length = grL ps pay num := List.take_of_length_le (by rw [grL_length]; exact Nat.le_refl _)
      have HO2 := HO.out
      rw [hfin] at HO2 ⊢
      rw [grL_length] at HO2 ⊢
      have HI := Lib.hid HO2.ints
      have HcM : Hid (∀ W : World, Below wr.heap.size wr W → Calls Try.prog 98 #[.agg #[.slice aP nP cP, .slice aW nW cW], .slice a5 (ends ps).length c5] W fun e' w' => ∃ (gb go q : Nat), e' = .returned (.slice (some ⟨gb, go, none⟩) nP q) ∧ w'.cell? ⟨gb, go, none⟩ = some (.int .i64 (nm (bndS ps ws pay num) (nth (sums ps ws) 0))) ∧ w'.cell? ⟨gb, go + 1, none⟩ = some (.int .i64 (dn (bndS ps ws pay num) (nth (sums ps ws) 0))) ∧ Below W.heap.size W w') := Lib.hid fun W hW => (spec_l2Means _ _ _ _ _ _ ps ws _ _ _ (grL ps pay num) (bdV ps pay num) W (H.out.below (hbel.trans (hW.mono hbel.size))) HTT.out (HI.out.below hW) rfl (fun i e hi he => nth_grL hi he) (bdV_bd Hb1.out Hb2.out)).mono fun e' w' ⟨v, he, ho, hb⟩ => by
        obtain ⟨a, c, rfl⟩ := ho.shape
        have hml : (meanL ps ws (bdV ps pay num)).length = nP := by rw [meanL_length]; exact Hl.out
        rw [hml] at he ho
        obtain ⟨gb, go, rfl, _, hc⟩ := ho.ints.2 (by omega)
        obtain ⟨h1, h2⟩ := hc 0 (by omega)
        obtain ⟨r1, r2⟩ := meanL_root (ps := ps) (ws := ws) (V := bdV ps pay num) (by have := Hl.out; omega)
        rw [r1, tot_root HTT.out] at h1
        rw [r2, tot_root HTT.out] at h2
        exact ⟨gb, go, c, he, by simpa using h1, by simpa using h2, hb⟩
      generalize hgn : nm (bndS ps ws pay num) (nth (sums ps ws) 0) = gn at *
      generalize hgd : dn (bndS ps ws pay num) (nth (sums ps ws) 0) = gd at *
      have Hgn := Lib.hid hgn
      have Hgd := Lib.hid hgd
      clear hgn hgd hfin HO2
      have k3 : (0 : Int) < (nP : Int) := by omega
      have k4 : 0 < nP := by omega
      go_wp2_with (go_at_call 98; refine (HcM.out _ (Below.refl _ _)).mono ?_; rintro e' w9 ⟨gb, go, q9, rfl, z0, z1, b9⟩
                   have hb19 := hbel.trans (b9.mono hbel.size)
                   have hR9 := HR.out.below b9
                   have q3 := hR9.c0
                   have q4 := hR9.c1
                   have q5 := hR9.f0
                   have q6 := hR9.f1
                   have hr := hR9.set (.int .i64 gn) (.int .i64 gd))
      exact bodyPost_ret (v := .agg #[.int .i64 gn, .int .i64 gd]) (by simp [results, Try.results56, go_sem, hr.1, hr.2]) rfl ⟨by rw [← Hgn.out, ← Hgd.out], (hb19.setCell (by simp) _).setCell (by simp) _⟩
set_option maxRecDepth 100000 in
set_option maxHeartbeats 1000000 in
theorem spec_SeerMean (aP : Option Addr) (nP cP : Nat) (aW : Option Addr) (nW cW : Nat) (ps ws : List Int) (aL : Option Addr) (nL cL : Nat) (l : List Int) (w : World) (h : Tre w aP nP cP aW nW cW ps ws) (hL : Ints w aL nL l) (_hLc : aL = none → cL = 0) (hn : nL ≤ 1048576) :
    Calls Try.prog 22 #[.agg #[.slice aP nP cP, .slice aW nW cW], .slice aL nL cL] w fun e w' => e = .returned (.tuple #[.agg #[.int .i64 (boN (paysB ps ws l) ps ws l (zeL ps)), .int .i64 (boD (paysB ps ws l) ps ws l (zeL ps))], .bool (paysB ps ws l)]) ∧ Below w.heap.size w w' := by
  have hl := h.p.1
  have hlw := h.w.1
  have hpn := h.pn
  have hwn := h.wn
  have hb1 := below_new w (.cells #[.slice aP nP cP, .slice aW nW cW] 28)
  have hP1 := Lib.hid (Pair.new w (.slice aP nP cP) (.slice aW nW cW) 28)
  have H := Lib.hid h
  have Hl := Lib.hid hl
  have Hlw := Lib.hid hlw
  clear h hl hlw
  have HL := Lib.hid hL
  have hll := Lib.hid hL.1
  clear hL
  go_enter Try.func22, Try.ntmps22
  have hbb := hb1.trans ((below_new (w.alloc (.cells #[.slice aP nP cP, .slice aW nW cW] 28)) (.cells #[.int .i64 0, .int .i64 0] 34)).mono hb1.size)
  have hPP := Lib.hid (hP1.out.alloc (.cells #[.int .i64 0, .int .i64 0] 34))
  have hR1 := Pair.new (w.alloc (.cells #[.slice aP nP cP, .slice aW nW cW] 28)) (.int .i64 0) (.int .i64 0) 34
  rw [show (w.alloc (.cells #[.slice aP nP cP, .slice aW nW cW] 28)).heap.size = w.heap.size + 1 by simp] at hR1
  have HR1 := Lib.hid hR1
  have c0 := hPP.out.c0
  have c1 := hPP.out.c1
  clear hb1 hP1 hR1
  go_wp2_with fail
  generalize ((w.alloc (.cells #[.slice aP nP cP, .slice aW nW cW] 28)).alloc (.cells #[.int .i64 0, .int .i64 0] 34)) = w2 at *
  refine (spec_l4Pays _ _ _ _ _ _ ps ws _ _ _ l _ (H.out.below hbb) (HL.out.below hbb) hn).mono ?_
  rintro e w4 ⟨rfl, hb4⟩
  have HP4 := Lib.hid (hPP.out.below hb4)
  have HR4 := Lib.hid (HR1.out.below hb4)
  have e0 := HP4.out.c0
  have e1 := HP4.out.c1
  have hb14 := hbb.trans (hb4.mono hbb.size)
  clear c0 c1 hb4 hPP HR1 hbb
  cases hT : paysB ps ws l
  · have Hv := Lib.hid hT
    clear hT
    have q3 := HR4.out.c0
    have q4 := HR4.out.c1
    have q5 := HR4.out.f0
    have q6 := HR4.out.f1
    have hr := HR4.out.set (.int .i64 0) (.int .i64 0)
    go_wp2_with fail
    exact bodyPost_ret (v := .tuple #[.agg #[.int .i64 0, .int .i64 0], .bool false]) (by simp [results, Try.results22, go_sem, hr.1, hr.2]) rfl ⟨by rw [Hv.out]; rfl, (hb14.setCell (by simp) _).setCell (by simp) _⟩
  have Hc := Lib.hid hT
  obtain ⟨hTr, _, _, hleq, hlb⟩ := paysB_t hT
  have hnL : nP = nL := by have := hll.out; have := Hl.out; omega
  have HTr := Lib.hid hTr
  have Hlb := Lib.hid hlb
  have hn24 : nP ≤ 24 := by have := hTr.n24; have := Hl.out; omega
  clear hT hTr hleq hlb hn hpn hwn
  subst hnL
  have hmk := mk_ints nP (by omega)
  have hmx : nP ≤ maxLen := by have : maxLen = 9223372036854775807 := rfl; omega
  have HcB : Hid (∀ (W : World) (ag : Option Addr) (cg : Nat), Below w.heap.size w W → Ints W ag nP (zeL ps) → Calls Try.prog 56 #[.agg #[.slice aP nP cP, .slice aW nW cW], .slice aL nP cL, .slice ag nP cg] W fun e w' => e = .returned (.agg #[.int .i64 (nm (bndS ps ws l (zeL ps)) (nth (sums ps ws) 0)), .int .i64 (dn (bndS ps ws l (zeL ps)) (nth (sums ps ws) 0))]) ∧ Below W.heap.size W w') := Lib.hid fun W ag cg hW hI => spec_l4Bound _ _ _ _ _ _ ps ws _ _ _ l _ _ _ (zeL ps) W (H.out.below hW) HTr.out (HL.out.below hW) rfl hI rfl Hlb.out (nth_zeL ps)
  have HZ : Hid (∀ W : World, Ints (W.alloc (.cells (zv nP) 3)) (some ⟨W.heap.size, 0, none⟩) nP (zeL ps)) := Lib.hid fun W => by
    have := (Own.zeros W W.heap.size nP (Nat.le_refl _) hmx).ints
    rw [zeL, Hl.out]
    exact this
  generalize hgn : nm (bndS ps ws l (zeL ps)) (nth (sums ps ws) 0) = gn at *
  generalize hgd : dn (bndS ps ws l (zeL ps)) (nth (sums ps ws) 0) = gd at *
  have Hgn := Lib.hid hgn
  have Hgd := Lib.hid hgd
  clear hgn hgd
  have hnew := (below_new w4 (.cells (zv nP) 3)).drew
  have hb15 := hb14.trans (hnew.mono hb14.size)
  have HR5 := Lib.hid (HR4.out.below hnew)
  have HP5 := Lib.hid (HP4.out.below hnew)
  have hz := (HZ.out w4).below (Below.refl _ _).drew
  have hS0 : Below w.heap.size w w4.drew ∧ w4.drew.cell? ⟨w.heap.size, 0, none⟩ = some (.slice aP nP cP) ∧ w4.drew.cell? ⟨w.heap.size, 1, none⟩ = some (.slice aW nW cW) := ⟨hb14.drew, e0, e1⟩
  have hSz : Below w.heap.size w (w4.alloc (.cells (zv nP) 3)).drew ∧ (w4.alloc (.cells (zv nP) 3)).drew.cell? ⟨w.heap.size, 0, none⟩ = some (.slice aP nP cP) ∧ (w4.alloc (.cells (zv nP) 3)).drew.cell? ⟨w.heap.size, 1, none⟩ = some (.slice aW nW cW) := ⟨hb15, HP5.out.c0, HP5.out.c1⟩
  go_wp2_with fail
  refine wp_region_noPanic ?_
  refine wp_region_held_drew (S := fun W' => Below w.heap.size w W' ∧ W'.cell? ⟨w.heap.size, 0, none⟩ = some (.slice aP nP cP) ∧ W'.cell? ⟨w.heap.size, 1, none⟩ = some (.slice aW nW cW)) (by kernel_rfl) ?_ (fun hHeld0 => ?_)
  · (try dsimp only); first | exact hS0 | exact hSz | exact hS9 | exact ⟨(hb19.setCell (by simp) _).setCell (by simp) _, cell_far (cell_far hP9.c0 (by simp)) (by simp), cell_far (cell_far hP9.c1 (by simp)) (by simp)⟩
  refine takeH (i := 0) (oi := _) (v := ?_) rfl (by kernel_rfl) (by kernel_rfl) (by kernel_rfl) (fun _ _ _ h => h) (Or.inl ⟨by rfl, ?_⟩) (by assumption) ?_
  rotate_left
  · first | (intro w hSw; (try dsimp only at hSw); go_simp; done) | (intro w hSw; (try dsimp only at hSw); go_simp; with_reducible rfl)
  (try simp only [Act.put, List.setIfInBounds_toArray, List.set_cons_zero, List.set_cons_succ])
  refine takeH (i := 1) (oi := _) (v := ?_) rfl (by kernel_rfl) (by kernel_rfl) (by kernel_rfl) (fun _ _ _ h => h) (Or.inl ⟨by rfl, ?_⟩) (by assumption) ?_
  rotate_left
  · first | (intro w hSw; (try dsimp only at hSw); go_simp; done) | (intro w hSw; (try dsimp only at hSw); go_simp; with_reducible rfl)
  (try simp only [Act.put, List.setIfInBounds_toArray, List.set_cons_zero, List.set_cons_succ])
  refine takeH (i := 2) (oi := _) (v := ?_) rfl (by kernel_rfl) (by kernel_rfl) (by kernel_rfl) (fun _ _ _ h => h) (Or.inl ⟨by rfl, ?_⟩) (by assumption) ?_
  rotate_left
  · first | (intro w hSw; (try dsimp only at hSw); go_simp; done) | (intro w hSw; (try dsimp only at hSw); go_simp; with_reducible rfl)
  (try simp only [Act.put, List.setIfInBounds_toArray, List.set_cons_zero, List.set_cons_succ])
  refine takeH (i := 3) (oi := _) (v := ?_) rfl (by kernel_rfl) (by kernel_rfl) (by kernel_rfl) (fun _ _ _ h => h) (Or.inl ⟨by rfl, ?_⟩) (by assumption) ?_
  rotate_left
  · first | (intro w hSw; (try dsimp only at hSw); go_simp; done) | (intro w hSw; (try dsimp only at hSw); go_simp; with_reducible rfl)
  (try simp only [Act.put, List.setIfInBounds_toArray, List.set_cons_zero, List.set_cons_succ])
  refine wpAnyH_ready (rs := [4]) (by kernel_rfl) (by simp) ?_
  refine consH rfl (fun Kq hKq => ?_)
  go_simp
  refine hKq.out _ _ ?_ (fun hHeld1 => ?_)
  · (try dsimp only); first | exact hS0 | exact hSz | exact hS9 | exact ⟨(hb19.setCell (by simp) _).setCell (by simp) _, cell_far (cell_far hP9.c0 (by simp)) (by simp), cell_far (cell_far hP9.c1 (by simp)) (by simp)⟩
  clear hKq Kq
  (try simp only [Act.put, List.setIfInBounds_toArray, List.set_cons_zero, List.set_cons_succ])
  clear hHeld0
  refine wpAnyH_ready (rs := [5]) (by kernel_rfl) (by simp) ?_
  refine consH rfl (fun Kq hKq => ?_)
  go_simp
  (go_at_call 56; refine (HcB.out _ _ _ hb15 hz).mono ?_; rintro e w9 ⟨rfl, b9⟩; have hb19 := hb15.trans (b9.mono hb15.size); have hR9 := HR5.out.below b9; have hP9 := HP5.out.below b9; have q3 := hR9.c0; have q4 := hR9.c1; have q5 := hR9.f0; have q6 := hR9.f1; have hr := hR9.set (.int .i64 gn) (.int .i64 gd); have hS9 : Below w.heap.size w w9 ∧ w9.cell? ⟨w.heap.size, 0, none⟩ = some (.slice aP nP cP) ∧ w9.cell? ⟨w.heap.size, 1, none⟩ = some (.slice aW nW cW) := ⟨hb19, hP9.c0, hP9.c1⟩)
  refine hKq.out _ _ ?_ (fun hHeld2 => ?_)
  · (try dsimp only); first | exact hS0 | exact hSz | exact hS9 | exact ⟨(hb19.setCell (by simp) _).setCell (by simp) _, cell_far (cell_far hP9.c0 (by simp)) (by simp), cell_far (cell_far hP9.c1 (by simp)) (by simp)⟩
  clear hKq Kq
  (try simp only [Act.put, List.setIfInBounds_toArray, List.set_cons_zero, List.set_cons_succ])
  clear hHeld1
  refine wpAnyH_ready (rs := [6]) (by kernel_rfl) (by simp) ?_
  refine consH rfl (fun Kq hKq => ?_)
  go_simp
  refine hKq.out _ _ ?_ (fun hHeld3 => ?_)
  · (try dsimp only); first | exact hS0 | exact hSz | exact hS9 | exact ⟨(hb19.setCell (by simp) _).setCell (by simp) _, cell_far (cell_far hP9.c0 (by simp)) (by simp), cell_far (cell_far hP9.c1 (by simp)) (by simp)⟩
  clear hKq Kq
  (try simp only [Act.put, List.setIfInBounds_toArray, List.set_cons_zero, List.set_cons_succ])
  clear hHeld2
  refine takeH (i := 7) (oi := _) (v := ?_) rfl (by kernel_rfl) (by kernel_rfl) (by kernel_rfl) (fun _ _ _ h => h) (Or.inl ⟨by rfl, ?_⟩) (by assumption) ?_
  rotate_left
  · first | (intro w hSw; (try dsimp only at hSw); go_simp; done) | (intro w hSw; (try dsimp only at hSw); go_simp; with_reducible rfl)
  (try simp only [Act.put, List.setIfInBounds_toArray, List.set_cons_zero, List.set_cons_succ])
  refine wpAnyH_done (by kernel_rfl) ?_ _
  refine NoPanic.normal ?_
  go_wp2_with fail
  exact bodyPost_ret (v := .tuple #[.agg #[.int .i64 gn, .int .i64 gd], .bool true]) (by simp [results, Try.results22, go_sem, hr.1, hr.2]) rfl ⟨by rw [Hc.out, ← Hgn.out, ← Hgd.out]; rfl, (hb19.setCell (by simp) _).setCell (by simp) _⟩
end Go.Proofs.Ytjkkfjipgomkdaa
