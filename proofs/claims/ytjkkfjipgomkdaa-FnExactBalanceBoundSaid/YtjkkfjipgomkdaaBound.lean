/- Contracts: the bound of a list, and what a seer has, by the program. -/
import Derived.Test.YtjkkfjipgomkdaaPlBound
import Derived.Test.YtjkkfjipgomkdaaWay2
import Derived.Test.YtjkkfjipgomkdaaLow
import Derived.Test.YtjkkfjipgomkdaaCost
import Derived.Test.YtjkkfjipgomkdaaKeepB
namespace Go.Proofs.Ytjkkfjipgomkdaa
open Go.RowKit

theorem sumOf_abs2 {f : Int → Int} {B : Int} (hB : 0 ≤ B) (hf : ∀ x, -B ≤ f x ∧ f x ≤ B) : ∀ xs : List Int, -(B * xs.length) ≤ sumOf f xs ∧ sumOf f xs ≤ B * xs.length
  | [] => by simp [sumOf]
  | x :: xs => by
    have ih := sumOf_abs2 hB hf xs
    have := hf x
    rw [List.length_cons, Int.natCast_add, Int.mul_add]
    simp only [sumOf, Int.natCast_one, Int.mul_one]
    omega
set_option maxRecDepth 100000 in
set_option maxHeartbeats 2000000 in
theorem impl_bound (aP : Option Addr) (nP cP : Nat) (aW : Option Addr) (nW cW : Nat) (ps ws : List Int) (aA : Option Addr) (nA cA : Nat) (pay : List Int) (aB : Option Addr) (nB cB : Nat) (num : List Int) (w : World) (h : Tre w aP nP cP aW nW cW ps ws) (hT : Tr ps ws) (hA : Ints w aA nA pay) (hnA : nP = nA) (hB : Ints w aB nB num) (hnB : nP = nB) (h1 : ∀ i, -999 ≤ nth pay i ∧ nth pay i ≤ 999) (h2 : ∀ i, -999 ≤ nth num i ∧ nth num i ≤ 999) :
    Calls Try.prog 59 #[.agg #[.slice aP nP cP, .slice aW nW cW], .slice aA nA cA, .slice aB nB cB] w fun e w' => e = .returned (.tuple #[.agg #[.int .i64 (nm (bndS ps ws pay num) (nth (sums ps ws) 0)), .int .i64 (dn (bndS ps ws pay num) (nth (sums ps ws) 0))], .bool true]) ∧ Below w.heap.size w w' := by
  subst hnA
  subst hnB
  have HTT := Lib.hid hT
  have hn24 := hT.n24
  have hn1 := hT.n1
  have HT := Lib.hid hT
  have hwl := hT.wl
  have hl := h.p.1
  have hlw := h.w.1
  have hpn := h.pn
  have hwn := h.wn
  have hb1 := below_new w (.cells #[.slice aP nP cP, .slice aW nW cW] 28)
  have hP1 := Lib.hid (Pair.new w (.slice aP nP cP) (.slice aW nW cW) 28)
  have H := Lib.hid h
  have Hl := Lib.hid hl
  have Hlw := Lib.hid hlw
  clear h hl hlw
  have hnW : nW ≤ nP ∧ nP ≤ nW := by have := Hlw.out; have := Hl.out; omega
  have hnP : 1 ≤ nP ∧ nP ≤ 24 := by have := Hl.out; omega
  clear hn24 hn1 hT hwl hpn hwn
  have HA := Lib.hid hA
  have HB := Lib.hid hB
  have Hb1 := Lib.hid h1
  have Hb2 := Lib.hid h2
  have hnP : 1 ≤ nP ∧ nP ≤ 24 := by have := HTT.out.n24; have := HTT.out.n1; have := Hl.out; omega
  clear hA hB h1 h2
  have Hsl : Hid ((sums ps ws).length = nP) := Lib.hid (by rw [sums_length HTT.out]; exact Hl.out)
  go_enter Try.func59, Try.ntmps59
  have hbb := hb1.trans ((below_new (w.alloc (.cells #[.slice aP nP cP, .slice aW nW cW] 28)) (.cells #[.int .i64 0, .int .i64 0] 34)).mono hb1.size)
  have hPP := Lib.hid (hP1.out.alloc (.cells #[.int .i64 0, .int .i64 0] 34))
  have hR1 := Pair.new (w.alloc (.cells #[.slice aP nP cP, .slice aW nW cW] 28)) (.int .i64 0) (.int .i64 0) 34
  rw [show (w.alloc (.cells #[.slice aP nP cP, .slice aW nW cW] 28)).heap.size = w.heap.size + 1 by simp] at hR1
  have HR1 := Lib.hid hR1
  have c0 := hPP.out.c0
  have c1 := hPP.out.c1
  clear hb1 hP1 hR1
  go_upto_region 1 with fail
  generalize ((w.alloc (.cells #[.slice aP nP cP, .slice aW nW cW] 28)).alloc (.cells #[.int .i64 0, .int .i64 0] 34)) = w2 at *
  obtain ⟨bN, oN, rfl, hcN⟩ := HB.out.at (i := 0) hbb (by omega)
  rw [Nat.add_zero] at hcN
  have hn0 := Hb2.out 0
  have hs0 := sums_bd HTT.out 0
  have hs1 := sums_pos HTT.out 0 (by have := Hl.out; omega)
  have hp0 := mul_abs (B := 999) (U := 480) hn0 hs0 (by omega)
  have HcS : Hid (∀ W : World, Below w.heap.size w W → Calls Try.prog 63 #[.agg #[.slice aP nP cP, .slice aW nW cW]] W fun e w' => ∃ (gb go q : Nat), e = .returned (.slice (some ⟨gb, go, none⟩) nP q) ∧ w'.cell? ⟨gb, go, none⟩ = some (.int .i64 (nth (sums ps ws) 0)) ∧ Below W.heap.size W w') := Lib.hid fun W hW => (impl_sums _ _ _ _ _ _ ps ws W (H.out.below hW) HTT.out).mono fun e w' ⟨v, he, ho, hb⟩ => by
    obtain ⟨a, c, rfl⟩ := ho.shape
    rw [Hsl.out] at he ho
    obtain ⟨gb, go, rfl, hc⟩ := ho.ints.at (i := 0) (Below.refl _ _) (by omega)
    rw [Nat.add_zero] at hc
    exact ⟨gb, go, c, he, hc, hb⟩
  have Hlow : Hid (∀ (x : Int) (W : World), -1500000 ≤ x ∧ x ≤ 1500000 → Calls Try.prog 65 #[.int .i64 x, .int .i64 (nth (sums ps ws) 0)] W fun e w' => e = .returned (.tuple #[.agg #[.int .i64 (nm x (nth (sums ps ws) 0)), .int .i64 (dn x (nth (sums ps ws) 0))], .bool true]) ∧ Below W.heap.size W w') := Lib.hid fun x W hx => impl_lowest_s x _ W (by omega) (by omega)
  have Hbs : Hid (bndS ps ws pay num = nth num 0 * nth (sums ps ws) 0 + sumOf (bdT ps ws pay num) (ends ps)) := Lib.hid rfl
  have Htb : Hid (∀ x : Int, -39960 ≤ bdT ps ws pay num x ∧ bdT ps ws pay num x ≤ 39960) := Lib.hid fun x => by
    have := mul_abs (B := 1998) (U := 20) (x := bdE ps pay num x.toNat) (u := nth ws x.toNat) (bdE_bd Hb1.out Hb2.out _) (HTT.out.w0 _) (by omega)
    rw [bdT]; omega
  clear hn0 hs0 hs1
  generalize hs00 : nth (sums ps ws) 0 = s0 at *
  have Hs00 := Lib.hid hs00
  clear hs00
  generalize hn00 : nth num 0 = n0 at *
  have Hn0 := Lib.hid hn00
  clear hn00
  have k1 : IntKind.i64.wrap (n0 * s0) = n0 * s0 := IntWalk.i64_in _ (by omega)
  have k2 : (0 : Int) < (nP : Int) := by omega
  have k3 : 0 < nP := by omega
  refine wp_region_noPanic ?_
  refine wp_region_held_drew (S := fun W' => KeepR w2 W' ∧ W'.cell? ⟨w.heap.size, 0, none⟩ = some (.slice aP nP cP) ∧ W'.cell? ⟨w.heap.size, 1, none⟩ = some (.slice aW nW cW) ∧ W'.cell? ⟨bN, oN, none⟩ = some (.int .i64 n0)) (by kernel_rfl) ?_ (fun hHeld0 => ?_)
  · (try dsimp only); first | exact keepC3 (by assumption) c0 c1 hcN | exact keepC3 (KeepR.start _) c0 c1 hcN
  refine takeH (i := 0) (oi := _) (v := ?_) rfl (by kernel_rfl) (by kernel_rfl) (by kernel_rfl) (fun _ _ _ h => h) (Or.inl ⟨by rfl, ?_⟩) (by assumption) ?_
  rotate_left
  · first | (intro w hSw; (try dsimp only at hSw); go_simp; done) | (intro w hSw; (try dsimp only at hSw); go_simp; with_reducible rfl)
  (try simp only [Act.put, List.setIfInBounds_toArray, List.set_cons_zero, List.set_cons_succ])
  refine takeH (i := 1) (oi := _) (v := ?_) rfl (by kernel_rfl) (by kernel_rfl) (by kernel_rfl) (fun _ _ _ h => h) (Or.inl ⟨by rfl, ?_⟩) (by assumption) ?_
  rotate_left
  · first | (intro w hSw; (try dsimp only at hSw); go_simp; done) | (intro w hSw; (try dsimp only at hSw); go_simp; with_reducible rfl)
  (try simp only [Act.put, List.setIfInBounds_toArray, List.set_cons_zero, List.set_cons_succ])
  refine takeH (i := 2) (oi := _) (v := ?_) rfl (by kernel_rfl) (by kernel_rfl) (by kernel_rfl) (fun _ _ _ h => h) (Or.inl ⟨by rfl, ?_⟩) (by assumption) ?_
  rotate_left
  · first | (intro w hSw; (try dsimp only at hSw); go_simp; done) | (intro w hSw; (try dsimp only at hSw); go_simp; with_reducible rfl)
  (try simp only [Act.put, List.setIfInBounds_toArray, List.set_cons_zero, List.set_cons_succ])
  refine takeH (i := 3) (oi := _) (v := ?_) rfl (by kernel_rfl) (by kernel_rfl) (by kernel_rfl) (fun _ _ _ h => h) (Or.inl ⟨by rfl, ?_⟩) (by assumption) ?_
  rotate_left
  · first | (intro w hSw; (try dsimp only at hSw); go_simp; done) | (intro w hSw; (try dsimp only at hSw); go_simp; with_reducible rfl)
  (try simp only [Act.put, List.setIfInBounds_toArray, List.set_cons_zero, List.set_cons_succ])
  refine wpAnyH_ready (rs := [4]) (by kernel_rfl) (by simp) ?_
  refine consH rfl (fun Kq hKq => ?_)
  go_simp
  (go_at_call 63; refine (HcS.out _ (hbb.trans (Below.mono (by assumption : KeepR w2 _ ∧ _).1 hbb.size))).mono ?_; rintro e w6 ⟨gb, go, q6, rfl, z0, b6⟩; have hk6 := KeepR.next b6 (by assumption : KeepR w2 _ ∧ _).1)
  refine hKq.out _ _ ?_ (fun hHeld1 => ?_)
  · (try dsimp only); first | exact keepC3 (by assumption) c0 c1 hcN | exact keepC3 (KeepR.start _) c0 c1 hcN
  clear hKq Kq
  (try simp only [Act.put, List.setIfInBounds_toArray, List.set_cons_zero, List.set_cons_succ])
  clear hHeld0
  refine takeH (i := 5) (oi := _) (v := ?_) rfl (by kernel_rfl) (by kernel_rfl) (by kernel_rfl) (fun _ _ _ h => h) (Or.inl ⟨by rfl, ?_⟩) (by assumption) ?_
  rotate_left
  · first | (intro w hSw; (try dsimp only at hSw); go_simp; done) | (intro w hSw; (try dsimp only at hSw); go_simp; with_reducible rfl)
  (try simp only [Act.put, List.setIfInBounds_toArray, List.set_cons_zero, List.set_cons_succ])
  refine wpAnyH_ready (rs := [6]) (by kernel_rfl) (by simp) ?_
  refine consH rfl (fun Kq hKq => ?_)
  go_simp
  refine hKq.out _ _ ?_ (fun hHeld2 => ?_)
  · (try dsimp only); first | exact keepC3 (by assumption) c0 c1 hcN | exact keepC3 (KeepR.start _) c0 c1 hcN
  clear hKq Kq
  (try simp only [Act.put, List.setIfInBounds_toArray, List.set_cons_zero, List.set_cons_succ])
  clear hHeld1
  refine takeH (i := 7) (oi := _) (v := ?_) rfl (by kernel_rfl) (by kernel_rfl) (by kernel_rfl) (fun _ _ _ h => h) (Or.inl ⟨by rfl, ?_⟩) (by assumption) ?_
  rotate_left
  · first | (intro w hSw; (try dsimp only at hSw); go_simp; done) | (intro w hSw; (try dsimp only at hSw); go_simp; with_reducible rfl)
  (try simp only [Act.put, List.setIfInBounds_toArray, List.set_cons_zero, List.set_cons_succ])
  refine takeH (i := 8) (oi := _) (v := ?_) rfl (by kernel_rfl) (by kernel_rfl) (by kernel_rfl) (fun _ _ _ h => h) (Or.inl ⟨by rfl, ?_⟩) (by assumption) ?_
  rotate_left
  · first | (intro w hSw; (try dsimp only at hSw); go_simp; done) | (intro w hSw; (try dsimp only at hSw); go_simp; with_reducible rfl)
  (try simp only [Act.put, List.setIfInBounds_toArray, List.set_cons_zero, List.set_cons_succ])
  refine wpAnyH_done (by kernel_rfl) ?_ _
  refine NoPanic.normal ?_
  go_wp2_with fail
  have hk6' : Below w2.heap.size w2 w6 := hk6
  have hb16 := hbb.trans (hk6'.mono hbb.size)
  have HP6 := Lib.hid (hPP.out.below hk6')
  have HR6 := Lib.hid (HR1.out.below hk6')
  have e0 := HP6.out.c0
  have e1 := HP6.out.c1
  clear hk6 hk6' hPP HR1 hbb b6 c0 c1 hcN z0
  go_wp2_with (go_at_call 100; refine (impl_ends _ _ _ _ _ _ ps ws _ (H.out.below hb16) HTT.out.toPa).mono ?_; rintro e w7 ⟨v7, rfl, ho7, hb7⟩; obtain ⟨a7, c7, rfl⟩ := ho7.shape)
  have K7 := Lib.hid ho7.ints
  have HP7 := Lib.hid (HP6.out.below hb7)
  have HR7 := Lib.hid (HR6.out.below hb7)
  have hb17 := hb16.trans (hb7.mono hb16.size)
  have hel : (ends ps).length ≤ 24 := by have := filt_length (endB ps) ps.length; have := Hl.out; rw [ends]; omega
  have Hen : Hid (∀ i, i < (ends ps).length → ∃ e : Nat, e < nP ∧ nth (ends ps) i = (e : Int)) := Lib.hid fun i hi => by
    obtain ⟨e, h1, h2, h3⟩ := end_nth hi
    exact ⟨e, by have := Hl.out; omega, h3⟩
  have Hst : Hid (∀ i, i < (ends ps).length → sumOf (bdT ps ws pay num) ((ends ps).take (i + 1)) = sumOf (bdT ps ws pay num) ((ends ps).take i) + bdT ps ws pay num (nth (ends ps) i)) := Lib.hid fun i hi => sumOf_take_succ _ _ _ hi
  have Hsa : Hid (∀ i, -(39960 * (24 : Int)) ≤ sumOf (bdT ps ws pay num) ((ends ps).take i) ∧ sumOf (bdT ps ws pay num) ((ends ps).take i) ≤ 39960 * (24 : Int)) := Lib.hid fun i => by
    have := sumOf_abs2 (B := 39960) (by omega) Htb.out ((ends ps).take i)
    have : ((ends ps).take i).length ≤ 24 := by rw [List.length_take]; omega
    omega
  clear ho7 hb7 HP6 HR6 hb16 e0 e1
  generalize ends ps = es at *
  go_loopw [8, 25] (fun v8 v25 wr => ∃ i : Nat, i ≤ es.length ∧ v25 = .int .i64 (i : Int) ∧ v8 = .int .i64 (n0 * s0 + sumOf (bdT ps ws pay num) (es.take i)) ∧ Ints wr a7 es.length es ∧ Pair wr w.heap.size (.slice aP nP cP) (.slice aW nW cW) ∧ Pair wr (w.heap.size + 1) (.int .i64 0) (.int .i64 0) ∧ Below w.heap.size w wr) (fun _ v25 _ => es.length - (intOf v25).toNat)
  case atStart => exact ⟨0, Nat.zero_le _, rfl, by simp [sumOf], K7.out, HP7.out, HR7.out, hb17⟩
  case round =>
    clear hb17 K7 HP7 HR7
    obtain ⟨i, hi, rfl, rfl, h7, hP, hR, hbel⟩ := hrel
    have HP := Lib.hid hP
    have HR := Lib.hid hR
    have K7 := Lib.hid h7
    have x0 := hP.c0
    have x1 := hP.c1
    clear hP hR h7
    by_cases hlt : (i : Int) < es.length
    · obtain ⟨b7, o7, rfl, hc7⟩ := K7.out.at (i := i) (Below.refl _ _) (by omega)
      obtain ⟨e, he, hei⟩ := Hen.out i (by omega)
      rw [hei] at hc7
      have HstI := Lib.hid (Hst.out i (by omega))
      rw [hei] at HstI
      have HsaI := Lib.hid (Hsa.out i)
      obtain ⟨bA, oA, rfl, hcA⟩ := HA.out.at (i := 0) hbel (by omega)
      obtain ⟨bN', oN', hh, hcN⟩ := HB.out.at (i := 0) hbel (by omega)
      cases hh
      rw [Nat.add_zero] at hcA hcN
      rw [Hn0.out] at hcN
      have ha0 := Hb1.out 0
      have hb0 := Hb2.out 0
      rw [Hn0.out] at hb0
      have He0 : Hid (exc pay num 0 = nth pay 0 - n0) := Lib.hid (by rw [exc, Int.toNat_zero, Hn0.out])
      clear hei
      generalize nth pay 0 = a0 at *
      have j1 : IntKind.i64.wrap (a0 - n0) = a0 - n0 := IntWalk.i64_in _ (by omega)
      obtain ⟨wo, rfl⟩ : ∃ wo, wo = wr := ⟨_, rfl⟩
      go_wp2_with fail
      go_quiet (fail)
      go_wp2_with (go_at_call 101; refine (impl_way _ _ _ _ _ _ ps ws e _ (H.out.below (below_drewN hbel _)) HTT.out.toPa he).mono ?_; rintro e' w9 ⟨v9, rfl, ho9, hb9⟩; obtain ⟨a9, c9, rfl⟩ := ho9.shape)
      have hb19 := (below_drewN hbel nq).trans (hb9.mono (by simpa using hbel.size))
      have hwo := (below_drewN (Below.refl wo.heap.size wo) nq).trans (hb9.mono (by simp))
      have K9 := Lib.hid ho9.ints
      have K7' := Lib.hid (K7.out.below hwo)
      have HP9 := Lib.hid (HP.out.below hwo)
      have HR9 := Lib.hid (HR.out.below hwo)
      have HA9 := Lib.hid (HA.out.below hb19)
      have HB9 := Lib.hid (HB.out.below hb19)
      have hwl := way_length HTT.out.toPa e (by have := Hl.out; omega)
      have HW : Hid (∀ k, k < (way ps e).length → ∃ y : Nat, y < nP ∧ nth (way ps e) k = (y : Int)) := Lib.hid fun k hk => by
        obtain ⟨y, h1, h2⟩ := nth_way HTT.out.toPa (x := e) (by have := Hl.out; omega) hk
        exact ⟨y, by omega, h2⟩
      have HM0 : Hid (mxT (exc pay num) (way ps e) 0 = a0 - n0) := Lib.hid (by rw [mxT, He0.out])
      have HMs : Hid (∀ k, mxT (exc pay num) (way ps e) (k + 1) = max (mxT (exc pay num) (way ps e) k) (exc pay num (nth (way ps e) k))) := Lib.hid fun k => rfl
      have Hex : Hid (∀ y : Nat, exc pay num (y : Int) = nth pay y - nth num y) := Lib.hid fun y => by rw [exc, Int.toNat_natCast]
      have Hbd : Hid (mxT (exc pay num) (way ps e) (way ps e).length = bdE ps pay num e) := Lib.hid rfl
      have Hbb := Lib.hid (bdE_bd (ps := ps) Hb1.out Hb2.out e)
      have Hte : Hid (bdT ps ws pay num (e : Int) = bdE ps pay num e * nth ws e) := Lib.hid (by rw [bdT, Int.toNat_natCast])
      have HbdTe := Lib.hid (Htb.out (e : Int))
      have hw24 : (way ps e).length ≤ 24 := by omega
      clear ho9 hb9 hwo hbel K7 HP HR x0 x1 hcA hcN hc7 hwl
      generalize way ps e = ww at *
      generalize hsm : sumOf (bdT ps ws pay num) (es.take i) = sm at *
      have Hsm := Lib.hid hsm
      clear hsm
      go_loopw [11, 40] (fun v11 v40 wr => ∃ k : Nat, k ≤ ww.length ∧ v40 = .int .i64 (k : Int) ∧ v11 = .int .i64 (mxT (exc pay num) ww k) ∧ Below w9.heap.size w9 wr) (fun _ v40 _ => ww.length - (intOf v40).toNat)
      case atStart => exact ⟨0, Nat.zero_le _, rfl, by rw [HM0.out], Below.refl _ _⟩
      case round =>
        obtain ⟨k, hk, rfl, rfl, hb6⟩ := hrel
        by_cases hltk : (k : Int) < ww.length
        · obtain ⟨b9, o9, rfl, hc9⟩ := K9.out.at (i := k) hb6 (by omega)
          obtain ⟨y, hy, hye⟩ := HW.out k (by omega)
          rw [hye] at hc9
          have HMk := Lib.hid (HMs.out k)
          rw [hye, Hex.out y] at HMk
          obtain ⟨b1, o1, g1, hcp⟩ := HA9.out.at (i := y) hb6 hy
          obtain ⟨b2, o2, g2, hcn⟩ := HB9.out.at (i := y) hb6 hy
          cases g1
          cases g2
          have hpy := Hb1.out y
          have hny := Hb2.out y
          clear hye
          generalize nth pay y = py at *
          generalize nth num y = ny at *
          generalize hmk : mxT (exc pay num) ww k = mk at *
          clear hmk
          have k1 : IntKind.i64.wrap (py - ny) = py - ny := IntWalk.i64_in _ (by omega)
          have k4 : (0 : Int) ≤ (y : Int) := by omega
          have k5 : (y : Int) < (nP : Int) := by omega
          obtain ⟨M, hM⟩ : ∃ M : Int, (if mk < py - ny then py - ny else mk) = M := ⟨_, rfl⟩
          have Hv : Hid (max mk (py - ny) = M) := Lib.hid (by rw [← hM]; split <;> omega)
          go_wp2_with fail
          go_quiet (fail)
          go_wp2_with fail
          go_roundw
          case rel => exact ⟨k + 1, by omega, by go_num, by rw [HMk.out, Hv.out], below_drewN hb6 _⟩
          case measure => simp [intOf]; omega
        · obtain rfl : k = ww.length := by omega
          have hb16 := hb19.trans (hb6.mono hb19.size)
          have K8 := Lib.hid (K7'.out.below hb6)
          have HP8 := Lib.hid (HP9.out.below hb6)
          have HR8 := Lib.hid (HR9.out.below hb6)
          have e0 := HP8.out.c0
          have e1 := HP8.out.c1
          have heW : e < nW := by have := Hlw.out; have := HTT.out.wl; have := Hl.out; omega
          obtain ⟨bW, oW, rfl, hcW⟩ := H.out.w.at (i := e) hb16 heW
          have hbb := Hbb.out
          have hsa := HsaI.out
          have hte := HbdTe.out
          rw [Hte.out] at hte HstI
          rw [Hbd.out]
          generalize bdE ps pay num e = bd at *
          generalize nth ws e = we at *
          have k1 : IntKind.i64.wrap (bd * we) = bd * we := IntWalk.i64_in _ (by omega)
          have k2 : IntKind.i64.wrap (n0 * s0 + sm + bd * we) = n0 * s0 + sm + bd * we := IntWalk.i64_in _ (by omega)
          have k4 : (0 : Int) ≤ (e : Int) := by omega
          have k5 : (e : Int) < (nW : Int) := by omega
          go_wp2_with fail
          go_roundw
          case rel => exact ⟨i + 1, by omega, by go_num, by rw [HstI.out, Int.add_assoc], K8.out, HP8.out, HR8.out, hb16⟩
          case measure => simp [intOf]; omega
    · obtain rfl : i = es.length := by omega
      rw [List.take_length, ← Hbs.out]
      have hbt : -1500000 ≤ bndS ps ws pay num ∧ bndS ps ws pay num ≤ 1500000 := by
        have := Hsa.out es.length
        rw [List.take_length] at this
        have := Hbs.out
        omega
      have HL9 := Lib.hid fun W => Hlow.out (bndS ps ws pay num) W hbt
      generalize hgn : nm (bndS ps ws pay num) s0 = gn at *
      generalize hgd : dn (bndS ps ws pay num) s0 = gd at *
      have Hgn := Lib.hid hgn
      have Hgd := Lib.hid hgd
      clear hgn hgd
      generalize hbs : bndS ps ws pay num = bs at *
      have Hbs2 := Lib.hid hbs
      clear hbs
      go_wp2_with (first
        | (go_at_call 63; refine (HcS.out _ hbel).mono ?_; rintro e w6 ⟨gb', go', q6', rfl, z0, b6⟩)
        | (go_at_call 65; refine (HL9.out _).mono ?_; rintro e w9 ⟨rfl, b9⟩
           have hb19 := (hbel.trans (b6.mono hbel.size)).trans (b9.mono (Nat.le_trans hbel.size b6.size))
           have hR9 := (HR.out.below b6).below b9
           have q3 := hR9.c0
           have q4 := hR9.c1
           have q5 := hR9.f0
           have q6 := hR9.f1
           have hr := hR9.set (.int .i64 gn) (.int .i64 gd)))
      exact bodyPost_ret (v := .tuple #[.agg #[.int .i64 gn, .int .i64 gd], .bool true]) (by simp [results, Try.results59, go_sem, hr.1, hr.2]) rfl ⟨by rw [Hbs2.out, Hs00.out, Hgn.out, Hgd.out], (hb19.setCell (by simp) _).setCell (by simp) _⟩
end Go.Proofs.Ytjkkfjipgomkdaa
