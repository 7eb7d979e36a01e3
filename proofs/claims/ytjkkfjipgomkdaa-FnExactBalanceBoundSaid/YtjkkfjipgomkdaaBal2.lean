/- Contracts: what is a balanced list, by the reference. -/
import Derived.Test.YtjkkfjipgomkdaaDrift
namespace Go.Proofs.Ytjkkfjipgomkdaa
open Go.RowKit

/-- The products of sums and numbers. -/
def prL (ps ws l : List Int) : List Int := (List.range ps.length).map fun x => nth (sums ps ws) x * nth l x
theorem prL_length (ps ws l : List Int) : (prL ps ws l).length = ps.length := by simp [prL]
theorem nth_prL {ps ws l : List Int} {x : Nat} (hx : x < ps.length) : nth (prL ps ws l) x = nth (sums ps ws) x * nth l x := by rw [prL, nth_map_range hx]
theorem prL_take (ps ws l : List Int) {x : Nat} (hx : x < ps.length) : (prL ps ws l).take (x + 1) = (prL ps ws l).take x ++ [nth (sums ps ws) x * nth l x] := by
  rw [take_succ_nth (by rw [prL_length]; exact hx), nth_prL hx]
theorem prL_bd {ps ws l : List Int} (h : Tr ps ws) (hl : ∀ i, -999 ≤ nth l i ∧ nth l i ≤ 999) : Abs2 479520 (prL ps ws l) := fun i => by
  by_cases hi : i < ps.length
  · rw [nth_prL hi]
    have := mul_abs (B := 999) (U := 480) (hl i) (sums_bd h i) (by omega)
    rw [Int.mul_comm (nth l i) (nth (sums ps ws) i)] at this
    omega
  · rw [nth_ge (by rw [prL_length]; omega)]; omega
theorem pr_kids {ps ws l : List Int} (x : Nat) : kidSum ps (fun y => nth (prL ps ws l) y) x ps.length = kidSum ps (fun y => nth (sums ps ws) y * nth l y) x ps.length := kidSum_congr fun _ hy _ => nth_prL hy
set_option maxRecDepth 100000 in
set_option maxHeartbeats 2000000 in
theorem spec_l4Balanced (aP : Option Addr) (nP cP : Nat) (aW : Option Addr) (nW cW : Nat) (ps ws : List Int) (aL : Option Addr) (nL cL : Nat) (l : List Int) (w : World) (h : Tre w aP nP cP aW nW cW ps ws) (hT : Tr ps ws) (hL : Ints w aL nL l) (hnL : nP = nL) (hl : ∀ i, -999 ≤ nth l i ∧ nth l i ≤ 999) :
    Calls Try.prog 77 #[.agg #[.slice aP nP cP, .slice aW nW cW], .slice aL nL cL] w fun e w' => e = .returned (.bool (balB ps ws l)) ∧ Below w.heap.size w w' := by
  subst hnL
  have HTT := Lib.hid hT
  have hn24 := hT.n24
  have hn1 := hT.n1
  have HT := Lib.hid hT
  have hwl := hT.wl
  have hl := h.p.1
  have hlw := h.w.1
  have hpn := h.pn
  have hwn := h.wn
  have hb1 := below_new w (.cells #[.slice aP nP cP, .slice aW nW cW] 28)
  have hP1 := Lib.hid (Pair.new w (.slice aP nP cP) (.slice aW nW cW) 28)
  have H := Lib.hid h
  have Hl := Lib.hid hl
  have Hlw := Lib.hid hlw
  clear h hl hlw
  have hnW : nW ≤ nP ∧ nP ≤ nW := by have := Hlw.out; have := Hl.out; omega
  have hnP : 1 ≤ nP ∧ nP ≤ 24 := by have := Hl.out; omega
  clear hn24 hn1 hT hwl hpn hwn
  have HL := Lib.hid hL
  have Hlb := Lib.hid hl
  have hnP : 1 ≤ nP ∧ nP ≤ 24 := by have := HTT.out.n24; have := HTT.out.n1; have := Hl.out; omega
  clear hL hl
  have Hsl : Hid ((sums ps ws).length = nP) := Lib.hid (by rw [sums_length HTT.out]; exact Hl.out)
  go_enter Try.func77, Try.ntmps77
  have c0 := hP1.out.c0
  have c1 := hP1.out.c1
  go_wp2_with fail
  generalize (w.alloc (.cells #[.slice aP nP cP, .slice aW nW cW] 28)) = w2 at *
  refine (spec_l2Sums _ _ _ _ _ _ ps ws _ (H.out.below hb1) HTT.out).mono ?_
  rintro e w3 ⟨v3, rfl, ho3, hb3⟩
  obtain ⟨a6, c6, rfl⟩ := ho3.shape
  rw [Hsl.out] at ho3 ⊢
  have hlt3 : ∀ q, (Value.slice a6 nP c6).ownBlock = some q → q < w3.heap.size := fun q hq => (World.ownsRow.lt ho3 q hq).2
  have hnil := own_nil0 w3
  have hnew := below_new w3 (.cells #[] 3)
  have G6 := Lib.hid (ho3.ints.below hnew)
  have HP3 := Lib.hid ((hP1.out.below hb3).below hnew)
  have HO3 := Lib.hid hnil
  have hb13 := (hb1.trans (hb3.mono hb1.size)).trans (hnew.mono (Nat.le_trans hb1.size hb3.size))
  have Hap0 : Hid (Apart a6 (Value.slice (some ⟨w3.heap.size, 0, none⟩) 0 0)) := Lib.hid fun p hp e => by
    subst hp
    have := hlt3 _ rfl
    simp [Value.ownBlock] at e
    omega
  have hw3 : w.heap.size + 1 ≤ w3.heap.size := (hP1.out.below hb3).lt
  have hw3' : w3.heap.size ≤ (w3.alloc (.cells #[] 3)).heap.size := by simp
  clear ho3 hnil hb3 hnew hlt3 hP1 hb1 c0 c1
  go_upto_region 2 with fail
  generalize w3.alloc (.cells #[] 3) = w4 at *
  generalize w3.heap.size = U at *
  go_wp2_with fail
  go_loopw [6, 7] (fun v6 v7 wr => ∃ x : Nat, x ≤ nP ∧ v7 = .int .i64 (x : Int) ∧ Own wr U v6 ((prL ps ws l).take x) ∧ Ints wr a6 nP (sums ps ws) ∧ Apart a6 v6 ∧ Pair wr w.heap.size (.slice aP nP cP) (.slice aW nW cW) ∧ Below w.heap.size w wr ∧ U ≤ wr.heap.size) (fun _ v7 _ => nP - (intOf v7).toNat)
  case atStart => exact ⟨0, Nat.zero_le _, rfl, by rw [List.take_zero]; exact HO3.out, G6.out, Hap0.out, HP3.out, hb13, hw3'⟩
  case round =>
    clear HO3 G6 Hap0 HP3 hb13 hw3'
    obtain ⟨x, hx, rfl, hown, h6, hap, hP, hbel, hsz⟩ := hrel
    have HP := Lib.hid hP
    have G6 := Lib.hid h6
    have Hap := Lib.hid hap
    have x0 := hP.c0
    have x1 := hP.c1
    clear hP h6 hap
    by_cases hlt : (x : Int) < nP
    · obtain ⟨b6, o6, rfl, hc6⟩ := G6.out.at (i := x) (Below.refl _ _) (by omega)
      obtain ⟨bL, oL, rfl, hbLw, hcL⟩ := HL.out.at2 (i := x) hbel (by omega)
      have Hms := Lib.hid (prL_take ps ws l (x := x) (by have := Hl.out; omega))
      have hll2 : ((prL ps ws l).take x).length ≤ 24 := by rw [List.length_take, prL_length]; have := Hl.out; omega
      have hsb := sums_bd HTT.out x
      have hlb := Hlb.out x
      have hmb := mul_abs (B := 999) (U := 480) hlb hsb (by omega)
      rw [Int.mul_comm (nth l x) (nth (sums ps ws) x)] at hmb
      generalize (prL ps ws l).take x = nk at *
      generalize nth (sums ps ws) x = u at *
      generalize nth l x = p at *
      have k1 : IntKind.i64.wrap (u * p) = u * p := IntWalk.i64_in _ (by omega)
      have k2 : (0 : Int) ≤ (x : Int) := by omega
      have HA0 : Hid (∀ o, Below U wr (wr.alloc o).drew) := Lib.hid fun o => ((Below.refl _ _).alloc hsz o).drew
      have HA0' : Hid (∀ o, Below wr.heap.size wr (wr.alloc o).drew) := Lib.hid fun o => (below_new wr o).drew
      clear hsb hlb hmb
      go_wp2_with fail
      go_region_held3 (fun W' => Below U wr W' ∧ W'.cell? ⟨b6, o6 + x, none⟩ = some (.int .i64 u) ∧ W'.cell? ⟨bL, oL + x, none⟩ = some (.int .i64 p))
        (first | assumption | exact ⟨(Below.refl _ _).drew, hc6, hcL⟩ | exact ⟨HA0.out _, cell_up (HA0'.out _) hc6, cell_up (HA0'.out _) hcL⟩)
        (first
          | (refine step_push2 (u := u * p) rfl _ _ rfl U _ _ (by rfl) hown (by rfl) (by omega) hsz ?_; intro v' w' ho hb hm
             have x6 := hm.cell hc6 (Hap.out ⟨b6, o6, none⟩ rfl)
             have xL := hm.cell hcL (fun e => by have h1 := (World.ownsRow.lt hown _ e).1; simp at h1; omega)
             have hSS : Below U wr w' ∧ w'.cell? ⟨b6, o6 + x, none⟩ = some (.int .i64 u) ∧ w'.cell? ⟨bL, oL + x, none⟩ = some (.int .i64 p) := ⟨hb, x6, xL⟩))
      go_wp2_with fail
      have hg6 := G6.out.moved hm (fun _ => Hap.out)
      go_roundw
      case rel => exact ⟨x + 1, by omega, by go_num, by rw [Hms.out]; exact ho, hg6.1, hg6.2 (by omega), HP.out.up hb (by omega), hbel.trans (hb.mono (by omega)), Nat.le_trans hsz hb.size⟩
      case measure => simp [intOf]; omega
    · obtain rfl : x = nP := by omega
      have hfin : (prL ps ws l).take x = prL ps ws l := List.take_of_length_le (by rw [prL_length]; have := Hl.out; omega)
      rw [hfin] at hown
      have hpl : (prL ps ws l).length = x := by rw [prL_length]; exact Hl.out
      obtain ⟨a9, c9, rfl⟩ := hown.shape
      rw [hpl] at hown ⊢
      have G9 := Lib.hid hown.ints
      obtain ⟨wo, rfl⟩ : ∃ wo, wo = wr := ⟨_, rfl⟩
      clear hown hfin hpl Hap G6
      go_wp2_with fail
      go_loopw [8] (fun v8 wr => ∃ y : Nat, y ≤ x ∧ v8 = .int .i64 (y : Int) ∧ (∀ z, z < y → drA ps ws l z = 0) ∧ Ints wr a9 x (prL ps ws l) ∧ Pair wr w.heap.size (.slice aP x cP) (.slice aW nW cW) ∧ Below w.heap.size w wr) (fun v8 _ => x - (intOf v8).toNat)
      case atStart => exact ⟨0, Nat.zero_le _, rfl, fun z hz => by omega, G9.out, HP.out, hbel⟩
      case round =>
        clear hbel G9 HP x0 x1 hsz
        obtain ⟨y, hy, rfl, hall, h9, hP, hbel⟩ := hrel
        have HP := Lib.hid hP
        have G9 := Lib.hid h9
        have Hall := Lib.hid hall
        have x0 := hP.c0
        have x1 := hP.c1
        clear hP h9 hall
        by_cases hly : (y : Int) < x
        · have hyn : y < ps.length := by have := Hl.out; omega
          obtain ⟨b9, o9, rfl, hc9⟩ := G9.out.at (i := y) (Below.refl _ _) (by omega)
          rw [nth_prL hyn] at hc9
          obtain ⟨bW, oW, rfl, hcW⟩ := H.out.w.at (i := y) hbel (by have := Hlw.out; have := HTT.out.wl; have := Hl.out; omega)
          have k2 : (0 : Int) ≤ (y : Int) := by omega
          have k3 : (y : Int) < (nW : Int) := by have := Hlw.out; have := HTT.out.wl; have := Hl.out; omega
          have k4 : y < nW := by omega
          go_upto_region 9 with fail
          have Hdb := Lib.hid (dr_bal (l := l) HTT.out hyn)
          have Hno := Lib.hid fun h : ¬ drA ps ws l y = 0 => bal_no hyn h
          cases he : endB ps y
          · have hw0 := HTT.out.inner y hyn he
            rw [hw0] at hcW
            have Hpk := Lib.hid (pr_kids (ps := ps) (ws := ws) (l := l) y)
            have hpb := Lib.hid (prL_bd HTT.out Hlb.out)
            have HcK : Hid (∀ W : World, KeepR wr W → Calls Try.prog 69 #[.agg #[.slice aP x cP, .slice (some ⟨bW, oW, none⟩) nW cW], .slice (some ⟨b9, o9, none⟩) x c9, .int .i64 (y : Int)] W fun e w' => e = .returned (.int .i64 (kidSum ps (fun y => nth (sums ps ws) y * nth l y) y ps.length)) ∧ Below W.heap.size W w') := Lib.hid fun W hW => by
              have := spec_l4Kids _ _ _ _ _ _ ps ws _ _ c9 (prL ps ws l) (y : Int) 479520 W (H.out.below (hbel.trans (Below.mono hW hbel.size))) HTT.out.toPa (G9.out.below hW) (Nat.le_refl _) (by omega) hpb.out ⟨k2, by have := Hl.out; omega⟩
              rw [Int.toNat_natCast, Hpk.out] at this
              exact this
            have HE := Lib.hid he
            clear he hw0
            generalize nth (sums ps ws) y * nth l y = pv at *
            generalize kidSum ps (fun y => nth (sums ps ws) y * nth l y) y ps.length = kv at *
            by_cases hpk : pv = kv
            · have Hd0 : Hid (drA ps ws l y = 0) := Lib.hid (Hdb.out.2 (.inr hpk))
              have hpn : (pv != kv) = false := by rw [bne_eq_false_iff_eq]; exact hpk
              subst hpk
              refine wp_region_noPanic ?_
              refine wp_region_held_drew (S := fun W' => KeepR wr W' ∧ W'.cell? ⟨w.heap.size, 0, none⟩ = some (.slice aP x cP) ∧ W'.cell? ⟨w.heap.size, 1, none⟩ = some (.slice (some ⟨bW, oW, none⟩) nW cW) ∧ W'.cell? ⟨bW, oW + y, none⟩ = some (.int .i64 0) ∧ W'.cell? ⟨b9, o9 + y, none⟩ = some (.int .i64 pv)) (by kernel_rfl) ?_ (fun hHeld0 => ?_)
              · (try dsimp only); first | exact keepC4 (by assumption) x0 x1 hcW hc9 | exact keepC4 (KeepR.start _) x0 x1 hcW hc9
              refine takeH (i := 0) (oi := _) (v := ?_) rfl (by kernel_rfl) (by kernel_rfl) (by kernel_rfl) (fun _ _ _ h => h) (Or.inl ⟨by rfl, ?_⟩) (by assumption) ?_
              rotate_left
              · first | (intro w hSw; (try dsimp only at hSw); go_simp; done) | (intro w hSw; (try dsimp only at hSw); go_simp; with_reducible rfl)
              (try simp only [Act.put, List.setIfInBounds_toArray, List.set_cons_zero, List.set_cons_succ])
              refine takeH (i := 1) (oi := _) (v := ?_) rfl (by kernel_rfl) (by kernel_rfl) (by kernel_rfl) (fun _ _ _ h => h) (Or.inl ⟨by rfl, ?_⟩) (by assumption) ?_
              rotate_left
              · first | (intro w hSw; (try dsimp only at hSw); go_simp; done) | (intro w hSw; (try dsimp only at hSw); go_simp; with_reducible rfl)
              (try simp only [Act.put, List.setIfInBounds_toArray, List.set_cons_zero, List.set_cons_succ])
              refine takeH (i := 2) (oi := _) (v := ?_) rfl (by kernel_rfl) (by kernel_rfl) (by kernel_rfl) (fun _ _ _ h => h) (Or.inl ⟨by rfl, ?_⟩) (by assumption) ?_
              rotate_left
              · first | (intro w hSw; (try dsimp only at hSw); go_simp; done) | (intro w hSw; (try dsimp only at hSw); go_simp; with_reducible rfl)
              (try simp only [Act.put, List.setIfInBounds_toArray, List.set_cons_zero, List.set_cons_succ])
              refine takeH (i := 3) (oi := _) (v := ?_) rfl (by kernel_rfl) (by kernel_rfl) (by kernel_rfl) (fun _ _ _ h => h) (Or.inl ⟨by rfl, ?_⟩) (by assumption) ?_
              rotate_left
              · first | (intro w hSw; (try dsimp only at hSw); go_simp; done) | (intro w hSw; (try dsimp only at hSw); go_simp; with_reducible rfl)
              (try simp only [Act.put, List.setIfInBounds_toArray, List.set_cons_zero, List.set_cons_succ])
              refine takeH (i := 4) (oi := _) (v := ?_) rfl (by kernel_rfl) (by kernel_rfl) (by kernel_rfl) (fun _ _ _ h => h) (Or.inl ⟨by rfl, ?_⟩) (by assumption) ?_
              rotate_left
              · first | (intro w hSw; (try dsimp only at hSw); go_simp; done) | (intro w hSw; (try dsimp only at hSw); go_simp; with_reducible rfl)
              (try simp only [Act.put, List.setIfInBounds_toArray, List.set_cons_zero, List.set_cons_succ])
              refine takeH (i := 5) (oi := _) (v := ?_) rfl (by kernel_rfl) (by kernel_rfl) (by kernel_rfl) (fun _ _ _ h => h) (Or.inl ⟨by rfl, ?_⟩) (by assumption) ?_
              rotate_left
              · first | (intro w hSw; (try dsimp only at hSw); go_simp; done) | (intro w hSw; (try dsimp only at hSw); go_simp; with_reducible rfl)
              (try simp only [Act.put, List.setIfInBounds_toArray, List.set_cons_zero, List.set_cons_succ])
              refine takeH (i := 6) (oi := _) (v := ?_) rfl (by kernel_rfl) (by kernel_rfl) (by kernel_rfl) (fun _ _ _ h => h) (Or.inl ⟨by rfl, ?_⟩) (by assumption) ?_
              rotate_left
              · first | (intro w hSw; (try dsimp only at hSw); go_simp; done) | (intro w hSw; (try dsimp only at hSw); go_simp; with_reducible rfl)
              (try simp only [Act.put, List.setIfInBounds_toArray, List.set_cons_zero, List.set_cons_succ])
              refine takeH (i := 7) (oi := _) (v := ?_) rfl (by kernel_rfl) (by kernel_rfl) (by kernel_rfl) (fun _ _ _ h => h) (Or.inl ⟨by rfl, ?_⟩) (by assumption) ?_
              rotate_left
              · first | (intro w hSw; (try dsimp only at hSw); go_simp; done) | (intro w hSw; (try dsimp only at hSw); go_simp; with_reducible rfl)
              (try simp only [Act.put, List.setIfInBounds_toArray, List.set_cons_zero, List.set_cons_succ])
              refine takeH (i := 8) (oi := _) (v := ?_) rfl (by kernel_rfl) (by kernel_rfl) (by kernel_rfl) (fun _ _ _ h => h) (Or.inl ⟨by rfl, ?_⟩) (by assumption) ?_
              rotate_left
              · first | (intro w hSw; (try dsimp only at hSw); go_simp; done) | (intro w hSw; (try dsimp only at hSw); go_simp; with_reducible rfl)
              (try simp only [Act.put, List.setIfInBounds_toArray, List.set_cons_zero, List.set_cons_succ])
              refine takeH (i := 9) (oi := _) (v := ?_) rfl (by kernel_rfl) (by kernel_rfl) (by kernel_rfl) (fun _ _ _ h => h) (Or.inl ⟨by rfl, ?_⟩) (by assumption) ?_
              rotate_left
              · first | (intro w hSw; (try dsimp only at hSw); go_simp; done) | (intro w hSw; (try dsimp only at hSw); go_simp; with_reducible rfl)
              (try simp only [Act.put, List.setIfInBounds_toArray, List.set_cons_zero, List.set_cons_succ])
              refine takeH (i := 10) (oi := _) (v := ?_) rfl (by kernel_rfl) (by kernel_rfl) (by kernel_rfl) (fun _ _ _ h => h) (Or.inl ⟨by rfl, ?_⟩) (by assumption) ?_
              rotate_left
              · first | (intro w hSw; (try dsimp only at hSw); go_simp; done) | (intro w hSw; (try dsimp only at hSw); go_simp; with_reducible rfl)
              (try simp only [Act.put, List.setIfInBounds_toArray, List.set_cons_zero, List.set_cons_succ])
              refine takeH (i := 11) (oi := _) (v := ?_) rfl (by kernel_rfl) (by kernel_rfl) (by kernel_rfl) (fun _ _ _ h => h) (Or.inl ⟨by rfl, ?_⟩) (by assumption) ?_
              rotate_left
              · first | (intro w hSw; (try dsimp only at hSw); go_simp; done) | (intro w hSw; (try dsimp only at hSw); go_simp; with_reducible rfl)
              (try simp only [Act.put, List.setIfInBounds_toArray, List.set_cons_zero, List.set_cons_succ])
              refine takeH (i := 12) (oi := _) (v := ?_) rfl (by kernel_rfl) (by kernel_rfl) (by kernel_rfl) (fun _ _ _ h => h) (Or.inl ⟨by rfl, ?_⟩) (by assumption) ?_
              rotate_left
              · first | (intro w hSw; (try dsimp only at hSw); go_simp; done) | (intro w hSw; (try dsimp only at hSw); go_simp; with_reducible rfl)
              (try simp only [Act.put, List.setIfInBounds_toArray, List.set_cons_zero, List.set_cons_succ])
              refine takeH (i := 13) (oi := _) (v := ?_) rfl (by kernel_rfl) (by kernel_rfl) (by kernel_rfl) (fun _ _ _ h => h) (Or.inl ⟨by rfl, ?_⟩) (by assumption) ?_
              rotate_left
              · first | (intro w hSw; (try dsimp only at hSw); go_simp; done) | (intro w hSw; (try dsimp only at hSw); go_simp; with_reducible rfl)
              (try simp only [Act.put, List.setIfInBounds_toArray, List.set_cons_zero, List.set_cons_succ])
              refine wpAnyH_ready (rs := [14]) (by kernel_rfl) (by simp) ?_
              refine consH rfl (fun Kq hKq => ?_)
              go_simp
              (go_at_call 69; refine (HcK.out _ (by assumption : KeepR wr _ ∧ _).1).mono ?_; rintro e' w6 ⟨rfl, b6⟩; have hk6 := KeepR.next b6 (by assumption : KeepR wr _ ∧ _).1)
              refine hKq.out _ _ ?_ (fun hHeld1 => ?_)
              · (try dsimp only); first | exact keepC4 (by assumption) x0 x1 hcW hc9 | exact keepC4 (KeepR.start _) x0 x1 hcW hc9
              clear hKq Kq
              (try simp only [Act.put, List.setIfInBounds_toArray, List.set_cons_zero, List.set_cons_succ])
              clear hHeld0
              refine takeH (i := 15) (oi := _) (v := ?_) rfl (by kernel_rfl) (by kernel_rfl) (by kernel_rfl) (fun _ _ _ h => h) (Or.inl ⟨by rfl, ?_⟩) (by assumption) ?_
              rotate_left
              · first | (intro w hSw; (try dsimp only at hSw); go_simp; done) | (intro w hSw; (try dsimp only at hSw); go_simp; with_reducible rfl)
              (try simp only [Act.put, List.setIfInBounds_toArray, List.set_cons_zero, List.set_cons_succ])
              refine takeH (i := 16) (oi := _) (v := ?_) rfl (by kernel_rfl) (by kernel_rfl) (by kernel_rfl) (fun _ _ _ h => h) (Or.inl ⟨by rfl, ?_⟩) (by assumption) ?_
              rotate_left
              · first | (intro w hSw; (try dsimp only at hSw); go_simp; done) | (intro w hSw; (try dsimp only at hSw); go_simp; with_reducible rfl)
              (try simp only [Act.put, List.setIfInBounds_toArray, List.set_cons_zero, List.set_cons_succ])
              refine wpAnyH_done (by kernel_rfl) ?_ _
              refine NoPanic.normal ?_
              go_wp2_with fail
              have hk6' : Below wr.heap.size wr w6 := hk6
              go_roundw
              case rel => exact ⟨y + 1, by omega, by go_num, fun z hz => by
                by_cases e : z = y
                · subst e; exact Hd0.out
                · exact Hall.out z (by omega), G9.out.below hk6', HP.out.below hk6', hbel.trans (hk6'.mono hbel.size)⟩
              case measure => simp [intOf]; omega
            · have Hv := Lib.hid (Hno.out fun h => by
                rcases Hdb.out.1 h with h | h
                · rw [HE.out] at h; cases h
                · exact hpk h)
              have hpn : (pv != kv) = true := by rw [bne_iff_ne]; exact hpk
              refine wp_region_noPanic ?_
              refine wp_region_held_drew (S := fun W' => KeepR wr W' ∧ W'.cell? ⟨w.heap.size, 0, none⟩ = some (.slice aP x cP) ∧ W'.cell? ⟨w.heap.size, 1, none⟩ = some (.slice (some ⟨bW, oW, none⟩) nW cW) ∧ W'.cell? ⟨bW, oW + y, none⟩ = some (.int .i64 0) ∧ W'.cell? ⟨b9, o9 + y, none⟩ = some (.int .i64 pv)) (by kernel_rfl) ?_ (fun hHeld0 => ?_)
              · (try dsimp only); first | exact keepC4 (by assumption) x0 x1 hcW hc9 | exact keepC4 (KeepR.start _) x0 x1 hcW hc9
              refine takeH (i := 0) (oi := _) (v := ?_) rfl (by kernel_rfl) (by kernel_rfl) (by kernel_rfl) (fun _ _ _ h => h) (Or.inl ⟨by rfl, ?_⟩) (by assumption) ?_
              rotate_left
              · first | (intro w hSw; (try dsimp only at hSw); go_simp; done) | (intro w hSw; (try dsimp only at hSw); go_simp; with_reducible rfl)
              (try simp only [Act.put, List.setIfInBounds_toArray, List.set_cons_zero, List.set_cons_succ])
              refine takeH (i := 1) (oi := _) (v := ?_) rfl (by kernel_rfl) (by kernel_rfl) (by kernel_rfl) (fun _ _ _ h => h) (Or.inl ⟨by rfl, ?_⟩) (by assumption) ?_
              rotate_left
              · first | (intro w hSw; (try dsimp only at hSw); go_simp; done) | (intro w hSw; (try dsimp only at hSw); go_simp; with_reducible rfl)
              (try simp only [Act.put, List.setIfInBounds_toArray, List.set_cons_zero, List.set_cons_succ])
              refine takeH (i := 2) (oi := _) (v := ?_) rfl (by kernel_rfl) (by kernel_rfl) (by kernel_rfl) (fun _ _ _ h => h) (Or.inl ⟨by rfl, ?_⟩) (by assumption) ?_
              rotate_left
              · first | (intro w hSw; (try dsimp only at hSw); go_simp; done) | (intro w hSw; (try dsimp only at hSw); go_simp; with_reducible rfl)
              (try simp only [Act.put, List.setIfInBounds_toArray, List.set_cons_zero, List.set_cons_succ])
              refine takeH (i := 3) (oi := _) (v := ?_) rfl (by kernel_rfl) (by kernel_rfl) (by kernel_rfl) (fun _ _ _ h => h) (Or.inl ⟨by rfl, ?_⟩) (by assumption) ?_
              rotate_left
              · first | (intro w hSw; (try dsimp only at hSw); go_simp; done) | (intro w hSw; (try dsimp only at hSw); go_simp; with_reducible rfl)
              (try simp only [Act.put, List.setIfInBounds_toArray, List.set_cons_zero, List.set_cons_succ])
              refine takeH (i := 4) (oi := _) (v := ?_) rfl (by kernel_rfl) (by kernel_rfl) (by kernel_rfl) (fun _ _ _ h => h) (Or.inl ⟨by rfl, ?_⟩) (by assumption) ?_
              rotate_left
              · first | (intro w hSw; (try dsimp only at hSw); go_simp; done) | (intro w hSw; (try dsimp only at hSw); go_simp; with_reducible rfl)
              (try simp only [Act.put, List.setIfInBounds_toArray, List.set_cons_zero, List.set_cons_succ])
              refine takeH (i := 5) (oi := _) (v := ?_) rfl (by kernel_rfl) (by kernel_rfl) (by kernel_rfl) (fun _ _ _ h => h) (Or.inl ⟨by rfl, ?_⟩) (by assumption) ?_
              rotate_left
              · first | (intro w hSw; (try dsimp only at hSw); go_simp; done) | (intro w hSw; (try dsimp only at hSw); go_simp; with_reducible rfl)
              (try simp only [Act.put, List.setIfInBounds_toArray, List.set_cons_zero, List.set_cons_succ])
              refine takeH (i := 6) (oi := _) (v := ?_) rfl (by kernel_rfl) (by kernel_rfl) (by kernel_rfl) (fun _ _ _ h => h) (Or.inl ⟨by rfl, ?_⟩) (by assumption) ?_
              rotate_left
              · first | (intro w hSw; (try dsimp only at hSw); go_simp; done) | (intro w hSw; (try dsimp only at hSw); go_simp; with_reducible rfl)
              (try simp only [Act.put, List.setIfInBounds_toArray, List.set_cons_zero, List.set_cons_succ])
              refine takeH (i := 7) (oi := _) (v := ?_) rfl (by kernel_rfl) (by kernel_rfl) (by kernel_rfl) (fun _ _ _ h => h) (Or.inl ⟨by rfl, ?_⟩) (by assumption) ?_
              rotate_left
              · first | (intro w hSw; (try dsimp only at hSw); go_simp; done) | (intro w hSw; (try dsimp only at hSw); go_simp; with_reducible rfl)
              (try simp only [Act.put, List.setIfInBounds_toArray, List.set_cons_zero, List.set_cons_succ])
              refine takeH (i := 8) (oi := _) (v := ?_) rfl (by kernel_rfl) (by kernel_rfl) (by kernel_rfl) (fun _ _ _ h => h) (Or.inl ⟨by rfl, ?_⟩) (by assumption) ?_
              rotate_left
              · first | (intro w hSw; (try dsimp only at hSw); go_simp; done) | (intro w hSw; (try dsimp only at hSw); go_simp; with_reducible rfl)
              (try simp only [Act.put, List.setIfInBounds_toArray, List.set_cons_zero, List.set_cons_succ])
              refine takeH (i := 9) (oi := _) (v := ?_) rfl (by kernel_rfl) (by kernel_rfl) (by kernel_rfl) (fun _ _ _ h => h) (Or.inl ⟨by rfl, ?_⟩) (by assumption) ?_
              rotate_left
              · first | (intro w hSw; (try dsimp only at hSw); go_simp; done) | (intro w hSw; (try dsimp only at hSw); go_simp; with_reducible rfl)
              (try simp only [Act.put, List.setIfInBounds_toArray, List.set_cons_zero, List.set_cons_succ])
              refine takeH (i := 10) (oi := _) (v := ?_) rfl (by kernel_rfl) (by kernel_rfl) (by kernel_rfl) (fun _ _ _ h => h) (Or.inl ⟨by rfl, ?_⟩) (by assumption) ?_
              rotate_left
              · first | (intro w hSw; (try dsimp only at hSw); go_simp; done) | (intro w hSw; (try dsimp only at hSw); go_simp; with_reducible rfl)
              (try simp only [Act.put, List.setIfInBounds_toArray, List.set_cons_zero, List.set_cons_succ])
              refine takeH (i := 11) (oi := _) (v := ?_) rfl (by kernel_rfl) (by kernel_rfl) (by kernel_rfl) (fun _ _ _ h => h) (Or.inl ⟨by rfl, ?_⟩) (by assumption) ?_
              rotate_left
              · first | (intro w hSw; (try dsimp only at hSw); go_simp; done) | (intro w hSw; (try dsimp only at hSw); go_simp; with_reducible rfl)
              (try simp only [Act.put, List.setIfInBounds_toArray, List.set_cons_zero, List.set_cons_succ])
              refine takeH (i := 12) (oi := _) (v := ?_) rfl (by kernel_rfl) (by kernel_rfl) (by kernel_rfl) (fun _ _ _ h => h) (Or.inl ⟨by rfl, ?_⟩) (by assumption) ?_
              rotate_left
              · first | (intro w hSw; (try dsimp only at hSw); go_simp; done) | (intro w hSw; (try dsimp only at hSw); go_simp; with_reducible rfl)
              (try simp only [Act.put, List.setIfInBounds_toArray, List.set_cons_zero, List.set_cons_succ])
              refine takeH (i := 13) (oi := _) (v := ?_) rfl (by kernel_rfl) (by kernel_rfl) (by kernel_rfl) (fun _ _ _ h => h) (Or.inl ⟨by rfl, ?_⟩) (by assumption) ?_
              rotate_left
              · first | (intro w hSw; (try dsimp only at hSw); go_simp; done) | (intro w hSw; (try dsimp only at hSw); go_simp; with_reducible rfl)
              (try simp only [Act.put, List.setIfInBounds_toArray, List.set_cons_zero, List.set_cons_succ])
              refine wpAnyH_ready (rs := [14]) (by kernel_rfl) (by simp) ?_
              refine consH rfl (fun Kq hKq => ?_)
              go_simp
              (go_at_call 69; refine (HcK.out _ (by assumption : KeepR wr _ ∧ _).1).mono ?_; rintro e' w6 ⟨rfl, b6⟩; have hk6 := KeepR.next b6 (by assumption : KeepR wr _ ∧ _).1)
              refine hKq.out _ _ ?_ (fun hHeld1 => ?_)
              · (try dsimp only); first | exact keepC4 (by assumption) x0 x1 hcW hc9 | exact keepC4 (KeepR.start _) x0 x1 hcW hc9
              clear hKq Kq
              (try simp only [Act.put, List.setIfInBounds_toArray, List.set_cons_zero, List.set_cons_succ])
              clear hHeld0
              refine takeH (i := 15) (oi := _) (v := ?_) rfl (by kernel_rfl) (by kernel_rfl) (by kernel_rfl) (fun _ _ _ h => h) (Or.inl ⟨by rfl, ?_⟩) (by assumption) ?_
              rotate_left
              · first | (intro w hSw; (try dsimp only at hSw); go_simp; done) | (intro w hSw; (try dsimp only at hSw); go_simp; with_reducible rfl)
              (try simp only [Act.put, List.setIfInBounds_toArray, List.set_cons_zero, List.set_cons_succ])
              refine takeH (i := 16) (oi := _) (v := ?_) rfl (by kernel_rfl) (by kernel_rfl) (by kernel_rfl) (fun _ _ _ h => h) (Or.inl ⟨by rfl, ?_⟩) (by assumption) ?_
              rotate_left
              · first | (intro w hSw; (try dsimp only at hSw); go_simp; done) | (intro w hSw; (try dsimp only at hSw); go_simp; with_reducible rfl)
              (try simp only [Act.put, List.setIfInBounds_toArray, List.set_cons_zero, List.set_cons_succ])
              refine wpAnyH_done (by kernel_rfl) ?_ _
              refine NoPanic.normal ?_
              go_wp2_with fail
              have hk6' : Below wr.heap.size wr w6 := hk6
              go_ret
              exact ⟨by rw [Hv.out]; rfl, hbel.trans (hk6'.mono hbel.size)⟩
          · have hw0 := HTT.out.leaf y hyn he
            have Hd0 : Hid (drA ps ws l y = 0) := Lib.hid (Hdb.out.2 (.inl he))
            clear he
            generalize nth ws y = wv at *
            have hwz : (wv == 0) = false := by rw [beq_eq_false_iff_ne]; omega
            have hwz2 : ¬ wv = 0 := by omega
            generalize nth (sums ps ws) y * nth l y = pv at *
            refine wp_region_noPanic ?_
            refine wp_region_held_drew (S := fun W' => KeepR wr W' ∧ W'.cell? ⟨w.heap.size, 0, none⟩ = some (.slice aP x cP) ∧ W'.cell? ⟨w.heap.size, 1, none⟩ = some (.slice (some ⟨bW, oW, none⟩) nW cW) ∧ W'.cell? ⟨bW, oW + y, none⟩ = some (.int .i64 wv) ∧ W'.cell? ⟨b9, o9 + y, none⟩ = some (.int .i64 pv)) (by kernel_rfl) ?_ (fun hHeld0 => ?_)
            · (try dsimp only); first | exact keepC4 (by assumption) x0 x1 hcW hc9 | exact keepC4 (KeepR.start _) x0 x1 hcW hc9
            refine takeH (i := 0) (oi := _) (v := ?_) rfl (by kernel_rfl) (by kernel_rfl) (by kernel_rfl) (fun _ _ _ h => h) (Or.inl ⟨by rfl, ?_⟩) (by assumption) ?_
            rotate_left
            · first | (intro w hSw; (try dsimp only at hSw); go_simp; done) | (intro w hSw; (try dsimp only at hSw); go_simp; with_reducible rfl)
            (try simp only [Act.put, List.setIfInBounds_toArray, List.set_cons_zero, List.set_cons_succ])
            refine takeH (i := 1) (oi := _) (v := ?_) rfl (by kernel_rfl) (by kernel_rfl) (by kernel_rfl) (fun _ _ _ h => h) (Or.inl ⟨by rfl, ?_⟩) (by assumption) ?_
            rotate_left
            · first | (intro w hSw; (try dsimp only at hSw); go_simp; done) | (intro w hSw; (try dsimp only at hSw); go_simp; with_reducible rfl)
            (try simp only [Act.put, List.setIfInBounds_toArray, List.set_cons_zero, List.set_cons_succ])
            refine takeH (i := 2) (oi := _) (v := ?_) rfl (by kernel_rfl) (by kernel_rfl) (by kernel_rfl) (fun _ _ _ h => h) (Or.inl ⟨by rfl, ?_⟩) (by assumption) ?_
            rotate_left
            · first | (intro w hSw; (try dsimp only at hSw); go_simp; done) | (intro w hSw; (try dsimp only at hSw); go_simp; with_reducible rfl)
            (try simp only [Act.put, List.setIfInBounds_toArray, List.set_cons_zero, List.set_cons_succ])
            refine takeH (i := 3) (oi := _) (v := ?_) rfl (by kernel_rfl) (by kernel_rfl) (by kernel_rfl) (fun _ _ _ h => h) (Or.inl ⟨by rfl, ?_⟩) (by assumption) ?_
            rotate_left
            · first | (intro w hSw; (try dsimp only at hSw); go_simp; done) | (intro w hSw; (try dsimp only at hSw); go_simp; with_reducible rfl)
            (try simp only [Act.put, List.setIfInBounds_toArray, List.set_cons_zero, List.set_cons_succ])
            refine takeH (i := 4) (oi := _) (v := ?_) rfl (by kernel_rfl) (by kernel_rfl) (by kernel_rfl) (fun _ _ _ h => h) (Or.inl ⟨by rfl, ?_⟩) (by assumption) ?_
            rotate_left
            · first | (intro w hSw; (try dsimp only at hSw); go_simp; done) | (intro w hSw; (try dsimp only at hSw); go_simp; with_reducible rfl)
            (try simp only [Act.put, List.setIfInBounds_toArray, List.set_cons_zero, List.set_cons_succ])
            refine takeH (i := 5) (oi := _) (v := ?_) rfl (by kernel_rfl) (by kernel_rfl) (by kernel_rfl) (fun _ _ _ h => h) (Or.inl ⟨by rfl, ?_⟩) (by assumption) ?_
            rotate_left
            · first | (intro w hSw; (try dsimp only at hSw); go_simp; done) | (intro w hSw; (try dsimp only at hSw); go_simp; with_reducible rfl)
            (try simp only [Act.put, List.setIfInBounds_toArray, List.set_cons_zero, List.set_cons_succ])
            refine takeH (i := 6) (oi := _) (v := ?_) rfl (by kernel_rfl) (by kernel_rfl) (by kernel_rfl) (fun _ _ _ h => h) (Or.inl ⟨by rfl, ?_⟩) (by assumption) ?_
            rotate_left
            · first | (intro w hSw; (try dsimp only at hSw); go_simp; done) | (intro w hSw; (try dsimp only at hSw); go_simp; with_reducible rfl)
            (try simp only [Act.put, List.setIfInBounds_toArray, List.set_cons_zero, List.set_cons_succ])
            refine takeH (i := 7) (oi := _) (v := undef) rfl (by kernel_rfl) (by kernel_rfl) (by kernel_rfl) (fun _ _ _ h => h) (Or.inr ⟨by rfl, rfl⟩) (by assumption) ?_
            (try simp only [Act.put, List.setIfInBounds_toArray, List.set_cons_zero, List.set_cons_succ])
            refine takeH (i := 8) (oi := _) (v := undef) rfl (by kernel_rfl) (by kernel_rfl) (by kernel_rfl) (fun _ _ _ h => h) (Or.inr ⟨by rfl, rfl⟩) (by assumption) ?_
            (try simp only [Act.put, List.setIfInBounds_toArray, List.set_cons_zero, List.set_cons_succ])
            refine takeH (i := 9) (oi := _) (v := undef) rfl (by kernel_rfl) (by kernel_rfl) (by kernel_rfl) (fun _ _ _ h => h) (Or.inr ⟨by rfl, rfl⟩) (by assumption) ?_
            (try simp only [Act.put, List.setIfInBounds_toArray, List.set_cons_zero, List.set_cons_succ])
            refine takeH (i := 10) (oi := _) (v := undef) rfl (by kernel_rfl) (by kernel_rfl) (by kernel_rfl) (fun _ _ _ h => h) (Or.inr ⟨by rfl, rfl⟩) (by assumption) ?_
            (try simp only [Act.put, List.setIfInBounds_toArray, List.set_cons_zero, List.set_cons_succ])
            refine takeH (i := 11) (oi := _) (v := undef) rfl (by kernel_rfl) (by kernel_rfl) (by kernel_rfl) (fun _ _ _ h => h) (Or.inr ⟨by rfl, rfl⟩) (by assumption) ?_
            (try simp only [Act.put, List.setIfInBounds_toArray, List.set_cons_zero, List.set_cons_succ])
            refine takeH (i := 12) (oi := _) (v := undef) rfl (by kernel_rfl) (by kernel_rfl) (by kernel_rfl) (fun _ _ _ h => h) (Or.inr ⟨by rfl, rfl⟩) (by assumption) ?_
            (try simp only [Act.put, List.setIfInBounds_toArray, List.set_cons_zero, List.set_cons_succ])
            refine takeH (i := 13) (oi := _) (v := undef) rfl (by kernel_rfl) (by kernel_rfl) (by kernel_rfl) (fun _ _ _ h => h) (Or.inr ⟨by rfl, rfl⟩) (by assumption) ?_
            (try simp only [Act.put, List.setIfInBounds_toArray, List.set_cons_zero, List.set_cons_succ])
            refine takeH (i := 14) (oi := _) (v := undef) rfl (by kernel_rfl) (by kernel_rfl) (by kernel_rfl) (fun _ _ _ h => h) (Or.inr ⟨by rfl, rfl⟩) (by assumption) ?_
            (try simp only [Act.put, List.setIfInBounds_toArray, List.set_cons_zero, List.set_cons_succ])
            refine takeH (i := 15) (oi := _) (v := undef) rfl (by kernel_rfl) (by kernel_rfl) (by kernel_rfl) (fun _ _ _ h => h) (Or.inr ⟨by rfl, rfl⟩) (by assumption) ?_
            (try simp only [Act.put, List.setIfInBounds_toArray, List.set_cons_zero, List.set_cons_succ])
            refine takeH (i := 16) (oi := _) (v := ?_) rfl (by kernel_rfl) (by kernel_rfl) (by kernel_rfl) (fun _ _ _ h => h) (Or.inl ⟨by rfl, ?_⟩) (by assumption) ?_
            rotate_left
            · first | (intro w hSw; (try dsimp only at hSw); go_simp; done) | (intro w hSw; (try dsimp only at hSw); go_simp; with_reducible rfl)
            (try simp only [Act.put, List.setIfInBounds_toArray, List.set_cons_zero, List.set_cons_succ])
            refine wpAnyH_done (by kernel_rfl) ?_ _
            refine NoPanic.normal ?_
            go_wp2_with fail
            go_roundw
            case rel => exact ⟨y + 1, by omega, by go_num, fun z hz => by
              by_cases e : z = y
              · subst e; exact Hd0.out
              · exact Hall.out z (by omega), G9.out.below (Below.refl _ _).drew, HP.out.below (Below.refl _ _).drew, hbel.drew⟩
            case measure => simp [intOf]; omega
        · obtain rfl : y = x := by omega
          have Hv := Lib.hid (bal_yes (ps := ps) (ws := ws) (l := l) fun z hz => Hall.out z (by have := Hl.out; omega))
          go_wp2_with fail
          go_ret
          exact ⟨by rw [Hv.out]; rfl, hbel⟩
end Go.Proofs.Ytjkkfjipgomkdaa
