/- Contracts of the reference: the first node on a way, the rule of a list of stops. -/
import Derived.Test.YtjkkfjipgomkdaaWay
import Derived.Test.YtjkkfjipgomkdaaPut
namespace Go.Proofs.Ytjkkfjipgomkdaa
open Go.RowKit

set_option maxRecDepth 100000 in
set_option maxHeartbeats 1000000 in
theorem spec_l4Stop (aP : Option Addr) (nP cP : Nat) (aW : Option Addr) (nW cW : Nat) (ps ws : List Int) (aR : Option Addr) (nR cR : Nat) (rule : List Int) (X : Nat) (w : World) (h : Tre w aP nP cP aW nW cW ps ws) (hp : Pa ps) (hR : Ints w aR nR rule) (hn : nR ≤ 1048576) (hx : X < nP) :
    Calls Try.prog 88 #[.agg #[.slice aP nP cP, .slice aW nW cW], .slice aR nR cR, .int .i64 (X : Int)] w fun e w' => e = .returned (.int .i64 (stop ps (hasB rule) X)) ∧ Below w.heap.size w w' := by
  have Hp := Lib.hid hp
  have hn24 := hp.n24
  have hl := h.p.1
  have hlw := h.w.1
  have hpn := h.pn
  have hwn := h.wn
  have hb1 := below_new w (.cells #[.slice aP nP cP, .slice aW nW cW] 28)
  have hP1 := Lib.hid (Pair.new w (.slice aP nP cP) (.slice aW nW cW) 28)
  have H := Lib.hid h
  have Hl := Lib.hid hl
  have Hlw := Lib.hid hlw
  clear h hl hlw
  have hnP : nP ≤ 24 := by have := Hl.out; omega
  have HR := Lib.hid hR
  clear hp hn24 hR
  have c0 := hP1.out.c0
  have c1 := hP1.out.c1
  go_enter Try.func88, Try.ntmps88
  go_wp2_with fail
  generalize (w.alloc (.cells #[.slice aP nP cP, .slice aW nW cW] 28)) = w2 at *
  refine (spec_l2Way _ _ _ _ _ _ ps ws X _ (H.out.below hb1) Hp.out hx).mono ?_
  rintro e w3 ⟨v, rfl, ho, hb3⟩
  obtain ⟨a3, c3, rfl⟩ := ho.shape
  have hb13 := hb1.trans (hb3.mono hb1.size)
  have HW := Lib.hid ho.ints
  have hwl := way_length Hp.out X (by have := Hl.out; omega)
  have Hst : Hid (stop ps (hasB rule) X = stopL (hasB rule) (way ps X)) := Lib.hid rfl
  clear ho hb3 hb1 c0 c1 hP1
  generalize way ps X = wy at *
  go_wp2_with fail
  go_loop [8] (fun v9 => ∃ i : Nat, i ≤ wy.length ∧ v9 = .int .i64 (i : Int) ∧ ∀ j, j < i → hasB rule (nth wy j) = false) (fun v9 => wy.length - (intOf v9).toNat)
  case atStart => exact ⟨0, Nat.zero_le _, rfl, fun j hj => by omega⟩
  case round =>
    obtain ⟨i, hi, rfl, hall⟩ := hrel
    have Hall := Lib.hid hall
    clear hall
    by_cases hlt : (i : Int) < wy.length
    · obtain ⟨b, off, rfl, hc⟩ := HW.out.at (i := i) (Below.refl _ _) (by omega)
      cases hh : hasB rule (nth wy i)
      · have Hh := Lib.hid hh
        generalize hu : nth wy i = u at hc hh
        have Hh2 := Lib.hid hh
        clear hh hu
        go_wp2_with (go_at_call 108; refine (spec_l1Has _ _ _ rule _ _ hn (HR.out.below hb13)).mono ?_; rintro e w' ⟨rfl, rfl⟩; rw [Hh2.out])
        go_round
        case rel => exact ⟨i + 1, by omega, by go_num, fun j hj => by
          by_cases e : j = i
          · subst e; exact Hh.out
          · exact Hall.out j (by omega)⟩
        case measure => simp [intOf]; omega
      · have Hv : Hid (stop ps (hasB rule) X = nth wy i) := Lib.hid (by rw [Hst.out]; exact stopL_at (by omega) Hall.out hh)
        generalize nth wy i = u at *
        have Hh2 := Lib.hid hh
        clear hh
        go_wp2_with (go_at_call 108; refine (spec_l1Has _ _ _ rule _ _ hn (HR.out.below hb13)).mono ?_; rintro e w' ⟨rfl, rfl⟩; rw [Hh2.out])
        go_ret
        exact ⟨ri Hv.out.symm, hb13⟩
    · obtain rfl : i = wy.length := by omega
      have Hv : Hid (stop ps (hasB rule) X = -1) := Lib.hid (by
        rw [Hst.out]
        refine stopL_none fun y hy => ?_
        obtain ⟨j, hj, rfl⟩ := List.mem_iff_getElem.1 hy
        have := Hall.out j hj
        rwa [nth_lt hj] at this)
      go_wp2_with fail
      go_ret
      exact ⟨ri Hv.out.symm, hb13⟩
/-- What a list of bools says of a node. -/
def bS (bs : List Bool) (y : Int) : Bool := decide (0 ≤ y) && Bo.nth bs y.toNat
theorem has_filt {bs : List Bool} {k : Nat} {y : Int} (h : y < k) : hasB (filt (Bo.nth bs) k) y = bS bs y := by
  unfold hasB bS
  rw [Bool.eq_iff_iff, List.any_eq_true]
  constructor
  · rintro ⟨z, hz, he⟩
    obtain ⟨i, hi, hb, rfl⟩ := mem_filt.1 hz
    obtain rfl : (i : Int) = y := by simpa using he
    simp [hb]
  · intro hb
    simp only [Bool.and_eq_true, decide_eq_true_eq] at hb
    exact ⟨y, mem_filt.2 ⟨y.toNat, by omega, hb.2, by omega⟩, by simp⟩
theorem stopL_congr {S S' : Int → Bool} : ∀ {xs : List Int}, (∀ y, y ∈ xs → S y = S' y) → stopL S xs = stopL S' xs
  | [], _ => rfl
  | x :: xs, h => by rw [stopL, stopL, h x (by simp), stopL_congr fun y hy => h y (by simp [hy])]
theorem stop_congr {ps : List Int} (h : Pa ps) {S S' : Int → Bool} (hS : ∀ y : Nat, y < ps.length → S y = S' y) {x : Nat} (hx : x < ps.length) : stop ps S x = stop ps S' x := stopL_congr fun y hy => by
  obtain ⟨j, hj, rfl⟩ := way_mem h x hx y hy
  exact hS j (by omega)
theorem isStop_nil (ps : List Int) (S : Int → Bool) (k : Nat) : filt (isStop ps S []) k = [] := filt_none fun _ _ => rfl
theorem isStop_app (ps : List Int) (S : Int → Bool) (es : List Int) (e : Int) (y : Nat) : isStop ps S (es ++ [e]) y = (isStop ps S es y || stop ps S e.toNat == (y : Int)) := by
  unfold isStop; rw [List.any_append]; simp
theorem stop_end {ps : List Int} (h : Pa ps) (S : Int → Bool) {x : Nat} (hx : x < ps.length) (hS : S x = true) : 0 ≤ stop ps S x := by
  have h2 : behB ps S x = true := by
    by_cases h0 : x = 0
    · subst h0; rw [(beh_zero ps S).1]; exact hS
    · have := beh_up h S (x := x) (by omega) hx
      cases hb : behB ps S (par ps x)
      · rw [(this.2 hb).1]; exact hS
      · exact (this.1 hb).1
  exact of_decide_eq_true h2
set_option maxRecDepth 100000 in
set_option maxHeartbeats 2000000 in
theorem spec_l4First (aP : Option Addr) (nP cP : Nat) (aW : Option Addr) (nW cW : Nat) (ps ws : List Int) (aS : Option Addr) (nS cS : Nat) (bs : List Bool) (w : World) (h : Tre w aP nP cP aW nW cW ps ws) (hp : Pa ps) (hS : Bo.Ints w aS nS bs) (hn : nP = nS) (he : ∀ x, x < ps.length → endB ps x = true → Bo.nth bs x = true) :
    Calls Try.prog 66 #[.agg #[.slice aP nP cP, .slice aW nW cW], .slice aS nS cS] w fun e w' => ∃ v, e = .returned v ∧ Own w' w.heap.size v (firsts ps (bS bs)) ∧ Below w.heap.size w w' := by
  subst hn
  have Hp := Lib.hid hp
  have hn24 := hp.n24
  have hl := h.p.1
  have hlw := h.w.1
  have hpn := h.pn
  have hwn := h.wn
  have hb1 := below_new w (.cells #[.slice aP nP cP, .slice aW nW cW] 28)
  have hP1 := Lib.hid (Pair.new w (.slice aP nP cP) (.slice aW nW cW) 28)
  have H := Lib.hid h
  have Hl := Lib.hid hl
  have Hlw := Lib.hid hlw
  clear h hl hlw
  have hnP : nP ≤ 24 := by have := Hl.out; omega
  have HS := Lib.hid hS
  have He := Lib.hid he
  clear hp hn24 hS he
  go_enter Try.func66, Try.ntmps66
  go_wp2_with fail
  have hn1 := own_nil0 (w.alloc (.cells #[.slice aP nP cP, .slice aW nW cW] 28))
  have hn2 := own_nil0 ((w.alloc (.cells #[.slice aP nP cP, .slice aW nW cW] 28)).alloc (.cells #[] 3))
  rw [show (w.alloc (.cells #[.slice aP nP cP, .slice aW nW cW] 28)).heap.size = w.heap.size + 1 by simp] at hn1
  rw [show ((w.alloc (.cells #[.slice aP nP cP, .slice aW nW cW] 28)).alloc (.cells #[] 3)).heap.size = w.heap.size + 2 by simp] at hn2
  have hn1' := hn1.below (below_new _ (.cells #[] 3))
  have hb2 : Below w.heap.size w (((w.alloc (.cells #[.slice aP nP cP, .slice aW nW cW] 28)).alloc (.cells #[] 3)).alloc (.cells #[] 3)) := (hb1.alloc (by simp) _).alloc (by simp; omega) _
  have hs2 : (((w.alloc (.cells #[.slice aP nP cP, .slice aW nW cW] 28)).alloc (.cells #[] 3)).alloc (.cells #[] 3)).heap.size = w.heap.size + 3 := by simp
  have hP2 := Lib.hid ((hP1.out.alloc (.cells #[] 3)).alloc (.cells #[] 3))
  generalize (((w.alloc (.cells #[.slice aP nP cP, .slice aW nW cW] 28)).alloc (.cells #[] 3)).alloc (.cells #[] 3)) = w2 at *
  clear hP1 hb1 hn1
  refine (spec_l2Ends _ _ _ _ _ _ ps ws _ (H.out.below hb2) Hp.out).mono ?_
  rintro e w3 ⟨v, rfl, ho, hb3⟩
  obtain ⟨a3, c3, rfl⟩ := ho.shape
  have hEL : (ends ps).length ≤ 24 := by have := filt_length (endB ps) ps.length; have := Hl.out; unfold ends; omega
  have HE := Lib.hid ho.ints
  have hap0 : Hid (0 < (ends ps).length → Apart a3 (.slice (some ⟨w.heap.size + 2, 0, none⟩) 0 0)) := Lib.hid fun h0 p hp e => by
    obtain ⟨g, cap, he, hg, _⟩ := ho.form h0
    cases he
    cases hp
    simp [Value.ownBlock] at e
    omega
  have hb13 := hb2.trans (hb3.mono hb2.size)
  have HO := Lib.hid (hn1'.below hb3)
  have HSm := Lib.hid (hn2.below hb3)
  have HP3 := Lib.hid (hP2.out.below hb3)
  have hs3 := hb3.size
  have HEm : Hid (∀ i, i < (ends ps).length → ∃ j : Nat, j < nP ∧ endB ps j = true ∧ nth (ends ps) i = j) := Lib.hid fun i hi => by
    obtain ⟨j, h1, h2, h3⟩ := nth_filt hi
    exact ⟨j, by have := Hl.out; omega, h2, h3⟩
  have Hfin : Hid (filt (isStop ps (bS bs) (ends ps)) nP = firsts ps (bS bs)) := Lib.hid (by
    unfold firsts; rw [Hl.out]
    exact filt_congr fun y hy => isStop_ends Hp.out _ (by have := Hl.out; omega))
  clear ho hb3 hn1' hn2 hP2 hb2
  obtain ⟨E, hE⟩ : ∃ E, E = ends ps := ⟨_, rfl⟩
  rw [← hE] at hEL HE hap0 HEm Hfin ⊢
  clear hE
  go_wp2_with fail
  go_loopw [6, 8] (fun v6 v8 wr => ∃ k : Nat, k ≤ nP ∧ v8 = .int .i64 (k : Int) ∧ Own wr (w.heap.size + 2) v6 (filt (Bo.nth bs) k) ∧ Own wr (w.heap.size + 1) (.slice (some ⟨w.heap.size + 1, 0, none⟩) 0 0) [] ∧ Ints wr a3 E.length E ∧ (0 < E.length → Apart a3 v6) ∧ Pair wr w.heap.size (.slice aP nP cP) (.slice aW nW cW) ∧ Below w.heap.size w wr ∧ w.heap.size + 2 ≤ wr.heap.size) (fun _ v8 _ => nP - (intOf v8).toNat)
  case atStart => exact ⟨0, Nat.zero_le _, rfl, HSm.out, HO.out, HE.out, hap0.out, HP3.out, hb13, by omega⟩
  case round =>
    clear hb13 HSm HO HE hap0 HP3 hs2 hs3
    obtain ⟨k, hk, rfl, hsm, hou, hen, hap, hP, hbel, hsz⟩ := hrel
    have HP := Lib.hid hP
    have HO := Lib.hid hou
    have HE := Lib.hid hen
    have Hap := Lib.hid hap
    have c0 := hP.c0
    have c1 := hP.c1
    clear hP hou hen hap
    by_cases hlt : (k : Int) < nP
    · obtain ⟨b, off, rfl, hc⟩ := HS.out.at (i := k) hbel (by omega)
      have hlen := filt_length (Bo.nth bs) k
      cases hb : Bo.nth bs k
      · rw [hb] at hc
        have Hf := Lib.hid (filt_f hb)
        clear hb
        go_wp2_with fail
        go_roundw
        case rel => exact ⟨k + 1, by omega, by go_num, by rw [Hf.out]; exact hsm, HO.out, HE.out, Hap.out, HP.out, hbel, hsz⟩
        case measure => simp [intOf]; omega
      · rw [hb] at hc
        have Hf := Lib.hid (filt_t hb)
        clear hb
        go_wp2_with (at_builtin; refine wp_push2 _ _ rfl rfl (w.heap.size + 2) _ _ rfl hsm rfl (by omega) hsz ?_; intro v' w' ho hb hm)
        have hE2 := HE.out.moved hm Hap.out
        have hO2 := HO.out.moved hm (fun g hg e => by have := (World.ownsRow.lt hsm g e).1; simp [Value.ownBlock] at hg; omega)
        go_roundw
        case rel => exact ⟨k + 1, by omega, by go_num, by rw [Hf.out]; exact ho, hO2, hE2.1, hE2.2, HP.out.up hb (by omega), hbel.trans (hb.mono (by omega)), Nat.le_trans hsz hb.size⟩
        case measure => simp [intOf]; omega
    · obtain rfl : k = nP := by omega
      obtain ⟨a6, c6, rfl⟩ := hsm.shape
      have HSi := Lib.hid hsm.ints
      have hS6 := filt_length (Bo.nth bs) k
      have Hhas : Hid (∀ x : Nat, x < k → stop ps (hasB (filt (Bo.nth bs) k)) x = stop ps (bS bs) x) := Lib.hid fun x hx => stop_congr Hp.out (fun y hy => has_filt (by have := Hl.out; omega)) (by have := Hl.out; omega)
      clear hsm hlt Hap
      generalize filt (Bo.nth bs) k = sm at *
      go_wp2_with fail
      go_loopw [5, 9] (fun v5 v9 wr => ∃ i : Nat, i ≤ E.length ∧ v9 = .int .i64 (i : Int) ∧ Own wr (w.heap.size + 1) v5 (filt (isStop ps (bS bs) (E.take i)) k) ∧ Ints wr a6 sm.length sm ∧ Ints wr a3 E.length E ∧ Pair wr w.heap.size (.slice aP k cP) (.slice aW nW cW) ∧ Below w.heap.size w wr) (fun _ v9 _ => E.length - (intOf v9).toNat)
      case atStart => exact ⟨0, Nat.zero_le _, rfl, by rw [List.take_zero, isStop_nil]; exact HO.out, HSi.out, HE.out, HP.out, hbel⟩
      case round =>
        clear hbel HSi HO HE HP hsz c0 c1
        obtain ⟨i, hi, rfl, hou, hsi, hen, hP, hbel⟩ := hrel
        have c0 := hP.c0
        have c1 := hP.c1
        have HP := Lib.hid hP
        have HO := Lib.hid hou
        have HE := Lib.hid hen
        have HSi := Lib.hid hsi
        clear hP hou hen hsi
        by_cases hlt : (i : Int) < E.length
        · obtain ⟨b3, o3, rfl, hc3⟩ := HE.out.at (i := i) (Below.refl _ _) (by omega)
          obtain ⟨x, hx, hxe, hxn⟩ := HEm.out i (by omega)
          rw [hxn] at hc3
          have hst := Hhas.out x hx
          have hse : bS bs x = true := by unfold bS; simp [He.out x (by have := Hl.out; omega) hxe]
          have h0 := stop_end Hp.out (bS bs) (x := x) (by have := Hl.out; omega) hse
          have hl0 := stop_low Hp.out (bS bs) x (by have := Hl.out; omega)
          obtain ⟨Y, hY⟩ : ∃ Y : Nat, stop ps (bS bs) x = Y := ⟨(stop ps (bS bs) x).toNat, by omega⟩
          have hYk : Y < k := by omega
          have Hnext : Hid (filt (fun z => isStop ps (bS bs) (E.take i) z || z == Y) k = filt (isStop ps (bS bs) (E.take (i + 1))) k) := Lib.hid (filt_congr fun z hz => by
            rw [take_succ_nth (by omega), hxn, isStop_app, Int.toNat_natCast, hY]
            congr 1
            rw [Bool.eq_iff_iff, beq_iff_eq, beq_iff_eq]; omega)
          have Hcall : Hid (∀ W : World, Below w.heap.size w W → Ints W a6 sm.length sm → Calls Try.prog 88 #[.agg #[.slice aP k cP, .slice aW nW cW], .slice a6 sm.length c6, .int .i64 (x : Int)] W fun e w' => e = .returned (.int .i64 (Y : Int)) ∧ Below W.heap.size W w') := Lib.hid fun W hW hI => by
            have := spec_l4Stop _ _ _ _ _ _ ps ws a6 _ c6 sm x W (H.out.below hW) Hp.out hI (by omega) hx
            rw [hst, hY] at this
            exact this
          obtain ⟨a5, c5, rfl⟩ := HO.out.shape
          have hol := filt_length (isStop ps (bS bs) (E.take i)) k
          have hbs : w.heap.size + 1 ≤ wr.heap.size := by have := HP.out.lt; omega
          clear hst hse h0 hl0 hY hxe hxn
          go_wp2_with fail
          go_region_held3 (fun W' => KeepR wr W' ∧ W'.cell? ⟨w.heap.size, 0, none⟩ = some (.slice aP k cP) ∧ W'.cell? ⟨w.heap.size, 1, none⟩ = some (.slice aW nW cW) ∧ W'.cell? ⟨b3, o3 + i, none⟩ = some (.int .i64 (x : Int)))
            (first | exact keepC3 (by assumption) c0 c1 hc3 | exact keepC3 (KeepR.start _) c0 c1 hc3)
            (first
              | (go_at_call 88; refine (Hcall.out _ (hbel.trans (Below.mono (by assumption : KeepR wr _ ∧ _).1 hbel.size)) (HSi.out.below (by assumption : KeepR wr _ ∧ _).1)).mono ?_; rintro e w7 ⟨rfl, hb7⟩
                 have hk7 := KeepR.next hb7 (by assumption : KeepR wr _ ∧ _).1)
              | (go_at_call 91; refine (spec_l1Put _ _ _ (isStop ps (bS bs) (E.take i)) k Y (w.heap.size + 1) _ (by omega) hYk (Nat.le_trans hbs (by assumption : KeepR wr _ ∧ _).1.size) (HO.out.below (by assumption : KeepR wr _ ∧ _).1)).mono ?_; rintro e w8 ⟨v8, rfl, ho8, hb8⟩
                 have hk8 := KeepR.next hb8 (by assumption : KeepR wr _ ∧ _).1))
          go_wp2_with fail
          rw [Hnext.out] at ho8
          have hk8' : Below wr.heap.size wr w8 := hk8
          go_roundw
          case rel => exact ⟨i + 1, by omega, by go_num, ho8, HSi.out.below hk8', HE.out.below hk8', HP.out.below hk8', hbel.trans (hk8'.mono hbel.size)⟩
          case measure => simp [intOf]; omega
        · obtain rfl : i = E.length := by omega
          have HO' := HO.out
          rw [List.take_length, Hfin.out] at HO'
          have HO2 := Lib.hid HO'
          clear HO' HO
          go_wp2_with fail
          go_ret
          exact ⟨_, rfl, HO2.out.mono (by omega), hbel⟩
end Go.Proofs.Ytjkkfjipgomkdaa
