/- Contracts: rising lists, ways by the program, what is in both of two lists. -/
import Derived.Test.YtjkkfjipgomkdaaSlice
import Derived.Deep.QuietTactic
import Derived.BigQuiet
namespace Go.Proofs.Ytjkkfjipgomkdaa
open Go.RowKit

/-- Is a list strictly ascending? -/
def risB (l : List Int) : Bool := (List.range l.length).all fun i => decide (i = 0 ∨ nth l (i - 1) < nth l i)
theorem ris_t {l : List Int} (h : ∀ i, 1 ≤ i → i < l.length → nth l (i - 1) < nth l i) : risB l = true := all_t fun i hi => by
  rcases Nat.eq_zero_or_pos i with rfl | h0
  · simp
  · have := h i (by omega) hi
    simp [this]
theorem ris_f {l : List Int} {i : Nat} (h1 : 1 ≤ i) (hi : i < l.length) (h : ¬ nth l (i - 1) < nth l i) : risB l = false := all_f hi (by
  rw [decide_eq_false_iff_not]; rintro (e | e)
  · omega
  · exact h e)
theorem ris_get {l : List Int} (h : risB l = true) {i : Nat} (h1 : 1 ≤ i) (hi : i < l.length) : nth l (i - 1) < nth l i := by
  have := all_get h hi
  rw [decide_eq_true_iff] at this
  rcases this with e | e
  · omega
  · exact e
set_option maxHeartbeats 400000 in
theorem impl_rising (a : Option Addr) (n cap : Nat) (l : List Int) (w : World) (hn : n ≤ 1048576) (h : Ints w a n l) :
    Calls Try.prog 110 #[.slice a n cap] w fun e w' => e = .returned (.bool (risB l)) ∧ Below w.heap.size w w' := by
  have hl := Lib.hid h.1
  have H := Lib.hid h
  clear h
  go_enter Try.func110, Try.ntmps110
  go_wp2_with fail
  go_loopw [3] (fun v3 wr => ∃ i : Nat, 1 ≤ i ∧ v3 = .int .i64 (i : Int) ∧ i ≤ n + 1 ∧ (∀ j, 1 ≤ j → j < i → j < n → nth l (j - 1) < nth l j) ∧ Below w.heap.size w wr) (fun v3 _ => n + 1 - (intOf v3).toNat)
  case atStart => exact ⟨1, Nat.le_refl _, rfl, by omega, fun j hj => by omega, Below.refl _ _⟩
  case round =>
    obtain ⟨i, h1, rfl, hin, hall, hbel⟩ := hrel
    have Hall := Lib.hid hall
    clear hall
    by_cases hlt : (i : Int) < n
    · obtain ⟨b, off, rfl, hcL⟩ := H.out.at (i := i) hbel (by omega)
      obtain ⟨b2, off2, he2, hcM⟩ := H.out.at (i := i - 1) hbel (by omega)
      cases he2
      have k1 : IntKind.i64.wrap ((i : Int) - 1) = (i : Int) - 1 := IntWalk.i64_in _ (by omega)
      have k2 : (0 : Int) ≤ (i : Int) := by omega
      have k3 : (0 : Int) ≤ (i : Int) - 1 := by omega
      have k4 : (i : Int) - 1 < (n : Int) := by omega
      have k5 : ((i : Int) - 1).toNat = i - 1 := by omega
      by_cases hge : nth l (i - 1) < nth l i
      · have Hg := Lib.hid hge
        have hge2 : ¬ nth l i ≤ nth l (i - 1) := by omega
        generalize nth l (i - 1) = u at hcM hge hge2
        generalize nth l i = v at hcL hge hge2
        go_wp2_with fail
        go_quiet (fail)
        go_wp2_with fail
        go_roundw
        case rel => exact ⟨i + 1, by omega, by go_num, by omega, fun j hj hji hn' => by
          by_cases e : j = i
          · subst e; exact Hg.out
          · exact Hall.out j hj (by omega) hn', below_drewN hbel _⟩
        case measure => simp [intOf]; omega
      · have Hv : Hid (risB l = false) := Lib.hid (ris_f h1 (by rw [hl.out]; omega) hge)
        have hge2 : nth l i ≤ nth l (i - 1) := by omega
        generalize nth l (i - 1) = u at hcM hge hge2
        generalize nth l i = v at hcL hge hge2
        go_wp2_with fail
        go_quiet (fail)
        go_wp2_with fail
        go_ret
        exact ⟨rb Hv.out.symm, below_drewN hbel _⟩
    · have Hv : Hid (risB l = true) := Lib.hid (ris_t fun j hj hj2 => Hall.out j hj (by rw [hl.out] at hj2; omega) (by rw [← hl.out]; exact hj2))
      go_wp2_with fail
      go_ret
      exact ⟨rb Hv.out.symm, hbel⟩
/-- The way to a node, none to what is above the root. -/
def wayI (ps : List Int) (c : Int) : List Int := if c < 0 then [] else way ps c.toNat
theorem wayI_nat (ps : List Int) (x : Nat) : wayI ps (x : Int) = way ps x := by
  rw [wayI, if_neg (by omega), Int.toNat_natCast]
theorem wayI_up {ps : List Int} (hp : Pa ps) {x : Nat} (hx : x < ps.length) : wayI ps (x : Int) = wayI ps (nth ps x) ++ [(x : Int)] := by
  rw [wayI_nat]
  rcases Nat.eq_zero_or_pos x with rfl | h0
  · rw [hp.p0, way_zero]; simp [wayI]
  · have := hp.upN (x := x) (by omega) hx
    rw [way_up hp (by omega) hx, this.1, wayI_nat]
set_option maxRecDepth 100000 in
set_option maxHeartbeats 1000000 in
theorem impl_way (aP : Option Addr) (nP cP : Nat) (aW : Option Addr) (nW cW : Nat) (ps ws : List Int) (X : Nat) (w : World) (h : Tre w aP nP cP aW nW cW ps ws) (hp : Pa ps) (hx : X < nP) :
    Calls Try.prog 101 #[.agg #[.slice aP nP cP, .slice aW nW cW], .int .i64 (X : Int)] w fun e w' => ∃ v, e = .returned v ∧ Own w' w.heap.size v (way ps X) ∧ Below w.heap.size w w' := by
  have Hp := Lib.hid hp
  have hn24 := hp.n24
  have hl := h.p.1
  have hlw := h.w.1
  have hpn := h.pn
  have hwn := h.wn
  have hb1 := below_new w (.cells #[.slice aP nP cP, .slice aW nW cW] 28)
  have hP1 := Lib.hid (Pair.new w (.slice aP nP cP) (.slice aW nW cW) 28)
  have H := Lib.hid h
  have Hl := Lib.hid hl
  have Hlw := Lib.hid hlw
  clear h hl hlw
  have hnP : nP ≤ 24 := by have := Hl.out; omega
  clear hp hn24
  go_enter Try.func101, Try.ntmps101
  go_wp2_with fail
  have hnil := own_nil0 (w.alloc (.cells #[.slice aP nP cP, .slice aW nW cW] 28))
  rw [show (w.alloc (.cells #[.slice aP nP cP, .slice aW nW cW] 28)).heap.size = w.heap.size + 1 by simp] at hnil
  have hb2 : Below w.heap.size w ((w.alloc (.cells #[.slice aP nP cP, .slice aW nW cW] 28)).alloc (.cells #[] 3)) := hb1.alloc (by simp) _
  have hP2 := Lib.hid (hP1.out.alloc (.cells #[] 3))
  generalize ((w.alloc (.cells #[.slice aP nP cP, .slice aW nW cW] 28)).alloc (.cells #[] 3)) = w2 at *
  clear hP1 hb1
  go_loopw [1, 5] (fun v1 v6 wr => ∃ (c : Int) (acc : List Int), -1 ≤ c ∧ c ≤ (X : Int) ∧ v1 = .int .i64 c ∧ wayI ps (X : Int) = wayI ps c ++ acc.reverse ∧ (acc.length : Int) + c ≤ (X : Int) ∧ Own wr (w.heap.size + 1) v6 acc ∧ Pair wr w.heap.size (.slice aP nP cP) (.slice aW nW cW) ∧ Below w.heap.size w wr) (fun v1 _ _ => (intOf v1 + 1).toNat)
  case atStart => exact ⟨X, [], by omega, Int.le_refl _, rfl, by simp, by simp, hnil, hP2.out, hb2⟩
  case round =>
    clear hnil hP2 hb2
    obtain ⟨c, acc, hc0, hcX, rfl, hway, hal, hown, hP, hbel⟩ := hrel
    have Hway := Lib.hid hway
    clear hway
    have e0 := hP.c0
    have HP := Lib.hid hP
    have hsz : w.heap.size + 1 ≤ wr.heap.size := hP.lt
    clear hP
    by_cases hlt : c ≥ 0
    · obtain ⟨C, rfl⟩ : ∃ C : Nat, c = C := ⟨c.toNat, by omega⟩
      obtain ⟨b, off, rfl, hc⟩ := H.out.p.at (i := C) hbel (by omega)
      have Hup := Lib.hid (wayI_up Hp.out (x := C) (by have := Hl.out; omega))
      have hpar : -1 ≤ nth ps C ∧ nth ps C < (C : Int) := by
        rcases Nat.eq_zero_or_pos C with rfl | h0
        · rw [Hp.out.p0]; omega
        · have := Hp.out.up C (by omega) (by have := Hl.out; omega); omega
      generalize hq0 : nth ps C = q at *
      have hq := Lib.hid hq0
      clear hq0
      go_wp2_with (at_builtin; refine wp_push (.tmp 14) (.tmp 16) rfl rfl (w.heap.size + 1) _ _ rfl hown rfl (by omega) hsz ?_; intro v' w' ho hb
                   have x0 := (HP.out.up hb (by omega)).c0
                   obtain ⟨b2, off2, he2, hc2⟩ := H.out.p.at (i := C) (hbel.trans (hb.mono (by omega))) (by omega)
                   cases he2
                   rw [hq.out] at hc2)
      go_roundw
      case rel => exact ⟨q, acc ++ [(C : Int)], by omega, by omega, rfl, by rw [Hway.out, Hup.out]; simp, by simp; omega, ho, HP.out.up hb (by omega), hbel.trans (hb.mono (by omega))⟩
      case measure => simp [intOf]; omega
    · obtain rfl : c = -1 := by omega
      obtain ⟨a6, c6, rfl⟩ := hown.shape
      have hlen : acc.length ≤ 1048576 := by omega
      have Hw : Hid (way ps X = acc.reverse) := Lib.hid (by have := Hway.out; rw [wayI_nat] at this; rw [this]; simp [wayI])
      go_wp2_with (go_at_call 113; refine (c_reverse _ _ _ (w.heap.size + 1) acc _ hown hlen).mono ?_; rintro e w' ⟨rfl, ho, hb⟩)
      go_ret
      exact ⟨_, rfl, by rw [Hw.out]; exact ho.mono (by omega), hbel.trans (hb.mono (by omega))⟩
set_option maxRecDepth 100000 in
set_option maxHeartbeats 1000000 in
theorem impl_both (a1 : Option Addr) (n1 c1 : Nat) (xs : List Int) (a2 : Option Addr) (n2 c2 : Nat) (ys : List Int) (w : World) (h1 : Ints w a1 n1 xs) (h2 : Ints w a2 n2 ys) (hn1 : n1 ≤ 1048576) (hn2 : n2 ≤ 1048576) :
    Calls Try.prog 111 #[.slice a1 n1 c1, .slice a2 n2 c2] w fun e w' => ∃ v, e = .returned v ∧ Own w' w.heap.size v (xs.filter (hasB ys)) ∧ Below w.heap.size w w' := by
  have hl := Lib.hid h1.1
  have H1 := Lib.hid h1
  have H2 := Lib.hid h2
  clear h1 h2
  go_enter Try.func111, Try.ntmps111
  go_wp2_with fail
  have hnil := own_nil0 w
  have hb2 : Below w.heap.size w (w.alloc (.cells #[] 3)) := below_new _ _
  generalize (w.alloc (.cells #[] 3)) = w2 at *
  go_loopw [5, 11] (fun v8 v11 wr => ∃ k : Nat, k ≤ n1 ∧ v11 = .int .i64 (k : Int) ∧ Own wr w.heap.size v8 ((xs.take k).filter (hasB ys)) ∧ Below w.heap.size w wr) (fun _ v11 _ => n1 - (intOf v11).toNat)
  case atStart => exact ⟨0, Nat.zero_le _, rfl, by simpa using hnil, hb2⟩
  case round =>
    clear hnil hb2
    obtain ⟨k, hk, rfl, hown, hbel⟩ := hrel
    have hsz := hbel.size
    by_cases hlt : (k : Int) < n1
    · obtain ⟨b, off, rfl, hc⟩ := H1.out.at (i := k) hbel (by omega)
      have hlen : ((xs.take k).filter (hasB ys)).length ≤ k := by have := List.length_filter_le (hasB ys) (xs.take k); rw [List.length_take] at this; omega
      have Htk := Lib.hid (take_succ_nth (xs := xs) (k := k) (by rw [hl.out]; omega))
      have H2k := Lib.hid (H2.out.below hbel)
      cases he : hasB ys (nth xs k)
      · have Hf : Hid ((xs.take (k + 1)).filter (hasB ys) = (xs.take k).filter (hasB ys)) := Lib.hid (by rw [Htk.out, List.filter_append]; simp [he])
        have He := Lib.hid he
        generalize (xs.take k).filter (hasB ys) = acc at *
        generalize nth xs k = q at *
        clear he
        go_wp2_with (go_at_call 83; refine (c_contains _ _ _ ys q _ H2k.out hn2).mono ?_; rintro e w' ⟨rfl, rfl⟩; rw [He.out])
        go_roundw
        case rel => exact ⟨k + 1, by omega, by go_num, by rw [Hf.out]; exact hown, hbel⟩
        case measure => simp [intOf]; omega
      · have Hf : Hid ((xs.take (k + 1)).filter (hasB ys) = (xs.take k).filter (hasB ys) ++ [nth xs k]) := Lib.hid (by rw [Htk.out, List.filter_append]; simp [he])
        have He := Lib.hid he
        generalize (xs.take k).filter (hasB ys) = acc at *
        generalize nth xs k = q at *
        clear he
        go_wp2_with (first
          | (go_at_call 83; refine (c_contains _ _ _ ys q _ H2k.out hn2).mono ?_; rintro e w' ⟨rfl, rfl⟩; rw [He.out])
          | (at_builtin; refine wp_push (.tmp 18) (.tmp 20) rfl rfl w.heap.size _ _ rfl hown rfl (by omega) hsz ?_; intro v' w' ho hb))
        go_roundw
        case rel => exact ⟨k + 1, by omega, by go_num, by rw [Hf.out]; exact ho, hbel.trans hb⟩
        case measure => simp [intOf]; omega
    · obtain rfl : k = n1 := by omega
      go_wp2_with fail
      go_ret
      exact ⟨_, rfl, by rw [List.take_of_length_le (by rw [hl.out]; exact Nat.le_refl _)] at hown; exact hown, hbel⟩
end Go.Proofs.Ytjkkfjipgomkdaa
