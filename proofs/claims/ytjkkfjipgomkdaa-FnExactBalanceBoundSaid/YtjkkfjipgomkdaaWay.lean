/- Contracts of the reference on trees: ways, the first node on a way, numbers put to their places. -/
import Derived.Test.YtjkkfjipgomkdaaPlWay
import Derived.Test.YtjkkfjipgomkdaaTree7
import Derived.Test.YtjkkfjipgomkdaaB4
namespace Go.Proofs.Ytjkkfjipgomkdaa
open Go.RowKit

def hasB (l : List Int) (y : Int) : Bool := l.any (· == y)
theorem has_t {l : List Int} {y : Int} {i : Nat} (hi : i < l.length) (h : nth l i = y) : hasB l y = true := by
  unfold hasB; rw [List.any_eq_true]
  exact ⟨nth l i, nth_mem hi, by simp [h]⟩
theorem has_f {l : List Int} {y : Int} (h : ∀ i, i < l.length → ¬ nth l i = y) : hasB l y = false := by
  cases hb : hasB l y
  · rfl
  · unfold hasB at hb
    rw [List.any_eq_true] at hb
    obtain ⟨z, hz, he⟩ := hb
    obtain ⟨i, hi, rfl⟩ := List.mem_iff_getElem.1 hz
    exact absurd (by rw [nth_lt hi]; simpa using he) (h i hi)
set_option maxHeartbeats 400000 in
theorem spec_l1Has (a : Option Addr) (n cap : Nat) (l : List Int) (y : Int) (w : World) (hn : n ≤ 1048576) (h : Ints w a n l) :
    Calls Try.prog 108 #[.slice a n cap, .int .i64 y] w fun e w' => e = .returned (.bool (hasB l y)) ∧ w = w' := by
  have hl := Lib.hid h.1
  have H := Lib.hid h
  clear h
  go_enter Try.func108, Try.ntmps108
  go_wp2_with fail
  go_loop [5] (fun v5 => ∃ i : Nat, i ≤ n ∧ v5 = .int .i64 (i : Int) ∧ ∀ j, j < i → ¬ nth l j = y) (fun v5 => n - (intOf v5).toNat)
  case atStart => exact ⟨0, Nat.zero_le _, rfl, fun j hj => by omega⟩
  case round =>
    obtain ⟨i, hi, rfl, hall⟩ := hrel
    have Hall := Lib.hid hall
    clear hall
    by_cases hlt : (i : Int) < n
    · obtain ⟨b, off, rfl, hc⟩ := H.out.at (i := i) (Below.refl _ _) (by omega)
      by_cases he : nth l i = y
      · have Hv := Lib.hid (has_t (i := i) (by have := hl.out; omega) he)
        rw [he] at hc
        clear he
        go_wp2_with fail
        go_ret
        exact ⟨by rw [Hv.out]; rfl, rfl⟩
      · have Hne := Lib.hid he
        generalize hu : nth l i = u at hc he
        have heb : (u == y) = false := by rw [beq_eq_false_iff_ne]; exact he
        clear hu
        go_wp2_with fail
        go_round
        case rel => exact ⟨i + 1, by omega, by go_num, fun j hj => by
          by_cases e : j = i
          · subst e; exact Hne.out
          · exact Hall.out j (by omega)⟩
        case measure => simp [intOf]; omega
    · obtain rfl : i = n := by omega
      have Hv := Lib.hid (has_f (l := l) (y := y) fun j hj => Hall.out j (by have := hl.out; omega))
      go_wp2_with fail
      go_ret
      exact ⟨by rw [Hv.out]; rfl, rfl⟩
theorem own_lit1 (w : World) (base : Nat) (u : Int) (hb : base ≤ w.heap.size) : Own (w.alloc (.cells #[.int .i64 u] 3)) base (.slice (some ⟨w.heap.size, 0, none⟩) 1 1) [u] := by
  have := World.ownsRow_lit (size := 1) (e := 3) (base := base) w #[.int .i64 u] 1 hb (by simp [maxLen]) (by simp)
  simpa [Own, cs] using this
set_option maxHeartbeats 1000000 in
theorem spec_l2Way (aP : Option Addr) (nP cP : Nat) (aW : Option Addr) (nW cW : Nat) (ps ws : List Int) (X : Nat) (w : World) (h : Tre w aP nP cP aW nW cW ps ws) (hp : Pa ps) (hx : X < nP) :
    Calls Try.prog 97 #[.agg #[.slice aP nP cP, .slice aW nW cW], .int .i64 (X : Int)] w fun e w' => ∃ v, e = .returned v ∧ Own w' w.heap.size v (way ps X) ∧ Below w.heap.size w w' := by
  have Hp := Lib.hid hp
  have hn24 := hp.n24
  have hl := h.p.1
  have hlw := h.w.1
  have hpn := h.pn
  have hwn := h.wn
  have hb1 := below_new w (.cells #[.slice aP nP cP, .slice aW nW cW] 28)
  have hP1 := Lib.hid (Pair.new w (.slice aP nP cP) (.slice aW nW cW) 28)
  have H := Lib.hid h
  have Hl := Lib.hid hl
  have Hlw := Lib.hid hlw
  clear h hl hlw
  have hnP : nP ≤ 24 := by have := Hl.out; omega
  clear hp hn24
  go_enter Try.func97, Try.ntmps97
  go_wp2_with fail
  have hown0 := own_lit1 (w.alloc (.cells #[.slice aP nP cP, .slice aW nW cW] 28)) (w.heap.size + 1) (X : Int) (by simp)
  rw [show (w.alloc (.cells #[.slice aP nP cP, .slice aW nW cW] 28)).heap.size = w.heap.size + 1 by simp] at hown0
  have hb2 : Below w.heap.size w ((w.alloc (.cells #[.slice aP nP cP, .slice aW nW cW] 28)).alloc (.cells #[.int .i64 (X : Int)] 3)) := hb1.alloc (by simp) _
  have hP2 := Lib.hid (hP1.out.alloc (.cells #[.int .i64 (X : Int)] 3))
  generalize ((w.alloc (.cells #[.slice aP nP cP, .slice aW nW cW] 28)).alloc (.cells #[.int .i64 (X : Int)] 3)) = w2 at *
  clear hP1 hb1
  go_loopw [1, 5] (fun v6 v5 wr => ∃ (cur : Nat) (rest : List Int), cur ≤ X ∧ v6 = .int .i64 (cur : Int) ∧ way ps X = way ps cur ++ rest ∧ Own wr (w.heap.size + 1) v5 ((cur : Int) :: rest) ∧ Pair wr w.heap.size (.slice aP nP cP) (.slice aW nW cW) ∧ Below w.heap.size w wr) (fun v6 _ _ => (intOf v6).toNat)
  case atStart => exact ⟨X, [], Nat.le_refl _, rfl, by simp, hown0, hP2.out, hb2⟩
  case round =>
    clear hown0 hP2 hb2
    obtain ⟨cur, rest, hcur, rfl, hway, hown, hP, hbel⟩ := hrel
    have c0 := hP.c0
    have HP := Lib.hid hP
    clear hP
    by_cases hlt : (cur : Int) > 0
    · obtain ⟨b, off, rfl, hc⟩ := H.out.p.at (i := cur) hbel (by omega)
      have hup := Hp.out.upN (x := cur) (by omega) (by have := Hl.out; omega)
      have hwu := way_up Hp.out (x := cur) (by omega) (by have := Hl.out; omega)
      have hlen := way_length Hp.out X (by have := Hl.out; omega)
      rw [hway, List.length_append] at hlen
      have hrl : Hid (rest.length ≤ 24) := Lib.hid (by omega)
      rw [hup.1] at hc
      have hpl := hup.2
      have Hway : Hid (way ps X = way ps (par ps cur) ++ ((cur : Int) :: rest)) := Lib.hid (by rw [hway, hwu, List.append_assoc]; rfl)
      clear hup hwu hlen hway
      generalize par ps cur = q at *
      obtain ⟨a5, c5, rfl⟩ := hown.shape
      have hcap := hown.cap.2.1
      have hI := Lib.hid (hown.ints.below (below_new wr (.cells #[.int .i64 (q : Int)] 3)))
      have hle : w.heap.size + 1 ≤ wr.heap.size := by have := HP.out.lt; omega
      have hl1 := Lib.hid (own_lit1 wr (w.heap.size + 1) (q : Int) hle)
      have HPn := Lib.hid (HP.out.alloc (.cells #[.int .i64 (q : Int)] 3))
      have hbn := hbel.alloc (by omega) (.cells #[.int .i64 (q : Int)] 3)
      clear hown
      go_wp2_with (at_builtin; refine wp_appI _ _ rfl rfl (w.heap.size + 1) _ [(q : Int)] rfl hl1.out a5 _ c5 ((cur : Int) :: rest) rfl hcap hI.out (by have := hrl.out; simp; omega) (by simp; omega) ?_; intro v' w' ho hb)
      go_roundw
      case rel => exact ⟨q, (cur : Int) :: rest, by omega, rfl, Hway.out, ho, HPn.out.up hb (by omega), hbn.trans (hb.mono (by omega))⟩
      case measure => simp [intOf]; omega
    · obtain rfl : cur = 0 := by omega
      have hfin : way ps X = (0 : Int) :: rest := by rw [hway, way_zero]; rfl
      have Hfin := Lib.hid hfin
      clear hfin hway
      go_wp2_with fail
      go_ret
      exact ⟨_, rfl, by rw [Hfin.out]; exact hown.mono (by omega), hbel⟩
end Go.Proofs.Ytjkkfjipgomkdaa
