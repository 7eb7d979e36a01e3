/- Contracts on trees: ends by the reference, depths, sums over children. -/
import Derived.Test.YtjkkfjipgomkdaaTree6
import Derived.Test.YtjkkfjipgomkdaaTree5
namespace Go.Proofs.Ytjkkfjipgomkdaa
open Go.RowKit

set_option maxRecDepth 100000 in
set_option maxHeartbeats 1000000 in
theorem spec_l2Ends (aP : Option Addr) (nP cP : Nat) (aW : Option Addr) (nW cW : Nat) (ps ws : List Int) (w : World) (h : Tre w aP nP cP aW nW cW ps ws) (hp : Pa ps) :
    Calls Try.prog 87 #[.agg #[.slice aP nP cP, .slice aW nW cW]] w fun e w' => ∃ v, e = .returned v ∧ Own w' w.heap.size v (ends ps) ∧ Below w.heap.size w w' := by
  have Hp := Lib.hid hp
  have hn24 := hp.n24
  have hl := h.p.1
  have hlw := h.w.1
  have hpn := h.pn
  have hwn := h.wn
  have hb1 := below_new w (.cells #[.slice aP nP cP, .slice aW nW cW] 28)
  have hP1 := Lib.hid (Pair.new w (.slice aP nP cP) (.slice aW nW cW) 28)
  have H := Lib.hid h
  have Hl := Lib.hid hl
  have Hlw := Lib.hid hlw
  clear h hl hlw
  have hnP : nP ≤ 24 := by have := Hl.out; omega
  clear hp hn24
  go_enter Try.func87, Try.ntmps87
  go_wp2_with fail
  have hnil := own_nil0 (w.alloc (.cells #[.slice aP nP cP, .slice aW nW cW] 28))
  rw [show (w.alloc (.cells #[.slice aP nP cP, .slice aW nW cW] 28)).heap.size = w.heap.size + 1 by simp] at hnil
  have hb2 : Below w.heap.size w ((w.alloc (.cells #[.slice aP nP cP, .slice aW nW cW] 28)).alloc (.cells #[] 3)) := hb1.alloc (by simp) _
  have hP2 := Lib.hid (hP1.out.alloc (.cells #[] 3))
  generalize ((w.alloc (.cells #[.slice aP nP cP, .slice aW nW cW] 28)).alloc (.cells #[] 3)) = w2 at *
  clear hP1 hb1
  go_loopw [3, 4] (fun v3 v4 wr => ∃ k : Nat, k ≤ nP ∧ v4 = .int .i64 (k : Int) ∧ Own wr (w.heap.size + 1) v3 (filt (endB ps) k) ∧ Pair wr w.heap.size (.slice aP nP cP) (.slice aW nW cW) ∧ Below w.heap.size w wr) (fun _ v4 _ => nP - (intOf v4).toNat)
  case atStart => exact ⟨0, Nat.zero_le _, rfl, hnil, hP2.out, hb2⟩
  case round =>
    clear hnil hb2 hP2
    obtain ⟨k, hk, rfl, hown, hP, hbel⟩ := hrel
    have c0 := hP.c0
    have c1 := hP.c1
    have HP := Lib.hid hP
    have Hown := Lib.hid hown
    clear hP hown
    by_cases hlt : (k : Int) < nP
    · go_wp2_with fail
      refine (spec_l2Kids _ _ _ _ _ _ ps ws _ _ (H.out.below hbel) Hp.out (by omega)).mono ?_
      rintro e w3 ⟨v, rfl, ho, hb3⟩
      obtain ⟨a3, c3, rfl⟩ := ho.shape
      rw [Int.toNat_natCast] at ho ⊢
      have hlk := len_kids ps k
      have hbel3 := hbel.trans (hb3.mono hbel.size)
      have hP3 := HP.out.below hb3
      have hown3 := Hown.out.below hb3
      have HP3 := Lib.hid hP3
      have hlen := filt_length (endB ps) k
      have hle : w.heap.size + 1 ≤ w3.heap.size := by have := HP3.out.lt; omega
      have hlk2 : (kids ps k).length ≤ 24 := by have := filt_length (fun y => nth ps y == (k : Int)) ps.length; have := Hl.out; unfold kids; omega
      generalize (kids ps k).length = L at *
      clear ho hP3
      cases he : endB ps k
      · rw [he] at hlk
        have Hf := Lib.hid (filt_f he)
        clear he
        go_wp2_with fail
        go_roundw
        case rel => exact ⟨k + 1, by omega, by go_num, by rw [Hf.out]; exact hown3, HP3.out, hbel3⟩
        case measure => simp [intOf]; omega
      · rw [he] at hlk
        have Hf := Lib.hid (filt_t he)
        clear he
        go_wp2_with (at_builtin; refine wp_push (.tmp 18) (.tmp 20) rfl rfl (w.heap.size + 1) _ _ rfl hown3 rfl (by omega) hle ?_; intro v' w' ho hb)
        go_roundw
        case rel => exact ⟨k + 1, by omega, by go_num, by rw [Hf.out]; exact ho, HP3.out.up hb (by omega), hbel3.trans (hb.mono (by omega))⟩
        case measure => simp [intOf]; omega
    · obtain rfl : k = nP := by omega
      go_wp2_with fail
      go_ret
      exact ⟨_, rfl, by rw [ends, Hl.out]; exact Hown.out.mono (by omega), hbel⟩
/-- The depths of the first k nodes. -/
def depL (ps : List Int) : Nat → List Int
  | 0 => []
  | k + 1 => depL ps k ++ [if k = 0 then 0 else nth (depL ps k) (par ps k) + 1]
theorem depL_length (ps : List Int) : ∀ k, (depL ps k).length = k
  | 0 => rfl
  | k + 1 => by rw [depL, List.length_append, depL_length ps k]; rfl
/-- The depth of a node. -/
def dep (ps : List Int) (x : Nat) : Int := nth (depL ps (x + 1)) x
theorem depL_nth (ps : List Int) : ∀ (k x : Nat), x < k → nth (depL ps k) x = dep ps x
  | 0, x, h => by omega
  | k + 1, x, h => by
    by_cases e : x = k
    · subst e; rfl
    · rw [depL, nth_append_l (by rw [depL_length]; omega), depL_nth ps k x (by omega)]
theorem dep_zero (ps : List Int) : dep ps 0 = 0 := rfl
theorem dep_up {ps : List Int} {x : Nat} (h1 : 1 ≤ x) (hp : par ps x < x) : dep ps x = dep ps (par ps x) + 1 := by
  unfold dep
  rw [depL, if_neg (by omega)]
  have : nth (depL ps x ++ [nth (depL ps x) (par ps x) + 1]) x = nth (depL ps x) (par ps x) + 1 := by
    have := nth_append_r (xs := depL ps x) (y := nth (depL ps x) (par ps x) + 1)
    rwa [depL_length] at this
  rw [this, depL_nth ps x _ hp]; rfl
theorem dep_bd {ps : List Int} (h : Pa ps) : ∀ x, x < ps.length → 0 ≤ dep ps x ∧ dep ps x ≤ x := by
  have : ∀ (m x : Nat), x ≤ m → x < ps.length → 0 ≤ dep ps x ∧ dep ps x ≤ x := by
    intro m
    induction m with
    | zero => intro x h1 h2; obtain rfl : x = 0 := by omega
              rw [dep_zero]; omega
    | succ m ih =>
      intro x h1 h2
      by_cases hx : x = 0
      · subst hx; rw [dep_zero]; omega
      · have hp := h.upN (x := x) (by omega) h2
        have := ih (par ps x) (by omega) (by omega)
        rw [dep_up (by omega) hp.2]; omega
  exact fun x => this x x (Nat.le_refl _)
def deps (ps : List Int) : List Int := depL ps ps.length
theorem deps_length (ps : List Int) : (deps ps).length = ps.length := depL_length _ _
theorem nth_deps {ps : List Int} {x : Nat} (h : x < ps.length) : nth (deps ps) x = dep ps x := depL_nth _ _ _ h
/-- The first i numbers, then zeros. -/
def hal (xs : List Int) (i : Nat) : List Int := (List.range xs.length).map fun (j : Nat) => if j < i then nth xs j else 0
theorem hal_length (xs : List Int) (i : Nat) : (hal xs i).length = xs.length := by simp [hal]
theorem hal_zero (xs : List Int) : List.replicate xs.length 0 = hal xs 0 := ext_nth (by simp [hal]) fun i hi => by
  rw [List.length_replicate] at hi
  unfold hal; rw [nth_map_range hi, nth_replicate]; simp
theorem hal_one (xs : List Int) (h : nth xs 0 = 0) : List.replicate xs.length 0 = hal xs 1 := ext_nth (by simp [hal]) fun i hi => by
  rw [List.length_replicate] at hi
  unfold hal; rw [nth_map_range hi, nth_replicate]
  split
  · obtain rfl : i = 0 := by omega
    exact h.symm
  · rfl
theorem hal_all (xs : List Int) : hal xs xs.length = xs := ext_nth (hal_length _ _) fun i hi => by
  rw [hal_length] at hi
  unfold hal; rw [nth_map_range hi, if_pos hi]
theorem nth_hal {xs : List Int} {i j : Nat} (h : j < i) (hj : j < xs.length) : nth (hal xs i) j = nth xs j := by unfold hal; rw [nth_map_range hj, if_pos h]
theorem hal_succ (xs : List Int) (i : Nat) (h : i < xs.length) : hal xs (i + 1) = (hal xs i).set i (nth xs i) := ext_nth (by simp [hal]) fun j hj => by
  rw [hal_length] at hj
  rw [nth_set (by rw [hal_length]; exact h)]
  unfold hal
  rw [nth_map_range hj, nth_map_range hj]
  by_cases e : i = j
  · subst e; rw [if_pos (by omega), if_pos rfl]
  · rw [if_neg e]
    by_cases e2 : j < i
    · rw [if_pos e2, if_pos (by omega)]
    · rw [if_neg e2, if_neg (by omega)]
theorem sumOf_bd {f : Int → Int} {B : Int} (hB : 0 ≤ B) (hf : ∀ x, -B ≤ f x ∧ f x ≤ B) : ∀ xs : List Int, -(B * xs.length) ≤ sumOf f xs ∧ sumOf f xs ≤ B * xs.length
  | [] => by simp [sumOf]
  | x :: xs => by
    have ih := sumOf_bd hB hf xs
    have h := hf x
    simp only [sumOf, List.length_cons]
    rw [show B * ((xs.length + 1 : Nat) : Int) = B * xs.length + B by rw [Int.natCast_add, Int.mul_add]; simp]
    omega
set_option maxRecDepth 100000 in
set_option maxHeartbeats 1000000 in
theorem spec_l4Kids (aP : Option Addr) (nP cP : Nat) (aW : Option Addr) (nW cW : Nat) (ps ws : List Int) (aL : Option Addr) (nL cL : Nat) (l : List Int) (x B : Int) (w : World) (h : Tre w aP nP cP aW nW cW ps ws) (hp : Pa ps) (hL : Ints w aL nL l) (hn : nP ≤ nL) (hB : 0 ≤ B ∧ B ≤ 1000000000000) (hA : Abs2 B l) (hx : 0 ≤ x ∧ x < nP) :
    Calls Try.prog 69 #[.agg #[.slice aP nP cP, .slice aW nW cW], .slice aL nL cL, .int .i64 x] w fun e w' => e = .returned (.int .i64 (kidSum ps (fun y => nth l y) x.toNat ps.length)) ∧ Below w.heap.size w w' := by
  obtain ⟨X, rfl⟩ : ∃ X : Nat, x = X := ⟨x.toNat, by omega⟩
  rw [Int.toNat_natCast]
  have Hp := Lib.hid hp
  have hn24 := hp.n24
  have hl := h.p.1
  have hlw := h.w.1
  have hpn := h.pn
  have hwn := h.wn
  have hb1 := below_new w (.cells #[.slice aP nP cP, .slice aW nW cW] 28)
  have hP1 := Lib.hid (Pair.new w (.slice aP nP cP) (.slice aW nW cW) 28)
  have H := Lib.hid h
  have Hl := Lib.hid hl
  have Hlw := Lib.hid hlw
  clear h hl hlw
  have hnP : nP ≤ 24 := by have := Hl.out; omega
  have HL := Lib.hid hL
  have HA := Lib.hid hA
  have hv : kidSum ps (fun y => nth l y) X ps.length = sumOf (fun y => nth l y.toNat) (kids ps X) := by rw [kids_sum]; rfl
  have Hv := Lib.hid hv
  clear hp hn24 hL hA hv
  have c0 := hP1.out.c0
  have c1 := hP1.out.c1
  go_enter Try.func69, Try.ntmps69
  go_wp2_with fail
  generalize (w.alloc (.cells #[.slice aP nP cP, .slice aW nW cW] 28)) = w2 at *
  refine (spec_l2Kids _ _ _ _ _ _ ps ws _ _ (H.out.below hb1) Hp.out (by omega)).mono ?_
  rintro e w3 ⟨v, rfl, ho, hb3⟩
  obtain ⟨a3, c3, rfl⟩ := ho.shape
  rw [Int.toNat_natCast] at ho ⊢
  have hb13 := hb1.trans (hb3.mono hb1.size)
  have HK := Lib.hid ho.ints
  have hkl : (kids ps X).length ≤ 24 := by have := filt_length (fun y => nth ps y == (X : Int)) ps.length; have := Hl.out; unfold kids; omega
  clear ho hb1 hb3 c0 c1 hP1
  obtain ⟨K, hK⟩ : ∃ K, K = kids ps X := ⟨_, rfl⟩
  have hKm : ∀ i, i < K.length → ∃ j : Nat, j < nP ∧ nth K i = j := fun i hi => by
    rw [hK] at hi ⊢
    obtain ⟨j, h1, _, h3⟩ := nth_filt hi
    exact ⟨j, by have := Hl.out; omega, h3⟩
  rw [← hK] at hkl HK Hv ⊢
  have HKm := Lib.hid hKm
  clear hK hKm
  go_wp2_with fail
  go_loop [7, 9] (fun v7 v9 => ∃ i : Nat, i ≤ K.length ∧ v9 = .int .i64 (i : Int) ∧ v7 = .int .i64 (sumOf (fun y => nth l y.toNat) (K.take i))) (fun _ v9 => K.length - (intOf v9).toNat)
  case atStart => exact ⟨0, Nat.zero_le _, rfl, rfl⟩
  case round =>
    obtain ⟨i, hi, rfl, rfl⟩ := hrel
    by_cases hlt : (i : Int) < K.length
    · obtain ⟨bK, oK, rfl, hcK⟩ := HK.out.at (i := i) (Below.refl _ _) (by omega)
      obtain ⟨j, hj, he⟩ := HKm.out i (by omega)
      rw [he] at hcK
      obtain ⟨bL, oL, rfl, hcL⟩ := HL.out.at (i := j) hb13 (by omega)
      have hs := sumOf_take_succ (fun y => nth l y.toNat) K i (by omega)
      rw [he, Int.toNat_natCast] at hs
      have hbd := sumOf_bd hB.1 (f := fun y => nth l y.toNat) (fun y => HA.out _) (K.take i)
      rw [List.length_take, Nat.min_eq_left (by omega)] at hbd
      have hbm : B * (i : Int) ≤ B * 24 := Int.mul_le_mul_of_nonneg_left (by omega) hB.1
      have hq := HA.out j
      generalize sumOf (fun y => nth l y.toNat) (K.take i) = S at *
      generalize nth l j = u at *
      have Hs := Lib.hid hs
      clear hs he
      have hj2 : j < nL := by omega
      go_wp2_with fail
      go_round
      case rel => exact ⟨i + 1, by omega, by go_num, by rw [Hs.out]⟩
      case measure => simp [intOf]; omega
    · obtain rfl : i = K.length := by omega
      rw [List.take_length]
      go_wp2_with fail
      go_ret
      exact ⟨ri Hv.out.symm, hb13⟩
end Go.Proofs.Ytjkkfjipgomkdaa
