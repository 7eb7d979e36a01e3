/- The walk through tallied: a map from places and tallies to numbers of walks, told onward step by step. No conditions but those stated. -/
import Derived.Test.YtbekfpgpeaoifaaPlTally
import Derived.Test.YtbekfpgpeaoifaaMap
import Derived.Test.YtbekfpgpeaoifaaB3
import Derived.Test.YtbekfpgpeaoifaaHeld
namespace Go.Proofs.Ytbekfpgpeaoifaa
open Go.RowKit

theorem sumI_append : ∀ xs ys : List Int, sumI (xs ++ ys) = sumI xs + sumI ys
  | [], ys => by simp [sumI]
  | x :: xs, ys => by simp only [List.cons_append, sumI, sumI_append xs ys]; omega
theorem sumI_point (n : Nat) (f g : Nat → Int) (i0 : Nat) (d : Int) (h : ∀ i, i ≠ i0 → f i = g i) (h0 : f i0 = g i0 + d) : sumI ((List.range n).map f) = sumI ((List.range n).map g) + (if i0 < n then d else 0) := by
  induction n with
  | zero => simp [sumI]
  | succ n ih =>
    rw [List.range_succ, List.map_append, List.map_append, sumI_append, sumI_append, ih]
    simp only [List.map_cons, List.map_nil, sumI]
    by_cases e : n = i0
    · subst e
      rw [h0, if_neg (by omega), if_pos (by omega)]; omega
    · rw [h n e]
      by_cases hlt : i0 < n
      · rw [if_pos hlt, if_pos (by omega)]; omega
      · rw [if_neg hlt, if_neg (by omega)]; omega
theorem sumI_bd (B : Int) : ∀ xs : List Int, (∀ x ∈ xs, 0 ≤ x ∧ x ≤ B) → 0 ≤ sumI xs ∧ sumI xs ≤ xs.length * B
  | [], _ => by simp [sumI]
  | x :: xs, h => by
    have h1 := h x (by simp)
    have h2 := sumI_bd B xs (fun y hy => h y (by simp [hy]))
    simp only [sumI, List.length_cons]
    rw [show (((xs.length + 1 : Nat) : Int)) = (xs.length : Int) + 1 by omega, Int.add_mul, Int.one_mul]
    omega
/-- The sum over all places that have been told. -/
def partA (F : Int → Int → Int) (left : Int → Int → Bool) (t : Int) : Int := sumI ((List.range 61).map fun (i : Nat) => if left ((i : Int) - 30) t then 0 else F ((i : Int) - 30) t)
theorem sumI_zero : ∀ xs : List Int, (∀ x ∈ xs, x = 0) → sumI xs = 0
  | [], _ => rfl
  | x :: xs, h => by rw [sumI, h x (by simp), sumI_zero xs (fun y hy => h y (by simp [hy]))]; rfl
theorem partA_none {F : Int → Int → Int} {left : Int → Int → Bool} (h : ∀ x t, left x t = false → F x t = 0) (t : Int) : partA F left t = 0 := by
  refine sumI_zero _ fun x hx => ?_
  obtain ⟨i, _, rfl⟩ := List.mem_map.1 hx
  cases hl : left ((i : Int) - 30) t
  · simp [h _ _ hl]
  · simp
theorem partA_done {F : Int → Int → Int} {left : Int → Int → Bool} (h : ∀ x t, left x t = false) (t : Int) : partA F left t = sumI ((List.range 61).map fun (i : Nat) => F ((i : Int) - 30) t) := by
  simp [partA, h]
theorem partA_step {F : Int → Int → Int} {left : Int → Int → Bool} {x0 t0 : Int} (h0 : left x0 t0 = true) (hx : -30 ≤ x0 ∧ x0 ≤ 30) (t : Int) :
    partA F (fun a b => left a b && !(decide (a = x0) && decide (b = t0))) t = partA F left t + (if t = t0 then F x0 t0 else 0) := by
  by_cases e : t = t0
  · subst e
    rw [if_pos rfl]
    have := sumI_point 61 (fun (i : Nat) => if (left ((i : Int) - 30) t && !(decide ((i : Int) - 30 = x0) && decide (t = t))) = true then 0 else F ((i : Int) - 30) t) (fun (i : Nat) => if left ((i : Int) - 30) t then 0 else F ((i : Int) - 30) t) (x0 + 30).toNat (F x0 t)
      (fun i hi => by
        have e1 : ¬ ((i : Int) - 30 = x0) := by omega
        simp [e1]) (by
        have e1 : (((x0 + 30).toNat : Nat) : Int) - 30 = x0 := by omega
        rw [e1, h0]; simp)
    rw [if_pos (by omega)] at this
    exact this
  · rw [if_neg e, Int.add_zero]
    unfold partA
    congr 1
    refine List.map_congr_left fun i _ => ?_
    simp [e]
theorem partA_bd {F : Int → Int → Int} {left : Int → Int → Bool} {B : Int} (h : ∀ x t, 0 ≤ F x t ∧ F x t ≤ B) (t : Int) : 0 ≤ partA F left t ∧ partA F left t ≤ 61 * B := by
  have := sumI_bd B ((List.range 61).map fun (i : Nat) => if left ((i : Int) - 30) t then 0 else F ((i : Int) - 30) t) (fun x hx => by
    obtain ⟨i, _, rfl⟩ := List.mem_map.1 hx
    have h1 := h ((i : Int) - 30) t
    split
    · omega
    · exact h1)
  simpa [partA] using this
/-- What tallied gives back, when some of the states are still to come. -/
def outL (F : Int → Int → Int) (left : Int → Int → Bool) (m : Nat) : List Int := (List.range (m + 1)).map fun (t : Nat) => partA F left (t : Int)
theorem outL_length (F : Int → Int → Int) (left : Int → Int → Bool) (m : Nat) : (outL F left m).length = m + 1 := by simp [outL]
theorem outL_nth {F : Int → Int → Int} {left : Int → Int → Bool} {m t : Nat} (h : t < m + 1) : nth (outL F left m) t = partA F left (t : Int) := by rw [outL, nth_map_range h]
theorem outL_none {F : Int → Int → Int} {left : Int → Int → Bool} (h : ∀ x t, left x t = false → F x t = 0) (m : Nat) : outL F left m = List.replicate (m + 1) 0 := by
  refine ext_nth (by simp [outL]) fun i hi => ?_
  rw [outL_length] at hi
  rw [outL_nth hi, partA_none h, nth_replicate]
theorem outL_step {F : Int → Int → Int} {left : Int → Int → Bool} {x0 : Int} {t0 m : Nat} (h0 : left x0 t0 = true) (hx : -30 ≤ x0 ∧ x0 ≤ 30) (ht : t0 < m + 1) :
    outL F (fun a b => left a b && !(decide (a = x0) && decide (b = (t0 : Int)))) m = (outL F left m).set t0 (nth (outL F left m) t0 + F x0 t0) := by
  refine ext_nth (by simp [outL]) fun i hi => ?_
  rw [outL_length] at hi
  rw [outL_nth hi, nth_set (by rw [outL_length]; exact ht), partA_step h0 hx]
  by_cases e : t0 = i
  · subst e
    rw [if_pos rfl, if_pos rfl, outL_nth ht]
  · rw [if_neg e, if_neg (by omega), outL_nth hi]; omega
def allL (tal : Int → Int → Int) (m : Nat) : List Int := (List.range (m + 1)).map fun (t : Nat) => allW tal m (t : Int)
theorem outL_done {tal : Int → Int → Int} {m : Nat} {left : Int → Int → Bool} (h : ∀ x t, left x t = false) : outL (tw tal m) left m = allL tal m := by
  unfold outL allL
  refine List.map_congr_left fun i _ => ?_
  rw [partA_done h, allW]
theorem start_tw (tal : Int → Int → Int) (x t : Int) : tw tal 0 x t = mpu (fun _ _ => 0) 0 0 1 x t := rfl
theorem twL_none {tal F : Int → Int → Int} {left : Int → Int → Bool} (h : ∀ x t, left x t = false → F x t = 0) (x t : Int) : twL tal F left x t = 0 := by
  have h1 : ∀ x t, (if left x t then 0 else F x t) = 0 := fun x t => by
    cases hl : left x t
    · simp [h _ _ hl]
    · simp
  rw [twL, h1, h1]; rfl
theorem twL_bd {tal F : Int → Int → Int} {left : Int → Int → Bool} {B : Int} (h : ∀ x t, 0 ≤ F x t ∧ F x t ≤ B) (x t : Int) : 0 ≤ twL tal F left x t ∧ twL tal F left x t ≤ 2 * B := by
  have h1 : ∀ x t, 0 ≤ (if left x t then 0 else F x t) ∧ (if left x t then 0 else F x t) ≤ B := fun x t => by
    have := h x t
    split <;> omega
  have a := h1 (x - 1) (t - tal (x - 1) x)
  have b := h1 (x + 1) (t - tal (x + 1) x)
  unfold twL
  omega
/-- Behind the first of the two steps from (x0, t0). -/
theorem twL_half {tal F : Int → Int → Int} {left : Int → Int → Bool} {x0 t0 : Int} (h0 : left x0 t0 = true) (x t : Int) :
    twL tal F (fun a b => left a b && !(decide (a = x0) && decide (b = t0))) x t =
      mpu (mpu (twL tal F left) (x0 - 1) (t0 + tal x0 (x0 - 1)) (twL tal F left (x0 - 1) (t0 + tal x0 (x0 - 1)) + F x0 t0)) (x0 + 1) (t0 + tal x0 (x0 + 1))
        (mpu (twL tal F left) (x0 - 1) (t0 + tal x0 (x0 - 1)) (twL tal F left (x0 - 1) (t0 + tal x0 (x0 - 1)) + F x0 t0) (x0 + 1) (t0 + tal x0 (x0 + 1)) + F x0 t0) x t := by
  rw [twL_step h0]
  unfold mpu
  have e0 : ¬ (x0 + 1 = x0 - 1) := by omega
  have e2 : ¬ (x0 - 1 = x0 + 1) := by omega
  by_cases h1 : x = x0 + 1
  · subst h1
    by_cases h2 : t = t0 + tal x0 (x0 + 1)
    · rw [h2]; simp [e0]
    · simp [h2, e0]
  · by_cases h2 : x = x0 - 1
    · subst h2
      by_cases h3 : t = t0 + tal x0 (x0 - 1)
      · rw [h3]; simp [e2]
      · simp [h3, e2]
    · simp [h1, h2]
theorem ix2_0 (x y : Value) (w : World) : (Instr.index 47 (.agg #[x, y]) (.int .i64 0)).run Try.prog w = .ok x w := by kernel_rfl
theorem ix2_1 (x y : Value) (w : World) : (Instr.index 47 (.agg #[x, y]) (.int .i64 1)).run Try.prog w = .ok y w := by kernel_rfl
def stepG (tal F : Int → Int → Int) (left : Int → Int → Bool) (x0 t0 : Int) : Nat → Int → Int → Int
  | 0 => twL tal F left
  | 1 => mpu (twL tal F left) (x0 - 1) (t0 + tal x0 (x0 - 1)) (twL tal F left (x0 - 1) (t0 + tal x0 (x0 - 1)) + F x0 t0)
  | _ => mpu (mpu (twL tal F left) (x0 - 1) (t0 + tal x0 (x0 - 1)) (twL tal F left (x0 - 1) (t0 + tal x0 (x0 - 1)) + F x0 t0)) (x0 + 1) (t0 + tal x0 (x0 + 1))
        (mpu (twL tal F left) (x0 - 1) (t0 + tal x0 (x0 - 1)) (twL tal F left (x0 - 1) (t0 + tal x0 (x0 - 1)) + F x0 t0) (x0 + 1) (t0 + tal x0 (x0 + 1)) + F x0 t0)
theorem stepG_bd {tal F : Int → Int → Int} {left : Int → Int → Bool} {B : Int} (h : ∀ x t, 0 ≤ F x t ∧ F x t ≤ B) (x0 t0 : Int) (j : Nat) (hj : j < 2) (x t : Int) : 0 ≤ stepG tal F left x0 t0 j x t ∧ stepG tal F left x0 t0 j x t ≤ 4 * B := by
  have h1 := fun x t => twL_bd (tal := tal) (left := left) h x t
  have h2 := h1 x t
  have h3 := h1 (x0 - 1) (t0 + tal x0 (x0 - 1))
  have h4 := h x0 t0
  have : j = 0 ∨ j = 1 := by omega
  rcases this with rfl | rfl
  · simp only [stepG]; omega
  · simp only [stepG, mpu]; split <;> omega
set_option maxRecDepth 100000 in
set_option maxHeartbeats 1000000 in
theorem impl_tallied (m : Nat) (f : FuncId) (caps : Array Value) (tal : Int → Int → Int) (htal : Tal tal) (w : World) (hm : m ≤ 30)
    (hcf : ∀ (args : Array Value) (W : World), (callFunc f args).run Try.prog W = .ok (.enter f args) W)
    (hct : ∀ (x y : Int) (W : World), Calls Try.prog f (#[.int .i64 x, .int .i64 y] ++ caps) W fun e w' => e = .returned (.int .i64 (tal x y)) ∧ W = w') :
    Calls Try.prog 78 #[.int .i64 (m : Int), .func (.func f) #[] caps] w fun e w' => ∃ v, e = .returned v ∧ Own w' w.heap.size v (allL tal m) ∧ Below w.heap.size w w' := by
  have Htal := Lib.hid hct
  clear hct
  have hmm := @run_makeMap Try.prog
  have HT := Lib.hid htal
  clear htal
  go_enter Try.func78, Try.ntmps78
  have hmade := Mp.made w 0
  go_wp2_with (refine wp_put (w := _) rfl _ _ _ rfl rfl hmade (by decide) rfl rfl (by omega) (by omega) (by decide) ?_; intro w1 hM1 hg1)
  clear hmade
  have hb1 : Below w.heap.size w w1 := (below_new w _).trans ((Below.refl _ _).grown hg1 (by simp) (fun k hk => by cases hk; exact Nat.le_refl _))
  clear hg1
  go_loopw [5, 18] (fun v5 v18 wr => ∃ (k b : Nat), k ≤ m ∧ v5 = .map (some b) ∧ v18 = .int .i64 (k : Int) ∧ Mp wr b (2 ^ k) (k : Int) (tw tal k) ∧ w.heap.size ≤ b ∧ Below w.heap.size w wr) (fun _ v18 _ => m - (intOf v18).toNat)
  case atStart => exact ⟨0, _, Nat.zero_le _, rfl, rfl, hM1.same (start_tw tal), Nat.le_refl _, hb1⟩
  case round =>
    clear hM1 hb1
    obtain ⟨k, b, hk, rfl, rfl, hM, hbb, hbel⟩ := hrel
    have hsz := hbel.size
    have hFo : ∀ x t, ¬ (-(k : Int) ≤ x ∧ x ≤ (k : Int) ∧ 0 ≤ t ∧ t ≤ (k : Int)) → tw tal k x t = 0 := fun x t h => tw_out HT.out k x t (by omega)
    have hpk : (2 : Nat) ^ k ≤ 1073741824 := by
      have := Nat.pow_le_pow_right (n := 2) (by omega) (show k ≤ 30 by omega)
      omega
    have hFb : ∀ x t, 0 ≤ tw tal k x t ∧ tw tal k x t ≤ 1073741824 := fun x t => by
      have h1 := tw_nn (tal := tal) k x t
      have h2 : (2 : Int) ^ k = ((2 ^ k : Nat) : Int) := by simp
      omega
    have HF := Lib.hid hFb
    have HO := Lib.hid hFo
    clear hFb hFo
    obtain ⟨wo, rfl⟩ : ∃ wo : World, wo = wr := ⟨_, rfl⟩
    have hbw := hM.lt
    by_cases hkm : (k : Int) < (m : Int)
    · have hmade := Mp.made wo ((k : Int) + 1)
      have hM' := hM.alloc (.map #[] 0)
      go_wp2_with (first | (at_range; refine wp_range _ rfl _ rfl rfl hM' HO.out (by omega) ?_; intro w2 left cnt hR hL hcn hg2 hs2) | fail)
      go_frame
      have hbn := (hmade.kept hg2 (by simp)).same (twL_none (tal := tal) hL)
      have hb2 := hbel.trans (((Below.refl wo.heap.size wo).alloc (Nat.le_refl _) (.map #[] 0)).grown hg2 (by simp) (fun k hk => by cases hk) |>.mono hsz)
      clear hL hM hM' hmade hg2
      rw [show (wo.alloc (.map #[] 0)).heap.size = wo.heap.size + 1 by simp] at *
      go_loopw [] (fun wr => ∃ (left : Int → Int → Bool) (cnt n : Nat), Rg wr b (wo.heap.size + 1) (2 ^ k) (k : Int) (tw tal k) left cnt ∧ Mp wr wo.heap.size n ((k : Int) + 1) (twL tal (tw tal k) left) ∧ n + 2 * cnt ≤ 2 * 2 ^ k ∧ Below w.heap.size w wr)
        (fun wr => wr.rangeLeft b (wo.heap.size + 1))
      case atStart => exact ⟨left, cnt, 0, hR, hbn, by omega, hb2⟩
      case round =>
        clear hR hbn hb2 hcn
        obtain ⟨left, cnt, n, hR, hN, hn, hbi⟩ := hrel
        have hleft := hR.left_eq
        obtain ⟨wi, rfl⟩ : ∃ wi : World, wi = wr := ⟨_, rfl⟩
        have hltR := hR.lt
        have hltN := hN.lt
        go_wp2_with (first
          | (at_next; go_loud (refine wp_next _ rfl _ rfl rfl hR (by omega) (fun hdone => ?_) (fun x0 t0 w3 cnt' hl0 hin hR' hcnt hg3 hs3 hen => ?_)))
          | fail)
        · have hfin : Mp wi wo.heap.size (2 ^ (k + 1)) ((k + 1 : Nat) : Int) (tw tal (k + 1)) := (hN.mono (by rw [Nat.pow_succ]; omega) (by omega)).same (fun x t => (twL_done hdone x t).symm)
          exact ⟨⟨k + 1, _, by omega, rfl, by go_num, hfin, hsz, hbi⟩, by simp [intOf]; omega⟩
        · have hs4 := hs3
          have hq := Pair.new w3 (.int .i64 x0) (.int .i64 t0) 85
          have q0 := hq.c0
          have q1 := hq.c1
          rw [hs3] at q0 q1
          have hRa := hR'.at (w' := w3.alloc (.cells #[.int .i64 x0, .int .i64 t0] 85)) (Below.heap_alloc w3 _ _ (by omega)) (Below.heap_alloc w3 _ _ (by omega))
          have hNa := ((hN.kept hg3 (by simp)).alloc (.cells #[.int .i64 x0, .int .i64 t0] 85)) 
          have hba := (hbi.grown hg3 (by have := hbi.size; omega) (fun q hq => by cases hq; omega)).trans ((below_new w3 (.cells #[.int .i64 x0, .int .i64 t0] 85)).mono (by have := hbi.size; omega))
          obtain ⟨c, hc⟩ : ∃ c, c = tw tal k x0 t0 := ⟨_, rfl⟩
          rw [← hc]
          have Hc := Lib.hid hc
          clear hc hq hg3 hen hR hN hbi hR'
          go_loopw [35] (fun v35 wr => ∃ (j : Nat) (v : Int), v35 = .int .i64 v ∧ v = j ∧ j ≤ 2 ∧ Rg wr b (wo.heap.size + 1) (2 ^ k) (k : Int) (tw tal k) (fun p q => left p q && !(decide (p = x0) && decide (q = t0))) cnt' ∧ Mp wr wo.heap.size (n + j) ((k : Int) + 1) (stepG tal (tw tal k) left x0 t0 j) ∧
            wr.cell? ⟨wi.heap.size, 0, none⟩ = some (.int .i64 x0) ∧ wr.cell? ⟨wi.heap.size, 1, none⟩ = some (.int .i64 t0) ∧ Below w.heap.size w wr) (fun v35 _ => 2 - (intOf v35).toNat)
          case atStart => exact ⟨0, 0, rfl, rfl, by omega, hRa, hNa, q0, q1, hba⟩
          case round =>
            clear hRa hNa q0 q1 hba
            obtain ⟨j, v, rfl, hv, hj, hR, hN, q0, q1, hbx⟩ := hrel
            obtain ⟨wx, rfl⟩ : ∃ wx : World, wx = wr := ⟨_, rfl⟩
            have hszx := hbx.size
            have hltN := hN.lt
            have hltR := hR.lt
            have hcb : 0 ≤ c ∧ c ≤ 1073741824 := by rw [Hc.out]; exact HF.out x0 t0
            have hj3 : j = 0 ∨ j = 1 ∨ j = 2 := by omega
            rcases hj3 with rfl | rfl | rfl
            · obtain rfl : v = 0 := hv
              obtain ⟨G, hG⟩ : ∃ G, G = stepG tal (tw tal k) left x0 t0 0 := ⟨_, rfl⟩
              have hGb := stepG_bd (tal := tal) (left := left) HF.out x0 t0 0 (by omega) (x0 - 1) (t0 + tal x0 (x0 - 1))
              rw [← hG] at hN hGb
              have HG := Lib.hid hG
              clear hG
              have htl := HT.out x0 (x0 - 1)
              obtain ⟨τ, hτ⟩ : ∃ τ, τ = t0 + tal x0 (x0 - 1) := ⟨_, rfl⟩
              have hr0 : -((k : Int) + 1) ≤ (x0 - 1) ∧ (x0 - 1) ≤ (k : Int) + 1 ∧ 0 ≤ t0 + tal x0 (x0 - 1) ∧ t0 + tal x0 (x0 - 1) ≤ (k : Int) + 1 := by omega
              have kt : IntKind.i64.wrap (t0 + tal x0 (x0 - 1)) = t0 + tal x0 (x0 - 1) := IntWalk.i64_in _ (by omega)
              have kw : IntKind.i64.wrap (G (x0 - 1) (t0 + tal x0 (x0 - 1)) + c) = G (x0 - 1) (t0 + tal x0 (x0 - 1)) + c := IntWalk.i64_in _ (by omega)
              have hw0 : wfI (G (x0 - 1) (t0 + tal x0 (x0 - 1)) + c) = true := wfI_of (by omega)
              have hM1 : Mp wx.drew wo.heap.size (n + 0) ((k : Int) + 1) G := hN.at rfl
              have hix := ix2_0 (.int .i64 (x0 - 1)) (.int .i64 (x0 + 1))
              clear hτ
              go_wp2_with fail
              refine wp_region_noPanic ?_
              refine wp_region_held_drew (S := (fun W' => W'.cell? ⟨wi.heap.size, 0, none⟩ = some (.int .i64 x0) ∧ W'.cell? ⟨wi.heap.size, 1, none⟩ = some (.int .i64 t0))) (by kernel_rfl) ?_ (fun hHeld0 => ?_)
              · (try dsimp only); first | assumption | exact ⟨q0, q1⟩ | exact ⟨q2, q3⟩ | exact ⟨q4, q5⟩
              refine takeH (i := 0) (oi := _) (v := ?_) rfl (by kernel_rfl) (by kernel_rfl) (by kernel_rfl) (fun _ _ _ h => h) (Or.inl ⟨by rfl, ?_⟩) (by assumption) ?_
              rotate_left
              · first | (intro w hSw; (try dsimp only at hSw); go_simp; done) | (intro w hSw; (try dsimp only at hSw); go_simp; with_reducible rfl)
              (try simp only [Act.put, List.setIfInBounds_toArray, List.set_cons_zero, List.set_cons_succ])
              refine takeH (i := 1) (oi := _) (v := ?_) rfl (by kernel_rfl) (by kernel_rfl) (by kernel_rfl) (fun _ _ _ h => h) (Or.inl ⟨by rfl, ?_⟩) (by assumption) ?_
              rotate_left
              · first | (intro w hSw; (try dsimp only at hSw); go_simp; done) | (intro w hSw; (try dsimp only at hSw); go_simp; with_reducible rfl)
              (try simp only [Act.put, List.setIfInBounds_toArray, List.set_cons_zero, List.set_cons_succ])
              refine takeH (i := 2) (oi := _) (v := ?_) rfl (by kernel_rfl) (by kernel_rfl) (by kernel_rfl) (fun _ _ _ h => h) (Or.inl ⟨by rfl, ?_⟩) (by assumption) ?_
              rotate_left
              · first | (intro w hSw; (try dsimp only at hSw); go_simp; done) | (intro w hSw; (try dsimp only at hSw); go_simp; with_reducible rfl)
              (try simp only [Act.put, List.setIfInBounds_toArray, List.set_cons_zero, List.set_cons_succ])
              refine takeH (i := 3) (oi := _) (v := ?_) rfl (by kernel_rfl) (by kernel_rfl) (by kernel_rfl) (fun _ _ _ h => h) (Or.inl ⟨by rfl, ?_⟩) (by assumption) ?_
              rotate_left
              · first | (intro w hSw; (try dsimp only at hSw); go_simp; done) | (intro w hSw; (try dsimp only at hSw); go_simp; with_reducible rfl)
              (try simp only [Act.put, List.setIfInBounds_toArray, List.set_cons_zero, List.set_cons_succ])
              refine takeH (i := 4) (oi := _) (v := ?_) rfl (by kernel_rfl) (by kernel_rfl) (by kernel_rfl) (fun _ _ _ h => h) (Or.inl ⟨by rfl, ?_⟩) (by assumption) ?_
              rotate_left
              · first | (intro w hSw; (try dsimp only at hSw); go_simp; done) | (intro w hSw; (try dsimp only at hSw); go_simp; with_reducible rfl)
              (try simp only [Act.put, List.setIfInBounds_toArray, List.set_cons_zero, List.set_cons_succ])
              refine takeH (i := 5) (oi := _) (v := ?_) rfl (by kernel_rfl) (by kernel_rfl) (by kernel_rfl) (fun _ _ _ h => h) (Or.inl ⟨by rfl, ?_⟩) (by assumption) ?_
              rotate_left
              · first | (intro w hSw; (try dsimp only at hSw); go_simp; done) | (intro w hSw; (try dsimp only at hSw); go_simp; with_reducible rfl)
              (try simp only [Act.put, List.setIfInBounds_toArray, List.set_cons_zero, List.set_cons_succ])
              refine takeH (i := 6) (oi := _) (v := ?_) rfl (by kernel_rfl) (by kernel_rfl) (by kernel_rfl) (fun _ _ _ h => h) (Or.inl ⟨by rfl, ?_⟩) (by assumption) ?_
              rotate_left
              · first | (intro w hSw; (try dsimp only at hSw); go_simp; done) | (intro w hSw; (try dsimp only at hSw); go_simp; with_reducible rfl)
              (try simp only [Act.put, List.setIfInBounds_toArray, List.set_cons_zero, List.set_cons_succ])
              refine takeH (i := 7) (oi := _) (v := ?_) rfl (by kernel_rfl) (by kernel_rfl) (by kernel_rfl) (fun _ _ _ h => h) (Or.inl ⟨by rfl, ?_⟩) (by assumption) ?_
              rotate_left
              · first | (intro w hSw; (try dsimp only at hSw); go_simp; done) | (intro w hSw; (try dsimp only at hSw); go_simp; with_reducible rfl)
              (try simp only [Act.put, List.setIfInBounds_toArray, List.set_cons_zero, List.set_cons_succ])
              refine takeH (i := 12) (oi := _) (v := ?_) rfl (by kernel_rfl) (by kernel_rfl) (by kernel_rfl) (fun _ _ _ h => h) (Or.inl ⟨by rfl, ?_⟩) (by assumption) ?_
              rotate_left
              · first | (intro w hSw; (try dsimp only at hSw); go_simp; done) | (intro w hSw; (try dsimp only at hSw); go_simp; with_reducible rfl)
              (try simp only [Act.put, List.setIfInBounds_toArray, List.set_cons_zero, List.set_cons_succ])
              refine wpAnyH_ready (rs := [8]) (by kernel_rfl) (by simp) ?_
              refine consH rfl (fun Kq hKq => ?_)
              go_simp
              (refine (Htal.out x0 (x0 - 1) _).mono ?_; rintro e w' ⟨rfl, rfl⟩)
              refine hKq.out _ _ ?_ (fun hHeld1 => ?_)
              · (try dsimp only); first | assumption | exact ⟨q0, q1⟩ | exact ⟨q2, q3⟩ | exact ⟨q4, q5⟩
              clear hKq Kq
              (try simp only [Act.put, List.setIfInBounds_toArray, List.set_cons_zero, List.set_cons_succ])
              clear hHeld0
              refine takeH (i := 9) (oi := _) (v := ?_) rfl (by kernel_rfl) (by kernel_rfl) (by kernel_rfl) (fun _ _ _ h => h) (Or.inl ⟨by rfl, ?_⟩) (by assumption) ?_
              rotate_left
              · first | (intro w hSw; (try dsimp only at hSw); go_simp; done) | (intro w hSw; (try dsimp only at hSw); go_simp; with_reducible rfl)
              (try simp only [Act.put, List.setIfInBounds_toArray, List.set_cons_zero, List.set_cons_succ])
              refine takeH (i := 10) (oi := _) (v := ?_) rfl (by kernel_rfl) (by kernel_rfl) (by kernel_rfl) (fun _ _ _ h => h) (Or.inl ⟨by rfl, ?_⟩) (by assumption) ?_
              rotate_left
              · first | (intro w hSw; (try dsimp only at hSw); go_simp; done) | (intro w hSw; (try dsimp only at hSw); go_simp; with_reducible rfl)
              (try simp only [Act.put, List.setIfInBounds_toArray, List.set_cons_zero, List.set_cons_succ])
              refine wpAnyH_ready (rs := [11, 14]) (by kernel_rfl) (by simp) ?_
              refine consM rfl (fun Kq hKq => ?_) (consH rfl (fun Kq hKq => ?_))
              · refine st_look rfl _ _ rfl rfl hM1 rfl hr0 (by omega) ?_
                refine hKq.out _ _ ?_ (fun hHeld2 => ?_)
                · (try dsimp only); first | assumption | exact ⟨q0, q1⟩ | exact ⟨q2, q3⟩ | exact ⟨q4, q5⟩
                clear hKq Kq
                (try simp only [Act.put, List.setIfInBounds_toArray, List.set_cons_zero, List.set_cons_succ])
                clear hHeld1
                refine takeH (i := 13) (oi := _) (v := ?_) rfl (by kernel_rfl) (by kernel_rfl) (by kernel_rfl) (fun _ _ _ h => h) (Or.inl ⟨by rfl, ?_⟩) (by assumption) ?_
                rotate_left
                · first | (intro w hSw; (try dsimp only at hSw); go_simp; done) | (intro w hSw; (try dsimp only at hSw); go_simp; with_reducible rfl)
                (try simp only [Act.put, List.setIfInBounds_toArray, List.set_cons_zero, List.set_cons_succ])
                refine wpAnyH_ready (rs := [14]) (by kernel_rfl) (by simp) ?_
                refine consH rfl (fun Kq hKq => ?_)
                refine st_entry rfl _ _ rfl rfl hM1 (by simp only [maxLen]; omega) rfl hr0 (by omega) ?_
                intro st w1 hM2 hE hg1
                have q2 := hg1.cell q0 (by simp; omega)
                have q3 := hg1.cell q1 (by simp; omega)
                refine hKq.out _ _ ?_ (fun hHeld3 => ?_)
                · (try dsimp only); first | assumption | exact ⟨q0, q1⟩ | exact ⟨q2, q3⟩ | exact ⟨q4, q5⟩
                clear hKq Kq
                (try simp only [Act.put, List.setIfInBounds_toArray, List.set_cons_zero, List.set_cons_succ])
                clear hHeld2
                refine takeH (i := 15) (oi := _) (v := ?_) rfl (by kernel_rfl) (by kernel_rfl) (by kernel_rfl) (fun _ _ _ h => h) (Or.inl ⟨by rfl, ?_⟩) (by assumption) ?_
                rotate_left
                · first | (intro w hSw; (try dsimp only at hSw); go_simp; done) | (intro w hSw; (try dsimp only at hSw); go_simp; with_reducible rfl)
                (try simp only [Act.put, List.setIfInBounds_toArray, List.set_cons_zero, List.set_cons_succ])
                refine wpAnyH_ready (rs := [16]) (by kernel_rfl) (by simp) ?_
                refine consH rfl (fun Kq hKq => ?_)
                refine st_store rfl _ _ _ rfl rfl hE rfl rfl hw0 ?_
                intro w2 hM3 hg2
                have q4 := hg2.cell q2 (by simp; omega)
                have q5 := hg2.cell q3 (by simp; omega)
                refine hKq.out _ _ ?_ (fun hHeld4 => ?_)
                · (try dsimp only); first | assumption | exact ⟨q0, q1⟩ | exact ⟨q2, q3⟩ | exact ⟨q4, q5⟩
                clear hKq Kq
                (try simp only [Act.put, List.setIfInBounds_toArray, List.set_cons_zero, List.set_cons_succ])
                clear hHeld3
                refine wpAnyH_done (by kernel_rfl) ?_ _
                refine NoPanic.normal ?_
                have hbf : ∀ g, g ≠ wo.heap.size → g < wx.heap.size → w2.heap[g]? = wx.heap[g]? := fun g hg hlt => (hg2.block g (Nat.lt_of_lt_of_le hlt hg1.size) (by simp; omega)).trans (hg1.block g hlt (by simp; omega))
                have hR3 := hR.at (hbf b (by omega) hltR.1) (hbf (wo.heap.size + 1) (by omega) hltR.2.1)
                have hb3 : Below w.heap.size w w2 := (hbx.trans (((Below.refl w.heap.size wx).drew).grown hg1 (by exact hszx) (fun q hq => by cases hq; omega))).grown hg2 (by have := hg1.size; exact Nat.le_trans hszx this) (fun q hq => by cases hq; omega)
                rw [HG.out, Hc.out] at hM3
                go_wp2_with fail
                go_roundw
                case rel => exact ⟨0 + 1, _, rfl, by omega, by omega, hR3, hM3, q4, q5, hb3⟩
                case measure => simp [intOf]
              · refine st_entry rfl _ _ rfl rfl hM1 (by simp only [maxLen]; omega) rfl hr0 (by omega) ?_
                intro st w1 hM2 hE hg1
                have q2 := hg1.cell q0 (by simp; omega)
                have q3 := hg1.cell q1 (by simp; omega)
                refine hKq.out _ _ ?_ (fun hHeld2 => ?_)
                · (try dsimp only); first | assumption | exact ⟨q0, q1⟩ | exact ⟨q2, q3⟩ | exact ⟨q4, q5⟩
                clear hKq Kq
                (try simp only [Act.put, List.setIfInBounds_toArray, List.set_cons_zero, List.set_cons_succ])
                clear hHeld1
                refine takeH (i := 15) (oi := _) (v := ?_) rfl (by kernel_rfl) (by kernel_rfl) (by kernel_rfl) (fun _ _ _ h => h) (Or.inl ⟨by rfl, ?_⟩) (by assumption) ?_
                rotate_left
                · first | (intro w hSw; (try dsimp only at hSw); go_simp; done) | (intro w hSw; (try dsimp only at hSw); go_simp; with_reducible rfl)
                (try simp only [Act.put, List.setIfInBounds_toArray, List.set_cons_zero, List.set_cons_succ])
                refine wpAnyH_ready (rs := [11]) (by kernel_rfl) (by simp) ?_
                refine consH rfl (fun Kq hKq => ?_)
                refine st_look rfl _ _ rfl rfl hM2 rfl hr0 (by omega) ?_
                refine hKq.out _ _ ?_ (fun hHeld3 => ?_)
                · (try dsimp only); first | assumption | exact ⟨q0, q1⟩ | exact ⟨q2, q3⟩ | exact ⟨q4, q5⟩
                clear hKq Kq
                (try simp only [Act.put, List.setIfInBounds_toArray, List.set_cons_zero, List.set_cons_succ])
                clear hHeld2
                refine takeH (i := 13) (oi := _) (v := ?_) rfl (by kernel_rfl) (by kernel_rfl) (by kernel_rfl) (fun _ _ _ h => h) (Or.inl ⟨by rfl, ?_⟩) (by assumption) ?_
                rotate_left
                · first | (intro w hSw; (try dsimp only at hSw); go_simp; done) | (intro w hSw; (try dsimp only at hSw); go_simp; with_reducible rfl)
                (try simp only [Act.put, List.setIfInBounds_toArray, List.set_cons_zero, List.set_cons_succ])
                refine wpAnyH_ready (rs := [16]) (by kernel_rfl) (by simp) ?_
                refine consH rfl (fun Kq hKq => ?_)
                refine st_store rfl _ _ _ rfl rfl hE rfl rfl hw0 ?_
                intro w2 hM3 hg2
                have q4 := hg2.cell q2 (by simp; omega)
                have q5 := hg2.cell q3 (by simp; omega)
                refine hKq.out _ _ ?_ (fun hHeld4 => ?_)
                · (try dsimp only); first | assumption | exact ⟨q0, q1⟩ | exact ⟨q2, q3⟩ | exact ⟨q4, q5⟩
                clear hKq Kq
                (try simp only [Act.put, List.setIfInBounds_toArray, List.set_cons_zero, List.set_cons_succ])
                clear hHeld3
                refine wpAnyH_done (by kernel_rfl) ?_ _
                refine NoPanic.normal ?_
                have hbf : ∀ g, g ≠ wo.heap.size → g < wx.heap.size → w2.heap[g]? = wx.heap[g]? := fun g hg hlt => (hg2.block g (Nat.lt_of_lt_of_le hlt hg1.size) (by simp; omega)).trans (hg1.block g hlt (by simp; omega))
                have hR3 := hR.at (hbf b (by omega) hltR.1) (hbf (wo.heap.size + 1) (by omega) hltR.2.1)
                have hb3 : Below w.heap.size w w2 := (hbx.trans (((Below.refl w.heap.size wx).drew).grown hg1 (by exact hszx) (fun q hq => by cases hq; omega))).grown hg2 (by have := hg1.size; exact Nat.le_trans hszx this) (fun q hq => by cases hq; omega)
                rw [HG.out, Hc.out] at hM3
                go_wp2_with fail
                go_roundw
                case rel => exact ⟨0 + 1, _, rfl, by omega, by omega, hR3, hM3, q4, q5, hb3⟩
                case measure => simp [intOf]
            · obtain rfl : v = 1 := hv
              obtain ⟨G, hG⟩ : ∃ G, G = stepG tal (tw tal k) left x0 t0 1 := ⟨_, rfl⟩
              have hGb := stepG_bd (tal := tal) (left := left) HF.out x0 t0 1 (by omega) (x0 + 1) (t0 + tal x0 (x0 + 1))
              rw [← hG] at hN hGb
              have HG := Lib.hid hG
              clear hG
              have htl := HT.out x0 (x0 + 1)
              obtain ⟨τ, hτ⟩ : ∃ τ, τ = t0 + tal x0 (x0 + 1) := ⟨_, rfl⟩
              have hr1 : -((k : Int) + 1) ≤ (x0 + 1) ∧ (x0 + 1) ≤ (k : Int) + 1 ∧ 0 ≤ t0 + tal x0 (x0 + 1) ∧ t0 + tal x0 (x0 + 1) ≤ (k : Int) + 1 := by omega
              have kt : IntKind.i64.wrap (t0 + tal x0 (x0 + 1)) = t0 + tal x0 (x0 + 1) := IntWalk.i64_in _ (by omega)
              have kw : IntKind.i64.wrap (G (x0 + 1) (t0 + tal x0 (x0 + 1)) + c) = G (x0 + 1) (t0 + tal x0 (x0 + 1)) + c := IntWalk.i64_in _ (by omega)
              have hw1 : wfI (G (x0 + 1) (t0 + tal x0 (x0 + 1)) + c) = true := wfI_of (by omega)
              have hM1 : Mp wx.drew wo.heap.size (n + 1) ((k : Int) + 1) G := hN.at rfl
              have hix := ix2_1 (.int .i64 (x0 - 1)) (.int .i64 (x0 + 1))
              clear hτ
              go_wp2_with fail
              refine wp_region_noPanic ?_
              refine wp_region_held_drew (S := (fun W' => W'.cell? ⟨wi.heap.size, 0, none⟩ = some (.int .i64 x0) ∧ W'.cell? ⟨wi.heap.size, 1, none⟩ = some (.int .i64 t0))) (by kernel_rfl) ?_ (fun hHeld0 => ?_)
              · (try dsimp only); first | assumption | exact ⟨q0, q1⟩ | exact ⟨q2, q3⟩ | exact ⟨q4, q5⟩
              refine takeH (i := 0) (oi := _) (v := ?_) rfl (by kernel_rfl) (by kernel_rfl) (by kernel_rfl) (fun _ _ _ h => h) (Or.inl ⟨by rfl, ?_⟩) (by assumption) ?_
              rotate_left
              · first | (intro w hSw; (try dsimp only at hSw); go_simp; done) | (intro w hSw; (try dsimp only at hSw); go_simp; with_reducible rfl)
              (try simp only [Act.put, List.setIfInBounds_toArray, List.set_cons_zero, List.set_cons_succ])
              refine takeH (i := 1) (oi := _) (v := ?_) rfl (by kernel_rfl) (by kernel_rfl) (by kernel_rfl) (fun _ _ _ h => h) (Or.inl ⟨by rfl, ?_⟩) (by assumption) ?_
              rotate_left
              · first | (intro w hSw; (try dsimp only at hSw); go_simp; done) | (intro w hSw; (try dsimp only at hSw); go_simp; with_reducible rfl)
              (try simp only [Act.put, List.setIfInBounds_toArray, List.set_cons_zero, List.set_cons_succ])
              refine takeH (i := 2) (oi := _) (v := ?_) rfl (by kernel_rfl) (by kernel_rfl) (by kernel_rfl) (fun _ _ _ h => h) (Or.inl ⟨by rfl, ?_⟩) (by assumption) ?_
              rotate_left
              · first | (intro w hSw; (try dsimp only at hSw); go_simp; done) | (intro w hSw; (try dsimp only at hSw); go_simp; with_reducible rfl)
              (try simp only [Act.put, List.setIfInBounds_toArray, List.set_cons_zero, List.set_cons_succ])
              refine takeH (i := 3) (oi := _) (v := ?_) rfl (by kernel_rfl) (by kernel_rfl) (by kernel_rfl) (fun _ _ _ h => h) (Or.inl ⟨by rfl, ?_⟩) (by assumption) ?_
              rotate_left
              · first | (intro w hSw; (try dsimp only at hSw); go_simp; done) | (intro w hSw; (try dsimp only at hSw); go_simp; with_reducible rfl)
              (try simp only [Act.put, List.setIfInBounds_toArray, List.set_cons_zero, List.set_cons_succ])
              refine takeH (i := 4) (oi := _) (v := ?_) rfl (by kernel_rfl) (by kernel_rfl) (by kernel_rfl) (fun _ _ _ h => h) (Or.inl ⟨by rfl, ?_⟩) (by assumption) ?_
              rotate_left
              · first | (intro w hSw; (try dsimp only at hSw); go_simp; done) | (intro w hSw; (try dsimp only at hSw); go_simp; with_reducible rfl)
              (try simp only [Act.put, List.setIfInBounds_toArray, List.set_cons_zero, List.set_cons_succ])
              refine takeH (i := 5) (oi := _) (v := ?_) rfl (by kernel_rfl) (by kernel_rfl) (by kernel_rfl) (fun _ _ _ h => h) (Or.inl ⟨by rfl, ?_⟩) (by assumption) ?_
              rotate_left
              · first | (intro w hSw; (try dsimp only at hSw); go_simp; done) | (intro w hSw; (try dsimp only at hSw); go_simp; with_reducible rfl)
              (try simp only [Act.put, List.setIfInBounds_toArray, List.set_cons_zero, List.set_cons_succ])
              refine takeH (i := 6) (oi := _) (v := ?_) rfl (by kernel_rfl) (by kernel_rfl) (by kernel_rfl) (fun _ _ _ h => h) (Or.inl ⟨by rfl, ?_⟩) (by assumption) ?_
              rotate_left
              · first | (intro w hSw; (try dsimp only at hSw); go_simp; done) | (intro w hSw; (try dsimp only at hSw); go_simp; with_reducible rfl)
              (try simp only [Act.put, List.setIfInBounds_toArray, List.set_cons_zero, List.set_cons_succ])
              refine takeH (i := 7) (oi := _) (v := ?_) rfl (by kernel_rfl) (by kernel_rfl) (by kernel_rfl) (fun _ _ _ h => h) (Or.inl ⟨by rfl, ?_⟩) (by assumption) ?_
              rotate_left
              · first | (intro w hSw; (try dsimp only at hSw); go_simp; done) | (intro w hSw; (try dsimp only at hSw); go_simp; with_reducible rfl)
              (try simp only [Act.put, List.setIfInBounds_toArray, List.set_cons_zero, List.set_cons_succ])
              refine takeH (i := 12) (oi := _) (v := ?_) rfl (by kernel_rfl) (by kernel_rfl) (by kernel_rfl) (fun _ _ _ h => h) (Or.inl ⟨by rfl, ?_⟩) (by assumption) ?_
              rotate_left
              · first | (intro w hSw; (try dsimp only at hSw); go_simp; done) | (intro w hSw; (try dsimp only at hSw); go_simp; with_reducible rfl)
              (try simp only [Act.put, List.setIfInBounds_toArray, List.set_cons_zero, List.set_cons_succ])
              refine wpAnyH_ready (rs := [8]) (by kernel_rfl) (by simp) ?_
              refine consH rfl (fun Kq hKq => ?_)
              go_simp
              (refine (Htal.out x0 (x0 + 1) _).mono ?_; rintro e w' ⟨rfl, rfl⟩)
              refine hKq.out _ _ ?_ (fun hHeld1 => ?_)
              · (try dsimp only); first | assumption | exact ⟨q0, q1⟩ | exact ⟨q2, q3⟩ | exact ⟨q4, q5⟩
              clear hKq Kq
              (try simp only [Act.put, List.setIfInBounds_toArray, List.set_cons_zero, List.set_cons_succ])
              clear hHeld0
              refine takeH (i := 9) (oi := _) (v := ?_) rfl (by kernel_rfl) (by kernel_rfl) (by kernel_rfl) (fun _ _ _ h => h) (Or.inl ⟨by rfl, ?_⟩) (by assumption) ?_
              rotate_left
              · first | (intro w hSw; (try dsimp only at hSw); go_simp; done) | (intro w hSw; (try dsimp only at hSw); go_simp; with_reducible rfl)
              (try simp only [Act.put, List.setIfInBounds_toArray, List.set_cons_zero, List.set_cons_succ])
              refine takeH (i := 10) (oi := _) (v := ?_) rfl (by kernel_rfl) (by kernel_rfl) (by kernel_rfl) (fun _ _ _ h => h) (Or.inl ⟨by rfl, ?_⟩) (by assumption) ?_
              rotate_left
              · first | (intro w hSw; (try dsimp only at hSw); go_simp; done) | (intro w hSw; (try dsimp only at hSw); go_simp; with_reducible rfl)
              (try simp only [Act.put, List.setIfInBounds_toArray, List.set_cons_zero, List.set_cons_succ])
              refine wpAnyH_ready (rs := [11, 14]) (by kernel_rfl) (by simp) ?_
              refine consM rfl (fun Kq hKq => ?_) (consH rfl (fun Kq hKq => ?_))
              · refine st_look rfl _ _ rfl rfl hM1 rfl hr1 (by omega) ?_
                refine hKq.out _ _ ?_ (fun hHeld2 => ?_)
                · (try dsimp only); first | assumption | exact ⟨q0, q1⟩ | exact ⟨q2, q3⟩ | exact ⟨q4, q5⟩
                clear hKq Kq
                (try simp only [Act.put, List.setIfInBounds_toArray, List.set_cons_zero, List.set_cons_succ])
                clear hHeld1
                refine takeH (i := 13) (oi := _) (v := ?_) rfl (by kernel_rfl) (by kernel_rfl) (by kernel_rfl) (fun _ _ _ h => h) (Or.inl ⟨by rfl, ?_⟩) (by assumption) ?_
                rotate_left
                · first | (intro w hSw; (try dsimp only at hSw); go_simp; done) | (intro w hSw; (try dsimp only at hSw); go_simp; with_reducible rfl)
                (try simp only [Act.put, List.setIfInBounds_toArray, List.set_cons_zero, List.set_cons_succ])
                refine wpAnyH_ready (rs := [14]) (by kernel_rfl) (by simp) ?_
                refine consH rfl (fun Kq hKq => ?_)
                refine st_entry rfl _ _ rfl rfl hM1 (by simp only [maxLen]; omega) rfl hr1 (by omega) ?_
                intro st w1 hM2 hE hg1
                have q2 := hg1.cell q0 (by simp; omega)
                have q3 := hg1.cell q1 (by simp; omega)
                refine hKq.out _ _ ?_ (fun hHeld3 => ?_)
                · (try dsimp only); first | assumption | exact ⟨q0, q1⟩ | exact ⟨q2, q3⟩ | exact ⟨q4, q5⟩
                clear hKq Kq
                (try simp only [Act.put, List.setIfInBounds_toArray, List.set_cons_zero, List.set_cons_succ])
                clear hHeld2
                refine takeH (i := 15) (oi := _) (v := ?_) rfl (by kernel_rfl) (by kernel_rfl) (by kernel_rfl) (fun _ _ _ h => h) (Or.inl ⟨by rfl, ?_⟩) (by assumption) ?_
                rotate_left
                · first | (intro w hSw; (try dsimp only at hSw); go_simp; done) | (intro w hSw; (try dsimp only at hSw); go_simp; with_reducible rfl)
                (try simp only [Act.put, List.setIfInBounds_toArray, List.set_cons_zero, List.set_cons_succ])
                refine wpAnyH_ready (rs := [16]) (by kernel_rfl) (by simp) ?_
                refine consH rfl (fun Kq hKq => ?_)
                refine st_store rfl _ _ _ rfl rfl hE rfl rfl hw1 ?_
                intro w2 hM3 hg2
                have q4 := hg2.cell q2 (by simp; omega)
                have q5 := hg2.cell q3 (by simp; omega)
                refine hKq.out _ _ ?_ (fun hHeld4 => ?_)
                · (try dsimp only); first | assumption | exact ⟨q0, q1⟩ | exact ⟨q2, q3⟩ | exact ⟨q4, q5⟩
                clear hKq Kq
                (try simp only [Act.put, List.setIfInBounds_toArray, List.set_cons_zero, List.set_cons_succ])
                clear hHeld3
                refine wpAnyH_done (by kernel_rfl) ?_ _
                refine NoPanic.normal ?_
                have hbf : ∀ g, g ≠ wo.heap.size → g < wx.heap.size → w2.heap[g]? = wx.heap[g]? := fun g hg hlt => (hg2.block g (Nat.lt_of_lt_of_le hlt hg1.size) (by simp; omega)).trans (hg1.block g hlt (by simp; omega))
                have hR3 := hR.at (hbf b (by omega) hltR.1) (hbf (wo.heap.size + 1) (by omega) hltR.2.1)
                have hb3 : Below w.heap.size w w2 := (hbx.trans (((Below.refl w.heap.size wx).drew).grown hg1 (by exact hszx) (fun q hq => by cases hq; omega))).grown hg2 (by have := hg1.size; exact Nat.le_trans hszx this) (fun q hq => by cases hq; omega)
                rw [HG.out, Hc.out] at hM3
                go_wp2_with fail
                go_roundw
                case rel => exact ⟨1 + 1, _, rfl, by omega, by omega, hR3, hM3, q4, q5, hb3⟩
                case measure => simp [intOf]
              · refine st_entry rfl _ _ rfl rfl hM1 (by simp only [maxLen]; omega) rfl hr1 (by omega) ?_
                intro st w1 hM2 hE hg1
                have q2 := hg1.cell q0 (by simp; omega)
                have q3 := hg1.cell q1 (by simp; omega)
                refine hKq.out _ _ ?_ (fun hHeld2 => ?_)
                · (try dsimp only); first | assumption | exact ⟨q0, q1⟩ | exact ⟨q2, q3⟩ | exact ⟨q4, q5⟩
                clear hKq Kq
                (try simp only [Act.put, List.setIfInBounds_toArray, List.set_cons_zero, List.set_cons_succ])
                clear hHeld1
                refine takeH (i := 15) (oi := _) (v := ?_) rfl (by kernel_rfl) (by kernel_rfl) (by kernel_rfl) (fun _ _ _ h => h) (Or.inl ⟨by rfl, ?_⟩) (by assumption) ?_
                rotate_left
                · first | (intro w hSw; (try dsimp only at hSw); go_simp; done) | (intro w hSw; (try dsimp only at hSw); go_simp; with_reducible rfl)
                (try simp only [Act.put, List.setIfInBounds_toArray, List.set_cons_zero, List.set_cons_succ])
                refine wpAnyH_ready (rs := [11]) (by kernel_rfl) (by simp) ?_
                refine consH rfl (fun Kq hKq => ?_)
                refine st_look rfl _ _ rfl rfl hM2 rfl hr1 (by omega) ?_
                refine hKq.out _ _ ?_ (fun hHeld3 => ?_)
                · (try dsimp only); first | assumption | exact ⟨q0, q1⟩ | exact ⟨q2, q3⟩ | exact ⟨q4, q5⟩
                clear hKq Kq
                (try simp only [Act.put, List.setIfInBounds_toArray, List.set_cons_zero, List.set_cons_succ])
                clear hHeld2
                refine takeH (i := 13) (oi := _) (v := ?_) rfl (by kernel_rfl) (by kernel_rfl) (by kernel_rfl) (fun _ _ _ h => h) (Or.inl ⟨by rfl, ?_⟩) (by assumption) ?_
                rotate_left
                · first | (intro w hSw; (try dsimp only at hSw); go_simp; done) | (intro w hSw; (try dsimp only at hSw); go_simp; with_reducible rfl)
                (try simp only [Act.put, List.setIfInBounds_toArray, List.set_cons_zero, List.set_cons_succ])
                refine wpAnyH_ready (rs := [16]) (by kernel_rfl) (by simp) ?_
                refine consH rfl (fun Kq hKq => ?_)
                refine st_store rfl _ _ _ rfl rfl hE rfl rfl hw1 ?_
                intro w2 hM3 hg2
                have q4 := hg2.cell q2 (by simp; omega)
                have q5 := hg2.cell q3 (by simp; omega)
                refine hKq.out _ _ ?_ (fun hHeld4 => ?_)
                · (try dsimp only); first | assumption | exact ⟨q0, q1⟩ | exact ⟨q2, q3⟩ | exact ⟨q4, q5⟩
                clear hKq Kq
                (try simp only [Act.put, List.setIfInBounds_toArray, List.set_cons_zero, List.set_cons_succ])
                clear hHeld3
                refine wpAnyH_done (by kernel_rfl) ?_ _
                refine NoPanic.normal ?_
                have hbf : ∀ g, g ≠ wo.heap.size → g < wx.heap.size → w2.heap[g]? = wx.heap[g]? := fun g hg hlt => (hg2.block g (Nat.lt_of_lt_of_le hlt hg1.size) (by simp; omega)).trans (hg1.block g hlt (by simp; omega))
                have hR3 := hR.at (hbf b (by omega) hltR.1) (hbf (wo.heap.size + 1) (by omega) hltR.2.1)
                have hb3 : Below w.heap.size w w2 := (hbx.trans (((Below.refl w.heap.size wx).drew).grown hg1 (by exact hszx) (fun q hq => by cases hq; omega))).grown hg2 (by have := hg1.size; exact Nat.le_trans hszx this) (fun q hq => by cases hq; omega)
                rw [HG.out, Hc.out] at hM3
                go_wp2_with fail
                go_roundw
                case rel => exact ⟨1 + 1, _, rfl, by omega, by omega, hR3, hM3, q4, q5, hb3⟩
                case measure => simp [intOf]
            · obtain rfl : v = 2 := hv
              have hN2 := hN.same (twL_half hl0)
              have hleft2 := hR.left_eq
              go_wp2_with fail
              exact ⟨⟨_, cnt', n + 2, hR, hN2, by omega, hbx⟩, by rw [hleft2, hleft]; exact hcnt⟩
    · obtain rfl : k = m := by omega
      have hmk := mk_lit ((k : Int) + 1) (k + 1) (by omega) (by omega)
      have hM' := hM.alloc (.cells (zv (k + 1)) 3)
      have hz := Own.zeros wo w.heap.size (k + 1) hsz (by simp only [maxLen]; omega)
      have hba := hbel.alloc hsz (.cells (zv (k + 1)) 3)
      have hsa : (wo.alloc (.cells (zv (k + 1)) 3)).heap.size = wo.heap.size + 1 := by simp
      clear hM hmm
      go_wp2_with (first | (at_range; refine wp_range _ rfl _ rfl rfl hM' HO.out (by omega) ?_; intro w2 left cnt hR hL hcn hg2 hs2) | fail)
      rw [← outL_none hL] at hz
      have hO := hz.grown hg2 (by simp [Value.ownBlock])
      have hb2 := hba.grown hg2 (by omega) (fun q hq => by cases hq)
      rw [hsa] at *
      clear hL hM' hz hba hmk hg2
      go_loopw [] (fun wr => ∃ (left : Int → Int → Bool) (cnt : Nat), Rg wr b (wo.heap.size + 1) (2 ^ k) (k : Int) (tw tal k) left cnt ∧ Own wr w.heap.size (.slice (some ⟨wo.heap.size, 0, none⟩) (k + 1) (k + 1)) (outL (tw tal k) left k) ∧ Below w.heap.size w wr)
        (fun wr => wr.rangeLeft b (wo.heap.size + 1))
      case atStart => exact ⟨left, cnt, hR, hO, hb2⟩
      case round =>
        clear hR hO hb2 hcn
        obtain ⟨left, cnt, hR, hO, hbi⟩ := hrel
        have hleft := hR.left_eq
        obtain ⟨wi, rfl⟩ : ∃ wi : World, wi = wr := ⟨_, rfl⟩
        have hltR := hR.lt
        have HL := Lib.hid (outL_length (tw tal k) left k)
        have HO3 : Hid (∀ (x0 t0 : Int) (w3 : World), wi.grownBy w3 (some (wo.heap.size + 1)) → Own (w3.alloc (.cells #[.int .i64 x0, .int .i64 t0] 85)) w.heap.size (.slice (some ⟨wo.heap.size, 0, none⟩) (k + 1) (k + 1)) (outL (tw tal k) left k)) :=
          Lib.hid fun x0 t0 w3 hg3 => (hO.grown hg3 (by simp [Value.ownBlock])).below (below_new w3 _)
        have HC : Hid (∀ (x0 t0 : Int) (w3 : World), (-(k : Int) ≤ x0 ∧ x0 ≤ (k : Int) ∧ 0 ≤ t0 ∧ t0 ≤ (k : Int)) → wi.grownBy w3 (some (wo.heap.size + 1)) → (w3.alloc (.cells #[.int .i64 x0, .int .i64 t0] 85)).cell? ⟨wo.heap.size, t0.toNat, none⟩ = some (.int .i64 (nth (outL (tw tal k) left k) t0.toNat))) :=
          Lib.hid fun x0 t0 w3 hin hg3 => (HO3.out x0 t0 w3 hg3).cell (by rw [HL.out]; omega)
        have HZ : Hid (∀ (x0 t0 : Int) (w3 : World), wi.grownBy w3 (some (wo.heap.size + 1)) → (w3.alloc (.cells #[.int .i64 x0, .int .i64 t0] 85)).frozen? ⟨wo.heap.size, t0.toNat, none⟩ = false) :=
          Lib.hid fun x0 t0 w3 hg3 => (HO3.out x0 t0 w3 hg3).free (by rw [HL.out]) _
        have HB : Hid (∀ (x0 t0 : Int), (0 ≤ t0 ∧ t0 ≤ (k : Int)) → IntKind.i64.wrap (nth (outL (tw tal k) left k) t0.toNat + tw tal k x0 t0) = nth (outL (tw tal k) left k) t0.toNat + tw tal k x0 t0) :=
          Lib.hid fun x0 t0 ht => by
            have h1 := partA_bd (left := left) HF.out ((t0.toNat : Nat) : Int)
            rw [← outL_nth (m := k) (by omega)] at h1
            have h2 := HF.out x0 t0
            exact IntWalk.i64_in _ (by omega)
        go_wp2_with (first
          | (at_next; go_loud (refine wp_next _ rfl _ rfl rfl hR (by omega) (fun hdone => ?_) (fun x0 t0 w3 cnt' hl0 hin hR' hcnt hg3 hs3 hen => have hc1 := HC.out x0 t0 w3 hin hg3; have hz1 := HZ.out x0 t0 w3 hg3; have hb1 := HB.out x0 t0 ⟨hin.2.2.1, hin.2.2.2⟩; ?_)))
          | fail)
        · go_ret
          exact ⟨_, rfl, by rw [← outL_done hdone]; exact hO, hbi⟩
        · obtain ⟨t, rfl⟩ : ∃ t : Nat, t0 = (t : Int) := ⟨t0.toNat, by omega⟩
          have hs4 := hs3
          have hset := (HO3.out x0 t w3 hg3).set (by rw [HL.out]) t (nth (outL (tw tal k) left k) t + tw tal k x0 t)
          rw [← outL_step hl0 (by omega) (by omega)] at hset
          have hRa := (hR'.at (w' := w3.alloc (.cells #[.int .i64 x0, .int .i64 (t : Int)] 85)) (Below.heap_alloc w3 _ _ (by omega)) (Below.heap_alloc w3 _ _ (by omega))).at
            (w' := (w3.alloc (.cells #[.int .i64 x0, .int .i64 (t : Int)] 85)).setCell ⟨wo.heap.size, t, none⟩ (.int .i64 (nth (outL (tw tal k) left k) t + tw tal k x0 t)))
            (Below.heap_setCell _ _ _ b (by simp; omega)) (Below.heap_setCell _ _ _ _ (by simp))
          have hba := (hbi.grown hg3 (by have := hbi.size; omega) (fun q hq => by cases hq; omega)).trans ((below_new w3 (.cells #[.int .i64 x0, .int .i64 (t : Int)] 85)).mono (by have := hbi.size; omega))
          simp only [Int.toNat_natCast]
          exact ⟨⟨_, cnt', hRa, hset, hba.setCell (by simp; omega) _⟩, by rw [hRa.left_eq, hleft]; exact hcnt⟩
end Go.Proofs.Ytbekfpgpeaoifaa
