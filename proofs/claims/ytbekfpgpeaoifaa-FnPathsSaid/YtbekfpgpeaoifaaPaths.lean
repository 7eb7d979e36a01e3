/- Contracts of the functions that count walks, of the program and of the reference: each returns the plain number of the plain files. -/
import Derived.Test.YtbekfpgpeaoifaaWalks
import Derived.Test.YtbekfpgpeaoifaaNum
namespace Go.Proofs.Ytbekfpgpeaoifaa
open Go.RowKit

/-- The product behind i rounds. -/
def chL (m k : Nat) : Nat → Int
  | 0 => 1
  | i + 1 => chL m k i * ((m : Int) - (k : Int) + ((i : Int) + 1)) / ((i : Int) + 1)
def choose (m : Nat) (k : Int) : Int := if inB k 0 m then chL m k.toNat k.toNat else 0
theorem chL_bd (m k i : Nat) (hm : m ≤ 30) (hk : k ≤ m) (hi : i ≤ k) : 0 ≤ chL m k i ∧ chL m k i ≤ 1000000000 := by
  have : ((List.range 31).all fun m => (List.range (m + 1)).all fun k => (List.range (k + 1)).all fun i => inB (chL m k i) 0 1000000000) = true := by decide +kernel
  simp only [List.all_eq_true, List.mem_range] at this
  exact inB_t (this m (by omega) k (by omega) i (by omega))
theorem choose_bd (m : Nat) (k : Int) (hm : m ≤ 30) : 0 ≤ choose m k ∧ choose m k ≤ 1000000000 := by
  unfold choose
  cases h : inB k 0 m
  · simp
  · have := inB_t h
    exact chL_bd m k.toNat k.toNat hm (by omega) (Nat.le_refl _)
def paths (m : Nat) (x : Int) : Int := if inB x (-m) m && ((m : Int) + x) % 2 == 0 then choose m (((m : Int) + x) / 2) else 0
theorem paths_bd (m : Nat) (x : Int) (hm : m ≤ 30) : 0 ≤ paths m x ∧ paths m x ≤ 1000000000 := by
  unfold paths
  split
  · exact choose_bd m _ hm
  · omega

set_option maxHeartbeats 400000 in
theorem spec_l5Choose_nat (m : Nat) (k : Int) (w : World) (hm : m ≤ 30) :
    Calls Try.prog 75 #[.int .i64 m, .int .i64 k] w fun e w' => e = .returned (.int .i64 (choose m k)) ∧ w = w' := by
  cases hb : inB k 0 m
  · go_enter Try.func75, Try.ntmps75
    go_wp2_with (go_at_call 67; refine (spec_l1In _ _ _ _).mono ?_; rintro e w' ⟨rfl, rfl⟩)
    go_ret
    exact ⟨by simp [choose, hb], rfl⟩
  · have hk := inB_t hb
    obtain ⟨n, rfl⟩ : ∃ n : Nat, k = n := ⟨k.toNat, by omega⟩
    go_enter Try.func75, Try.ntmps75
    go_wp2_with (go_at_call 67; refine (spec_l1In _ _ _ _).mono ?_; rintro e w' ⟨rfl, rfl⟩)
    go_loop [5, 6] (fun v5 v6 => ∃ i : Nat, i ≤ n ∧ v6 = .int .i64 ((i : Int) + 1) ∧ v5 = .int .i64 (chL m n i)) (fun _ v6 => n + 1 - (intOf v6).toNat)
    case atStart => exact ⟨0, Nat.zero_le _, rfl, rfl⟩
    case round =>
      obtain ⟨i, hi, rfl, rfl⟩ := hrel
      have hbd := chL_bd m n i hm (by omega) hi
      obtain ⟨q, hq⟩ : ∃ q, q = chL m n i := ⟨_, rfl⟩
      rw [← hq] at hbd ⊢
      have Hq := Lib.hid hq
      clear hq
      by_cases hlt : (i : Int) + 1 ≤ n
      · have hmul : 0 ≤ q * ((m : Int) - n + (i + 1)) ∧ q * ((m : Int) - n + (i + 1)) ≤ 1000000000 * 61 :=
          ⟨Int.mul_nonneg hbd.1 (by omega), Int.mul_le_mul hbd.2 (by omega) (by omega) (by omega)⟩
        go_wp2
        go_round
        case rel => exact ⟨i + 1, by omega, by go_num, by rw [chL, ← Hq.out]⟩
        case measure => simp [intOf]; omega
      · obtain rfl : i = n := by omega
        go_wp2
        go_ret
        exact ⟨by rw [Hq.out]; simp [choose, hb], rfl⟩

theorem spec_l5Choose (m k : Int) (w : World) (h0 : 0 ≤ m) (h1 : m ≤ 30) :
    Calls Try.prog 75 #[.int .i64 m, .int .i64 k] w fun e w' => e = .returned (.int .i64 (choose m.toNat k)) ∧ w = w' := by
  obtain ⟨n, rfl⟩ : ∃ n : Nat, m = n := ⟨m.toNat, by omega⟩
  exact spec_l5Choose_nat n k w (by omega)

set_option maxHeartbeats 400000 in
theorem spec_l5Paths_nat (m : Nat) (x : Int) (w : World) (hm : m ≤ 30) :
    Calls Try.prog 68 #[.int .i64 m, .int .i64 x] w fun e w' => e = .returned (.int .i64 (paths m x)) ∧ w = w' := by
  cases hb : inB x (-m) m
  · go_enter Try.func68, Try.ntmps68
    go_wp2_with (go_at_call 67; refine (spec_l1In _ _ _ _).mono ?_; rintro e w' ⟨rfl, rfl⟩)
    go_ret
    exact ⟨ri (by simp [paths, hb]), rfl⟩
  · have hx := inB_t hb
    by_cases he : ((m : Int) + x) % 2 = 0
    · have he' : ((((m : Int) + x) % 2) != 0) = false := by simp [he]
      have He := Lib.hid he
      clear he
      go_enter Try.func68, Try.ntmps68
      go_wp2_with (first | (go_at_call 67; refine (spec_l1In _ _ _ _).mono ?_; rintro e w' ⟨rfl, rfl⟩) | (go_at_call 75; refine (spec_l5Choose_nat _ _ _ hm).mono ?_; rintro e w' ⟨rfl, rfl⟩))
      go_ret
      exact ⟨ri (by simp [paths, hb, He.out]), rfl⟩
    · have he' : ((((m : Int) + x) % 2) != 0) = true := by simpa using he
      go_enter Try.func68, Try.ntmps68
      go_wp2_with (go_at_call 67; refine (spec_l1In _ _ _ _).mono ?_; rintro e w' ⟨rfl, rfl⟩)
      go_ret
      exact ⟨ri (by unfold paths; rw [if_neg]; simp only [Bool.and_eq_true, beq_iff_eq]; omega), rfl⟩

theorem spec_l5Paths (m x : Int) (w : World) (h0 : 0 ≤ m) (h1 : m ≤ 30) :
    Calls Try.prog 68 #[.int .i64 m, .int .i64 x] w fun e w' => e = .returned (.int .i64 (paths m.toNat x)) ∧ w = w' := by
  obtain ⟨n, rfl⟩ : ∃ n : Nat, m = n := ⟨m.toNat, by omega⟩
  exact spec_l5Paths_nat n x w (by omega)

def came (xs : List Int) (x : Int) : Int := if inB x (-30) 30 then nth xs (x + 30).toNat else 0
theorem impl_cameTo (a : Option Addr) (cap : Nat) (xs : List Int) (x : Int) (w : World) (ha : Ints w a 61 xs) :
    Calls Try.prog 64 #[.slice a 61 cap, .int .i64 x] w fun e w' => e = .returned (.int .i64 (came xs x)) ∧ w = w' := by
  cases hb : inB x (-30) 30
  · go_enter Try.func64, Try.ntmps64
    go_wp2_with (go_at_call 49; refine (impl_within _ _ _ _).mono ?_; rintro e w' ⟨rfl, rfl⟩)
    go_ret
    exact ⟨ri (by simp [came, hb]), rfl⟩
  · have hx := inB_t hb
    obtain ⟨b, off, rfl, _, hc⟩ := ha.2 (by omega)
    have hcx := hc (x + 30).toNat (by omega)
    clear hc
    go_enter Try.func64, Try.ntmps64
    go_wp2_with (go_at_call 49; refine (impl_within _ _ _ _).mono ?_; rintro e w' ⟨rfl, rfl⟩)
    go_ret
    exact ⟨ri (by simp [came, hb]), rfl⟩

theorem cl_all (s x : Int) (w : World) :
    Calls Try.prog 69 (#[.int .i64 s, .int .i64 x] ++ #[]) w fun e w' => e = .returned (.bool true) ∧ w = w' := by
  show Calls Try.prog 69 #[.int .i64 s, .int .i64 x] w _
  go_enter Try.func69, Try.ntmps69
  go_wp2
  go_ret
  exact ⟨rfl, rfl⟩
theorem cl_above (s x fl : Int) (p : Addr) (w : World) (hp : w.cell? p = some (.int .i64 fl)) :
    Calls Try.prog 66 (#[.int .i64 s, .int .i64 x] ++ #[.pointer (some p)]) w fun e w' => e = .returned (.bool (decide (fl ≤ x))) ∧ w = w' := by
  show Calls Try.prog 66 #[.int .i64 s, .int .i64 x, .pointer (some p)] w _
  go_enter Try.func66, Try.ntmps66
  go_wp2
  go_ret
  exact ⟨rfl, rfl⟩
theorem cl_ballot (s x : Int) (w : World) :
    Calls Try.prog 73 (#[.int .i64 s, .int .i64 x] ++ #[]) w fun e w' => e = .returned (.bool (decide (0 < x))) ∧ w = w' := by
  show Calls Try.prog 73 #[.int .i64 s, .int .i64 x] w _
  go_enter Try.func73, Try.ntmps73
  go_wp2
  go_ret
  exact ⟨rfl, rfl⟩
theorem cl_tie (s x : Int) (w : World) :
    Calls Try.prog 76 (#[.int .i64 s, .int .i64 x] ++ #[]) w fun e w' => e = .returned (.bool (decide (0 ≤ x))) ∧ w = w' := by
  show Calls Try.prog 76 #[.int .i64 s, .int .i64 x] w _
  go_enter Try.func76, Try.ntmps76
  go_wp2
  go_ret
  exact ⟨rfl, rfl⟩
theorem cl_first (s x m y : Int) (p q : Addr) (w : World) (hp : w.cell? p = some (.int .i64 x)) (hq : w.cell? q = some (.int .i64 m)) :
    Calls Try.prog 70 (#[.int .i64 s, .int .i64 y] ++ #[.pointer (some p), .pointer (some q)]) w fun e w' => e = .returned (.bool (y != x || s == m)) ∧ w = w' := by
  show Calls Try.prog 70 #[.int .i64 s, .int .i64 y, .pointer (some p), .pointer (some q)] w _
  cases h : (y != x)
  all_goals
    go_enter Try.func70, Try.ntmps70
    go_wp2
    go_ret
    exact ⟨rfl, rfl⟩

theorem cf_all (args : Array Value) (W : World) : (callFunc 69 args).run Try.prog W = .ok (.enter 69 args) W := by kernel_rfl
theorem cf_above (args : Array Value) (W : World) : (callFunc 66 args).run Try.prog W = .ok (.enter 66 args) W := by kernel_rfl
theorem cf_first (args : Array Value) (W : World) : (callFunc 70 args).run Try.prog W = .ok (.enter 70 args) W := by kernel_rfl
theorem cf_ballot (args : Array Value) (W : World) : (callFunc 73 args).run Try.prog W = .ok (.enter 73 args) W := by kernel_rfl
theorem cf_tie (args : Array Value) (W : World) : (callFunc 76 args).run Try.prog W = .ok (.enter 76 args) W := by kernel_rfl

set_option maxHeartbeats 400000 in
theorem spec_PathCount (m x : Int) (w : World) :
    Calls Try.prog 24 #[.int .i64 m, .int .i64 x] w fun e w' => e = .returned (.tuple #[.int .i64 (if inB m 0 30 then paths m.toNat x else 0), .bool (inB m 0 30)]) ∧ w = w' := by
  cases hb : inB m 0 30
  · go_enter Try.func24, Try.ntmps24
    go_wp2_with (go_at_call 67; refine (spec_l1In _ _ _ _).mono ?_; rintro e w' ⟨rfl, rfl⟩)
    go_ret2
    exact ⟨rfl, rfl⟩
  · have hm := inB_t hb
    go_enter Try.func24, Try.ntmps24
    go_wp2_with (first | (go_at_call 67; refine (spec_l1In _ _ _ _).mono ?_; rintro e w' ⟨rfl, rfl⟩) | (go_at_call 68; refine (spec_l5Paths _ _ _ (by omega) (by omega)).mono ?_; rintro e w' ⟨rfl, rfl⟩))
    go_ret2
    exact ⟨rfl, rfl⟩

set_option maxHeartbeats 400000 in
theorem impl_PathCount (m x : Int) (w : World) :
    Calls Try.prog 23 #[.int .i64 m, .int .i64 x] w fun e w' => e = .returned (.tuple #[.int .i64 (if inB m 0 30 then came (walkL (fun _ _ => true) m.toNat) x else 0), .bool (inB m 0 30)]) ∧ Below w.heap.size w w' := by
  cases hb : inB m 0 30
  · go_enter Try.func23, Try.ntmps23
    go_wp2_with (go_at_call 49; refine (impl_within _ _ _ _).mono ?_; rintro e w' ⟨rfl, rfl⟩)
    go_ret2
    exact ⟨rfl, Below.refl _ _⟩
  · have hm := inB_t hb
    obtain ⟨n, rfl⟩ : ∃ n : Nat, m = n := ⟨m.toNat, by omega⟩
    go_enter Try.func23, Try.ntmps23
    go_wp2_with (go_at_call 49; refine (impl_within _ _ _ _).mono ?_; rintro e w' ⟨rfl, rfl⟩)
    refine (walks_any n 69 #[] (fun _ _ => true) _ (by omega) cf_all (fun s x W _ => cl_all s x W)).mono ?_
    rintro e w1 ⟨v, rfl, hown, hbel⟩
    obtain ⟨a, cap, rfl⟩ := hown.shape
    have hi := Lib.hid hown.ints
    rw [walkL_length] at hi ⊢
    clear hown
    go_wp2_with (go_at_call 64; refine (impl_cameTo _ _ _ _ _ hi.out).mono ?_; rintro e w' ⟨rfl, rfl⟩)
    go_ret2
    exact ⟨rfl, hbel⟩
end Go.Proofs.Ytbekfpgpeaoifaa
