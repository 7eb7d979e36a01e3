/- Contracts: the stakes of the program's tables, and the reference's lists with one roll more left. -/
import Derived.Test.YtbekfpgpeaoifaaTable
import Derived.Test.YtbekfpgpeaoifaaGame
namespace Go.Proofs.Ytbekfpgpeaoifaa
open Go.RowKit

def stT (n : Nat) (i : Nat) : List Int := [min 1 (min (i : Int) ((n : Int) - i))]
def stB (n : Nat) (i : Nat) : List Int := [min (i : Int) ((n : Int) - i)]
def stF (n : Nat) (i : Nat) : List Int := (List.range (min i (n - i) + 1)).map fun (s : Nat) => (s : Int)
theorem nth_one (x : Int) : nth [x] 0 = x := rfl
theorem nth_stF (n i k : Nat) (h : k < min i (n - i) + 1) : nth (stF n i) k = k := by unfold stF; rw [nth_map_range h]
theorem stF_length (n i : Nat) : (stF n i).length = min i (n - i) + 1 := by simp [stF]
theorem playT (n : Nat) : Playable (stT n) n := fun i hi => ⟨by simp [stT], fun k hk => by
  have : k = 0 := by simp [stT] at hk; exact hk
  subst this
  rw [stT, nth_one]; omega⟩
theorem playB (n : Nat) : Playable (stB n) n := fun i hi => ⟨by simp [stB], fun k hk => by
  have : k = 0 := by simp [stB] at hk; exact hk
  subst this
  rw [stB, nth_one]; omega⟩
theorem playF (n : Nat) (hn : n ≤ 12) : Playable (stF n) n := fun i hi => ⟨by rw [stF_length]; omega, fun k hk => by
  rw [stF_length] at hk
  rw [nth_stF _ _ _ hk]; omega⟩
theorem own_one (w : World) (base : Nat) (hb : base ≤ w.heap.size) (x : Int) : Own (w.alloc (.cells #[.int .i64 x] 3)) base (.slice (some ⟨w.heap.size, 0, none⟩) 1 1) [x] := by
  have := World.ownsRow_lit (size := 1) (e := 3) (base := base) w #[.int .i64 x] 1 hb (by simp [maxLen]) (by simp)
  simpa [Own, cs] using this

theorem own_one_eq (w : World) (base : Nat) (hb : base ≤ w.heap.size) (x y : Int) (h : x = y) : Own (w.alloc (.cells #[.int .i64 x] 3)) base (.slice (some ⟨w.heap.size, 0, none⟩) 1 1) [y] := by
  subst h; exact own_one w base hb x
theorem cl_timid (n i : Nat) (p : Addr) (w : World) (hi : i ≤ n) (hn : n ≤ 12) (hp : w.cell? p = some (.int .i64 (n : Int))) :
    Calls Try.prog 55 (#[.int .i64 (i : Int)] ++ #[.pointer (some p)]) w fun e w' => ∃ v, e = .returned v ∧ Own w' w.heap.size v (stT n i) ∧ Below w.heap.size w w' := by
  show Calls Try.prog 55 #[.int .i64 (i : Int), .pointer (some p)] w _
  have hb : ∀ o, Below w.heap.size w (w.alloc o) := fun o => (Below.refl _ _).alloc (Nat.le_refl _) o
  have Hb := Lib.hid hb
  clear hb
  go_enter Try.func55, Try.ntmps55
  go_wp2
  all_goals go_ret
  all_goals exact ⟨_, rfl, own_one_eq _ _ (Nat.le_refl _) _ _ (by omega), Hb.out _⟩
theorem cl_bold (n i : Nat) (p : Addr) (w : World) (hi : i ≤ n) (hn : n ≤ 12) (hp : w.cell? p = some (.int .i64 (n : Int))) :
    Calls Try.prog 54 (#[.int .i64 (i : Int)] ++ #[.pointer (some p)]) w fun e w' => ∃ v, e = .returned v ∧ Own w' w.heap.size v (stB n i) ∧ Below w.heap.size w w' := by
  show Calls Try.prog 54 #[.int .i64 (i : Int), .pointer (some p)] w _
  have hb : ∀ o, Below w.heap.size w (w.alloc o) := fun o => (Below.refl _ _).alloc (Nat.le_refl _) o
  have Hb := Lib.hid hb
  clear hb
  go_enter Try.func54, Try.ntmps54
  go_wp2
  all_goals go_ret
  all_goals exact ⟨_, rfl, own_one_eq _ _ (Nat.le_refl _) _ _ (by omega), Hb.out _⟩
set_option maxHeartbeats 1000000 in
theorem impl_allStakes (n i : Nat) (w : World) (hi : i ≤ n) (hn : n ≤ 12) :
    Calls Try.prog 52 #[.int .i64 (i : Int), .int .i64 (n : Int)] w fun e w' => ∃ v, e = .returned v ∧ Own w' w.heap.size v (stF n i) ∧ Below w.heap.size w w' := by
  obtain ⟨m, hm⟩ : ∃ m : Nat, m = min i (n - i) := ⟨_, rfl⟩
  have h0 := own_empty w w.heap.size (Nat.le_refl _) #[] rfl
  have hb0 : Below w.heap.size w (w.alloc (.cells #[] 3)) := (Below.refl _ _).alloc (Nat.le_refl _) _
  have Hm := Lib.hid hm
  clear hm
  have key : ∀ (u : Int), u = (m : Int) + 1 → True := fun _ _ => trivial
  clear key
  go_enter Try.func52, Try.ntmps52
  go_wp2_with fail
  all_goals
    generalize (w.alloc (.cells #[] 3)) = w0 at *
    have hmi : m ≤ 12 := by have := Hm.out; omega
    have e13 : (n : Int) - i + 1 = (m : Int) + 1 ∨ (i : Int) + 1 = (m : Int) + 1 := by have := Hm.out; omega
    first | rw [show (n : Int) - i + 1 = (m : Int) + 1 by have := Hm.out; omega] | rw [show (i : Int) + 1 = (m : Int) + 1 by have := Hm.out; omega]
    clear e13
    go_loopw [5, 14] (fun v5 v14 wr => ∃ q : Nat, q ≤ m + 1 ∧ v14 = .int .i64 (q : Int) ∧ Own wr w.heap.size v5 ((List.range q).map fun (s : Nat) => (s : Int)) ∧ Below w.heap.size w wr) (fun _ v14 _ => m + 1 - (intOf v14).toNat)
    case atStart => exact ⟨0, Nat.zero_le _, rfl, h0, hb0⟩
    case round =>
      obtain ⟨q, hq, rfl, hown, hbel⟩ := hrel
      clear h0 hb0
      by_cases hlq : (q : Int) < (m : Int) + 1
      · have ownX := Lib.hid (hown.below ((Below.refl wr.heap.size wr).alloc (Nat.le_refl _) (.cells #[.int .i64 (q : Int)] 3)))
        have hcx : (wr.alloc (.cells #[.int .i64 (q : Int)] 3)).cell? ⟨wr.heap.size, 0, none⟩ = some (.int .i64 (q : Int)) := by rw [World.cell?_alloc_at _ _ _ _ rfl]; rfl
        have Hcx := Lib.hid hcx
        have hle := hbel.size
        clear hcx hown
        go_wp2_with (at_builtin; refine wp_app1 (.tmp 17) (.tmp 19) rfl rfl w.heap.size _ _ _ rfl ownX.out wr.heap.size rfl Hcx.out (by simp; omega) (by simp; omega) ?_; intro v' w' ho hg)
        go_roundw
        case rel =>
          refine ⟨q + 1, by omega, by go_num, by rw [List.range_succ, List.map_append]; exact ho, ?_⟩
          exact (hbel.alloc hle _).grown hg (by simp; omega) (fun kk hk => (World.ownsRow.lt ownX.out kk hk).1)
        case measure => simp [intOf]; omega
      · obtain rfl : q = m + 1 := by omega
        go_wp2_with fail
        go_ret
        exact ⟨_, rfl, by rw [stF, ← Hm.out]; exact hown, hbel⟩
theorem cl_best (n i : Nat) (p : Addr) (w : World) (hi : i ≤ n) (hn : n ≤ 12) (hp : w.cell? p = some (.int .i64 (n : Int))) :
    Calls Try.prog 51 (#[.int .i64 (i : Int)] ++ #[.pointer (some p)]) w fun e w' => ∃ v, e = .returned v ∧ Own w' w.heap.size v (stF n i) ∧ Below w.heap.size w w' := by
  show Calls Try.prog 51 #[.int .i64 (i : Int), .pointer (some p)] w _
  go_enter Try.func51, Try.ntmps51
  go_wp2_with (go_at_call 52; refine (impl_allStakes n i _ hi hn).mono ?_; rintro e w' ⟨v, rfl, ho, hb⟩)
  go_ret
  exact ⟨_, rfl, ho, hb⟩
theorem cf_Timid (args : Array Value) (W : World) : (callFunc 55 args).run Try.prog W = .ok (.enter 55 args) W := by kernel_rfl
theorem cf_Bold (args : Array Value) (W : World) : (callFunc 54 args).run Try.prog W = .ok (.enter 54 args) W := by kernel_rfl
theorem cf_BestStake (args : Array Value) (W : World) : (callFunc 51 args).run Try.prog W = .ok (.enter 51 args) W := by kernel_rfl
end Go.Proofs.Ytbekfpgpeaoifaa
