/- Contracts of the listed functions on walks, of the program and of the reference. -/
import Derived.Test.YtbekfpgpeaoifaaPaths
import Derived.Deep.RegionWith
namespace Go.Proofs.Ytbekfpgpeaoifaa
open Go.RowKit

set_option maxHeartbeats 400000 in
theorem spec_PathsAbove (m x fl : Int) (w : World) :
    Calls Try.prog 22 #[.int .i64 m, .int .i64 x, .int .i64 fl] w fun e w' => e = .returned (.tuple #[.int .i64 (if inB m 0 30 && inB fl (-30) 0 then (if inB x fl m then paths m.toNat x - paths m.toNat (2 * (fl - 1) - x) else 0) else 0), .bool (inB m 0 30 && inB fl (-30) 0)]) ∧ w = w' := by
  cases hb : inB m 0 30
  · go_enter Try.func22, Try.ntmps22
    go_wp2_with (go_at_call 67; refine (spec_l1In _ _ _ _).mono ?_; rintro e w' ⟨rfl, rfl⟩)
    go_ret2
    exact ⟨rfl, rfl⟩
  · have hm := inB_t hb
    cases hc : inB fl (-30) 0
    · go_enter Try.func22, Try.ntmps22
      go_wp2_with (go_at_call 67; refine (spec_l1In _ _ _ _).mono ?_; rintro e w' ⟨rfl, rfl⟩)
      go_ret2
      exact ⟨rfl, rfl⟩
    · have hf := inB_t hc
      obtain ⟨n, rfl⟩ : ∃ n : Nat, m = n := ⟨m.toNat, by omega⟩
      cases hd : inB x fl n
      · go_enter Try.func22, Try.ntmps22
        go_wp2_with (go_at_call 67; refine (spec_l1In _ _ _ _).mono ?_; rintro e w' ⟨rfl, rfl⟩)
        go_ret2
        exact ⟨rfl, rfl⟩
      · have hx := inB_t hd
        have hp1 := paths_bd n x (by omega)
        have hp2 := paths_bd n (2 * (fl - 1) - x) (by omega)
        go_enter Try.func22, Try.ntmps22
        go_wp2_with (first | (go_at_call 67; refine (spec_l1In _ _ _ _).mono ?_; rintro e w' ⟨rfl, rfl⟩) | (go_at_call 68; refine (spec_l5Paths _ _ _ (by omega) (by omega)).mono ?_; rintro e w' ⟨rfl, rfl⟩))
        go_ret2
        exact ⟨rfl, rfl⟩

set_option maxHeartbeats 400000 in
theorem impl_PathsAbove (m x fl : Int) (w : World) :
    Calls Try.prog 21 #[.int .i64 m, .int .i64 x, .int .i64 fl] w fun e w' => e = .returned (.tuple #[.int .i64 (if inB m 0 30 && inB fl (-30) 0 then came (walkL (fun _ y => decide (fl ≤ y)) m.toNat) x else 0), .bool (inB m 0 30 && inB fl (-30) 0)]) ∧ Below w.heap.size w w' := by
  cases hb : inB m 0 30
  · go_enter Try.func21, Try.ntmps21
    go_wp2_with (go_at_call 49; refine (impl_within _ _ _ _).mono ?_; rintro e w' ⟨rfl, rfl⟩)
    go_ret2
    exact ⟨rfl, (Below.refl _ _).alloc (Nat.le_refl _) _⟩
  · have hm := inB_t hb
    cases hc : inB fl (-30) 0
    · go_enter Try.func21, Try.ntmps21
      go_wp2_with (go_at_call 49; refine (impl_within _ _ _ _).mono ?_; rintro e w' ⟨rfl, rfl⟩)
      go_ret2
      exact ⟨rfl, (Below.refl _ _).alloc (Nat.le_refl _) _⟩
    · obtain ⟨n, rfl⟩ : ∃ n : Nat, m = n := ⟨m.toNat, by omega⟩
      have hmf : ∀ (fn : Fn) (first cap : Array Value) (w : World), (Instr.makeFunc fn first cap).run Try.prog w = .ok (.func fn first cap) w := fun _ _ _ _ => rfl
      go_enter Try.func21, Try.ntmps21
      go_wp2_with (go_at_call 49; refine (impl_within _ _ _ _).mono ?_; rintro e w' ⟨rfl, rfl⟩)
      refine (walks_any n 66 #[.pointer (some ⟨w.heap.size, 0, none⟩)] (fun _ y => decide (fl ≤ y)) _ (by omega) cf_above (fun s x W hW => cl_above s x fl _ W ?_)).mono ?_
      · rw [hW.cell (p := ⟨w.heap.size, 0, none⟩) (by simp), World.cell?_alloc_at _ _ _ _ rfl]; rfl
      rintro e w1 ⟨v, rfl, hown, hbel⟩
      obtain ⟨a, cap, rfl⟩ := hown.shape
      have hi := Lib.hid hown.ints
      rw [walkL_length] at hi ⊢
      clear hown
      go_wp2_with (go_at_call 64; refine (impl_cameTo _ _ _ _ _ hi.out).mono ?_; rintro e w' ⟨rfl, rfl⟩)
      go_ret2
      exact ⟨rfl, ((Below.refl _ _).alloc (Nat.le_refl _) _).trans (hbel.mono (by simp))⟩

def votes (p q : Int) : Bool := inB p 0 30 && inB q 0 30 && decide (p + q ≤ 30)
theorem votes_t {p q : Int} (h : votes p q = true) : 0 ≤ p ∧ 0 ≤ q ∧ p + q ≤ 30 := by
  simp only [votes, Bool.and_eq_true, decide_eq_true_eq] at h
  have := inB_t h.1.1
  have := inB_t h.1.2
  omega
set_option maxHeartbeats 400000 in
theorem spec_l5Votes (p q : Int) (w : World) : Calls Try.prog 74 #[.int .i64 p, .int .i64 q] w fun e w' => e = .returned (.bool (votes p q)) ∧ w = w' := by
  cases hb : inB p 0 30
  · go_enter Try.func74, Try.ntmps74
    go_wp2_with (go_at_call 67; refine (spec_l1In _ _ _ _).mono ?_; rintro e w' ⟨rfl, rfl⟩)
    go_ret
    exact ⟨by simp [votes, hb], rfl⟩
  · cases hc : inB q 0 30
    · go_enter Try.func74, Try.ntmps74
      go_wp2_with (go_at_call 67; refine (spec_l1In _ _ _ _).mono ?_; rintro e w' ⟨rfl, rfl⟩)
      go_ret
      exact ⟨by simp [votes, hc], rfl⟩
    · have h1 := inB_t hb
      have h2 := inB_t hc
      go_enter Try.func74, Try.ntmps74
      go_wp2_with (go_at_call 67; refine (spec_l1In _ _ _ _).mono ?_; rintro e w' ⟨rfl, rfl⟩)
      go_ret
      exact ⟨by simp [votes, hb, hc], rfl⟩
set_option maxHeartbeats 400000 in
theorem impl_areVotes (p q : Int) (w : World) : Calls Try.prog 72 #[.int .i64 p, .int .i64 q] w fun e w' => e = .returned (.bool (votes p q)) ∧ w = w' := by
  cases hb : inB p 0 30
  · go_enter Try.func72, Try.ntmps72
    go_wp2_with (go_at_call 49; refine (impl_within _ _ _ _).mono ?_; rintro e w' ⟨rfl, rfl⟩)
    go_ret
    exact ⟨by simp [votes, hb], rfl⟩
  · cases hc : inB q 0 30
    · go_enter Try.func72, Try.ntmps72
      go_wp2_with (go_at_call 49; refine (impl_within _ _ _ _).mono ?_; rintro e w' ⟨rfl, rfl⟩)
      go_ret
      exact ⟨by simp [votes, hc], rfl⟩
    · have h1 := inB_t hb
      have h2 := inB_t hc
      go_enter Try.func72, Try.ntmps72
      go_wp2_with (go_at_call 49; refine (impl_within _ _ _ _).mono ?_; rintro e w' ⟨rfl, rfl⟩)
      go_ret
      exact ⟨by simp [votes, hb, hc], rfl⟩

set_option maxHeartbeats 400000 in
theorem spec_BallotCount (p q : Int) (w : World) :
    Calls Try.prog 30 #[.int .i64 p, .int .i64 q] w fun e w' => e = .returned (.tuple #[.int .i64 (if votes p q then (if p + q = 0 then 1 else most 0 (p - q) * choose (p + q).toNat p / (p + q)) else 0), .bool (votes p q)]) ∧ w = w' := by
  cases hb : votes p q
  · go_enter Try.func30, Try.ntmps30
    go_wp2_with (go_at_call 74; refine (spec_l5Votes _ _ _).mono ?_; rintro e w' ⟨rfl, rfl⟩)
    go_ret2
    exact ⟨rfl, rfl⟩
  · have hv := votes_t hb
    by_cases h0 : p + q = 0
    · obtain ⟨rfl, rfl⟩ : p = 0 ∧ q = 0 := by omega
      go_enter Try.func30, Try.ntmps30
      go_wp2_with (go_at_call 74; refine (spec_l5Votes _ _ _).mono ?_; rintro e w' ⟨rfl, rfl⟩)
      go_ret2
      exact ⟨rfl, rfl⟩
    · have h0' : (p + q == 0) = false := by simpa using h0
      have hc := choose_bd (p + q).toNat p (by omega)
      have hm : 0 ≤ most 0 (p - q) ∧ most 0 (p - q) ≤ 30 := by unfold most; omega
      have hmul : 0 ≤ most 0 (p - q) * choose (p + q).toNat p ∧ most 0 (p - q) * choose (p + q).toNat p ≤ 30 * 1000000000 := ⟨Int.mul_nonneg hm.1 hc.1, Int.mul_le_mul hm.2 hc.2 hc.1 (by omega)⟩
      rw [if_neg h0]
      have hq1 : 1 ≤ p + q := by omega
      clear h0
      go_enter Try.func30, Try.ntmps30
      go_wp2_with (first | (go_at_call 74; refine (spec_l5Votes _ _ _).mono ?_; rintro e w' ⟨rfl, rfl⟩) | (go_at_call 71; refine (spec_l1Most _ _ _).mono ?_; rintro e w' ⟨rfl, rfl⟩) | (go_at_call 75; refine (spec_l5Choose _ _ _ (by omega) (by omega)).mono ?_; rintro e w' ⟨rfl, rfl⟩))
      go_ret2
      exact ⟨rfl, rfl⟩

set_option maxHeartbeats 400000 in
theorem spec_TieCount (p q : Int) (w : World) :
    Calls Try.prog 32 #[.int .i64 p, .int .i64 q] w fun e w' => e = .returned (.tuple #[.int .i64 (if votes p q then most 0 (p + 1 - q) * choose (p + q).toNat p / (p + 1) else 0), .bool (votes p q)]) ∧ w = w' := by
  cases hb : votes p q
  · go_enter Try.func32, Try.ntmps32
    go_wp2_with (go_at_call 74; refine (spec_l5Votes _ _ _).mono ?_; rintro e w' ⟨rfl, rfl⟩)
    go_ret2
    exact ⟨rfl, rfl⟩
  · have hv := votes_t hb
    have hc := choose_bd (p + q).toNat p (by omega)
    have hm : 0 ≤ most 0 (p + 1 - q) ∧ most 0 (p + 1 - q) ≤ 31 := by unfold most; omega
    have hmul : 0 ≤ most 0 (p + 1 - q) * choose (p + q).toNat p ∧ most 0 (p + 1 - q) * choose (p + q).toNat p ≤ 31 * 1000000000 := ⟨Int.mul_nonneg hm.1 hc.1, Int.mul_le_mul hm.2 hc.2 hc.1 (by omega)⟩
    go_enter Try.func32, Try.ntmps32
    go_wp2_with (first | (go_at_call 74; refine (spec_l5Votes _ _ _).mono ?_; rintro e w' ⟨rfl, rfl⟩) | (go_at_call 71; refine (spec_l1Most _ _ _).mono ?_; rintro e w' ⟨rfl, rfl⟩) | (go_at_call 75; refine (spec_l5Choose _ _ _ (by omega) (by omega)).mono ?_; rintro e w' ⟨rfl, rfl⟩))
    go_ret2
    exact ⟨rfl, rfl⟩

set_option maxHeartbeats 400000 in
theorem impl_BallotCount (p q : Int) (w : World) :
    Calls Try.prog 29 #[.int .i64 p, .int .i64 q] w fun e w' => e = .returned (.tuple #[.int .i64 (if votes p q then came (walkL (fun _ y => decide (0 < y)) (p + q).toNat) (p - q) else 0), .bool (votes p q)]) ∧ Below w.heap.size w w' := by
  cases hb : votes p q
  · go_enter Try.func29, Try.ntmps29
    go_wp2_with (go_at_call 72; refine (impl_areVotes _ _ _).mono ?_; rintro e w' ⟨rfl, rfl⟩)
    go_ret2
    exact ⟨rfl, Below.refl _ _⟩
  · have hv := votes_t hb
    go_enter Try.func29, Try.ntmps29
    go_wp2_with (go_at_call 72; refine (impl_areVotes _ _ _).mono ?_; rintro e w' ⟨rfl, rfl⟩)
    refine (impl_walks (p + q) 73 #[] (fun _ y => decide (0 < y)) _ (by omega) (by omega) cf_ballot (fun s x W _ => cl_ballot s x W)).mono ?_
    rintro e w1 ⟨v, rfl, hown, hbel⟩
    obtain ⟨a, cap, rfl⟩ := hown.shape
    have hi := Lib.hid hown.ints
    rw [walkL_length] at hi ⊢
    clear hown
    go_wp2_with (go_at_call 64; refine (impl_cameTo _ _ _ _ _ hi.out).mono ?_; rintro e w' ⟨rfl, rfl⟩)
    go_ret2
    exact ⟨rfl, hbel⟩

set_option maxHeartbeats 400000 in
theorem impl_TieCount (p q : Int) (w : World) :
    Calls Try.prog 31 #[.int .i64 p, .int .i64 q] w fun e w' => e = .returned (.tuple #[.int .i64 (if votes p q then came (walkL (fun _ y => decide (0 ≤ y)) (p + q).toNat) (p - q) else 0), .bool (votes p q)]) ∧ Below w.heap.size w w' := by
  cases hb : votes p q
  · go_enter Try.func31, Try.ntmps31
    go_wp2_with (go_at_call 72; refine (impl_areVotes _ _ _).mono ?_; rintro e w' ⟨rfl, rfl⟩)
    go_ret2
    exact ⟨rfl, Below.refl _ _⟩
  · have hv := votes_t hb
    go_enter Try.func31, Try.ntmps31
    go_wp2_with (go_at_call 72; refine (impl_areVotes _ _ _).mono ?_; rintro e w' ⟨rfl, rfl⟩)
    refine (impl_walks (p + q) 76 #[] (fun _ y => decide (0 ≤ y)) _ (by omega) (by omega) cf_tie (fun s x W _ => cl_tie s x W)).mono ?_
    rintro e w1 ⟨v, rfl, hown, hbel⟩
    obtain ⟨a, cap, rfl⟩ := hown.shape
    have hi := Lib.hid hown.ints
    rw [walkL_length] at hi ⊢
    clear hown
    go_wp2_with (go_at_call 64; refine (impl_cameTo _ _ _ _ _ hi.out).mono ?_; rintro e w' ⟨rfl, rfl⟩)
    go_ret2
    exact ⟨rfl, hbel⟩

set_option maxHeartbeats 400000 in
theorem spec_FirstPassages (m x : Int) (w : World) :
    Calls Try.prog 27 #[.int .i64 m, .int .i64 x] w fun e w' => e = .returned (.tuple #[.int .i64 (if inB m 1 30 && x != 0 then (if inB x (-m) m then paths m.toNat x * most x (-x) / m else 0) else 0), .bool (inB m 1 30 && x != 0)]) ∧ w = w' := by
  cases hb : inB m 1 30
  · go_enter Try.func27, Try.ntmps27
    go_wp2_with (go_at_call 67; refine (spec_l1In _ _ _ _).mono ?_; rintro e w' ⟨rfl, rfl⟩)
    go_ret2
    exact ⟨rfl, rfl⟩
  · have hm := inB_t hb
    by_cases hx0 : x = 0
    · subst hx0
      go_enter Try.func27, Try.ntmps27
      go_wp2_with (go_at_call 67; refine (spec_l1In _ _ _ _).mono ?_; rintro e w' ⟨rfl, rfl⟩)
      go_ret2
      exact ⟨rfl, rfl⟩
    · have hx1 : (x == 0) = false := by simpa using hx0
      have hx2 : (x != 0) = true := by simpa using hx0
      rw [hx2]
      cases hd : inB x (-m) m
      · go_enter Try.func27, Try.ntmps27
        go_wp2_with (go_at_call 67; refine (spec_l1In _ _ _ _).mono ?_; rintro e w' ⟨rfl, rfl⟩)
        go_ret2
        exact ⟨rfl, rfl⟩
      · have hx := inB_t hd
        have hc := paths_bd m.toNat x (by omega)
        have hm2 : 0 ≤ most x (-x) ∧ most x (-x) ≤ 30 := by unfold most; omega
        have hmul : 0 ≤ paths m.toNat x * most x (-x) ∧ paths m.toNat x * most x (-x) ≤ 1000000000 * 30 := ⟨Int.mul_nonneg hc.1 hm2.1, Int.mul_le_mul hc.2 hm2.2 hm2.1 (by omega)⟩
        go_enter Try.func27, Try.ntmps27
        go_wp2_with (first | (go_at_call 67; refine (spec_l1In _ _ _ _).mono ?_; rintro e w' ⟨rfl, rfl⟩) | (go_at_call 71; refine (spec_l1Most _ _ _).mono ?_; rintro e w' ⟨rfl, rfl⟩) | (go_at_call 68; refine (spec_l5Paths _ _ _ (by omega) (by omega)).mono ?_; rintro e w' ⟨rfl, rfl⟩))
        go_ret2
        exact ⟨rfl, rfl⟩

theorem first_walks (m x : Int) (p q : Addr) (w : World) (h0 : 0 ≤ m) (h1 : m ≤ 30) (hp : w.cell? p = some (.int .i64 x)) (hq : w.cell? q = some (.int .i64 m)) :
    Calls Try.prog 65 #[.int .i64 m, .func (.func 70) #[] #[.pointer (some p), .pointer (some q)]] w fun e w' =>
      ∃ a cap, e = .returned (.slice a 61 cap) ∧ Ints w' a 61 (walkL (fun s y => y != x || s == m) m.toNat) ∧ Below w.heap.size w w' ∧ w'.cell? p = some (.int .i64 x) := by
  refine (impl_walks m 70 #[.pointer (some p), .pointer (some q)] (fun s y => y != x || s == m) w h0 h1 cf_first (fun s y W hW => cl_first s x m y p q W ?_ ?_)).mono ?_
  · rw [hW.cell (World.block_lt_of_cell? w p hp)]; exact hp
  · rw [hW.cell (World.block_lt_of_cell? w q hq)]; exact hq
  · rintro e w1 ⟨v, rfl, hown, hbel⟩
    obtain ⟨a, cap, rfl⟩ := hown.shape
    have hi := hown.ints
    rw [walkL_length] at hi ⊢
    exact ⟨a, cap, rfl, hi, hbel, by rw [hbel.cell (World.block_lt_of_cell? w p hp)]; exact hp⟩

set_option maxHeartbeats 1000000 in
theorem impl_FirstPassages (m x : Int) (w : World) :
    Calls Try.prog 26 #[.int .i64 m, .int .i64 x] w fun e w' => e = .returned (.tuple #[.int .i64 (if inB m 1 30 && x != 0 then came (walkL (fun s y => y != x || s == m) m.toNat) x else 0), .bool (inB m 1 30 && x != 0)]) ∧ Below w.heap.size w w' := by
  cases hb : inB m 1 30
  · go_enter Try.func26, Try.ntmps26
    go_wp2_with (go_at_call 49; refine (impl_within _ _ _ _).mono ?_; rintro e w' ⟨rfl, rfl⟩)
    go_ret2
    exact ⟨rfl, ((Below.refl _ _).alloc (Nat.le_refl _) _).alloc (by simp) _⟩
  · have hm := inB_t hb
    by_cases hx0 : x = 0
    · subst hx0
      go_enter Try.func26, Try.ntmps26
      go_wp2_with (go_at_call 49; refine (impl_within _ _ _ _).mono ?_; rintro e w' ⟨rfl, rfl⟩)
      go_ret2
      exact ⟨rfl, ((Below.refl _ _).alloc (Nat.le_refl _) _).alloc (by simp) _⟩
    · have hx1 : (x == 0) = false := by simpa using hx0
      have hx2 : (x != 0) = true := by simpa using hx0
      rw [hx2]
      have hmf : ∀ (fn : Fn) (first cap : Array Value) (w : World), (Instr.makeFunc fn first cap).run Try.prog w = .ok (.func fn first cap) w := fun _ _ _ _ => rfl
      have hw1 : ((w.alloc (.cells #[.int .i64 m] 3)).alloc (.cells #[.int .i64 x] 3)).cell? ⟨w.heap.size, 0, none⟩ = some (.int .i64 m) := by
        rw [World.cell?_alloc_past _ _ _ (by simp), World.cell?_alloc_at _ _ _ _ rfl]; rfl
      have hw2 : ((w.alloc (.cells #[.int .i64 m] 3)).alloc (.cells #[.int .i64 x] 3)).cell? ⟨w.heap.size + 1, 0, none⟩ = some (.int .i64 x) := by
        rw [World.cell?_alloc_at _ _ _ _ (by simp)]; rfl
      have hw3 : Below w.heap.size w ((w.alloc (.cells #[.int .i64 m] 3)).alloc (.cells #[.int .i64 x] 3)) := ((Below.refl _ _).alloc (Nat.le_refl _) _).alloc (by simp) _
      go_enter Try.func26, Try.ntmps26
      go_wp2_with (go_at_call 49; refine (impl_within _ _ _ _).mono ?_; rintro e w' ⟨rfl, rfl⟩)
      generalize ((w.alloc (.cells #[.int .i64 m] 3)).alloc (.cells #[.int .i64 x] 3)) = w2 at *
      go_region_with (first | (go_at_call 65; refine (first_walks m x _ _ _ (by omega) (by omega) (by simpa using hw2) (by simpa using hw1)).mono ?_; rintro e w1 ⟨a, cap, rfl, hi, hbel, hc2⟩) | (go_at_call 64; refine (impl_cameTo _ _ _ _ _ (by assumption)).mono ?_; rintro e w' ⟨rfl, rfl⟩))
      all_goals go_wp2
      all_goals go_ret2
      all_goals exact ⟨rfl, hw3.trans ((Below.refl _ _).drew.trans (hbel.mono (by have := hw3.size; simpa using this)))⟩
end Go.Proofs.Ytbekfpgpeaoifaa
