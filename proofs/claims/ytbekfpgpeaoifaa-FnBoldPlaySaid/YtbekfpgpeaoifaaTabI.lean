/- Contracts: the program's tables of timid play, of bold play and of the best stakes. -/
import Derived.Test.YtbekfpgpeaoifaaTabs
namespace Go.Proofs.Ytbekfpgpeaoifaa
open Go.RowKit

def tabOk (a b n k : Int) : Bool := game a b n && inB k 0 8
def tabV (st : Nat → Nat → List Int) (a b n k : Int) : List (List Int) := if tabOk a b n k then tabL (st n.toNat) a b n.toNat k.toNat else []
theorem tabOk_t {a b n k : Int} (h : tabOk a b n k = true) : (1 ≤ a ∧ a ≤ 20) ∧ (1 ≤ b ∧ b ≤ 20) ∧ (1 ≤ n ∧ n ≤ 12) ∧ 0 ≤ k ∧ k ≤ 8 := by
  simp only [tabOk, Bool.and_eq_true] at h
  have := game_t h.1
  have := inB_t h.2
  omega
theorem tabV_no {st : Nat → Nat → List Int} {a b n k : Int} (h : tabOk a b n k = false) : tabV st a b n k = [] := by unfold tabV; rw [h]; rfl
theorem impl_table (a b n k : Int) (f : FuncId) (caps : Array Value) (st : Nat → Nat → List Int) (w : World) (hok : tabOk a b n k = true) (hp : Playable (st n.toNat) n.toNat)
    (hcf : ∀ (args : Array Value) (W : World), (callFunc f args).run Try.prog W = .ok (.enter f args) W)
    (hst : ∀ (i : Nat) (W : World), i ≤ n.toNat → Below w.heap.size w W → Calls Try.prog f (#[.int .i64 (i : Int)] ++ caps) W fun e w' => ∃ v, e = .returned v ∧ Own w' W.heap.size v (st n.toNat i) ∧ Below W.heap.size W w') :
    Calls Try.prog 50 #[.int .i64 a, .int .i64 b, .int .i64 n, .int .i64 k, .func (.func f) #[] caps] w fun e w' => ∃ v, e = .returned v ∧ HasSS w' w.heap.size v (tabV st a b n k) ∧ Below w.heap.size w w' := by
  have ht := tabOk_t hok
  obtain ⟨N, rfl⟩ : ∃ N : Nat, n = N := ⟨n.toNat, by omega⟩
  obtain ⟨K, rfl⟩ : ∃ K : Nat, k = K := ⟨k.toNat, by omega⟩
  rw [tabV, hok, if_pos rfl]
  simp only [Int.toNat_natCast] at *
  exact table_any a b N K f caps (st N) w (by omega) (by omega) (by omega) (by omega) hp hcf hst
set_option maxHeartbeats 1000000 in
theorem impl_TimidTable (a b n k : Int) (w : World) :
    Calls Try.prog 13 #[.int .i64 a, .int .i64 b, .int .i64 n, .int .i64 k] w fun e w' => ∃ v, e = .returned (.tuple #[v, .bool (tabOk a b n k)]) ∧ HasSS w' w.heap.size v (tabV stT a b n k) ∧ Below w.heap.size w w' := by
  have hmf : ∀ (fn : Fn) (first cap : Array Value) (w : World), (Instr.makeFunc fn first cap).run Try.prog w = .ok (.func fn first cap) w := fun _ _ _ _ => rfl
  cases hg : game a b n
  · have hok : tabOk a b n k = false := by unfold tabOk; rw [hg]; rfl
    rw [tabV_no hok, hok]
    go_enter Try.func13, Try.ntmps13
    go_wp2_with (first | (go_at_call 48; refine (impl_isGame _ _ _ _).mono ?_; rintro e w' ⟨rfl, rfl⟩) | (go_at_call 49; refine (impl_within _ _ _ _).mono ?_; rintro e w' ⟨rfl, rfl⟩))
    go_ret2
    exact ⟨_, rfl, HasSS.nil _ _, (Below.refl _ _).alloc (Nat.le_refl _) _⟩
  · cases hk : inB k 0 8
    · have hok : tabOk a b n k = false := by unfold tabOk; rw [hg, hk]; rfl
      rw [tabV_no hok, hok]
      go_enter Try.func13, Try.ntmps13
      go_wp2_with (first | (go_at_call 48; refine (impl_isGame _ _ _ _).mono ?_; rintro e w' ⟨rfl, rfl⟩) | (go_at_call 49; refine (impl_within _ _ _ _).mono ?_; rintro e w' ⟨rfl, rfl⟩))
      go_ret2
      exact ⟨_, rfl, HasSS.nil _ _, (Below.refl _ _).alloc (Nat.le_refl _) _⟩
    · have hok : tabOk a b n k = true := by unfold tabOk; rw [hg, hk]; rfl
      have ht := tabOk_t hok
      rw [hok]
      have hc : (w.alloc (.cells #[.int .i64 n] 3)).cell? ⟨w.heap.size, 0, none⟩ = some (.int .i64 n) := by rw [World.cell?_alloc_at _ _ _ _ rfl]; rfl
      have hb0 : Below w.heap.size w (w.alloc (.cells #[.int .i64 n] 3)) := (Below.refl _ _).alloc (Nat.le_refl _) _
      have hsz : w.heap.size < (w.alloc (.cells #[.int .i64 n] 3)).heap.size := by simp
      have Ht : Hid (∀ W : World, Below (w.alloc (.cells #[.int .i64 n] 3)).heap.size (w.alloc (.cells #[.int .i64 n] 3)) W → Calls Try.prog 50 #[.int .i64 a, .int .i64 b, .int .i64 n, .int .i64 k, .func (.func 55) #[] #[.pointer (some ⟨w.heap.size, 0, none⟩)]] W fun e w' => ∃ v, e = .returned v ∧ HasSS w' W.heap.size v (tabV stT a b n k) ∧ Below W.heap.size W w') := Lib.hid fun W hW =>
        impl_table a b n k 55 #[.pointer (some ⟨w.heap.size, 0, none⟩)] stT W hok (playT _) cf_Timid fun i W' hi hW' => cl_timid n.toNat i _ W' hi (by omega) (by
          rw [hW'.cell (p := ⟨w.heap.size, 0, none⟩) (Nat.lt_of_lt_of_le hsz hW.size), hW.cell (p := ⟨w.heap.size, 0, none⟩) hsz, hc, show ((n.toNat : Nat) : Int) = n by omega])
      have Hok := Lib.hid hok
      clear hok ht
      go_enter Try.func13, Try.ntmps13
      go_wp2_with (first | (go_at_call 48; refine (impl_isGame _ _ _ _).mono ?_; rintro e w' ⟨rfl, rfl⟩) | (go_at_call 49; refine (impl_within _ _ _ _).mono ?_; rintro e w' ⟨rfl, rfl⟩))
      refine (Ht.out _ (Below.refl _ _)).mono ?_
      rintro e w' ⟨v, rfl, ho, hb⟩
      have ho' := ho.mono hb0.size
      have hb' := hb0.trans (hb.mono hb0.size)
      clear ho hb hc hb0 hsz
      go_wp2_with fail
      go_ret2
      exact ⟨_, rfl, ho', hb'⟩
set_option maxHeartbeats 1000000 in
theorem impl_BoldTable (a b n k : Int) (w : World) :
    Calls Try.prog 11 #[.int .i64 a, .int .i64 b, .int .i64 n, .int .i64 k] w fun e w' => ∃ v, e = .returned (.tuple #[v, .bool (tabOk a b n k)]) ∧ HasSS w' w.heap.size v (tabV stB a b n k) ∧ Below w.heap.size w w' := by
  have hmf : ∀ (fn : Fn) (first cap : Array Value) (w : World), (Instr.makeFunc fn first cap).run Try.prog w = .ok (.func fn first cap) w := fun _ _ _ _ => rfl
  cases hg : game a b n
  · have hok : tabOk a b n k = false := by unfold tabOk; rw [hg]; rfl
    rw [tabV_no hok, hok]
    go_enter Try.func11, Try.ntmps11
    go_wp2_with (first | (go_at_call 48; refine (impl_isGame _ _ _ _).mono ?_; rintro e w' ⟨rfl, rfl⟩) | (go_at_call 49; refine (impl_within _ _ _ _).mono ?_; rintro e w' ⟨rfl, rfl⟩))
    go_ret2
    exact ⟨_, rfl, HasSS.nil _ _, (Below.refl _ _).alloc (Nat.le_refl _) _⟩
  · cases hk : inB k 0 8
    · have hok : tabOk a b n k = false := by unfold tabOk; rw [hg, hk]; rfl
      rw [tabV_no hok, hok]
      go_enter Try.func11, Try.ntmps11
      go_wp2_with (first | (go_at_call 48; refine (impl_isGame _ _ _ _).mono ?_; rintro e w' ⟨rfl, rfl⟩) | (go_at_call 49; refine (impl_within _ _ _ _).mono ?_; rintro e w' ⟨rfl, rfl⟩))
      go_ret2
      exact ⟨_, rfl, HasSS.nil _ _, (Below.refl _ _).alloc (Nat.le_refl _) _⟩
    · have hok : tabOk a b n k = true := by unfold tabOk; rw [hg, hk]; rfl
      have ht := tabOk_t hok
      rw [hok]
      have hc : (w.alloc (.cells #[.int .i64 n] 3)).cell? ⟨w.heap.size, 0, none⟩ = some (.int .i64 n) := by rw [World.cell?_alloc_at _ _ _ _ rfl]; rfl
      have hb0 : Below w.heap.size w (w.alloc (.cells #[.int .i64 n] 3)) := (Below.refl _ _).alloc (Nat.le_refl _) _
      have hsz : w.heap.size < (w.alloc (.cells #[.int .i64 n] 3)).heap.size := by simp
      have Ht : Hid (∀ W : World, Below (w.alloc (.cells #[.int .i64 n] 3)).heap.size (w.alloc (.cells #[.int .i64 n] 3)) W → Calls Try.prog 50 #[.int .i64 a, .int .i64 b, .int .i64 n, .int .i64 k, .func (.func 54) #[] #[.pointer (some ⟨w.heap.size, 0, none⟩)]] W fun e w' => ∃ v, e = .returned v ∧ HasSS w' W.heap.size v (tabV stB a b n k) ∧ Below W.heap.size W w') := Lib.hid fun W hW =>
        impl_table a b n k 54 #[.pointer (some ⟨w.heap.size, 0, none⟩)] stB W hok (playB _) cf_Bold fun i W' hi hW' => cl_bold n.toNat i _ W' hi (by omega) (by
          rw [hW'.cell (p := ⟨w.heap.size, 0, none⟩) (Nat.lt_of_lt_of_le hsz hW.size), hW.cell (p := ⟨w.heap.size, 0, none⟩) hsz, hc, show ((n.toNat : Nat) : Int) = n by omega])
      have Hok := Lib.hid hok
      clear hok ht
      go_enter Try.func11, Try.ntmps11
      go_wp2_with (first | (go_at_call 48; refine (impl_isGame _ _ _ _).mono ?_; rintro e w' ⟨rfl, rfl⟩) | (go_at_call 49; refine (impl_within _ _ _ _).mono ?_; rintro e w' ⟨rfl, rfl⟩))
      refine (Ht.out _ (Below.refl _ _)).mono ?_
      rintro e w' ⟨v, rfl, ho, hb⟩
      have ho' := ho.mono hb0.size
      have hb' := hb0.trans (hb.mono hb0.size)
      clear ho hb hc hb0 hsz
      go_wp2_with fail
      go_ret2
      exact ⟨_, rfl, ho', hb'⟩
set_option maxHeartbeats 1000000 in
theorem impl_BestStakeTable (a b n k : Int) (w : World) :
    Calls Try.prog 9 #[.int .i64 a, .int .i64 b, .int .i64 n, .int .i64 k] w fun e w' => ∃ v, e = .returned (.tuple #[v, .bool (tabOk a b n k)]) ∧ HasSS w' w.heap.size v (tabV stF a b n k) ∧ Below w.heap.size w w' := by
  have hmf : ∀ (fn : Fn) (first cap : Array Value) (w : World), (Instr.makeFunc fn first cap).run Try.prog w = .ok (.func fn first cap) w := fun _ _ _ _ => rfl
  cases hg : game a b n
  · have hok : tabOk a b n k = false := by unfold tabOk; rw [hg]; rfl
    rw [tabV_no hok, hok]
    go_enter Try.func9, Try.ntmps9
    go_wp2_with (first | (go_at_call 48; refine (impl_isGame _ _ _ _).mono ?_; rintro e w' ⟨rfl, rfl⟩) | (go_at_call 49; refine (impl_within _ _ _ _).mono ?_; rintro e w' ⟨rfl, rfl⟩))
    go_ret2
    exact ⟨_, rfl, HasSS.nil _ _, (Below.refl _ _).alloc (Nat.le_refl _) _⟩
  · cases hk : inB k 0 8
    · have hok : tabOk a b n k = false := by unfold tabOk; rw [hg, hk]; rfl
      rw [tabV_no hok, hok]
      go_enter Try.func9, Try.ntmps9
      go_wp2_with (first | (go_at_call 48; refine (impl_isGame _ _ _ _).mono ?_; rintro e w' ⟨rfl, rfl⟩) | (go_at_call 49; refine (impl_within _ _ _ _).mono ?_; rintro e w' ⟨rfl, rfl⟩))
      go_ret2
      exact ⟨_, rfl, HasSS.nil _ _, (Below.refl _ _).alloc (Nat.le_refl _) _⟩
    · have hok : tabOk a b n k = true := by unfold tabOk; rw [hg, hk]; rfl
      have ht := tabOk_t hok
      rw [hok]
      have hc : (w.alloc (.cells #[.int .i64 n] 3)).cell? ⟨w.heap.size, 0, none⟩ = some (.int .i64 n) := by rw [World.cell?_alloc_at _ _ _ _ rfl]; rfl
      have hb0 : Below w.heap.size w (w.alloc (.cells #[.int .i64 n] 3)) := (Below.refl _ _).alloc (Nat.le_refl _) _
      have hsz : w.heap.size < (w.alloc (.cells #[.int .i64 n] 3)).heap.size := by simp
      have Ht : Hid (∀ W : World, Below (w.alloc (.cells #[.int .i64 n] 3)).heap.size (w.alloc (.cells #[.int .i64 n] 3)) W → Calls Try.prog 50 #[.int .i64 a, .int .i64 b, .int .i64 n, .int .i64 k, .func (.func 51) #[] #[.pointer (some ⟨w.heap.size, 0, none⟩)]] W fun e w' => ∃ v, e = .returned v ∧ HasSS w' W.heap.size v (tabV stF a b n k) ∧ Below W.heap.size W w') := Lib.hid fun W hW =>
        impl_table a b n k 51 #[.pointer (some ⟨w.heap.size, 0, none⟩)] stF W hok (playF _ (by omega)) cf_BestStake fun i W' hi hW' => cl_best n.toNat i _ W' hi (by omega) (by
          rw [hW'.cell (p := ⟨w.heap.size, 0, none⟩) (Nat.lt_of_lt_of_le hsz hW.size), hW.cell (p := ⟨w.heap.size, 0, none⟩) hsz, hc, show ((n.toNat : Nat) : Int) = n by omega])
      have Hok := Lib.hid hok
      clear hok ht
      go_enter Try.func9, Try.ntmps9
      go_wp2_with (first | (go_at_call 48; refine (impl_isGame _ _ _ _).mono ?_; rintro e w' ⟨rfl, rfl⟩) | (go_at_call 49; refine (impl_within _ _ _ _).mono ?_; rintro e w' ⟨rfl, rfl⟩))
      refine (Ht.out _ (Below.refl _ _)).mono ?_
      rintro e w' ⟨v, rfl, ho, hb⟩
      have ho' := ho.mono hb0.size
      have hb' := hb0.trans (hb.mono hb0.size)
      clear ho hb hc hb0 hsz
      go_wp2_with fail
      go_ret2
      exact ⟨_, rfl, ho', hb'⟩
end Go.Proofs.Ytbekfpgpeaoifaa
