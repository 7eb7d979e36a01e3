/- Contracts of the small words of the laws: is a code long, are lists equal. -/
import Derived.Test.YtbekfpgpeaoifaaLawIn
namespace Go.Proofs.Ytbekfpgpeaoifaa
open Go.RowKit

theorem laws_vBig (a : Option Addr) (n cap : Nat) (w : World) :
    Calls Try.prog 7 #[.slice a n cap] w fun e w' => e = .returned (.bool (decide ((n : Int) > 65536))) ∧ w = w' := by
  by_cases h : (n : Int) > 65536
  all_goals
    go_enter Try.func7, Try.ntmps7
    go_wp2_with fail
    go_ret
    exact ⟨by simp [h], rfl⟩
set_option maxHeartbeats 400000 in
/-- Two slices that read alike are found equal. -/
theorem laws_vInts_q (a b : Option Addr) (n ca cb : Nat) (xs : List Int) (w : World) (hn : n ≤ 4294967296) (ha : Ints w a n xs) (hb : Ints w b n xs) :
    Calls Try.prog 38 #[.slice a n ca, .slice b n cb] w fun e w' => e = .returned (.bool true) ∧ ∃ m, w' = w.drewN m := by
  have Ha := Lib.hid ha
  have Hb := Lib.hid hb
  clear ha hb
  go_enter Try.func38, Try.ntmps38
  go_wp2_with fail
  go_loopw [5] (fun v5 wr => ∃ i m : Nat, i ≤ n ∧ v5 = .int .i64 i ∧ wr = w.drewN m) (fun v5 _ => n - (intOf v5).toNat)
  case atStart => exact ⟨0, 0, Nat.zero_le _, rfl, rfl⟩
  case round =>
    obtain ⟨i, m, hi, rfl, hwr⟩ := hrel
    have hbel : Below w.heap.size w wr := by rw [hwr]; exact below_drewN (Below.refl _ _) m
    have Hwr := Lib.hid hwr
    clear hwr
    by_cases hlt : (i : Int) < n
    · obtain ⟨ba, oa, rfl, hba, hca⟩ := Ha.out.2 (by omega)
      obtain ⟨bb, ob, rfl, hbb, hcb⟩ := Hb.out.2 (by omega)
      have h1 := (hbel.cell (p := ⟨ba, oa + i, none⟩) hba).trans (hca i (by omega))
      have h2 := (hbel.cell (p := ⟨bb, ob + i, none⟩) hbb).trans (hcb i (by omega))
      clear hca hcb hbel
      generalize nth xs i = c at h1 h2
      go_wp2_with fail
      go_quiet (fail)
      go_wp2_with fail
      go_roundw
      case rel => exact ⟨i + 1, _, by omega, by go_num, by rw [Hwr.out, World.drewN_drewN]⟩
      case measure => simp [intOf]; omega
    · go_wp2_with fail
      go_ret
      exact ⟨rfl, m, Hwr.out⟩
theorem laws_vInts (a b : Option Addr) (n ca cb : Nat) (xs : List Int) (w : World) (hn : n ≤ 4294967296) (ha : Ints w a n xs) (hb : Ints w b n xs) :
    Calls Try.prog 38 #[.slice a n ca, .slice b n cb] w fun e w' => e = .returned (.bool true) ∧ Below w.heap.size w w' :=
  (laws_vInts_q a b n ca cb xs w hn ha hb).mono fun _ _ ⟨he, m, hm⟩ => ⟨he, by rw [hm]; exact below_drewN (Below.refl _ _) m⟩
set_option maxHeartbeats 1000000 in
theorem laws_vTable (a b : Option Addr) (n ca cb : Nat) (xss : List (List Int)) (w : World) (hn : Mid xss) (ha : IntsSS w a n xss) (hb : IntsSS w b n xss) :
    Calls Try.prog 19 #[.slice a n ca, .slice b n cb] w fun e w' => e = .returned (.bool true) ∧ Below w.heap.size w w' := by
  have hlen := ha.1
  have Hlen := Lib.hid hlen
  have hn2 : n ≤ 4294967296 := by rw [← hlen]; exact hn.1
  have Hn := Lib.hid hn
  have Ha := Lib.hid ha
  have Hb := Lib.hid hb
  clear ha hb hlen hn
  go_enter Try.func19, Try.ntmps19
  go_wp2_with fail
  go_loopw [5] (fun v5 wr => ∃ i : Nat, i ≤ n ∧ v5 = .int .i64 i ∧ Below w.heap.size w wr) (fun v5 _ => n - (intOf v5).toNat)
  case atStart => exact ⟨0, Nat.zero_le _, rfl, Below.refl _ _⟩
  case round =>
    obtain ⟨i, hi, rfl, hbel⟩ := hrel
    by_cases hlt : (i : Int) < n
    · obtain ⟨ba, oa, rfl, hba, hca⟩ := (Ha.out.below hbel).2 (by omega)
      obtain ⟨bb, ob, rfl, hbb, hcb⟩ := (Hb.out.below hbel).2 (by omega)
      obtain ⟨a1, c1, h1, i1⟩ := hca i (by omega)
      obtain ⟨a2, c2, h2, i2⟩ := hcb i (by omega)
      have hl := Hn.out.2 i (by have := Hlen.out; omega)
      have Hl := Lib.hid hl
      have I1 := Lib.hid i1
      have I2 := Lib.hid i2
      clear hca hcb i1 i2 hl
      go_wp2_with fail
      go_quiet ((go_at_call 38; exact Calls.quiet_of (laws_vInts_q _ _ _ _ _ (row xss i) _ (by have := Hl.out; omega) I1.out I2.out)))
      go_wp2_with fail
      go_roundw
      case rel => exact ⟨i + 1, by omega, by go_num, below_drewN hbel _⟩
      case measure => simp [intOf]; omega
    · go_wp2_with fail
      go_ret
      exact ⟨rfl, hbel⟩
end Go.Proofs.Ytbekfpgpeaoifaa
