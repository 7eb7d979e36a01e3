/- Contracts of the helpers of the laws on slices of slices of ints. -/
import Derived.Test.YtcoakeedgngogaaLawS
import Derived.Test.YtcoakeedgngogaaSS
namespace Go.Proofs.Ytcoakeedgngogaa
open Go.RowKit

/-- How many numbers the first i rows hold. -/
def pre (xss : List (List Int)) : Nat → Nat
  | 0 => 0
  | i + 1 => pre xss i + (row xss i).length
/-- Row i with its marks. -/
def markR (k : Int) (xss : List (List Int)) (i : Nat) : List Int := marks (k + pre xss i) (row xss i).length
/-- The first i rows with their marks, the others as they were. -/
def mkSS (k : Int) (xss : List (List Int)) (i : Nat) : List (List Int) := (List.range xss.length).map fun (j : Nat) => if j < i then markR k xss j else row xss j
theorem mkSS_length (k : Int) (xss : List (List Int)) (i : Nat) : (mkSS k xss i).length = xss.length := by simp [mkSS]
theorem row_mkSS (k : Int) (xss : List (List Int)) (i j : Nat) (h : j < xss.length) : row (mkSS k xss i) j = if j < i then markR k xss j else row xss j := by unfold mkSS; rw [row_map_range h]
theorem mkSS_zero (k : Int) (xss : List (List Int)) : mkSS k xss 0 = xss := ext_row (mkSS_length _ _ _) fun i hi => by rw [mkSS_length] at hi; rw [row_mkSS _ _ _ _ hi]; simp
theorem row_mkSS_len (k : Int) (xss : List (List Int)) (i j : Nat) (h : j < xss.length) : (row (mkSS k xss i) j).length = (row xss j).length := by
  rw [row_mkSS _ _ _ _ h]; split
  · exact marks_length _ _
  · rfl
theorem pre_le (xss : List (List Int)) (L : Nat) (h : ∀ i, i < xss.length → (row xss i).length ≤ L) (i : Nat) (hi : i ≤ xss.length) : pre xss i ≤ i * L := by
  induction i with
  | zero => simp [pre]
  | succ i ih => have := ih (by omega); have := h i (by omega); rw [pre, Nat.add_mul]; omega
/-- Small enough to be marked. -/
def Small (xss : List (List Int)) : Prop := xss.length ≤ 4096 ∧ ∀ i, i < xss.length → (row xss i).length ≤ 4096
theorem Small.pre {xss : List (List Int)} (h : Small xss) {i : Nat} (hi : i ≤ xss.length) : pre xss i ≤ 16777216 := by
  have h1 := pre_le xss 4096 h.2 i hi
  have h2 := h.1
  have : i * 4096 ≤ 4096 * 4096 := Nat.mul_le_mul_right _ (by omega)
  omega

set_option maxHeartbeats 1000000 in
theorem laws_eqIntSS (a b : Option Addr) (n ca cb : Nat) (xss : List (List Int)) (w : World) (hn : Small xss) (ha : IntsSS w a n xss) (hb : IntsSS w b n xss) :
    Calls Try.prog 13 #[.slice a n ca, .slice b n cb] w fun e w' => e = .returned (.bool true) ∧ Below w.heap.size w w' := by
  have hlen := ha.1
  have Hlen := Lib.hid hlen
  have hn2 : n ≤ 4096 := by rw [← hlen]; exact hn.1
  have Hn := Lib.hid hn
  have Ha := Lib.hid ha
  have Hb := Lib.hid hb
  clear ha hb hlen hn
  go_enter Try.func13, Try.ntmps13
  go_wp2_with fail
  go_loopw [5] (fun v5 wr => ∃ i : Nat, i ≤ n ∧ v5 = .int .i64 i ∧ Below w.heap.size w wr) (fun v5 _ => n - (intOf v5).toNat)
  case atStart => exact ⟨0, Nat.zero_le _, rfl, Below.refl _ _⟩
  case round =>
    obtain ⟨i, hi, rfl, hbel⟩ := hrel
    by_cases hlt : (i : Int) < n
    · obtain ⟨ba, oa, rfl, hba, hca⟩ := (Ha.out.below hbel).2 (by omega)
      obtain ⟨bb, ob, rfl, hbb, hcb⟩ := (Hb.out.below hbel).2 (by omega)
      obtain ⟨a1, c1, h1, i1⟩ := hca i (by omega)
      obtain ⟨a2, c2, h2, i2⟩ := hcb i (by omega)
      have hl := Hn.out.2 i (by have := Hlen.out; omega)
      have Hl := Lib.hid hl
      have I1 := Lib.hid i1
      have I2 := Lib.hid i2
      clear hca hcb i1 i2 hl
      go_wp2_with fail
      go_quiet ((go_at_call 25; exact Calls.quiet_of (laws_eqIntS_q _ _ _ _ _ (row xss i) _ (by have := Hl.out; omega) I1.out I2.out)))
      go_wp2_with fail
      go_roundw
      case rel => exact ⟨i + 1, by omega, by go_num, below_drewN hbel _⟩
      case measure => simp [intOf]; omega
    · go_wp2_with fail
      go_ret
      exact ⟨rfl, hbel⟩
end Go.Proofs.Ytcoakeedgngogaa
