/- Contracts of the helpers of the laws on slices of slices of ints. -/
import Derived.Test.YtehmaedifbnnhaaLawS
import Derived.Test.YtehmaedifbnnhaaSS
namespace Go.Proofs.Ytehmaedifbnnhaa
open Go.RowKit

/-- How many numbers the first i rows hold. -/
def pre (xss : List (List Int)) : Nat → Nat
  | 0 => 0
  | i + 1 => pre xss i + (row xss i).length
/-- Row i with its marks. -/
def markR (k : Int) (xss : List (List Int)) (i : Nat) : List Int := marks (k + pre xss i) (row xss i).length
/-- The first i rows with their marks, the others as they were. -/
def mkSS (k : Int) (xss : List (List Int)) (i : Nat) : List (List Int) := (List.range xss.length).map fun (j : Nat) => if j < i then markR k xss j else row xss j
theorem mkSS_length (k : Int) (xss : List (List Int)) (i : Nat) : (mkSS k xss i).length = xss.length := by simp [mkSS]
theorem row_mkSS (k : Int) (xss : List (List Int)) (i j : Nat) (h : j < xss.length) : row (mkSS k xss i) j = if j < i then markR k xss j else row xss j := by unfold mkSS; rw [row_map_range h]
theorem mkSS_zero (k : Int) (xss : List (List Int)) : mkSS k xss 0 = xss := ext_row (mkSS_length _ _ _) fun i hi => by rw [mkSS_length] at hi; rw [row_mkSS _ _ _ _ hi]; simp
theorem row_mkSS_len (k : Int) (xss : List (List Int)) (i j : Nat) (h : j < xss.length) : (row (mkSS k xss i) j).length = (row xss j).length := by
  rw [row_mkSS _ _ _ _ h]; split
  · exact marks_length _ _
  · rfl
theorem pre_le (xss : List (List Int)) (L : Nat) (h : ∀ i, i < xss.length → (row xss i).length ≤ L) (i : Nat) (hi : i ≤ xss.length) : pre xss i ≤ i * L := by
  induction i with
  | zero => simp [pre]
  | succ i ih => have := ih (by omega); have := h i (by omega); rw [pre, Nat.add_mul]; omega
/-- Small enough to be marked. -/
def Small (xss : List (List Int)) : Prop := xss.length ≤ 4096 ∧ ∀ i, i < xss.length → (row xss i).length ≤ 4096
theorem Small.pre {xss : List (List Int)} (h : Small xss) {i : Nat} (hi : i ≤ xss.length) : pre xss i ≤ 16777216 := by
  have h1 := pre_le xss 4096 h.2 i hi
  have h2 := h.1
  have : i * 4096 ≤ 4096 * 4096 := Nat.mul_le_mul_right _ (by omega)
  omega

set_option maxHeartbeats 1000000 in
theorem laws_eqIntSS (a b : Option Addr) (n ca cb : Nat) (xss : List (List Int)) (w : World) (hn : Small xss) (ha : IntsSS w a n xss) (hb : IntsSS w b n xss) :
    Calls Try.prog 22 #[.slice a n ca, .slice b n cb] w fun e w' => e = .returned (.bool true) ∧ Below w.heap.size w w' := by
  have hlen := ha.1
  have Hlen := Lib.hid hlen
  have hn2 : n ≤ 4096 := by rw [← hlen]; exact hn.1
  have Hn := Lib.hid hn
  have Ha := Lib.hid ha
  have Hb := Lib.hid hb
  clear ha hb hlen hn
  go_enter Try.func22, Try.ntmps22
  go_wp2_with fail
  go_loopw [5] (fun v5 wr => ∃ i : Nat, i ≤ n ∧ v5 = .int .i64 i ∧ Below w.heap.size w wr) (fun v5 _ => n - (intOf v5).toNat)
  case atStart => exact ⟨0, Nat.zero_le _, rfl, Below.refl _ _⟩
  case round =>
    obtain ⟨i, hi, rfl, hbel⟩ := hrel
    by_cases hlt : (i : Int) < n
    · obtain ⟨ba, oa, rfl, hba, hca⟩ := (Ha.out.below hbel).2 (by omega)
      obtain ⟨bb, ob, rfl, hbb, hcb⟩ := (Hb.out.below hbel).2 (by omega)
      obtain ⟨a1, c1, h1, i1⟩ := hca i (by omega)
      obtain ⟨a2, c2, h2, i2⟩ := hcb i (by omega)
      have hl := Hn.out.2 i (by have := Hlen.out; omega)
      have Hl := Lib.hid hl
      have I1 := Lib.hid i1
      have I2 := Lib.hid i2
      clear hca hcb i1 i2 hl
      go_wp2_with fail
      go_quiet ((go_at_call 46; exact Calls.quiet_of (laws_eqIntS_q _ _ _ _ _ (row xss i) _ (by have := Hl.out; omega) I1.out I2.out)))
      go_wp2_with fail
      go_roundw
      case rel => exact ⟨i + 1, by omega, by go_num, below_drewN hbel _⟩
      case measure => simp [intOf]; omega
    · go_wp2_with fail
      go_ret
      exact ⟨rfl, hbel⟩
set_option maxHeartbeats 1000000 in
theorem laws_markIntSS (base : Nat) (a : Option Addr) (n cap : Nat) (k : Int) (xss : List (List Int)) (w : World) (hn : Small xss) (hk0 : 0 ≤ k) (hk1 : k ≤ 1000000000) (hb : base ≤ w.heap.size) (h : HasSS w base (.slice a n cap) xss) :
    Calls Try.prog 23 #[.slice a n cap, .int .i64 k] w fun e w' => e = .returned (.int .i64 (k + pre xss n)) ∧ HasSS w' base (.slice a n cap) (mkSS k xss n) ∧ Below base w w' := by
  obtain ⟨vs, h⟩ := h
  obtain ⟨a', cap', he⟩ := h.outer.shape
  simp only [Value.slice.injEq] at he
  obtain ⟨-, hlen, -⟩ := he
  have hxl : xss.length = n := by rw [← h.len, hlen]
  have Hlen := Lib.hid hlen
  have Hxl := Lib.hid hxl
  have hn2 : n ≤ 4096 := by rw [← hxl]; exact hn.1
  have Hn := Lib.hid hn
  have h0 : OwnSS w base (.slice a n cap) vs (mkSS k xss 0) := by rw [mkSS_zero]; exact h
  clear hlen hxl hn h
  go_enter Try.func23, Try.ntmps23
  go_wp2_with fail
  go_loopw [1, 5] (fun v1 v5 wr => ∃ i : Nat, i ≤ n ∧ v5 = .int .i64 i ∧ v1 = .int .i64 (k + pre xss i) ∧ OwnSS wr base (.slice a n cap) vs (mkSS k xss i) ∧ Below base w wr) (fun _ v5 _ => n - (intOf v5).toNat)
  case atStart => exact ⟨0, Nat.zero_le _, rfl, by simp [pre], h0, Below.refl _ _⟩
  case round =>
    obtain ⟨i, hi, rfl, rfl, hown, hbel⟩ := hrel
    clear h0
    by_cases hlt : (i : Int) < n
    · have hvl := hown.len
      rw [mkSS_length] at hvl
      have hil : i < vs.length := by have := Hlen.out; omega
      obtain ⟨g, cap'', he, _, _⟩ := hown.outer.form (by omega)
      simp only [Value.slice.injEq] at he
      obtain ⟨rfl, -, -⟩ := he
      have hc := hown.outer.cell (i := i) hil
      have hr := hown.rows i hil
      rw [row_mkSS _ _ _ _ (by omega), if_neg (by omega)] at hr
      obtain ⟨ar, cr, hv⟩ := hr.shape
      have hrl := Hn.out.2 i (by omega)
      have hpr := Hn.out.pre (i := i) (by omega)
      have hr2 := hr
      rw [hv] at hc hr2
      have Hown := Lib.hid hown
      have Hr := Lib.hid hr2
      have Hv := Lib.hid hv
      have Hvl := Lib.hid hvl
      clear hown hr hr2 hv hvl
      go_wp2_with fail
      refine (laws_markIntS base _ _ _ _ (row xss i) _ (by omega) (by omega) (by omega) Hr.out).mono ?_
      rintro e w1 ⟨rfl, ho, hg⟩
      go_wp2_with fail
      go_roundw
      case rel =>
        refine ⟨i + 1, by omega, by go_num, vi (by rw [pre]; omega), ?_, hbel.trans (below_of_grown Hr.out hg (Nat.le_trans hb hbel.size))⟩
        refine OwnSS.write Hown.out i hil ?_ (by rw [Hv.out]; exact hg) (by rw [mkSS_length, mkSS_length]) ?_
        · rw [row_mkSS _ _ _ _ (by have := Hvl.out; omega), if_pos (by omega), Hv.out, markR]; exact ho
        · intro j hj hne
          have := Hvl.out
          rw [row_mkSS _ _ _ _ (by omega), row_mkSS _ _ _ _ (by omega)]
          by_cases e : j < i
          · rw [if_pos e, if_pos (by omega)]
          · rw [if_neg e, if_neg (by omega)]
      case measure => simp [intOf]; omega
    · obtain rfl : i = n := by omega
      go_wp2_with fail
      go_ret
      exact ⟨rfl, ⟨_, hown⟩, hbel⟩
set_option maxHeartbeats 1000000 in
theorem laws_heldIntSS (a : Option Addr) (n cap : Nat) (k : Int) (xss : List (List Int)) (w : World) (hn : Small xss) (hk0 : 0 ≤ k) (hk1 : k ≤ 1000000000) (hx : xss.length = n) (h : IntsSS w a n (mkSS k xss n)) :
    Calls Try.prog 24 #[.slice a n cap, .int .i64 k] w fun e w' => e = .returned (.int .i64 (k + pre xss n)) ∧ w = w' := by
  have hn2 : n ≤ 4096 := by rw [← hx]; exact hn.1
  have Ha := Lib.hid h
  have Hx := Lib.hid hx
  have Hn := Lib.hid hn
  clear h hx hn
  go_enter Try.func24, Try.ntmps24
  go_wp2_with fail
  go_loop [1, 5] (fun v1 v5 => ∃ i : Nat, i ≤ n ∧ v5 = .int .i64 i ∧ v1 = .int .i64 (k + pre xss i)) (fun _ v5 => n - (intOf v5).toNat)
  case atStart => exact ⟨0, Nat.zero_le _, rfl, by simp [pre]⟩
  case round =>
    obtain ⟨i, hi, rfl, rfl⟩ := hrel
    by_cases hlt : (i : Int) < n
    · obtain ⟨ba, oa, rfl, hba, hca⟩ := Ha.out.2 (by omega)
      obtain ⟨a1, c1, h1, i1⟩ := hca i (by omega)
      have hxl := Hx.out
      rw [row_mkSS _ _ _ _ (by omega), if_pos (by omega), markR, marks_length] at h1 i1
      have hrl := Hn.out.2 i (by omega)
      have hpr := Hn.out.pre (i := i) (by omega)
      have I1 := Lib.hid i1
      have hnn : ¬ (k + (pre xss i : Int) + ((row xss i).length : Int) < 0) := by omega
      clear hca i1 hxl
      go_wp2_with fail
      refine (laws_heldIntS _ _ _ _ _ (by omega) (by omega) (by omega) I1.out).mono ?_
      rintro e w1 ⟨rfl, rfl⟩
      go_wp2_with fail
      go_round
      case rel => exact ⟨i + 1, by omega, by go_num, vi (by rw [pre]; omega)⟩
      case measure => simp [intOf]; omega
    · obtain rfl : i = n := by omega
      go_wp2_with fail
      go_ret
      exact ⟨rfl, rfl⟩
end Go.Proofs.Ytehmaedifbnnhaa
