/- Contracts of the helpers of the laws on slices of ints: equal lists are found equal, marks are laid and found again. -/
import Derived.Test.YtcoakeedgngogaaBase
import Derived.Deep.QuietTactic
import Derived.BigQuiet
import Derived.WalkSmall
import Derived.Deep.Draws
namespace Go.Proofs.Ytcoakeedgngogaa
open Go.RowKit

/-- The marks k, k + 1, .. -/
def marks (k : Int) (n : Nat) : List Int := (List.range n).map fun (i : Nat) => k + (i : Int)
theorem marks_length (k : Int) (n : Nat) : (marks k n).length = n := by simp [marks]
theorem nth_marks (k : Int) (n i : Nat) (h : i < n) : nth (marks k n) i = k + i := by unfold marks; rw [nth_map_range h]
/-- i marks, then the list as it was. -/
def mk (k : Int) (xs : List Int) (i : Nat) : List Int := (List.range xs.length).map fun (j : Nat) => if j < i then k + (j : Int) else nth xs j
theorem mk_length (k : Int) (xs : List Int) (i : Nat) : (mk k xs i).length = xs.length := by simp [mk]
theorem nth_mk (k : Int) (xs : List Int) (i j : Nat) (h : j < xs.length) : nth (mk k xs i) j = if j < i then k + (j : Int) else nth xs j := by unfold mk; rw [nth_map_range h]
theorem mk_zero (k : Int) (xs : List Int) : mk k xs 0 = xs := ext_nth (mk_length _ _ _) fun i hi => by rw [mk_length] at hi; rw [nth_mk _ _ _ _ hi]; simp
theorem mk_all (k : Int) (xs : List Int) : mk k xs xs.length = marks k xs.length := ext_nth (by rw [mk_length, marks_length]) fun i hi => by rw [mk_length] at hi; rw [nth_mk _ _ _ _ hi, nth_marks _ _ _ hi, if_pos hi]
theorem mk_succ (k : Int) (xs : List Int) (i : Nat) (h : i < xs.length) : mk k xs (i + 1) = (mk k xs i).set i (k + (i : Int)) := ext_nth (by simp [mk_length]) fun j hj => by
  rw [mk_length] at hj
  rw [nth_set (by rw [mk_length]; exact h), nth_mk _ _ _ _ hj, nth_mk _ _ _ _ hj]
  by_cases e : i = j
  · subst e; rw [if_pos (by omega), if_pos rfl]
  · rw [if_neg e]
    by_cases e2 : j < i
    · rw [if_pos e2, if_pos (by omega)]
    · rw [if_neg e2, if_neg (by omega)]

set_option maxHeartbeats 400000 in
/-- Two slices that read alike are found equal. -/
theorem laws_eqIntS_q (a b : Option Addr) (n ca cb : Nat) (xs : List Int) (w : World) (hn : n ≤ 4294967296) (ha : Ints w a n xs) (hb : Ints w b n xs) :
    Calls Try.prog 25 #[.slice a n ca, .slice b n cb] w fun e w' => e = .returned (.bool true) ∧ ∃ m, w' = w.drewN m := by
  have Ha := Lib.hid ha
  have Hb := Lib.hid hb
  clear ha hb
  go_enter Try.func25, Try.ntmps25
  go_wp2_with fail
  go_loopw [5] (fun v5 wr => ∃ i m : Nat, i ≤ n ∧ v5 = .int .i64 i ∧ wr = w.drewN m) (fun v5 _ => n - (intOf v5).toNat)
  case atStart => exact ⟨0, 0, Nat.zero_le _, rfl, rfl⟩
  case round =>
    obtain ⟨i, m, hi, rfl, hwr⟩ := hrel
    have hbel : Below w.heap.size w wr := by rw [hwr]; exact below_drewN (Below.refl _ _) m
    have Hwr := Lib.hid hwr
    clear hwr
    by_cases hlt : (i : Int) < n
    · obtain ⟨ba, oa, rfl, hba, hca⟩ := Ha.out.2 (by omega)
      obtain ⟨bb, ob, rfl, hbb, hcb⟩ := Hb.out.2 (by omega)
      have h1 := (hbel.cell (p := ⟨ba, oa + i, none⟩) hba).trans (hca i (by omega))
      have h2 := (hbel.cell (p := ⟨bb, ob + i, none⟩) hbb).trans (hcb i (by omega))
      clear hca hcb hbel
      generalize nth xs i = c at h1 h2
      go_wp2_with fail
      go_quiet (fail)
      go_wp2_with fail
      go_roundw
      case rel => exact ⟨i + 1, _, by omega, by go_num, by rw [Hwr.out, World.drewN_drewN]⟩
      case measure => simp [intOf]; omega
    · go_wp2_with fail
      go_ret
      exact ⟨rfl, m, Hwr.out⟩
theorem laws_eqIntS (a b : Option Addr) (n ca cb : Nat) (xs : List Int) (w : World) (hn : n ≤ 4294967296) (ha : Ints w a n xs) (hb : Ints w b n xs) :
    Calls Try.prog 25 #[.slice a n ca, .slice b n cb] w fun e w' => e = .returned (.bool true) ∧ Below w.heap.size w w' :=
  (laws_eqIntS_q a b n ca cb xs w hn ha hb).mono fun _ _ ⟨he, m, hm⟩ => ⟨he, by rw [hm]; exact below_drewN (Below.refl _ _) m⟩
set_option maxHeartbeats 400000 in
theorem laws_markIntS (base : Nat) (a : Option Addr) (n cap : Nat) (k : Int) (xs : List Int) (w : World) (hn : n ≤ 4294967296) (hk0 : 0 ≤ k) (hk1 : k ≤ 1000000000000) (h : Own w base (.slice a n cap) xs) :
    Calls Try.prog 28 #[.slice a n cap, .int .i64 k] w fun e w' => e = .returned (.int .i64 (k + n)) ∧ Own w' base (.slice a n cap) (marks k n) ∧ w.grownBy w' (Value.slice a n cap).ownBlock := by
  obtain ⟨a', cap', he⟩ := h.shape
  simp only [Value.slice.injEq] at he
  obtain ⟨-, hlen, -⟩ := he
  have Hlen := Lib.hid hlen
  clear hlen
  go_enter Try.func28, Try.ntmps28
  go_wp2_with fail
  have hown0 : Own w base (.slice a n cap) (mk k xs 0) := by rw [mk_zero]; exact h
  clear h
  go_loopw [1, 5] (fun v1 v5 wr => ∃ i : Nat, i ≤ n ∧ v5 = .int .i64 i ∧ v1 = .int .i64 (k + i) ∧ Own wr base (.slice a n cap) (mk k xs i) ∧ w.grownBy wr (Value.slice a n cap).ownBlock) (fun _ v5 _ => n - (intOf v5).toNat)
  case atStart => exact ⟨0, Nat.zero_le _, rfl, by simp, hown0, World.grownBy.refl _ _⟩
  case round =>
    obtain ⟨i, hi, rfl, rfl, hown, hg⟩ := hrel
    clear hown0
    by_cases hlt : (i : Int) < n
    · have hml : (mk k xs i).length = n := by rw [mk_length]; exact Hlen.out.symm
      obtain ⟨g, cap'', he, hbg, hgs⟩ := hown.form (by omega)
      simp only [Value.slice.injEq] at he
      obtain ⟨rfl, -, -⟩ := he
      have hc := hown.cell (i := i) (by omega)
      have hf := hown.free hml.symm i
      have hs := Lib.hid (hown.set hml.symm i (k + i))
      have hst := Lib.hid (World.ownsRow.stored (by have := hown; unfold Own at this; rw [hml] at this; exact this) i (.int .i64 (k + i))).2
      clear hown hml
      go_wp2_with fail
      go_roundw
      case rel =>
        refine ⟨i + 1, by omega, by go_num, by go_num, ?_, ?_⟩
        · rw [mk_succ _ _ _ (by have := Hlen.out; omega)]; exact hs.out
        · exact hg.trans hst.out
      case measure => simp [intOf]; omega
    · obtain rfl : i = n := by omega
      go_wp2_with fail
      go_ret
      refine ⟨rfl, ?_, hg⟩
      have := mk_all k xs
      rw [← Hlen.out] at this
      rw [← this]; exact hown
set_option maxHeartbeats 400000 in
theorem laws_heldIntS (a : Option Addr) (n cap : Nat) (k : Int) (w : World) (hn : n ≤ 4294967296) (hk0 : 0 ≤ k) (hk1 : k ≤ 1000000000000) (h : Ints w a n (marks k n)) :
    Calls Try.prog 29 #[.slice a n cap, .int .i64 k] w fun e w' => e = .returned (.int .i64 (k + n)) ∧ w = w' := by
  have Ha := Lib.hid h
  clear h
  go_enter Try.func29, Try.ntmps29
  go_wp2_with fail
  go_loop [1, 5] (fun v1 v5 => ∃ i : Nat, i ≤ n ∧ v5 = .int .i64 i ∧ v1 = .int .i64 (k + i)) (fun _ v5 => n - (intOf v5).toNat)
  case atStart => exact ⟨0, Nat.zero_le _, rfl, by simp⟩
  case round =>
    obtain ⟨i, hi, rfl, rfl⟩ := hrel
    by_cases hlt : (i : Int) < n
    · obtain ⟨ba, oa, rfl, hba, hca⟩ := Ha.out.2 (by omega)
      have h1 := hca i (by omega)
      rw [nth_marks _ _ _ (by omega)] at h1
      clear hca
      go_wp2_with fail
      go_round
      case rel => exact ⟨i + 1, by omega, by go_num, by go_num⟩
      case measure => simp [intOf]; omega
    · obtain rfl : i = n := by omega
      go_wp2_with fail
      go_ret
      exact ⟨rfl, rfl⟩
/-- What grew in one row of the call's own from base on is Below base. -/
theorem below_of_grown {w w' : World} {base : Nat} {v : Value} {xs : List Int} (h : Own w base v xs) (hg : w.grownBy w' v.ownBlock) (hb : base ≤ w.heap.size) : Below base w w' :=
  (Below.refl _ _).grown hg hb fun k hk => (World.ownsRow.lt h k hk).1
end Go.Proofs.Ytcoakeedgngogaa
