/- Contracts of the helpers of the laws on arguments that are slices of ints: their size, a copy of them. -/
import Derived.Test.YtcoakeedgngogaaLawS
namespace Go.Proofs.Ytcoakeedgngogaa
open Go.RowKit

/-- A size that is left: below 0, or P holds. -/
def IsLeft (e : Ending) (left : Int) (P : Prop) : Prop := ∃ z : Int, e = .returned (.int .i64 z) ∧ (0 ≤ z → P) ∧ -1 ≤ z ∧ z ≤ left
theorem isLeft_mk {e : Ending} {left z : Int} {P : Prop} (he : e = .returned (.int .i64 z)) (h : 0 ≤ z → P) (h1 : -1 ≤ z) (h2 : z ≤ left) : IsLeft e left P := ⟨z, he, h, h1, h2⟩
theorem laws_szIntS (a : Option Addr) (n cap : Nat) (left : Int) (w : World) (hn : n ≤ maxLen) (hl : 0 ≤ left) (hl2 : left ≤ 1048576) :
    Calls Try.prog 32 #[.slice a n cap, .int .i64 left] w fun e w' => IsLeft e left (n ≤ 1048576) ∧ w = w' := by
  have hm : maxLen = 9223372036854775807 := rfl
  rw [hm] at hn
  by_cases h : left - (n : Int) < 0
  all_goals
    go_enter Try.func32, Try.ntmps32
    go_wp2_with fail
    go_ret
    exact ⟨isLeft_mk rfl (by omega) (by omega) (by omega), rfl⟩
/-- The first i numbers, then zeros. -/
def half (xs : List Int) (i : Nat) : List Int := (List.range xs.length).map fun (j : Nat) => if j < i then nth xs j else 0
theorem half_length (xs : List Int) (i : Nat) : (half xs i).length = xs.length := by simp [half]
theorem half_zero (xs : List Int) : List.replicate xs.length 0 = half xs 0 := ext_nth (by simp [half]) fun i hi => by
  rw [List.length_replicate] at hi
  unfold half; rw [nth_map_range hi, nth_replicate]; simp
theorem half_all (xs : List Int) : half xs xs.length = xs := ext_nth (half_length _ _) fun i hi => by
  rw [half_length] at hi
  unfold half; rw [nth_map_range hi, if_pos hi]
theorem half_succ (xs : List Int) (i : Nat) (h : i < xs.length) : half xs (i + 1) = (half xs i).set i (nth xs i) := ext_nth (by simp [half]) fun j hj => by
  rw [half_length] at hj
  rw [nth_set (by rw [half_length]; exact h)]
  unfold half
  rw [nth_map_range hj, nth_map_range hj]
  by_cases e : i = j
  · subst e; rw [if_pos (by omega), if_pos rfl]
  · rw [if_neg e]
    by_cases e2 : j < i
    · rw [if_pos e2, if_pos (by omega)]
    · rw [if_neg e2, if_neg (by omega)]
set_option maxHeartbeats 400000 in
theorem laws_toIntS (ad : Option Addr) (n cap : Nat) (xs : List Int) (w : World) (hn : n ≤ 4294967296) (h : Ints w ad n xs) :
    Calls Try.prog 22 #[.slice ad n cap] w fun e w' => ∃ v, e = .returned v ∧ Own w' w.heap.size v xs ∧ Below w.heap.size w w' := by
  have hl := h.1
  have hmk := mk_ints n hn
  have h0 : Own (w.alloc (.cells (zv n) 3)) w.heap.size (.slice (some ⟨w.heap.size, 0, none⟩) n n) (half xs 0) := by
    rw [← half_zero, hl]; exact Own.zeros w _ n (Nat.le_refl _) (by have : maxLen = 9223372036854775807 := rfl; omega)
  have hb0 : Below w.heap.size w (w.alloc (.cells (zv n) 3)) := (Below.refl _ _).alloc (Nat.le_refl _) _
  have H := Lib.hid h
  have Hl := Lib.hid hl
  clear h hl
  go_enter Try.func22, Try.ntmps22
  go_wp2_with fail
  generalize (w.alloc (.cells (zv n) 3)) = w0 at *
  clear hmk
  go_loopw [4] (fun v4 wr => ∃ i : Nat, i ≤ n ∧ v4 = .int .i64 (i : Int) ∧ Own wr w.heap.size (.slice (some ⟨w.heap.size, 0, none⟩) n n) (half xs i) ∧ Below w.heap.size w wr) (fun v4 _ => n - (intOf v4).toNat)
  case atStart => exact ⟨0, Nat.zero_le _, rfl, h0, hb0⟩
  case round =>
    obtain ⟨i, hi, rfl, hown, hbel⟩ := hrel
    clear h0 hb0
    by_cases hlt : (i : Int) < n
    · obtain ⟨b, off, rfl, hbo, hc⟩ := (H.out.below hbel).2 (by omega)
      have h1 := hc i (by omega)
      clear hc
      have hf := hown.free (by rw [half_length]; exact Hl.out.symm) i
      have hcw := hown.cell (i := i) (by rw [half_length]; have := Hl.out; omega)
      have hs := Lib.hid (hown.set (by rw [half_length]; exact Hl.out.symm) i (nth xs i))
      have hst : Hid (wr.grownBy (wr.setCell ⟨w.heap.size, i, none⟩ (.int .i64 (nth xs i))) (some w.heap.size)) := Lib.hid (World.ownsRow.stored (by have := hown; unfold Own at this; rw [half_length, Hl.out] at this; exact this) i (.int .i64 (nth xs i))).2
      have Hbel := Lib.hid hbel
      clear hown hbel
      go_wp2_with fail
      go_roundw
      case rel => exact ⟨i + 1, by omega, by go_num, by rw [half_succ _ _ (by have := Hl.out; omega)]; exact hs.out, Hbel.out.grown hst.out Hbel.out.size (fun k hk => by cases hk; exact Nat.le_refl _)⟩
      case measure => simp [intOf]; omega
    · obtain rfl : i = n := by omega
      go_wp2_with fail
      go_ret
      have ha := half_all xs
      rw [Hl.out] at ha
      rw [ha] at hown
      exact ⟨_, rfl, hown, hbel⟩
end Go.Proofs.Ytcoakeedgngogaa
