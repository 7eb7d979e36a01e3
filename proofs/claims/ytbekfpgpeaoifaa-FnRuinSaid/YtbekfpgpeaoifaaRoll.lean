/- Contracts: the chances of fortunes behind some rolls, of the program and of the reference. -/
import Derived.Test.YtbekfpgpeaoifaaGame
import Derived.Test.YtbekfpgpeaoifaaPlR
import Derived.Deep.QuietTactic
import Derived.BigQuiet
import Derived.BigRegion
import Derived.StillTailTactics
import Derived.WalkSmall
namespace Go.Proofs.Ytbekfpgpeaoifaa
open Go.RowKit

set_option maxHeartbeats 1000000 in
theorem spec_l5Roll (p q : Int) (a : Option Addr) (n cap : Nat) (xs : List Int) (w : World) (hn0 : 2 ≤ n) (hn : n ≤ 13) (hp : 1 ≤ p ∧ p ≤ 20) (hq : 1 ≤ q ∧ q ≤ 20) (hx : NN xs) (hs : sumL xs ≤ 6553600000000)
    (ha : Ints w a n xs) :
    Calls Try.prog 91 #[.int .i64 p, .int .i64 q, .slice a n cap] w fun e w' => ∃ v, e = .returned v ∧ Own w' w.heap.size v (rollP p q xs n) ∧ Below w.heap.size w w' := by
  have hlen := ha.1
  have hmk := mk_ints n (by omega)
  have Hlen := Lib.hid hlen
  have Ha := Lib.hid ha
  have hz := Own.zeros w w.heap.size n (Nat.le_refl _) (by simp [maxLen]; omega)
  have hzb : Below w.heap.size w (w.alloc (.cells (zv n) 3)) := (Below.refl _ _).alloc (Nat.le_refl _) _
  clear hlen ha
  go_enter Try.func91, Try.ntmps91
  go_wp2_with fail
  clear hmk
  go_loopw [9] (fun v9 wr => ∃ i : Nat, i ≤ n ∧ v9 = .int .i64 i ∧ Own wr w.heap.size (.slice (some ⟨w.heap.size, 0, none⟩) n n) (rollP p q xs i) ∧ Below w.heap.size w wr) (fun v9 _ => n - (intOf v9).toNat)
  case atStart => exact ⟨0, Nat.zero_le _, rfl, by rw [rollP, Hlen.out]; exact hz, hzb⟩
  case round =>
    obtain ⟨i, hi, rfl, hown, hbel⟩ := hrel
    clear hz hzb
    by_cases hlt : (i : Int) < n
    · obtain ⟨ba, oa, rfl, hba, hca⟩ := Ha.out.2 (by omega)
      have h1 := (hbel.cell (p := ⟨ba, oa + i, none⟩) hba).trans (hca i (by omega))
      have hbd := roll_bd (a := p) (b := q) (by omega) (by omega) (by omega) hx hs i (by have := Hlen.out; omega)
      have hol : (rollP p q xs i).length = n := by rw [rollP_length]; exact Hlen.out
      clear hca
      by_cases he : i = 0 ∨ i + 1 = n
      · have hco := hown.cell (i := i) (by omega)
        have hfo := hown.free hol.symm i
        have hset := (Own.set (w := wr.drew) hown hol.symm i (nth (rollP p q xs i) i + (p + q) * nth xs i))
        have hob := nth_le_sumL hbd.1 i
        have hob0 := hbd.1 i
        generalize hcv : nth xs i = c at h1 hbd hset
        generalize hov : nth (rollP p q xs i) i = o at hco hset hob hob0
        have Hcv := Lib.hid hcv
        have Hov := Lib.hid hov
        have Hset := Lib.hid hset
        have h3 : 0 ≤ o + (p + q) * c ∧ o + (p + q) * c ≤ 40 * 6553600000000 ∧ 0 ≤ (p + q) * c ∧ (p + q) * c ≤ 40 * 6553600000000 := by omega
        have He := Lib.hid he
        clear hown hol hcv hov hset hob hob0 hbd he
        by_cases he0 : i = 0
        · have hb : ((i : Int) == 0) = true := by simp [he0]
          clear he0
          go_wp2_with fail
          go_still_tail 16, (by kernel_rfl)
          change wpList _ _ _ _ _ wr.drew
          go_wp2_with fail
          go_roundw
          case rel =>
            refine ⟨i + 1, by omega, by go_num, ?_, hbel.drew.setCell (Nat.le_refl _) _⟩
            rw [rollP, roll1, if_pos (by have := Hlen.out; have := He.out; omega), Hov.out, Hcv.out]
            exact Hset.out
          case measure => simp [intOf]; omega
        · have hb : ((i : Int) == 0) = false := by simp [he0]
          have hb2 : ((i : Int) == (n : Int) - 1) = true := by rw [beq_iff_eq]; have := He.out; omega
          clear he0
          go_wp2_with fail
          go_still_tail 16, (by kernel_rfl)
          change wpList _ _ _ _ _ wr.drew
          go_wp2_with fail
          go_roundw
          case rel =>
            refine ⟨i + 1, by omega, by go_num, ?_, hbel.drew.setCell (Nat.le_refl _) _⟩
            rw [rollP, roll1, if_pos (by have := Hlen.out; have := He.out; omega), Hov.out, Hcv.out]
            exact Hset.out
          case measure => simp [intOf]; omega
      · have hb : ((i : Int) == 0) = false := by rw [beq_eq_false_iff_ne]; omega
        have hb2 : ((i : Int) == (n : Int) - 1) = false := by rw [beq_eq_false_iff_ne]; omega
        have hi1 : 1 ≤ (i : Int) ∧ (i : Int) + 1 < n := by omega
        have hco := hown.cell (i := i + 1) (by omega)
        have hfo := hown.free hol.symm (i + 1)
        have hob := nth_le_sumL hbd.1 (i + 1)
        have hob0 := hbd.1 (i + 1)
        have hom := nth_le_sumL hbd.1 (i - 1)
        have hom0 := hbd.1 (i - 1)
        generalize hcv : nth xs i = c at h1 hbd
        generalize hov : nth (rollP p q xs i) (i + 1) = o at hco hob hob0
        generalize hmv : nth (rollP p q xs i) (i - 1) = m at hom hom0
        have Hcv := Lib.hid hcv
        have Hov := Lib.hid hov
        have Hmv := Lib.hid hmv
        have Hol := Lib.hid hol
        have Hown := Lib.hid hown
        have h3 : 0 ≤ o + p * c ∧ o + p * c ≤ 40 * 6553600000000 ∧ 0 ≤ m + q * c ∧ m + q * c ≤ 40 * 6553600000000 ∧ 0 ≤ p * c ∧ 0 ≤ q * c ∧ p * c ≤ 40 * 6553600000000 ∧ q * c ≤ 40 * 6553600000000 := by omega
        clear hown hol hcv hov hmv hob hob0 hom hom0 hbd he
        go_wp2_with fail
        have e1 : IntKind.i64.wrap ((i : Int) + 1) = (i : Int) + 1 := IntWalk.i64_in _ (by omega)
        have e2 : (0 : Int) ≤ (i : Int) + 1 := by omega
        have e3 : ((i : Int) + 1).toNat = i + 1 := by omega
        go_still_tail 16, (by kernel_rfl)
        change wpList _ _ _ _ _ wr.drew
        go_wp2_with fail
        have hown2 : Own (wr.setCell ⟨w.heap.size, i + 1, none⟩ (.int .i64 (o + p * c))).drew w.heap.size (.slice (some ⟨w.heap.size, 0, none⟩) n n) ((rollP p q xs i).set (i + 1) (o + p * c)) := Hown.out.set Hol.out.symm (i + 1) _
        have hbel2 : Below w.heap.size w (wr.setCell ⟨w.heap.size, i + 1, none⟩ (.int .i64 (o + p * c))).drew := (hbel.setCell (Nat.le_refl _) _).drew
        have h1' : (wr.setCell ⟨w.heap.size, i + 1, none⟩ (.int .i64 (o + p * c))).drew.cell? ⟨ba, oa + i, none⟩ = some (.int .i64 c) := by
          rw [hbel2.cell (p := ⟨ba, oa + i, none⟩) hba, ← hbel.cell (p := ⟨ba, oa + i, none⟩) hba]; exact h1
        generalize (wr.setCell ⟨w.heap.size, i + 1, none⟩ (.int .i64 (o + p * c))).drew = w2 at hown2 hbel2 h1' ⊢
        have hol2 : ((rollP p q xs i).set (i + 1) (o + p * c)).length = n := by rw [List.length_set]; exact Hol.out
        have hm2 : nth ((rollP p q xs i).set (i + 1) (o + p * c)) (i - 1) = m := by rw [nth_set (by rw [Hol.out]; omega), if_neg (by omega)]; exact Hmv.out
        have hcm2 : w2.cell? ⟨w.heap.size, i - 1, none⟩ = some (.int .i64 m) := by rw [← hm2]; exact hown2.cell (by omega)
        have hfm2 := hown2.free hol2.symm (i - 1)
        have Hset := Lib.hid (Own.set (w := w2.drew) hown2 hol2.symm (i - 1) (m + q * c))
        have Hm2 := Lib.hid hm2
        have Hol2 := Lib.hid hol2
        clear hown2 hco hfo h1 e1 e2 e3 hm2 hol2
        have e1 : IntKind.i64.wrap ((i : Int) - 1) = (i : Int) - 1 := IntWalk.i64_in _ (by omega)
        have e2 : (0 : Int) ≤ (i : Int) - 1 := by omega
        have e3 : (i : Int) - 1 < n := by omega
        have e4 : ((i : Int) - 1).toNat = i - 1 := by omega
        go_still_tail 16, (by kernel_rfl)
        change wpList _ _ _ _ _ w2.drew
        go_wp2_with fail
        go_roundw
        case rel =>
          refine ⟨i + 1, by omega, by go_num, ?_, hbel2.drew.setCell (Nat.le_refl _) _⟩
          rw [rollP, roll1, if_neg (by have := Hlen.out; omega)]
          simp only []
          rw [Hov.out, Hcv.out, Hm2.out]
          exact Hset.out
        case measure => simp [intOf]; omega
    · obtain rfl : i = n := by omega
      go_wp2_with fail
      go_ret
      exact ⟨_, rfl, hown, hbel⟩
end Go.Proofs.Ytbekfpgpeaoifaa
