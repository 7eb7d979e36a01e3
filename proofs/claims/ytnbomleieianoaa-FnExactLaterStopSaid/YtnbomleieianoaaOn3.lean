/- Contracts: the nodes of a stopping on a way, what is a stopping, by the reference. -/
import Derived.Test.YtnbomleieianoaaPlOn3
import Derived.Test.YtnbomleieianoaaErl
import Derived.Test.YtnbomleieianoaaStop
namespace Go.Proofs.Ytnbomleieianoaa
open Go.RowKit

set_option maxRecDepth 100000 in
set_option maxHeartbeats 1000000 in
theorem spec_l2Both (a1 : Option Addr) (n1 c1 : Nat) (xs : List Int) (a2 : Option Addr) (n2 c2 : Nat) (ys : List Int) (w : World) (h1 : Ints w a1 n1 xs) (h2 : Ints w a2 n2 ys) (hn1 : n1 ≤ 1048576) (hn2 : n2 ≤ 1048576) :
    Calls Try.prog 160 #[.slice a1 n1 c1, .slice a2 n2 c2] w fun e w' => ∃ v, e = .returned v ∧ Own w' w.heap.size v (xs.filter (hasB ys)) ∧ Below w.heap.size w w' := by
  have hl := Lib.hid h1.1
  have H1 := Lib.hid h1
  have H2 := Lib.hid h2
  clear h1 h2
  go_enter Try.func160, Try.ntmps160
  go_wp2_with fail
  have hnil := own_nil0 w
  have hb2 : Below w.heap.size w (w.alloc (.cells #[] 3)) := below_new _ _
  generalize (w.alloc (.cells #[] 3)) = w2 at *
  go_outline
  go_loopw [5, 6] (fun v8 v11 wr => ∃ k : Nat, k ≤ n1 ∧ v11 = .int .i64 (k : Int) ∧ Own wr w.heap.size v8 ((xs.take k).filter (hasB ys)) ∧ Below w.heap.size w wr) (fun _ v11 _ => n1 - (intOf v11).toNat)
  case atStart => exact ⟨0, Nat.zero_le _, rfl, by simpa using hnil, hb2⟩
  case round =>
    clear hnil hb2
    obtain ⟨k, hk, rfl, hown, hbel⟩ := hrel
    have hsz := hbel.size
    by_cases hlt : (k : Int) < n1
    · obtain ⟨b, off, rfl, hc⟩ := H1.out.at (i := k) hbel (by omega)
      have hlen : ((xs.take k).filter (hasB ys)).length ≤ k := by have := List.length_filter_le (hasB ys) (xs.take k); rw [List.length_take] at this; omega
      have Htk := Lib.hid (take_succ_nth (xs := xs) (k := k) (by rw [hl.out]; omega))
      have H2k := Lib.hid (H2.out.below hbel)
      cases he : hasB ys (nth xs k)
      · have Hf : Hid ((xs.take (k + 1)).filter (hasB ys) = (xs.take k).filter (hasB ys)) := Lib.hid (by rw [Htk.out, List.filter_append]; simp [he])
        have He := Lib.hid he
        generalize (xs.take k).filter (hasB ys) = acc at *
        generalize nth xs k = q at *
        clear he
        go_wp2_with (go_at_call 164; refine (spec_l1Has _ _ _ ys q _ hn2 H2k.out).mono ?_; rintro e w' ⟨rfl, rfl⟩; rw [He.out])
        go_roundw
        case rel => exact ⟨k + 1, by omega, by go_num, by rw [Hf.out]; exact hown, hbel⟩
        case measure => simp [intOf]; omega
      · have Hf : Hid ((xs.take (k + 1)).filter (hasB ys) = (xs.take k).filter (hasB ys) ++ [nth xs k]) := Lib.hid (by rw [Htk.out, List.filter_append]; simp [he])
        have He := Lib.hid he
        generalize (xs.take k).filter (hasB ys) = acc at *
        generalize nth xs k = q at *
        clear he
        go_wp2_with (first
          | (go_at_call 164; refine (spec_l1Has _ _ _ ys q _ hn2 H2k.out).mono ?_; rintro e w' ⟨rfl, rfl⟩; rw [He.out])
          | (at_builtin; refine wp_push _ _ rfl rfl w.heap.size _ _ rfl hown rfl (by omega) hsz ?_; intro v' w' ho hb))
        go_roundw
        case rel => exact ⟨k + 1, by omega, by go_num, by rw [Hf.out]; exact ho, hbel.trans hb⟩
        case measure => simp [intOf]; omega
    · obtain rfl : k = n1 := by omega
      go_wp2_with fail
      go_ret
      exact ⟨_, rfl, by rw [List.take_of_length_le (by rw [hl.out]; exact Nat.le_refl _)] at hown; exact hown, hbel⟩
end Go.Proofs.Ytnbomleieianoaa
