/- Contracts: parts of a code behind its first few bytes, and a byte more. No conditions but those stated. -/
import Derived.Test.YtbekfpgpeaoifaaCut
namespace Go.Proofs.Ytbekfpgpeaoifaa
open Go.RowKit

theorem bytes_nil (w : World) (a : Option Addr) : Bytes w a 0 := ⟨by omega, fun h => by omega⟩
set_option maxHeartbeats 1000000 in
theorem laws_vCut2 (a : Option Addr) (n cap : Nat) (w : World) (hn : n ≤ 65536) (hcap : n ≤ cap) (hc0 : a = none → cap = 0) (h : Bytes w a n) :
    Calls Try.prog 16 #[.slice a n cap, .int .i64 2] w fun e w' => ∃ v, e = .returned v ∧ BytesV w' v ∧ Below w.heap.size w w' := by
  have H := Lib.hid h
  have hcap2 : (n : Int) ≤ cap := by omega
  have He := Lib.hid (ownB_empty w)
  clear h
  by_cases h1 : (2 : Int) > n
  · have hcases : n = 0 ∨ n = 1 := by omega
    rcases hcases with rfl | rfl
    · cases a with
      | none =>
        obtain rfl := hc0 rfl
        go_enter Try.func16, Try.ntmps16
        go_wp2_with (first | (at_builtin; refine wp_appB (.tmp 11) (.tmp 14) rfl rfl w.heap.size _ [] rfl He.out _ _ _ rfl (fun _ => rfl) ((bytes_nil w _).below ((Below.refl _ _).alloc (Nat.le_refl _) _)) (by simp) (by simp) ?_; intro v' w' ys hyl ho hg) | (at_builtin; refine wp_appB (.tmp 15) (.tmp 18) rfl rfl w.heap.size _ _ rfl (ho.below ((Below.refl _ _).alloc (Nat.le_refl _) _)) _ 1 1 rfl (fun h => by cases h) (bytes_one w' 0 (by omega)) (by simp; omega) (by have := hg.size; simp at this ⊢; omega) ?_; intro v2 w2 ys2 hyl2 ho2 hg2))
        go_ret
        exact ⟨_, rfl, cut_end ho hg ho2 hg2 (by omega) hyl2⟩
      | some p =>
        go_enter Try.func16, Try.ntmps16
        go_wp2_with (first | (at_builtin; refine wp_appB (.tmp 11) (.tmp 14) rfl rfl w.heap.size _ [] rfl He.out _ _ _ rfl (fun h => by cases h) ((bytes_nil w _).below ((Below.refl _ _).alloc (Nat.le_refl _) _)) (by simp) (by simp) ?_; intro v' w' ys hyl ho hg) | (at_builtin; refine wp_appB (.tmp 15) (.tmp 18) rfl rfl w.heap.size _ _ rfl (ho.below ((Below.refl _ _).alloc (Nat.le_refl _) _)) _ 1 1 rfl (fun h => by cases h) (bytes_one w' 0 (by omega)) (by simp; omega) (by have := hg.size; simp at this ⊢; omega) ?_; intro v2 w2 ys2 hyl2 ho2 hg2))
        go_ret
        exact ⟨_, rfl, cut_end ho hg ho2 hg2 (by omega) hyl2⟩
    · obtain ⟨b, off, rfl, hbb, hcc⟩ := H.out.2 (by omega)
      clear hcc
      by_cases hcap1 : cap = 1
      · subst hcap1
        go_enter Try.func16, Try.ntmps16
        go_wp2_with (first | (at_builtin; refine wp_appB (.tmp 11) (.tmp 14) rfl rfl w.heap.size _ [] rfl He.out _ _ _ rfl (fun h => by cases h) ((bytes_nil w _).below ((Below.refl _ _).alloc (Nat.le_refl _) _)) (by simp) (by simp) ?_; intro v' w' ys hyl ho hg) | (at_builtin; refine wp_appB (.tmp 15) (.tmp 18) rfl rfl w.heap.size _ _ rfl (ho.below ((Below.refl _ _).alloc (Nat.le_refl _) _)) _ 1 1 rfl (fun h => by cases h) (bytes_one w' 1 (by omega)) (by simp; omega) (by have := hg.size; simp at this ⊢; omega) ?_; intro v2 w2 ys2 hyl2 ho2 hg2))
        go_ret
        exact ⟨_, rfl, cut_end ho hg ho2 hg2 (by omega) hyl2⟩
      · go_enter Try.func16, Try.ntmps16
        go_wp2_with (first | (at_builtin; refine wp_appB (.tmp 11) (.tmp 14) rfl rfl w.heap.size _ [] rfl He.out _ _ _ rfl (fun h => by cases h) ((bytes_nil w _).below ((Below.refl _ _).alloc (Nat.le_refl _) _)) (by simp) (by simp) ?_; intro v' w' ys hyl ho hg) | (at_builtin; refine wp_appB (.tmp 15) (.tmp 18) rfl rfl w.heap.size _ _ rfl (ho.below ((Below.refl _ _).alloc (Nat.le_refl _) _)) _ 1 1 rfl (fun h => by cases h) (bytes_one w' 1 (by omega)) (by simp; omega) (by have := hg.size; simp at this ⊢; omega) ?_; intro v2 w2 ys2 hyl2 ho2 hg2))
        go_ret
        exact ⟨_, rfl, cut_end ho hg ho2 hg2 (by omega) hyl2⟩
  · obtain ⟨b, off, rfl, hbb, hcc⟩ := H.out.2 (by omega)
    have hb1 : ∀ o : Nat, o = off + 2 → Bytes w (some ⟨b, o, none⟩) (n - 2) := fun o ho => ⟨by omega, fun h0 => ⟨b, o, rfl, hbb, fun j hj => by
      obtain ⟨x, hx⟩ := hcc (j + 2) (by omega)
      exact ⟨x, by rw [ho, Nat.add_assoc, Nat.add_comm 2 j]; exact hx⟩⟩⟩
    have Hb1 := Lib.hid hb1
    clear hcc hb1
    by_cases hcap1 : cap = 2
    · obtain rfl : n = 2 := by omega
      subst hcap1
      go_enter Try.func16, Try.ntmps16
      go_wp2_with (first | (at_builtin; refine wp_appB (.tmp 11) (.tmp 14) rfl rfl w.heap.size _ [] rfl He.out _ _ _ rfl (fun h => by cases h) ((bytes_nil w _).below ((Below.refl _ _).alloc (Nat.le_refl _) _)) (by simp) (by simp) ?_; intro v' w' ys hyl ho hg) | (at_builtin; refine wp_appB (.tmp 15) (.tmp 18) rfl rfl w.heap.size _ _ rfl (ho.below ((Below.refl _ _).alloc (Nat.le_refl _) _)) _ 1 1 rfl (fun h => by cases h) (bytes_one w' 2 (by omega)) (by simp; omega) (by have := hg.size; simp at this ⊢; omega) ?_; intro v2 w2 ys2 hyl2 ho2 hg2))
      go_ret
      exact ⟨_, rfl, cut_end ho hg ho2 hg2 (by omega) hyl2⟩
    · go_enter Try.func16, Try.ntmps16
      go_wp2_with (first | (at_builtin; refine wp_appB (.tmp 11) (.tmp 14) rfl rfl w.heap.size _ [] rfl He.out _ _ _ rfl (fun h => by cases h) ((Hb1.out _ rfl).below ((Below.refl _ _).alloc (Nat.le_refl _) _)) (by simp) (by simp) ?_; intro v' w' ys hyl ho hg) | (at_builtin; refine wp_appB (.tmp 15) (.tmp 18) rfl rfl w.heap.size _ _ rfl (ho.below ((Below.refl _ _).alloc (Nat.le_refl _) _)) _ 1 1 rfl (fun h => by cases h) (bytes_one w' 2 (by omega)) (by simp; omega) (by have := hg.size; simp at this ⊢; omega) ?_; intro v2 w2 ys2 hyl2 ho2 hg2))
      go_ret
      exact ⟨_, rfl, cut_end ho hg ho2 hg2 (by omega) hyl2⟩
end Go.Proofs.Ytbekfpgpeaoifaa
