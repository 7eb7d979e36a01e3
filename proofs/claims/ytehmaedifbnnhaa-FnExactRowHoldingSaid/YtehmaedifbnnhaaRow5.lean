/- Contracts: the holding of a row, of the reference. -/
import Derived.Test.YtehmaedifbnnhaaRow4
namespace Go.Proofs.Ytehmaedifbnnhaa
open Go.RowKit

theorem drewN_below {w w' : World} {n : Nat} (h : w' = w.drewN n) : Below w.heap.size w w' := by rw [h]; exact below_drewN (Below.refl _ _) _
set_option maxRecDepth 100000 in
set_option maxHeartbeats 2000000 in
theorem spec_RowHolding (n u d : Int) (a : Option Addr) (m cap : Nat) (xs : List Int) (w : World) (hm : m ≤ 1048576) (hcap : m ≤ cap ∧ cap ≤ maxLen) (hc : a = none → cap = 0) (h : Ints w a m xs) :
    Calls Try.prog 43 #[.int .i64 n, .int .i64 u, .int .i64 d, .slice a m cap] w fun e w' =>
      e = .returned (.tuple #[.agg #[.int .i64 (rhN n u d xs), .int .i64 (rhD n u d xs)], .bool (rhB n u d xs)]) ∧ Below w.heap.size w w' := by
  have hP := Lib.hid (Pair.new w (.int .i64 0) (.int .i64 0) 22)
  have hb0 : Below w.heap.size w (w.alloc (.cells #[.int .i64 0, .int .i64 0] 22)) := below_new w _
  have hl := Lib.hid h.1
  have H := Lib.hid h
  clear h
  cases hg : rhOkB n u d xs
  · obtain ⟨e1, e2, e3⟩ := rh_no hg
    rw [e1, e2, e3]
    clear e1 e2 e3
    cases hr1 : rowB n u d
    · clear hg
      go_enter Try.func43, Try.ntmps43
      go_wp2_with fail
      generalize (w.alloc (.cells #[.int .i64 0, .int .i64 0] 22)) = w2 at *
      have p3 := hP.out
      have q3 := p3.c0
      have q4 := p3.c1
      have q5 := p3.f0
      have q6 := p3.f1
      have hr := p3.set (.int .i64 0) (.int .i64 0)
      clear p3
      go_wp2_with (go_at_call 85; refine (spec_l6Row _ _ _ _).mono ?_; rintro e w' ⟨rfl, rfl⟩; rw [hr1])
      exact bodyPost_ret (v := .tuple #[.agg #[.int .i64 0, .int .i64 0], .bool false]) (by simp [results, Try.results43, go_sem, hr.1, hr.2]) rfl ⟨rfl, (hb0.setCell (Nat.le_refl _) _).setCell (Nat.le_refl _) _⟩
    · have hrb := rowB_t hr1
      have hnb : 0 ≤ n ∧ n ≤ 4 := hrb.1
      clear hrb
      cases hn0 : (n == 0)
      · have hvv : valsB xs (n + 1) = false := by rw [rhOkB, hn0, rowOkB, hr1] at hg; exact hg
        clear hg
        go_enter Try.func43, Try.ntmps43
        go_wp2_with fail
        generalize (w.alloc (.cells #[.int .i64 0, .int .i64 0] 22)) = w2 at *
        have p3 := hP.out
        have q3 := p3.c0
        have q4 := p3.c1
        have q5 := p3.f0
        have q6 := p3.f1
        have hr := p3.set (.int .i64 0) (.int .i64 0)
        clear p3
        go_wp2_with (first | (go_at_call 85; refine (spec_l6Row _ _ _ _).mono ?_; rintro e w' ⟨rfl, rfl⟩; rw [hr1]) | (go_at_call 86; refine (spec_l6Values _ _ _ _ xs _ (by omega) (H.out.below hb0)).mono ?_; rintro e w' ⟨rfl, rfl⟩; rw [hvv]))
        exact bodyPost_ret (v := .tuple #[.agg #[.int .i64 0, .int .i64 0], .bool false]) (by simp [results, Try.results43, go_sem, hr.1, hr.2]) rfl ⟨rfl, (hb0.setCell (Nat.le_refl _) _).setCell (Nat.le_refl _) _⟩
      · clear hg
        go_enter Try.func43, Try.ntmps43
        go_wp2_with fail
        generalize (w.alloc (.cells #[.int .i64 0, .int .i64 0] 22)) = w2 at *
        have p3 := hP.out
        have q3 := p3.c0
        have q4 := p3.c1
        have q5 := p3.f0
        have q6 := p3.f1
        have hr := p3.set (.int .i64 0) (.int .i64 0)
        clear p3
        go_wp2_with (go_at_call 85; refine (spec_l6Row _ _ _ _).mono ?_; rintro e w' ⟨rfl, rfl⟩; rw [hr1])
        exact bodyPost_ret (v := .tuple #[.agg #[.int .i64 0, .int .i64 0], .bool false]) (by simp [results, Try.results43, go_sem, hr.1, hr.2]) rfl ⟨rfl, (hb0.setCell (Nat.le_refl _) _).setCell (Nat.le_refl _) _⟩
  · obtain ⟨e1, e2, e3⟩ := rh_yes hg
    rw [e1, e2, e3]
    clear e1 e2 e3
    simp only [rhOkB, Bool.and_eq_true, Bool.not_eq_true'] at hg
    have hn0 := hg.1
    have ht := rowOkB_t hg.2
    have hrb := rowB_t ht.1
    have hA := Lib.hid ht.2.2.2.1
    have hlen := ht.2.2.1
    rw [hl.out] at hlen
    have hpw := pow_row ht.1
    have hn1 : 1 ≤ n := by
      have : ¬ n = 0 := by simpa using hn0
      omega
    have hm1 : 2 ≤ m ∧ m ≤ 5 := by omega
    have hrv1 := rowV_bd (u := u) (d := d) hA.out.tail (by omega) (by omega) (by rw [List.length_tail]; have := hl.out; omega)
    have hrv2 := rowV_bd (u := u) (d := d) (hA.out.dropLast (by omega)) (by omega) (by omega) (by rw [List.length_dropLast]; have := hl.out; omega)
    have hT : rhT u d xs = rowV u d xs.tail - rowV u d xs.dropLast := rfl
    obtain ⟨k1, k2, k3⟩ := kept_low (a := rhT u d xs) (b := powI (u + d) n.toNat) (by omega)
    rw [← k1, ← k2, ← k3]
    clear k1 k2 k3
    have Hcut : Hid (∀ W : World, Calls Try.prog 63 #[.int .i64 (rhT u d xs), .int .i64 (powI (u + d) n.toNat)] W fun e w' => e = .returned (.agg #[.int .i64 (nm (rhT u d xs) (powI (u + d) n.toNat)), .int .i64 (dn (rhT u d xs) (powI (u + d) n.toNat))]) ∧ Below W.heap.size W w') :=
      Lib.hid fun W => spec_l2Cut _ _ W (by rw [hT]; constructor <;> omega) (by omega)
    generalize nm (rhT u d xs) (powI (u + d) n.toNat) = p at *
    generalize dn (rhT u d xs) (powI (u + d) n.toNat) = q at *
    obtain ⟨x, hx⟩ : ∃ x, x = if fracB p q then p else 0 := ⟨_, rfl⟩
    obtain ⟨y, hy⟩ : ∃ y, y = if fracB p q then q else 0 := ⟨_, rfl⟩
    have Hkept : Hid (∀ W : World, Calls Try.prog 57 #[.agg #[.int .i64 p, .int .i64 q]] W fun e w' => e = .returned (.tuple #[.agg #[.int .i64 x, .int .i64 y], .bool (fracB p q)]) ∧ Below W.heap.size W w') :=
      Lib.hid fun W => by rw [hx, hy]; exact spec_l2Kept p q W
    rw [← hx, ← hy]
    generalize fracB p q = z at *
    clear hx hy
    obtain ⟨b, off, rfl, hbb, -⟩ := H.out.2 (by omega)
    have hu : (1 ≤ u ∧ u ≤ 9) ∧ (1 ≤ d ∧ d ≤ 9) ∧ (1 ≤ n ∧ n ≤ 4) := by omega
    have HI1 := Lib.hid (H.out.rest (m := m - 1) (by omega))
    have HI2 := Lib.hid (H.out.init (m := n.toNat) (by omega))
    have hvv := ht.2.1
    have hr1 := ht.1
    have hpt1 := rowV_part u d (m - 2) xs.tail (by rw [List.length_tail]; have := hl.out; omega)
    have hpt2 := rowV_part u d (m - 2) xs.dropLast (by rw [List.length_dropLast]; have := hl.out; omega)
    have H1 : Hid (∀ (q c' : Nat) (W : World), q = m - 1 → q ≤ c' → c' ≤ maxLen → Ints W (some ⟨b, off + 1, none⟩) q xs.tail → Calls Try.prog 87 #[.int .i64 u, .int .i64 d, .slice (some ⟨b, off + 1, none⟩) q c'] W fun e w' => e = .returned (.int .i64 (rowV u d xs.tail)) ∧ ∃ n, w' = W.drewN n) :=
      Lib.hid fun q c' W hq hc1 hc2 hi => by rw [hpt1]; exact spec_l6Value_q u d hu.1 hu.2.1 (m - 2) (by omega) _ q c' _ W (by omega) hc1 hc2 hA.out.tail hi
    have H2 : Hid (∀ (q c' : Nat) (W : World), q = n.toNat → q ≤ c' → c' ≤ maxLen → Ints W (some ⟨b, off, none⟩) q xs.dropLast → Calls Try.prog 87 #[.int .i64 u, .int .i64 d, .slice (some ⟨b, off, none⟩) q c'] W fun e w' => e = .returned (.int .i64 (rowV u d xs.dropLast)) ∧ ∃ n, w' = W.drewN n) :=
      Lib.hid fun q c' W hq hc1 hc2 hi => by rw [hpt2]; exact spec_l6Value_q u d hu.1 hu.2.1 (m - 2) (by omega) _ q c' _ W (by omega) hc1 hc2 (hA.out.dropLast (by omega)) hi
    clear hpt1 hpt2
    have Hlen := Lib.hid hlen
    have hok := hg.2
    clear ht hlen hpw hg
    have HT := Lib.hid hT
    clear hT
    generalize rowV u d xs.tail = v1 at *
    generalize rowV u d xs.dropLast = v2 at *
    have k1 : IntKind.i64.wrap (v1 - v2) = v1 - v2 := IntWalk.i64_in _ (by omega)
    have k2 : IntKind.i64.wrap (u + d) = u + d := IntWalk.i64_in _ (by omega)
    have c1 : ¬ cap = 1 := by omega
    have c0 : ¬ cap = 0 := by omega
    have c2 : (1 : Int) ≤ m := by omega
    have c3 : (0 : Int) ≤ n := by omega
    have c4 : n ≤ (cap : Int) := by have := Hlen.out; omega
    go_enter Try.func43, Try.ntmps43
    go_wp2_with fail
    generalize (w.alloc (.cells #[.int .i64 0, .int .i64 0] 22)) = w2 at *
    go_wp2_with (first | (go_at_call 85; refine (spec_l6Row _ _ _ _).mono ?_; rintro e w' ⟨rfl, rfl⟩; rw [hr1]) | (go_at_call 86; refine (spec_l6Values _ _ _ _ xs _ (by omega) (H.out.below hb0)).mono ?_; rintro e w' ⟨rfl, rfl⟩; rw [hvv]))
    go_region_held3 (fun w' => KeptP w w.heap.size w')
      (first | assumption | exact KeptP.start hb0 (Nat.le_refl _) hP.out | exact KeptP.store (by assumption) _ _ | exact KeptP.next hb3 (by assumption))
      (first
        | (go_at_call 87; (with_reducible refine (H1.out _ _ _ (by omega) (by omega) (by omega) ?_).mono ?_); (exact HI1.out.below (by assumption : KeptP _ _ _).1); rintro e w3 ⟨rfl, n3, hn3⟩; have hb3 := drewN_below hn3; clear hn3)
        | (go_at_call 87; refine (H2.out _ _ _ (by omega) (by omega) (by omega) (HI2.out.below (by assumption : KeptP _ _ _).1)).mono ?_; rintro e w3 ⟨rfl, n3, hn3⟩; have hb3 := drewN_below hn3; clear hn3)
        | (go_at_call 88; refine (spec_l6Power _ _ _ (by omega) (by omega)).mono ?_; rintro e w' ⟨rfl, rfl⟩)
        | (go_at_call 63; rw [← HT.out]; refine (Hcut.out _).mono ?_; rintro e w3 ⟨rfl, hb3⟩)
        | (go_at_call 57; refine (Hkept.out _).mono ?_; rintro e w3 ⟨rfl, hb3⟩; have hk := KeptP.next hb3 (by assumption); have hbl := hk.1; obtain ⟨x0, y0, hp⟩ := hk.2.2; have q3 := hp.c0; have q4 := hp.c1; have q5 := hp.f0; have q6 := hp.f1; have hr := hp.set (.int .i64 x) (.int .i64 y)))
    go_wp2_with fail
    exact bodyPost_ret (v := .tuple #[.agg #[.int .i64 x, .int .i64 y], .bool z]) (by simp [results, Try.results43, go_sem, hr.1, hr.2]) rfl ⟨rfl, (hbl.setCell (Nat.le_refl _) _).setCell (Nat.le_refl _) _⟩
end Go.Proofs.Ytehmaedifbnnhaa
