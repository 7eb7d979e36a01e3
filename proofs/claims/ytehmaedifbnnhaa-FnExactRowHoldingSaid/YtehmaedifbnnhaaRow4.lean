/- Contracts: the holding of a row, of the program and of the reference. -/
import Derived.Test.YtehmaedifbnnhaaRow3
namespace Go.Proofs.Ytehmaedifbnnhaa
open Go.RowKit

def rhOkB (n u d : Int) (xs : List Int) : Bool := !(n == 0) && rowOkB n u d xs
def rhT (u d : Int) (xs : List Int) : Int := rowV u d xs.tail - rowV u d xs.dropLast
def rhN (n u d : Int) (xs : List Int) : Int := if rhOkB n u d xs then lowN (rhT u d xs) (powI (u + d) n.toNat) else 0
def rhD (n u d : Int) (xs : List Int) : Int := if rhOkB n u d xs then lowD (rhT u d xs) (powI (u + d) n.toNat) else 0
def rhB (n u d : Int) (xs : List Int) : Bool := rhOkB n u d xs && lowB (rhT u d xs) (powI (u + d) n.toNat)
theorem rh_no {n u d : Int} {xs : List Int} (h : rhOkB n u d xs = false) : rhN n u d xs = 0 ∧ rhD n u d xs = 0 ∧ rhB n u d xs = false := by
  unfold rhN rhD rhB; rw [h]; exact ⟨rfl, rfl, rfl⟩
theorem rh_yes {n u d : Int} {xs : List Int} (h : rhOkB n u d xs = true) : rhN n u d xs = lowN (rhT u d xs) (powI (u + d) n.toNat) ∧ rhD n u d xs = lowD (rhT u d xs) (powI (u + d) n.toNat) ∧ rhB n u d xs = lowB (rhT u d xs) (powI (u + d) n.toNat) := by
  unfold rhN rhD rhB; rw [h]; exact ⟨rfl, rfl, rfl⟩
/-- The world has only grown, and some pair still lies at g. -/
def KeptP (w : World) (g : Nat) (w' : World) : Prop := Below w.heap.size w w' ∧ w.heap.size ≤ g ∧ ∃ x y, Pair w' g x y
theorem KeptP.start {w w2 : World} {g : Nat} {x y : Value} (hb : Below w.heap.size w w2) (hg : w.heap.size ≤ g) (h : Pair w2 g x y) : KeptP w g w2.drew := ⟨hb.drew, hg, x, y, h.drew⟩
theorem KeptP.next {w W w3 : World} {g : Nat} (hb : Below W.heap.size W w3) (h : KeptP w g W) : KeptP w g w3 := ⟨h.1.trans (hb.mono h.1.size), h.2.1, by obtain ⟨x, y, hp⟩ := h.2.2; exact ⟨x, y, hp.below hb⟩⟩
theorem Pair.store {w : World} {g : Nat} {x y : Value} (h : Pair w g x y) (x' y' : Value) : Pair ((w.setCell ⟨g, 0, none⟩ x').setCell ⟨g, 1, none⟩ y') g x' y' :=
  ⟨(h.set x' y').1, (h.set x' y').2, by simpa using h.f0, by simpa using h.f1⟩
theorem KeptP.store {w W : World} {g : Nat} (h : KeptP w g W) (x y : Value) : KeptP w g ((W.setCell ⟨g, 0, none⟩ x).setCell ⟨g, 1, none⟩ y) :=
  ⟨(h.1.setCell h.2.1 _).setCell h.2.1 _, h.2.1, x, y, by obtain ⟨x0, y0, hp⟩ := h.2.2; exact hp.store x y⟩
set_option maxRecDepth 100000 in
set_option maxHeartbeats 2000000 in
theorem impl_RowHolding (n u d : Int) (a : Option Addr) (m cap : Nat) (xs : List Int) (w : World) (hm : m ≤ 1048576) (hcap : m ≤ cap ∧ cap ≤ maxLen) (hc : a = none → cap = 0) (h : Ints w a m xs) :
    Calls Try.prog 45 #[.int .i64 n, .int .i64 u, .int .i64 d, .slice a m cap] w fun e w' =>
      e = .returned (.tuple #[.agg #[.int .i64 (rhN n u d xs), .int .i64 (rhD n u d xs)], .bool (rhB n u d xs)]) ∧ Below w.heap.size w w' := by
  have hP := Lib.hid (Pair.new w (.int .i64 0) (.int .i64 0) 22)
  have hb0 : Below w.heap.size w (w.alloc (.cells #[.int .i64 0, .int .i64 0] 22)) := below_new w _
  have hl := Lib.hid h.1
  have H := Lib.hid h
  clear h
  cases hg : rhOkB n u d xs
  · obtain ⟨e1, e2, e3⟩ := rh_no hg
    rw [e1, e2, e3]
    clear e1 e2 e3
    cases hn0 : (n == 0)
    · have hvv : rowOkB n u d xs = false := by rw [rhOkB, hn0] at hg; exact hg
      clear hg
      go_enter Try.func45, Try.ntmps45
      go_wp2_with fail
      generalize (w.alloc (.cells #[.int .i64 0, .int .i64 0] 22)) = w2 at *
      have p3 := hP.out
      have q3 := p3.c0
      have q4 := p3.c1
      have q5 := p3.f0
      have q6 := p3.f1
      have hr := p3.set (.int .i64 0) (.int .i64 0)
      clear p3
      go_wp2_with (go_at_call 89; refine (impl_isRowWith _ _ _ _ _ _ xs _ hm (H.out.below hb0)).mono ?_; rintro e w' ⟨rfl, rfl⟩; rw [hvv])
      exact bodyPost_ret (v := .tuple #[.agg #[.int .i64 0, .int .i64 0], .bool false]) (by simp [results, Try.results45, go_sem, hr.1, hr.2]) rfl ⟨rfl, (hb0.setCell (Nat.le_refl _) _).setCell (Nat.le_refl _) _⟩
    · clear hg
      go_enter Try.func45, Try.ntmps45
      go_wp2_with fail
      exact bodyPost_ret (v := .tuple #[.agg #[.int .i64 0, .int .i64 0], .bool false]) (by simp [results, Try.results45, go_sem]) rfl ⟨rfl, hb0⟩
  · obtain ⟨e1, e2, e3⟩ := rh_yes hg
    rw [e1, e2, e3]
    clear e1 e2 e3
    simp only [rhOkB, Bool.and_eq_true, Bool.not_eq_true'] at hg
    have hn0 := hg.1
    have ht := rowOkB_t hg.2
    have hrb := rowB_t ht.1
    have hA := Lib.hid ht.2.2.2.1
    have hlen := ht.2.2.1
    rw [hl.out] at hlen
    have hpw := pow_row ht.1
    have hn1 : 1 ≤ n := by
      have : ¬ n = 0 := by simpa using hn0
      omega
    have hm1 : 2 ≤ m ∧ m ≤ 5 := by omega
    have hrv1 := rowV_bd (u := u) (d := d) hA.out.tail (by omega) (by omega) (by rw [List.length_tail]; have := hl.out; omega)
    have hrv2 := rowV_bd (u := u) (d := d) (hA.out.dropLast (by omega)) (by omega) (by omega) (by rw [List.length_dropLast]; have := hl.out; omega)
    have hT : rhT u d xs = rowV u d xs.tail - rowV u d xs.dropLast := rfl
    have Hlow : Hid (∀ W : World, Calls Try.prog 61 #[.int .i64 (rhT u d xs), .int .i64 (powI (u + d) n.toNat)] W fun e w' => e = .returned (.tuple #[.agg #[.int .i64 (lowN (rhT u d xs) (powI (u + d) n.toNat)), .int .i64 (lowD (rhT u d xs) (powI (u + d) n.toNat))], .bool (lowB (rhT u d xs) (powI (u + d) n.toNat))]) ∧ Below W.heap.size W w') :=
      Lib.hid fun W => impl_lowest _ _ W (by omega) (by rw [hT]; constructor <;> omega) (by omega)
    obtain ⟨b, off, rfl, hbb, -⟩ := H.out.2 (by omega)
    have hu : (1 ≤ u ∧ u ≤ 9) ∧ (1 ≤ d ∧ d ≤ 9) ∧ (1 ≤ n ∧ n ≤ 4) := by omega
    have HI1 := Lib.hid (H.out.rest (m := m - 1) (by omega))
    have HI2 := Lib.hid (H.out.init (m := n.toNat) (by omega))
    have H1 : Hid (∀ (q c' : Nat) (W : World), q = m - 1 → Ints W (some ⟨b, off + 1, none⟩) q xs.tail → Calls Try.prog 90 #[.int .i64 u, .int .i64 d, .slice (some ⟨b, off + 1, none⟩) q c'] W fun e w' => e = .returned (.int .i64 (rowV u d xs.tail)) ∧ Below W.heap.size W w') :=
      Lib.hid fun q c' W hq hi => impl_rowValue u d _ q c' _ W hu.1 hu.2.1 (by omega) (fun h => by cases h) hA.out.tail hi
    have H2 : Hid (∀ (q c' : Nat) (W : World), q = n.toNat → Ints W (some ⟨b, off, none⟩) q xs.dropLast → Calls Try.prog 90 #[.int .i64 u, .int .i64 d, .slice (some ⟨b, off, none⟩) q c'] W fun e w' => e = .returned (.int .i64 (rowV u d xs.dropLast)) ∧ Below W.heap.size W w') :=
      Lib.hid fun q c' W hq hi => impl_rowValue u d _ q c' _ W hu.1 hu.2.1 (by omega) (fun h => by cases h) (hA.out.dropLast (by omega)) hi
    have Hlen := Lib.hid hlen
    have hok := hg.2
    clear ht hlen hpw hg
    have HT := Lib.hid hT
    clear hT
    generalize lowN (rhT u d xs) (powI (u + d) n.toNat) = x at *
    generalize lowD (rhT u d xs) (powI (u + d) n.toNat) = y at *
    generalize lowB (rhT u d xs) (powI (u + d) n.toNat) = z at *
    generalize rowV u d xs.tail = v1 at *
    generalize rowV u d xs.dropLast = v2 at *
    have k1 : IntKind.i64.wrap (v1 - v2) = v1 - v2 := IntWalk.i64_in _ (by omega)
    have k2 : IntKind.i64.wrap (u + d) = u + d := IntWalk.i64_in _ (by omega)
    have c1 : ¬ cap = 1 := by omega
    have c0 : ¬ cap = 0 := by omega
    have c2 : (1 : Int) ≤ m := by omega
    have c3 : (0 : Int) ≤ n := by omega
    have c4 : n ≤ (cap : Int) := by have := Hlen.out; omega
    go_enter Try.func45, Try.ntmps45
    go_wp2_with fail
    generalize (w.alloc (.cells #[.int .i64 0, .int .i64 0] 22)) = w2 at *
    go_wp2_with (go_at_call 89; refine (impl_isRowWith _ _ _ _ _ _ xs _ hm (H.out.below hb0)).mono ?_; rintro e w' ⟨rfl, rfl⟩; rw [hok])
    go_region_held3 (fun w' => KeptP w w.heap.size w')
      (first | assumption | exact KeptP.start hb0 (Nat.le_refl _) hP.out | exact KeptP.store (by assumption) _ _ | exact KeptP.next hb3 (by assumption))
      (first
        | (go_at_call 90; (with_reducible refine (H1.out _ _ _ (by omega) ?_).mono ?_); (exact HI1.out.below (by assumption : KeptP _ _ _).1); rintro e w3 ⟨rfl, hb3⟩)
        | (go_at_call 90; refine (H2.out _ _ _ (by omega) (HI2.out.below (by assumption : KeptP _ _ _).1)).mono ?_; rintro e w3 ⟨rfl, hb3⟩)
        | (go_at_call 91; refine (impl_power _ _ _ (by omega) (by omega)).mono ?_; rintro e w' ⟨rfl, rfl⟩)
        | (go_at_call 61; rw [← HT.out]; refine (Hlow.out _).mono ?_; rintro e w3 ⟨rfl, hb3⟩; have hk := KeptP.next hb3 (by assumption); have hbl := hk.1; obtain ⟨x0, y0, hp⟩ := hk.2.2; have q3 := hp.c0; have q4 := hp.c1; have q5 := hp.f0; have q6 := hp.f1; have hr := hp.set (.int .i64 x) (.int .i64 y)))
    go_wp2_with fail
    exact bodyPost_ret (v := .tuple #[.agg #[.int .i64 x, .int .i64 y], .bool z]) (by simp [results, Try.results45, go_sem, hr.1, hr.2]) rfl ⟨rfl, (hbl.setCell (Nat.le_refl _) _).setCell (Nat.le_refl _) _⟩
end Go.Proofs.Ytehmaedifbnnhaa
