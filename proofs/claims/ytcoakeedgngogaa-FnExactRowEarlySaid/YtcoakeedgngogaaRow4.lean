/- Contracts: the holding of a row, of the program and of the reference. -/
import Derived.Test.YtcoakeedgngogaaRow3
namespace Go.Proofs.Ytcoakeedgngogaa
open Go.RowKit

def rhOkB (n u d : Int) (xs : List Int) : Bool := !(n == 0) && rowOkB n u d xs
def rhT (u d : Int) (xs : List Int) : Int := rowV u d xs.tail - rowV u d xs.dropLast
def rhN (n u d : Int) (xs : List Int) : Int := if rhOkB n u d xs then lowN (rhT u d xs) (powI (u + d) n.toNat) else 0
def rhD (n u d : Int) (xs : List Int) : Int := if rhOkB n u d xs then lowD (rhT u d xs) (powI (u + d) n.toNat) else 0
def rhB (n u d : Int) (xs : List Int) : Bool := rhOkB n u d xs && lowB (rhT u d xs) (powI (u + d) n.toNat)
theorem rh_no {n u d : Int} {xs : List Int} (h : rhOkB n u d xs = false) : rhN n u d xs = 0 ∧ rhD n u d xs = 0 ∧ rhB n u d xs = false := by
  unfold rhN rhD rhB; rw [h]; exact ⟨rfl, rfl, rfl⟩
theorem rh_yes {n u d : Int} {xs : List Int} (h : rhOkB n u d xs = true) : rhN n u d xs = lowN (rhT u d xs) (powI (u + d) n.toNat) ∧ rhD n u d xs = lowD (rhT u d xs) (powI (u + d) n.toNat) ∧ rhB n u d xs = lowB (rhT u d xs) (powI (u + d) n.toNat) := by
  unfold rhN rhD rhB; rw [h]; exact ⟨rfl, rfl, rfl⟩
/-- The world has only grown, and some pair still lies at g. -/
def KeptP (w : World) (g : Nat) (w' : World) : Prop := Below w.heap.size w w' ∧ w.heap.size ≤ g ∧ ∃ x y, Pair w' g x y
theorem KeptP.start {w w2 : World} {g : Nat} {x y : Value} (hb : Below w.heap.size w w2) (hg : w.heap.size ≤ g) (h : Pair w2 g x y) : KeptP w g w2.drew := ⟨hb.drew, hg, x, y, h.drew⟩
theorem KeptP.next {w W w3 : World} {g : Nat} (hb : Below W.heap.size W w3) (h : KeptP w g W) : KeptP w g w3 := ⟨h.1.trans (hb.mono h.1.size), h.2.1, by obtain ⟨x, y, hp⟩ := h.2.2; exact ⟨x, y, hp.below hb⟩⟩
theorem Pair.store {w : World} {g : Nat} {x y : Value} (h : Pair w g x y) (x' y' : Value) : Pair ((w.setCell ⟨g, 0, none⟩ x').setCell ⟨g, 1, none⟩ y') g x' y' :=
  ⟨(h.set x' y').1, (h.set x' y').2, by simpa using h.f0, by simpa using h.f1⟩
theorem KeptP.store {w W : World} {g : Nat} (h : KeptP w g W) (x y : Value) : KeptP w g ((W.setCell ⟨g, 0, none⟩ x).setCell ⟨g, 1, none⟩ y) :=
  ⟨(h.1.setCell h.2.1 _).setCell h.2.1 _, h.2.1, x, y, by obtain ⟨x0, y0, hp⟩ := h.2.2; exact hp.store x y⟩
end Go.Proofs.Ytcoakeedgngogaa
