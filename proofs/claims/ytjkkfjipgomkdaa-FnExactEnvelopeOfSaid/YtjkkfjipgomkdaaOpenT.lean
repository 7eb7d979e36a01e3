/- An argument that is a tree, opened: its two slices read as lists. -/
import Derived.Test.YtjkkfjipgomkdaaOpenS
import Derived.Test.YtjkkfjipgomkdaaTree1
import Derived.Lib.SmallJoins
namespace Go.Proofs.Ytjkkfjipgomkdaa
open Go.ChangeShapes Go.WideShapes Go.ChangeAt Go.RowKit

/-- As Tre, with no bound but Go's own. -/
structure TreA (w : World) (aP : Option Addr) (nP cP : Nat) (aW : Option Addr) (nW cW : Nat) (ps ws : List Int) : Prop where
  p : Ints w aP nP ps
  w : Ints w aW nW ws
  pn : nP ≤ maxLen
  wn : nW ≤ maxLen
  pc : nP ≤ cP ∧ cP ≤ maxLen ∧ (aP = none → cP = 0)
  wc : nW ≤ cW ∧ cW ≤ maxLen ∧ (aW = none → cW = 0)
theorem TreA.tre {w : World} {aP : Option Addr} {nP cP : Nat} {aW : Option Addr} {nW cW : Nat} {ps ws : List Int} (h : TreA w aP nP cP aW nW cW ps ws) (h1 : nP ≤ 1048576) (h2 : nW ≤ 1048576) : Tre w aP nP cP aW nW cW ps ws :=
  ⟨h.p, h.w, h1, h2, h.pc.2.2, h.wc.2.2⟩
set_option maxRecDepth 100000 in
theorem open_tree {H : Type} {enc : TypeId × Value → H} {w : World} {base : Nat} {v : Value} {d : DataW H} {p : List MemPlace} (hv : Value.okWide Try.prog w .any base 24 v) (h : DataW.Trod enc Try.prog w 0 (fun _ => true) true 24 v d p) :
    ∃ (aP : Option Addr) (nP cP : Nat) (aW : Option Addr) (nW cW : Nat) (ps ws : List Int), v = .agg #[.slice aP nP cP, .slice aW nW cW] ∧ TreA w aP nP cP aW nW cW ps ws := by
  obtain ⟨v0, v1, y0, y1, n, rfl, -, -, h0, h1⟩ := Joins.open_agg2 Try.underlying24 (by kernel_rfl) (by kernel_rfl) hv h
  obtain ⟨a0, n0, c0, xs0, rfl, hm0, hc0, hs0⟩ := open_intS_cell h0
  obtain ⟨a1, n1, c1, xs1, rfl, hm1, hc1, hs1⟩ := open_intS_cell h1
  exact ⟨a0, n0, c0, a1, n1, c1, xs0, xs1, rfl, hs0, hs1, hm0, hm1, hc0, hc1⟩
end Go.Proofs.Ytjkkfjipgomkdaa
