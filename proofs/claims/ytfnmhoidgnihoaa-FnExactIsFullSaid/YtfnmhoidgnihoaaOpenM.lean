/- An argument that is a market, opened: its three slices read as lists. -/
import Derived.Test.YtfnmhoidgnihoaaOpenT
import Derived.Test.YtfnmhoidgnihoaaMkt
namespace Go.Proofs.Ytfnmhoidgnihoaa
open Go.ChangeShapes Go.WideShapes Go.ChangeAt Go.RowKit

/-- As Mkt, with no bound but Go's own. -/
structure MktA (w : World) (aP : Option Addr) (nP cP : Nat) (aW : Option Addr) (nW cW : Nat) (aL : Option Addr) (nL cL : Nat) (ps ws l : List Int) : Prop where
  t : TreA w aP nP cP aW nW cW ps ws
  l : Ints w aL nL l
  ln : nL ≤ maxLen
  lc : nL ≤ cL ∧ cL ≤ maxLen ∧ (aL = none → cL = 0)
theorem MktA.mkt {w : World} {aP : Option Addr} {nP cP : Nat} {aW : Option Addr} {nW cW : Nat} {aL : Option Addr} {nL cL : Nat} {ps ws l : List Int} (h : MktA w aP nP cP aW nW cW aL nL cL ps ws l) (h1 : nP ≤ 1048576) (h2 : nW ≤ 1048576) (h3 : nL ≤ 1048576) : Mkt w aP nP cP aW nW cW aL nL cL ps ws l :=
  ⟨h.t.tre h1 h2, h.l, h3, h.lc.2.2⟩
set_option maxRecDepth 100000 in
theorem open_market {H : Type} {enc : TypeId × Value → H} {w : World} {base : Nat} {v : Value} {d : DataW H} {p : List MemPlace} (hv : Value.okWide Try.prog w .any base 26 v) (h : DataW.Trod enc Try.prog w 0 (fun _ => true) true 26 v d p) :
    ∃ (aP : Option Addr) (nP cP : Nat) (aW : Option Addr) (nW cW : Nat) (aL : Option Addr) (nL cL : Nat) (ps ws l : List Int), v = .agg #[.slice aP nP cP, .slice aW nW cW, .slice aL nL cL] ∧ MktA w aP nP cP aW nW cW aL nL cL ps ws l := by
  have hC : Try.prog.cellsOf 26 = 3 := by kernel_rfl
  have hC2 : Try.prog.cellsOf 24 = 2 := by kernel_rfl
  have hC1 : Try.prog.cellsOf 22 = 1 := by kernel_rfl
  obtain ⟨cs, rfl, hsz⟩ := okWide_struct Try.underlying26 hv
  obtain ⟨c0, c1, c2, rfl⟩ := Joins.array3 (hsz.trans hC)
  obtain ⟨fuel, hf⟩ := h
  obtain ⟨y0, y1, n, hx, _, h0, h1⟩ := trod_struct2 Try.underlying26 hf
  have h0' : DataW.trod enc Try.prog w 0 (fun _ => true) true n 24 [c0, c1] = some y0 := by simpa [Value.cells, hC2] using h0
  have h2' : DataW.trod enc Try.prog w 0 (fun _ => true) true n 22 [c2] = some y1 := by simpa [Value.cells, hC1] using h1
  obtain ⟨z0, z1, m, _, _, k0, k1⟩ := trod_struct2 Try.underlying24 h0'
  have k0' : DataW.trod enc Try.prog w 0 (fun _ => true) true m 22 [c0] = some z0 := by simpa [hC1] using k0
  have k1' : DataW.trod enc Try.prog w 0 (fun _ => true) true m 22 [c1] = some z1 := by simpa [hC1] using k1
  obtain ⟨a0, n0, d0, xs0, rfl, hm0, hc0, hs0⟩ := open_intS_cell k0'
  obtain ⟨a1, n1, d1, xs1, rfl, hm1, hc1, hs1⟩ := open_intS_cell k1'
  obtain ⟨a2, n2, d2, xs2, rfl, hm2, hc2, hs2⟩ := open_intS_cell h2'
  exact ⟨a0, n0, d0, a1, n1, d1, a2, n2, d2, xs0, xs1, xs2, rfl, ⟨hs0, hs1, hm0, hm1, hc0, hc1⟩, hs2, hm2, hc2⟩
end Go.Proofs.Ytfnmhoidgnihoaa
