/- What a region that draws its order keeps: the world has only grown, some pairs lie as they did. -/
import Derived.Test.YtcoakeedgngogaaTree1
import Derived.Test.YtcoakeedgngogaaB3
namespace Go.Proofs.Ytcoakeedgngogaa
open Go.RowKit

/-- The world has only grown. -/
def KeepR (u w : World) : Prop := Below u.heap.size u w
theorem KeepR.start (u : World) : KeepR u u.drew := (Below.refl _ _).drew
theorem KeepR.next {u w w' : World} (hb : Below w.heap.size w w') (h : KeepR u w) : KeepR u w' := Below.trans h (hb.mono (Below.size h))
theorem keep4 {u w : World} {g g' : Nat} {x y x' y' : Value} (h : KeepR u w) (hp : Pair u g x y) (hp' : Pair u g' x' y') :
    KeepR u w ∧ (w.cell? ⟨g, 0, none⟩ = some x ∧ w.cell? ⟨g, 1, none⟩ = some y) ∧ w.cell? ⟨g', 0, none⟩ = some x' ∧ w.cell? ⟨g', 1, none⟩ = some y' :=
  ⟨h, ⟨(hp.below h).c0, (hp.below h).c1⟩, (hp'.below h).c0, (hp'.below h).c1⟩
theorem KeepR.alloc {u w : World} (h : KeepR u w) (o : Obj) : KeepR u (w.alloc o) := Below.alloc h (Below.size h) o
theorem KeepR.alloc0 (u : World) (o : Obj) : KeepR u (u.alloc o).drew := (below_new u o).drew
theorem KeepR.drew {u w : World} (h : KeepR u w) : KeepR u w.drew := Below.drew h
theorem keep2 {u w : World} {g : Nat} {x y : Value} (h : KeepR u w) (hp : Pair u g x y) : KeepR u w ∧ w.cell? ⟨g, 0, none⟩ = some x ∧ w.cell? ⟨g, 1, none⟩ = some y :=
  ⟨h, (hp.below h).c0, (hp.below h).c1⟩
theorem KeepR.cell {u w : World} {p : Addr} {v : Value} (h : KeepR u w) (hc : u.cell? p = some v) : w.cell? p = some v := (Below.cell h (World.block_lt_of_cell? u p hc)).trans hc
theorem keepC1 {u w : World} {p0 : Addr} {v0 : Value} (h : KeepR u w) (h0 : u.cell? p0 = some v0) : KeepR u w ∧ w.cell? p0 = some v0 :=
  ⟨h, h.cell h0⟩
theorem keepC2 {u w : World} {p0 p1 : Addr} {v0 v1 : Value} (h : KeepR u w) (h0 : u.cell? p0 = some v0) (h1 : u.cell? p1 = some v1) : KeepR u w ∧ w.cell? p0 = some v0 ∧ w.cell? p1 = some v1 :=
  ⟨h, h.cell h0, h.cell h1⟩
theorem keepC3 {u w : World} {p0 p1 p2 : Addr} {v0 v1 v2 : Value} (h : KeepR u w) (h0 : u.cell? p0 = some v0) (h1 : u.cell? p1 = some v1) (h2 : u.cell? p2 = some v2) : KeepR u w ∧ w.cell? p0 = some v0 ∧ w.cell? p1 = some v1 ∧ w.cell? p2 = some v2 :=
  ⟨h, h.cell h0, h.cell h1, h.cell h2⟩
theorem keepC4 {u w : World} {p0 p1 p2 p3 : Addr} {v0 v1 v2 v3 : Value} (h : KeepR u w) (h0 : u.cell? p0 = some v0) (h1 : u.cell? p1 = some v1) (h2 : u.cell? p2 = some v2) (h3 : u.cell? p3 = some v3) : KeepR u w ∧ w.cell? p0 = some v0 ∧ w.cell? p1 = some v1 ∧ w.cell? p2 = some v2 ∧ w.cell? p3 = some v3 :=
  ⟨h, h.cell h0, h.cell h1, h.cell h2, h.cell h3⟩
theorem keepC5 {u w : World} {p0 p1 p2 p3 p4 : Addr} {v0 v1 v2 v3 v4 : Value} (h : KeepR u w) (h0 : u.cell? p0 = some v0) (h1 : u.cell? p1 = some v1) (h2 : u.cell? p2 = some v2) (h3 : u.cell? p3 = some v3) (h4 : u.cell? p4 = some v4) : KeepR u w ∧ w.cell? p0 = some v0 ∧ w.cell? p1 = some v1 ∧ w.cell? p2 = some v2 ∧ w.cell? p3 = some v3 ∧ w.cell? p4 = some v4 :=
  ⟨h, h.cell h0, h.cell h1, h.cell h2, h.cell h3, h.cell h4⟩
theorem keepC6 {u w : World} {p0 p1 p2 p3 p4 p5 : Addr} {v0 v1 v2 v3 v4 v5 : Value} (h : KeepR u w) (h0 : u.cell? p0 = some v0) (h1 : u.cell? p1 = some v1) (h2 : u.cell? p2 = some v2) (h3 : u.cell? p3 = some v3) (h4 : u.cell? p4 = some v4) (h5 : u.cell? p5 = some v5) : KeepR u w ∧ w.cell? p0 = some v0 ∧ w.cell? p1 = some v1 ∧ w.cell? p2 = some v2 ∧ w.cell? p3 = some v3 ∧ w.cell? p4 = some v4 ∧ w.cell? p5 = some v5 :=
  ⟨h, h.cell h0, h.cell h1, h.cell h2, h.cell h3, h.cell h4, h.cell h5⟩
theorem keepC7 {u w : World} {p0 p1 p2 p3 p4 p5 p6 : Addr} {v0 v1 v2 v3 v4 v5 v6 : Value} (h : KeepR u w) (h0 : u.cell? p0 = some v0) (h1 : u.cell? p1 = some v1) (h2 : u.cell? p2 = some v2) (h3 : u.cell? p3 = some v3) (h4 : u.cell? p4 = some v4) (h5 : u.cell? p5 = some v5) (h6 : u.cell? p6 = some v6) : KeepR u w ∧ w.cell? p0 = some v0 ∧ w.cell? p1 = some v1 ∧ w.cell? p2 = some v2 ∧ w.cell? p3 = some v3 ∧ w.cell? p4 = some v4 ∧ w.cell? p5 = some v5 ∧ w.cell? p6 = some v6 :=
  ⟨h, h.cell h0, h.cell h1, h.cell h2, h.cell h3, h.cell h4, h.cell h5, h.cell h6⟩
theorem keepC8 {u w : World} {p0 p1 p2 p3 p4 p5 p6 p7 : Addr} {v0 v1 v2 v3 v4 v5 v6 v7 : Value} (h : KeepR u w) (h0 : u.cell? p0 = some v0) (h1 : u.cell? p1 = some v1) (h2 : u.cell? p2 = some v2) (h3 : u.cell? p3 = some v3) (h4 : u.cell? p4 = some v4) (h5 : u.cell? p5 = some v5) (h6 : u.cell? p6 = some v6) (h7 : u.cell? p7 = some v7) : KeepR u w ∧ w.cell? p0 = some v0 ∧ w.cell? p1 = some v1 ∧ w.cell? p2 = some v2 ∧ w.cell? p3 = some v3 ∧ w.cell? p4 = some v4 ∧ w.cell? p5 = some v5 ∧ w.cell? p6 = some v6 ∧ w.cell? p7 = some v7 :=
  ⟨h, h.cell h0, h.cell h1, h.cell h2, h.cell h3, h.cell h4, h.cell h5, h.cell h6, h.cell h7⟩
theorem keepC9 {u w : World} {p0 p1 p2 p3 p4 p5 p6 p7 p8 : Addr} {v0 v1 v2 v3 v4 v5 v6 v7 v8 : Value} (h : KeepR u w) (h0 : u.cell? p0 = some v0) (h1 : u.cell? p1 = some v1) (h2 : u.cell? p2 = some v2) (h3 : u.cell? p3 = some v3) (h4 : u.cell? p4 = some v4) (h5 : u.cell? p5 = some v5) (h6 : u.cell? p6 = some v6) (h7 : u.cell? p7 = some v7) (h8 : u.cell? p8 = some v8) : KeepR u w ∧ w.cell? p0 = some v0 ∧ w.cell? p1 = some v1 ∧ w.cell? p2 = some v2 ∧ w.cell? p3 = some v3 ∧ w.cell? p4 = some v4 ∧ w.cell? p5 = some v5 ∧ w.cell? p6 = some v6 ∧ w.cell? p7 = some v7 ∧ w.cell? p8 = some v8 :=
  ⟨h, h.cell h0, h.cell h1, h.cell h2, h.cell h3, h.cell h4, h.cell h5, h.cell h6, h.cell h7, h.cell h8⟩
end Go.Proofs.Ytcoakeedgngogaa
