/- Contracts: the best rules, by the program. -/
import Derived.Test.YtjkkfjipgomkdaaFirsts
import Derived.Test.YtjkkfjipgomkdaaLeast
import Derived.Test.YtjkkfjipgomkdaaKeepB
namespace Go.Proofs.Ytjkkfjipgomkdaa
open Go.RowKit

/-- Does the earliest best rule stop at x? -/
def bestB (ps ws l : List Int) (x : Nat) : Bool := ownW ps ws l x == nth (capW ps ws l) x
def bestV (ps ws l : List Int) : List Int := if paysB ps ws l then firsts ps (fS (bestB ps ws l)) else []
theorem bestV_no {ps ws l : List Int} (h : paysB ps ws l = false) : bestV ps ws l = [] := by rw [bestV, h]; rfl
theorem bestV_yes {ps ws l : List Int} (h : paysB ps ws l = true) : bestV ps ws l = firsts ps (fS (bestB ps ws l)) := by rw [bestV, h]; rfl
theorem bestV_len {ps ws l : List Int} : (bestV ps ws l).length ≤ 1048576 := by
  cases h : paysB ps ws l
  · rw [bestV_no h]; simp
  · rw [bestV_yes h]; have := (paysB_t h).1.n24; have := firsts_length ps (fS (bestB ps ws l)); omega
theorem cf_BestRule (args : Array Value) (W : World) : (callFunc 68 args).run Try.prog W = .ok (.enter 68 args) W := by kernel_rfl
set_option maxRecDepth 100000 in
theorem cl_BestRule (x n : Nat) (pS pL pA : Addr) (aS aL aA : Option Addr) (cS cL cA : Nat) (s l at' : List Int) (w : World) (hx : x < n)
    (h1 : w.cell? pS = some (.slice aS n cS)) (h2 : w.cell? pL = some (.slice aL n cL)) (h3 : w.cell? pA = some (.slice aA n cA)) (hS : Ints w aS n s) (hL : Ints w aL n l) (hA : Ints w aA n at') (hsb : 0 ≤ nth s x ∧ nth s x ≤ 480) (hlb : -999 ≤ nth l x ∧ nth l x ≤ 999) :
    Calls Try.prog 68 #[.int .i64 (x : Int), .pointer (some pS), .pointer (some pL), .pointer (some pA)] w fun e w' => e = .returned (.bool (nth s x * nth l x == nth at' x)) ∧ Below w.heap.size w w' := by
  obtain ⟨bS, oS, rfl, hcS⟩ := hS.at (i := x) (Below.refl _ _) hx
  obtain ⟨bL, oL, rfl, hcL⟩ := hL.at (i := x) (Below.refl _ _) hx
  obtain ⟨bA, oA, rfl, hcA⟩ := hA.at (i := x) (Below.refl _ _) hx
  have hmb := mul_abs (B := 999) (U := 480) hlb hsb (by omega)
  rw [Int.mul_comm (nth l x) (nth s x)] at hmb
  clear hS hL hA
  generalize nth s x = u at *
  generalize nth l x = q at *
  generalize nth at' x = r at *
  have k1 : IntKind.i64.wrap (u * q) = u * q := IntWalk.i64_in _ (by omega)
  have k2 : (0 : Int) ≤ (x : Int) := by omega
  have k3 : (x : Int) < (n : Int) := by omega
  go_enter Try.func68, Try.ntmps68
  go_wp2_with fail
  go_quiet (fail)
  go_wp2_with fail
  go_ret
  exact ⟨rfl, below_drewN (Below.refl _ _) _⟩
set_option maxRecDepth 100000 in
set_option maxHeartbeats 2000000 in
theorem impl_BestRule (aP : Option Addr) (nP cP : Nat) (aW : Option Addr) (nW cW : Nat) (ps ws : List Int) (aL : Option Addr) (nL cL : Nat) (l : List Int) (w : World) (h : Tre w aP nP cP aW nW cW ps ws) (hL : Ints w aL nL l) (_hLc : aL = none → cL = 0) (hn : nL ≤ 1048576) :
    Calls Try.prog 33 #[.agg #[.slice aP nP cP, .slice aW nW cW], .slice aL nL cL] w fun e w' => ∃ v, e = .returned (.tuple #[v, .bool (paysB ps ws l)]) ∧ Own w' w.heap.size v (bestV ps ws l) ∧ Below w.heap.size w w' := by
  have hl := h.p.1
  have hlw := h.w.1
  have hpn := h.pn
  have hwn := h.wn
  have hb1 := below_new w (.cells #[.slice aP nP cP, .slice aW nW cW] 28)
  have hP1 := Lib.hid (Pair.new w (.slice aP nP cP) (.slice aW nW cW) 28)
  have H := Lib.hid h
  have Hl := Lib.hid hl
  have Hlw := Lib.hid hlw
  clear h hl hlw
  have HL := Lib.hid hL
  have hll := Lib.hid hL.1
  clear hL
  have hbb := hb1.trans ((below_new (w.alloc (.cells #[.slice aP nP cP, .slice aW nW cW] 28)) (.cells #[.slice aL nL cL] 22)).mono hb1.size)
  have hPP := Lib.hid (hP1.out.alloc (.cells #[.slice aL nL cL] 22))
  have hC1 : ((w.alloc (.cells #[.slice aP nP cP, .slice aW nW cW] 28)).alloc (.cells #[.slice aL nL cL] 22)).cell? ⟨w.heap.size + 1, 0, none⟩ = some (.slice aL nL cL) := by rw [World.cell?_alloc_at _ _ _ _ (by simp)]; rfl
  have c0 := hPP.out.c0
  have c1 := hPP.out.c1
  clear hb1 hP1
  go_enter Try.func33, Try.ntmps33
  go_wp2_with fail
  generalize ((w.alloc (.cells #[.slice aP nP cP, .slice aW nW cW] 28)).alloc (.cells #[.slice aL nL cL] 22)) = w2 at *
  have hlt2 := hPP.out.lt
  refine (impl_IsTree _ _ _ _ _ _ ps ws _ (H.out.below hbb)).mono ?_
  rintro e w3 ⟨rfl, hb3⟩
  have hP3 := hPP.out.below hb3
  have d0 := hP3.c0
  have d1 := hP3.c1
  have HP3 := Lib.hid hP3
  have d2 := cell_up hb3 hC1
  have hb13 := hbb.trans (hb3.mono hbb.size)
  clear hP3 c0 c1 hb3 hC1 hPP hbb
  cases hT : treeB ps ws
  · have Hv := Lib.hid (pays_no1 (l := l) hT)
    clear hT
    go_wp2_with fail
    go_ret2
    exact ⟨_, by rw [Hv.out]; rfl, by rw [bestV_no Hv.out]; exact Own.nil _ _, hb13⟩
  have HT := Lib.hid hT
  clear hT
  go_wp2_with fail
  refine (impl_isProcess _ _ _ _ _ _ ps ws _ _ _ l _ (H.out.below hb13) (HL.out.below hb13) hn).mono ?_
  rintro e w4 ⟨rfl, hb4⟩
  have hb14 := hb13.trans (hb4.mono hb13.size)
  have hP4 := HP3.out.below hb4
  have e0 := hP4.c0
  have e1 := hP4.c1
  have HP4 := Lib.hid hP4
  have e2 := cell_up hb4 d2
  clear d0 d1 d2 hP4 hb4
  cases hp : procB ps.length l
  · have Hv := Lib.hid (pays_no2 (ws := ws) hp)
    clear hp
    go_wp2_with fail
    go_ret2
    exact ⟨_, by rw [Hv.out]; rfl, by rw [bestV_no Hv.out]; exact Own.nil _ _, hb14⟩
  have Hpays := Lib.hid (pays_both HT.out hp)
  have hpp := procB_t hp
  have hTr := treeB_t HT.out
  have hn24 := hTr.n24
  have hn1 := hTr.n1
  have hnL : nP = nL := by have := hll.out; have := hpp.1; have := Hl.out; omega
  have hnW : nP = nW := by have := Hlw.out; have := hTr.wl; have := Hl.out; omega
  have hnP : 1 ≤ nP ∧ nP ≤ 24 := by have := Hl.out; omega
  have Hpp := Lib.hid hpp
  have HTr := Lib.hid hTr
  have HnW := Lib.hid hnW
  have hnW2 : nP ≤ nW := by omega
  have HC4 := Lib.hid e2
  clear hp hpp hn24 hn1 hTr hpn hwn hnW
  subst hnL
  go_wp2_with fail
  refine (impl_worth _ _ _ _ _ _ ps ws _ _ _ l _ 24 _ (H.out.below hb14) HTr.out (HL.out.below hb14) rfl Hpp.out.2 (.inl ⟨by omega, rfl⟩)).mono ?_
  rintro e w5 ⟨a1, c1, a2, c2, rfl, o1, o2, b5⟩
  have hb15 := hb14.trans (b5.mono hb14.size)
  have G1 := Lib.hid o1.ints
  have hbA := below_new w5 (.cells #[.slice a1 nP c1] 22)
  have hP5 := (HP4.out.below b5).below hbA
  have hC5 := cell_up hbA (cell_up b5 HC4.out)
  have hA5 : (w5.alloc (.cells #[.slice a1 nP c1] 22)).cell? ⟨w5.heap.size, 0, none⟩ = some (.slice a1 nP c1) := by rw [World.cell?_alloc_at _ _ _ _ rfl]; rfl
  have hb16 := hb15.trans (hbA.mono hb15.size)
  have HG1 := Lib.hid (G1.out.below hbA)
  have hs5 := b5.size
  clear o1 o2 e0 e1 e2 HP4 HC4 b5 G1
  have e0 := hP5.c0
  have e1 := hP5.c1
  go_wp2_with fail
  have HP6 := Lib.hid hP5
  have HC6 := Lib.hid hC5
  have HA6 := Lib.hid hA5
  have hsz6 : w5.heap.size < (w5.alloc (.cells #[.slice a1 nP c1] 22)).heap.size := by simp
  clear hP5 hC5 hA5 e0 e1 hbA
  generalize (w5.alloc (.cells #[.slice a1 nP c1] 22)) = w6 at *
  have Hsl : Hid ((sums ps ws).length = nP) := Lib.hid (by rw [sums_length HTr.out]; exact Hl.out)
  refine (impl_sums _ _ _ _ _ _ ps ws _ (H.out.below hb16) HTr.out).mono ?_
  rintro e w7 ⟨v7, rfl, o7, b7⟩
  obtain ⟨a7, c7, rfl⟩ := o7.shape
  rw [Hsl.out] at o7 ⊢
  have hb17 := hb16.trans (b7.mono hb16.size)
  have hbS := below_new w7 (.cells #[.slice a7 nP c7] 22)
  have hP8 := (HP6.out.below b7).below hbS
  have hC8 := cell_up hbS (cell_up b7 HC6.out)
  have hA8 := cell_up hbS (cell_up b7 HA6.out)
  have hS8 : (w7.alloc (.cells #[.slice a7 nP c7] 22)).cell? ⟨w7.heap.size, 0, none⟩ = some (.slice a7 nP c7) := by rw [World.cell?_alloc_at _ _ _ _ rfl]; rfl
  have HG1' := Lib.hid ((HG1.out.below b7).below hbS)
  have HG7 := Lib.hid (o7.ints.below hbS)
  have hb18 := hb17.trans (hbS.mono hb17.size)
  have hs7 := b7.size
  have e0 := hP8.c0
  have e1 := hP8.c1
  clear o7 b7 HP6 HC6 HA6 HG1
  go_wp2_with fail
  have HP8 := Lib.hid hP8
  have HC8 := Lib.hid hC8
  have HA8 := Lib.hid hA8
  have HS8 := Lib.hid hS8
  clear hP8 hC8 hA8 hS8 hbS
  generalize (w7.alloc (.cells #[.slice a7 nP c7] 22)) = w8 at *
  refine (impl_firsts _ _ _ _ _ _ ps ws 68 #[.pointer (some ⟨w7.heap.size, 0, none⟩), .pointer (some ⟨w.heap.size + 1, 0, none⟩), .pointer (some ⟨w5.heap.size, 0, none⟩)] (bestB ps ws l) _ (H.out.below hb18) HTr.out.toPa cf_BestRule ?_).mono ?_
  · intro x W hx hW
    have hbW := hb18.trans (hW.mono hb18.size)
    have hxl : x < ps.length := by have := Hl.out; omega
    exact cl_BestRule x nP _ _ _ a7 aL a1 c7 cL c1 (sums ps ws) l (capW ps ws l) W hx (cell_up hW HS8.out) (cell_up hW HC8.out) (cell_up hW HA8.out) (HG7.out.below hW) (HL.out.below hbW) (HG1'.out.below hW) (sums_bd HTr.out x) (Hpp.out.2 x)
  · rintro e w9 ⟨v9, rfl, o9, b9⟩
    have O9 := Lib.hid o9
    clear o9
    go_wp2_with fail
    go_ret2
    exact ⟨_, by rw [Hpays.out]; rfl, by rw [bestV_yes Hpays.out]; exact O9.out.mono hb18.size, hb18.trans (b9.mono hb18.size)⟩
end Go.Proofs.Ytjkkfjipgomkdaa
