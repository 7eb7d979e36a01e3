/- Contracts: the claims on shares, calls and puts, of the program and of the reference. -/
import Derived.Test.YtfnmhoidgnihoaaClaims
import Derived.Deep.DeepCutAuto
import Derived.Deep.Cut
namespace Go.Proofs.Ytfnmhoidgnihoaa
open Go.RowKit

def shareG (p : Int) : Int := p
def callG (s p : Int) : Int := max 0 (p - s)
def putG (s p : Int) : Int := max 0 (s - p)
/-- A list without numbers and the ends, just made, apart from each other. -/
def TwoE (u wc : World) (ps : List Int) (v4 v5 : Value) : Prop :=
  KeepR u wc ∧ ∃ (g4 : Nat) (a5 : Option Addr) (c5 : Nat), v4 = .slice (some ⟨g4, 0, none⟩) 0 0 ∧ v5 = .slice a5 (ends ps).length c5 ∧ Own wc u.heap.size v4 [] ∧ Ints wc a5 (ends ps).length (ends ps) ∧ Apart a5 v4
theorem twoE_mk {u wc : World} {ps : List Int} {v5 : Value} {b4 b5 g4 : Nat} (hk : KeepR u wc) (h4 : Own wc b4 (.slice (some ⟨g4, 0, none⟩) 0 0) []) (h5 : Own wc b5 v5 (ends ps)) (hb : u.heap.size ≤ b4) (s5 : ∀ g, v5.ownBlock = some g → g ≠ g4) : TwoE u wc ps (.slice (some ⟨g4, 0, none⟩) 0 0) v5 := by
  obtain ⟨a5, c5, rfl⟩ := h5.shape
  exact ⟨hk, g4, a5, c5, rfl, rfl, h4.mono hb, h5.ints, fun p hp e => by subst hp; simp [Value.ownBlock] at e; exact s5 _ rfl e.symm⟩
set_option maxRecDepth 100000 in
set_option maxHeartbeats 2000000 in
theorem spec_l6EndPrices (aP : Option Addr) (nP cP : Nat) (aW : Option Addr) (nW cW : Nat) (aL : Option Addr) (nL cL : Nat) (ps ws l : List Int) (w : World) (h : Mkt w aP nP cP aW nW cW aL nL cL ps ws l) (hT : Tr ps ws) (hnl : nP = nL) :
    Calls Try.prog 71 #[.agg #[.slice aP nP cP, .slice aW nW cW, .slice aL nL cL]] w fun e w' => ∃ v, e = .returned v ∧ Own w' w.heap.size v (endM shareG l (ends ps)) ∧ Below w.heap.size w w' := by
  have hn24 := hT.n24
  have HTr := Lib.hid hT
  have Hnl := Lib.hid hnl
  clear hnl
  have hl := h.t.p.1
  have hlw := h.t.w.1
  have hll := h.l.1
  have hpn := h.t.pn
  have hwn := h.t.wn
  have hln := h.ln
  have hb1 := below_new w (.cells #[.slice aP nP cP, .slice aW nW cW, .slice aL nL cL] 31)
  have hX1 := Lib.hid (Trip.new w (.slice aP nP cP) (.slice aW nW cW) (.slice aL nL cL) 31)
  have H := Lib.hid h
  have Hl := Lib.hid hl
  have Hlw := Lib.hid hlw
  have Hll := Lib.hid hll
  clear h hl hlw hll
  have hnP : nP ≤ 24 := by have := Hl.out; omega
  clear hT hn24 hpn hwn hln
  have c0 := hX1.out.c0
  have c1 := hX1.out.c1
  have hlt2 := hX1.out.lt
  go_enter Try.func71, Try.ntmps71
  go_upto_region 1 with fail
  generalize (w.alloc (.cells #[.slice aP nP cP, .slice aW nW cW, .slice aL nL cL] 31)) = u0 at *
  have hnil := own_nil0 u0
  have hu0 : w.heap.size ≤ u0.heap.size := hb1.size
  have hbN := below_new u0 (.cells #[] 3)
  have hX2 := hX1.out.below hbN
  have e0 := hX2.c0
  have e1 := hX2.c1
  have hb2 := hb1.trans (hbN.mono hb1.size)
  clear c0 c1 hbN
  go_wp2_with fail
  have HX2 := Lib.hid hX2
  have Hnil := Lib.hid hnil
  clear hX2 e0 e1 hnil
  generalize (u0.alloc (.cells #[] 3)) = w4 at *
  refine (spec_l2Ends _ _ _ _ _ _ ps ws _ (H.out.t.below hb2) HTr.out.toPa).mono ?_
  rintro e w5 ⟨v5, rfl, o5, b5⟩
  obtain ⟨a5, c5, rfl⟩ := o5.shape
  have hb15 := hb2.trans (b5.mono hb2.size)
  have HX5 := Lib.hid (HX2.out.below b5)
  have HO := Lib.hid (Hnil.out.below b5)
  have HE := Lib.hid o5.ints
  have hsz5 : u0.heap.size ≤ w5.heap.size := Nat.le_of_lt HO.out.lt.2
  have hap0 : Hid (0 < (ends ps).length → Apart a5 (.slice (some ⟨u0.heap.size, 0, none⟩) 0 0)) := Lib.hid fun h0 p hp e => by
    obtain ⟨gg, cap, he, hg, _⟩ := o5.form h0
    have h4 := Hnil.out.lt.2
    obtain rfl := (Value.slice.inj he).1
    cases hp
    simp [Value.ownBlock] at e
    omega
  clear o5 b5 Hnil HX2 hX1
  have HEm : Hid (∀ i, i < (ends ps).length → ∃ j : Nat, j < nP ∧ nth (ends ps) i = j) := Lib.hid fun i hi => by
    obtain ⟨j, h1, _, h3⟩ := nth_filt hi
    exact ⟨j, by have := Hl.out; omega, h3⟩
  have hEL : (ends ps).length ≤ 24 := by have := ends_le ps; have := Hl.out; omega
  obtain ⟨E, hE⟩ : ∃ E, E = ends ps := ⟨_, rfl⟩
  rw [← hE] at HE hap0 HEm hEL ⊢
  have HEq := Lib.hid hE
  clear hE
  go_wp2_with fail
  go_loopw [3, 5] (fun v5 v7 wr => ∃ i : Nat, i ≤ E.length ∧ v7 = .int .i64 (i : Int) ∧ Own wr (u0.heap.size) v5 (endM shareG l (E.take i)) ∧ Ints wr a5 E.length E ∧ (0 < E.length → Apart a5 v5) ∧ Trip wr w.heap.size (.slice aP nP cP) (.slice aW nW cW) (.slice aL nL cL) ∧ Below w.heap.size w wr ∧ u0.heap.size ≤ wr.heap.size) (fun _ v7 _ => E.length - (intOf v7).toNat)
  case atStart => exact ⟨0, Nat.zero_le _, rfl, HO.out, HE.out, hap0.out, HX5.out, hb15, hsz5⟩
  case round =>
    clear HO HE hap0 HX5 hb15 hsz5
    obtain ⟨i, hi, rfl, hou, hen, hap, hX, hbel, hsz⟩ := hrel
    have c2 := hX.c2
    have HX := Lib.hid hX
    have HE := Lib.hid hen
    have Hap := Lib.hid hap
    clear hX hen hap
    by_cases hlt : (i : Int) < E.length
    · obtain ⟨bE, oE, rfl, hcE⟩ := HE.out.at (i := i) (Below.refl _ _) (by omega)
      obtain ⟨x, hx, hxn⟩ := HEm.out i (by omega)
      rw [hxn] at hcE
      have hxL : x < nL := by have := Hnl.out; omega
      obtain ⟨bL, oL, rfl, hbLw, hcL⟩ := H.out.l.at2 (i := x) hbel hxL
      have hsu := endM_succ shareG l E (i := i) (by omega)
      rw [hxn, Int.toNat_natCast] at hsu
      have hel := endM_length shareG l (E.take i)
      rw [List.length_take, Nat.min_eq_left (by omega)] at hel
      have hsu2 : endM shareG l (E.take (i + 1)) = endM shareG l (E.take i) ++ [nth l x] := hsu
      have Hsu := Lib.hid hsu2
      clear hsu hsu2 hxn
      generalize nth l x = p at *
      have HA0 : Hid (∀ o, Below u0.heap.size wr (wr.alloc o).drew) := Lib.hid fun o => ((Below.refl _ _).alloc hsz o).drew
      have HA0' : Hid (∀ o, Below wr.heap.size wr (wr.alloc o).drew) := Lib.hid fun o => (below_new wr o).drew
      go_wp2_with fail
      go_region_held3 (fun W' => Below u0.heap.size wr W' ∧ W'.cell? ⟨w.heap.size, 2, none⟩ = some (.slice (some ⟨bL, oL, none⟩) nL cL) ∧ W'.cell? ⟨bE, oE + i, none⟩ = some (.int .i64 (x : Int)) ∧ W'.cell? ⟨bL, oL + x, none⟩ = some (.int .i64 p))
        (first | assumption | exact ⟨(Below.refl _ _).drew, c2, hcE, hcL⟩ | exact ⟨HA0.out _, cell_up (HA0'.out _) c2, cell_up (HA0'.out _) hcE, cell_up (HA0'.out _) hcL⟩)
        (first
          | (refine step_push2 (u := p) rfl _ _ rfl u0.heap.size _ _ (by rfl) hou (by rfl) (by omega) hsz ?_; intro v' w' ho hb hm
             have xX := hm.cell c2 (fun e => by have h1 := (World.ownsRow.lt hou _ e).1; simp at h1; omega)
             have xE := hm.cell hcE (Hap.out (by omega) ⟨bE, oE, none⟩ rfl)
             have xL := hm.cell hcL (fun e => by have h1 := (World.ownsRow.lt hou _ e).1; simp at h1; omega)
             have hSS : Below u0.heap.size wr w' ∧ w'.cell? ⟨w.heap.size, 2, none⟩ = some (.slice (some ⟨bL, oL, none⟩) nL cL) ∧ w'.cell? ⟨bE, oE + i, none⟩ = some (.int .i64 (x : Int)) ∧ w'.cell? ⟨bL, oL + x, none⟩ = some (.int .i64 p) := ⟨hb, xX, xE, xL⟩))
      go_wp2_with fail
      have hE2 := HE.out.moved hm Hap.out
      go_roundw
      case rel => exact ⟨i + 1, by omega, by go_num, by rw [Hsu.out]; exact ho, hE2.1, hE2.2, HX.out.up hb (by omega), hbel.trans (hb.mono (by omega)), Nat.le_trans hsz hb.size⟩
      case measure => simp [intOf]; omega
    · obtain rfl : i = E.length := by omega
      rw [List.take_length] at hou
      have HO2 := Lib.hid hou
      clear hou
      go_wp2_with fail
      go_ret
      exact ⟨_, rfl, by rw [← HEq.out]; exact HO2.out.mono hu0, hbel⟩
theorem cf_Share (args : Array Value) (W : World) : (callFunc 73 args).run Try.prog W = .ok (.enter 73 args) W := by kernel_rfl
theorem cl_Share (p : Int) (w : World) : Calls Try.prog 73 #[.int .i64 p] w fun e w' => e = .returned (.int .i64 (shareG p)) ∧ Below w.heap.size w w' := by
  have hp : shareG p = p := rfl
  rw [hp]
  go_enter Try.func73, Try.ntmps73
  go_wp2_with fail
  go_ret
  exact ⟨rfl, Below.refl _ _⟩
set_option maxRecDepth 100000 in
theorem impl_ShareClaims (aP : Option Addr) (nP cP : Nat) (aW : Option Addr) (nW cW : Nat) (aL : Option Addr) (nL cL : Nat) (ps ws l : List Int) (w : World) (h : Mkt w aP nP cP aW nW cW aL nL cL ps ws l) :
    Calls Try.prog 37 #[.agg #[.slice aP nP cP, .slice aW nW cW, .slice aL nL cL]] w fun e w' => ∃ v, e = .returned (.tuple #[v, .bool (claimsB ps ws l 0)]) ∧ Own w' w.heap.size v (claimsV ps ws l 0 shareG) ∧ Below w.heap.size w w' := by
  have hl := h.t.p.1
  have hlw := h.t.w.1
  have hll := h.l.1
  have hpn := h.t.pn
  have hwn := h.t.wn
  have hln := h.ln
  have hb1 := below_new w (.cells #[.slice aP nP cP, .slice aW nW cW, .slice aL nL cL] 31)
  have hX1 := Lib.hid (Trip.new w (.slice aP nP cP) (.slice aW nW cW) (.slice aL nL cL) 31)
  have H := Lib.hid h
  have Hl := Lib.hid hl
  have Hlw := Lib.hid hlw
  have Hll := Lib.hid hll
  clear h hl hlw hll
  have c0 := hX1.out.c0
  have c1 := hX1.out.c1
  have c2 := hX1.out.c2
  go_enter Try.func37, Try.ntmps37
  go_wp2_with fail
  generalize (w.alloc (.cells #[.slice aP nP cP, .slice aW nW cW, .slice aL nL cL] 31)) = w2 at *
  refine (impl_endClaims _ _ _ _ _ _ _ _ _ ps ws l 0 73 #[] shareG _ (H.out.below hb1) cf_Share (fun p W _ _ _ _ _ => cl_Share p W)).mono ?_
  rintro e w3 ⟨v, rfl, o3, b3⟩
  have O3 := Lib.hid o3
  clear o3
  go_wp2_with fail
  go_ret2
  exact ⟨_, rfl, O3.out.mono hb1.size, hb1.trans (b3.mono hb1.size)⟩
set_option maxRecDepth 100000 in
theorem spec_ShareClaims (aP : Option Addr) (nP cP : Nat) (aW : Option Addr) (nW cW : Nat) (aL : Option Addr) (nL cL : Nat) (ps ws l : List Int) (w : World) (h : Mkt w aP nP cP aW nW cW aL nL cL ps ws l) :
    Calls Try.prog 36 #[.agg #[.slice aP nP cP, .slice aW nW cW, .slice aL nL cL]] w fun e w' => ∃ v, e = .returned (.tuple #[v, .bool (claimsB ps ws l 0)]) ∧ Own w' w.heap.size v (claimsV ps ws l 0 shareG) ∧ Below w.heap.size w w' := by
  have hl := h.t.p.1
  have hlw := h.t.w.1
  have hll := h.l.1
  have hpn := h.t.pn
  have hwn := h.t.wn
  have hln := h.ln
  have hb1 := below_new w (.cells #[.slice aP nP cP, .slice aW nW cW, .slice aL nL cL] 31)
  have hX1 := Lib.hid (Trip.new w (.slice aP nP cP) (.slice aW nW cW) (.slice aL nL cL) 31)
  have H := Lib.hid h
  have Hl := Lib.hid hl
  have Hlw := Lib.hid hlw
  have Hll := Lib.hid hll
  clear h hl hlw hll
  have c0 := hX1.out.c0
  have c1 := hX1.out.c1
  have c2 := hX1.out.c2
  go_enter Try.func36, Try.ntmps36
  go_wp2_with fail
  generalize (w.alloc (.cells #[.slice aP nP cP, .slice aW nW cW, .slice aL nL cL] 31)) = w2 at *
  refine (spec_l6Market _ _ _ _ _ _ _ _ _ ps ws l _ (H.out.below hb1)).mono ?_
  rintro e w3 ⟨rfl, hb3⟩
  have hX3 := hX1.out.below hb3
  have d0 := hX3.c0
  have d1 := hX3.c1
  have d2 := hX3.c2
  have HX3 := Lib.hid hX3
  have hb13 := hb1.trans (hb3.mono hb1.size)
  clear hX1 hX3 c0 c1 c2 hb3
  cases hM : mktB ps ws l
  · have Hv := Lib.hid (claims_no1 (s := 0) hM)
    clear hM
    go_wp2_with fail
    go_ret2
    exact ⟨_, by rw [Hv.out]; rfl, by rw [claimsV_no Hv.out]; exact (own_nil0 w3).mono hb13.size, hb13.trans ((below_new w3 _).mono hb13.size)⟩
  have HM := Lib.hid hM
  have hmt := mktB_t hM
  have hn24 := hmt.1.n24
  have HTr := Lib.hid hmt.1
  have Hlb := Lib.hid hmt.2.2
  have hnL : nP = nL := by have := Hll.out; have := hmt.2.1; have := Hl.out; omega
  have hnP : nP ≤ 24 := by have := Hl.out; omega
  clear hM hmt hn24 hpn hwn hln
  subst hnL
  have Hv := Lib.hid (claims_yes (s := 0) HM.out rfl)
  have Hcv := Lib.hid (claimsV_yes (g := shareG) Hv.out)
  go_wp2_with fail
  refine (spec_l6EndPrices _ _ _ _ _ _ _ _ _ ps ws l _ (H.out.below hb13) HTr.out rfl).mono ?_
  rintro e w5 ⟨v, rfl, o5, b5⟩
  have O5 := Lib.hid o5
  clear o5
  go_wp2_with fail
  go_ret2
  exact ⟨_, by rw [Hv.out]; rfl, by rw [Hcv.out]; exact O5.out.mono hb13.size, hb13.trans (b5.mono hb13.size)⟩
theorem cf_Call (args : Array Value) (W : World) : (callFunc 83 args).run Try.prog W = .ok (.enter 83 args) W := by kernel_rfl
theorem cl_Call (s p : Int) (a : Addr) (w : World) (hs : 0 ≤ s ∧ s ≤ 20) (hp : 0 ≤ p ∧ p ≤ 20) (ha : w.cell? a = some (.int .i64 s)) : Calls Try.prog 83 #[.int .i64 p, .pointer (some a)] w fun e w' => e = .returned (.int .i64 (callG s p)) ∧ Below w.heap.size w w' := by
  by_cases hc : p - s > 0
  · have hg : callG s p = p - s := by unfold callG; omega
    rw [hg]
    go_enter Try.func83, Try.ntmps83
    go_wp2_with fail
    go_ret
    exact ⟨rfl, Below.refl _ _⟩
  · have hg : callG s p = 0 := by unfold callG; omega
    rw [hg]
    go_enter Try.func83, Try.ntmps83
    go_wp2_with fail
    go_ret
    exact ⟨rfl, Below.refl _ _⟩
set_option maxRecDepth 100000 in
theorem impl_CallClaims (aP : Option Addr) (nP cP : Nat) (aW : Option Addr) (nW cW : Nat) (aL : Option Addr) (nL cL : Nat) (ps ws l : List Int) (s : Int) (w : World) (h : Mkt w aP nP cP aW nW cW aL nL cL ps ws l) :
    Calls Try.prog 46 #[.agg #[.slice aP nP cP, .slice aW nW cW, .slice aL nL cL], .int .i64 s] w fun e w' => ∃ v, e = .returned (.tuple #[v, .bool (claimsB ps ws l s)]) ∧ Own w' w.heap.size v (claimsV ps ws l s (callG s)) ∧ Below w.heap.size w w' := by
  have hl := h.t.p.1
  have hlw := h.t.w.1
  have hll := h.l.1
  have hpn := h.t.pn
  have hwn := h.t.wn
  have hln := h.ln
  have hb1 := below_new w (.cells #[.slice aP nP cP, .slice aW nW cW, .slice aL nL cL] 31)
  have hX1 := Lib.hid (Trip.new w (.slice aP nP cP) (.slice aW nW cW) (.slice aL nL cL) 31)
  have H := Lib.hid h
  have Hl := Lib.hid hl
  have Hlw := Lib.hid hlw
  have Hll := Lib.hid hll
  clear h hl hlw hll
  have hbb := hb1.trans ((below_new (w.alloc (.cells #[.slice aP nP cP, .slice aW nW cW, .slice aL nL cL] 31)) (.cells #[.int .i64 s] 3)).mono hb1.size)
  have hX2 := hX1.out.alloc (.cells #[.int .i64 s] 3)
  have hS2 : ((w.alloc (.cells #[.slice aP nP cP, .slice aW nW cW, .slice aL nL cL] 31)).alloc (.cells #[.int .i64 s] 3)).cell? ⟨w.heap.size + 1, 0, none⟩ = some (.int .i64 s) := by rw [World.cell?_alloc_at _ _ _ _ (by simp)]; rfl
  have c0 := hX2.c0
  have c1 := hX2.c1
  have c2 := hX2.c2
  go_enter Try.func46, Try.ntmps46
  go_wp2_with fail
  generalize ((w.alloc (.cells #[.slice aP nP cP, .slice aW nW cW, .slice aL nL cL] 31)).alloc (.cells #[.int .i64 s] 3)) = w2 at *
  refine (impl_endClaims _ _ _ _ _ _ _ _ _ ps ws l s 83 #[.pointer (some ⟨w.heap.size + 1, 0, none⟩)] (callG s) _ (H.out.below hbb) cf_Call (fun p W h1 h2 h3 h4 hW => cl_Call s p _ W ⟨h3, h4⟩ ⟨h1, h2⟩ (cell_up hW hS2))).mono ?_
  rintro e w3 ⟨v, rfl, o3, b3⟩
  have O3 := Lib.hid o3
  clear o3
  go_wp2_with fail
  go_ret2
  exact ⟨_, rfl, O3.out.mono hbb.size, hbb.trans (b3.mono hbb.size)⟩
set_option maxRecDepth 100000 in
set_option maxHeartbeats 2000000 in
theorem spec_CallClaims (aP : Option Addr) (nP cP : Nat) (aW : Option Addr) (nW cW : Nat) (aL : Option Addr) (nL cL : Nat) (ps ws l : List Int) (s : Int) (w : World) (h : Mkt w aP nP cP aW nW cW aL nL cL ps ws l) :
    Calls Try.prog 45 #[.agg #[.slice aP nP cP, .slice aW nW cW, .slice aL nL cL], .int .i64 s] w fun e w' => ∃ v, e = .returned (.tuple #[v, .bool (claimsB ps ws l s)]) ∧ Own w' w.heap.size v (claimsV ps ws l s (callG s)) ∧ Below w.heap.size w w' := by
  have hl := h.t.p.1
  have hlw := h.t.w.1
  have hll := h.l.1
  have hpn := h.t.pn
  have hwn := h.t.wn
  have hln := h.ln
  have hb1 := below_new w (.cells #[.slice aP nP cP, .slice aW nW cW, .slice aL nL cL] 31)
  have hX1 := Lib.hid (Trip.new w (.slice aP nP cP) (.slice aW nW cW) (.slice aL nL cL) 31)
  have H := Lib.hid h
  have Hl := Lib.hid hl
  have Hlw := Lib.hid hlw
  have Hll := Lib.hid hll
  clear h hl hlw hll
  have hX2 := hX1.out.alloc (.cells #[] 3)
  have c0 := hX2.c0
  have c1 := hX2.c1
  have c2 := hX2.c2
  have hnil := own_nil0 (w.alloc (.cells #[.slice aP nP cP, .slice aW nW cW, .slice aL nL cL] 31))
  rw [show (w.alloc (.cells #[.slice aP nP cP, .slice aW nW cW, .slice aL nL cL] 31)).heap.size = w.heap.size + 1 by simp] at hnil
  have hbb : Below w.heap.size w ((w.alloc (.cells #[.slice aP nP cP, .slice aW nW cW, .slice aL nL cL] 31)).alloc (.cells #[] 3)) := hb1.alloc (by simp) _
  go_enter Try.func45, Try.ntmps45
  go_wp2_with fail
  have HX2 := Lib.hid hX2
  have Hnil := Lib.hid hnil
  clear hX2 c0 c1 c2 hnil hb1 hX1
  generalize ((w.alloc (.cells #[.slice aP nP cP, .slice aW nW cW, .slice aL nL cL] 31)).alloc (.cells #[] 3)) = w2 at *
  refine (spec_l6Market _ _ _ _ _ _ _ _ _ ps ws l _ (H.out.below hbb)).mono ?_
  rintro e w3 ⟨rfl, hb3⟩
  have hX3 := HX2.out.below hb3
  have d0 := hX3.c0
  have d1 := hX3.c1
  have d2 := hX3.c2
  have HX3 := Lib.hid hX3
  have HN3 := Lib.hid (Hnil.out.below hb3)
  have hb13 := hbb.trans (hb3.mono hbb.size)
  clear HX2 hX3 hb3 Hnil
  cases hM : mktB ps ws l
  · have Hv := Lib.hid (claims_no1 (s := s) hM)
    clear hM
    go_wp2_with fail
    go_ret2
    exact ⟨_, by rw [Hv.out]; rfl, by rw [claimsV_no Hv.out]; exact HN3.out.mono (by omega), hb13⟩
  have HM := Lib.hid hM
  have hmt := mktB_t hM
  have hn24 := hmt.1.n24
  have HTr := Lib.hid hmt.1
  have Hlb := Lib.hid hmt.2.2
  have hnL : nP = nL := by have := Hll.out; have := hmt.2.1; have := Hl.out; omega
  have hnP : nP ≤ 24 := by have := Hl.out; omega
  clear hM hmt hn24 hpn hwn hln
  subst hnL
  cases hS : inB s 0 20
  · have Hv := Lib.hid (claims_no2 (ps := ps) (ws := ws) (l := l) hS)
    have HS := Lib.hid hS
    clear hS
    go_wp2_with (go_at_call 57; refine (spec_l1In _ _ _ _).mono ?_; rintro e w' ⟨rfl, rfl⟩; rw [HS.out])
    go_ret2
    exact ⟨_, by rw [Hv.out]; rfl, by rw [claimsV_no Hv.out]; exact HN3.out.mono (by omega), hb13⟩
  have Hv := Lib.hid (claims_yes HM.out hS)
  have Hcv := Lib.hid (claimsV_yes (g := callG s) Hv.out)
  have hsb := inB_t hS
  have HS := Lib.hid hS
  clear hS
  go_wp2_with (go_at_call 57; refine (spec_l1In _ _ _ _).mono ?_; rintro e w' ⟨rfl, rfl⟩; rw [HS.out])
  refine (spec_l6EndPrices _ _ _ _ _ _ _ _ _ ps ws l _ (H.out.below hb13) HTr.out rfl).mono ?_
  rintro e w5 ⟨v5, rfl, o5, b5⟩
  obtain ⟨a5, c5, rfl⟩ := o5.shape
  have hel : (endM shareG l (ends ps)).length = (ends ps).length := endM_length _ _ _
  rw [hel] at o5 ⊢
  have hb15 := hb13.trans (b5.mono hb13.size)
  have HO := Lib.hid (HN3.out.below b5)
  have HE := Lib.hid o5.ints
  have hsz5 : w.heap.size + 1 ≤ w5.heap.size := Nat.le_of_lt HO.out.lt.2
  have hap0 : Hid (0 < (ends ps).length → Apart a5 (.slice (some ⟨w.heap.size + 1, 0, none⟩) 0 0)) := Lib.hid fun h0 p hp e => by
    obtain ⟨gg, cap, he, hg, _⟩ := o5.form (by rw [hel]; exact h0)
    have h4 := HN3.out.lt.2
    obtain rfl := (Value.slice.inj he).1
    cases hp
    simp [Value.ownBlock] at e
    omega
  have HEm : Hid (∀ i, i < (ends ps).length → ∃ j : Nat, j < nP ∧ nth (ends ps) i = j ∧ nth (endM shareG l (ends ps)) i = nth l j) := Lib.hid fun i hi => by
    obtain ⟨j, h1, _, h3'⟩ := nth_filt hi
    have h3 : nth (ends ps) i = (j : Int) := h3'
    refine ⟨j, by have := Hl.out; omega, h3, ?_⟩
    have h4 := endM_succ shareG l (ends ps) hi
    have h5 : nth (endM shareG l ((ends ps).take (i + 1))) i = nth l j := by
      rw [h4]
      have h6 := nth_append_r (xs := endM shareG l ((ends ps).take i)) (y := shareG (nth l (nth (ends ps) i).toNat))
      rw [endM_length, List.length_take, Nat.min_eq_left (by omega), h3, Int.toNat_natCast] at h6
      rw [h3, Int.toNat_natCast]
      exact h6
    have h7 : endM shareG l ((ends ps).take (i + 1)) = (endM shareG l (ends ps)).take (i + 1) := by unfold endM; rw [List.map_take]
    rw [h7, nth_take (by omega)] at h5
    exact h5
  have hEL : (ends ps).length ≤ 24 := by have := ends_le ps; have := Hl.out; omega
  clear o5 b5 HN3 hel
  have HQ : Hid (endM shareG l (ends ps) = endM shareG l (ends ps)) := Lib.hid rfl
  obtain ⟨E, hE⟩ : ∃ E, E = ends ps := ⟨_, rfl⟩
  rw [← hE] at HE hap0 HEm hEL Hcv ⊢
  clear hE HQ
  generalize endM shareG l E = Q at *
  go_wp2_with fail
  go_loopw [6, 8] (fun v5 v7 wr => ∃ i : Nat, i ≤ E.length ∧ v7 = .int .i64 (i : Int) ∧ Own wr (w.heap.size + 1) v5 (endM (callG s) l (E.take i)) ∧ Ints wr a5 E.length Q ∧ (0 < E.length → Apart a5 v5) ∧ Below w.heap.size w wr ∧ w.heap.size + 1 ≤ wr.heap.size) (fun _ v7 _ => E.length - (intOf v7).toNat)
  case atStart => exact ⟨0, Nat.zero_le _, rfl, HO.out, HE.out, hap0.out, hb15, hsz5⟩
  case round =>
    clear HO HE hap0 hb15 hsz5
    obtain ⟨i, hi, rfl, hou, hen, hap, hbel, hsz⟩ := hrel
    have HE := Lib.hid hen
    have Hap := Lib.hid hap
    clear hen hap
    by_cases hlt : (i : Int) < E.length
    · obtain ⟨bE, oE, rfl, hcE⟩ := HE.out.at (i := i) (Below.refl _ _) (by omega)
      obtain ⟨x, hx, hxn, hxq⟩ := HEm.out i (by omega)
      rw [hxq] at hcE
      have hlx := Hlb.out x
      have hsu := endM_succ (callG s) l E (i := i) (by omega)
      rw [hxn, Int.toNat_natCast] at hsu
      have hel := endM_length (callG s) l (E.take i)
      rw [List.length_take, Nat.min_eq_left (by omega)] at hel
      have hmo : most (nth l x - s) 0 = callG s (nth l x) := by rw [most_eq]; unfold callG; omega
      have Hsu := Lib.hid hsu
      clear hsu hxn hxq
      generalize callG s (nth l x) = gv at *
      generalize nth l x = p at *
      go_wp2_with (first | (go_at_call 82; refine (spec_l1Most _ _ _).mono ?_; rintro e w' ⟨rfl, rfl⟩; rw [hmo]) | (at_builtin; refine wp_push2 _ _ rfl rfl (w.heap.size + 1) _ _ rfl hou rfl (by omega) hsz ?_; intro v' w' ho hb hm))
      have hE2 := HE.out.moved hm Hap.out
      go_roundw
      case rel => exact ⟨i + 1, by omega, by go_num, by rw [Hsu.out]; exact ho, hE2.1, hE2.2, hbel.trans (hb.mono (by omega)), Nat.le_trans hsz hb.size⟩
      case measure => simp [intOf]; omega
    · obtain rfl : i = E.length := by omega
      rw [List.take_length] at hou
      have HO2 := Lib.hid hou
      clear hou
      go_wp2_with fail
      go_ret2
      exact ⟨_, by rw [Hv.out]; rfl, by rw [Hcv.out]; exact HO2.out.mono (by omega), hbel⟩
theorem cf_Put (args : Array Value) (W : World) : (callFunc 84 args).run Try.prog W = .ok (.enter 84 args) W := by kernel_rfl
theorem cl_Put (s p : Int) (a : Addr) (w : World) (hs : 0 ≤ s ∧ s ≤ 20) (hp : 0 ≤ p ∧ p ≤ 20) (ha : w.cell? a = some (.int .i64 s)) : Calls Try.prog 84 #[.int .i64 p, .pointer (some a)] w fun e w' => e = .returned (.int .i64 (putG s p)) ∧ Below w.heap.size w w' := by
  by_cases hc : s - p > 0
  · have hg : putG s p = s - p := by unfold putG; omega
    rw [hg]
    go_enter Try.func84, Try.ntmps84
    go_wp2_with fail
    go_ret
    exact ⟨rfl, Below.refl _ _⟩
  · have hg : putG s p = 0 := by unfold putG; omega
    rw [hg]
    go_enter Try.func84, Try.ntmps84
    go_wp2_with fail
    go_ret
    exact ⟨rfl, Below.refl _ _⟩
set_option maxRecDepth 100000 in
theorem impl_PutClaims (aP : Option Addr) (nP cP : Nat) (aW : Option Addr) (nW cW : Nat) (aL : Option Addr) (nL cL : Nat) (ps ws l : List Int) (s : Int) (w : World) (h : Mkt w aP nP cP aW nW cW aL nL cL ps ws l) :
    Calls Try.prog 48 #[.agg #[.slice aP nP cP, .slice aW nW cW, .slice aL nL cL], .int .i64 s] w fun e w' => ∃ v, e = .returned (.tuple #[v, .bool (claimsB ps ws l s)]) ∧ Own w' w.heap.size v (claimsV ps ws l s (putG s)) ∧ Below w.heap.size w w' := by
  have hl := h.t.p.1
  have hlw := h.t.w.1
  have hll := h.l.1
  have hpn := h.t.pn
  have hwn := h.t.wn
  have hln := h.ln
  have hb1 := below_new w (.cells #[.slice aP nP cP, .slice aW nW cW, .slice aL nL cL] 31)
  have hX1 := Lib.hid (Trip.new w (.slice aP nP cP) (.slice aW nW cW) (.slice aL nL cL) 31)
  have H := Lib.hid h
  have Hl := Lib.hid hl
  have Hlw := Lib.hid hlw
  have Hll := Lib.hid hll
  clear h hl hlw hll
  have hbb := hb1.trans ((below_new (w.alloc (.cells #[.slice aP nP cP, .slice aW nW cW, .slice aL nL cL] 31)) (.cells #[.int .i64 s] 3)).mono hb1.size)
  have hX2 := hX1.out.alloc (.cells #[.int .i64 s] 3)
  have hS2 : ((w.alloc (.cells #[.slice aP nP cP, .slice aW nW cW, .slice aL nL cL] 31)).alloc (.cells #[.int .i64 s] 3)).cell? ⟨w.heap.size + 1, 0, none⟩ = some (.int .i64 s) := by rw [World.cell?_alloc_at _ _ _ _ (by simp)]; rfl
  have c0 := hX2.c0
  have c1 := hX2.c1
  have c2 := hX2.c2
  go_enter Try.func48, Try.ntmps48
  go_wp2_with fail
  generalize ((w.alloc (.cells #[.slice aP nP cP, .slice aW nW cW, .slice aL nL cL] 31)).alloc (.cells #[.int .i64 s] 3)) = w2 at *
  refine (impl_endClaims _ _ _ _ _ _ _ _ _ ps ws l s 84 #[.pointer (some ⟨w.heap.size + 1, 0, none⟩)] (putG s) _ (H.out.below hbb) cf_Put (fun p W h1 h2 h3 h4 hW => cl_Put s p _ W ⟨h3, h4⟩ ⟨h1, h2⟩ (cell_up hW hS2))).mono ?_
  rintro e w3 ⟨v, rfl, o3, b3⟩
  have O3 := Lib.hid o3
  clear o3
  go_wp2_with fail
  go_ret2
  exact ⟨_, rfl, O3.out.mono hbb.size, hbb.trans (b3.mono hbb.size)⟩
set_option maxRecDepth 100000 in
set_option maxHeartbeats 2000000 in
theorem spec_PutClaims (aP : Option Addr) (nP cP : Nat) (aW : Option Addr) (nW cW : Nat) (aL : Option Addr) (nL cL : Nat) (ps ws l : List Int) (s : Int) (w : World) (h : Mkt w aP nP cP aW nW cW aL nL cL ps ws l) :
    Calls Try.prog 47 #[.agg #[.slice aP nP cP, .slice aW nW cW, .slice aL nL cL], .int .i64 s] w fun e w' => ∃ v, e = .returned (.tuple #[v, .bool (claimsB ps ws l s)]) ∧ Own w' w.heap.size v (claimsV ps ws l s (putG s)) ∧ Below w.heap.size w w' := by
  have hl := h.t.p.1
  have hlw := h.t.w.1
  have hll := h.l.1
  have hpn := h.t.pn
  have hwn := h.t.wn
  have hln := h.ln
  have hb1 := below_new w (.cells #[.slice aP nP cP, .slice aW nW cW, .slice aL nL cL] 31)
  have hX1 := Lib.hid (Trip.new w (.slice aP nP cP) (.slice aW nW cW) (.slice aL nL cL) 31)
  have H := Lib.hid h
  have Hl := Lib.hid hl
  have Hlw := Lib.hid hlw
  have Hll := Lib.hid hll
  clear h hl hlw hll
  have hX2 := hX1.out.alloc (.cells #[] 3)
  have c0 := hX2.c0
  have c1 := hX2.c1
  have c2 := hX2.c2
  have hnil := own_nil0 (w.alloc (.cells #[.slice aP nP cP, .slice aW nW cW, .slice aL nL cL] 31))
  rw [show (w.alloc (.cells #[.slice aP nP cP, .slice aW nW cW, .slice aL nL cL] 31)).heap.size = w.heap.size + 1 by simp] at hnil
  have hbb : Below w.heap.size w ((w.alloc (.cells #[.slice aP nP cP, .slice aW nW cW, .slice aL nL cL] 31)).alloc (.cells #[] 3)) := hb1.alloc (by simp) _
  go_enter Try.func47, Try.ntmps47
  go_wp2_with fail
  have HX2 := Lib.hid hX2
  have Hnil := Lib.hid hnil
  clear hX2 c0 c1 c2 hnil hb1 hX1
  generalize ((w.alloc (.cells #[.slice aP nP cP, .slice aW nW cW, .slice aL nL cL] 31)).alloc (.cells #[] 3)) = w2 at *
  refine (spec_l6Market _ _ _ _ _ _ _ _ _ ps ws l _ (H.out.below hbb)).mono ?_
  rintro e w3 ⟨rfl, hb3⟩
  have hX3 := HX2.out.below hb3
  have d0 := hX3.c0
  have d1 := hX3.c1
  have d2 := hX3.c2
  have HX3 := Lib.hid hX3
  have HN3 := Lib.hid (Hnil.out.below hb3)
  have hb13 := hbb.trans (hb3.mono hbb.size)
  clear HX2 hX3 hb3 Hnil
  cases hM : mktB ps ws l
  · have Hv := Lib.hid (claims_no1 (s := s) hM)
    clear hM
    go_wp2_with fail
    go_ret2
    exact ⟨_, by rw [Hv.out]; rfl, by rw [claimsV_no Hv.out]; exact HN3.out.mono (by omega), hb13⟩
  have HM := Lib.hid hM
  have hmt := mktB_t hM
  have hn24 := hmt.1.n24
  have HTr := Lib.hid hmt.1
  have Hlb := Lib.hid hmt.2.2
  have hnL : nP = nL := by have := Hll.out; have := hmt.2.1; have := Hl.out; omega
  have hnP : nP ≤ 24 := by have := Hl.out; omega
  clear hM hmt hn24 hpn hwn hln
  subst hnL
  cases hS : inB s 0 20
  · have Hv := Lib.hid (claims_no2 (ps := ps) (ws := ws) (l := l) hS)
    have HS := Lib.hid hS
    clear hS
    go_wp2_with (go_at_call 57; refine (spec_l1In _ _ _ _).mono ?_; rintro e w' ⟨rfl, rfl⟩; rw [HS.out])
    go_ret2
    exact ⟨_, by rw [Hv.out]; rfl, by rw [claimsV_no Hv.out]; exact HN3.out.mono (by omega), hb13⟩
  have Hv := Lib.hid (claims_yes HM.out hS)
  have Hcv := Lib.hid (claimsV_yes (g := putG s) Hv.out)
  have hsb := inB_t hS
  have HS := Lib.hid hS
  clear hS
  go_wp2_with (go_at_call 57; refine (spec_l1In _ _ _ _).mono ?_; rintro e w' ⟨rfl, rfl⟩; rw [HS.out])
  refine (spec_l6EndPrices _ _ _ _ _ _ _ _ _ ps ws l _ (H.out.below hb13) HTr.out rfl).mono ?_
  rintro e w5 ⟨v5, rfl, o5, b5⟩
  obtain ⟨a5, c5, rfl⟩ := o5.shape
  have hel : (endM shareG l (ends ps)).length = (ends ps).length := endM_length _ _ _
  rw [hel] at o5 ⊢
  have hb15 := hb13.trans (b5.mono hb13.size)
  have HO := Lib.hid (HN3.out.below b5)
  have HE := Lib.hid o5.ints
  have hsz5 : w.heap.size + 1 ≤ w5.heap.size := Nat.le_of_lt HO.out.lt.2
  have hap0 : Hid (0 < (ends ps).length → Apart a5 (.slice (some ⟨w.heap.size + 1, 0, none⟩) 0 0)) := Lib.hid fun h0 p hp e => by
    obtain ⟨gg, cap, he, hg, _⟩ := o5.form (by rw [hel]; exact h0)
    have h4 := HN3.out.lt.2
    obtain rfl := (Value.slice.inj he).1
    cases hp
    simp [Value.ownBlock] at e
    omega
  have HEm : Hid (∀ i, i < (ends ps).length → ∃ j : Nat, j < nP ∧ nth (ends ps) i = j ∧ nth (endM shareG l (ends ps)) i = nth l j) := Lib.hid fun i hi => by
    obtain ⟨j, h1, _, h3'⟩ := nth_filt hi
    have h3 : nth (ends ps) i = (j : Int) := h3'
    refine ⟨j, by have := Hl.out; omega, h3, ?_⟩
    have h4 := endM_succ shareG l (ends ps) hi
    have h5 : nth (endM shareG l ((ends ps).take (i + 1))) i = nth l j := by
      rw [h4]
      have h6 := nth_append_r (xs := endM shareG l ((ends ps).take i)) (y := shareG (nth l (nth (ends ps) i).toNat))
      rw [endM_length, List.length_take, Nat.min_eq_left (by omega), h3, Int.toNat_natCast] at h6
      rw [h3, Int.toNat_natCast]
      exact h6
    have h7 : endM shareG l ((ends ps).take (i + 1)) = (endM shareG l (ends ps)).take (i + 1) := by unfold endM; rw [List.map_take]
    rw [h7, nth_take (by omega)] at h5
    exact h5
  have hEL : (ends ps).length ≤ 24 := by have := ends_le ps; have := Hl.out; omega
  clear o5 b5 HN3 hel
  have HQ : Hid (endM shareG l (ends ps) = endM shareG l (ends ps)) := Lib.hid rfl
  obtain ⟨E, hE⟩ : ∃ E, E = ends ps := ⟨_, rfl⟩
  rw [← hE] at HE hap0 HEm hEL Hcv ⊢
  clear hE HQ
  generalize endM shareG l E = Q at *
  go_wp2_with fail
  go_loopw [6, 8] (fun v5 v7 wr => ∃ i : Nat, i ≤ E.length ∧ v7 = .int .i64 (i : Int) ∧ Own wr (w.heap.size + 1) v5 (endM (putG s) l (E.take i)) ∧ Ints wr a5 E.length Q ∧ (0 < E.length → Apart a5 v5) ∧ Below w.heap.size w wr ∧ w.heap.size + 1 ≤ wr.heap.size) (fun _ v7 _ => E.length - (intOf v7).toNat)
  case atStart => exact ⟨0, Nat.zero_le _, rfl, HO.out, HE.out, hap0.out, hb15, hsz5⟩
  case round =>
    clear HO HE hap0 hb15 hsz5
    obtain ⟨i, hi, rfl, hou, hen, hap, hbel, hsz⟩ := hrel
    have HE := Lib.hid hen
    have Hap := Lib.hid hap
    clear hen hap
    by_cases hlt : (i : Int) < E.length
    · obtain ⟨bE, oE, rfl, hcE⟩ := HE.out.at (i := i) (Below.refl _ _) (by omega)
      obtain ⟨x, hx, hxn, hxq⟩ := HEm.out i (by omega)
      rw [hxq] at hcE
      have hlx := Hlb.out x
      have hsu := endM_succ (putG s) l E (i := i) (by omega)
      rw [hxn, Int.toNat_natCast] at hsu
      have hel := endM_length (putG s) l (E.take i)
      rw [List.length_take, Nat.min_eq_left (by omega)] at hel
      have hmo : most (s - nth l x) 0 = putG s (nth l x) := by rw [most_eq]; unfold putG; omega
      have Hsu := Lib.hid hsu
      clear hsu hxn hxq
      generalize putG s (nth l x) = gv at *
      generalize nth l x = p at *
      go_wp2_with (first | (go_at_call 82; refine (spec_l1Most _ _ _).mono ?_; rintro e w' ⟨rfl, rfl⟩; rw [hmo]) | (at_builtin; refine wp_push2 _ _ rfl rfl (w.heap.size + 1) _ _ rfl hou rfl (by omega) hsz ?_; intro v' w' ho hb hm))
      have hE2 := HE.out.moved hm Hap.out
      go_roundw
      case rel => exact ⟨i + 1, by omega, by go_num, by rw [Hsu.out]; exact ho, hE2.1, hE2.2, hbel.trans (hb.mono (by omega)), Nat.le_trans hsz hb.size⟩
      case measure => simp [intOf]; omega
    · obtain rfl : i = E.length := by omega
      rw [List.take_length] at hou
      have HO2 := Lib.hid hou
      clear hou
      go_wp2_with fail
      go_ret2
      exact ⟨_, by rw [Hv.out]; rfl, by rw [Hcv.out]; exact HO2.out.mono (by omega), hbel⟩
end Go.Proofs.Ytfnmhoidgnihoaa
