/- Contracts: claims by the prices of the ends, of the program and of the reference. -/
import Derived.Test.YtfnmhoidgnihoaaMkt2
import Derived.Test.YtfnmhoidgnihoaaTree7
import Derived.Test.YtfnmhoidgnihoaaB4
namespace Go.Proofs.Ytfnmhoidgnihoaa
open Go.RowKit

/-- A number for each of these nodes, by its price. -/
def endM (g : Int → Int) (l es : List Int) : List Int := es.map fun x => g (nth l x.toNat)
theorem endM_length (g : Int → Int) (l es : List Int) : (endM g l es).length = es.length := by simp [endM]
theorem endM_succ (g : Int → Int) (l es : List Int) {i : Nat} (h : i < es.length) : endM g l (es.take (i + 1)) = endM g l (es.take i) ++ [g (nth l (nth es i).toNat)] := by
  rw [take_succ_nth h, endM, List.map_append]; rfl
def claimsB (ps ws l : List Int) (s : Int) : Bool := mktB ps ws l && inB s 0 20
def claimsV (ps ws l : List Int) (s : Int) (g : Int → Int) : List Int := if claimsB ps ws l s then endM g l (ends ps) else []
theorem claims_no1 {ps ws l : List Int} {s : Int} (h : mktB ps ws l = false) : claimsB ps ws l s = false := by rw [claimsB, h]; rfl
theorem claims_no2 {ps ws l : List Int} {s : Int} (h : inB s 0 20 = false) : claimsB ps ws l s = false := by rw [claimsB, h]; simp
theorem claims_yes {ps ws l : List Int} {s : Int} (h1 : mktB ps ws l = true) (h2 : inB s 0 20 = true) : claimsB ps ws l s = true := by rw [claimsB, h1, h2]; rfl
theorem claimsV_no {ps ws l : List Int} {s : Int} {g : Int → Int} (h : claimsB ps ws l s = false) : claimsV ps ws l s g = [] := by rw [claimsV, h]; rfl
theorem claimsV_yes {ps ws l : List Int} {s : Int} {g : Int → Int} (h : claimsB ps ws l s = true) : claimsV ps ws l s g = endM g l (ends ps) := by rw [claimsV, h]; rfl
theorem ends_le (ps : List Int) : (ends ps).length ≤ ps.length := filt_length _ _
theorem claimsV_len {ps ws l : List Int} {s : Int} {g : Int → Int} : (claimsV ps ws l s g).length ≤ 1048576 := by
  cases h : claimsB ps ws l s
  · rw [claimsV_no h]; simp
  · rw [claimsV_yes h, endM_length]
    simp only [claimsB, Bool.and_eq_true] at h
    have := (mktB_t h.1).1.n24
    have := ends_le ps
    omega
set_option maxRecDepth 100000 in
set_option maxHeartbeats 2000000 in
theorem impl_endClaims (aP : Option Addr) (nP cP : Nat) (aW : Option Addr) (nW cW : Nat) (aL : Option Addr) (nL cL : Nat) (ps ws l : List Int) (s : Int) (f : FuncId) (caps : Array Value) (g : Int → Int) (w : World) (h : Mkt w aP nP cP aW nW cW aL nL cL ps ws l)
    (hcf : ∀ (args : Array Value) (W : World), (callFunc f args).run Try.prog W = .ok (.enter f args) W)
    (hst : ∀ (p : Int) (W : World), 0 ≤ p → p ≤ 20 → 0 ≤ s → s ≤ 20 → Below w.heap.size w W → Calls Try.prog f (#[.int .i64 p] ++ caps) W fun e w' => e = .returned (.int .i64 (g p)) ∧ Below W.heap.size W w') :
    Calls Try.prog 72 #[.agg #[.slice aP nP cP, .slice aW nW cW, .slice aL nL cL], .int .i64 s, .func (.func f) #[] caps] w fun e w' => ∃ v, e = .returned (.tuple #[v, .bool (claimsB ps ws l s)]) ∧ Own w' w.heap.size v (claimsV ps ws l s g) ∧ Below w.heap.size w w' := by
  have hl := h.t.p.1
  have hlw := h.t.w.1
  have hll := h.l.1
  have hpn := h.t.pn
  have hwn := h.t.wn
  have hln := h.ln
  have hb1 := below_new w (.cells #[.slice aP nP cP, .slice aW nW cW, .slice aL nL cL] 31)
  have hX1 := Lib.hid (Trip.new w (.slice aP nP cP) (.slice aW nW cW) (.slice aL nL cL) 31)
  have H := Lib.hid h
  have Hl := Lib.hid hl
  have Hlw := Lib.hid hlw
  have Hll := Lib.hid hll
  clear h hl hlw hll
  have Hst := Lib.hid hst
  clear hst
  have c0 := hX1.out.c0
  have c1 := hX1.out.c1
  have c2 := hX1.out.c2
  have hlt2 := hX1.out.lt
  go_enter Try.func72, Try.ntmps72
  go_wp2_with fail
  generalize (w.alloc (.cells #[.slice aP nP cP, .slice aW nW cW, .slice aL nL cL] 31)) = w2 at *
  refine (impl_IsMarket _ _ _ _ _ _ _ _ _ ps ws l _ (H.out.below hb1)).mono ?_
  rintro e w3 ⟨rfl, hb3⟩
  have hX3 := hX1.out.below hb3
  have d0 := hX3.c0
  have d1 := hX3.c1
  have HX3 := Lib.hid hX3
  have hb13 := hb1.trans (hb3.mono hb1.size)
  clear hX1 hX3 c0 c1 c2 hb3
  cases hM : mktB ps ws l
  · have Hv := Lib.hid (claims_no1 (s := s) hM)
    clear hM
    go_wp2_with fail
    go_ret2
    exact ⟨_, by rw [Hv.out]; rfl, by rw [claimsV_no Hv.out]; exact Own.nil _ _, hb13⟩
  have HM := Lib.hid hM
  have hmt := mktB_t hM
  have hn24 := hmt.1.n24
  have HTr := Lib.hid hmt.1
  have Hlb := Lib.hid hmt.2.2
  have hnL : nP = nL := by have := Hll.out; have := hmt.2.1; have := Hl.out; omega
  have hnP : nP ≤ 24 := by have := Hl.out; omega
  clear hM hmt hn24 hpn hwn hln
  subst hnL
  cases hS : inB s 0 20
  · have Hv := Lib.hid (claims_no2 (ps := ps) (ws := ws) (l := l) hS)
    have HS := Lib.hid hS
    clear hS
    go_wp2_with (go_at_call 64; refine (impl_within _ _ _ _).mono ?_; rintro e w' ⟨rfl, rfl⟩; rw [HS.out])
    go_ret2
    exact ⟨_, by rw [Hv.out]; rfl, by rw [claimsV_no Hv.out]; exact Own.nil _ _, hb13⟩
  have Hv := Lib.hid (claims_yes HM.out hS)
  have hsb := inB_t hS
  have HS := Lib.hid hS
  clear hS
  have hnil := own_nil0 w3
  have hbN := below_new w3 (.cells #[] 3)
  have hX4 := HX3.out.below hbN
  have e0 := hX4.c0
  have e1 := hX4.c1
  have hb14 := hb13.trans (hbN.mono hb13.size)
  have hw3 : w.heap.size < w3.heap.size := HX3.out.lt
  go_wp2_with (go_at_call 64; refine (impl_within _ _ _ _).mono ?_; rintro e w' ⟨rfl, rfl⟩; rw [HS.out])
  clear hbN HX3
  have HX4 := Lib.hid hX4
  have Hnil := Lib.hid hnil
  clear hX4 e0 e1 hnil
  generalize (w3.alloc (.cells #[] 3)) = w4 at *
  refine (impl_ends _ _ _ _ _ _ ps ws _ (H.out.t.below hb14) HTr.out.toPa).mono ?_
  rintro e w5 ⟨v5, rfl, o5, b5⟩
  obtain ⟨a5, c5, rfl⟩ := o5.shape
  have hb15 := hb14.trans (b5.mono hb14.size)
  have HX5 := Lib.hid (HX4.out.below b5)
  have HO := Lib.hid (Hnil.out.below b5)
  have HE := Lib.hid o5.ints
  have hsz5 : w3.heap.size ≤ w5.heap.size := Nat.le_of_lt HO.out.lt.2
  have hap0 : Hid (0 < (ends ps).length → Apart a5 (.slice (some ⟨w3.heap.size, 0, none⟩) 0 0)) := Lib.hid fun h0 p hp e => by
    obtain ⟨gg, cap, he, hg, _⟩ := o5.form h0
    have h4 := Hnil.out.lt.2
    cases he
    cases hp
    simp [Value.ownBlock] at e
    omega
  have HEm : Hid (∀ i, i < (ends ps).length → ∃ j : Nat, j < nP ∧ nth (ends ps) i = j) := Lib.hid fun i hi => by
    obtain ⟨j, h1, _, h3⟩ := nth_filt hi
    exact ⟨j, by have := Hl.out; omega, h3⟩
  have hEL : (ends ps).length ≤ 24 := by have := ends_le ps; have := Hl.out; omega
  have Hcv := Lib.hid (claimsV_yes (g := g) Hv.out)
  clear o5 b5 Hnil HX4
  obtain ⟨E, hE⟩ : ∃ E, E = ends ps := ⟨_, rfl⟩
  rw [← hE] at HE hap0 HEm hEL Hcv ⊢
  clear hE
  go_wp2_with fail
  go_loopw [8, 24] (fun v8 v24 wr => ∃ i : Nat, i ≤ E.length ∧ v24 = .int .i64 (i : Int) ∧ Own wr w3.heap.size v8 (endM g l (E.take i)) ∧ Ints wr a5 E.length E ∧ (0 < E.length → Apart a5 v8) ∧ Trip wr w.heap.size (.slice aP nP cP) (.slice aW nW cW) (.slice aL nP cL) ∧ Below w.heap.size w wr ∧ w3.heap.size ≤ wr.heap.size) (fun _ v24 _ => E.length - (intOf v24).toNat)
  case atStart => exact ⟨0, Nat.zero_le _, rfl, HO.out, HE.out, hap0.out, HX5.out, hb15, hsz5⟩
  case round =>
    clear HO HE hap0 HX5 hb15 hsz5
    obtain ⟨i, hi, rfl, hou, hen, hap, hX, hbel, hsz⟩ := hrel
    have c2 := hX.c2
    have HX := Lib.hid hX
    have HE := Lib.hid hen
    have Hap := Lib.hid hap
    have HO := Lib.hid hou
    clear hX hen hap hou
    by_cases hlt : (i : Int) < E.length
    · obtain ⟨bE, oE, rfl, hcE⟩ := HE.out.at (i := i) (Below.refl _ _) (by omega)
      obtain ⟨x, hx, hxn⟩ := HEm.out i (by omega)
      rw [hxn] at hcE
      obtain ⟨bL, oL, rfl, hcL⟩ := H.out.l.at (i := x) hbel (by omega)
      have hlx := Hlb.out x
      have hsu := endM_succ g l E (i := i) (by omega)
      rw [hxn, Int.toNat_natCast] at hsu
      have hel := endM_length g l (E.take i)
      rw [List.length_take, Nat.min_eq_left (by omega)] at hel
      have Hsu := Lib.hid hsu
      clear hsu hxn
      generalize nth l x = p at *
      go_wp2_with fail
      refine (Hst.out p _ hlx.1 hlx.2 hsb.1 hsb.2 hbel).mono ?_
      rintro e w7 ⟨rfl, b7⟩
      have hO7 := HO.out.below b7
      have HE7 := Lib.hid (HE.out.below b7)
      have HX7 := Lib.hid (HX.out.below b7)
      have hb17 := hbel.trans (b7.mono hbel.size)
      have hsz7 : w3.heap.size ≤ w7.heap.size := Nat.le_trans hsz b7.size
      clear HO HE HX hbel b7 hcE hcL c2
      go_wp2_with (at_builtin; refine wp_push2 _ _ rfl rfl w3.heap.size _ _ rfl hO7 rfl (by omega) hsz7 ?_; intro v' w' ho hb hm)
      have hE2 := HE7.out.moved hm Hap.out
      go_roundw
      case rel => exact ⟨i + 1, by omega, by go_num, by rw [Hsu.out]; exact ho, hE2.1, hE2.2, HX7.out.up hb (by omega), hb17.trans (hb.mono (by omega)), Nat.le_trans hsz7 hb.size⟩
      case measure => simp [intOf]; omega
    · obtain rfl : i = E.length := by omega
      have HO' := HO.out
      rw [List.take_length, ← Hcv.out] at HO'
      have HO2 := Lib.hid HO'
      clear HO' HO
      go_wp2_with fail
      go_ret2
      exact ⟨_, by rw [Hv.out]; rfl, HO2.out.mono hb13.size, hbel⟩
end Go.Proofs.Ytfnmhoidgnihoaa
