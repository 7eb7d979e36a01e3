/- Contracts and plain laws for the statement FnStoppedMeans, part 13. No conditions but those stated in each. -/
import Derived.Test.YtnbomleieianoaaGreatBnFnStoppedMeans9
import Derived.Test.YtnbomleieianoaaGreatBnFnStoppedMeans10
import Derived.Test.YtnbomleieianoaaGreatBnFnStoppedMeans4
import Derived.Test.YtnbomleieianoaaGreatBnFnStoppedMeans11
import Derived.Test.YtnbomleieianoaaGreatBnFnStoppedMeans15
/- Contracts: the mean of a rule, of the program and of the reference. -/
namespace Go.Proofs.YtnbomleieianoaaGreat
open Go.RowKit

/-- The sum of the first k numbers at the nodes of a rule, each times its node's sum. -/
def mS (s l rule : List Int) : Nat → Int
  | 0 => 0
  | k + 1 => mS s l rule k + nth s (nth rule k).toNat * nth l (nth rule k).toNat
theorem mS_bd {ps ws l rule : List Int} (h : Tr ps ws) (hl : ∀ i, -999 ≤ nth l i ∧ nth l i ≤ 999) : ∀ k : Nat, -(479520 * (k : Int)) ≤ mS (sums ps ws) l rule k ∧ mS (sums ps ws) l rule k ≤ 479520 * (k : Int)
  | 0 => by simp [mS]
  | k + 1 => by
    have ih := mS_bd (rule := rule) h hl k
    have h1 := mul_abs (B := 999) (U := 480) (hl (nth rule k).toNat) (sums_bd h (nth rule k).toNat) (by omega)
    rw [Int.mul_comm (nth l (nth rule k).toNat)] at h1
    rw [mS, Int.natCast_add, Int.mul_add]; simp only [Int.natCast_one, Int.mul_one]; omega
theorem ris_ge {l : List Int} (h : risB l = true) (h0 : ∀ i, i < l.length → 0 ≤ nth l i) : ∀ i : Nat, i < l.length → (i : Int) ≤ nth l i
  | 0, hi => h0 0 hi
  | i + 1, hi => by
    have ih := ris_ge h h0 i (by omega)
    have := ris_get h (i := i + 1) (by omega) hi
    rw [show i + 1 - 1 = i by omega] at this
    omega
theorem stop_len {ps rule : List Int} (h : stopB ps rule = true) : rule.length ≤ ps.length ∧ (∀ i, i < rule.length → 0 ≤ nth rule i ∧ nth rule i < (ps.length : Int)) := by
  have ha : allIn rule 0 ((ps.length : Int) - 1) = true := by
    cases ha : allIn rule 0 ((ps.length : Int) - 1)
    · rw [stop_no2 ha] at h; cases h
    · rfl
  have hr : risB rule = true := by
    cases hr : risB rule
    · rw [stop_no1 hr] at h; cases h
    · rfl
  have hb := fun i hi => all_in (l := rule) ha (i := i) hi
  refine ⟨?_, fun i hi => by have := hb i hi; omega⟩
  rcases Nat.eq_zero_or_pos rule.length with h0 | h0
  · omega
  · have h1 := ris_ge hr (fun i hi => (hb i hi).1) (rule.length - 1) (by omega)
    have h2 := hb (rule.length - 1) (by omega)
    omega
def rmB (ps ws l rule : List Int) : Bool := paysB ps ws l && stopB ps rule
def rmS (ps ws l rule : List Int) : Int := mS (sums ps ws) l rule rule.length
def rmN (ps ws l rule : List Int) : Int := if rmB ps ws l rule then nm (rmS ps ws l rule) (nth (sums ps ws) 0) else 0
def rmD (ps ws l rule : List Int) : Int := if rmB ps ws l rule then dn (rmS ps ws l rule) (nth (sums ps ws) 0) else 0
theorem rm_no {ps ws l rule : List Int} (h : rmB ps ws l rule = false) : rmN ps ws l rule = 0 ∧ rmD ps ws l rule = 0 := by unfold rmN rmD; rw [h]; exact ⟨rfl, rfl⟩
theorem rm_yes {ps ws l rule : List Int} (h : rmB ps ws l rule = true) : rmN ps ws l rule = nm (rmS ps ws l rule) (nth (sums ps ws) 0) ∧ rmD ps ws l rule = dn (rmS ps ws l rule) (nth (sums ps ws) 0) := by unfold rmN rmD; rw [h]; exact ⟨rfl, rfl⟩
theorem rmB_no1 {ps ws l rule : List Int} (h : paysB ps ws l = false) : rmB ps ws l rule = false := by rw [rmB, h]; rfl
theorem rmB_no2 {ps ws l rule : List Int} (h : stopB ps rule = false) : rmB ps ws l rule = false := by rw [rmB, h]; simp
theorem rmB_yes {ps ws l rule : List Int} (h1 : paysB ps ws l = true) (h2 : stopB ps rule = true) : rmB ps ws l rule = true := by rw [rmB, h1, h2]; rfl
set_option maxRecDepth 100000 in
set_option maxHeartbeats 2000000 in
theorem impl_StoppedMean (aP : Option Addr) (nP cP : Nat) (aW : Option Addr) (nW cW : Nat) (ps ws : List Int) (aL : Option Addr) (nL cL : Nat) (l : List Int) (aS : Option Addr) (nS cS : Nat) (rule : List Int) (w : World) (h : Tre w aP nP cP aW nW cW ps ws) (hL : Ints w aL nL l) (_hLc : aL = none → cL = 0) (hn : nL ≤ 1048576) (hS : Ints w aS nS rule) (_hSc : aS = none → cS = 0) (hnS : nS ≤ 1048576) :
    Calls Tryz.prog 8 #[.agg #[.slice aP nP cP, .slice aW nW cW], .slice aL nL cL, .slice aS nS cS] w fun e w' => e = .returned (.tuple #[.agg #[.int .i64 (rmN ps ws l rule), .int .i64 (rmD ps ws l rule)], .bool (rmB ps ws l rule)]) ∧ Below w.heap.size w w' := by
  have HS := Lib.hid hS
  have hSl := Lib.hid hS.1
  clear hS
  have hl := h.p.1
  have hlw := h.w.1
  have hpn := h.pn
  have hwn := h.wn
  have hb1 := below_new w (.cells #[.slice aP nP cP, .slice aW nW cW] 26)
  have hP1 := Lib.hid (Pair.new w (.slice aP nP cP) (.slice aW nW cW) 26)
  have H := Lib.hid h
  have Hl := Lib.hid hl
  have Hlw := Lib.hid hlw
  clear h hl hlw
  have HL := Lib.hid hL
  have hll := Lib.hid hL.1
  clear hL
  have hlt2 := hP1.out.lt
  go_enter Tryz.func8, Tryz.ntmps8
  have hbb := hb1.trans ((below_new (w.alloc (.cells #[.slice aP nP cP, .slice aW nW cW] 26)) (.cells #[.int .i64 0, .int .i64 0] 29)).mono hb1.size)
  have hPP := Lib.hid (hP1.out.alloc (.cells #[.int .i64 0, .int .i64 0] 29))
  have hR1 := Pair.new (w.alloc (.cells #[.slice aP nP cP, .slice aW nW cW] 26)) (.int .i64 0) (.int .i64 0) 29
  rw [show (w.alloc (.cells #[.slice aP nP cP, .slice aW nW cW] 26)).heap.size = w.heap.size + 1 by simp] at hR1
  have HR1 := Lib.hid hR1
  have c0 := hPP.out.c0
  have c1 := hPP.out.c1
  clear hb1 hP1 hlt2 hR1
  go_wp2_with fail
  generalize ((w.alloc (.cells #[.slice aP nP cP, .slice aW nW cW] 26)).alloc (.cells #[.int .i64 0, .int .i64 0] 29)) = w2 at *
  have hlt2 := hPP.out.lt
  refine (impl_IsTree _ _ _ _ _ _ ps ws _ (H.out.below hbb)).mono ?_
  rintro e w3 ⟨rfl, hb3⟩
  have hP3 := hPP.out.below hb3
  have d0 := hP3.c0
  have d1 := hP3.c1
  have HP3 := Lib.hid hP3
  have HR := Lib.hid (HR1.out.below hb3)
  have hb13 := hbb.trans (hb3.mono hbb.size)
  clear hP3 c0 c1 hb3 HR1 hPP hbb
  cases hT : treeB ps ws
  · have Hno := Lib.hid (pays_no1 (l := l) hT)
    clear hT
    have p3 := HR.out
    have q3 := p3.c0
    have q4 := p3.c1
    have q5 := p3.f0
    have q6 := p3.f1
    have hr := p3.set (.int .i64 0) (.int .i64 0)
    clear p3
    go_wp2_with fail
    exact bodyPost_ret (v := .tuple #[.agg #[.int .i64 0, .int .i64 0], .bool false]) (by simp [results, Tryz.results8, go_sem, hr.1, hr.2]) rfl ⟨by obtain ⟨z1, z2⟩ := rm_no (rule := rule) (rmB_no1 (rule := rule) Hno.out); rw [z1, z2, rmB_no1 Hno.out], (hb13.setCell (by simp) _).setCell (by simp) _⟩
  have HT := Lib.hid hT
  clear hT
  go_wp2_with fail
  refine (impl_isProcess _ _ _ _ _ _ ps ws _ _ _ l _ (H.out.below hb13) (HL.out.below hb13) hn).mono ?_
  rintro e w4 ⟨rfl, hb4⟩
  have hb14 := hb13.trans (hb4.mono hb13.size)
  have hP4 := HP3.out.below hb4
  have e0 := hP4.c0
  have e1 := hP4.c1
  have HP := Lib.hid hP4
  have HR4 := Lib.hid (HR.out.below hb4)
  clear d0 d1 hP4 hb4 HR HP3
  have HR := HR4
  clear HR4
  cases hp : procB ps.length l
  · have Hno := Lib.hid (pays_no2 (ws := ws) hp)
    clear hp
    have p3 := HR.out
    have q3 := p3.c0
    have q4 := p3.c1
    have q5 := p3.f0
    have q6 := p3.f1
    have hr := p3.set (.int .i64 0) (.int .i64 0)
    clear p3
    go_wp2_with fail
    exact bodyPost_ret (v := .tuple #[.agg #[.int .i64 0, .int .i64 0], .bool false]) (by simp [results, Tryz.results8, go_sem, hr.1, hr.2]) rfl ⟨by obtain ⟨z1, z2⟩ := rm_no (rule := rule) (rmB_no1 (rule := rule) Hno.out); rw [z1, z2, rmB_no1 Hno.out], (hb14.setCell (by simp) _).setCell (by simp) _⟩
  have Hpays := Lib.hid (pays_both HT.out hp)
  have hpp := procB_t hp
  have hTr := treeB_t HT.out
  have hn24 := hTr.n24
  have hn1 := hTr.n1
  have hnL : nP = nL := by have := hll.out; have := hpp.1; have := Hl.out; omega
  have hnW : nP = nW := by have := Hlw.out; have := hTr.wl; have := Hl.out; omega
  have hnP : 1 ≤ nP ∧ nP ≤ 24 := by have := Hl.out; omega
  have Hpp := Lib.hid hpp
  have HTr := Lib.hid hTr
  have HnW := Lib.hid hnW
  have hnW2 : nP ≤ nW := by omega
  clear hp hpp hn24 hn1 hTr hpn hwn hnW
  subst hnL
  go_wp2_with fail
  refine (impl_isStopping _ _ _ _ _ _ ps ws _ _ _ rule _ (H.out.below hb14) HTr.out.toPa (HS.out.below hb14) hnS).mono ?_
  rintro e w5 ⟨rfl, b5⟩
  have hb15 := hb14.trans (b5.mono hb14.size)
  have HP5 := Lib.hid (HP.out.below b5)
  have HR5 := Lib.hid (HR.out.below b5)
  clear HP HR e0 e1 b5
  have HR := HR5
  clear HR5
  cases hst : stopB ps rule
  · have Hno := Lib.hid (rmB_no2 (ws := ws) (l := l) hst)
    clear hst
    have p3 := HR.out
    have q3 := p3.c0
    have q4 := p3.c1
    have q5 := p3.f0
    have q6 := p3.f1
    have hr := p3.set (.int .i64 0) (.int .i64 0)
    clear p3
    go_wp2_with fail
    exact bodyPost_ret (v := .tuple #[.agg #[.int .i64 0, .int .i64 0], .bool false]) (by simp [results, Tryz.results8, go_sem, hr.1, hr.2]) rfl ⟨by obtain ⟨z1, z2⟩ := rm_no (id Hno.out); rw [z1, z2, id Hno.out], (hb15.setCell (by simp) _).setCell (by simp) _⟩
  have Hst := Lib.hid hst
  have hsln := stop_len hst
  have hsn : nS ≤ 24 := by have := hSl.out; have := Hl.out; omega
  have Hsb : Hid (∀ i, i < nS → ∃ x : Nat, x < nP ∧ nth rule i = (x : Int)) := Lib.hid fun i hi => by
    have := hsln.2 i (by have := hSl.out; omega)
    exact ⟨(nth rule i).toNat, by have := Hl.out; omega, by omega⟩
  clear hst hsln
  have d0 := HP5.out.c0
  have d1 := HP5.out.c1
  have Hsl : Hid ((sums ps ws).length = nP) := Lib.hid (by rw [sums_length HTr.out]; exact Hl.out)
  go_wp2_with fail
  refine (impl_sums _ _ _ _ _ _ ps ws _ (H.out.below hb15) HTr.out).mono ?_
  rintro e w6 ⟨v6, rfl, o6, b6⟩
  obtain ⟨a6, c6, rfl⟩ := o6.shape
  rw [Hsl.out] at o6 ⊢
  have HG := Lib.hid o6.ints
  have hb16 := hb15.trans (b6.mono hb15.size)
  have HP6 := Lib.hid (HP5.out.below b6)
  have HR6 := Lib.hid (HR.out.below b6)
  clear HP5 HR d0 d1 b6 o6
  have HR := HR6
  clear HR6
  have Hbd : Hid (∀ k : Nat, k ≤ 24 → -11508480 ≤ mS (sums ps ws) l rule k ∧ mS (sums ps ws) l rule k ≤ 11508480) := Lib.hid fun k hk => by have := mS_bd (rule := rule) HTr.out Hpp.out.2 k; omega
  have Hmu : Hid (∀ x : Nat, -479520 ≤ nth l x * nth (sums ps ws) x ∧ nth l x * nth (sums ps ws) x ≤ 479520) := Lib.hid fun x => mul_abs (B := 999) (U := 480) (Hpp.out.2 x) (sums_bd HTr.out x) (by omega)
  go_wp2_with fail
  have Hmul0 : Hid (mS (sums ps ws) l rule 0 = 0) := Lib.hid rfl
  have Hstep : Hid (∀ (k x : Nat), k < nS → nth rule k = (x : Int) → mS (sums ps ws) l rule (k + 1) = mS (sums ps ws) l rule k + nth l x * nth (sums ps ws) x) := Lib.hid fun k x hk hx => by
    rw [mS, hx, Int.toNat_natCast, Int.mul_comm (nth l x)]
  have Hend : Hid (rmS ps ws l rule = mS (sums ps ws) l rule nS) := Lib.hid (by rw [rmS, hSl.out])
  go_loopw [8, 32] (fun v8 v32 wr => ∃ k : Nat, k ≤ nS ∧ v8 = .int .i64 (mS (sums ps ws) l rule k) ∧ v32 = .int .i64 (k : Int) ∧ Below w6.heap.size w6 wr) (fun _ v32 _ => nS - (intOf v32).toNat)
  case atStart => exact ⟨0, Nat.zero_le _, by rw [Hmul0.out], rfl, Below.refl _ _⟩
  case round =>
    obtain ⟨k, hk, rfl, rfl, hbel⟩ := hrel
    have hbelw := hb16.trans (hbel.mono hb16.size)
    by_cases hlt : (k : Int) < nS
    · obtain ⟨b1, o1, rfl, hc1⟩ := HS.out.at (i := k) hbelw (by omega)
      obtain ⟨x, hx, hxe⟩ := Hsb.out k (by omega)
      rw [hxe] at hc1
      obtain ⟨b2, o2, rfl, hc2⟩ := HL.out.at (i := x) hbelw (by omega)
      obtain ⟨b3, o3, rfl, hc3⟩ := HG.out.at (i := x) hbel (by omega)
      have Hst2 := Lib.hid (Hstep.out k x (by omega) hxe)
      have h1 := Hbd.out k (by omega)
      have h2 := Hmu.out x
      clear hxe
      generalize mS (sums ps ws) l rule k = sm at *
      generalize hu : nth l x = u at *
      generalize hv : nth (sums ps ws) x = v at *
      have k1 : IntKind.i64.wrap (u * v) = u * v := IntWalk.i64_in _ (by omega)
      have k2 : IntKind.i64.wrap (sm + u * v) = sm + u * v := IntWalk.i64_in _ (by omega)
      have k3 : (0 : Int) ≤ (x : Int) := by omega
      have k4 : (x : Int) < (nP : Int) := by omega
      clear hu hv h1 h2
      go_wp2_with fail
      go_quiet (fail)
      go_wp2_with fail
      go_roundw
      case rel => exact ⟨k + 1, by omega, by rw [Hst2.out], by go_num, below_drewN hbel _⟩
      case measure => simp [intOf]; omega
    · obtain rfl : k = nS := by omega
      have hbd := Hbd.out k hsn
      have hsb := sums_bd HTr.out 0
      have hsp := sums_pos HTr.out 0 (by have := Hl.out; omega)
      have hgb := rmB_yes Hpays.out Hst.out
      obtain ⟨z1, z2⟩ := rm_yes hgb
      rw [Hend.out] at z1 z2
      have Hlow : Hid (∀ W : World, Calls Tryz.prog 73 #[.int .i64 (mS (sums ps ws) l rule k), .int .i64 (nth (sums ps ws) 0)] W fun e w' => e = .returned (.tuple #[.agg #[.int .i64 (rmN ps ws l rule), .int .i64 (rmD ps ws l rule)], .bool true]) ∧ Below W.heap.size W w') := Lib.hid fun W => by
        rw [z1, z2]
        exact impl_lowest_s _ _ W (by omega) (by omega)
      obtain ⟨b3, o3, rfl, hc3⟩ := HG.out.at (i := 0) hbel (by omega)
      have Hgb := Lib.hid hgb
      clear hbd hsb hsp hgb z1 z2
      generalize hgn : rmN ps ws l rule = gn at *
      generalize hgd : rmD ps ws l rule = gd at *
      have Hgn := Lib.hid hgn
      have Hgd := Lib.hid hgd
      clear hgn hgd Hbd Hmu Hstep Hend Hmul0
      generalize mS (sums ps ws) l rule k = gs at *
      generalize nth (sums ps ws) 0 = s0 at *
      have hR := HR.out.below hbel
      rw [Nat.add_zero] at hc3
      go_wp2_with (go_at_call 73; refine (Hlow.out _).mono ?_; rintro e w9 ⟨rfl, b9⟩
                   have hb9 := hbelw.trans (b9.mono hbelw.size)
                   have hR9 := hR.below b9
                   have q3 := hR9.c0
                   have q4 := hR9.c1
                   have q5 := hR9.f0
                   have q6 := hR9.f1
                   have hr := hR9.set (.int .i64 gn) (.int .i64 gd))
      exact bodyPost_ret (v := .tuple #[.agg #[.int .i64 gn, .int .i64 gd], .bool true]) (by simp [results, Tryz.results8, go_sem, hr.1, hr.2]) rfl ⟨by rw [Hgb.out, Hgn.out, Hgd.out], (hb9.setCell (by simp) _).setCell (by simp) _⟩
end Go.Proofs.YtnbomleieianoaaGreat

/- Contracts: the mean of a rule: RuleMean. -/
namespace Go.Proofs.YtnbomleieianoaaGreat
open Go.RowKit

end Go.Proofs.YtnbomleieianoaaGreat

/- Contract: the stopped mean, by the reference. -/
namespace Go.Proofs.YtnbomleieianoaaGreat
open Go.RowKit

set_option maxRecDepth 100000 in
set_option maxHeartbeats 2000000 in
theorem spec_StoppedMean (aP : Option Addr) (nP cP : Nat) (aW : Option Addr) (nW cW : Nat) (ps ws : List Int) (aL : Option Addr) (nL cL : Nat) (l : List Int) (aS : Option Addr) (nS cS : Nat) (rule : List Int) (w : World) (h : Tre w aP nP cP aW nW cW ps ws) (hL : Ints w aL nL l) (_hLc : aL = none → cL = 0) (hn : nL ≤ 1048576) (hS : Ints w aS nS rule) (_hSc : aS = none → cS = 0) (hnS : nS ≤ 1048576) :
    Calls Tryz.prog 9 #[.agg #[.slice aP nP cP, .slice aW nW cW], .slice aL nL cL, .slice aS nS cS] w fun e w' => e = .returned (.tuple #[.agg #[.int .i64 (rmN ps ws l rule), .int .i64 (rmD ps ws l rule)], .bool (rmB ps ws l rule)]) ∧ Below w.heap.size w w' := by
  have HS := Lib.hid hS
  have hSl := Lib.hid hS.1
  clear hS
  have hl := h.p.1
  have hlw := h.w.1
  have hpn := h.pn
  have hwn := h.wn
  have hb1 := below_new w (.cells #[.slice aP nP cP, .slice aW nW cW] 26)
  have hP1 := Lib.hid (Pair.new w (.slice aP nP cP) (.slice aW nW cW) 26)
  have H := Lib.hid h
  have Hl := Lib.hid hl
  have Hlw := Lib.hid hlw
  clear h hl hlw
  have HL := Lib.hid hL
  have hll := Lib.hid hL.1
  clear hL
  have hlt2 := hP1.out.lt
  go_enter Tryz.func9, Tryz.ntmps9
  have hbb := hb1.trans ((below_new (w.alloc (.cells #[.slice aP nP cP, .slice aW nW cW] 26)) (.cells #[.int .i64 0, .int .i64 0] 29)).mono hb1.size)
  have hPP := Lib.hid (hP1.out.alloc (.cells #[.int .i64 0, .int .i64 0] 29))
  have hR1 := Pair.new (w.alloc (.cells #[.slice aP nP cP, .slice aW nW cW] 26)) (.int .i64 0) (.int .i64 0) 29
  rw [show (w.alloc (.cells #[.slice aP nP cP, .slice aW nW cW] 26)).heap.size = w.heap.size + 1 by simp] at hR1
  have HR1 := Lib.hid hR1
  have c0 := hPP.out.c0
  have c1 := hPP.out.c1
  clear hb1 hP1 hlt2 hR1
  go_wp2_with fail
  generalize ((w.alloc (.cells #[.slice aP nP cP, .slice aW nW cW] 26)).alloc (.cells #[.int .i64 0, .int .i64 0] 29)) = w2 at *
  have hlt2 := hPP.out.lt
  refine (spec_l3Both _ _ _ _ _ _ ps ws _ _ _ l _ _ _ rule _ (H.out.below hbb) (HL.out.below hbb) hn (HS.out.below hbb) hnS).mono ?_
  rintro e w3 ⟨he, hb3⟩
  rw [show (paysB ps ws l && stopB ps rule) = rmB ps ws l rule from rfl] at he
  subst he
  have hP3 := hPP.out.below hb3
  have d0 := hP3.c0
  have d1 := hP3.c1
  have HR := Lib.hid (HR1.out.below hb3)
  have hb13 := hbb.trans (hb3.mono hbb.size)
  clear hP3 hb3 c0 c1 HR1 hPP hbb
  cases hT : rmB ps ws l rule
  · have Hno := Lib.hid hT
    clear hT
    have p3 := HR.out
    have q3 := p3.c0
    have q4 := p3.c1
    have q5 := p3.f0
    have q6 := p3.f1
    have hr := p3.set (.int .i64 0) (.int .i64 0)
    clear p3
    go_wp2_with fail
    exact bodyPost_ret (v := .tuple #[.agg #[.int .i64 0, .int .i64 0], .bool false]) (by simp [results, Tryz.results9, go_sem, hr.1, hr.2]) rfl ⟨by obtain ⟨z1, z2⟩ := rm_no (rule := rule) Hno.out; rw [z1, z2, Hno.out], (hb13.setCell (by simp) _).setCell (by simp) _⟩
  obtain ⟨hT1, hT2⟩ : paysB ps ws l = true ∧ stopB ps rule = true := by rw [rmB, Bool.and_eq_true] at hT; exact hT
  have hpt := paysB_t hT1
  have hTr := hpt.1
  have hn24 := hTr.n24
  have hn1 := hTr.n1
  have hnL : nP = nL := by have := hll.out; have := hpt.2.2.2.1; have := Hl.out; omega
  have hnP : 1 ≤ nP ∧ nP ≤ 24 := by have := Hl.out; omega
  have Hpl := Lib.hid hpt.2.2.2.2
  have HT := Lib.hid hTr
  have Hgb := Lib.hid hT
  have hsln := stop_len hT2
  have hsn : nS ≤ 24 := by have := hSl.out; have := Hl.out; omega
  have Hsb : Hid (∀ i, i < nS → ∃ x : Nat, x < nP ∧ nth rule i = (x : Int)) := Lib.hid fun i hi => by
    have := hsln.2 i (by have := hSl.out; omega)
    exact ⟨(nth rule i).toNat, by have := Hl.out; omega, by omega⟩
  have Hyes := Lib.hid (rm_yes hT)
  clear hT hT1 hT2 hpt hn24 hn1 hTr hpn hwn hsln
  subst hnL
  have Hsl : Hid ((sums ps ws).length = nP) := Lib.hid (by rw [sums_length HT.out]; exact Hl.out)
  go_wp2_with fail
  refine (spec_l2Sums _ _ _ _ _ _ ps ws _ (H.out.below hb13) HT.out).mono ?_
  rintro e w6 ⟨v6, rfl, o6, b6⟩
  obtain ⟨a6, c6, rfl⟩ := o6.shape
  rw [Hsl.out] at o6 ⊢
  have HG := Lib.hid o6.ints
  have hb16 := hb13.trans (b6.mono hb13.size)
  have HR6 := Lib.hid (HR.out.below b6)
  clear d0 d1 b6 o6 hb13 HR
  have HR := HR6
  clear HR6
  have Hbd : Hid (∀ k : Nat, k ≤ 24 → -11508480 ≤ mS (sums ps ws) l rule k ∧ mS (sums ps ws) l rule k ≤ 11508480) := Lib.hid fun k hk => by have := mS_bd (rule := rule) HT.out Hpl.out k; omega
  have Hmu : Hid (∀ x : Nat, -479520 ≤ nth (sums ps ws) x * nth l x ∧ nth (sums ps ws) x * nth l x ≤ 479520) := Lib.hid fun x => by rw [Int.mul_comm]; exact mul_abs (B := 999) (U := 480) (Hpl.out x) (sums_bd HT.out x) (by omega)
  have Hmul0 : Hid (mS (sums ps ws) l rule 0 = 0) := Lib.hid rfl
  have Hstep : Hid (∀ (k x : Nat), k < nS → nth rule k = (x : Int) → mS (sums ps ws) l rule (k + 1) = mS (sums ps ws) l rule k + nth (sums ps ws) x * nth l x) := Lib.hid fun k x hk hx => by
    rw [mS, hx, Int.toNat_natCast]
  have Hend : Hid (rmS ps ws l rule = mS (sums ps ws) l rule nS) := Lib.hid (by rw [rmS, hSl.out])
  have hsb := sums_bd HT.out 0
  have hsp := sums_pos HT.out 0 (by have := Hl.out; omega)
  have Hcut : Hid (∀ W : World, Calls Tryz.prog 76 #[.int .i64 (mS (sums ps ws) l rule nS), .int .i64 (nth (sums ps ws) 0)] W fun e w' => e = .returned (.agg #[.int .i64 (nm (rmS ps ws l rule) (nth (sums ps ws) 0)), .int .i64 (dn (rmS ps ws l rule) (nth (sums ps ws) 0))]) ∧ Below W.heap.size W w') := Lib.hid fun W => by
    rw [Hend.out]
    have := Hbd.out nS hsn
    exact spec_l2Cut _ _ W (by omega) (by omega)
  clear hsb hsp
  go_wp2_with fail
  go_loopw [9, 10] (fun v9 v10 wr => ∃ k : Nat, k ≤ nS ∧ v9 = .int .i64 (mS (sums ps ws) l rule k) ∧ v10 = .int .i64 (k : Int) ∧ Below w6.heap.size w6 wr) (fun _ v10 _ => nS - (intOf v10).toNat)
  case atStart => exact ⟨0, Nat.zero_le _, by rw [Hmul0.out], rfl, Below.refl _ _⟩
  case round =>
    obtain ⟨k, hk, rfl, rfl, hbel⟩ := hrel
    have hbelw := hb16.trans (hbel.mono hb16.size)
    by_cases hlt : (k : Int) < nS
    · obtain ⟨b1, o1, rfl, hc1⟩ := HS.out.at (i := k) hbelw (by omega)
      obtain ⟨x, hx, hxe⟩ := Hsb.out k (by omega)
      rw [hxe] at hc1
      obtain ⟨b2, o2, rfl, hc2⟩ := HL.out.at (i := x) hbelw (by omega)
      obtain ⟨b3, o3, rfl, hc3⟩ := HG.out.at (i := x) hbel (by omega)
      have Hst2 := Lib.hid (Hstep.out k x (by omega) hxe)
      have h1 := Hbd.out k (by omega)
      have h2 := Hmu.out x
      clear hxe
      generalize mS (sums ps ws) l rule k = sm at *
      generalize hu : nth l x = u at *
      generalize hv : nth (sums ps ws) x = v at *
      have k1 : IntKind.i64.wrap (v * u) = v * u := IntWalk.i64_in _ (by omega)
      have k2 : IntKind.i64.wrap (sm + v * u) = sm + v * u := IntWalk.i64_in _ (by omega)
      have k3 : (0 : Int) ≤ (x : Int) := by omega
      have k4 : (x : Int) < (nP : Int) := by omega
      have k5 : (0 : Int) ≤ (k : Int) := by omega
      clear hu hv h1 h2
      go_wp2_with fail
      go_quiet (fail)
      go_wp2_with fail
      go_roundw
      case rel => exact ⟨k + 1, by omega, by rw [Hst2.out], by go_num, below_drewN hbel _⟩
      case measure => simp [intOf]; omega
    · obtain rfl : k = nS := by omega
      obtain ⟨b3, o3, rfl, hc3⟩ := HG.out.at (i := 0) hbel (by omega)
      generalize hgn : nm (rmS ps ws l rule) (nth (sums ps ws) 0) = gn at *
      generalize hgd : dn (rmS ps ws l rule) (nth (sums ps ws) 0) = gd at *
      have Hgn := Lib.hid hgn
      have Hgd := Lib.hid hgd
      clear hgn hgd
      clear Hbd Hmu Hstep Hend Hmul0
      generalize mS (sums ps ws) l rule k = gs at *
      generalize hs0 : nth (sums ps ws) 0 = s0 at *
      have Hs0 := Lib.hid hs0
      clear hs0
      have hR := HR.out.below hbel
      rw [Nat.add_zero] at hc3
      go_wp2_with (go_at_call 76; refine (Hcut.out _).mono ?_; rintro e w9 ⟨rfl, b9⟩
                   have hb9 := hbelw.trans (b9.mono hbelw.size)
                   have hR9 := hR.below b9
                   have q3 := hR9.c0
                   have q4 := hR9.c1
                   have q5 := hR9.f0
                   have q6 := hR9.f1
                   have hr := hR9.set (.int .i64 gn) (.int .i64 gd))
      exact bodyPost_ret (v := .tuple #[.agg #[.int .i64 gn, .int .i64 gd], .bool true]) (by simp [results, Tryz.results9, go_sem, hr.1, hr.2]) rfl ⟨by rw [Hgb.out, Hyes.out.1, Hyes.out.2], (hb9.setCell (by simp) _).setCell (by simp) _⟩
end Go.Proofs.YtnbomleieianoaaGreat
