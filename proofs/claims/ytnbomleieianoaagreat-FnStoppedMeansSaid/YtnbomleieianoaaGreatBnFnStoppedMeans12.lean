/- Contracts and plain laws for the statement FnStoppedMeans, part 12. No conditions but those stated in each. -/
import Derived.Test.YtnbomleieianoaaGreatBnFnStoppedMeans5
import Derived.Test.YtnbomleieianoaaGreatBnFnStoppedMeans1
import Derived.Test.YtnbomleieianoaaGreatBnFnStoppedMeans4
import Derived.Deep.DeepCutAuto
import Derived.Deep.Cut
import Derived.Test.YtnbomleieianoaaGreatBnFnStoppedMeans10
import Derived.Test.YtnbomleieianoaaGreatBnFnStoppedMeans3
/- Contracts: do caps cover payments, by the program. -/
namespace Go.Proofs.YtnbomleieianoaaGreat
open Go.RowKit




/-- Sums, zeros and ends, just made, apart from each other. -/
def Three (u wc : World) (n : Nat) (ps ws : List Int) (v8 v9 v10 : Value) : Prop :=
  KeepR u wc ∧ ∃ (a8 : Option Addr) (c8 g9 : Nat) (a10 : Option Addr) (c10 : Nat), v8 = .slice a8 n c8 ∧ v9 = .slice (some ⟨g9, 0, none⟩) n n ∧ v10 = .slice a10 n c10 ∧ Ints wc a8 n (sums ps ws) ∧ Own wc u.heap.size v9 (List.replicate n 0) ∧ Bo.Ints wc a10 n (endsB ps) ∧
    (∀ p, a8 = some p → p.block ≠ g9) ∧ ∀ p, a10 = some p → p.block ≠ g9
theorem three_mk {u wc : World} {n : Nat} {ps ws : List Int} {v8 v10 : Value} {b8 b9 b10 g9 : Nat} (hk : KeepR u wc) (hs : (sums ps ws).length = n) (he : (endsB ps).length = n) (h8 : Own wc b8 v8 (sums ps ws)) (h9 : Own wc b9 (.slice (some ⟨g9, 0, none⟩) n n) (List.replicate n 0)) (h10 : Bo.Own wc b10 v10 (endsB ps)) (hb : u.heap.size ≤ b9)
    (s8 : ∀ g, v8.ownBlock = some g → g ≠ g9) (s10 : ∀ g, v10.ownBlock = some g → g ≠ g9) : Three u wc n ps ws v8 (.slice (some ⟨g9, 0, none⟩) n n) v10 := by
  obtain ⟨a8, c8, rfl⟩ := h8.shape
  obtain ⟨a10, c10, rfl⟩ := h10.shape
  rw [hs] at h8 s8 ⊢
  rw [he] at h10 s10 ⊢
  exact ⟨hk, a8, c8, g9, a10, c10, rfl, rfl, rfl, h8.ints, h9.mono hb, h10.bools, (fun p hp => by subst hp; exact s8 _ rfl), (fun p hp => by subst hp; exact s10 _ rfl)⟩

/-- Do caps cover payments? -/
def capOk (ps ws l caps : List Int) (x : Nat) : Bool := !(decide (nth caps x < nth (sums ps ws) x * nth l x) || (!endB ps x && decide (nth caps x < kidSum ps (fun y => nth caps y) x ps.length)))
def coverV (ps ws l caps : List Int) : Bool := paysB ps ws l && ((caps.length == ps.length && allIn caps (-1000000000) 1000000000) && (List.range ps.length).all (capOk ps ws l caps))
theorem coverV_no {ps ws l caps : List Int} (h : paysB ps ws l = false) : coverV ps ws l caps = false := by rw [coverV, h]; rfl
theorem coverV_len {ps ws l caps : List Int} (h : ¬ caps.length = ps.length) : coverV ps ws l caps = false := by simp [coverV, h]
theorem coverV_all {ps ws l caps : List Int} (h : allIn caps (-1000000000) 1000000000 = false) : coverV ps ws l caps = false := by simp [coverV, h]
theorem coverV_bad {ps ws l caps : List Int} {x : Nat} (hx : x < ps.length) (h : capOk ps ws l caps x = false) : coverV ps ws l caps = false := by
  have := all_f hx h
  rw [coverV, this]; simp
theorem coverV_yes {ps ws l caps : List Int} (h1 : paysB ps ws l = true) (h2 : caps.length = ps.length) (h3 : allIn caps (-1000000000) 1000000000 = true) (h4 : ∀ x, x < ps.length → capOk ps ws l caps x = true) : coverV ps ws l caps = true := by
  have := all_t h4
  rw [coverV, h1, h3, this, h2]; simp
end Go.Proofs.YtnbomleieianoaaGreat

/- Contracts: do caps cover payments, by the reference. -/
namespace Go.Proofs.YtnbomleieianoaaGreat
open Go.RowKit

theorem w_zero {ps ws : List Int} (h : Tr ps ws) {x : Nat} (hx : x < ps.length) : (nth ws x == 0) = !endB ps x := by
  cases he : endB ps x
  · rw [h.inner x hx he]; rfl
  · have := h.leaf x hx he
    have : (nth ws x == 0) = false := by rw [beq_eq_false_iff_ne]; omega
    rw [this]; rfl
end Go.Proofs.YtnbomleieianoaaGreat

/- Contracts: the first entry, by the program. -/
namespace Go.Proofs.YtnbomleieianoaaGreat
open Go.RowKit

/-- For the first k nodes whether something is so at them or ahead of them, then false. -/
def beL (ps : List Int) (S : Int → Bool) (n k : Nat) : List Bool := (List.range n).map fun y => decide (y < k) && behB ps S y
theorem beL_length (ps : List Int) (S : Int → Bool) (n k : Nat) : (beL ps S n k).length = n := by simp [beL]
theorem beL_zero (ps : List Int) (S : Int → Bool) (n : Nat) : List.replicate n false = beL ps S n 0 := Bo.ext_nth (by simp [beL]) fun i hi => by
  rw [List.length_replicate] at hi
  rw [Bo.nth_replicate, beL, Bo.nth_map_range hi]; simp
theorem nth_beL {ps : List Int} {S : Int → Bool} {n k y : Nat} (h : y < k) (hn : y < n) : Bo.nth (beL ps S n k) y = behB ps S y := by rw [beL, Bo.nth_map_range hn, decide_eq_true h, Bool.true_and]
theorem beL_t {ps : List Int} {S : Int → Bool} {n k : Nat} (h : k < n) (hb : behB ps S k = true) : beL ps S n (k + 1) = (beL ps S n k).set k true := Bo.ext_nth (by simp [beL]) fun j hj => by
  rw [beL_length] at hj
  rw [Bo.nth_set (by rw [beL_length]; exact h), beL, beL, Bo.nth_map_range hj, Bo.nth_map_range hj]
  by_cases e : k = j
  · subst e; rw [if_pos rfl, decide_eq_true (by omega), hb]; rfl
  · rw [if_neg e]
    have : decide (j < k + 1) = decide (j < k) := by rw [decide_eq_decide]; omega
    rw [this]
theorem beL_f {ps : List Int} {S : Int → Bool} {n k : Nat} (hb : behB ps S k = false) : beL ps S n (k + 1) = beL ps S n k := Bo.ext_nth (by simp [beL]) fun j hj => by
  rw [beL_length] at hj
  rw [beL, beL, Bo.nth_map_range hj, Bo.nth_map_range hj]
  by_cases e : k = j
  · subst e; rw [hb]; simp
  · have : decide (j < k + 1) = decide (j < k) := by rw [decide_eq_decide]; omega
    rw [this]
/-- A list without numbers, ends and falses, just made, apart from each other. -/
def ThreeF (u wc : World) (n : Nat) (ps : List Int) (v7 v8 v9 : Value) : Prop :=
  KeepR u wc ∧ ∃ (g7 : Nat) (a8 : Option Addr) (c8 g9 : Nat), v7 = .slice (some ⟨g7, 0, none⟩) 0 0 ∧ v8 = .slice a8 n c8 ∧ v9 = .slice (some ⟨g9, 0, none⟩) n n ∧ Own wc u.heap.size v7 [] ∧ Bo.Ints wc a8 n (endsB ps) ∧ Bo.Own wc u.heap.size v9 (List.replicate n false) ∧
    g7 ≠ g9 ∧ (∀ p, a8 = some p → p.block ≠ g7) ∧ ∀ p, a8 = some p → p.block ≠ g9
theorem threeF_mk {u wc : World} {n : Nat} {ps : List Int} {v8 : Value} {b7 b8 b9 g7 g9 : Nat} (hk : KeepR u wc) (he : (endsB ps).length = n) (h7 : Own wc b7 (.slice (some ⟨g7, 0, none⟩) 0 0) []) (h8 : Bo.Own wc b8 v8 (endsB ps)) (h9 : Bo.Own wc b9 (.slice (some ⟨g9, 0, none⟩) n n) (List.replicate n false)) (hb7 : u.heap.size ≤ b7) (hb9 : u.heap.size ≤ b9) (hne : g7 ≠ g9)
    (s7 : ∀ g, v8.ownBlock = some g → g ≠ g7 ∧ g ≠ g9) : ThreeF u wc n ps (.slice (some ⟨g7, 0, none⟩) 0 0) v8 (.slice (some ⟨g9, 0, none⟩) n n) := by
  obtain ⟨a8, c8, rfl⟩ := h8.shape
  rw [he] at h8 s7 ⊢
  exact ⟨hk, g7, a8, c8, g9, rfl, rfl, rfl, h7.mono hb7, h8.bools, h9.mono hb9, hne, (fun p hp => by subst hp; exact (s7 _ rfl).1), (fun p hp => by subst hp; exact (s7 _ rfl).2)⟩
/-- The stopping at the first numbers of at least a level. -/
def entryV (ps ws l : List Int) (lev : Int) : List Int := if paysB ps ws l then firsts ps (fS (levB ps l lev)) else []
theorem entryV_no {ps ws l : List Int} {lev : Int} (h : paysB ps ws l = false) : entryV ps ws l lev = [] := by rw [entryV, h]; rfl
theorem entryV_yes {ps ws l : List Int} {lev : Int} (h : paysB ps ws l = true) : entryV ps ws l lev = firsts ps (fS (levB ps l lev)) := by rw [entryV, h]; rfl
theorem entryV_len {ps ws l : List Int} {lev : Int} : (entryV ps ws l lev).length ≤ 1048576 := by
  cases h : paysB ps ws l
  · rw [entryV_no h]; simp
  · rw [entryV_yes h]; have := (paysB_t h).1.n24; have := firsts_length ps (fS (levB ps l lev)); omega
end Go.Proofs.YtnbomleieianoaaGreat

/- Contract: the rule that stops at the first node on each way at which something is so, by the program. -/
namespace Go.Proofs.YtnbomleieianoaaGreat
open Go.RowKit

/-- A list without numbers and falses, just made, apart from each other. -/
def TwoF (u wc : World) (n : Nat) (v5 v6 : Value) : Prop :=
  KeepR u wc ∧ ∃ g5 g6 : Nat, v5 = .slice (some ⟨g5, 0, none⟩) 0 0 ∧ v6 = .slice (some ⟨g6, 0, none⟩) n n ∧ g5 ≠ g6 ∧ Own wc u.heap.size v5 [] ∧ Bo.Own wc u.heap.size v6 (List.replicate n false)
end Go.Proofs.YtnbomleieianoaaGreat

/- Contracts: the drifts of a process, whether it is fair, by the program. -/
namespace Go.Proofs.YtnbomleieianoaaGreat
open Go.RowKit

set_option maxRecDepth 100000 in
set_option maxHeartbeats 2000000 in
theorem impl_drifts (aP : Option Addr) (nP cP : Nat) (aW : Option Addr) (nW cW : Nat) (ps ws : List Int) (aL : Option Addr) (nL cL : Nat) (l : List Int) (w : World) (h : Tre w aP nP cP aW nW cW ps ws) (hT : Tr ps ws) (hL : Ints w aL nL l) (hnL : nP = nL) (hl : ∀ i, -999 ≤ nth l i ∧ nth l i ≤ 999) :
    Calls Tryz.prog 90 #[.agg #[.slice aP nP cP, .slice aW nW cW], .slice aL nL cL] w fun e w' => ∃ v, e = .returned v ∧ Fr.Own w' w.heap.size v (driftL ps ws l) ∧ Below w.heap.size w w' := by
  subst hnL
  have HTT := Lib.hid hT
  have hn24 := hT.n24
  have hn1 := hT.n1
  have HT := Lib.hid hT
  have hwl := hT.wl
  have hl := h.p.1
  have hlw := h.w.1
  have hpn := h.pn
  have hwn := h.wn
  have hb1 := below_new w (.cells #[.slice aP nP cP, .slice aW nW cW] 26)
  have hP1 := Lib.hid (Pair.new w (.slice aP nP cP) (.slice aW nW cW) 26)
  have H := Lib.hid h
  have Hl := Lib.hid hl
  have Hlw := Lib.hid hlw
  clear h hl hlw
  have hnW : nW ≤ nP ∧ nP ≤ nW := by have := Hlw.out; have := Hl.out; omega
  have hnP : 1 ≤ nP ∧ nP ≤ 24 := by have := Hl.out; omega
  clear hn24 hn1 hT hwl hpn hwn
  have HL := Lib.hid hL
  have Hlb := Lib.hid hl
  have hnP : 1 ≤ nP ∧ nP ≤ 24 := by have := HTT.out.n24; have := HTT.out.n1; have := Hl.out; omega
  clear hL hl
  have Hsl : Hid ((sums ps ws).length = nP) := Lib.hid (by rw [sums_length HTT.out]; exact Hl.out)
  go_enter Tryz.func90, Tryz.ntmps90
  go_wp2_with fail
  have hnil := Fr.own_nil0 (w.alloc (.cells #[.slice aP nP cP, .slice aW nW cW] 26))
  rw [show (w.alloc (.cells #[.slice aP nP cP, .slice aW nW cW] 26)).heap.size = w.heap.size + 1 by simp] at hnil
  have hb2 : Below w.heap.size w ((w.alloc (.cells #[.slice aP nP cP, .slice aW nW cW] 26)).alloc (.cells #[] 29)) := hb1.alloc (by simp) _
  have hP2 := Lib.hid (hP1.out.alloc (.cells #[] 29))
  have hs2 : ((w.alloc (.cells #[.slice aP nP cP, .slice aW nW cW] 26)).alloc (.cells #[] 29)).heap.size = w.heap.size + 2 := by simp
  have c0 := hP2.out.c0
  have c1 := hP2.out.c1
  generalize ((w.alloc (.cells #[.slice aP nP cP, .slice aW nW cW] 26)).alloc (.cells #[] 29)) = w2 at *
  clear hP1 hb1
  go_wp2_with fail
  refine (impl_sums _ _ _ _ _ _ ps ws _ (H.out.below hb2) HTT.out).mono ?_
  rintro e w3 ⟨v3, rfl, ho3, hb3⟩
  obtain ⟨a6, c6, rfl⟩ := ho3.shape
  rw [Hsl.out] at ho3 ⊢
  have G6 := Lib.hid ho3.ints
  have HP3 := Lib.hid (hP2.out.below hb3)
  have HO3 := Lib.hid (hnil.below hb3)
  have hb13 := hb2.trans (hb3.mono hb2.size)
  have Hap0 : Hid (Apart a6 (Value.slice (some ⟨w.heap.size + 1, 0, none⟩) 0 0)) := Lib.hid fun p hp e => by
    obtain ⟨g, cap, he, hg, _⟩ := ho3.form (by rw [sums_length HTT.out]; have := Hl.out; omega)
    cases he
    cases hp
    simp [Value.ownBlock] at e
    omega
  have hs3 : w.heap.size + 2 ≤ w3.heap.size := by have := hb3.size; omega
  clear ho3 hnil hb3 hb2 hP2 hs2 c0 c1
  go_wp2_with fail
  go_loopw [5, 19] (fun v5 v19 wr => ∃ x : Nat, x ≤ nP ∧ v19 = .int .i64 (x : Int) ∧ Fr.Own wr (w.heap.size + 1) v5 ((driftL ps ws l).take x) ∧ Ints wr a6 nP (sums ps ws) ∧ Apart a6 v5 ∧ Pair wr w.heap.size (.slice aP nP cP) (.slice aW nW cW) ∧ Below w.heap.size w wr) (fun _ v19 _ => nP - (intOf v19).toNat)
  case atStart => exact ⟨0, Nat.zero_le _, rfl, by rw [List.take_zero]; exact HO3.out, G6.out, Hap0.out, HP3.out, hb13⟩
  case round =>
    clear HO3 G6 Hap0 HP3 hb13 hs3
    obtain ⟨x, hx, rfl, hou, h6, hap, hP, hbel⟩ := hrel
    have HP := Lib.hid hP
    have HO := Lib.hid hou
    have G6 := Lib.hid h6
    have Hap := Lib.hid hap
    have hsz : w.heap.size + 1 ≤ wr.heap.size := hP.lt
    have x0 := hP.c0
    have x1 := hP.c1
    clear hP hou h6 hap
    by_cases hlt : (x : Int) < nP
    · obtain ⟨wo, rfl⟩ : ∃ wo, wo = wr := ⟨_, rfl⟩
      go_upto_region 6 with fail
      go_wp2_with (go_at_call 145; refine (impl_children _ _ _ _ _ _ ps ws (x : Int) _ (H.out.below hbel) HTT.out.toPa (by omega)).mono ?_; rintro e w5 ⟨v5, rfl, ho5, hb5⟩; rw [Int.toNat_natCast] at ho5; obtain ⟨a7, c7, rfl⟩ := ho5.shape)
      have hb15 := hbel.trans (hb5.mono hbel.size)
      have K7 := Lib.hid ho5.ints
      have G6' := Lib.hid (G6.out.below hb5)
      have HP5 := Lib.hid (HP.out.below hb5)
      have HO5 := Lib.hid (HO.out.below hb5)
      have HL5 := Lib.hid (HL.out.below hb15)
      have hkl : (kids ps x).length ≤ 24 := by have := filt_length (fun y => nth ps y == (x : Int)) ps.length; have := Hl.out; rw [kids]; omega
      have HK : Hid (∀ k, k < (kids ps x).length → ∃ Y : Nat, Y < nP ∧ nth (kids ps x) k = (Y : Int)) := Lib.hid fun k hk => by
        obtain ⟨Y, h1, _, h2⟩ := nth_filt hk
        exact ⟨Y, by have := Hl.out; omega, h2⟩
      have HT : Hid (∀ k, k < (kids ps x).length → sumOf (drT ps ws l x) ((kids ps x).take (k + 1)) = sumOf (drT ps ws l x) ((kids ps x).take k) + drT ps ws l x (nth (kids ps x) k)) := Lib.hid fun k hk => sumOf_take_succ _ _ _ hk
      have Hsum : Hid (sumOf (drT ps ws l x) (kids ps x) = drA ps ws l x) := Lib.hid (dr_sum ps ws l x)
      have Habs : Hid (∀ k, -(959040 * (24 : Int)) ≤ sumOf (drT ps ws l x) ((kids ps x).take k) ∧ sumOf (drT ps ws l x) ((kids ps x).take k) ≤ 959040 * (24 : Int)) := Lib.hid fun k => by
        have := sumOf_abs (B := 959040) (by omega) (drT_bd HTT.out Hlb.out x) ((kids ps x).take k)
        have : ((kids ps x).take k).length ≤ 24 := by rw [List.length_take]; omega
        omega
      have Hdt : Hid (∀ Y : Nat, drT ps ws l x (Y : Int) = nth (sums ps ws) Y * (nth l Y - nth l x)) := Lib.hid fun Y => by rw [drT, Int.toNat_natCast]
      have Hdb := Lib.hid (drT_bd HTT.out Hlb.out x)
      have hlx := Hlb.out x
      have hxn : x < nP := by omega
      have Hdl : Hid ((driftL ps ws l).take (x + 1) = (driftL ps ws l).take x ++ [(nm (drA ps ws l x) (nth (sums ps ws) x), dn (drA ps ws l x) (nth (sums ps ws) x))]) := Lib.hid (driftL_take ps ws l (by have := Hl.out; omega))
      have Hsx : Hid (1 ≤ nth (sums ps ws) x ∧ nth (sums ps ws) x ≤ 480) := Lib.hid ⟨sums_pos HTT.out x (by have := Hl.out; omega), (sums_bd HTT.out x).2⟩
      have hol : ((driftL ps ws l).take x).length ≤ 24 := by rw [List.length_take]; omega
      clear ho5 hb5 HP HO G6 x0 x1 hlt
      generalize kids ps x = ks at *
      generalize drT ps ws l x = f at *
      generalize drA ps ws l x = A at *
      generalize (driftL ps ws l).take x = acc at *
      go_loopw [8, 27] (fun v8 v27 wr => ∃ k : Nat, k ≤ ks.length ∧ v27 = .int .i64 (k : Int) ∧ v8 = .int .i64 (sumOf f (ks.take k)) ∧ Below w5.heap.size w5 wr) (fun _ v27 _ => ks.length - (intOf v27).toNat)
      case atStart => exact ⟨0, Nat.zero_le _, rfl, by simp [sumOf], Below.refl _ _⟩
      case round =>
        obtain ⟨k, hk, rfl, rfl, hb6⟩ := hrel
        by_cases hltk : (k : Int) < ks.length
        · obtain ⟨b7, o7, rfl, hc7⟩ := K7.out.at (i := k) hb6 (by omega)
          obtain ⟨Y, hY, hYe⟩ := HK.out k (by omega)
          rw [hYe] at hc7
          have HTk := Lib.hid (HT.out k (by omega))
          rw [hYe] at HTk
          obtain ⟨b8, o8, rfl, hc8⟩ := G6'.out.at (i := Y) hb6 hY
          obtain ⟨b9, o9, rfl, hc9⟩ := HL5.out.at (i := Y) hb6 hY
          obtain ⟨b9', o9', h9, hcx⟩ := HL5.out.at (i := x) hb6 hxn
          cases h9
          have h1 := Habs.out k
          have h2 := Hdb.out (Y : Int)
          have hlY := Hlb.out Y
          rw [Hdt.out Y] at h2 HTk
          clear hYe
          generalize nth (sums ps ws) Y = sY at *
          generalize nth l Y = pY at *
          generalize nth l x = pX at *
          generalize sumOf f (ks.take k) = sm at *
          have k1 : IntKind.i64.wrap (pY - pX) = pY - pX := IntWalk.i64_in _ (by omega)
          have k2 : IntKind.i64.wrap (sY * (pY - pX)) = sY * (pY - pX) := IntWalk.i64_in _ (by omega)
          have k3 : IntKind.i64.wrap (sm + sY * (pY - pX)) = sm + sY * (pY - pX) := IntWalk.i64_in _ (by omega)
          have k4 : (0 : Int) ≤ (Y : Int) := by omega
          have k5 : (Y : Int) < (nP : Int) := by omega
          have k6 : (0 : Int) ≤ (x : Int) := by omega
          have k7 : (x : Int) < (nP : Int) := by omega
          go_wp2_with fail
          go_quiet (fail)
          go_wp2_with fail
          go_roundw
          case rel => exact ⟨k + 1, by omega, by go_num, by rw [HTk.out], below_drewN hb6 _⟩
          case measure => simp [intOf]; omega
        · obtain rfl : k = ks.length := by omega
          have hfull : sumOf f (ks.take ks.length) = A := by rw [List.take_length]; exact Hsum.out
          have hAb := Habs.out ks.length
          rw [hfull] at hAb ⊢
          clear hfull
          have hb16 := hb15.trans (hb6.mono hb15.size)
          obtain ⟨b8, o8, rfl, hc8⟩ := G6'.out.at (i := x) hb6 hxn
          have hsx := Hsx.out
          have G7 := Lib.hid (G6'.out.below hb6)
          have HP7 := Lib.hid (HP5.out.below hb6)
          have HO7 := Lib.hid (HO5.out.below hb6)
          generalize nth (sums ps ws) x = sx at *
          have k6 : (0 : Int) ≤ (x : Int) := by omega
          have k7 : (x : Int) < (nP : Int) := by omega
          have HcL : Hid (∀ W : World, Calls Tryz.prog 73 #[.int .i64 A, .int .i64 sx] W fun e w' => e = .returned (.tuple #[.agg #[.int .i64 (nm A sx), .int .i64 (dn A sx)], .bool true]) ∧ Below W.heap.size W w') := Lib.hid fun W => impl_lowest_s A sx W (by omega) (by omega)
          clear hsx hAb
          generalize nm A sx = gn at *
          generalize dn A sx = gd at *
          clear hlx K7 G6' HP5 HO5 hb15 HL5
          go_upto_region 13 with (go_at_call 73; refine (HcL.out _).mono ?_; rintro e w7 ⟨rfl, b7⟩
                                  have q := Pair.new w7 (.int .i64 0) (.int .i64 0) 29
                                  have q0 := q.c0
                                  have q1 := q.c1
                                  have q2 := q.f0
                                  have q3 := q.f1)
          have hb17 := hb16.trans (b7.mono hb16.size)
          have hnew := below_new w7 (.cells #[.int .i64 gn, .int .i64 gd] 29)
          have HF := Lib.hid (Pair.new w7 (.int .i64 gn) (.int .i64 gd) 29)
          have G8 := Lib.hid ((G7.out.below b7).below hnew)
          have HP8 := Lib.hid ((HP7.out.below b7).below hnew)
          have HO8 := ((HO7.out.below b7).below hnew)
          have hb18 := hb17.trans (hnew.mono hb17.size)
          clear q q0 q1 q2 q3 hb6 hb16 b7 hnew hb17 G7 HP7 HO7 hc8
          generalize w7.alloc (.cells #[.int .i64 gn, .int .i64 gd] 29) = w8 at *
          have z0 := HF.out.c0
          have z1 := HF.out.c1
          have hsz8 : w.heap.size + 1 ≤ w8.heap.size := HP8.out.lt
          have HO8' := Lib.hid HO8
          clear HO8
          go_upto_region 13 with fail
          go_wp2_with (at_builtin; refine Fr.wp_push2 _ _ rfl rfl (w.heap.size + 1) _ _ rfl HO8'.out rfl (by omega) hsz8 ?_; intro v' w' ho hb hm)
          have h6' := G8.out.moved hm (fun _ => Hap.out)
          go_roundw
          case rel => exact ⟨x + 1, by omega, by go_num, by rw [Hdl.out]; exact ho, h6'.1, h6'.2 (by omega), HP8.out.up hb (by omega), hb18.trans (hb.mono (by omega))⟩
          case measure => simp [intOf]; omega
    · obtain rfl : x = nP := by omega
      have hfin : (driftL ps ws l).take x = driftL ps ws l := List.take_of_length_le (by rw [driftL_length]; have := Hl.out; omega)
      have HO2 := HO.out
      rw [hfin] at HO2
      go_wp2_with fail
      go_ret
      exact ⟨_, rfl, HO2.mono (Nat.le_succ _), hbel⟩
/-- Is a list balanced, and may it be asked? -/
def balV (ps ws l : List Int) : Bool := paysB ps ws l && balB ps ws l
theorem balV_no {ps ws l : List Int} (h : paysB ps ws l = false) : balV ps ws l = false := by rw [balV, h]; rfl
theorem balV_yes {ps ws l : List Int} (h : paysB ps ws l = true) : balV ps ws l = balB ps ws l := by rw [balV, h]; rfl
set_option maxRecDepth 100000 in
set_option maxHeartbeats 1000000 in
theorem impl_IsFairProcess (aP : Option Addr) (nP cP : Nat) (aW : Option Addr) (nW cW : Nat) (ps ws : List Int) (aL : Option Addr) (nL cL : Nat) (l : List Int) (w : World) (h : Tre w aP nP cP aW nW cW ps ws) (hL : Ints w aL nL l) (_hLc : aL = none → cL = 0) (hn : nL ≤ 1048576) :
    Calls Tryz.prog 24 #[.agg #[.slice aP nP cP, .slice aW nW cW], .slice aL nL cL] w fun e w' => e = .returned (.tuple #[.bool (balV ps ws l), .bool (paysB ps ws l)]) ∧ Below w.heap.size w w' := by
  have hl := h.p.1
  have hlw := h.w.1
  have hpn := h.pn
  have hwn := h.wn
  have hb1 := below_new w (.cells #[.slice aP nP cP, .slice aW nW cW] 26)
  have hP1 := Lib.hid (Pair.new w (.slice aP nP cP) (.slice aW nW cW) 26)
  have H := Lib.hid h
  have Hl := Lib.hid hl
  have Hlw := Lib.hid hlw
  clear h hl hlw
  have HL := Lib.hid hL
  have hll := Lib.hid hL.1
  clear hL
  go_enter Tryz.func24, Tryz.ntmps24
  have c0 := hP1.out.c0
  have c1 := hP1.out.c1
  go_wp2_with fail
  generalize (w.alloc (.cells #[.slice aP nP cP, .slice aW nW cW] 26)) = w2 at *
  refine (impl_IsTree _ _ _ _ _ _ ps ws _ (H.out.below hb1)).mono ?_
  rintro e w3 ⟨rfl, hb3⟩
  have HP3 := Lib.hid (hP1.out.below hb3)
  have d0 := HP3.out.c0
  have d1 := HP3.out.c1
  have hb13 := hb1.trans (hb3.mono hb1.size)
  clear c0 c1 hb3 hP1
  cases hT : treeB ps ws
  · have Hv := Lib.hid (pays_no1 (l := l) hT)
    clear hT
    go_wp2_with fail
    go_ret2
    exact ⟨by rw [balV_no Hv.out, Hv.out]; rfl, hb13⟩
  have HT := Lib.hid hT
  clear hT
  go_wp2_with fail
  refine (impl_isProcess _ _ _ _ _ _ ps ws _ _ _ l _ (H.out.below hb13) (HL.out.below hb13) hn).mono ?_
  rintro e w4 ⟨rfl, hb4⟩
  have HP4 := Lib.hid (HP3.out.below hb4)
  have e0 := HP4.out.c0
  have e1 := HP4.out.c1
  have hb14 := hb13.trans (hb4.mono hb13.size)
  clear d0 d1 hb4 HP3
  cases hp : procB ps.length l
  · have Hv := Lib.hid (pays_no2 (ws := ws) hp)
    clear hp
    go_wp2_with fail
    go_ret2
    exact ⟨by rw [balV_no Hv.out, Hv.out]; rfl, hb14⟩
  have Hpays := Lib.hid (pays_both HT.out hp)
  obtain ⟨hTr, _, _, hleq, hlb⟩ := paysB_t Hpays.out
  have hnL : nP = nL := by have := hll.out; have := Hl.out; omega
  have HTr := Lib.hid hTr
  have Hlb := Lib.hid hlb
  have Hbv := Lib.hid (balV_yes Hpays.out)
  have hn24 := hTr.n24
  have hnP : 1 ≤ nP ∧ nP ≤ 24 := by have := hTr.n1; have := Hl.out; omega
  clear hp hTr hleq hlb hn24 hn hpn hwn
  subst hnL
  go_wp2_with fail
  refine (impl_drifts _ _ _ _ _ _ ps ws _ _ _ l _ (H.out.below hb14) HTr.out (HL.out.below hb14) rfl Hlb.out).mono ?_
  rintro e w5 ⟨v5, rfl, ho5, hb5⟩
  obtain ⟨a5, c5, rfl⟩ := ho5.shape
  have hdl : (driftL ps ws l).length = nP := by rw [driftL_length]; exact Hl.out
  rw [hdl] at ho5 ⊢
  have D5 := Lib.hid ho5.ints
  have hb15 := hb14.trans (hb5.mono hb14.size)
  have Hat : Hid (∀ x, x < nP → ∃ b : Int, 0 < b ∧ Fr.at1 (driftL ps ws l) x = nm (drA ps ws l x) b) := Lib.hid fun x hx => ⟨nth (sums ps ws) x, by have := sums_pos HTr.out x (by have := Hl.out; omega); omega, by
    rw [Fr.at1, driftL]
    simp [List.getD, show x < ps.length by have := Hl.out; omega]⟩
  have Hno : Hid (∀ x, x < nP → ¬ drA ps ws l x = 0 → balB ps ws l = false) := Lib.hid fun x hx h => bal_no (by have := Hl.out; omega) h
  have Hyes : Hid ((∀ x, x < nP → drA ps ws l x = 0) → balB ps ws l = true) := Lib.hid fun h => bal_yes fun x hx => h x (by have := Hl.out; omega)
  clear ho5 hb5 HP4 e0 e1 hdl
  generalize driftL ps ws l = dl at *
  go_wp2_with fail
  go_loopw [21] (fun v21 wr => ∃ x : Nat, x ≤ nP ∧ v21 = .int .i64 (x : Int) ∧ (∀ y, y < x → drA ps ws l y = 0) ∧ Below w5.heap.size w5 wr ∧ Below w.heap.size w wr) (fun v21 _ => nP - (intOf v21).toNat)
  case atStart => exact ⟨0, Nat.zero_le _, rfl, fun y hy => by omega, Below.refl _ _, hb15⟩
  case round =>
    clear hb15
    obtain ⟨x, hx, rfl, hall, hb6, hbel⟩ := hrel
    have Hall := Lib.hid hall
    clear hall
    by_cases hlt : (x : Int) < nP
    · obtain ⟨b5, o5, rfl, hb5, hcs⟩ := D5.out.2 (by omega)
      obtain ⟨hA, hB⟩ := hcs x (by omega)
      have hA' := (hb6.cell (p := ⟨b5, o5 + x * 2, none⟩) hb5).trans hA
      have hB' := (hb6.cell (p := ⟨b5, o5 + x * 2 + 1, none⟩) hb5).trans hB
      obtain ⟨bq, hbq, hat⟩ := Hat.out x (by omega)
      have hz := nm_zero (a := drA ps ws l x) hbq
      rw [← hat] at hz
      have Hz := Lib.hid hz
      have HnoX := Lib.hid (Hno.out x (by omega))
      have hx0 : (0 : Int) ≤ (x : Int) := by omega
      clear hcs hA hB hat hz
      generalize Fr.at1 dl x = g1 at *
      generalize Fr.at2 dl x = g2 at *
      have q := Pair.new wr (.int .i64 0) (.int .i64 0) 29
      have q0 := q.c0
      have q1 := q.c1
      have q2 := q.f0
      have q3 := q.f1
      have qn := Pair.new wr (.int .i64 g1) (.int .i64 g2) 29
      have n0 := qn.c0
      have n1 := qn.c1
      have hnew := below_new wr (.cells #[.int .i64 g1, .int .i64 g2] 29)
      by_cases hg : g1 = 0
      · have Hd := Lib.hid (Hz.out.1 hg)
        have hgb : (g1 != 0) = false := by rw [bne_eq_false_iff_eq]; exact hg
        subst hg
        go_wp2_with fail
        go_roundw
        case rel => exact ⟨x + 1, by omega, by go_num, fun y hy => by
          by_cases e : y = x
          · subst e; exact Hd.out
          · exact Hall.out y (by omega), hb6.trans (hnew.mono hb6.size), hbel.trans (hnew.mono hbel.size)⟩
        case measure => simp [intOf]; omega
      · have Hb := Lib.hid (HnoX.out fun h => hg (Hz.out.2 h))
        have hgb : (g1 != 0) = true := by rw [bne_iff_ne]; exact hg
        go_wp2_with fail
        go_ret2
        exact ⟨by rw [Hbv.out, Hb.out, Hpays.out]; rfl, hbel.trans (hnew.mono hbel.size)⟩
    · obtain rfl : x = nP := by omega
      have Hb := Lib.hid (Hyes.out Hall.out)
      go_wp2_with fail
      go_ret2
      exact ⟨by rw [Hbv.out, Hb.out, Hpays.out]; rfl, hbel⟩
end Go.Proofs.YtnbomleieianoaaGreat

/- Contracts: what is a balanced list, by the reference. -/
namespace Go.Proofs.YtnbomleieianoaaGreat
open Go.RowKit

/-- The products of sums and numbers. -/
def prL (ps ws l : List Int) : List Int := (List.range ps.length).map fun x => nth (sums ps ws) x * nth l x
theorem prL_length (ps ws l : List Int) : (prL ps ws l).length = ps.length := by simp [prL]
theorem nth_prL {ps ws l : List Int} {x : Nat} (hx : x < ps.length) : nth (prL ps ws l) x = nth (sums ps ws) x * nth l x := by rw [prL, nth_map_range hx]
theorem prL_take (ps ws l : List Int) {x : Nat} (hx : x < ps.length) : (prL ps ws l).take (x + 1) = (prL ps ws l).take x ++ [nth (sums ps ws) x * nth l x] := by
  rw [take_succ_nth (by rw [prL_length]; exact hx), nth_prL hx]
theorem prL_bd {ps ws l : List Int} (h : Tr ps ws) (hl : ∀ i, -999 ≤ nth l i ∧ nth l i ≤ 999) : Abs2 479520 (prL ps ws l) := fun i => by
  by_cases hi : i < ps.length
  · rw [nth_prL hi]
    have := mul_abs (B := 999) (U := 480) (hl i) (sums_bd h i) (by omega)
    rw [Int.mul_comm (nth l i) (nth (sums ps ws) i)] at this
    omega
  · rw [nth_ge (by rw [prL_length]; omega)]; omega
theorem pr_kids {ps ws l : List Int} (x : Nat) : kidSum ps (fun y => nth (prL ps ws l) y) x ps.length = kidSum ps (fun y => nth (sums ps ws) y * nth l y) x ps.length := kidSum_congr fun _ hy _ => nth_prL hy
end Go.Proofs.YtnbomleieianoaaGreat

/- Contracts: is a process falling, and its drifts, by the program. -/
namespace Go.Proofs.YtnbomleieianoaaGreat
open Go.RowKit

def falV (ps ws l : List Int) : Bool := paysB ps ws l && fallB ps ws l
theorem falV_no {ps ws l : List Int} (h : paysB ps ws l = false) : falV ps ws l = false := by rw [falV, h]; rfl
theorem falV_yes {ps ws l : List Int} (h : paysB ps ws l = true) : falV ps ws l = fallB ps ws l := by rw [falV, h]; rfl
theorem fal_no {ps ws l : List Int} {x : Nat} (hx : x < ps.length) (h : 0 < drA ps ws l x) : fallB ps ws l = false := all_f hx (by simp; omega)
theorem fal_yes {ps ws l : List Int} (h : ∀ x, x < ps.length → drA ps ws l x ≤ 0) : fallB ps ws l = true := all_t fun x hx => by simp [h x hx]
theorem nm_low {a b : Int} (hb : 0 < b) : nm a b ≤ 0 ↔ a ≤ 0 := by
  have hg := gcdI_pos (a := a) (b := b) (by omega)
  rw [nm, if_neg (by omega)]
  have h := Int.mul_ediv_cancel' (gcdI_dvd_l a b)
  generalize a / gcdI a b = q at *
  generalize gcdI a b = g at *
  subst h
  constructor
  · intro hq
    have := Int.mul_le_mul_of_nonneg_left hq (show 0 ≤ g by omega)
    omega
  · intro hq
    rcases Int.lt_or_le 0 q with h0 | h0
    · have := Int.mul_pos (show 0 < g by omega) h0
      omega
    · exact h0
def dofV (ps ws l : List Int) : List (Int × Int) := if paysB ps ws l then driftL ps ws l else []
theorem dofV_no {ps ws l : List Int} (h : paysB ps ws l = false) : dofV ps ws l = [] := by rw [dofV, h]; rfl
theorem dofV_yes {ps ws l : List Int} (h : paysB ps ws l = true) : dofV ps ws l = driftL ps ws l := by rw [dofV, if_pos h]
theorem dofV_len {ps ws l : List Int} : (dofV ps ws l).length ≤ 24 := by
  cases h : paysB ps ws l
  · rw [dofV_no h]; exact Nat.zero_le _
  · rw [dofV_yes h, driftL_length]; exact (paysB_t h).1.n24
set_option maxRecDepth 100000 in
set_option maxHeartbeats 1000000 in
theorem impl_IsFalling (aP : Option Addr) (nP cP : Nat) (aW : Option Addr) (nW cW : Nat) (ps ws : List Int) (aL : Option Addr) (nL cL : Nat) (l : List Int) (w : World) (h : Tre w aP nP cP aW nW cW ps ws) (hL : Ints w aL nL l) (_hLc : aL = none → cL = 0) (hn : nL ≤ 1048576) :
    Calls Tryz.prog 25 #[.agg #[.slice aP nP cP, .slice aW nW cW], .slice aL nL cL] w fun e w' => e = .returned (.tuple #[.bool (falV ps ws l), .bool (paysB ps ws l)]) ∧ Below w.heap.size w w' := by
  have hl := h.p.1
  have hlw := h.w.1
  have hpn := h.pn
  have hwn := h.wn
  have hb1 := below_new w (.cells #[.slice aP nP cP, .slice aW nW cW] 26)
  have hP1 := Lib.hid (Pair.new w (.slice aP nP cP) (.slice aW nW cW) 26)
  have H := Lib.hid h
  have Hl := Lib.hid hl
  have Hlw := Lib.hid hlw
  clear h hl hlw
  have HL := Lib.hid hL
  have hll := Lib.hid hL.1
  clear hL
  go_enter Tryz.func25, Tryz.ntmps25
  have c0 := hP1.out.c0
  have c1 := hP1.out.c1
  go_wp2_with fail
  generalize (w.alloc (.cells #[.slice aP nP cP, .slice aW nW cW] 26)) = w2 at *
  refine (impl_IsTree _ _ _ _ _ _ ps ws _ (H.out.below hb1)).mono ?_
  rintro e w3 ⟨rfl, hb3⟩
  have HP3 := Lib.hid (hP1.out.below hb3)
  have d0 := HP3.out.c0
  have d1 := HP3.out.c1
  have hb13 := hb1.trans (hb3.mono hb1.size)
  clear c0 c1 hb3 hP1
  cases hT : treeB ps ws
  · have Hv := Lib.hid (pays_no1 (l := l) hT)
    clear hT
    go_wp2_with fail
    go_ret2
    exact ⟨by rw [falV_no Hv.out, Hv.out]; rfl, hb13⟩
  have HT := Lib.hid hT
  clear hT
  go_wp2_with fail
  refine (impl_isProcess _ _ _ _ _ _ ps ws _ _ _ l _ (H.out.below hb13) (HL.out.below hb13) hn).mono ?_
  rintro e w4 ⟨rfl, hb4⟩
  have HP4 := Lib.hid (HP3.out.below hb4)
  have e0 := HP4.out.c0
  have e1 := HP4.out.c1
  have hb14 := hb13.trans (hb4.mono hb13.size)
  clear d0 d1 hb4 HP3
  cases hp : procB ps.length l
  · have Hv := Lib.hid (pays_no2 (ws := ws) hp)
    clear hp
    go_wp2_with fail
    go_ret2
    exact ⟨by rw [falV_no Hv.out, Hv.out]; rfl, hb14⟩
  have Hpays := Lib.hid (pays_both HT.out hp)
  obtain ⟨hTr, _, _, hleq, hlb⟩ := paysB_t Hpays.out
  have hnL : nP = nL := by have := hll.out; have := Hl.out; omega
  have HTr := Lib.hid hTr
  have Hlb := Lib.hid hlb
  have Hbv := Lib.hid (falV_yes Hpays.out)
  have hn24 := hTr.n24
  have hnP : 1 ≤ nP ∧ nP ≤ 24 := by have := hTr.n1; have := Hl.out; omega
  clear hp hTr hleq hlb hn24 hn hpn hwn
  subst hnL
  go_wp2_with fail
  refine (impl_drifts _ _ _ _ _ _ ps ws _ _ _ l _ (H.out.below hb14) HTr.out (HL.out.below hb14) rfl Hlb.out).mono ?_
  rintro e w5 ⟨v5, rfl, ho5, hb5⟩
  obtain ⟨a5, c5, rfl⟩ := ho5.shape
  have hdl : (driftL ps ws l).length = nP := by rw [driftL_length]; exact Hl.out
  rw [hdl] at ho5 ⊢
  have D5 := Lib.hid ho5.ints
  have hb15 := hb14.trans (hb5.mono hb14.size)
  have Hat : Hid (∀ x, x < nP → ∃ b : Int, 0 < b ∧ Fr.at1 (driftL ps ws l) x = nm (drA ps ws l x) b) := Lib.hid fun x hx => ⟨nth (sums ps ws) x, by have := sums_pos HTr.out x (by have := Hl.out; omega); omega, by
    rw [Fr.at1, driftL]
    simp [List.getD, show x < ps.length by have := Hl.out; omega]⟩
  have Hno : Hid (∀ x, x < nP → 0 < drA ps ws l x → fallB ps ws l = false) := Lib.hid fun x hx h => fal_no (by have := Hl.out; omega) h
  have Hyes : Hid ((∀ x, x < nP → drA ps ws l x ≤ 0) → fallB ps ws l = true) := Lib.hid fun h => fal_yes fun x hx => h x (by have := Hl.out; omega)
  clear ho5 hb5 HP4 e0 e1 hdl
  generalize driftL ps ws l = dl at *
  go_wp2_with fail
  go_loopw [21] (fun v21 wr => ∃ x : Nat, x ≤ nP ∧ v21 = .int .i64 (x : Int) ∧ (∀ y, y < x → drA ps ws l y ≤ 0) ∧ Below w5.heap.size w5 wr ∧ Below w.heap.size w wr) (fun v21 _ => nP - (intOf v21).toNat)
  case atStart => exact ⟨0, Nat.zero_le _, rfl, fun y hy => by omega, Below.refl _ _, hb15⟩
  case round =>
    clear hb15
    obtain ⟨x, hx, rfl, hall, hb6, hbel⟩ := hrel
    have Hall := Lib.hid hall
    clear hall
    by_cases hlt : (x : Int) < nP
    · obtain ⟨b5, o5, rfl, hb5, hcs⟩ := D5.out.2 (by omega)
      obtain ⟨hA, hB⟩ := hcs x (by omega)
      have hA' := (hb6.cell (p := ⟨b5, o5 + x * 2, none⟩) hb5).trans hA
      have hB' := (hb6.cell (p := ⟨b5, o5 + x * 2 + 1, none⟩) hb5).trans hB
      obtain ⟨bq, hbq, hat⟩ := Hat.out x (by omega)
      have hz := nm_low (a := drA ps ws l x) hbq
      rw [← hat] at hz
      have Hz := Lib.hid hz
      have HnoX := Lib.hid (Hno.out x (by omega))
      have hx0 : (0 : Int) ≤ (x : Int) := by omega
      clear hcs hA hB hat hz
      generalize Fr.at1 dl x = g1 at *
      generalize Fr.at2 dl x = g2 at *
      have q := Pair.new wr (.int .i64 0) (.int .i64 0) 29
      have q0 := q.c0
      have q1 := q.c1
      have q2 := q.f0
      have q3 := q.f1
      have qn := Pair.new wr (.int .i64 g1) (.int .i64 g2) 29
      have n0 := qn.c0
      have n1 := qn.c1
      have hnew := below_new wr (.cells #[.int .i64 g1, .int .i64 g2] 29)
      by_cases hg : g1 ≤ 0
      · have Hd := Lib.hid (Hz.out.1 hg)
        have hgb : ¬ g1 > 0 := by omega
        clear hg
        go_wp2_with fail
        go_roundw
        case rel => exact ⟨x + 1, by omega, by go_num, fun y hy => by
          by_cases e : y = x
          · subst e; exact Hd.out
          · exact Hall.out y (by omega), hb6.trans (hnew.mono hb6.size), hbel.trans (hnew.mono hbel.size)⟩
        case measure => simp [intOf]; omega
      · have Hb := Lib.hid (HnoX.out (by have := Hz.out; omega))
        have hgb : g1 > 0 := by omega
        go_wp2_with fail
        go_ret2
        exact ⟨by rw [Hbv.out, Hb.out, Hpays.out]; rfl, hbel.trans (hnew.mono hbel.size)⟩
    · obtain rfl : x = nP := by omega
      have Hb := Lib.hid (Hyes.out Hall.out)
      go_wp2_with fail
      go_ret2
      exact ⟨by rw [Hbv.out, Hb.out, Hpays.out]; rfl, hbel⟩
end Go.Proofs.YtnbomleieianoaaGreat
