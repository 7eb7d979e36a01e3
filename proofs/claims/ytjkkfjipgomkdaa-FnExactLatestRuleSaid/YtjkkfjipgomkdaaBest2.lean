/- Contracts: the best rules, by the reference. -/
import Derived.Test.YtjkkfjipgomkdaaBest
namespace Go.Proofs.Ytjkkfjipgomkdaa
open Go.RowKit

/-- Caps, sums and no bools, just made, apart from each other. -/
def ThreeB (u wc : World) (n : Nat) (ps ws l : List Int) (v6 v7 v8 : Value) : Prop :=
  KeepR u wc ∧ ∃ (a6 : Option Addr) (c6 : Nat) (a7 : Option Addr) (c7 g8 : Nat), v6 = .slice a6 n c6 ∧ v7 = .slice a7 n c7 ∧ v8 = .slice (some ⟨g8, 0, none⟩) 0 0 ∧ Ints wc a6 n (capW ps ws l) ∧ Ints wc a7 n (sums ps ws) ∧ Bo.Own wc u.heap.size v8 [] ∧ Apart a6 v8 ∧ Apart a7 v8
theorem threeB_mk {u wc : World} {n : Nat} {ps ws l : List Int} {v6 v7 : Value} {b6 b7 b8 g8 : Nat} (hk : KeepR u wc) (hc : (capW ps ws l).length = n) (hs : (sums ps ws).length = n) (h6 : Own wc b6 v6 (capW ps ws l)) (h7 : Own wc b7 v7 (sums ps ws)) (h8 : Bo.Own wc b8 (.slice (some ⟨g8, 0, none⟩) 0 0) []) (hb8 : u.heap.size ≤ b8)
    (s6 : ∀ g, v6.ownBlock = some g → g ≠ g8) (s7 : ∀ g, v7.ownBlock = some g → g ≠ g8) : ThreeB u wc n ps ws l v6 v7 (.slice (some ⟨g8, 0, none⟩) 0 0) := by
  obtain ⟨a6, c6, rfl⟩ := h6.shape
  obtain ⟨a7, c7, rfl⟩ := h7.shape
  rw [hc] at h6 s6 ⊢
  rw [hs] at h7 s7 ⊢
  exact ⟨hk, a6, c6, a7, c7, g8, rfl, rfl, rfl, h6.ints, h7.ints, h8.mono hb8, (fun p hp e => by subst hp; simp [Value.ownBlock] at e; exact s6 _ rfl e.symm), (fun p hp e => by subst hp; simp [Value.ownBlock] at e; exact s7 _ rfl e.symm)⟩
set_option maxRecDepth 100000 in
set_option maxHeartbeats 2000000 in
theorem spec_BestRule (aP : Option Addr) (nP cP : Nat) (aW : Option Addr) (nW cW : Nat) (ps ws : List Int) (aL : Option Addr) (nL cL : Nat) (l : List Int) (w : World) (h : Tre w aP nP cP aW nW cW ps ws) (hL : Ints w aL nL l) (_hLc : aL = none → cL = 0) (hn : nL ≤ 1048576) :
    Calls Try.prog 32 #[.agg #[.slice aP nP cP, .slice aW nW cW], .slice aL nL cL] w fun e w' => ∃ v, e = .returned (.tuple #[v, .bool (paysB ps ws l)]) ∧ Own w' w.heap.size v (bestV ps ws l) ∧ Below w.heap.size w w' := by
  have hl := h.p.1
  have hlw := h.w.1
  have hpn := h.pn
  have hwn := h.wn
  have hb1 := below_new w (.cells #[.slice aP nP cP, .slice aW nW cW] 28)
  have hP1 := Lib.hid (Pair.new w (.slice aP nP cP) (.slice aW nW cW) 28)
  have H := Lib.hid h
  have Hl := Lib.hid hl
  have Hlw := Lib.hid hlw
  clear h hl hlw
  have HL := Lib.hid hL
  have hll := Lib.hid hL.1
  clear hL
  have hlt2 := hP1.out.lt
  go_enter Try.func32, Try.ntmps32
  have c0 := hP1.out.c0
  have c1 := hP1.out.c1
  go_wp2_with fail
  try generalize (w.alloc (.cells #[.slice aP nP cP, .slice aW nW cW] 28)) = w2 at *
  refine (spec_l4Pays _ _ _ _ _ _ ps ws _ _ _ l _ (H.out.below hb1) (HL.out.below hb1) hn).mono ?_
  rintro e w3 ⟨rfl, hb3⟩
  have hP3 := hP1.out.below hb3
  have d0 := hP3.c0
  have d1 := hP3.c1
  have HP3 := Lib.hid hP3
  have hb13 := hb1.trans (hb3.mono hb1.size)
  clear hP3 hb3
  try clear c0 c1
  cases hT : paysB ps ws l
  · have Hno := Lib.hid hT
    clear hT
    go_wp2_with fail
    go_ret2
    exact ⟨_, by rw [Hno.out]; rfl, by rw [bestV_no Hno.out]; exact (own_nil0 w3).mono hb13.size, hb13.trans ((below_new w3 _).mono hb13.size)⟩
  have Hpays := Lib.hid hT
  have hpt := paysB_t hT
  have hTr := hpt.1
  have hn24 := hTr.n24
  have hn1 := hTr.n1
  have hnL : nP = nL := by have := hll.out; have := hpt.2.2.2.1; have := Hl.out; omega
  have hnW : nP = nW := by have := Hlw.out; have := hTr.wl; have := Hl.out; omega
  have hnP : 1 ≤ nP ∧ nP ≤ 24 := by have := Hl.out; omega
  have Hpp := Lib.hid hpt.2.2.2.2
  have HTr := Lib.hid hTr
  have HnW := Lib.hid hnW
  have hnW2 : nP ≤ nW := by omega
  clear hT hpt hn24 hn1 hTr hpn hwn hnW
  subst hnL
  have Hsl : Hid ((sums ps ws).length = nP) := Lib.hid (by rw [sums_length HTr.out]; exact Hl.out)
  have Hcl : Hid ((capW ps ws l).length = nP) := Lib.hid (by rw [capW_length]; exact Hl.out)
  go_upto_region 3 with fail
  go_cut [6, 7, 8] (fun v6 v7 v8 wc => ThreeB w3 wc nP ps ws l v6 v7 v8)
  case first =>
    go_region_held3 (fun W' => KeepR w3 W' ∧ W'.cell? ⟨w.heap.size, 0, none⟩ = some (.slice aP nP cP) ∧ W'.cell? ⟨w.heap.size, 1, none⟩ = some (.slice aW nW cW))
      (first | exact keep2 (by assumption) HP3.out | exact keep2 (KeepR.alloc0 _ _) HP3.out | exact keep2 (KeepR.start _) HP3.out | exact keep2 (KeepR.alloc (by assumption : KeepR w3 _ ∧ _).1 _) HP3.out | exact keep2 (KeepR.alloc (by assumption : KeepR w3 _ ∧ _).1 _).drew HP3.out)
      (first
        | (go_at_call 60; refine (spec_l4Caps _ _ _ _ _ _ ps ws _ _ _ l _ (H.out.below (hb13.trans (Below.mono (by assumption : KeepR w3 _ ∧ _).1 hb13.size))) HTr.out (HL.out.below (hb13.trans (Below.mono (by assumption : KeepR w3 _ ∧ _).1 hb13.size))) rfl Hpp.out).mono ?_; rintro e w5 ⟨v5, rfl, o5, b5⟩; have hk5 := KeepR.next b5 (by assumption : KeepR w3 _ ∧ _).1)
        | (go_at_call 61; refine (spec_l2Sums _ _ _ _ _ _ ps ws _ (H.out.below (hb13.trans (Below.mono (by assumption : KeepR w3 _ ∧ _).1 hb13.size))) HTr.out).mono ?_; rintro e w6 ⟨v6, rfl, o6, b6⟩; have hk6 := KeepR.next b6 (by assumption : KeepR w3 _ ∧ _).1))
    all_goals (go_wp2_with fail)
    all_goals go_meet
    all_goals first
      | exact threeB_mk hk6 Hcl.out Hsl.out (o5.below b6) o6 ((((Bo.own_nil0 w3).below (Below.refl _ _).drew).below b5).below b6) (Nat.le_refl _) (fun g hg => by have h1 := World.ownsRow.lt o5 g hg; (try simp at h1); omega) (fun g hg => by have h1 := World.ownsRow.lt o6 g hg; have h2 := b5.size; (try simp at h1); (try simp at h2); omega)
      | exact threeB_mk hk6 Hcl.out Hsl.out ((o5.below (below_new w5 _)).below b6) o6 ((Bo.own_nil0 w5).below b6) (Below.size hk5) (fun g hg => by have h1 := World.ownsRow.lt o5 g hg; omega) (fun g hg => by have h1 := World.ownsRow.lt o6 g hg; (try simp at h1); omega)
      | exact threeB_mk (KeepR.alloc hk6 _) Hcl.out Hsl.out ((o5.below b6).below (below_new w6 _)) (o6.below (below_new w6 _)) (Bo.own_nil0 w6) (Below.size hk6) (fun g hg => by have h1 := World.ownsRow.lt (o5.below b6) g hg; omega) (fun g hg => by have h1 := World.ownsRow.lt o6 g hg; omega)
  case rest =>
    clear d0 d1
    obtain ⟨hk4, a6, c6, a7, c7, g8, rfl, rfl, rfl, i6, i7, o8, s6, s7⟩ := hcut
    have hk4b : Below w3.heap.size w3 wc := hk4
    have hb14 := hb13.trans (hk4b.mono hb13.size)
    have HP4 := Lib.hid (HP3.out.below hk4b)
    have hW3 : w.heap.size < w3.heap.size := HP3.out.lt
    have G6 := Lib.hid i6
    have G7 := Lib.hid i7
    have O8 := Lib.hid o8
    have S6 := Lib.hid s6
    have S7 := Lib.hid s7
    have hsz0 : w3.heap.size ≤ wc.heap.size := hk4b.size
    clear i6 i7 o8 s6 s7 hk4 hk4b hb13
    go_wp2_with fail
    go_loopw [8, 9] (fun v8 v9 wr => ∃ k : Nat, k ≤ nP ∧ v9 = .int .i64 (k : Int) ∧ Bo.Own wr w3.heap.size v8 ((List.range k).map (bestB ps ws l)) ∧ Ints wr a6 nP (capW ps ws l) ∧ Ints wr a7 nP (sums ps ws) ∧ (0 < nP → Apart a6 v8) ∧ (0 < nP → Apart a7 v8) ∧ Pair wr w.heap.size (.slice aP nP cP) (.slice aW nW cW) ∧ Below w.heap.size w wr ∧ w3.heap.size ≤ wr.heap.size) (fun _ v9 _ => nP - (intOf v9).toNat)
    case atStart => exact ⟨0, Nat.zero_le _, rfl, O8.out, G6.out, G7.out, (fun _ => S6.out), (fun _ => S7.out), HP4.out, hb14, hsz0⟩
    case round =>
      clear O8 G6 G7 S6 S7 HP4 hb14 hsz0
      obtain ⟨k, hk, rfl, hown, h6, h7, hs6, hs7, hP, hbel, hsz⟩ := hrel
      have c0 := hP.c0
      have c1 := hP.c1
      have HP := Lib.hid hP
      have G6 := Lib.hid h6
      have G7 := Lib.hid h7
      have S6 := Lib.hid hs6
      have S7 := Lib.hid hs7
      clear hP h6 h7 hs6 hs7
      by_cases hlt : (k : Int) < nP
      · obtain ⟨b6, o6, rfl, hc6⟩ := G6.out.at (i := k) (Below.refl _ _) (by omega)
        obtain ⟨b7, o7, rfl, hc7⟩ := G7.out.at (i := k) (Below.refl _ _) (by omega)
        obtain ⟨bL, oL, rfl, hLw, hcL⟩ := HL.out.at2 (i := k) hbel (by omega)
        have Hms := Lib.hid (map_succ (bestB ps ws l) k)
        have hlv : bestB ps ws l k = (nth (sums ps ws) k * nth l k == nth (capW ps ws l) k) := rfl
        have hll2 : ((List.range k).map (bestB ps ws l)).length ≤ 24 := by simp; omega
        have hsb := sums_bd HTr.out k
        have hlb := Hpp.out k
        have hmb := mul_abs (B := 999) (U := 480) hlb hsb (by omega)
        rw [Int.mul_comm (nth l k) (nth (sums ps ws) k)] at hmb
        generalize (List.range k).map (bestB ps ws l) = bsk at *
        generalize bestB ps ws l k = bk at *
        generalize nth (sums ps ws) k = u at *
        generalize nth l k = p at *
        generalize nth (capW ps ws l) k = r at *
        have hcm : (r == u * p) = bk := by rw [hlv, Bool.eq_iff_iff, beq_iff_eq, beq_iff_eq]; exact eq_comm
        have k1 : IntKind.i64.wrap (u * p) = u * p := IntWalk.i64_in _ (by omega)
        have k2 : (0 : Int) ≤ (k : Int) := by omega
        clear hlv hsb hlb hmb
        go_wp2_with fail
        have hbLw : bL < w.heap.size := hLw
        have HA0 : Hid (∀ o, Below w3.heap.size wr (wr.alloc o).drew) := Lib.hid fun o => ((Below.refl _ _).alloc hsz o).drew
        have HA0' : Hid (∀ o, Below wr.heap.size wr (wr.alloc o).drew) := Lib.hid fun o => (below_new wr o).drew
        go_region_held3 (fun W' => Below w3.heap.size wr W' ∧ W'.cell? ⟨b6, o6 + k, none⟩ = some (.int .i64 r) ∧ W'.cell? ⟨b7, o7 + k, none⟩ = some (.int .i64 u) ∧ W'.cell? ⟨bL, oL + k, none⟩ = some (.int .i64 p))
          (first | assumption | exact ⟨(Below.refl _ _).drew, hc6, hc7, hcL⟩ | exact ⟨HA0.out _, cell_up (HA0'.out _) hc6, cell_up (HA0'.out _) hc7, cell_up (HA0'.out _) hcL⟩)
          (first
            | (refine Bo.step_push2 (u := bk) rfl _ _ rfl w3.heap.size _ _ (by rfl) hown (by rfl) (by omega) hsz ?_; intro v' w' ho hb hm
               have x6 := hm.cell hc6 (S6.out (by omega) ⟨b6, o6, none⟩ rfl)
               have x7 := hm.cell hc7 (S7.out (by omega) ⟨b7, o7, none⟩ rfl)
               have xL := hm.cell hcL (fun e => by have h1 := (World.ownsRow.lt hown _ e).1; simp at h1; omega)
               have hSS : Below w3.heap.size wr w' ∧ w'.cell? ⟨b6, o6 + k, none⟩ = some (.int .i64 r) ∧ w'.cell? ⟨b7, o7 + k, none⟩ = some (.int .i64 u) ∧ w'.cell? ⟨bL, oL + k, none⟩ = some (.int .i64 p) := ⟨hb, x6, x7, xL⟩))
        go_wp2_with fail
        have hg6 := G6.out.moved hm S6.out
        have hg7 := G7.out.moved hm S7.out
        go_roundw
        case rel => exact ⟨k + 1, by omega, by go_num, by rw [Hms.out]; exact ho, hg6.1, hg7.1, hg6.2, hg7.2, HP.out.up hb (by omega), hbel.trans (hb.mono (by omega)), Nat.le_trans hsz hb.size⟩
        case measure => simp [intOf]; omega
      · obtain rfl : k = nP := by omega
        obtain ⟨a8, c8, rfl⟩ := hown.shape
        have hbl : ((List.range k).map (bestB ps ws l)).length = k := by simp
        rw [hbl] at hown ⊢
        have HB := Lib.hid hown.bools
        clear hown hbl
        go_wp2_with fail
        refine (spec_l4First _ _ _ _ _ _ ps ws _ _ _ ((List.range k).map (bestB ps ws l)) _ (H.out.below hbel) HTr.out.toPa HB.out rfl (fun x hx he => by rw [Bo.nth_map_range (by have := Hl.out; omega), bestB, nth_capW HTr.out hx, stepA, if_pos he]; simp)).mono ?_
        rintro e w9 ⟨v9, rfl, o9, b9⟩
        have Hf : Hid (firsts ps (bS ((List.range k).map (bestB ps ws l))) = firsts ps (fS (bestB ps ws l))) := Lib.hid (firB_congr HTr.out.toPa fun y hy => bS_map (by have := Hl.out; omega))
        have O9 := Lib.hid o9
        clear o9
        go_wp2_with fail
        go_ret2
        exact ⟨_, by rw [Hpays.out]; rfl, by rw [bestV_yes Hpays.out, ← Hf.out]; exact O9.out.mono hbel.size, hbel.trans (b9.mono hbel.size)⟩
end Go.Proofs.Ytjkkfjipgomkdaa
