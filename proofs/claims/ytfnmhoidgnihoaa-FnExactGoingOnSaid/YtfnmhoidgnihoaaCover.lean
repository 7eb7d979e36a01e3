/- Contracts: do caps cover payments, by the program. -/
import Derived.Test.YtfnmhoidgnihoaaCost
import Derived.Test.YtfnmhoidgnihoaaPlOn
import Derived.Test.YtfnmhoidgnihoaaKeep
import Derived.Deep.DeepCutAuto
import Derived.Deep.Cut
namespace Go.Proofs.Ytfnmhoidgnihoaa
open Go.RowKit




/-- Sums, zeros and ends, just made, apart from each other. -/
def Three (u wc : World) (n : Nat) (ps ws : List Int) (v8 v9 v10 : Value) : Prop :=
  KeepR u wc ∧ ∃ (a8 : Option Addr) (c8 g9 : Nat) (a10 : Option Addr) (c10 : Nat), v8 = .slice a8 n c8 ∧ v9 = .slice (some ⟨g9, 0, none⟩) n n ∧ v10 = .slice a10 n c10 ∧ Ints wc a8 n (sums ps ws) ∧ Own wc u.heap.size v9 (List.replicate n 0) ∧ Bo.Ints wc a10 n (endsB ps) ∧
    (∀ p, a8 = some p → p.block ≠ g9) ∧ ∀ p, a10 = some p → p.block ≠ g9
theorem three_mk {u wc : World} {n : Nat} {ps ws : List Int} {v8 v10 : Value} {b8 b9 b10 g9 : Nat} (hk : KeepR u wc) (hs : (sums ps ws).length = n) (he : (endsB ps).length = n) (h8 : Own wc b8 v8 (sums ps ws)) (h9 : Own wc b9 (.slice (some ⟨g9, 0, none⟩) n n) (List.replicate n 0)) (h10 : Bo.Own wc b10 v10 (endsB ps)) (hb : u.heap.size ≤ b9)
    (s8 : ∀ g, v8.ownBlock = some g → g ≠ g9) (s10 : ∀ g, v10.ownBlock = some g → g ≠ g9) : Three u wc n ps ws v8 (.slice (some ⟨g9, 0, none⟩) n n) v10 := by
  obtain ⟨a8, c8, rfl⟩ := h8.shape
  obtain ⟨a10, c10, rfl⟩ := h10.shape
  rw [hs] at h8 s8 ⊢
  rw [he] at h10 s10 ⊢
  exact ⟨hk, a8, c8, g9, a10, c10, rfl, rfl, rfl, h8.ints, h9.mono hb, h10.bools, (fun p hp => by subst hp; exact s8 _ rfl), (fun p hp => by subst hp; exact s10 _ rfl)⟩

/-- Do caps cover payments? -/
def capOk (ps ws l caps : List Int) (x : Nat) : Bool := !(decide (nth caps x < nth (sums ps ws) x * nth l x) || (!endB ps x && decide (nth caps x < kidSum ps (fun y => nth caps y) x ps.length)))
def coverV (ps ws l caps : List Int) : Bool := paysB ps ws l && ((caps.length == ps.length && allIn caps (-1000000000) 1000000000) && (List.range ps.length).all (capOk ps ws l caps))
theorem coverV_no {ps ws l caps : List Int} (h : paysB ps ws l = false) : coverV ps ws l caps = false := by rw [coverV, h]; rfl
theorem coverV_len {ps ws l caps : List Int} (h : ¬ caps.length = ps.length) : coverV ps ws l caps = false := by simp [coverV, h]
theorem coverV_all {ps ws l caps : List Int} (h : allIn caps (-1000000000) 1000000000 = false) : coverV ps ws l caps = false := by simp [coverV, h]
theorem coverV_bad {ps ws l caps : List Int} {x : Nat} (hx : x < ps.length) (h : capOk ps ws l caps x = false) : coverV ps ws l caps = false := by
  have := all_f hx h
  rw [coverV, this]; simp
theorem coverV_yes {ps ws l caps : List Int} (h1 : paysB ps ws l = true) (h2 : caps.length = ps.length) (h3 : allIn caps (-1000000000) 1000000000 = true) (h4 : ∀ x, x < ps.length → capOk ps ws l caps x = true) : coverV ps ws l caps = true := by
  have := all_t h4
  rw [coverV, h1, h3, this, h2]; simp
set_option maxRecDepth 100000 in
set_option maxHeartbeats 2000000 in
theorem impl_DoCover (aP : Option Addr) (nP cP : Nat) (aW : Option Addr) (nW cW : Nat) (ps ws : List Int) (aL : Option Addr) (nL cL : Nat) (l : List Int) (aC : Option Addr) (nC cC : Nat) (caps : List Int) (w : World) (h : Tre w aP nP cP aW nW cW ps ws) (hL : Ints w aL nL l) (hLc : aL = none → cL = 0) (hn : nL ≤ 1048576) (hC : Ints w aC nC caps) (hCc : aC = none → cC = 0) (hnC : nC ≤ 1048576) :
    Calls Try.prog 24 #[.agg #[.slice aP nP cP, .slice aW nW cW], .slice aL nL cL, .slice aC nC cC] w fun e w' => e = .returned (.tuple #[.bool (coverV ps ws l caps), .bool (paysB ps ws l)]) ∧ Below w.heap.size w w' := by
  have HC := Lib.hid hC
  have HCl := Lib.hid hC.1
  clear hC
  have hl := h.p.1
  have hlw := h.w.1
  have hpn := h.pn
  have hwn := h.wn
  have hb1 := below_new w (.cells #[.slice aP nP cP, .slice aW nW cW] 29)
  have hP1 := Lib.hid (Pair.new w (.slice aP nP cP) (.slice aW nW cW) 29)
  have H := Lib.hid h
  have Hl := Lib.hid hl
  have Hlw := Lib.hid hlw
  clear h hl hlw
  have HL := Lib.hid hL
  have hll := Lib.hid hL.1
  clear hL
  have hlt2 := hP1.out.lt
  go_enter Try.func24, Try.ntmps24
  have c0 := hP1.out.c0
  have c1 := hP1.out.c1
  go_wp2_with fail
  generalize (w.alloc (.cells #[.slice aP nP cP, .slice aW nW cW] 29)) = w2 at *
  refine (impl_IsTree _ _ _ _ _ _ ps ws _ (H.out.below hb1)).mono ?_
  rintro e w3 ⟨rfl, hb3⟩
  have hP3 := hP1.out.below hb3
  have d0 := hP3.c0
  have d1 := hP3.c1
  have HP3 := Lib.hid hP3
  have hb13 := hb1.trans (hb3.mono hb1.size)
  clear hP3 c0 c1 hb3
  cases hT : treeB ps ws
  · have Hv := Lib.hid (pays_no1 (l := l) hT)
    clear hT
    go_wp2_with fail
    go_ret2
    exact ⟨by rw [coverV_no Hv.out, Hv.out]; rfl, hb13⟩
  have HT := Lib.hid hT
  clear hT
  go_wp2_with fail
  refine (impl_isProcess _ _ _ _ _ _ ps ws _ _ _ l _ (H.out.below hb13) (HL.out.below hb13) hn).mono ?_
  rintro e w4 ⟨rfl, hb4⟩
  have hb14 := hb13.trans (hb4.mono hb13.size)
  have hP4 := HP3.out.below hb4
  have e0 := hP4.c0
  have e1 := hP4.c1
  have HP4 := Lib.hid hP4
  clear d0 d1 hP4 hb4
  cases hp : procB ps.length l
  · have Hv := Lib.hid (pays_no2 (ws := ws) hp)
    clear hp
    go_wp2_with fail
    go_ret2
    exact ⟨by rw [coverV_no Hv.out, Hv.out]; rfl, hb14⟩
  have Hpays := Lib.hid (pays_both HT.out hp)
  have hpp := procB_t hp
  have hTr := treeB_t HT.out
  have hn24 := hTr.n24
  have hn1 := hTr.n1
  have hnL : nP = nL := by have := hll.out; have := hpp.1; have := Hl.out; omega
  have hnW : nP = nW := by have := Hlw.out; have := hTr.wl; have := Hl.out; omega
  have hnP : 1 ≤ nP ∧ nP ≤ 24 := by have := Hl.out; omega
  have Hpp := Lib.hid hpp
  have HTr := Lib.hid hTr
  have HnW := Lib.hid hnW
  have hnW2 : nP ≤ nW := by omega
  clear hp hpp hn24 hn1 hTr hpn hwn hnW
  subst hnL

  by_cases hlen : nC = nP
  rotate_left
  · have hlb : ((nC : Int) != (nP : Int)) = true := by rw [bne_iff_ne]; omega
    have Hv := Lib.hid (coverV_len (ps := ps) (ws := ws) (l := l) (caps := caps) (by rw [HCl.out, Hl.out]; exact hlen))
    clear hlen
    go_wp2_with fail
    go_ret2
    exact ⟨by rw [Hv.out, Hpays.out]; rfl, hb14⟩
  subst hlen
  cases hA : allIn caps (-1000000000) 1000000000
  · have Hv := Lib.hid (coverV_all (ps := ps) (ws := ws) (l := l) hA)
    have HA := Lib.hid hA
    clear hA
    go_wp2_with (go_at_call 55; refine (impl_allWithin _ _ _ _ _ caps _ (by omega) (HC.out.below hb14)).mono ?_; rintro e w' ⟨rfl, rfl⟩; rw [HA.out])
    go_ret2
    exact ⟨by rw [Hv.out, Hpays.out]; rfl, hb14⟩
  have HA := Lib.hid hA
  clear hA
  go_upto_region 5 with (go_at_call 55; refine (impl_allWithin _ _ _ _ _ caps _ (by omega) (HC.out.below hb14)).mono ?_; rintro e w' ⟨rfl, rfl⟩; rw [HA.out])
  have hmk := mk_ints nC (by omega)
  have Hcb : Hid (Abs2 1000000000 caps) := Lib.hid fun i => by
    by_cases hi : i < caps.length
    · exact inB_t (all_get HA.out hi)
    · rw [nth_ge (by omega)]; omega
  have hmx : nC ≤ maxLen := by have : maxLen = 9223372036854775807 := rfl; omega
  have Hsl : Hid ((sums ps ws).length = nC) := Lib.hid (by rw [sums_length HTr.out]; exact Hl.out)
  have Hel : Hid ((endsB ps).length = nC) := Lib.hid (by rw [endsB_length]; exact Hl.out)
  go_cut [8, 9, 10] (fun v8 v9 v10 wc => Three w4 wc nC ps ws v8 v9 v10)
  case first =>
    go_region_held3 (fun W' => KeepR w4 W' ∧ W'.cell? ⟨w.heap.size, 0, none⟩ = some (.slice aP nC cP) ∧ W'.cell? ⟨w.heap.size, 1, none⟩ = some (.slice aW nW cW))
      (first | exact keep2 (by assumption) HP4.out | exact keep2 (KeepR.alloc0 _ _) HP4.out | exact keep2 (KeepR.start _) HP4.out | exact keep2 (KeepR.alloc (by assumption : KeepR w4 _ ∧ _).1 _) HP4.out | exact keep2 (KeepR.alloc (by assumption : KeepR w4 _ ∧ _).1 _).drew HP4.out)
      (first
        | (go_at_call 61; refine (impl_sums _ _ _ _ _ _ ps ws _ (H.out.below (hb14.trans (Below.mono (by assumption : KeepR w4 _ ∧ _).1 hb14.size))) HTr.out).mono ?_; rintro e w5 ⟨v5, rfl, o5, b5⟩; have hk5 := KeepR.next b5 (by assumption : KeepR w4 _ ∧ _).1)
        | (go_at_call 62; refine (impl_isEnd _ _ _ _ _ _ ps ws _ (H.out.below (hb14.trans (Below.mono (by assumption : KeepR w4 _ ∧ _).1 hb14.size))) HTr.out.toPa).mono ?_; rintro e w6 ⟨v6, rfl, o6, b6⟩; have hk6 := KeepR.next b6 (by assumption : KeepR w4 _ ∧ _).1))
    all_goals (go_wp2_with fail)
    all_goals go_meet
    · exact three_mk hk6 Hsl.out Hel.out ((o5.below (below_new w5 _)).below b6) ((Own.zeros w5 w5.heap.size nC (Nat.le_refl _) hmx).below b6) o6 (Below.size hk5)
        (fun g hg => by have := (World.ownsRow.lt o5 g hg).2; omega) (fun g hg => by have := (World.ownsRow.lt o6 g hg).1; simp at this; omega)
    · exact three_mk (KeepR.alloc hk6 _) Hsl.out Hel.out ((o5.below b6).below (below_new w6 _)) (Own.zeros w6 w6.heap.size nC (Nat.le_refl _) hmx) (o6.below (below_new w6 _)) (Below.size hk6)
        (fun g hg => by have := (World.ownsRow.lt (o5.below b6) g hg).2; omega) (fun g hg => by have := (World.ownsRow.lt o6 g hg).2; omega)
    · exact three_mk hk6 Hsl.out Hel.out (o5.below b6) ((((Own.zeros w4 w4.heap.size nC (Nat.le_refl _) hmx).below (Below.refl _ _).drew).below b5).below b6) o6 (Nat.le_refl _)
        (fun g hg => by have := (World.ownsRow.lt o5 g hg).1; simp at this; omega) (fun g hg => by have := (World.ownsRow.lt o6 g hg).1; have := b5.size; simp at this; omega)
  case rest =>
    clear hmk e0 e1
    obtain ⟨hk5, a8, c8, g9, a10, c10, rfl, rfl, rfl, i8, o9, i10, s8, s10⟩ := hcut
    have hk5b : Below w4.heap.size w4 wc := hk5
    have hb15 := hb14.trans (hk5b.mono hb14.size)
    have HP5 := Lib.hid (HP4.out.below hk5b)
    have G8 := Lib.hid i8
    have G10 := Lib.hid i10
    have R8 := Lib.hid s8
    have R10 := Lib.hid s10
    have H9 : Hid (Own wc w4.heap.size (.slice (some ⟨g9, 0, none⟩) nC nC) (onS ps caps (nC - 1))) := Lib.hid (by
      have := onS_start ps caps
      rw [Hl.out] at this
      rw [this]; exact o9)
    have hg9 : w.heap.size < g9 := by have := (o9.lt).1; have := HP4.out.lt; omega
    have hg9b : w4.heap.size ≤ g9 := o9.lt.1
    have hCg : Hid (∀ p, aC = some p → p.block ≠ g9) := Lib.hid fun p hp e => by
      subst hp
      obtain ⟨b', off', he, hlt, _⟩ := HC.out.2 (by omega)
      cases he
      have : b' = g9 := e
      omega
    clear i8 i10 s8 s10 o9 hk5 hk5b hb14 hb13 hb1
    go_wp2_with fail
    go_loopw [11] (fun v11 wr => ∃ k : Nat, k < nC ∧ v11 = .int .i64 (k : Int) ∧ Own wr w4.heap.size (.slice (some ⟨g9, 0, none⟩) nC nC) (onS ps caps k) ∧ Ints wr a8 nC (sums ps ws) ∧ Bo.Ints wr a10 nC (endsB ps) ∧ Pair wr w.heap.size (.slice aP nC cP) (.slice aW nW cW) ∧ Below w.heap.size w wr) (fun v11 _ => (intOf v11).toNat)
    case atStart => exact ⟨nC - 1, by omega, vi (by omega), H9.out, G8.out, G10.out, HP5.out, hb15⟩
    case round =>
      clear hb15
      obtain ⟨k, hk, rfl, hown, h8, h10, hP, hbel⟩ := hrel
      have c0 := hP.c0
      have c1 := hP.c1
      have HPk := Lib.hid hP
      have G8k := Lib.hid h8
      have G10k := Lib.hid h10
      clear hP h8 h10
      by_cases hlt : (k : Int) > 0
      · obtain ⟨K, rfl⟩ : ∃ K : Nat, k = K + 1 := ⟨k - 1, by omega⟩
        obtain ⟨bP, oP, rfl, hc⟩ := H.out.p.at (i := K + 1) hbel (by omega)
        have hup := HTr.out.toPa.upN (x := K + 1) (by omega) (by have := Hl.out; omega)
        rw [hup.1] at hc
        have hpl := hup.2
        have hstep := onS_step (caps := caps) HTr.out.toPa (k := K) (by have := Hl.out; omega)
        obtain ⟨bC, oC, rfl, hcC⟩ := HC.out.at (i := K + 1) hbel (by omega)
        have q1 := onS_bd (ps := ps) (B := 1000000000) (by omega) Hcb.out (by have := Hl.out; omega) (K + 1) (par ps (K + 1)) (by have := Hl.out; omega)
        have q2 := Hcb.out (K + 1)
        have hlo : (onS ps caps (K + 1)).length = nC := by rw [onS_length]; exact Hl.out
        clear hup
        generalize par ps (K + 1) = p at *
        have d1 := hown.cell (i := p) (by omega)
        have f1 := hown.free hlo.symm p
        have hset := Own.set (w := wr.drew) hown hlo.symm p (nth (onS ps caps (K + 1)) p + nth caps (K + 1))
        rw [← hstep] at hset
        generalize hz1 : nth (onS ps caps (K + 1)) p = z1 at *
        generalize hz2 : nth caps (K + 1) = z2 at *
        have Hset := Lib.hid hset
        have HPn := Lib.hid (Pair.far (w := wr.drew) HPk.out.drew (b := g9) (i := p) (show g9 ≠ w.heap.size by omega) (.int .i64 (z1 + z2)))
        have G8n := Lib.hid (ints_far (w := wr.drew) (G8k.out.below (Below.refl _ _).drew) (b := g9) (i := p) R8.out (.int .i64 (z1 + z2)))
        have G10n := Lib.hid (Bo.ints_far (w := wr.drew) (G10k.out.below (Below.refl _ _).drew) (b := g9) (i := p) R10.out (.int .i64 (z1 + z2)))
        clear hset hown hstep hz1 hz2 hlo
        have s0 : IntKind.i64.wrap (z1 + z2) = z1 + z2 := IntWalk.i64_in _ (by omega)
        have s1 : (0 : Int) ≤ (p : Int) := by omega
        have s2 : (p : Int) < (nC : Int) := by omega
        have s3 : (0 : Int) ≤ ((K + 1 : Nat) : Int) := by omega
        have s4 : ((K + 1 : Nat) : Int) < (nC : Int) := by omega
        have s5 : (0 : Int) ≤ (K : Int) + 1 := by omega
        have s6 : (K : Int) + 1 < (nC : Int) := by omega
        go_wp2_with fail
        refine wp_region_still_tail 14 (by kernel_rfl) (by kernel_rfl) ?_
        simp only [List.take_succ_cons, List.take_zero, List.drop_succ_cons, List.drop_zero]
        still_step
        still_step
        still_step
        still_step
        still_step
        still_step
        still_step
        still_step
        still_step
        still_step
        still_step
        still_step
        still_step
        still_step
        refine wpStill_nil ?_
        change wpList _ _ _ _ _ wr.drew
        go_wp2_with fail
        go_roundw
        case rel => exact ⟨K, by omega, vi (by omega), Hset.out, G8n.out, G10n.out, HPn.out, hbel.drew.setCell (show w.heap.size ≤ g9 by omega) _⟩
        case measure => simp [intOf]
      · obtain rfl : k = 0 := by omega
        have Hown := Lib.hid hown
        clear hown c0 c1
        go_wp2_with fail
        go_loopw [63] (fun v63 wx => ∃ x : Nat, x ≤ nC ∧ v63 = .int .i64 (x : Int) ∧ (∀ y, y < x → capOk ps ws l caps y = true) ∧ Below wr.heap.size wr wx) (fun v63 _ => nC - (intOf v63).toNat)
        case atStart => exact ⟨0, Nat.zero_le _, rfl, fun y h => by omega, Below.refl _ _⟩
        case round =>
          obtain ⟨x, hx, rfl, hall, hbx⟩ := hrel
          have Hall := Lib.hid hall
          clear hall
          by_cases hltx : (x : Int) < nC
          · have hbw := hbel.trans (hbx.mono hbel.size)
            obtain ⟨bC, oC, rfl, hcC⟩ := HC.out.at (i := x) hbw (by omega)
            obtain ⟨bL, oL, rfl, hcL⟩ := HL.out.at (i := x) hbw (by omega)
            obtain ⟨b8, o8, rfl, hc8⟩ := G8k.out.at (i := x) hbx (by omega)
            obtain ⟨b10, o10, rfl, hc10⟩ := G10k.out.at (i := x) hbx (by omega)
            have hcO := (Hown.out.below hbx).cell (i := x) (by rw [onS_length]; have := Hl.out; omega)
            rw [onS_end HTr.out.toPa (by have := Hl.out; omega)] at hcO
            rw [nth_endsB (by have := Hl.out; omega)] at hc10
            have hcd : capOk ps ws l caps x = !(decide (nth caps x < nth (sums ps ws) x * nth l x) || (!endB ps x && decide (nth caps x < kidSum ps (fun y => nth caps y) x ps.length))) := rfl
            have hsb := sums_bd HTr.out x
            have hlb := Hpp.out.2 x
            have hmb := mul_abs (B := 999) (U := 480) hlb hsb (by omega)
            rw [Int.mul_comm (nth l x) (nth (sums ps ws) x)] at hmb
            generalize nth caps x = c at *
            generalize nth (sums ps ws) x = s at *
            generalize nth l x = p at *
            generalize kidSum ps (fun y => nth caps y) x ps.length = o at *
            have x0 : (0 : Int) ≤ (x : Int) := by omega
            have k1 : IntKind.i64.wrap (s * p) = s * p := IntWalk.i64_in _ (by omega)
            have Hcd := Lib.hid hcd
            clear hcd hsb hlb hmb
            by_cases g1 : c < s * p
            · have g1b : decide (c < s * p) = true := decide_eq_true g1
              have Hv : Hid (coverV ps ws l caps = false) := Lib.hid (coverV_bad (x := x) (by have := Hl.out; omega) (by rw [Hcd.out, g1b]; rfl))
              go_wp2_with fail
              go_quiet (fail)
              go_wp2_with fail
              go_ret2
              exact ⟨by rw [Hv.out, Hpays.out]; rfl, below_drewN hbw _⟩
            · have g1b : decide (c < s * p) = false := decide_eq_false g1
              cases he : endB ps x
              · rw [he] at hc10
                by_cases g2 : c < o
                · have g2b : decide (c < o) = true := decide_eq_true g2
                  have Hv : Hid (coverV ps ws l caps = false) := Lib.hid (coverV_bad (x := x) (by have := Hl.out; omega) (by rw [Hcd.out, g1b, g2b, he]; rfl))
                  clear he
                  go_wp2_with fail
                  go_quiet (fail)
                  go_wp2_with fail
                  go_ret2
                  exact ⟨by rw [Hv.out, Hpays.out]; rfl, below_drewN hbw _⟩
                · have g2b : decide (c < o) = false := decide_eq_false g2
                  have Hok : Hid (capOk ps ws l caps x = true) := Lib.hid (by rw [Hcd.out, g1b, g2b, he]; rfl)
                  clear he
                  go_wp2_with fail
                  go_quiet (fail)
                  go_wp2_with fail
                  go_roundw
                  case rel => exact ⟨x + 1, by omega, by go_num, fun y hy => by
                    by_cases e : y = x
                    · subst e; exact Hok.out
                    · exact Hall.out y (by omega), below_drewN hbx _⟩
                  case measure => simp [intOf]; omega
              · rw [he] at hc10
                have Hok : Hid (capOk ps ws l caps x = true) := Lib.hid (by rw [Hcd.out, g1b, he]; rfl)
                clear he
                go_wp2_with fail
                go_quiet (fail)
                go_wp2_with fail
                go_roundw
                case rel => exact ⟨x + 1, by omega, by go_num, fun y hy => by
                  by_cases e : y = x
                  · subst e; exact Hok.out
                  · exact Hall.out y (by omega), below_drewN hbx _⟩
                case measure => simp [intOf]; omega
          · obtain rfl : x = nC := by omega
            have Hv := Lib.hid (coverV_yes Hpays.out (by rw [HCl.out, Hl.out]) HA.out (fun y hy => Hall.out y (by have := Hl.out; omega)))
            go_wp2_with fail
            go_ret2
            exact ⟨by rw [Hv.out, Hpays.out]; rfl, hbel.trans (hbx.mono hbel.size)⟩
end Go.Proofs.Ytfnmhoidgnihoaa
