/- Contract: the rule that stops at the first node on each way at which something is so, by the program. -/
import Derived.Test.YtjkkfjipgomkdaaEntry
namespace Go.Proofs.Ytjkkfjipgomkdaa
open Go.RowKit

/-- A list without numbers and falses, just made, apart from each other. -/
def TwoF (u wc : World) (n : Nat) (v5 v6 : Value) : Prop :=
  KeepR u wc ∧ ∃ g5 g6 : Nat, v5 = .slice (some ⟨g5, 0, none⟩) 0 0 ∧ v6 = .slice (some ⟨g6, 0, none⟩) n n ∧ g5 ≠ g6 ∧ Own wc u.heap.size v5 [] ∧ Bo.Own wc u.heap.size v6 (List.replicate n false)
set_option maxRecDepth 100000 in
set_option maxHeartbeats 4000000 in
theorem impl_firsts (aP : Option Addr) (nP cP : Nat) (aW : Option Addr) (nW cW : Nat) (ps ws : List Int) (f : FuncId) (caps : Array Value) (q : Nat → Bool) (w : World) (h : Tre w aP nP cP aW nW cW ps ws) (hp : Pa ps)
    (hcf : ∀ (args : Array Value) (W : World), (callFunc f args).run Try.prog W = .ok (.enter f args) W)
    (hst : ∀ (x : Nat) (W : World), x < nP → Below w.heap.size w W → Calls Try.prog f (#[.int .i64 (x : Int)] ++ caps) W fun e w' => e = .returned (.bool (q x)) ∧ Below W.heap.size W w') :
    Calls Try.prog 67 #[.agg #[.slice aP nP cP, .slice aW nW cW], .func (.func f) #[] caps] w fun e w' => ∃ v, e = .returned v ∧ Own w' w.heap.size v (firsts ps (fS q)) ∧ Below w.heap.size w w' := by
  have Hp := Lib.hid hp
  have hn24 := hp.n24
  have hl := h.p.1
  have hlw := h.w.1
  have hpn := h.pn
  have hwn := h.wn
  have hb1 := below_new w (.cells #[.slice aP nP cP, .slice aW nW cW] 28)
  have hP1 := Lib.hid (Pair.new w (.slice aP nP cP) (.slice aW nW cW) 28)
  have H := Lib.hid h
  have Hl := Lib.hid hl
  have Hlw := Lib.hid hlw
  clear h hl hlw
  have hnP : nP ≤ 24 := by have := Hl.out; omega
  have Hst := Lib.hid hst
  clear hp hn24 hst
  have hmk := Bo.mk_bools nP (by omega)
  have hmx : nP ≤ maxLen := by have : maxLen = 9223372036854775807 := rfl; omega
  have c0 := hP1.out.c0
  have c1 := hP1.out.c1
  go_enter Try.func67, Try.ntmps67
  go_wp2_with fail
  have hu0 : w.heap.size + 1 ≤ (w.alloc (.cells #[.slice aP nP cP, .slice aW nW cW] 28)).heap.size := by simp
  generalize (w.alloc (.cells #[.slice aP nP cP, .slice aW nW cW] 28)) = u0 at *
  have z1 : Hid (Bo.Own ((u0.alloc (.cells #[] 3)).alloc (.cells (Bo.zv nP) 4)) u0.heap.size (.slice (some ⟨u0.heap.size + 1, 0, none⟩) nP nP) (List.replicate nP false)) := Lib.hid (by
    have := Bo.Own.zeros (u0.alloc (.cells #[] 3)) u0.heap.size nP (by simp) hmx
    simpa using this)
  have z2 : Hid (Own ((u0.alloc (.cells (Bo.zv nP) 4)).alloc (.cells #[] 3)) u0.heap.size (.slice (some ⟨u0.heap.size + 1, 0, none⟩) 0 0) []) := Lib.hid (by
    have := (own_nil0 (u0.alloc (.cells (Bo.zv nP) 4))).mono (base' := u0.heap.size) (by simp)
    simpa using this)
  go_cut [5, 6] (fun v5 v6 wc => TwoF u0 wc nP v5 v6)
  case first =>
    go_region_held3 (fun W' => KeepR u0 W' ∧ W'.cell? ⟨w.heap.size, 0, none⟩ = some (.slice aP nP cP))
      (first | exact keepC1 (by assumption) c0 | exact keepC1 (KeepR.alloc0 _ _) c0 | exact keepC1 (KeepR.start _) c0 | exact keepC1 (KeepR.alloc (by assumption : KeepR u0 _ ∧ _).1 _) c0 | exact keepC1 (KeepR.alloc (by assumption : KeepR u0 _ ∧ _).1 _).drew c0 | exact keepC1 (KeepR.alloc (KeepR.alloc0 _ _) _).drew c0 | exact keepC1 (KeepR.alloc (KeepR.alloc0 _ _) _) c0)
      (fail)
    all_goals (go_wp2_with fail)
    all_goals go_meet
    all_goals first
      | exact ⟨((below_new u0 _).alloc (by simp) _).drew, _, _, rfl, rfl, by simp, ((own_nil0 u0).below (below_new _ _)).below (Below.refl _ _).drew, z1.out.below (Below.refl _ _).drew⟩
      | exact ⟨((below_new u0 _).alloc (by simp) _).drew, _, _, rfl, rfl, by simp, z2.out.below (Below.refl _ _).drew, ((Bo.Own.zeros u0 u0.heap.size nP (Nat.le_refl _) hmx).below (below_new _ _)).below (Below.refl _ _).drew⟩
  case rest =>
    clear hmk
    obtain ⟨hk4, g5, g6, rfl, rfl, hne, o5, o6⟩ := hcut
    have hk4b : Below u0.heap.size u0 wc := hk4
    have hb4 := hb1.trans (hk4b.mono hb1.size)
    have HP4 := Lib.hid (hP1.out.below hk4b)
    have hlt6 := o6.lt
    have hlt2 : u0.heap.size ≤ wc.heap.size := hk4b.size
    have O6 : Hid (Bo.Own wc u0.heap.size (.slice (some ⟨g6, 0, none⟩) nP nP) (beL ps (fS q) nP 0)) := Lib.hid (by rw [← beL_zero]; exact o6)
    have O5 := Lib.hid o5
    have Hne0 : Hid ((Value.slice (some ⟨g5, 0, none⟩) 0 0).ownBlock ≠ some g6) := Lib.hid (by simp [Value.ownBlock]; exact hne)
    clear o5 o6 hk4 hk4b c0 c1 hb1 hP1
    have c0 := HP4.out.c0
    go_wp2_with fail

    go_loopw [5, 16] (fun v5 v16 wr => ∃ k : Nat, k ≤ nP ∧ v16 = .int .i64 (k : Int) ∧ Own wr u0.heap.size v5 (filt (firB ps (fS q)) k) ∧ Bo.Own wr u0.heap.size (.slice (some ⟨g6, 0, none⟩) nP nP) (beL ps (fS q) nP k) ∧ Pair wr w.heap.size (.slice aP nP cP) (.slice aW nW cW) ∧ v5.ownBlock ≠ some g6 ∧ Below w.heap.size w wr) (fun _ v16 _ => nP - (intOf v16).toNat)
    case atStart => exact ⟨0, Nat.zero_le _, rfl, O5.out, O6.out, HP4.out, Hne0.out, hb4⟩
    case round =>
      clear O5 O6 Hne0 hb4 HP4 hlt2 c0
      obtain ⟨k, hk, rfl, hou, hent, hP, hne2, hbel⟩ := hrel
      have c0 := hP.c0
      have c1 := hP.c1
      have HP := Lib.hid hP
      have HneN := Lib.hid hne2
      have hu0r : u0.heap.size ≤ wr.heap.size := by have := hent.lt; omega
      clear hP hne2
      by_cases hlt : (k : Int) < nP
      · obtain ⟨bP, oP, rfl, hcP⟩ := H.out.p.at (i := k) hbel (by omega)
        have hcN := hent.cell (i := k) (by rw [beL_length]; omega)
        have hfN := hent.free (by rw [beL_length]) k
        have hfl := filt_length (firB ps (fS q)) k
        by_cases hk0 : k = 0
        · have hbf : behB ps (fS q) k = fS q (k : Int) ∧ firB ps (fS q) k = fS q (k : Int) := by subst hk0; exact beh_zero _ _
          have hx0 : ¬ (k : Int) > 0 := by omega
          clear hcP hk0
          have hqf : fS q (k : Int) = q k := by unfold fS; rw [Int.toNat_natCast]
          rw [hqf] at hbf
          go_wp2_with fail
          refine (Hst.out k _ (by omega) hbel).mono ?_
          rintro e w5 ⟨rfl, b5⟩
          have hou5 := hou.below b5
          have hent5 := hent.below b5
          have HP5 := Lib.hid (HP.out.below b5)
          have hbel5 := hbel.trans (b5.mono hbel.size)
          have hu05 : u0.heap.size ≤ w5.heap.size := Nat.le_trans hu0r b5.size
          have c05 := HP5.out.c0
          have hcN5 := hent5.cell (i := k) (by rw [beL_length]; omega)
          have hfN5 := hent5.free (by rw [beL_length]) k
          clear hou hent HP hbel hu0r hcN hfN b5 c0 c1
          have hou := hou5
          have hent := hent5
          have HP := HP5
          have hbel := hbel5
          have hu0r := hu05
          clear hou5 hent5 HP5 hbel5 hu05
          cases hq : q k
          · have hbe : behB ps (fS q) k = false := by rw [hbf.1, hq]
            have hfi : firB ps (fS q) k = false := by rw [hbf.2, hq]
            clear hbf hq hqf
            have Hff := Lib.hid (filt_f hfi)
            have Hbf := Lib.hid (beL_f (n := nP) hbe)
            clear hbe hfi
            go_wp2_with fail
            go_roundw
            case rel => exact ⟨k + 1, by omega, by go_num, by rw [Hff.out]; exact hou, by rw [Hbf.out]; exact hent, HP.out, HneN.out, hbel⟩
            case measure => simp [intOf]; omega
          · have hbe : behB ps (fS q) k = true := by rw [hbf.1, hq]
            have hfi : firB ps (fS q) k = true := by rw [hbf.2, hq]
            clear hbf hq hqf
            have hbt := beL_t (n := nP) (show k < nP by omega) hbe
            have Hs := Lib.hid (Bo.Own.set (w := w5) hent (by rw [beL_length]) k true)
            have HouF := Lib.hid (Own.far (w := w5) hou (a := ⟨g6, k, none⟩) (u := .bool true) HneN.out)
            have HPF := Lib.hid (Pair.far (w := w5) HP.out (b := g6) (i := k) (by omega) (.bool true))
            have hbs : Below w.heap.size w (w5.setCell ⟨g6, k, none⟩ (.bool true)) := hbel.setCell (show w.heap.size ≤ g6 by omega) _
            have Hbt := Lib.hid hbt
            clear hbt hent hou
            have Hff := Lib.hid (filt_t hfi)
            have hsz2 : u0.heap.size ≤ (w5.setCell ⟨g6, k, none⟩ (.bool true)).heap.size := by simpa using hu0r
            clear hbe hfi
            go_upto_region 9 with fail
            generalize w5.setCell ⟨g6, k, none⟩ (.bool true) = wz at *
            go_wp2_with (at_builtin; refine wp_push2 _ _ rfl rfl u0.heap.size _ _ rfl HouF.out rfl (by omega) hsz2 ?_; intro v' w' ho hb hm)
            have hN2 := Bo.Own.moved Hs.out hm (fun g hg e => HneN.out ((show g6 = g by simpa [Value.ownBlock] using hg) ▸ e))
            go_roundw
            case rel => exact ⟨k + 1, by omega, by go_num, by rw [Hff.out]; exact ho, by rw [Hbt.out]; exact hN2, HPF.out.up hb (by omega), (hm.2 g6 (Hs.out.lt.2) HneN.out).1, hbs.trans (hb.mono (by omega))⟩
            case measure => simp [intOf]; omega
        · have hx0 : (k : Int) > 0 := by omega
          have hup := Hp.out.upN (x := k) (by omega) (by have := Hl.out; omega)
          have hbu := beh_up Hp.out (fS q) (x := k) (by omega) (by have := Hl.out; omega)
          have hcQ := hent.cell (i := par ps k) (by rw [beL_length]; have := hup.2; omega)
          rw [nth_beL hup.2 (by have := hup.2; omega)] at hcQ
          rw [hup.1] at hcP
          have hpl := hup.2
          have hpl2 : par ps k < nP := by omega
          clear hup
          generalize par ps k = pk at *
          cases hbp : behB ps (fS q) pk
          · have hbf := hbu.2 hbp
            rw [hbp] at hcQ
            clear hbu hbp
            have hqf : fS q (k : Int) = q k := by unfold fS; rw [Int.toNat_natCast]
            rw [hqf] at hbf
            go_wp2_with fail
            refine (Hst.out k _ (by omega) hbel).mono ?_
            rintro e w5 ⟨rfl, b5⟩
            have hou5 := hou.below b5
            have hent5 := hent.below b5
            have HP5 := Lib.hid (HP.out.below b5)
            have hbel5 := hbel.trans (b5.mono hbel.size)
            have hu05 : u0.heap.size ≤ w5.heap.size := Nat.le_trans hu0r b5.size
            have c05 := HP5.out.c0
            have hcN5 := hent5.cell (i := k) (by rw [beL_length]; omega)
            have hfN5 := hent5.free (by rw [beL_length]) k
            clear hou hent HP hbel hu0r hcN hfN b5 c0 c1
            have hou := hou5
            have hent := hent5
            have HP := HP5
            have hbel := hbel5
            have hu0r := hu05
            clear hou5 hent5 HP5 hbel5 hu05
            cases hq : q k
            · have hbe : behB ps (fS q) k = false := by rw [hbf.1, hq]
              have hfi : firB ps (fS q) k = false := by rw [hbf.2, hq]
              clear hbf hq hqf
              have Hff := Lib.hid (filt_f hfi)
              have Hbf := Lib.hid (beL_f (n := nP) hbe)
              clear hbe hfi
              go_wp2_with fail
              go_roundw
              case rel => exact ⟨k + 1, by omega, by go_num, by rw [Hff.out]; exact hou, by rw [Hbf.out]; exact hent, HP.out, HneN.out, hbel⟩
              case measure => simp [intOf]; omega
            · have hbe : behB ps (fS q) k = true := by rw [hbf.1, hq]
              have hfi : firB ps (fS q) k = true := by rw [hbf.2, hq]
              clear hbf hq hqf
              have hbt := beL_t (n := nP) (show k < nP by omega) hbe
              have Hs := Lib.hid (Bo.Own.set (w := w5) hent (by rw [beL_length]) k true)
              have HouF := Lib.hid (Own.far (w := w5) hou (a := ⟨g6, k, none⟩) (u := .bool true) HneN.out)
              have HPF := Lib.hid (Pair.far (w := w5) HP.out (b := g6) (i := k) (by omega) (.bool true))
              have hbs : Below w.heap.size w (w5.setCell ⟨g6, k, none⟩ (.bool true)) := hbel.setCell (show w.heap.size ≤ g6 by omega) _
              have Hbt := Lib.hid hbt
              clear hbt hent hou
              have Hff := Lib.hid (filt_t hfi)
              have hsz2 : u0.heap.size ≤ (w5.setCell ⟨g6, k, none⟩ (.bool true)).heap.size := by simpa using hu0r
              clear hbe hfi
              go_upto_region 9 with fail
              generalize w5.setCell ⟨g6, k, none⟩ (.bool true) = wz at *
              go_wp2_with (at_builtin; refine wp_push2 _ _ rfl rfl u0.heap.size _ _ rfl HouF.out rfl (by omega) hsz2 ?_; intro v' w' ho hb hm)
              have hN2 := Bo.Own.moved Hs.out hm (fun g hg e => HneN.out ((show g6 = g by simpa [Value.ownBlock] using hg) ▸ e))
              go_roundw
              case rel => exact ⟨k + 1, by omega, by go_num, by rw [Hff.out]; exact ho, by rw [Hbt.out]; exact hN2, HPF.out.up hb (by omega), (hm.2 g6 (Hs.out.lt.2) HneN.out).1, hbs.trans (hb.mono (by omega))⟩
              case measure => simp [intOf]; omega
          · obtain ⟨hbe, hfi⟩ := hbu.1 hbp
            rw [hbp] at hcQ
            clear hbu hbp
            have hbt := beL_t (n := nP) (show k < nP by omega) hbe
            have Hs := Lib.hid (Bo.Own.set (w := wr) hent (by rw [beL_length]) k true)
            have HouF := Lib.hid (Own.far (w := wr) hou (a := ⟨g6, k, none⟩) (u := .bool true) HneN.out)
            have HPF := Lib.hid (Pair.far (w := wr) HP.out (b := g6) (i := k) (by omega) (.bool true))
            have hbs : Below w.heap.size w (wr.setCell ⟨g6, k, none⟩ (.bool true)) := hbel.setCell (show w.heap.size ≤ g6 by omega) _
            have Hbt := Lib.hid hbt
            clear hbt hent hou
            have Hff := Lib.hid (filt_f hfi)
            clear hbe hfi
            go_wp2_with fail
            go_roundw
            case rel => exact ⟨k + 1, by omega, by go_num, by rw [Hff.out]; exact HouF.out, by rw [Hbt.out]; exact Hs.out, HPF.out, HneN.out, hbs⟩
            case measure => simp [intOf]; omega
      · obtain rfl : k = nP := by omega
        have HO := Lib.hid hou
        have Hfir : Hid (filt (firB ps (fS q)) k = firsts ps (fS q)) := Lib.hid (by unfold firsts; rw [Hl.out])
        clear hou
        go_wp2_with fail
        go_ret
        exact ⟨_, rfl, by rw [← Hfir.out]; exact HO.out.mono (by omega), hbel⟩
end Go.Proofs.Ytjkkfjipgomkdaa
