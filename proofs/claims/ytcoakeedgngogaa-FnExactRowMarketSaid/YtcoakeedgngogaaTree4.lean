/- Contracts on trees: is a tree valid, by the reference. -/
import Derived.Test.YtcoakeedgngogaaTree3
namespace Go.Proofs.Ytcoakeedgngogaa
open Go.RowKit

set_option maxRecDepth 100000 in
set_option maxHeartbeats 2000000 in
theorem spec_l2Good (aP : Option Addr) (nP cP : Nat) (aW : Option Addr) (nW cW : Nat) (ps ws : List Int) (w : World) (h : Tre w aP nP cP aW nW cW ps ws) :
    Calls Try.prog 66 #[.agg #[.slice aP nP cP, .slice aW nW cW]] w fun e w' => e = .returned (.bool (treeB ps ws)) ∧ Below w.heap.size w w' := by
  have hl := h.p.1
  have hlw := h.w.1
  have hpn := h.pn
  have hwn := h.wn
  have hb1 := below_new w (.cells #[.slice aP nP cP, .slice aW nW cW] 33)
  have hP1 := Lib.hid (Pair.new w (.slice aP nP cP) (.slice aW nW cW) 33)
  have H := Lib.hid h
  have Hl := Lib.hid hl
  have Hlw := Lib.hid hlw
  clear h hl hlw
  cases h1 : inB (nP : Int) 1 24
  · rw [tree_len1 (by rw [Hl.out]; exact h1)]
    go_enter Try.func66, Try.ntmps66
    go_wp2_with (go_at_call 45; refine (spec_l1In _ _ _ _).mono ?_; rintro e w' ⟨rfl, rfl⟩; rw [h1])
    go_ret
    exact ⟨rfl, hb1⟩
  · have hn := inB_t h1
    have H1 := Lib.hid h1
    by_cases h2 : nW = nP
    rotate_left
    · rw [tree_len2 (by rw [Hl.out, Hlw.out]; exact h2)]
      have h2b : ((nW : Int) != (nP : Int)) = true := by rw [bne_iff_ne]; omega
      clear h2
      go_enter Try.func66, Try.ntmps66
      go_wp2_with (go_at_call 45; refine (spec_l1In _ _ _ _).mono ?_; rintro e w' ⟨rfl, rfl⟩; rw [H1.out])
      go_ret
      exact ⟨rfl, hb1⟩
    · subst h2
      clear h1
      go_enter Try.func66, Try.ntmps66
      go_wp2_with (go_at_call 45; refine (spec_l1In _ _ _ _).mono ?_; rintro e w' ⟨rfl, rfl⟩; rw [H1.out])
      have c0 := hP1.out.c0
      have c1 := hP1.out.c1
      generalize (w.alloc (.cells #[.slice aP nW cP, .slice aW nW cW] 33)) = w2 at *
      go_loop [4] (fun v4 => ∃ x : Nat, x ≤ nW ∧ v4 = .int .i64 (x : Int) ∧ (1 ≤ x → nth ps 0 = -1) ∧ ∀ y : Nat, 1 ≤ y → y < x → inB (nth ps y) 0 ((y : Int) - 1) = true) (fun v4 => nW - (intOf v4).toNat)
      case atStart => exact ⟨0, by omega, rfl, fun h => by omega, fun y h1 h2 => by omega⟩
      case round =>
        obtain ⟨x, hx2, rfl, h0, hall⟩ := hrel
        have Hall := Lib.hid hall
        have H0 := Lib.hid h0
        clear hall h0
        by_cases hlt : (x : Int) < nW
        · obtain ⟨b, off, rfl, hc⟩ := H.out.p.at (i := x) hb1 (by omega)
          by_cases hx0 : x = 0
          · subst hx0
            rw [Nat.add_zero] at hc
            by_cases h3 : nth ps 0 = -1
            · have H3 := Lib.hid h3
              rw [h3] at hc
              clear h3
              go_wp2_with fail
              go_round
              case rel => exact ⟨1, by omega, by go_num, fun _ => H3.out, fun y h1 h2 => by omega⟩
              case measure => simp [intOf]; omega
            · have hv := tree_par (ws := ws) (par_p0 h3)
              have Hv := Lib.hid hv
              have h3b : (nth ps 0 != -1) = true := by rw [bne_iff_ne]; exact h3
              generalize nth ps 0 = p0 at *
              clear h3 hv
              go_wp2_with fail
              go_ret
              exact ⟨by rw [Hv.out]; rfl, hb1⟩
          · have hxb : ((x : Int) == 0) = false := by rw [beq_eq_false_iff_ne]; omega
            have hxg : (x : Int) > 0 := by omega
            cases hin : inB (nth ps x) 0 ((x : Int) - 1)
            · have hv := tree_par (ws := ws) (par_f (by omega) (by have := Hl.out; omega) hin)
              have Hv := Lib.hid hv
              generalize nth ps x = p at *
              have Hin := Lib.hid hin
              clear hin hv
              go_wp2_with (go_at_call 45; refine (spec_l1In _ _ _ _).mono ?_; rintro e w' ⟨rfl, rfl⟩; rw [Hin.out])
              go_ret
              exact ⟨by rw [Hv.out]; rfl, hb1⟩
            · have Hin := Lib.hid hin
              have Hin2 := Lib.hid hin
              generalize hp : nth ps x = p at hc Hin
              clear hin hp
              go_wp2_with (go_at_call 45; refine (spec_l1In _ _ _ _).mono ?_; rintro e w' ⟨rfl, rfl⟩; rw [Hin.out])
              go_round
              case rel => exact ⟨x + 1, by omega, by go_num, fun _ => H0.out (by omega), fun y h1 h2 => by
                by_cases e : y = x
                · subst e; exact Hin2.out
                · exact Hall.out y h1 (by omega)⟩
              case measure => simp [intOf]; omega
        · obtain rfl : x = nW := by omega
          have hpar : parB ps = true := par_t (H0.out (by omega)) fun y h1 h2 => Hall.out y h1 (by have := Hl.out; omega)
          have hPa : Pa ps := parB_t (by rw [Hl.out]; exact H1.out) hpar
          have Hpar := Lib.hid hpar
          have HPa := Lib.hid hPa
          have HP2 := Lib.hid hP1.out
          clear hpar hPa c0 c1 hlt hP1
          go_wp2_with fail
          go_loopw [5] (fun v5 wr => ∃ k : Nat, k ≤ x ∧ v5 = .int .i64 (k : Int) ∧ (∀ y : Nat, y < k → wOk ps ws y = true) ∧ Pair wr w.heap.size (.slice aP x cP) (.slice aW x cW) ∧ Below w.heap.size w wr) (fun v5 _ => x - (intOf v5).toNat)
          case atStart => exact ⟨0, Nat.zero_le _, rfl, fun y h => by omega, HP2.out, hb1⟩
          case round =>
            clear hb1
            obtain ⟨k, hk, rfl, hall, hP, hbel⟩ := hrel
            have Hok := Lib.hid hall
            have c0 := hP.c0
            have c1 := hP.c1
            have HP := Lib.hid hP
            clear hall hP
            by_cases hlt : (k : Int) < x
            · go_wp2_with fail
              refine (spec_l2Kids _ _ _ _ _ _ ps ws _ _ (H.out.below hbel) HPa.out (by omega)).mono ?_
              rintro e w3 ⟨v, rfl, ho, hb3⟩
              obtain ⟨a3, c3, rfl⟩ := ho.shape
              rw [Int.toNat_natCast] at ho ⊢
              have hlk := len_kids ps k
              have hb13 := hbel.trans (hb3.mono hbel.size)
              have HP3 := Lib.hid (HP.out.below hb3)
              have d1 := HP3.out.c1
              obtain ⟨bW, oW, rfl, hcw⟩ := H.out.w.at (i := k) hb13 (by omega)
              have hlk2 : (kids ps k).length ≤ 24 := by have := filt_length (fun y => nth ps y == (k : Int)) ps.length; have := Hl.out; unfold kids; omega
              generalize (kids ps k).length = L at *
              clear ho
              cases he : endB ps k
              · rw [he] at hlk
                by_cases hz : nth ws k = 0
                · have hok : wOk ps ws k = true := by rw [wOk, he, if_neg Bool.false_ne_true, hz]; rfl
                  rw [hz] at hcw
                  have Hk := Lib.hid hok
                  clear hok hz he
                  go_wp2_with fail
                  go_roundw
                  case rel => exact ⟨k + 1, by omega, by go_num, fun y h1 => by
                    by_cases e : y = k
                    · subst e; exact Hk.out
                    · exact Hok.out y (by omega), HP3.out, hb13⟩
                  case measure => simp [intOf]; omega
                · have hok : wOk ps ws k = false := by rw [wOk, he, if_neg Bool.false_ne_true]; simpa using hz
                  have Hk := Lib.hid hok
                  have hzb : (nth ws k != 0) = true := by rw [bne_iff_ne]; exact hz
                  generalize nth ws k = u at *
                  clear hok hz he
                  go_wp2_with fail
                  go_ret
                  exact ⟨by rw [tree_wt (x := k) (by have := Hl.out; omega) Hk.out]; rfl, hb13⟩
              · rw [he] at hlk
                cases hin : inB (nth ws k) 1 20
                · have hok : wOk ps ws k = false := by rw [wOk, he, if_pos rfl, hin]
                  have Hk := Lib.hid hok
                  generalize nth ws k = u at *
                  have Hin := Lib.hid hin
                  clear hok hin he
                  go_wp2_with (go_at_call 45; refine (spec_l1In _ _ _ _).mono ?_; rintro e w' ⟨rfl, rfl⟩; rw [Hin.out])
                  go_ret
                  exact ⟨by rw [tree_wt (x := k) (by have := Hl.out; omega) Hk.out]; rfl, hb13⟩
                · have hok : wOk ps ws k = true := by rw [wOk, he, if_pos rfl, hin]
                  have Hk := Lib.hid hok
                  generalize hu : nth ws k = u at hin hcw
                  have Hin := Lib.hid hin
                  clear hok hin he hu
                  go_wp2_with (go_at_call 45; refine (spec_l1In _ _ _ _).mono ?_; rintro e w' ⟨rfl, rfl⟩; rw [Hin.out])
                  go_roundw
                  case rel => exact ⟨k + 1, by omega, by go_num, fun y h1 => by
                    by_cases e : y = k
                    · subst e; exact Hk.out
                    · exact Hok.out y (by omega), HP3.out, hb13⟩
                  case measure => simp [intOf]; omega
            · obtain rfl : k = x := by omega
              go_wp2_with fail
              go_ret
              exact ⟨by rw [tree_yes (by rw [Hl.out]; exact H1.out) (Hlw.out.trans Hl.out.symm) Hpar.out (fun y hy => Hok.out y (by have := Hl.out; omega))]; rfl, hbel⟩
end Go.Proofs.Ytcoakeedgngogaa
