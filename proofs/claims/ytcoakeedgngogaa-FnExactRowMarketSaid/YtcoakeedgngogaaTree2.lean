/- Contracts on trees: is a tree valid, by the program. -/
import Derived.Test.YtcoakeedgngogaaTree1
namespace Go.Proofs.Ytcoakeedgngogaa
open Go.RowKit

set_option maxRecDepth 100000 in
set_option maxHeartbeats 2000000 in
theorem impl_IsTree (aP : Option Addr) (nP cP : Nat) (aW : Option Addr) (nW cW : Nat) (ps ws : List Int) (w : World) (h : Tre w aP nP cP aW nW cW ps ws) :
    Calls Try.prog 69 #[.agg #[.slice aP nP cP, .slice aW nW cW]] w fun e w' => e = .returned (.bool (treeB ps ws)) ∧ Below w.heap.size w w' := by
  have hl := h.p.1
  have hlw := h.w.1
  have hpn := h.pn
  have hwn := h.wn
  have hb1 := below_new w (.cells #[.slice aP nP cP, .slice aW nW cW] 33)
  have hP1 := Lib.hid (Pair.new w (.slice aP nP cP) (.slice aW nW cW) 33)
  have H := Lib.hid h
  have Hl := Lib.hid hl
  have Hlw := Lib.hid hlw
  clear h hl hlw
  cases h1 : inB (nP : Int) 1 24
  · rw [tree_len1 (by rw [Hl.out]; exact h1)]
    go_enter Try.func69, Try.ntmps69
    go_wp2_with (go_at_call 49; refine (impl_within _ _ _ _).mono ?_; rintro e w' ⟨rfl, rfl⟩; rw [h1])
    go_ret
    exact ⟨rfl, hb1⟩
  · have hn := inB_t h1
    have H1 := Lib.hid h1
    by_cases h2 : nW = nP
    rotate_left
    · rw [tree_len2 (by rw [Hl.out, Hlw.out]; exact h2)]
      have h2b : ((nW : Int) != (nP : Int)) = true := by rw [bne_iff_ne]; omega
      clear h2
      go_enter Try.func69, Try.ntmps69
      go_wp2_with (go_at_call 49; refine (impl_within _ _ _ _).mono ?_; rintro e w' ⟨rfl, rfl⟩; rw [H1.out])
      go_ret
      exact ⟨rfl, hb1⟩
    · subst h2
      obtain ⟨bP, oP, rfl, hbP, hcP⟩ := H.out.p.2 (by omega)
      have hc0 := hcP 0 (by omega)
      rw [Nat.add_zero] at hc0
      have hc0' := (hb1.cell (p := ⟨bP, oP, none⟩) hbP).trans hc0
      clear hcP hc0 h1
      by_cases h3 : nth ps 0 = -1
      rotate_left
      · rw [tree_par (par_p0 h3)]
        have h3b : (nth ps 0 != -1) = true := by rw [bne_iff_ne]; exact h3
        generalize nth ps 0 = p0 at *
        clear h3
        go_enter Try.func69, Try.ntmps69
        go_wp2_with (go_at_call 49; refine (impl_within _ _ _ _).mono ?_; rintro e w' ⟨rfl, rfl⟩; rw [H1.out])
        go_ret
        exact ⟨rfl, hb1⟩
      · have H3 := Lib.hid h3
        rw [h3] at hc0'
        clear h3
        go_enter Try.func69, Try.ntmps69
        go_wp2_with (go_at_call 49; refine (impl_within _ _ _ _).mono ?_; rintro e w' ⟨rfl, rfl⟩; rw [H1.out])
        have c0 := hP1.out.c0
        have c1 := hP1.out.c1
        generalize (w.alloc (.cells #[.slice (some ⟨bP, oP, none⟩) nW cP, .slice aW nW cW] 33)) = w2 at *
        clear hc0'
        go_loop [4] (fun v4 => ∃ x : Nat, 1 ≤ x ∧ x ≤ nW ∧ v4 = .int .i64 (x : Int) ∧ ∀ y : Nat, 1 ≤ y → y < x → inB (nth ps y) 0 ((y : Int) - 1) = true) (fun v4 => nW - (intOf v4).toNat)
        case atStart => exact ⟨1, by omega, by omega, rfl, fun y h1 h2 => by omega⟩
        case round =>
          obtain ⟨x, hx1, hx2, rfl, hall⟩ := hrel
          have Hall := Lib.hid hall
          clear hall
          by_cases hlt : (x : Int) < nW
          · obtain ⟨b', o', he, hc⟩ := H.out.p.at (i := x) hb1 (by omega)
            cases he
            cases hin : inB (nth ps x) 0 ((x : Int) - 1)
            · have hv := tree_par (ws := ws) (par_f hx1 (by have := Hl.out; omega) hin)
              have Hv := Lib.hid hv
              generalize nth ps x = p at *
              have Hin := Lib.hid hin
              clear hin hv
              go_wp2_with (go_at_call 49; refine (impl_within _ _ _ _).mono ?_; rintro e w' ⟨rfl, rfl⟩; rw [Hin.out])
              go_ret
              exact ⟨by rw [Hv.out]; rfl, hb1⟩
            · have Hin := Lib.hid hin
              have Hin2 := Lib.hid hin
              generalize hp : nth ps x = p at hc Hin
              clear hin hp
              go_wp2_with (go_at_call 49; refine (impl_within _ _ _ _).mono ?_; rintro e w' ⟨rfl, rfl⟩; rw [Hin.out])
              go_round
              case rel => exact ⟨x + 1, by omega, by omega, by go_num, fun y h1 h2 => by
                by_cases e : y = x
                · subst e; exact Hin2.out
                · exact Hall.out y h1 (by omega)⟩
              case measure => simp [intOf]; omega
          · obtain rfl : x = nW := by omega
            have hpar : parB ps = true := par_t H3.out fun y h1 h2 => Hall.out y h1 (by have := Hl.out; omega)
            have hPa : Pa ps := parB_t (by rw [Hl.out]; exact H1.out) hpar
            have Hpar := Lib.hid hpar
            have HPa := Lib.hid hPa
            clear hpar hPa
            go_wp2_with fail
            refine (impl_isEnd _ _ _ _ _ _ ps ws _ (H.out.below hb1) HPa.out).mono ?_
            rintro e w3 ⟨v, rfl, ho, hb3⟩
            obtain ⟨a3, c3, rfl⟩ := ho.shape
            have hel : (endsB ps).length = x := by rw [endsB_length]; exact Hl.out
            rw [hel] at ho ⊢
            have HO := Lib.hid ho.bools
            have hb13 := hb1.trans (hb3.mono hb1.size)
            have hlt2 : w.heap.size < w2.heap.size := hP1.out.lt
            have c1' := (hb3.cell (p := ⟨w.heap.size, 1, none⟩) hlt2).trans c1
            clear ho hel c0 c1 hlt
            go_wp2_with fail
            go_loop [44] (fun v44 => ∃ k : Nat, k ≤ x ∧ v44 = .int .i64 (k : Int) ∧ ∀ y : Nat, y < k → wOk ps ws y = true) (fun v44 => x - (intOf v44).toNat)
            case atStart => exact ⟨0, Nat.zero_le _, rfl, fun y h => by omega⟩
            case round =>
              obtain ⟨k, hk, rfl, hall⟩ := hrel
              have Hok := Lib.hid hall
              clear hall
              by_cases hlt : (k : Int) < x
              · obtain ⟨be, oe, rfl, hce⟩ := HO.out.at (i := k) (Below.refl _ _) (by omega)
                rw [nth_endsB (by have := Hl.out; omega)] at hce
                obtain ⟨bW, oW, rfl, hcw⟩ := H.out.w.at (i := k) hb13 (by omega)
                cases he : endB ps k
                · rw [he] at hce
                  by_cases hz : nth ws k = 0
                  · have hok : wOk ps ws k = true := by rw [wOk, he, if_neg Bool.false_ne_true, hz]; rfl
                    rw [hz] at hcw
                    have Hk := Lib.hid hok
                    clear hok hz he
                    go_wp2_with fail
                    go_round
                    case rel => exact ⟨k + 1, by omega, by go_num, fun y h1 => by
                      by_cases e : y = k
                      · subst e; exact Hk.out
                      · exact Hok.out y (by omega)⟩
                    case measure => simp [intOf]; omega
                  · have hok : wOk ps ws k = false := by rw [wOk, he, if_neg Bool.false_ne_true]; simpa using hz
                    have Hk := Lib.hid hok
                    have hzb : (nth ws k != 0) = true := by rw [bne_iff_ne]; exact hz
                    generalize nth ws k = u at *
                    clear hok hz he
                    go_wp2_with fail
                    go_ret
                    exact ⟨by rw [tree_wt (x := k) (by have := Hl.out; omega) Hk.out]; rfl, hb13⟩
                · rw [he] at hce
                  cases hin : inB (nth ws k) 1 20
                  · have hok : wOk ps ws k = false := by rw [wOk, he, if_pos rfl, hin]
                    have Hk := Lib.hid hok
                    generalize nth ws k = u at *
                    have Hin := Lib.hid hin
                    clear hok hin he
                    go_wp2_with (go_at_call 49; refine (impl_within _ _ _ _).mono ?_; rintro e w' ⟨rfl, rfl⟩; rw [Hin.out])
                    go_ret
                    exact ⟨by rw [tree_wt (x := k) (by have := Hl.out; omega) Hk.out]; rfl, hb13⟩
                  · have hok : wOk ps ws k = true := by rw [wOk, he, if_pos rfl, hin]
                    have Hk := Lib.hid hok
                    generalize hu : nth ws k = u at hin hcw
                    have Hin := Lib.hid hin
                    clear hok hin he hu
                    go_wp2_with (go_at_call 49; refine (impl_within _ _ _ _).mono ?_; rintro e w' ⟨rfl, rfl⟩; rw [Hin.out])
                    go_round
                    case rel => exact ⟨k + 1, by omega, by go_num, fun y h1 => by
                      by_cases e : y = k
                      · subst e; exact Hk.out
                      · exact Hok.out y (by omega)⟩
                    case measure => simp [intOf]; omega
              · obtain rfl : k = x := by omega
                go_wp2_with fail
                go_ret
                exact ⟨by rw [tree_yes (by rw [Hl.out]; exact H1.out) (Hlw.out.trans Hl.out.symm) Hpar.out (fun y hy => Hok.out y (by have := Hl.out; omega))]; rfl, hb13⟩
end Go.Proofs.Ytcoakeedgngogaa
