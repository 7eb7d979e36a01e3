/- Contracts and plain laws for the statement FnRules, part 11. No conditions but those stated in each. -/
import Derived.Test.YtnbomleieianoaaGreatBnFnRules2
import Derived.Test.YtnbomleieianoaaGreatBnFnRules5
import Derived.Test.YtnbomleieianoaaGreatBnFnRules4
import Derived.Deep.DeepCutAuto
import Derived.Deep.Cut
import Derived.Lib.SliceRun
import Derived.Test.YtnbomleieianoaaGreatBnFnRules13
import Derived.Test.YtnbomleieianoaaGreatBnFnRules6
import Derived.Test.YtnbomleieianoaaGreatBnFnRules10
/- Contract: what each node is worth with some steps, by the program. -/
namespace Go.Proofs.YtnbomleieianoaaGreat
open Go.RowKit

theorem grown_cell (w : World) (b i : Nat) (v : Value) : w.grownBy (w.setCell ⟨b, i, none⟩ v) (some b) :=
  ⟨rfl, rfl, rfl, by simp [World.setCell], fun k _ hk => Below.heap_setCell _ _ _ _ (fun e => hk (by simp [e]))⟩
theorem grown_drew {w w' : World} {r : Option Nat} (h : w.grownBy w' r) : w.grownBy w'.drew r := ⟨h.os, h.tape, h.output, h.size, h.block⟩
theorem grown_drewN' {w w' : World} {r : Option Nat} (h : w.grownBy w' r) (m : Nat) : w.grownBy (w'.drewN m) r := ⟨h.os, h.tape, h.output, h.size, h.block⟩
/-- The numbers from o on, m of them, turned to 0. -/
def zeroF (xs : List Int) (o : Nat) : Nat → List Int
  | 0 => xs
  | m + 1 => zeroF (xs.set o 0) (o + 1) m
theorem zeroF_length (xs : List Int) (o m : Nat) : (zeroF xs o m).length = xs.length := by
  induction m generalizing xs o with
  | zero => rfl
  | succ m ih => rw [zeroF, ih]; simp
theorem nth_zeroF (xs : List Int) (o m j : Nat) (h : o + m ≤ xs.length) : nth (zeroF xs o m) j = if o ≤ j ∧ j < o + m then 0 else nth xs j := by
  induction m generalizing xs o with
  | zero => rw [zeroF, if_neg (by omega)]
  | succ m ih =>
    rw [zeroF, ih _ _ (by simp; omega), nth_set (by omega)]
    by_cases h1 : o = j
    · subst h1; rw [if_neg (by omega), if_pos rfl, if_pos (by omega)]
    · rw [if_neg h1]
      by_cases h2 : o + 1 ≤ j ∧ j < o + 1 + m
      · rw [if_pos h2, if_pos (by omega)]
      · rw [if_neg h2, if_neg (by omega)]
theorem zeroF_all (xs : List Int) : zeroF xs 0 xs.length = List.replicate xs.length 0 := ext_nth (by rw [zeroF_length]; simp) fun i hi => by
  rw [zeroF_length] at hi
  rw [nth_zeroF _ _ _ _ (by omega), if_pos (by omega), nth_replicate]
theorem own_zeroF {base g n cap : Nat} : ∀ (m o : Nat) (w : World) (xs : List Int), Own w base (.slice (some ⟨g, 0, none⟩) n cap) xs → n = xs.length →
    Own (w.setCells g o (List.replicate m (.int .i64 0))) base (.slice (some ⟨g, 0, none⟩) n cap) (zeroF xs o m) ∧ w.grownBy (w.setCells g o (List.replicate m (.int .i64 0))) (some g)
  | 0, _, w, xs, h, _ => ⟨h, World.grownBy.refl _ _⟩
  | m + 1, o, w, xs, h, hn => by
    have h1 := h.set hn o 0
    have ih := own_zeroF m (o + 1) _ _ h1 (by simp [hn])
    exact ⟨ih.1, (grown_cell w g o _).trans ih.2⟩
theorem own_clear {w : World} {base g n cap : Nat} {xs : List Int} (h : Own w base (.slice (some ⟨g, 0, none⟩) n cap) xs) (hn : n = xs.length) :
    Own (w.setCells g 0 (List.replicate n (.int .i64 0))) base (.slice (some ⟨g, 0, none⟩) n cap) (List.replicate n 0) ∧ w.grownBy (w.setCells g 0 (List.replicate n (.int .i64 0))) (some g) := by
  have := own_zeroF n 0 w xs h hn
  rw [hn, zeroF_all, ← hn] at this
  exact this
theorem zero_int : ∀ w, (zeroValue 3).run Tryz.prog w = .ok (.int .i64 0) w := fun w => by kernel_rfl
/-- 'clear(xs)'. -/
theorem clear_run {w : World} {base g n cap : Nat} {xs : List Int} (h : Own w base (.slice (some ⟨g, 0, none⟩) n cap) xs) (hn : n = xs.length) (h0 : 0 < n) (ty : TypeId) :
    (Builtin.clear_ #[24] ty #[.slice (some ⟨g, 0, none⟩) n cap]).run Tryz.prog w = .ok (.tuple #[]) (w.setCells g 0 (List.replicate n (.int .i64 0))) :=
  Lib.run_clear_slice w 24 3 ty (.int .i64 0) Tryz.underlying24 zero_int rfl rfl g 0 n cap h0 (fun j hj => by rw [Nat.zero_add, h.cell (by omega)]; rfl) (fun j hj => by rw [Nat.zero_add]; exact h.free hn j)
/-- Sums and ends, just made. -/
def TwoR (u wc : World) (n : Nat) (ps ws : List Int) (v8 v9 : Value) : Prop :=
  KeepR u wc ∧ ∃ (a8 : Option Addr) (c8 : Nat) (a9 : Option Addr) (c9 : Nat), v8 = .slice a8 n c8 ∧ v9 = .slice a9 n c9 ∧ Ints wc a8 n (sums ps ws) ∧ Bo.Ints wc a9 n (endsB ps)
theorem two_mk {u wc : World} {n : Nat} {ps ws : List Int} {v8 v9 : Value} {b8 b9 : Nat} (hk : KeepR u wc) (hs : (sums ps ws).length = n) (he : (endsB ps).length = n) (h8 : Own wc b8 v8 (sums ps ws)) (h9 : Bo.Own wc b9 v9 (endsB ps)) : TwoR u wc n ps ws v8 v9 := by
  obtain ⟨a8, c8, rfl⟩ := h8.shape
  obtain ⟨a9, c9, rfl⟩ := h9.shape
  rw [hs] at h8 ⊢
  rw [he] at h9 ⊢
  exact ⟨hk, a8, c8, a9, c9, rfl, rfl, h8.ints, h9.bools⟩
/-- Two slices of zeros, just made. -/
def TwoZ (u wc : World) (n : Nat) (v10 v11 : Value) : Prop :=
  KeepR u wc ∧ ∃ g10 g11 : Nat, v10 = .slice (some ⟨g10, 0, none⟩) n n ∧ v11 = .slice (some ⟨g11, 0, none⟩) n n ∧ g10 ≠ g11 ∧ Own wc u.heap.size v10 (List.replicate n 0) ∧ Own wc u.heap.size v11 (List.replicate n 0)
theorem two_zeros (u : World) (n : Nat) (hn : n ≤ maxLen) : Own ((u.alloc (.cells (zv n) 3)).alloc (.cells (zv n) 3)) u.heap.size (.slice (some ⟨u.heap.size, 0, none⟩) n n) (List.replicate n 0) ∧
    Own ((u.alloc (.cells (zv n) 3)).alloc (.cells (zv n) 3)) u.heap.size (.slice (some ⟨u.heap.size + 1, 0, none⟩) n n) (List.replicate n 0) := by
  have h1 := (Own.zeros u u.heap.size n (Nat.le_refl _) hn).below (below_new (u.alloc (.cells (zv n) 3)) (.cells (zv n) 3))
  have h2 := Own.zeros (u.alloc (.cells (zv n) 3)) (u.heap.size + 1) n (by simp) hn
  rw [show (u.alloc (.cells (zv n) 3)).heap.size = u.heap.size + 1 by simp] at h2
  exact ⟨h1, h2.mono (by omega)⟩
set_option maxRecDepth 100000 in
set_option maxHeartbeats 4000000 in
theorem impl_worth (aP : Option Addr) (nP cP : Nat) (aW : Option Addr) (nW cW : Nat) (ps ws : List Int) (aL : Option Addr) (nL cL : Nat) (l : List Int) (steps : Int) (K : Nat) (w : World) (h : Tre w aP nP cP aW nW cW ps ws) (hT : Tr ps ws) (hL : Ints w aL nL l) (hnL : nP = nL) (hlb : ∀ i, -999 ≤ nth l i ∧ nth l i ≤ 999) (hK : (steps < 0 ∧ K = 24) ∨ (0 ≤ steps ∧ steps = K ∧ K ≤ 24)) :
    Calls Tryz.prog 99 #[.agg #[.slice aP nP cP, .slice aW nW cW], .slice aL nL cL, .int .i64 steps] w fun e w' => ∃ (a1 : Option Addr) (c1 : Nat) (a2 : Option Addr) (c2 : Nat), e = .returned (.tuple #[.slice a1 nP c1, .slice a2 nP c2]) ∧ Own w' w.heap.size (.slice a1 nP c1) (worthL ps ws l K) ∧ Own w' w.heap.size (.slice a2 nP c2) (onW ps ws l K) ∧ Below w.heap.size w w' := by
  subst hnL
  have HTT := Lib.hid hT
  have hn24 := hT.n24
  have hn1 := hT.n1
  have HT := Lib.hid hT
  have hwl := hT.wl
  have hl := h.p.1
  have hlw := h.w.1
  have hpn := h.pn
  have hwn := h.wn
  have hb1 := below_new w (.cells #[.slice aP nP cP, .slice aW nW cW] 26)
  have hP1 := Lib.hid (Pair.new w (.slice aP nP cP) (.slice aW nW cW) 26)
  have H := Lib.hid h
  have Hl := Lib.hid hl
  have Hlw := Lib.hid hlw
  clear h hl hlw
  have hnW : nW ≤ nP ∧ nP ≤ nW := by have := Hlw.out; have := Hl.out; omega
  have hnP : 1 ≤ nP ∧ nP ≤ 24 := by have := Hl.out; omega
  clear hn24 hn1 hT hwl hpn hwn
  have HL := Lib.hid hL
  have hll := Lib.hid hL.1
  have Hlb := Lib.hid hlb
  have HK := Lib.hid hK
  have hK24 : K ≤ 24 := by omega
  clear hL hlb hK
  have hlt2 := hP1.out.lt
  have hmk := mk_ints nP (by omega)
  have hmx : nP ≤ maxLen := by have : maxLen = 9223372036854775807 := rfl; omega
  have Hsl : Hid ((sums ps ws).length = nP) := Lib.hid (by rw [sums_length HTT.out]; exact Hl.out)
  have Hel : Hid ((endsB ps).length = nP) := Lib.hid (by rw [endsB_length]; exact Hl.out)
  go_enter Tryz.func99, Tryz.ntmps99
  go_upto_region 1 with (fail)
  generalize (w.alloc (.cells #[.slice aP nP cP, .slice aW nW cW] 26)) = w2 at *
  have d0 := hP1.out.c0
  have d1 := hP1.out.c1
  go_cut [8, 9] (fun v8 v9 wc => TwoR w2 wc nP ps ws v8 v9)
  case first =>
    go_region_held3 (fun W' => KeepR w2 W' ∧ W'.cell? ⟨w.heap.size, 0, none⟩ = some (.slice aP nP cP) ∧ W'.cell? ⟨w.heap.size, 1, none⟩ = some (.slice aW nW cW))
      (first | exact keepC2 (by assumption) d0 d1 | exact keepC2 (KeepR.start _) d0 d1)
      (first
        | (go_at_call 72; refine (impl_sums _ _ _ _ _ _ ps ws _ (H.out.below (hb1.trans (Below.mono (by assumption : KeepR w2 _ ∧ _).1 hb1.size))) HTT.out).mono ?_; rintro e w5 ⟨v5, rfl, o5, b5⟩; have hk5 := KeepR.next b5 (by assumption : KeepR w2 _ ∧ _).1)
        | (go_at_call 104; refine (impl_isEnd _ _ _ _ _ _ ps ws _ (H.out.below (hb1.trans (Below.mono (by assumption : KeepR w2 _ ∧ _).1 hb1.size))) HTT.out.toPa).mono ?_; rintro e w6 ⟨v6, rfl, o6, b6⟩; have hk6 := KeepR.next b6 (by assumption : KeepR w2 _ ∧ _).1))
    all_goals (go_wp2_with fail)
    all_goals go_meet
    all_goals exact two_mk hk6 Hsl.out Hel.out (o5.below b6) o6
  case rest =>
    clear d0 d1
    obtain ⟨hk3, a8, c8, a9, c9, rfl, rfl, i8, i9⟩ := hcut
    have hk3b : Below w2.heap.size w2 wc := hk3
    have hb3 := hb1.trans (hk3b.mono hb1.size)
    have HP3 := Lib.hid (hP1.out.below hk3b)
    have G8 := Lib.hid i8
    have G9 := Lib.hid i9
    have HA := Lib.hid (H.out.below hb3)
    have HLA := Lib.hid (HL.out.below hb3)
    have hsz : w.heap.size < wc.heap.size := HP3.out.lt
    clear i8 i9 hk3 hk3b hP1 hb1
    obtain ⟨ww, hww⟩ : ∃ ww : World, ww = wc := ⟨_, rfl⟩
    rw [← hww] at hb3 HP3 G8 G9 HA HLA hsz ⊢
    clear hww wc
    go_upto_region 2 with (fail)
    go_cut [10, 11] (fun v10 v11 wc => TwoZ ww wc nP v10 v11)
    case first =>
      go_region
      all_goals (go_wp2_with fail)
      all_goals go_meet
      · exact ⟨((below_new ww _).alloc (by simp) _).drew, _, _, rfl, rfl, by omega, (two_zeros ww nP hmx).1.below (Below.refl _ _).drew, (two_zeros ww nP hmx).2.below (Below.refl _ _).drew⟩
      · exact ⟨((below_new ww _).alloc (by simp) _).drew, _, _, rfl, rfl, by omega, (two_zeros ww nP hmx).2.below (Below.refl _ _).drew, (two_zeros ww nP hmx).1.below (Below.refl _ _).drew⟩
    case rest =>
      obtain ⟨hk4, g10, g11, rfl, rfl, hne, o10, o11⟩ := hcut
      have hk4b : Below ww.heap.size ww wc := hk4
      have hg10 := o10.lt.1
      have hg11 := o11.lt.1
      have O10 : Hid (Own wc ww.heap.size (.slice (some ⟨g10, 0, none⟩) nP nP) (hal (worthL ps ws l 0) 0)) := Lib.hid (by
        have := hal_zero (worthL ps ws l 0)
        rw [worthL_length, Hl.out] at this
        rw [← this]; exact o10)
      have O11 : Hid (Own wc ww.heap.size (.slice (some ⟨g11, 0, none⟩) nP nP) (onW ps ws l 0)) := Lib.hid (by rw [onW, Hl.out]; exact o11)
      have hne' : g11 ≠ g10 := fun e => hne e.symm
      clear o10 o11 hmk
      go_wp2_with fail
      go_loopw [28] (fun v28 wr => ∃ x : Nat, x ≤ nP ∧ v28 = .int .i64 (x : Int) ∧ Own wr ww.heap.size (.slice (some ⟨g10, 0, none⟩) nP nP) (hal (worthL ps ws l 0) x) ∧ Own wr ww.heap.size (.slice (some ⟨g11, 0, none⟩) nP nP) (onW ps ws l 0) ∧ Below ww.heap.size ww wr) (fun v28 _ => nP - (intOf v28).toNat)
      case atStart => exact ⟨0, Nat.zero_le _, rfl, O10.out, O11.out, hk4b⟩
      case round =>
        clear hk4b O10 O11 hk4
        obtain ⟨x, hx, rfl, hown, hon, hbel⟩ := hrel
        have Hon := Lib.hid hon
        clear hon
        by_cases hlt : (x : Int) < nP
        · obtain ⟨b8, o8, rfl, hc8⟩ := G8.out.at (i := x) hbel (by omega)
          obtain ⟨bL, oL, rfl, hcL⟩ := HLA.out.at (i := x) hbel (by omega)
          have hlen : (hal (worthL ps ws l 0) x).length = nP := by rw [hal_length, worthL_length]; exact Hl.out
          have hcO := hown.cell (i := x) (by omega)
          have hfO := hown.free hlen.symm x
          have hw0 : nth (worthL ps ws l 0) x = nth (sums ps ws) x * nth l x := nth_worth0 (by have := Hl.out; omega)
          have hset := Own.set (w := wr.drew) hown hlen.symm x (nth (sums ps ws) x * nth l x)
          rw [← hw0, ← hal_succ _ _ (by rw [worthL_length]; have := Hl.out; omega), hw0] at hset
          have hsb := sums_bd HTT.out x
          have hlb := Hlb.out x
          have hmb := mul_abs (B := 999) (U := 480) hlb hsb (by omega)
          rw [Int.mul_comm (nth l x) (nth (sums ps ws) x)] at hmb
          generalize nth (sums ps ws) x = sv at *
          generalize nth l x = lv at *
          have Hset := Lib.hid hset
          have Hon2 := Lib.hid (Own.far (w := wr.drew) Hon.out (a := ⟨g10, x, none⟩) (by simp [Value.ownBlock]; exact hne') (.int .i64 (sv * lv)))
          clear hset hown hlen hsb hlb hw0
          have k1 : IntKind.i64.wrap (sv * lv) = sv * lv := IntWalk.i64_in _ (by omega)
          have k2 : (0 : Int) ≤ (x : Int) := by omega
          clear hmb
          go_wp2_with fail
          refine wp_region_still_tail 12 (by kernel_rfl) (by kernel_rfl) ?_
          simp only [List.take_succ_cons, List.take_zero, List.drop_succ_cons, List.drop_zero]
          still_step
          still_step
          still_step
          still_step
          still_step
          still_step
          still_step
          still_step
          still_step
          still_step
          still_step
          still_step
          refine wpStill_nil ?_
          change wpList _ _ _ _ _ wr.drew
          go_wp2_with fail
          go_roundw
          case rel => exact ⟨x + 1, by omega, by go_num, Hset.out, Hon2.out, hbel.drew.setCell hg10 _⟩
          case measure => simp [intOf]; omega
        · obtain rfl : x = nP := by omega
          have hfin : hal (worthL ps ws l 0) x = worthL ps ws l 0 := by have := hal_all (worthL ps ws l 0); rwa [worthL_length, Hl.out] at this
          rw [hfin] at hown
          have Hown := Lib.hid hown
          clear hfin hown
          obtain ⟨wv, hwv⟩ : ∃ wv : World, wv = wr := ⟨_, rfl⟩
          rw [← hwv] at Hown Hon hbel ⊢
          clear hwv wr
          go_upto_if 45 with (fail)
          go_cut [2] (fun v2 wc => v2 = .int .i64 (K : Int) ∧ wc = wv)
          case first =>
            rcases HK.out with ⟨hneg, hKe⟩ | ⟨h0, hsK, -⟩
            · subst hKe
              go_wp2_with fail
              go_meet
              exact ⟨rfl, rfl⟩
            · have hnn : ¬ steps < 0 := by omega
              subst hsK
              go_wp2_with fail
              go_meet
              exact ⟨rfl, rfl⟩
          case rest =>
            obtain ⟨rfl, rfl⟩ := hcut
            go_wp2_with fail
            go_loopw [10, 47] (fun v10 v47 wr => ∃ k g : Nat, k ≤ K ∧ v47 = .int .i64 (k : Int) ∧ v10 = .slice (some ⟨g, 0, none⟩) x x ∧ g ≠ g11 ∧ ww.heap.size ≤ g ∧ Own wr ww.heap.size (.slice (some ⟨g, 0, none⟩) x x) (worthL ps ws l k) ∧ Own wr ww.heap.size (.slice (some ⟨g11, 0, none⟩) x x) (onW ps ws l k) ∧ Below ww.heap.size ww wr) (fun _ v47 _ => K - (intOf v47).toNat)
            case atStart => exact ⟨0, g10, Nat.zero_le _, rfl, rfl, hne, hg10, Hown.out, Hon.out, hbel⟩
            case round =>
              clear hbel Hown Hon
              obtain ⟨k, g, hk, rfl, rfl, hgne, hgb, hat, hon, hbel⟩ := hrel
              by_cases hltk : (k : Int) < K
              · have hmk := mk_ints x (by omega)
                have hmx2 : x ≤ maxLen := by have : maxLen = 9223372036854775807 := rfl; omega
                have hlon : (onW ps ws l k).length = x := by rw [onW_length]; exact Hl.out
                have hon6 := hon.below (below_new wr (.cells (zv x) 3))
                have hat6 := hat.below (below_new wr (.cells (zv x) 3))
                have hnx6 := Own.zeros wr wr.heap.size x (Nat.le_refl _) hmx2
                have hclr := clear_run hon6 hlon.symm (by omega)
                have ho7 := own_clear hon6 hlon.symm
                have hgr := ho7.2
                have hglt := hat.lt.2
                have hg11lt := hon.lt.2
                have hat7 := Lib.hid (hat6.grown hgr (.inr (by simp [Value.ownBlock]; exact hgne)))
                have hnx7 := Lib.hid (hnx6.grown hgr (.inr (by simp [Value.ownBlock]; omega)))
                have hon7 := Lib.hid ho7.1
                have hbel7 : Below ww.heap.size ww ((wr.alloc (.cells (zv x) 3)).setCells g11 0 (List.replicate x (.int .i64 0))) := (hbel.alloc hbel.size _).grown hgr (by have := hbel.size; simp; omega) (fun kk hkk => by cases hkk; exact hg11)
                clear hon6 hat6 hnx6 ho7 hgr hat hon hbel
                go_wp2_with fail
                have hs7 : wr.heap.size < ((wr.alloc (.cells (zv x) 3)).setCells g11 0 (List.replicate x (.int .i64 0))).heap.size := hnx7.out.lt.2
                obtain ⟨g13, hg13⟩ : ∃ g13, g13 = wr.heap.size := ⟨_, rfl⟩
                generalize ((wr.alloc (.cells (zv x) 3)).setCells g11 0 (List.replicate x (.int .i64 0))) = w7 at *
                have hn13 : g13 ≠ g11 := by omega
                have hn13g : g13 ≠ g := by omega
                have hg13b : ww.heap.size ≤ g13 := by omega
                have hnx8 : Hid (Own w7 ww.heap.size (.slice (some ⟨g13, 0, none⟩) x x) (List.replicate x 0)) := Lib.hid (by rw [hg13]; exact hnx7.out.mono (by omega))
                rw [← hg13]
                have Hg13 := Lib.hid hg13
                clear hclr hmk hg13 hnx7 hlon
                have hon8 : Hid (Own w7 ww.heap.size (.slice (some ⟨g11, 0, none⟩) x x) (onS ps (worthL ps ws l k) (x - 1))) := Lib.hid (by
                  have := onS_start ps (worthL ps ws l k)
                  rw [Hl.out] at this
                  rw [this]; exact hon7.out)
                have hAb : Hid (Abs2 1000000000 (worthL ps ws l k)) := Lib.hid fun i => by have := worth_abs HTT.out Hlb.out k i; omega
                go_loopw [14] (fun v14 wr => ∃ j : Nat, j < x ∧ v14 = .int .i64 (j : Int) ∧ Own wr ww.heap.size (.slice (some ⟨g11, 0, none⟩) x x) (onS ps (worthL ps ws l k) j) ∧ w7.grownBy wr (some g11)) (fun v14 _ => (intOf v14).toNat)
                case atStart => exact ⟨x - 1, by omega, vi (by omega), hon8.out, World.grownBy.refl _ _⟩
                case round =>
                  obtain ⟨j, hj, rfl, hown, hgr⟩ := hrel
                  have hbel := hbel7.grown hgr (by have := hbel7.size; omega) (fun kk hkk => by cases hkk; exact hg11)
                  have hat := hat7.out.grown hgr (.inr (by simp [Value.ownBlock]; exact hgne))
                  have c0 := (HP3.out.below hbel).c0
                  have c1 := (HP3.out.below hbel).c1
                  have Hgr := Lib.hid hgr
                  have Hat := Lib.hid hat
                  clear hgr hat
                  by_cases hltj : (j : Int) > 0
                  · obtain ⟨J, rfl⟩ : ∃ J : Nat, j = J + 1 := ⟨j - 1, by omega⟩
                    obtain ⟨bP, oP, rfl, hc⟩ := HA.out.p.at (i := J + 1) hbel (by omega)
                    have hup := HTT.out.toPa.upN (x := J + 1) (by omega) (by have := Hl.out; omega)
                    rw [hup.1] at hc
                    have hpl := hup.2
                    have hstep := onS_step (caps := worthL ps ws l k) HTT.out.toPa (k := J) (by have := Hl.out; omega)
                    have hcA := Hat.out.cell (i := J + 1) (by rw [worthL_length]; have := Hl.out; omega)
                    have q1 := onS_bd (ps := ps) (B := 1000000000) (by omega) hAb.out (by have := Hl.out; omega) (J + 1) (par ps (J + 1)) (by have := Hl.out; omega)
                    have q2 := hAb.out (J + 1)
                    have hlo : (onS ps (worthL ps ws l k) (J + 1)).length = x := by rw [onS_length]; exact Hl.out
                    clear hup
                    generalize par ps (J + 1) = p at *
                    have e1 := hown.cell (i := p) (by omega)
                    have f1 := hown.free hlo.symm p
                    have hset := Own.set (w := wr.drew) hown hlo.symm p (nth (onS ps (worthL ps ws l k) (J + 1)) p + nth (worthL ps ws l k) (J + 1))
                    rw [← hstep] at hset
                    generalize hz1 : nth (onS ps (worthL ps ws l k) (J + 1)) p = z1 at *
                    generalize hz2 : nth (worthL ps ws l k) (J + 1) = z2 at *
                    have Hset := Lib.hid hset
                    clear hset hown hstep hz1 hz2 hlo
                    have s0 : IntKind.i64.wrap (z1 + z2) = z1 + z2 := IntWalk.i64_in _ (by omega)
                    have s1 : (0 : Int) ≤ (p : Int) := by omega
                    have s2 : (p : Int) < (x : Int) := by omega
                    have s3 : (0 : Int) ≤ ((J + 1 : Nat) : Int) := by omega
                    have s4 : ((J + 1 : Nat) : Int) < (x : Int) := by omega
                    have s5 : (0 : Int) ≤ (J : Int) + 1 := by omega
                    have s6 : (J : Int) + 1 < (x : Int) := by omega
                    go_wp2_with fail
                    refine wp_region_still_tail 14 (by kernel_rfl) (by kernel_rfl) ?_
                    simp only [List.take_succ_cons, List.take_zero, List.drop_succ_cons, List.drop_zero]
                    still_step
                    still_step
                    still_step
                    still_step
                    still_step
                    still_step
                    still_step
                    still_step
                    still_step
                    still_step
                    still_step
                    still_step
                    still_step
                    still_step
                    refine wpStill_nil ?_
                    change wpList _ _ _ _ _ wr.drew
                    go_wp2_with fail
                    go_roundw
                    case rel => exact ⟨J, by omega, vi (by omega), Hset.out, (grown_drew Hgr.out).trans (grown_cell _ _ _ _)⟩
                    case measure => simp [intOf]
                  · obtain rfl : j = 0 := by omega
                    have hnx9 := hnx8.out.grown Hgr.out (.inr (by simp [Value.ownBlock]; exact hn13))
                    have hz := hal_zero (worthL ps ws l (k + 1))
                    rw [worthL_length, Hl.out] at hz
                    rw [hz] at hnx9
                    have Hnx9 := Lib.hid hnx9
                    have Hon9 := Lib.hid hown
                    clear hnx9 hz hown c0 c1
                    obtain ⟨wy, hwy⟩ : ∃ wy : World, wy = wr := ⟨_, rfl⟩
                    rw [← hwy] at Hnx9 Hon9 Hat hbel ⊢
                    clear hwy Hgr wr
                    go_wp2_with fail
                    go_loopw [76] (fun v76 wr => ∃ y : Nat, y ≤ x ∧ v76 = .int .i64 (y : Int) ∧ Own wr ww.heap.size (.slice (some ⟨g13, 0, none⟩) x x) (hal (worthL ps ws l (k + 1)) y) ∧ wy.grownBy wr (some g13)) (fun v76 _ => x - (intOf v76).toNat)
                    case atStart => exact ⟨0, Nat.zero_le _, rfl, Hnx9.out, World.grownBy.refl _ _⟩
                    case round =>
                      obtain ⟨y, hy, rfl, hown, hgr⟩ := hrel
                      have hbw := hbel.grown hgr (by have := hbel.size; omega) (fun kk hkk => by cases hkk; exact hg13b)
                      have Hgr := Lib.hid hgr
                      by_cases hlty : (y : Int) < x
                      · obtain ⟨b8, o8, rfl, hc8⟩ := G8.out.at (i := y) hbw (by omega)
                        obtain ⟨bL, oL, rfl, hcL⟩ := HLA.out.at (i := y) hbw (by omega)
                        obtain ⟨b9, o9, rfl, hc9⟩ := G9.out.at (i := y) hbw (by omega)
                        rw [nth_endsB (by have := Hl.out; omega)] at hc9
                        have hlen : (hal (worthL ps ws l (k + 1)) y).length = x := by rw [hal_length, worthL_length]; exact Hl.out
                        have hcO := hown.cell (i := y) (by omega)
                        have hfO := hown.free hlen.symm y
                        have hcN := ((Hon9.out.grown hgr (.inr (by simp [Value.ownBlock]; exact fun e => hn13 e.symm))).cell (i := y) (by rw [onS_length]; have := Hl.out; omega))
                        rw [onS_end HTT.out.toPa (by have := Hl.out; omega)] at hcN
                        have hval : nth (worthL ps ws l (k + 1)) y = if endB ps y then nth (sums ps ws) y * nth l y else max (nth (sums ps ws) y * nth l y) (kidSum ps (fun z => nth (worthL ps ws l k) z) y ps.length) := nth_worthS (by have := Hl.out; omega)
                        have hset := Own.set (w := wr.drew) hown hlen.symm y (nth (sums ps ws) y * nth l y)
                        have hsucc := hal_succ (worthL ps ws l (k + 1)) y (by rw [worthL_length]; have := Hl.out; omega)
                        have hsb := sums_bd HTT.out y
                        have hlb := Hlb.out y
                        have hmb := mul_abs (B := 999) (U := 480) hlb hsb (by omega)
                        rw [Int.mul_comm (nth l y) (nth (sums ps ws) y)] at hmb
                        generalize kidSum ps (fun z => nth (worthL ps ws l k) z) y ps.length = ov at *
                        generalize nth (sums ps ws) y = sv at *
                        generalize nth l y = lv at *
                        have k1 : IntKind.i64.wrap (sv * lv) = sv * lv := IntWalk.i64_in _ (by omega)
                        have k2 : (0 : Int) ≤ (y : Int) := by omega
                        have Hsucc := Lib.hid hsucc
                        have Hval := Lib.hid hval
                        have Hset := Lib.hid hset
                        have hlen2 : ((hal (worthL ps ws l (k + 1)) y).set y (sv * lv)).length = x := by rw [List.length_set]; exact hlen
                        have Hlen2 := Lib.hid hlen2
                        clear hsucc hval hset hown hgr hlen hlen2 hsb hlb hmb
                        have hb9 : b9 ≠ g13 := by
                          obtain ⟨b', o', he', hlt', _⟩ := G9.out.2 (by omega)
                          cases he'
                          omega
                        have xO : wr.drew.cell? ⟨g13, y, none⟩ = some (.int .i64 (nth (hal (worthL ps ws l (k + 1)) y) y)) := hcO
                        have xF : wr.drew.frozen? ⟨g13, y, none⟩ = false := hfO
                        have xN : wr.drew.cell? ⟨g11, y, none⟩ = some (.int .i64 ov) := hcN
                        have Hgrd := Lib.hid (grown_drew Hgr.out)
                        clear Hgr
                        cases he : endB ps y
                        · have Hv : Hid (nth (worthL ps ws l (k + 1)) y = (if sv * lv < ov then ov else sv * lv)) := Lib.hid (by rw [Hval.out, he]; show max (sv * lv) ov = _; split <;> omega)
                          rw [he] at hc9
                          have x9 : wr.drew.cell? ⟨b9, o9 + y, none⟩ = some (.bool false) := hc9
                          clear he
                          go_wp2_with fail
                          refine wp_region_still_tail 12 (by kernel_rfl) (by kernel_rfl) ?_
                          simp only [List.take_succ_cons, List.take_zero, List.drop_succ_cons, List.drop_zero]
                          still_step
                          still_step
                          still_step
                          still_step
                          still_step
                          still_step
                          still_step
                          still_step
                          still_step
                          still_step
                          still_step
                          still_step
                          refine wpStill_nil ?_
                          change wpList _ _ _ _ _ wr.drew
                          clear hc8 hcL hcO hfO hcN hc9
                          generalize wr.drew = wq at *
                          have f9 : (wq.setCell ⟨g13, y, none⟩ (.int .i64 (sv * lv))).cell? ⟨b9, o9 + y, none⟩ = some (.bool false) := by
                            rw [World.cell?_setCell_other _ _ _ _ (by simp <;> intro e <;> exact absurd e.symm hb9)]; exact x9
                          have fN : (wq.setCell ⟨g13, y, none⟩ (.int .i64 (sv * lv))).cell? ⟨g11, y, none⟩ = some (.int .i64 ov) := by
                            rw [World.cell?_setCell_other _ _ _ _ (by simp <;> exact hn13)]; exact xN
                          have fO := Hset.out.cell (i := y) (by rw [Hlen2.out]; omega)
                          have fF := Hset.out.free Hlen2.out.symm y
                          rw [nth_set (by have := Hlen2.out; rw [List.length_set] at this; omega), if_pos rfl] at fO
                          have hset2 := Own.set (w := (wq.setCell ⟨g13, y, none⟩ (.int .i64 (sv * lv))).drew) Hset.out Hlen2.out.symm y (if sv * lv < ov then ov else sv * lv)
                          rw [List.set_set] at hset2
                          have Hset2 := Lib.hid hset2
                          have Hgrd2 := Lib.hid (Hgrd.out.trans (grown_cell wq g13 y (.int .i64 (sv * lv))))
                          clear hset2 x9 xN
                          go_wp2_with fail
                          clear xO xF
                          generalize (wq.setCell ⟨g13, y, none⟩ (.int .i64 (sv * lv))) = w9 at *
                          refine wp_region_still_tail 12 (by kernel_rfl) (by kernel_rfl) ?_
                          simp only [List.take_succ_cons, List.take_zero, List.drop_succ_cons, List.drop_zero]
                          still_step
                          still_step
                          still_step
                          still_step
                          still_step
                          still_step
                          still_step
                          still_step
                          still_step
                          still_step
                          still_step
                          still_step
                          refine wpStill_nil ?_
                          change wpList _ _ _ _ _ w9.drew
                          go_wp2_with fail
                          go_roundw
                          case rel => exact ⟨y + 1, by omega, by go_num, by rw [Hsucc.out, Hv.out]; exact Hset2.out, (grown_drew Hgrd2.out).trans (grown_cell _ _ _ _)⟩
                          case measure => simp [intOf]; omega
                        · have Hv : Hid (nth (worthL ps ws l (k + 1)) y = sv * lv) := Lib.hid (by rw [Hval.out, he]; rfl)
                          rw [he] at hc9
                          have x9 : wr.drew.cell? ⟨b9, o9 + y, none⟩ = some (.bool true) := hc9
                          clear he
                          go_wp2_with fail
                          refine wp_region_still_tail 12 (by kernel_rfl) (by kernel_rfl) ?_
                          simp only [List.take_succ_cons, List.take_zero, List.drop_succ_cons, List.drop_zero]
                          still_step
                          still_step
                          still_step
                          still_step
                          still_step
                          still_step
                          still_step
                          still_step
                          still_step
                          still_step
                          still_step
                          still_step
                          refine wpStill_nil ?_
                          change wpList _ _ _ _ _ wr.drew
                          clear hc8 hcL hcO hfO hcN hc9
                          generalize wr.drew = wq at *
                          have f9 : (wq.setCell ⟨g13, y, none⟩ (.int .i64 (sv * lv))).cell? ⟨b9, o9 + y, none⟩ = some (.bool true) := by
                            rw [World.cell?_setCell_other _ _ _ _ (by simp <;> intro e <;> exact absurd e.symm hb9)]; exact x9
                          clear x9
                          go_wp2_with fail
                          go_roundw
                          case rel => exact ⟨y + 1, by omega, by go_num, by rw [Hsucc.out, Hv.out]; exact Hset.out, Hgrd.out.trans (grown_cell _ _ _ _)⟩
                          case measure => simp [intOf]; omega
                      · obtain rfl : y = x := by omega
                        have hfin : hal (worthL ps ws l (k + 1)) y = worthL ps ws l (k + 1) := by have := hal_all (worthL ps ws l (k + 1)); rwa [worthL_length, Hl.out] at this
                        rw [hfin] at hown
                        have hon' := Hon9.out.grown hgr (.inr (by simp [Value.ownBlock]; exact fun e => hn13 e.symm))
                        go_wp2_with fail
                        go_roundw
                        case rel => exact ⟨k + 1, g13, by omega, by go_num, rfl, hn13, hg13b, hown, hon', hbw⟩
                        case measure => simp [intOf]; omega
              · obtain rfl : k = K := by omega
                go_wp2_with fail
                go_ret2
                exact ⟨_, _, _, _, rfl, hat.mono (by omega), hon.mono (by omega), hb3.trans (hbel.mono (by omega))⟩
end Go.Proofs.YtnbomleieianoaaGreat

/- Contract: the envelope of each node times its sum, by the reference. -/
namespace Go.Proofs.YtnbomleieianoaaGreat
open Go.RowKit

theorem KeepR.set {u w : World} {b i : Nat} (h : KeepR u w) (hg : u.heap.size ≤ b) (v : Value) : KeepR u (w.setCell ⟨b, i, none⟩ v) := Below.setCell h hg v
/-- Zeros and sums, just made, apart from each other. -/
def ZeroS (u wc : World) (n : Nat) (ps ws : List Int) (v5 v6 : Value) : Prop :=
  KeepR u wc ∧ ∃ (g5 : Nat) (a6 : Option Addr) (c6 : Nat), v5 = .slice (some ⟨g5, 0, none⟩) n n ∧ v6 = .slice a6 n c6 ∧ Own wc u.heap.size v5 (List.replicate n 0) ∧ Ints wc a6 n (sums ps ws) ∧ ∀ p, a6 = some p → p.block ≠ g5
theorem zeroS_mk {u wc : World} {n : Nat} {ps ws : List Int} {v6 : Value} {b5 b6 g5 : Nat} (hk : KeepR u wc) (hs : (sums ps ws).length = n) (h5 : Own wc b5 (.slice (some ⟨g5, 0, none⟩) n n) (List.replicate n 0)) (h6 : Own wc b6 v6 (sums ps ws)) (hb : u.heap.size ≤ b5) (hne : ∀ g, v6.ownBlock = some g → g ≠ g5) :
    ZeroS u wc n ps ws (.slice (some ⟨g5, 0, none⟩) n n) v6 := by
  obtain ⟨a6, c6, rfl⟩ := h6.shape
  rw [hs] at h6 hne ⊢
  exact ⟨hk, g5, a6, c6, rfl, rfl, h5.mono hb, h6.ints, fun p hp => by subst hp; exact hne _ rfl⟩
/-- The numbers from k on, zeros ahead of them. -/
def tailZ (xs : List Int) (k : Nat) : List Int := (List.range xs.length).map fun y => if k ≤ y then nth xs y else 0
theorem tailZ_length (xs : List Int) (k : Nat) : (tailZ xs k).length = xs.length := by simp [tailZ]
theorem tailZ_all (xs : List Int) : tailZ xs 0 = xs := ext_nth (tailZ_length _ _) fun i hi => by
  rw [tailZ_length] at hi
  rw [tailZ, nth_map_range hi, if_pos (Nat.zero_le _)]
theorem tailZ_none (xs : List Int) : tailZ xs xs.length = List.replicate xs.length 0 := ext_nth (by rw [tailZ_length]; simp) fun i hi => by
  rw [tailZ_length] at hi
  rw [tailZ, nth_map_range hi, if_neg (by omega), nth_replicate]
theorem tailZ_succ {xs : List Int} {k : Nat} (h : k < xs.length) : tailZ xs k = (tailZ xs (k + 1)).set k (nth xs k) := ext_nth (by simp [tailZ]) fun i hi => by
  rw [tailZ_length] at hi
  rw [nth_set (by rw [tailZ_length]; exact h), tailZ, tailZ, nth_map_range hi, nth_map_range hi]
  by_cases e : k = i
  · subst e; rw [if_pos (Nat.le_refl _), if_pos rfl]
  · rw [if_neg e]
    by_cases e2 : k ≤ i
    · rw [if_pos e2, if_pos (by omega)]
    · rw [if_neg e2, if_neg (by omega)]
theorem nth_tailZ {xs : List Int} {k y : Nat} (h : y < xs.length) (hk : k ≤ y) : nth (tailZ xs k) y = nth xs y := by rw [tailZ, nth_map_range h, if_pos hk]
theorem tailZ_abs {xs : List Int} {B : Int} (hB : 0 ≤ B) (h : Abs2 B xs) (k : Nat) : Abs2 B (tailZ xs k) := fun i => by
  by_cases hi : i < xs.length
  · rw [tailZ, nth_map_range hi]
    split
    · exact h i
    · omega
  · rw [nth_ge (by rw [tailZ_length]; omega)]; omega
theorem set_abs {xs : List Int} {B v : Int} {k : Nat} (_hB : 0 ≤ B) (h : Abs2 B xs) (hk : k < xs.length) (hv : -B ≤ v ∧ v ≤ B) : Abs2 B (xs.set k v) := fun i => by
  rw [nth_set hk]
  split
  · exact hv
  · exact h i
set_option maxRecDepth 100000 in
set_option maxHeartbeats 4000000 in
theorem spec_l4Caps (aP : Option Addr) (nP cP : Nat) (aW : Option Addr) (nW cW : Nat) (ps ws : List Int) (aL : Option Addr) (nL cL : Nat) (l : List Int) (w : World) (h : Tre w aP nP cP aW nW cW ps ws) (hT : Tr ps ws) (hL : Ints w aL nL l) (hnL : nP = nL) (hlb : ∀ i, -999 ≤ nth l i ∧ nth l i ≤ 999) :
    Calls Tryz.prog 100 #[.agg #[.slice aP nP cP, .slice aW nW cW], .slice aL nL cL] w fun e w' => ∃ v, e = .returned v ∧ Own w' w.heap.size v (capW ps ws l) ∧ Below w.heap.size w w' := by
  subst hnL
  have HTT := Lib.hid hT
  have hn24 := hT.n24
  have hn1 := hT.n1
  have HT := Lib.hid hT
  have hwl := hT.wl
  have hl := h.p.1
  have hlw := h.w.1
  have hpn := h.pn
  have hwn := h.wn
  have hb1 := below_new w (.cells #[.slice aP nP cP, .slice aW nW cW] 26)
  have hP1 := Lib.hid (Pair.new w (.slice aP nP cP) (.slice aW nW cW) 26)
  have H := Lib.hid h
  have Hl := Lib.hid hl
  have Hlw := Lib.hid hlw
  clear h hl hlw
  have hnW : nW ≤ nP ∧ nP ≤ nW := by have := Hlw.out; have := Hl.out; omega
  have hnP : 1 ≤ nP ∧ nP ≤ 24 := by have := Hl.out; omega
  clear hn24 hn1 hT hwl hpn hwn
  have HL := Lib.hid hL
  have hll := Lib.hid hL.1
  have Hlb := Lib.hid hlb
  clear hL hlb
  have hlt2 := hP1.out.lt
  have hmk := mk_ints nP (by omega)
  have hmx : nP ≤ maxLen := by have : maxLen = 9223372036854775807 := rfl; omega
  have Hsl : Hid ((sums ps ws).length = nP) := Lib.hid (by rw [sums_length HTT.out]; exact Hl.out)
  go_enter Tryz.func100, Tryz.ntmps100
  go_upto_region 1 with (fail)
  generalize (w.alloc (.cells #[.slice aP nP cP, .slice aW nW cW] 26)) = u0 at *
  have d0 := hP1.out.c0
  have d1 := hP1.out.c1
  go_cut [5, 6] (fun v5 v6 wc => ZeroS u0 wc nP ps ws v5 v6)
  case first =>
    go_region_held3 (fun W' => KeepR u0 W' ∧ W'.cell? ⟨w.heap.size, 0, none⟩ = some (.slice aP nP cP) ∧ W'.cell? ⟨w.heap.size, 1, none⟩ = some (.slice aW nW cW))
      (first | exact keepC2 (by assumption) d0 d1 | exact keepC2 (KeepR.start _) d0 d1 | exact keepC2 (KeepR.alloc0 _ _) d0 d1 | exact keepC2 (KeepR.alloc (by assumption : KeepR u0 _ ∧ _).1 _) d0 d1 | exact keepC2 (KeepR.alloc (by assumption : KeepR u0 _ ∧ _).1 _).drew d0 d1)
      (first
        | (go_at_call 75; refine (spec_l2Sums _ _ _ _ _ _ ps ws _ (H.out.below (hb1.trans (Below.mono (by assumption : KeepR u0 _ ∧ _).1 hb1.size))) HTT.out).mono ?_; rintro e w5 ⟨v5, rfl, o5, b5⟩; have hk5 := KeepR.next b5 (by assumption : KeepR u0 _ ∧ _).1))
    all_goals (go_wp2_with fail)
    all_goals go_meet
    all_goals first
      | exact zeroS_mk hk5 Hsl.out (((Own.zeros u0 u0.heap.size nP (Nat.le_refl _) hmx).below (Below.refl _ _).drew).below b5) o5 (Nat.le_refl _) (fun g hg => by have := World.ownsRow.lt o5 g hg; simp at this; omega)
      | exact zeroS_mk (KeepR.alloc hk5 _) Hsl.out (Own.zeros w5 w5.heap.size nP (Nat.le_refl _) hmx) (o5.below (below_new _ _)) (Below.size hk5) (fun g hg => by have := World.ownsRow.lt o5 g hg; omega)
  case rest =>
    obtain ⟨hkc, g5, a6, c6, rfl, rfl, o5, i6, hne⟩ := hcut
    have Hne := Lib.hid hne
    have HcL := Lib.hid (capW_length ps ws l)
    have hg5 : u0.heap.size ≤ g5 := o5.lt.1
    have hu0 : w.heap.size ≤ u0.heap.size := hb1.size
    have O5 : Hid (Own wc u0.heap.size (.slice (some ⟨g5, 0, none⟩) nP nP) (tailZ (capW ps ws l) nP)) := Lib.hid (by
      have := tailZ_none (capW ps ws l)
      rw [capW_length, Hl.out] at this
      rw [this]; exact o5)
    have hg5w : g5 ≠ w.heap.size := by have := hP1.out.lt; omega
    clear hne o5 hmk
    go_wp2_with fail
    go_loopw [7] (fun v7 wr => ∃ k : Nat, k ≤ nP ∧ ∃ j : Int, j + 1 = k ∧ v7 = .int .i64 j ∧ Own wr u0.heap.size (.slice (some ⟨g5, 0, none⟩) nP nP) (tailZ (capW ps ws l) k) ∧ Ints wr a6 nP (sums ps ws) ∧ KeepR u0 wr) (fun v7 _ => (intOf v7 + 1).toNat)
    case atStart => exact ⟨nP, Nat.le_refl _, _, by omega, rfl, O5.out, i6, hkc⟩
    case round =>
      clear O5 i6 hkc
      obtain ⟨k, hk, j, hj, rfl, hown, hi6, hbel⟩ := hrel
      have I6 := Lib.hid hi6
      clear hi6
      by_cases hge : j ≥ 0
      · obtain ⟨K, rfl⟩ : ∃ K : Nat, j = K := ⟨j.toNat, by omega⟩
        obtain rfl : k = K + 1 := by omega
        have hbw : Below w.heap.size w wr := hb1.trans (Below.mono hbel hu0)
        have hKl : K < (capW ps ws l).length := by rw [HcL.out, Hl.out]; omega
        obtain ⟨b6, o6, rfl, hc6⟩ := I6.out.at (i := K) (Below.refl _ _) (by omega)
        obtain ⟨bL, oL, rfl, hcL⟩ := HL.out.at (i := K) hbw (by omega)
        obtain ⟨bW, oW, rfl, hcW⟩ := H.out.w.at (i := K) hbw (by omega)
        have hlen : (tailZ (capW ps ws l) (K + 1)).length = nP := by rw [tailZ_length, HcL.out]; exact Hl.out
        have hcO := hown.cell (i := K) (by omega)
        have hfO := hown.free hlen.symm K
        have hwz := w_zero HTT.out (x := K) (by have := Hl.out; omega)
        have hval := nth_capW (l := l) HTT.out (x := K) (by have := Hl.out; omega)
        have hsucc := tailZ_succ (xs := capW ps ws l) (k := K) hKl
        have hset := Own.set (w := wr.drew) hown hlen.symm K (nth (sums ps ws) K * nth l K)
        have hkid : kidSum ps (fun z => nth ((tailZ (capW ps ws l) (K + 1)).set K (nth (sums ps ws) K * nth l K)) z) K ps.length = kidSum ps (fun z => nth (capW ps ws l) z) K ps.length := kidSum_congr fun z hz e => by
          have := kids_lt HTT.out.toPa hz e
          rw [nth_set (by rw [tailZ_length]; exact hKl), if_neg (by omega), nth_tailZ (by rw [capW_length]; exact hz) (by omega)]
        have hsb := sums_bd HTT.out K
        have hlb := Hlb.out K
        have hmb := mul_abs (B := 999) (U := 480) hlb hsb (by omega)
        rw [Int.mul_comm (nth l K) (nth (sums ps ws) K)] at hmb
        have habs : Abs2 1000000000 ((tailZ (capW ps ws l) (K + 1)).set K (nth (sums ps ws) K * nth l K)) := set_abs (by omega) (tailZ_abs (by omega) (fun i => by have := worth_abs HTT.out Hlb.out 24 i; unfold capW; omega) _) (by rw [tailZ_length]; exact hKl) (by omega)
        have hsz : nth (capW ps ws l) K = if endB ps K then nth (sums ps ws) K * nth l K else max (nth (sums ps ws) K * nth l K) (kidSum ps (fun z => nth (capW ps ws l) z) K ps.length) := hval
        have Habs := Lib.hid habs
        have Hkid := Lib.hid hkid
        have Hval := Lib.hid hsz
        have Hsucc := Lib.hid hsucc
        have Hlen := Lib.hid hlen
        clear habs hkid hval hsz hsucc hlen hsb hlb
        have d0w := (hP1.out.below hbel).c0
        have d1w := (hP1.out.below hbel).c1
        have Hcall : Hid (∀ W : World, KeepR u0 W → Ints W (some ⟨g5, 0, none⟩) nP ((tailZ (capW ps ws l) (K + 1)).set K (nth (sums ps ws) K * nth l K)) → Calls Tryz.prog 106 #[.agg #[.slice aP nP cP, .slice (some ⟨bW, oW, none⟩) nW cW], .slice (some ⟨g5, 0, none⟩) nP nP, .int .i64 (K : Int)] W fun e w' => e = .returned (.int .i64 (kidSum ps (fun z => nth (capW ps ws l) z) K ps.length)) ∧ Below W.heap.size W w') := Lib.hid fun W hW hI => by
          have := spec_l4Kids _ _ _ _ _ _ ps ws (some ⟨g5, 0, none⟩) nP nP _ K 1000000000 W (H.out.below (hb1.trans (Below.mono hW hu0))) HTT.out.toPa hI (Nat.le_refl _) (by omega) Habs.out (by omega)
          rw [Int.toNat_natCast, Hkid.out] at this
          exact this
        clear Hkid Habs
        generalize kidSum ps (fun z => nth (capW ps ws l) z) K ps.length = ov at *
        generalize nth (sums ps ws) K = sv at *
        generalize nth l K = lv at *
        generalize nth ws K = uv at *
        have k1 : IntKind.i64.wrap (sv * lv) = sv * lv := IntWalk.i64_in _ (by omega)
        have k2 : (0 : Int) ≤ (K : Int) := by omega
        have k3 : (K : Int) < (nP : Int) := by omega
        have k4 : (K : Int) < (nW : Int) := by omega
        clear hmb
        have Hset := Lib.hid hset
        clear hset
        have hI7 := Lib.hid (ints_far (w := wr.drew) (I6.out.below (Below.refl _ _).drew) (b := g5) (i := K) Hne.out (.int .i64 (sv * lv)))
        have hK7 : Hid (KeepR u0 (wr.drew.setCell ⟨g5, K, none⟩ (.int .i64 (sv * lv)))) := Lib.hid (KeepR.set hbel.drew hg5 _)
        have hHW : Hid (∃ bW' oW', some (⟨bW, oW, none⟩ : Addr) = some ⟨bW', oW', none⟩) := Lib.hid ⟨_, _, rfl⟩
        have hgW : bW < w.heap.size := by
          obtain ⟨b', o', he', hlt', _⟩ := H.out.w.2 (by omega)
          cases he'
          exact hlt'
        go_wp2_with fail
        refine wp_region_still_tail 12 (by kernel_rfl) (by kernel_rfl) ?_
        simp only [List.take_succ_cons, List.take_zero, List.drop_succ_cons, List.drop_zero]
        still_step
        still_step
        still_step
        still_step
        still_step
        still_step
        still_step
        still_step
        still_step
        still_step
        still_step
        still_step
        refine wpStill_nil ?_
        change wpList _ _ _ _ _ wr.drew
        have xO : wr.drew.cell? ⟨g5, K, none⟩ = some (.int .i64 (nth (tailZ (capW ps ws l) (K + 1)) K)) := hcO
        have xF : wr.drew.frozen? ⟨g5, K, none⟩ = false := hfO
        have hcW2 : wr.drew.cell? ⟨bW, oW + K, none⟩ = some (.int .i64 uv) := hcW
        clear hc6 hcL hcO hfO hcW d0w d1w
        generalize wr.drew = wq at *
        have xW : (wq.setCell ⟨g5, K, none⟩ (.int .i64 (sv * lv))).cell? ⟨bW, oW + K, none⟩ = some (.int .i64 uv) := by
          rw [World.cell?_setCell_other _ _ _ _ (by simp <;> intro e <;> omega)]; exact hcW2
        have x0 : (wq.setCell ⟨g5, K, none⟩ (.int .i64 (sv * lv))).cell? ⟨w.heap.size, 0, none⟩ = some (.slice aP nP cP) := (hP1.out.below hK7.out).c0
        have x1 : (wq.setCell ⟨g5, K, none⟩ (.int .i64 (sv * lv))).cell? ⟨w.heap.size, 1, none⟩ = some (.slice (some ⟨bW, oW, none⟩) nW cW) := (hP1.out.below hK7.out).c1
        clear hcW2
        cases he : endB ps K
        · rw [he] at hwz
          have hwz2 : (uv == 0) = true := hwz
          have Hv : Hid (nth (capW ps ws l) K = max (sv * lv) ov) := Lib.hid (by rw [Hval.out, he]; rfl)
          clear he hwz
          go_wp2_with fail
          clear xF xO
          generalize (wq.setCell ⟨g5, K, none⟩ (.int .i64 (sv * lv))) = w9 at *
          have xO9 := Hset.out.cell (i := K) (by rw [List.length_set, Hlen.out]; omega)
          rw [nth_set (by rw [Hlen.out]; omega), if_pos rfl] at xO9
          have xF9 := Hset.out.free (by rw [List.length_set, Hlen.out]) K
          refine wp_region_noPanic ?_
          refine wp_region_held_drew (S := (fun W' => KeepR u0 W' ∧ W'.cell? ⟨w.heap.size, 0, none⟩ = some (.slice aP nP cP) ∧ W'.cell? ⟨w.heap.size, 1, none⟩ = some (.slice (some ⟨bW, oW, none⟩) nW cW))) (by kernel_rfl) ?_ (fun hHeld0 => ?_)
          · (try dsimp only); first | exact keepC2 (by assumption) d0 d1 | exact keepC2 hK7.out.drew d0 d1 | exact keepC2 (KeepR.set (by assumption) hg5 _) d0 d1 | exact keepC2 (KeepR.set (by assumption : KeepR u0 _ ∧ _).1 hg5 _) d0 d1 | exact keepC2 (KeepR.set (by assumption : KeepR u0 _ ∧ _).1 hg5 _).drew d0 d1
          refine takeH (i := 0) (oi := _) (v := ?_) rfl (by kernel_rfl) (by kernel_rfl) (by kernel_rfl) (fun _ _ _ h => h) (Or.inl ⟨by rfl, ?_⟩) (by assumption) ?_
          rotate_left
          · first | (intro w hSw; (try dsimp only at hSw); go_simp; done) | (intro w hSw; (try dsimp only at hSw); go_simp; with_reducible rfl)
          (try simp only [Act.put, List.setIfInBounds_toArray, List.set_cons_zero, List.set_cons_succ])
          refine takeH (i := 1) (oi := _) (v := ?_) rfl (by kernel_rfl) (by kernel_rfl) (by kernel_rfl) (fun _ _ _ h => h) (Or.inl ⟨by rfl, ?_⟩) (by assumption) ?_
          rotate_left
          · first | (intro w hSw; (try dsimp only at hSw); go_simp; done) | (intro w hSw; (try dsimp only at hSw); go_simp; with_reducible rfl)
          (try simp only [Act.put, List.setIfInBounds_toArray, List.set_cons_zero, List.set_cons_succ])
          refine takeH (i := 2) (oi := _) (v := ?_) rfl (by kernel_rfl) (by kernel_rfl) (by kernel_rfl) (fun _ _ _ h => h) (Or.inl ⟨by rfl, ?_⟩) (by assumption) ?_
          rotate_left
          · first | (intro w hSw; (try dsimp only at hSw); go_simp; done) | (intro w hSw; (try dsimp only at hSw); go_simp; with_reducible rfl)
          (try simp only [Act.put, List.setIfInBounds_toArray, List.set_cons_zero, List.set_cons_succ])
          refine takeH (i := 3) (oi := _) (v := ?_) rfl (by kernel_rfl) (by kernel_rfl) (by kernel_rfl) (fun _ _ _ h => h) (Or.inl ⟨by rfl, ?_⟩) (by assumption) ?_
          rotate_left
          · first | (intro w hSw; (try dsimp only at hSw); go_simp; done) | (intro w hSw; (try dsimp only at hSw); go_simp; with_reducible rfl)
          (try simp only [Act.put, List.setIfInBounds_toArray, List.set_cons_zero, List.set_cons_succ])
          refine takeH (i := 4) (oi := _) (v := ?_) rfl (by kernel_rfl) (by kernel_rfl) (by kernel_rfl) (fun _ _ _ h => h) (Or.inl ⟨by rfl, ?_⟩) (by assumption) ?_
          rotate_left
          · first | (intro w hSw; (try dsimp only at hSw); go_simp; done) | (intro w hSw; (try dsimp only at hSw); go_simp; with_reducible rfl)
          (try simp only [Act.put, List.setIfInBounds_toArray, List.set_cons_zero, List.set_cons_succ])
          refine takeH (i := 6) (oi := _) (v := ?_) rfl (by kernel_rfl) (by kernel_rfl) (by kernel_rfl) (fun _ _ _ h => h) (Or.inl ⟨by rfl, ?_⟩) (by assumption) ?_
          rotate_left
          · first | (intro w hSw; (try dsimp only at hSw); go_simp; done) | (intro w hSw; (try dsimp only at hSw); go_simp; with_reducible rfl)
          (try simp only [Act.put, List.setIfInBounds_toArray, List.set_cons_zero, List.set_cons_succ])
          refine takeH (i := 7) (oi := _) (v := ?_) rfl (by kernel_rfl) (by kernel_rfl) (by kernel_rfl) (fun _ _ _ h => h) (Or.inl ⟨by rfl, ?_⟩) (by assumption) ?_
          rotate_left
          · first | (intro w hSw; (try dsimp only at hSw); go_simp; done) | (intro w hSw; (try dsimp only at hSw); go_simp; with_reducible rfl)
          (try simp only [Act.put, List.setIfInBounds_toArray, List.set_cons_zero, List.set_cons_succ])
          refine takeH (i := 8) (oi := _) (v := ?_) rfl (by kernel_rfl) (by kernel_rfl) (by kernel_rfl) (fun _ _ _ h => h) (Or.inl ⟨by rfl, ?_⟩) (by assumption) ?_
          rotate_left
          · first | (intro w hSw; (try dsimp only at hSw); go_simp; done) | (intro w hSw; (try dsimp only at hSw); go_simp; with_reducible rfl)
          (try simp only [Act.put, List.setIfInBounds_toArray, List.set_cons_zero, List.set_cons_succ])
          refine wpAnyH_ready (rs := [5, 9]) (by kernel_rfl) (by simp) ?_
          refine consM rfl (fun Kq hKq => ?_) (consH rfl (fun Kq hKq => ?_))
          · go_simp
            refine hKq.out _ _ ?_ (fun hHeld1 => ?_)
            · (try dsimp only); first | exact keepC2 (by assumption) d0 d1 | exact keepC2 hK7.out.drew d0 d1 | exact keepC2 (KeepR.set (by assumption) hg5 _) d0 d1 | exact keepC2 (KeepR.set (by assumption : KeepR u0 _ ∧ _).1 hg5 _) d0 d1 | exact keepC2 (KeepR.set (by assumption : KeepR u0 _ ∧ _).1 hg5 _).drew d0 d1
            clear hKq Kq
            (try simp only [Act.put, List.setIfInBounds_toArray, List.set_cons_zero, List.set_cons_succ])
            clear hHeld0
            refine wpAnyH_ready (rs := [9]) (by kernel_rfl) (by simp) ?_
            refine consH rfl (fun Kq hKq => ?_)
            go_simp
            (first
                | (go_at_call 106; refine (Hcall.out _ (by assumption : KeepR u0 _ ∧ _).1 (Hset.out.below (Below.refl _ _).drew).ints).mono ?_; rintro e w7 ⟨rfl, hb7⟩
                   have hk7 := KeepR.next hb7 (by assumption : KeepR u0 _ ∧ _).1
                   have hO7 := (Hset.out.below (Below.refl _ _).drew).below hb7
                   have hI7' := (hI7.out.below (Below.refl _ _).drew).below hb7
                   have xO7 := hO7.cell (i := K) (by rw [List.length_set, Hlen.out]; omega)
                   rw [nth_set (by rw [Hlen.out]; omega), if_pos rfl] at xO7
                   have xF7 := hO7.free (by rw [List.length_set, Hlen.out]) K)
                | (go_at_call 119; refine (spec_l1Most _ _ _).mono ?_; rintro e w' ⟨rfl, rfl⟩))
            refine hKq.out _ _ ?_ (fun hHeld2 => ?_)
            · (try dsimp only); first | exact keepC2 (by assumption) d0 d1 | exact keepC2 hK7.out.drew d0 d1 | exact keepC2 (KeepR.set (by assumption) hg5 _) d0 d1 | exact keepC2 (KeepR.set (by assumption : KeepR u0 _ ∧ _).1 hg5 _) d0 d1 | exact keepC2 (KeepR.set (by assumption : KeepR u0 _ ∧ _).1 hg5 _).drew d0 d1
            clear hKq Kq
            (try simp only [Act.put, List.setIfInBounds_toArray, List.set_cons_zero, List.set_cons_succ])
            clear hHeld1
            refine wpAnyH_ready (rs := [10]) (by kernel_rfl) (by simp) ?_
            refine consH rfl (fun Kq hKq => ?_)
            go_simp
            (first
                | (go_at_call 106; refine (Hcall.out _ (by assumption : KeepR u0 _ ∧ _).1 (Hset.out.below (Below.refl _ _).drew).ints).mono ?_; rintro e w7 ⟨rfl, hb7⟩
                   have hk7 := KeepR.next hb7 (by assumption : KeepR u0 _ ∧ _).1
                   have hO7 := (Hset.out.below (Below.refl _ _).drew).below hb7
                   have hI7' := (hI7.out.below (Below.refl _ _).drew).below hb7
                   have xO7 := hO7.cell (i := K) (by rw [List.length_set, Hlen.out]; omega)
                   rw [nth_set (by rw [Hlen.out]; omega), if_pos rfl] at xO7
                   have xF7 := hO7.free (by rw [List.length_set, Hlen.out]) K)
                | (go_at_call 119; refine (spec_l1Most _ _ _).mono ?_; rintro e w' ⟨rfl, rfl⟩))
            refine hKq.out _ _ ?_ (fun hHeld3 => ?_)
            · (try dsimp only); first | exact keepC2 (by assumption) d0 d1 | exact keepC2 hK7.out.drew d0 d1 | exact keepC2 (KeepR.set (by assumption) hg5 _) d0 d1 | exact keepC2 (KeepR.set (by assumption : KeepR u0 _ ∧ _).1 hg5 _) d0 d1 | exact keepC2 (KeepR.set (by assumption : KeepR u0 _ ∧ _).1 hg5 _).drew d0 d1
            clear hKq Kq
            (try simp only [Act.put, List.setIfInBounds_toArray, List.set_cons_zero, List.set_cons_succ])
            clear hHeld2
            refine takeH (i := 11) (oi := _) (v := ?_) rfl (by kernel_rfl) (by kernel_rfl) (by kernel_rfl) (fun _ _ _ h => h) (Or.inl ⟨by rfl, ?_⟩) (by assumption) ?_
            rotate_left
            · first | (intro w hSw; (try dsimp only at hSw); go_simp; done) | (intro w hSw; (try dsimp only at hSw); go_simp; with_reducible rfl)
            (try simp only [Act.put, List.setIfInBounds_toArray, List.set_cons_zero, List.set_cons_succ])
            refine wpAnyH_ready (rs := [12]) (by kernel_rfl) (by simp) ?_
            refine consH rfl (fun Kq hKq => ?_)
            go_simp
            refine hKq.out _ _ ?_ (fun hHeld4 => ?_)
            · (try dsimp only); first | exact keepC2 (by assumption) d0 d1 | exact keepC2 hK7.out.drew d0 d1 | exact keepC2 (KeepR.set (by assumption) hg5 _) d0 d1 | exact keepC2 (KeepR.set (by assumption : KeepR u0 _ ∧ _).1 hg5 _) d0 d1 | exact keepC2 (KeepR.set (by assumption : KeepR u0 _ ∧ _).1 hg5 _).drew d0 d1
            clear hKq Kq
            (try simp only [Act.put, List.setIfInBounds_toArray, List.set_cons_zero, List.set_cons_succ])
            clear hHeld3
            refine wpAnyH_done (by kernel_rfl) ?_ _
            refine NoPanic.normal ?_
            go_wp2_with fail
            go_roundw
            all_goals first
              | (have hset8 := Own.set (w := w7) hO7 (by rw [List.length_set, Hlen.out]) K (most (sv * lv) ov)
                 rw [List.set_set, most_eq, ← Hv.out, ← Hsucc.out] at hset8
                 rw [most_eq, ← Hv.out]
                 exact ⟨K, by omega, (K : Int) - 1, by omega, rfl, hset8, ints_far hI7' Hne.out _, KeepR.set hk7 hg5 _⟩)
              | (simp [intOf] <;> omega)
          · go_simp
            (first
                | (go_at_call 106; refine (Hcall.out _ (by assumption : KeepR u0 _ ∧ _).1 (Hset.out.below (Below.refl _ _).drew).ints).mono ?_; rintro e w7 ⟨rfl, hb7⟩
                   have hk7 := KeepR.next hb7 (by assumption : KeepR u0 _ ∧ _).1
                   have hO7 := (Hset.out.below (Below.refl _ _).drew).below hb7
                   have hI7' := (hI7.out.below (Below.refl _ _).drew).below hb7
                   have xO7 := hO7.cell (i := K) (by rw [List.length_set, Hlen.out]; omega)
                   rw [nth_set (by rw [Hlen.out]; omega), if_pos rfl] at xO7
                   have xF7 := hO7.free (by rw [List.length_set, Hlen.out]) K)
                | (go_at_call 119; refine (spec_l1Most _ _ _).mono ?_; rintro e w' ⟨rfl, rfl⟩))
            refine hKq.out _ _ ?_ (fun hHeld1 => ?_)
            · (try dsimp only); first | exact keepC2 (by assumption) d0 d1 | exact keepC2 hK7.out.drew d0 d1 | exact keepC2 (KeepR.set (by assumption) hg5 _) d0 d1 | exact keepC2 (KeepR.set (by assumption : KeepR u0 _ ∧ _).1 hg5 _) d0 d1 | exact keepC2 (KeepR.set (by assumption : KeepR u0 _ ∧ _).1 hg5 _).drew d0 d1
            clear hKq Kq
            (try simp only [Act.put, List.setIfInBounds_toArray, List.set_cons_zero, List.set_cons_succ])
            clear hHeld0
            refine wpAnyH_ready (rs := [5]) (by kernel_rfl) (by simp) ?_
            refine consH rfl (fun Kq hKq => ?_)
            go_simp
            refine hKq.out _ _ ?_ (fun hHeld2 => ?_)
            · (try dsimp only); first | exact keepC2 (by assumption) d0 d1 | exact keepC2 hK7.out.drew d0 d1 | exact keepC2 (KeepR.set (by assumption) hg5 _) d0 d1 | exact keepC2 (KeepR.set (by assumption : KeepR u0 _ ∧ _).1 hg5 _) d0 d1 | exact keepC2 (KeepR.set (by assumption : KeepR u0 _ ∧ _).1 hg5 _).drew d0 d1
            clear hKq Kq
            (try simp only [Act.put, List.setIfInBounds_toArray, List.set_cons_zero, List.set_cons_succ])
            clear hHeld1
            refine wpAnyH_ready (rs := [10]) (by kernel_rfl) (by simp) ?_
            refine consH rfl (fun Kq hKq => ?_)
            go_simp
            (first
                | (go_at_call 106; refine (Hcall.out _ (by assumption : KeepR u0 _ ∧ _).1 (Hset.out.below (Below.refl _ _).drew).ints).mono ?_; rintro e w7 ⟨rfl, hb7⟩
                   have hk7 := KeepR.next hb7 (by assumption : KeepR u0 _ ∧ _).1
                   have hO7 := (Hset.out.below (Below.refl _ _).drew).below hb7
                   have hI7' := (hI7.out.below (Below.refl _ _).drew).below hb7
                   have xO7 := hO7.cell (i := K) (by rw [List.length_set, Hlen.out]; omega)
                   rw [nth_set (by rw [Hlen.out]; omega), if_pos rfl] at xO7
                   have xF7 := hO7.free (by rw [List.length_set, Hlen.out]) K)
                | (go_at_call 119; refine (spec_l1Most _ _ _).mono ?_; rintro e w' ⟨rfl, rfl⟩))
            refine hKq.out _ _ ?_ (fun hHeld3 => ?_)
            · (try dsimp only); first | exact keepC2 (by assumption) d0 d1 | exact keepC2 hK7.out.drew d0 d1 | exact keepC2 (KeepR.set (by assumption) hg5 _) d0 d1 | exact keepC2 (KeepR.set (by assumption : KeepR u0 _ ∧ _).1 hg5 _) d0 d1 | exact keepC2 (KeepR.set (by assumption : KeepR u0 _ ∧ _).1 hg5 _).drew d0 d1
            clear hKq Kq
            (try simp only [Act.put, List.setIfInBounds_toArray, List.set_cons_zero, List.set_cons_succ])
            clear hHeld2
            refine takeH (i := 11) (oi := _) (v := ?_) rfl (by kernel_rfl) (by kernel_rfl) (by kernel_rfl) (fun _ _ _ h => h) (Or.inl ⟨by rfl, ?_⟩) (by assumption) ?_
            rotate_left
            · first | (intro w hSw; (try dsimp only at hSw); go_simp; done) | (intro w hSw; (try dsimp only at hSw); go_simp; with_reducible rfl)
            (try simp only [Act.put, List.setIfInBounds_toArray, List.set_cons_zero, List.set_cons_succ])
            refine wpAnyH_ready (rs := [12]) (by kernel_rfl) (by simp) ?_
            refine consH rfl (fun Kq hKq => ?_)
            go_simp
            refine hKq.out _ _ ?_ (fun hHeld4 => ?_)
            · (try dsimp only); first | exact keepC2 (by assumption) d0 d1 | exact keepC2 hK7.out.drew d0 d1 | exact keepC2 (KeepR.set (by assumption) hg5 _) d0 d1 | exact keepC2 (KeepR.set (by assumption : KeepR u0 _ ∧ _).1 hg5 _) d0 d1 | exact keepC2 (KeepR.set (by assumption : KeepR u0 _ ∧ _).1 hg5 _).drew d0 d1
            clear hKq Kq
            (try simp only [Act.put, List.setIfInBounds_toArray, List.set_cons_zero, List.set_cons_succ])
            clear hHeld3
            refine wpAnyH_done (by kernel_rfl) ?_ _
            refine NoPanic.normal ?_
            go_wp2_with fail
            go_roundw
            all_goals first
              | (have hset8 := Own.set (w := w7) hO7 (by rw [List.length_set, Hlen.out]) K (most (sv * lv) ov)
                 rw [List.set_set, most_eq, ← Hv.out, ← Hsucc.out] at hset8
                 rw [most_eq, ← Hv.out]
                 exact ⟨K, by omega, (K : Int) - 1, by omega, rfl, hset8, ints_far hI7' Hne.out _, KeepR.set hk7 hg5 _⟩)
              | (simp [intOf] <;> omega)
        · rw [he] at hwz
          have hwz2 : (uv == 0) = false := hwz
          have Hv : Hid (nth (capW ps ws l) K = sv * lv) := Lib.hid (by rw [Hval.out, he]; rfl)
          clear he hwz
          go_wp2_with fail
          go_roundw
          case rel => exact ⟨K, by omega, (K : Int) - 1, by omega, rfl, by rw [Hsucc.out, Hv.out]; exact Hset.out, hI7.out, hK7.out⟩
          case measure => simp [intOf] <;> omega
      · obtain rfl : k = 0 := by omega
        rw [tailZ_all] at hown
        go_wp2_with fail
        go_ret
        exact ⟨_, rfl, hown.mono hu0, hb1.trans (Below.mono hbel hu0)⟩
end Go.Proofs.YtnbomleieianoaaGreat

/- Contracts: the least caps, of the program and of the reference. -/
namespace Go.Proofs.YtnbomleieianoaaGreat
open Go.RowKit

def lcV (ps ws l : List Int) : List Int := if paysB ps ws l then capW ps ws l else []
theorem lcV_no {ps ws l : List Int} (h : paysB ps ws l = false) : lcV ps ws l = [] := by rw [lcV, h]; rfl
theorem lcV_yes {ps ws l : List Int} (h : paysB ps ws l = true) : lcV ps ws l = capW ps ws l := by rw [lcV, h]; rfl
theorem lcV_len {ps ws l : List Int} : (lcV ps ws l).length ≤ 1048576 := by
  cases h : paysB ps ws l
  · rw [lcV_no h]; simp
  · rw [lcV_yes h, capW_length]; have := (paysB_t h).1.n24; omega
end Go.Proofs.YtnbomleieianoaaGreat

/- Contracts: the best rules, by the program. -/
namespace Go.Proofs.YtnbomleieianoaaGreat
open Go.RowKit

/-- Does the earliest best rule stop at x? -/
def bestB (ps ws l : List Int) (x : Nat) : Bool := ownW ps ws l x == nth (capW ps ws l) x
def bestV (ps ws l : List Int) : List Int := if paysB ps ws l then firsts ps (fS (bestB ps ws l)) else []
theorem bestV_no {ps ws l : List Int} (h : paysB ps ws l = false) : bestV ps ws l = [] := by rw [bestV, h]; rfl
theorem bestV_yes {ps ws l : List Int} (h : paysB ps ws l = true) : bestV ps ws l = firsts ps (fS (bestB ps ws l)) := by rw [bestV, h]; rfl
theorem bestV_len {ps ws l : List Int} : (bestV ps ws l).length ≤ 1048576 := by
  cases h : paysB ps ws l
  · rw [bestV_no h]; simp
  · rw [bestV_yes h]; have := (paysB_t h).1.n24; have := firsts_length ps (fS (bestB ps ws l)); omega
theorem cf_BestRule (args : Array Value) (W : World) : (callFunc 102 args).run Tryz.prog W = .ok (.enter 102 args) W := by kernel_rfl
set_option maxRecDepth 100000 in
theorem cl_BestRule (x n : Nat) (pS pL pA : Addr) (aS aL aA : Option Addr) (cS cL cA : Nat) (s l at' : List Int) (w : World) (hx : x < n)
    (h1 : w.cell? pS = some (.slice aS n cS)) (h2 : w.cell? pL = some (.slice aL n cL)) (h3 : w.cell? pA = some (.slice aA n cA)) (hS : Ints w aS n s) (hL : Ints w aL n l) (hA : Ints w aA n at') (hsb : 0 ≤ nth s x ∧ nth s x ≤ 480) (hlb : -999 ≤ nth l x ∧ nth l x ≤ 999) :
    Calls Tryz.prog 102 #[.int .i64 (x : Int), .pointer (some pS), .pointer (some pL), .pointer (some pA)] w fun e w' => e = .returned (.bool (nth s x * nth l x == nth at' x)) ∧ Below w.heap.size w w' := by
  obtain ⟨bS, oS, rfl, hcS⟩ := hS.at (i := x) (Below.refl _ _) hx
  obtain ⟨bL, oL, rfl, hcL⟩ := hL.at (i := x) (Below.refl _ _) hx
  obtain ⟨bA, oA, rfl, hcA⟩ := hA.at (i := x) (Below.refl _ _) hx
  have hmb := mul_abs (B := 999) (U := 480) hlb hsb (by omega)
  rw [Int.mul_comm (nth l x) (nth s x)] at hmb
  clear hS hL hA
  generalize nth s x = u at *
  generalize nth l x = q at *
  generalize nth at' x = r at *
  have k1 : IntKind.i64.wrap (u * q) = u * q := IntWalk.i64_in _ (by omega)
  have k2 : (0 : Int) ≤ (x : Int) := by omega
  have k3 : (x : Int) < (n : Int) := by omega
  go_enter Tryz.func102, Tryz.ntmps102
  go_wp2_with fail
  go_quiet (fail)
  go_wp2_with fail
  go_ret
  exact ⟨rfl, below_drewN (Below.refl _ _) _⟩
set_option maxRecDepth 100000 in
set_option maxHeartbeats 2000000 in
theorem impl_BestRule (aP : Option Addr) (nP cP : Nat) (aW : Option Addr) (nW cW : Nat) (ps ws : List Int) (aL : Option Addr) (nL cL : Nat) (l : List Int) (w : World) (h : Tre w aP nP cP aW nW cW ps ws) (hL : Ints w aL nL l) (_hLc : aL = none → cL = 0) (hn : nL ≤ 1048576) :
    Calls Tryz.prog 36 #[.agg #[.slice aP nP cP, .slice aW nW cW], .slice aL nL cL] w fun e w' => ∃ v, e = .returned (.tuple #[v, .bool (paysB ps ws l)]) ∧ Own w' w.heap.size v (bestV ps ws l) ∧ Below w.heap.size w w' := by
  have hl := h.p.1
  have hlw := h.w.1
  have hpn := h.pn
  have hwn := h.wn
  have hb1 := below_new w (.cells #[.slice aP nP cP, .slice aW nW cW] 26)
  have hP1 := Lib.hid (Pair.new w (.slice aP nP cP) (.slice aW nW cW) 26)
  have H := Lib.hid h
  have Hl := Lib.hid hl
  have Hlw := Lib.hid hlw
  clear h hl hlw
  have HL := Lib.hid hL
  have hll := Lib.hid hL.1
  clear hL
  have hbb := hb1.trans ((below_new (w.alloc (.cells #[.slice aP nP cP, .slice aW nW cW] 26)) (.cells #[.slice aL nL cL] 24)).mono hb1.size)
  have hPP := Lib.hid (hP1.out.alloc (.cells #[.slice aL nL cL] 24))
  have hC1 : ((w.alloc (.cells #[.slice aP nP cP, .slice aW nW cW] 26)).alloc (.cells #[.slice aL nL cL] 24)).cell? ⟨w.heap.size + 1, 0, none⟩ = some (.slice aL nL cL) := by rw [World.cell?_alloc_at _ _ _ _ (by simp)]; rfl
  have c0 := hPP.out.c0
  have c1 := hPP.out.c1
  clear hb1 hP1
  go_enter Tryz.func36, Tryz.ntmps36
  go_wp2_with fail
  generalize ((w.alloc (.cells #[.slice aP nP cP, .slice aW nW cW] 26)).alloc (.cells #[.slice aL nL cL] 24)) = w2 at *
  have hlt2 := hPP.out.lt
  refine (impl_IsTree _ _ _ _ _ _ ps ws _ (H.out.below hbb)).mono ?_
  rintro e w3 ⟨rfl, hb3⟩
  have hP3 := hPP.out.below hb3
  have d0 := hP3.c0
  have d1 := hP3.c1
  have HP3 := Lib.hid hP3
  have d2 := cell_up hb3 hC1
  have hb13 := hbb.trans (hb3.mono hbb.size)
  clear hP3 c0 c1 hb3 hC1 hPP hbb
  cases hT : treeB ps ws
  · have Hv := Lib.hid (pays_no1 (l := l) hT)
    clear hT
    go_wp2_with fail
    go_ret2
    exact ⟨_, by rw [Hv.out]; rfl, by rw [bestV_no Hv.out]; exact Own.nil _ _, hb13⟩
  have HT := Lib.hid hT
  clear hT
  go_wp2_with fail
  refine (impl_isProcess _ _ _ _ _ _ ps ws _ _ _ l _ (H.out.below hb13) (HL.out.below hb13) hn).mono ?_
  rintro e w4 ⟨rfl, hb4⟩
  have hb14 := hb13.trans (hb4.mono hb13.size)
  have hP4 := HP3.out.below hb4
  have e0 := hP4.c0
  have e1 := hP4.c1
  have HP4 := Lib.hid hP4
  have e2 := cell_up hb4 d2
  clear d0 d1 d2 hP4 hb4
  cases hp : procB ps.length l
  · have Hv := Lib.hid (pays_no2 (ws := ws) hp)
    clear hp
    go_wp2_with fail
    go_ret2
    exact ⟨_, by rw [Hv.out]; rfl, by rw [bestV_no Hv.out]; exact Own.nil _ _, hb14⟩
  have Hpays := Lib.hid (pays_both HT.out hp)
  have hpp := procB_t hp
  have hTr := treeB_t HT.out
  have hn24 := hTr.n24
  have hn1 := hTr.n1
  have hnL : nP = nL := by have := hll.out; have := hpp.1; have := Hl.out; omega
  have hnW : nP = nW := by have := Hlw.out; have := hTr.wl; have := Hl.out; omega
  have hnP : 1 ≤ nP ∧ nP ≤ 24 := by have := Hl.out; omega
  have Hpp := Lib.hid hpp
  have HTr := Lib.hid hTr
  have HnW := Lib.hid hnW
  have hnW2 : nP ≤ nW := by omega
  have HC4 := Lib.hid e2
  clear hp hpp hn24 hn1 hTr hpn hwn hnW
  subst hnL
  go_wp2_with fail
  refine (impl_worth _ _ _ _ _ _ ps ws _ _ _ l _ 24 _ (H.out.below hb14) HTr.out (HL.out.below hb14) rfl Hpp.out.2 (.inl ⟨by omega, rfl⟩)).mono ?_
  rintro e w5 ⟨a1, c1, a2, c2, rfl, o1, o2, b5⟩
  have hb15 := hb14.trans (b5.mono hb14.size)
  have G1 := Lib.hid o1.ints
  have hbA := below_new w5 (.cells #[.slice a1 nP c1] 24)
  have hP5 := (HP4.out.below b5).below hbA
  have hC5 := cell_up hbA (cell_up b5 HC4.out)
  have hA5 : (w5.alloc (.cells #[.slice a1 nP c1] 24)).cell? ⟨w5.heap.size, 0, none⟩ = some (.slice a1 nP c1) := by rw [World.cell?_alloc_at _ _ _ _ rfl]; rfl
  have hb16 := hb15.trans (hbA.mono hb15.size)
  have HG1 := Lib.hid (G1.out.below hbA)
  have hs5 := b5.size
  clear o1 o2 e0 e1 e2 HP4 HC4 b5 G1
  have e0 := hP5.c0
  have e1 := hP5.c1
  go_wp2_with fail
  have HP6 := Lib.hid hP5
  have HC6 := Lib.hid hC5
  have HA6 := Lib.hid hA5
  have hsz6 : w5.heap.size < (w5.alloc (.cells #[.slice a1 nP c1] 24)).heap.size := by simp
  clear hP5 hC5 hA5 e0 e1 hbA
  generalize (w5.alloc (.cells #[.slice a1 nP c1] 24)) = w6 at *
  have Hsl : Hid ((sums ps ws).length = nP) := Lib.hid (by rw [sums_length HTr.out]; exact Hl.out)
  refine (impl_sums _ _ _ _ _ _ ps ws _ (H.out.below hb16) HTr.out).mono ?_
  rintro e w7 ⟨v7, rfl, o7, b7⟩
  obtain ⟨a7, c7, rfl⟩ := o7.shape
  rw [Hsl.out] at o7 ⊢
  have hb17 := hb16.trans (b7.mono hb16.size)
  have hbS := below_new w7 (.cells #[.slice a7 nP c7] 24)
  have hP8 := (HP6.out.below b7).below hbS
  have hC8 := cell_up hbS (cell_up b7 HC6.out)
  have hA8 := cell_up hbS (cell_up b7 HA6.out)
  have hS8 : (w7.alloc (.cells #[.slice a7 nP c7] 24)).cell? ⟨w7.heap.size, 0, none⟩ = some (.slice a7 nP c7) := by rw [World.cell?_alloc_at _ _ _ _ rfl]; rfl
  have HG1' := Lib.hid ((HG1.out.below b7).below hbS)
  have HG7 := Lib.hid (o7.ints.below hbS)
  have hb18 := hb17.trans (hbS.mono hb17.size)
  have hs7 := b7.size
  have e0 := hP8.c0
  have e1 := hP8.c1
  clear o7 b7 HP6 HC6 HA6 HG1
  go_wp2_with fail
  have HP8 := Lib.hid hP8
  have HC8 := Lib.hid hC8
  have HA8 := Lib.hid hA8
  have HS8 := Lib.hid hS8
  clear hP8 hC8 hA8 hS8 hbS
  generalize (w7.alloc (.cells #[.slice a7 nP c7] 24)) = w8 at *
  refine (impl_firsts _ _ _ _ _ _ ps ws 102 #[.pointer (some ⟨w7.heap.size, 0, none⟩), .pointer (some ⟨w.heap.size + 1, 0, none⟩), .pointer (some ⟨w5.heap.size, 0, none⟩)] (bestB ps ws l) _ (H.out.below hb18) HTr.out.toPa cf_BestRule ?_).mono ?_
  · intro x W hx hW
    have hbW := hb18.trans (hW.mono hb18.size)
    have hxl : x < ps.length := by have := Hl.out; omega
    exact cl_BestRule x nP _ _ _ a7 aL a1 c7 cL c1 (sums ps ws) l (capW ps ws l) W hx (cell_up hW HS8.out) (cell_up hW HC8.out) (cell_up hW HA8.out) (HG7.out.below hW) (HL.out.below hbW) (HG1'.out.below hW) (sums_bd HTr.out x) (Hpp.out.2 x)
  · rintro e w9 ⟨v9, rfl, o9, b9⟩
    have O9 := Lib.hid o9
    clear o9
    go_wp2_with fail
    go_ret2
    exact ⟨_, by rw [Hpays.out]; rfl, by rw [bestV_yes Hpays.out]; exact O9.out.mono hb18.size, hb18.trans (b9.mono hb18.size)⟩
end Go.Proofs.YtnbomleieianoaaGreat

/- Contracts: the latest best rule, by the program. -/
namespace Go.Proofs.YtnbomleieianoaaGreat
open Go.RowKit

/-- Does the latest best rule stop at x? -/
def lateB (ps ws l : List Int) (x : Nat) : Bool := endB ps x || decide (ownW ps ws l x > kidSum ps (fun y => nth (capW ps ws l) y) x ps.length)
def lateV (ps ws l : List Int) : List Int := if paysB ps ws l then firsts ps (fS (lateB ps ws l)) else []
theorem lateV_no {ps ws l : List Int} (h : paysB ps ws l = false) : lateV ps ws l = [] := by rw [lateV, h]; rfl
theorem lateV_yes {ps ws l : List Int} (h : paysB ps ws l = true) : lateV ps ws l = firsts ps (fS (lateB ps ws l)) := by rw [lateV, h]; rfl
theorem lateV_len {ps ws l : List Int} : (lateV ps ws l).length ≤ 1048576 := by
  cases h : paysB ps ws l
  · rw [lateV_no h]; simp
  · rw [lateV_yes h]; have := (paysB_t h).1.n24; have := firsts_length ps (fS (lateB ps ws l)); omega
/-- One cell of a block, that may be written. -/
structure Cel (w : World) (g : Nat) (x : Value) : Prop where
  c : w.cell? ⟨g, 0, none⟩ = some x
  f : w.frozen? ⟨g, 0, none⟩ = false
theorem Cel.lt {w : World} {g : Nat} {x : Value} (h : Cel w g x) : g < w.heap.size := World.block_lt_of_cell? w _ h.c
theorem Cel.below {w w' : World} {g : Nat} {x : Value} (h : Cel w g x) (hb : Below w.heap.size w w') : Cel w' g x := ⟨(hb.cell (p := ⟨g, 0, none⟩) h.lt).trans h.c, (hb.frozen (p := ⟨g, 0, none⟩) h.lt).trans h.f⟩
theorem Cel.new (w : World) (x : Value) (t : TypeId) : Cel (w.alloc (.cells #[x] t)) w.heap.size x := ⟨by rw [World.cell?_alloc_at _ _ _ _ rfl]; rfl, World.frozen?_alloc_at _ _ _ _ rfl⟩
theorem Cel.drew {w : World} {g : Nat} {x : Value} (h : Cel w g x) : Cel w.drew g x := ⟨h.c, h.f⟩
theorem Cel.put {w : World} {g : Nat} {x : Value} (h : Cel w g x) (u : Value) : Cel (w.setCell ⟨g, 0, none⟩ u) g u := ⟨cell_set h.c, by simpa using h.f⟩
theorem Cel.far {w : World} {g b : Nat} {x : Value} (h : Cel w g x) (hne : g ≠ b) (u : Value) : Cel (w.setCell ⟨b, 0, none⟩ u) g x := ⟨cell_far h.c hne, by simpa using h.f⟩
/-- Two boxes with the sums and the ends, just made. -/
def LateR (u wc : World) (n : Nat) (ps ws : List Int) (v8 v9 : Value) : Prop :=
  Below u.heap.size u wc ∧ ∃ (g8 g9 : Nat) (a6 : Option Addr) (c6 : Nat) (a7 : Option Addr) (c7 : Nat), v8 = .pointer (some ⟨g8, 0, none⟩) ∧ v9 = .pointer (some ⟨g9, 0, none⟩) ∧ wc.cell? ⟨g8, 0, none⟩ = some (.slice a6 n c6) ∧ wc.cell? ⟨g9, 0, none⟩ = some (.slice a7 n c7) ∧ Ints wc a6 n (sums ps ws) ∧ Bo.Ints wc a7 n (endsB ps)
theorem lateR_mk {u W : World} {n : Nat} {ps ws : List Int} {g8 g9 c6 c7 b6 b7 : Nat} {a6 a7 : Option Addr} {x y : Value} (hB : Below u.heap.size u W) (fs8 : Cel W g8 x) (fs9 : Cel W g9 y) (hne : g8 ≠ g9) (o6 : Own W b6 (.slice a6 n c6) (sums ps ws)) (o7 : Bo.Own W b7 (.slice a7 n c7) (endsB ps))
    (s6 : ∀ g, (Value.slice a6 n c6).ownBlock = some g → g ≠ g8 ∧ g ≠ g9) (s7 : ∀ g, (Value.slice a7 n c7).ownBlock = some g → g ≠ g8 ∧ g ≠ g9) (h8 : u.heap.size ≤ g8) (h9 : u.heap.size ≤ g9) :
    LateR u ((W.setCell ⟨g8, 0, none⟩ (.slice a6 n c6)).setCell ⟨g9, 0, none⟩ (.slice a7 n c7)) n ps ws (.pointer (some ⟨g8, 0, none⟩)) (.pointer (some ⟨g9, 0, none⟩)) := by
  refine ⟨(hB.setCell h8 _).setCell h9 _, g8, g9, a6, c6, a7, c7, rfl, rfl, ((fs8.put _).far hne _).c, ((fs9.far (fun e => hne e.symm) _).put _).c, ?_, ?_⟩
  · have o6' := (o6.far (a := ⟨g8, 0, none⟩) (fun e => (s6 _ e).1 rfl) (.slice a6 n c6)).far (a := ⟨g9, 0, none⟩) (fun e => (s6 _ e).2 rfl) (.slice a7 n c7)
    exact o6'.ints
  · have o7' := (o7.far (a := ⟨g8, 0, none⟩) (fun e => (s7 _ e).1 rfl) (.slice a6 n c6)).far (a := ⟨g9, 0, none⟩) (fun e => (s7 _ e).2 rfl) (.slice a7 n c7)
    exact o7'.bools
theorem cne {w : World} {g8 g9 : Nat} {x y : Value} (_ : Cel w g8 x) (_ : Cel w g9 y) (h : g8 ≠ g9) : g8 ≠ g9 := h
theorem cf_LatestRule (args : Array Value) (W : World) : (callFunc 105 args).run Tryz.prog W = .ok (.enter 105 args) W := by kernel_rfl
end Go.Proofs.YtnbomleieianoaaGreat

/- Contracts: the envelope of each node, by the program and by the reference. -/
namespace Go.Proofs.YtnbomleieianoaaGreat
open Go.RowKit

/-- The envelopes. -/
def envL (ps ws l : List Int) : List (Int × Int) := (List.range ps.length).map fun x => (nm (nth (capW ps ws l) x) (nth (sums ps ws) x), dn (nth (capW ps ws l) x) (nth (sums ps ws) x))
theorem envL_length (ps ws l : List Int) : (envL ps ws l).length = ps.length := by simp [envL]
theorem envL_take (ps ws l : List Int) {x : Nat} (hx : x < ps.length) : (envL ps ws l).take (x + 1) = (envL ps ws l).take x ++ [(nm (nth (capW ps ws l) x) (nth (sums ps ws) x), dn (nth (capW ps ws l) x) (nth (sums ps ws) x))] := by
  rw [List.take_succ_eq_append_getElem (by rw [envL_length]; exact hx)]
  simp [envL]
def envV (ps ws l : List Int) : List (Int × Int) := if paysB ps ws l then envL ps ws l else []
theorem envV_no {ps ws l : List Int} (h : paysB ps ws l = false) : envV ps ws l = [] := by rw [envV, h]; rfl
theorem envV_yes {ps ws l : List Int} (h : paysB ps ws l = true) : envV ps ws l = envL ps ws l := by rw [envV, h]; rfl
theorem envV_len {ps ws l : List Int} : (envV ps ws l).length ≤ 24 := by
  cases h : paysB ps ws l
  · rw [envV_no h]; simp
  · rw [envV_yes h, envL_length]; exact (paysB_t h).1.n24
set_option maxRecDepth 100000 in
set_option maxHeartbeats 2000000 in
theorem impl_EnvelopeOf (aP : Option Addr) (nP cP : Nat) (aW : Option Addr) (nW cW : Nat) (ps ws : List Int) (aL : Option Addr) (nL cL : Nat) (l : List Int) (w : World) (h : Tre w aP nP cP aW nW cW ps ws) (hL : Ints w aL nL l) (_hLc : aL = none → cL = 0) (hn : nL ≤ 1048576) :
    Calls Tryz.prog 33 #[.agg #[.slice aP nP cP, .slice aW nW cW], .slice aL nL cL] w fun e w' => ∃ v, e = .returned (.tuple #[v, .bool (paysB ps ws l)]) ∧ Fr.Own w' w.heap.size v (envV ps ws l) ∧ Below w.heap.size w w' := by
  have hl := h.p.1
  have hlw := h.w.1
  have hpn := h.pn
  have hwn := h.wn
  have hb1 := below_new w (.cells #[.slice aP nP cP, .slice aW nW cW] 26)
  have hP1 := Lib.hid (Pair.new w (.slice aP nP cP) (.slice aW nW cW) 26)
  have H := Lib.hid h
  have Hl := Lib.hid hl
  have Hlw := Lib.hid hlw
  clear h hl hlw
  have HL := Lib.hid hL
  have hll := Lib.hid hL.1
  clear hL
  go_enter Tryz.func33, Tryz.ntmps33
  have c0 := hP1.out.c0
  have c1 := hP1.out.c1
  go_wp2_with fail
  generalize (w.alloc (.cells #[.slice aP nP cP, .slice aW nW cW] 26)) = w2 at *
  refine (impl_IsTree _ _ _ _ _ _ ps ws _ (H.out.below hb1)).mono ?_
  rintro e w3 ⟨rfl, hb3⟩
  have HP3 := Lib.hid (hP1.out.below hb3)
  have d0 := HP3.out.c0
  have d1 := HP3.out.c1
  have hb13 := hb1.trans (hb3.mono hb1.size)
  clear c0 c1 hb3 hP1
  cases hT : treeB ps ws
  · have Hv := Lib.hid (pays_no1 (l := l) hT)
    clear hT
    go_wp2_with fail
    go_ret2
    exact ⟨_, by rw [Hv.out]; rfl, by rw [envV_no Hv.out]; exact Fr.Own.nil _ _, hb13⟩
  have HT := Lib.hid hT
  clear hT
  go_wp2_with fail
  refine (impl_isProcess _ _ _ _ _ _ ps ws _ _ _ l _ (H.out.below hb13) (HL.out.below hb13) hn).mono ?_
  rintro e w4 ⟨rfl, hb4⟩
  have HP4 := Lib.hid (HP3.out.below hb4)
  have e0 := HP4.out.c0
  have e1 := HP4.out.c1
  have hb14 := hb13.trans (hb4.mono hb13.size)
  clear d0 d1 hb4 HP3
  cases hp : procB ps.length l
  · have Hv := Lib.hid (pays_no2 (ws := ws) hp)
    clear hp
    go_wp2_with fail
    go_ret2
    exact ⟨_, by rw [Hv.out]; rfl, by rw [envV_no Hv.out]; exact Fr.Own.nil _ _, hb14⟩
  have Hpays := Lib.hid (pays_both HT.out hp)
  obtain ⟨hTr, _, _, hleq, hlb⟩ := paysB_t Hpays.out
  have hnL : nP = nL := by have := hll.out; have := Hl.out; omega
  have HTT := Lib.hid hTr
  have Hlb := Lib.hid hlb
  have hn24 := hTr.n24
  have hnP : 1 ≤ nP ∧ nP ≤ 24 := by have := hTr.n1; have := Hl.out; omega
  have Hval := Lib.hid (envV_yes Hpays.out)
  clear hp hTr hleq hlb hn24 hn hpn hwn
  subst hnL
  have Hsl : Hid ((sums ps ws).length = nP) := Lib.hid (by rw [sums_length HTT.out]; exact Hl.out)
  have hnil := Fr.own_nil0 w4
  have hnew := below_new w4 (.cells #[] 29)
  have HP4' := Lib.hid (HP4.out.below hnew)
  have hb14' := hb14.trans (hnew.mono hb14.size)
  have f0 := HP4'.out.c0
  have f1 := HP4'.out.c1
  have hw4 : w.heap.size + 1 ≤ w4.heap.size := HP4.out.lt
  have hw4' : w4.heap.size ≤ (w4.alloc (.cells #[] 29)).heap.size := hnew.size
  have hw4n : (w4.alloc (.cells #[] 29)).heap.size = w4.heap.size + 1 := by simp
  clear hb14 HP4 hnew
  have hnil' := Lib.hid hnil
  clear hnil
  go_wp2_with fail
  generalize w4.alloc (.cells #[] 29) = w5 at *
  refine (impl_sums _ _ _ _ _ _ ps ws _ (H.out.below hb14') HTT.out).mono ?_
  rintro e w6 ⟨v6, rfl, ho6, hb6⟩
  obtain ⟨a6, c6, rfl⟩ := ho6.shape
  rw [Hsl.out] at ho6 ⊢
  have G6 := Lib.hid ho6.ints
  have HP6 := Lib.hid (HP4'.out.below hb6)
  have HO6 := Lib.hid (hnil'.out.below hb6)
  have hb16 := hb14'.trans (hb6.mono hb14'.size)
  generalize hg5 : w4.heap.size = g5 at *
  have Hap6 : Hid (Apart a6 (Value.slice (some ⟨g5, 0, none⟩) 0 0)) := Lib.hid fun p hp e => by
    obtain ⟨g, cap, he, hg, _⟩ := ho6.form (by rw [sums_length HTT.out]; have := Hl.out; omega)
    cases he
    cases hp
    simp [Value.ownBlock] at e
    omega
  have hs6 : w5.heap.size ≤ w6.heap.size := hb6.size
  clear ho6 hb6 hnil' HP4' hb14' f0 f1 e0 e1 hg5
  have f0 := HP6.out.c0
  have f1 := HP6.out.c1
  go_wp2_with fail
  refine (impl_worth _ _ _ _ _ _ ps ws _ _ _ l _ 24 _ (H.out.below hb16) HTT.out (HL.out.below hb16) rfl Hlb.out (.inl ⟨by omega, rfl⟩)).mono ?_
  rintro e w7 ⟨a1, k1, a2, k2, rfl, o1, o2, b7⟩
  have hb17 := hb16.trans (b7.mono hb16.size)
  have G7 := Lib.hid o1.ints
  have G6' := Lib.hid (G6.out.below b7)
  have HP7 := Lib.hid (HP6.out.below b7)
  have HO7 := Lib.hid (HO6.out.below b7)
  have Hap7 : Hid (Apart a1 (Value.slice (some ⟨g5, 0, none⟩) 0 0)) := Lib.hid fun p hp e => by
    obtain ⟨g, cap, he, hg, _⟩ := o1.form (by rw [worthL_length]; have := Hl.out; omega)
    cases he
    cases hp
    simp [Value.ownBlock] at e
    omega
  have hs7 : g5 ≤ w7.heap.size := by have := b7.size; omega
  have Hcl : Hid ((capW ps ws l).length = nP) := Lib.hid (by rw [capW_length]; exact Hl.out)
  have Hca := Lib.hid (worth_abs HTT.out Hlb.out 24)
  clear o1 o2 b7 G6 HP6 HO6 hb16 f0 f1 hs6
  go_wp2_with fail
  go_loopw [6, 34] (fun v6 v34 wr => ∃ x : Nat, x ≤ nP ∧ v34 = .int .i64 (x : Int) ∧ Fr.Own wr g5 v6 ((envL ps ws l).take x) ∧ Ints wr a6 nP (sums ps ws) ∧ Ints wr a1 nP (capW ps ws l) ∧ Apart a6 v6 ∧ Apart a1 v6 ∧ Pair wr w.heap.size (.slice aP nP cP) (.slice aW nW cW) ∧ Below w.heap.size w wr ∧ g5 ≤ wr.heap.size) (fun _ v34 _ => nP - (intOf v34).toNat)
  case atStart => exact ⟨0, Nat.zero_le _, rfl, by rw [List.take_zero]; exact HO7.out, G6'.out, G7.out, Hap6.out, Hap7.out, HP7.out, hb17, hs7⟩
  case round =>
    clear HO7 G6' G7 Hap6 Hap7 HP7 hb17 hs7
    obtain ⟨x, hx, rfl, hou, h6, h7, p6, p7, hP, hbel, hsz⟩ := hrel
    have HP := Lib.hid hP
    have HO := Lib.hid hou
    have G6 := Lib.hid h6
    have G7 := Lib.hid h7
    have P6 := Lib.hid p6
    have P7 := Lib.hid p7
    clear hP hou h6 h7 p6 p7
    by_cases hlt : (x : Int) < nP
    · obtain ⟨b6, o6, rfl, hc6⟩ := G6.out.at (i := x) (Below.refl _ _) (by omega)
      obtain ⟨b7, o7, rfl, hc7⟩ := G7.out.at (i := x) (Below.refl _ _) (by omega)
      have Hml := Lib.hid (envL_take ps ws l (x := x) (by have := Hl.out; omega))
      have hol : ((envL ps ws l).take x).length ≤ 24 := by rw [List.length_take]; omega
      have hs1 := sums_pos HTT.out x (by have := Hl.out; omega)
      have hs2 := (sums_bd HTT.out x).2
      have hcx : -479520 ≤ nth (capW ps ws l) x ∧ nth (capW ps ws l) x ≤ 479520 := Hca.out x
      have HcL : Hid (∀ W : World, Calls Tryz.prog 73 #[.int .i64 (nth (capW ps ws l) x), .int .i64 (nth (sums ps ws) x)] W fun e w' => e = .returned (.tuple #[.agg #[.int .i64 (nm (nth (capW ps ws l) x) (nth (sums ps ws) x)), .int .i64 (dn (nth (capW ps ws l) x) (nth (sums ps ws) x))], .bool true]) ∧ Below W.heap.size W w') := Lib.hid fun W => impl_lowest_s _ _ W (by omega) (by omega)
      clear hs1 hs2 hcx
      generalize nm (nth (capW ps ws l) x) (nth (sums ps ws) x) = gn at *
      generalize dn (nth (capW ps ws l) x) (nth (sums ps ws) x) = gd at *
      generalize nth (capW ps ws l) x = cx at *
      generalize nth (sums ps ws) x = sx at *
      generalize (envL ps ws l).take x = acc at *
      have k2 : (0 : Int) ≤ (x : Int) := by omega
      obtain ⟨wo, rfl⟩ : ∃ wo, wo = wr := ⟨_, rfl⟩
      go_upto_region 9 with (go_at_call 73; refine (HcL.out _).mono ?_; rintro e w7 ⟨rfl, b7⟩
                             have q := Pair.new w7 (.int .i64 0) (.int .i64 0) 29
                             have q0 := q.c0
                             have q1 := q.c1
                             have q2 := q.f0
                             have q3 := q.f1)
      have hb17 := hbel.trans (b7.mono hbel.size)
      have hnew := below_new w7 (.cells #[.int .i64 gn, .int .i64 gd] 29)
      have HF := Lib.hid (Pair.new w7 (.int .i64 gn) (.int .i64 gd) 29)
      have G6n := Lib.hid ((G6.out.below b7).below hnew)
      have G7n := Lib.hid ((G7.out.below b7).below hnew)
      have HP8 := Lib.hid ((HP.out.below b7).below hnew)
      have HO8 := Lib.hid ((HO.out.below b7).below hnew)
      have hb18 := hb17.trans (hnew.mono hb17.size)
      have hsz8 : g5 ≤ (w7.alloc (.cells #[.int .i64 gn, .int .i64 gd] 29)).heap.size := Nat.le_trans hsz (Nat.le_trans b7.size hnew.size)
      clear q q0 q1 q2 q3 b7 hnew hb17 hc6 hc7 HP HO G6 G7
      generalize w7.alloc (.cells #[.int .i64 gn, .int .i64 gd] 29) = w8 at *
      have z0 := HF.out.c0
      have z1 := HF.out.c1
      have hgw : w.heap.size ≤ g5 := by omega
      go_wp2_with (at_builtin; refine Fr.wp_push2 _ _ rfl rfl g5 _ _ rfl HO8.out rfl (by omega) hsz8 ?_; intro v' w' ho hb hm)
      have h6' := G6n.out.moved hm (fun _ => P6.out)
      have h7' := G7n.out.moved hm (fun _ => P7.out)
      go_roundw
      case rel => exact ⟨x + 1, by omega, by go_num, by rw [Hml.out]; exact ho, h6'.1, h7'.1, h6'.2 (by omega), h7'.2 (by omega), HP8.out.up hb (by omega), hb18.trans (hb.mono hgw), Nat.le_trans hsz8 hb.size⟩
      case measure => simp [intOf]; omega
    · obtain rfl : x = nP := by omega
      have hfin : (envL ps ws l).take x = envL ps ws l := List.take_of_length_le (by rw [envL_length]; have := Hl.out; omega)
      have HO2 := HO.out
      rw [hfin] at HO2
      go_wp2_with fail
      go_ret2
      exact ⟨_, by rw [Hpays.out]; rfl, by rw [Hval.out]; exact HO2.mono (by omega), hbel⟩
end Go.Proofs.YtnbomleieianoaaGreat

/- Contracts: the best rules, by the reference. -/
namespace Go.Proofs.YtnbomleieianoaaGreat
open Go.RowKit

/-- Caps, sums and no bools, just made, apart from each other. -/
def ThreeB (u wc : World) (n : Nat) (ps ws l : List Int) (v6 v7 v8 : Value) : Prop :=
  KeepR u wc ∧ ∃ (a6 : Option Addr) (c6 : Nat) (a7 : Option Addr) (c7 g8 : Nat), v6 = .slice a6 n c6 ∧ v7 = .slice a7 n c7 ∧ v8 = .slice (some ⟨g8, 0, none⟩) 0 0 ∧ Ints wc a6 n (capW ps ws l) ∧ Ints wc a7 n (sums ps ws) ∧ Bo.Own wc u.heap.size v8 [] ∧ Apart a6 v8 ∧ Apart a7 v8
theorem threeB_mk {u wc : World} {n : Nat} {ps ws l : List Int} {v6 v7 : Value} {b6 b7 b8 g8 : Nat} (hk : KeepR u wc) (hc : (capW ps ws l).length = n) (hs : (sums ps ws).length = n) (h6 : Own wc b6 v6 (capW ps ws l)) (h7 : Own wc b7 v7 (sums ps ws)) (h8 : Bo.Own wc b8 (.slice (some ⟨g8, 0, none⟩) 0 0) []) (hb8 : u.heap.size ≤ b8)
    (s6 : ∀ g, v6.ownBlock = some g → g ≠ g8) (s7 : ∀ g, v7.ownBlock = some g → g ≠ g8) : ThreeB u wc n ps ws l v6 v7 (.slice (some ⟨g8, 0, none⟩) 0 0) := by
  obtain ⟨a6, c6, rfl⟩ := h6.shape
  obtain ⟨a7, c7, rfl⟩ := h7.shape
  rw [hc] at h6 s6 ⊢
  rw [hs] at h7 s7 ⊢
  exact ⟨hk, a6, c6, a7, c7, g8, rfl, rfl, rfl, h6.ints, h7.ints, h8.mono hb8, (fun p hp e => by subst hp; simp [Value.ownBlock] at e; exact s6 _ rfl e.symm), (fun p hp e => by subst hp; simp [Value.ownBlock] at e; exact s7 _ rfl e.symm)⟩
end Go.Proofs.YtnbomleieianoaaGreat

/- Contracts: the rule that looks some steps ahead, by the program. -/
namespace Go.Proofs.YtnbomleieianoaaGreat
open Go.RowKit

/-- Does the rule that looks K steps ahead stop at x? -/
def lookB (ps ws l : List Int) (K x : Nat) : Bool := ownW ps ws l x == nth (worthL ps ws l K) x
def lookOk (ps ws l : List Int) (k : Int) : Bool := paysB ps ws l && inB k 0 24
def lookV (ps ws l : List Int) (k : Int) : List Int := if lookOk ps ws l k then firsts ps (fS (lookB ps ws l k.toNat)) else []
theorem look_no1 {ps ws l : List Int} {k : Int} (h : paysB ps ws l = false) : lookOk ps ws l k = false := by rw [lookOk, h]; rfl
theorem look_no2 {ps ws l : List Int} {k : Int} (h : inB k 0 24 = false) : lookOk ps ws l k = false := by rw [lookOk, h]; simp
theorem look_yes {ps ws l : List Int} {k : Int} (h1 : paysB ps ws l = true) (h2 : inB k 0 24 = true) : lookOk ps ws l k = true := by rw [lookOk, h1, h2]; rfl
theorem lookV_no {ps ws l : List Int} {k : Int} (h : lookOk ps ws l k = false) : lookV ps ws l k = [] := by rw [lookV, h]; rfl
theorem lookV_yes {ps ws l : List Int} {k : Int} (h : lookOk ps ws l k = true) : lookV ps ws l k = firsts ps (fS (lookB ps ws l k.toNat)) := by rw [lookV, h]; rfl
theorem lookV_len {ps ws l : List Int} {k : Int} : (lookV ps ws l k).length ≤ 1048576 := by
  cases h : lookOk ps ws l k
  · rw [lookV_no h]; simp
  · rw [lookV_yes h]
    simp only [lookOk, Bool.and_eq_true] at h
    have := (paysB_t h.1).1.n24; have := firsts_length ps (fS (lookB ps ws l k.toNat)); omega
theorem cf_LookAhead (args : Array Value) (W : World) : (callFunc 121 args).run Tryz.prog W = .ok (.enter 121 args) W := by kernel_rfl
set_option maxRecDepth 100000 in
theorem cl_LookAhead (x n : Nat) (pS pL pA : Addr) (aS aL aA : Option Addr) (cS cL cA : Nat) (s l at' : List Int) (w : World) (hx : x < n)
    (h1 : w.cell? pS = some (.slice aS n cS)) (h2 : w.cell? pL = some (.slice aL n cL)) (h3 : w.cell? pA = some (.slice aA n cA)) (hS : Ints w aS n s) (hL : Ints w aL n l) (hA : Ints w aA n at') (hsb : 0 ≤ nth s x ∧ nth s x ≤ 480) (hlb : -999 ≤ nth l x ∧ nth l x ≤ 999) :
    Calls Tryz.prog 121 #[.int .i64 (x : Int), .pointer (some pS), .pointer (some pL), .pointer (some pA)] w fun e w' => e = .returned (.bool (nth s x * nth l x == nth at' x)) ∧ Below w.heap.size w w' := by
  obtain ⟨bS, oS, rfl, hcS⟩ := hS.at (i := x) (Below.refl _ _) hx
  obtain ⟨bL, oL, rfl, hcL⟩ := hL.at (i := x) (Below.refl _ _) hx
  obtain ⟨bA, oA, rfl, hcA⟩ := hA.at (i := x) (Below.refl _ _) hx
  have hmb := mul_abs (B := 999) (U := 480) hlb hsb (by omega)
  rw [Int.mul_comm (nth l x) (nth s x)] at hmb
  clear hS hL hA
  generalize nth s x = u at *
  generalize nth l x = q at *
  generalize nth at' x = r at *
  have k1 : IntKind.i64.wrap (u * q) = u * q := IntWalk.i64_in _ (by omega)
  have k2 : (0 : Int) ≤ (x : Int) := by omega
  have k3 : (x : Int) < (n : Int) := by omega
  go_enter Tryz.func121, Tryz.ntmps121
  go_wp2_with fail
  go_quiet (fail)
  go_wp2_with fail
  go_ret
  exact ⟨rfl, below_drewN (Below.refl _ _) _⟩
set_option maxRecDepth 100000 in
set_option maxHeartbeats 2000000 in
theorem impl_LookAhead (aP : Option Addr) (nP cP : Nat) (aW : Option Addr) (nW cW : Nat) (ps ws : List Int) (aL : Option Addr) (nL cL : Nat) (l : List Int) (k : Int) (w : World) (h : Tre w aP nP cP aW nW cW ps ws) (hL : Ints w aL nL l) (_hLc : aL = none → cL = 0) (hn : nL ≤ 1048576) :
    Calls Tryz.prog 61 #[.agg #[.slice aP nP cP, .slice aW nW cW], .slice aL nL cL, .int .i64 k] w fun e w' => ∃ v, e = .returned (.tuple #[v, .bool (lookOk ps ws l k)]) ∧ Own w' w.heap.size v (lookV ps ws l k) ∧ Below w.heap.size w w' := by
  have hl := h.p.1
  have hlw := h.w.1
  have hpn := h.pn
  have hwn := h.wn
  have hb1 := below_new w (.cells #[.slice aP nP cP, .slice aW nW cW] 26)
  have hP1 := Lib.hid (Pair.new w (.slice aP nP cP) (.slice aW nW cW) 26)
  have H := Lib.hid h
  have Hl := Lib.hid hl
  have Hlw := Lib.hid hlw
  clear h hl hlw
  have HL := Lib.hid hL
  have hll := Lib.hid hL.1
  clear hL
  have hbb := hb1.trans ((below_new (w.alloc (.cells #[.slice aP nP cP, .slice aW nW cW] 26)) (.cells #[.slice aL nL cL] 24)).mono hb1.size)
  have hPP := Lib.hid (hP1.out.alloc (.cells #[.slice aL nL cL] 24))
  have hC1 : ((w.alloc (.cells #[.slice aP nP cP, .slice aW nW cW] 26)).alloc (.cells #[.slice aL nL cL] 24)).cell? ⟨w.heap.size + 1, 0, none⟩ = some (.slice aL nL cL) := by rw [World.cell?_alloc_at _ _ _ _ (by simp)]; rfl
  have c0 := hPP.out.c0
  have c1 := hPP.out.c1
  clear hb1 hP1
  go_enter Tryz.func61, Tryz.ntmps61
  go_wp2_with fail
  generalize ((w.alloc (.cells #[.slice aP nP cP, .slice aW nW cW] 26)).alloc (.cells #[.slice aL nL cL] 24)) = w2 at *
  have hlt2 := hPP.out.lt
  refine (impl_IsTree _ _ _ _ _ _ ps ws _ (H.out.below hbb)).mono ?_
  rintro e w3 ⟨rfl, hb3⟩
  have hP3 := hPP.out.below hb3
  have d0 := hP3.c0
  have d1 := hP3.c1
  have HP3 := Lib.hid hP3
  have d2 := cell_up hb3 hC1
  have hb13 := hbb.trans (hb3.mono hbb.size)
  clear hP3 c0 c1 hb3 hC1 hPP hbb
  cases hT : treeB ps ws
  · have Hv := Lib.hid (pays_no1 (l := l) hT)
    clear hT
    go_wp2_with fail
    go_ret2
    exact ⟨_, by rw [look_no1 Hv.out]; rfl, by rw [lookV_no (look_no1 Hv.out)]; exact Own.nil _ _, hb13⟩
  have HT := Lib.hid hT
  clear hT
  go_wp2_with fail
  refine (impl_isProcess _ _ _ _ _ _ ps ws _ _ _ l _ (H.out.below hb13) (HL.out.below hb13) hn).mono ?_
  rintro e w4 ⟨rfl, hb4⟩
  have hb14 := hb13.trans (hb4.mono hb13.size)
  have hP4 := HP3.out.below hb4
  have e0 := hP4.c0
  have e1 := hP4.c1
  have HP4 := Lib.hid hP4
  have e2 := cell_up hb4 d2
  clear d0 d1 d2 hP4 hb4
  cases hp : procB ps.length l
  · have Hv := Lib.hid (pays_no2 (ws := ws) hp)
    clear hp
    go_wp2_with fail
    go_ret2
    exact ⟨_, by rw [look_no1 Hv.out]; rfl, by rw [lookV_no (look_no1 Hv.out)]; exact Own.nil _ _, hb14⟩
  have Hpays := Lib.hid (pays_both HT.out hp)
  have hpp := procB_t hp
  have hTr := treeB_t HT.out
  have hn24 := hTr.n24
  have hn1 := hTr.n1
  have hnL : nP = nL := by have := hll.out; have := hpp.1; have := Hl.out; omega
  have hnW : nP = nW := by have := Hlw.out; have := hTr.wl; have := Hl.out; omega
  have hnP : 1 ≤ nP ∧ nP ≤ 24 := by have := Hl.out; omega
  have Hpp := Lib.hid hpp
  have HTr := Lib.hid hTr
  have HnW := Lib.hid hnW
  have hnW2 : nP ≤ nW := by omega
  have HC4 := Lib.hid e2
  clear hp hpp hn24 hn1 hTr hpn hwn hnW
  subst hnL
  cases hk : inB k 0 24
  · have Hno := Lib.hid (look_no2 (ps := ps) (ws := ws) (l := l) hk)
    have Hk := Lib.hid hk
    clear hk
    go_wp2_with (go_at_call 120; refine (impl_within _ _ _ _).mono ?_; rintro e w' ⟨rfl, rfl⟩; rw [Hk.out])
    go_ret2
    exact ⟨_, by rw [Hno.out]; rfl, by rw [lookV_no Hno.out]; exact Own.nil _ _, hb14⟩
  have Hok := Lib.hid (look_yes Hpays.out hk)
  have hkb := inB_t hk
  have Hk := Lib.hid hk
  obtain ⟨K, rfl⟩ : ∃ K : Nat, k = K := ⟨k.toNat, by omega⟩
  clear hk
  go_wp2_with (go_at_call 120; refine (impl_within _ _ _ _).mono ?_; rintro e w' ⟨rfl, rfl⟩; rw [Hk.out])
  refine (impl_worth _ _ _ _ _ _ ps ws _ _ _ l _ K _ (H.out.below hb14) HTr.out (HL.out.below hb14) rfl Hpp.out.2 (.inr ⟨by omega, rfl, by omega⟩)).mono ?_
  rintro e w5 ⟨a1, c1, a2, c2, rfl, o1, o2, b5⟩
  have hb15 := hb14.trans (b5.mono hb14.size)
  have G1 := Lib.hid o1.ints
  have hbA := below_new w5 (.cells #[.slice a1 nP c1] 24)
  have hP5 := (HP4.out.below b5).below hbA
  have hC5 := cell_up hbA (cell_up b5 HC4.out)
  have hA5 : (w5.alloc (.cells #[.slice a1 nP c1] 24)).cell? ⟨w5.heap.size, 0, none⟩ = some (.slice a1 nP c1) := by rw [World.cell?_alloc_at _ _ _ _ rfl]; rfl
  have hb16 := hb15.trans (hbA.mono hb15.size)
  have HG1 := Lib.hid (G1.out.below hbA)
  have hs5 := b5.size
  clear o1 o2 e0 e1 e2 HP4 HC4 b5 G1
  have e0 := hP5.c0
  have e1 := hP5.c1
  go_wp2_with fail
  have HP6 := Lib.hid hP5
  have HC6 := Lib.hid hC5
  have HA6 := Lib.hid hA5
  have hsz6 : w5.heap.size < (w5.alloc (.cells #[.slice a1 nP c1] 24)).heap.size := by simp
  clear hP5 hC5 hA5 e0 e1 hbA
  generalize (w5.alloc (.cells #[.slice a1 nP c1] 24)) = w6 at *
  have Hsl : Hid ((sums ps ws).length = nP) := Lib.hid (by rw [sums_length HTr.out]; exact Hl.out)
  refine (impl_sums _ _ _ _ _ _ ps ws _ (H.out.below hb16) HTr.out).mono ?_
  rintro e w7 ⟨v7, rfl, o7, b7⟩
  obtain ⟨a7, c7, rfl⟩ := o7.shape
  rw [Hsl.out] at o7 ⊢
  have hb17 := hb16.trans (b7.mono hb16.size)
  have hbS := below_new w7 (.cells #[.slice a7 nP c7] 24)
  have hP8 := (HP6.out.below b7).below hbS
  have hC8 := cell_up hbS (cell_up b7 HC6.out)
  have hA8 := cell_up hbS (cell_up b7 HA6.out)
  have hS8 : (w7.alloc (.cells #[.slice a7 nP c7] 24)).cell? ⟨w7.heap.size, 0, none⟩ = some (.slice a7 nP c7) := by rw [World.cell?_alloc_at _ _ _ _ rfl]; rfl
  have HG1' := Lib.hid ((HG1.out.below b7).below hbS)
  have HG7 := Lib.hid (o7.ints.below hbS)
  have hb18 := hb17.trans (hbS.mono hb17.size)
  have hs7 := b7.size
  have e0 := hP8.c0
  have e1 := hP8.c1
  clear o7 b7 HP6 HC6 HA6 HG1
  go_wp2_with fail
  have HP8 := Lib.hid hP8
  have HC8 := Lib.hid hC8
  have HA8 := Lib.hid hA8
  have HS8 := Lib.hid hS8
  clear hP8 hC8 hA8 hS8 hbS
  generalize (w7.alloc (.cells #[.slice a7 nP c7] 24)) = w8 at *
  refine (impl_firsts _ _ _ _ _ _ ps ws 121 #[.pointer (some ⟨w7.heap.size, 0, none⟩), .pointer (some ⟨w.heap.size + 1, 0, none⟩), .pointer (some ⟨w5.heap.size, 0, none⟩)] (lookB ps ws l K) _ (H.out.below hb18) HTr.out.toPa cf_LookAhead ?_).mono ?_
  · intro x W hx hW
    have hbW := hb18.trans (hW.mono hb18.size)
    have hxl : x < ps.length := by have := Hl.out; omega
    exact cl_LookAhead x nP _ _ _ a7 aL a1 c7 cL c1 (sums ps ws) l (worthL ps ws l K) W hx (cell_up hW HS8.out) (cell_up hW HC8.out) (cell_up hW HA8.out) (HG7.out.below hW) (HL.out.below hbW) (HG1'.out.below hW) (sums_bd HTr.out x) (Hpp.out.2 x)
  · rintro e w9 ⟨v9, rfl, o9, b9⟩
    have O9 := Lib.hid o9
    clear o9
    go_wp2_with fail
    go_ret2
    exact ⟨_, by rw [Hok.out]; rfl, by rw [lookV_yes Hok.out, Int.toNat_natCast]; exact O9.out.mono hb18.size, hb18.trans (b9.mono hb18.size)⟩
end Go.Proofs.YtnbomleieianoaaGreat
