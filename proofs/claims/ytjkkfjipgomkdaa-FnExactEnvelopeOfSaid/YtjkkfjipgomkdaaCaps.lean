/- Contract: the envelope of each node times its sum, by the reference. -/
import Derived.Test.YtjkkfjipgomkdaaWorth
import Derived.Test.YtjkkfjipgomkdaaCover2
import Derived.Test.YtjkkfjipgomkdaaKeepB
namespace Go.Proofs.Ytjkkfjipgomkdaa
open Go.RowKit

theorem KeepR.set {u w : World} {b i : Nat} (h : KeepR u w) (hg : u.heap.size ≤ b) (v : Value) : KeepR u (w.setCell ⟨b, i, none⟩ v) := Below.setCell h hg v
/-- Zeros and sums, just made, apart from each other. -/
def ZeroS (u wc : World) (n : Nat) (ps ws : List Int) (v5 v6 : Value) : Prop :=
  KeepR u wc ∧ ∃ (g5 : Nat) (a6 : Option Addr) (c6 : Nat), v5 = .slice (some ⟨g5, 0, none⟩) n n ∧ v6 = .slice a6 n c6 ∧ Own wc u.heap.size v5 (List.replicate n 0) ∧ Ints wc a6 n (sums ps ws) ∧ ∀ p, a6 = some p → p.block ≠ g5
theorem zeroS_mk {u wc : World} {n : Nat} {ps ws : List Int} {v6 : Value} {b5 b6 g5 : Nat} (hk : KeepR u wc) (hs : (sums ps ws).length = n) (h5 : Own wc b5 (.slice (some ⟨g5, 0, none⟩) n n) (List.replicate n 0)) (h6 : Own wc b6 v6 (sums ps ws)) (hb : u.heap.size ≤ b5) (hne : ∀ g, v6.ownBlock = some g → g ≠ g5) :
    ZeroS u wc n ps ws (.slice (some ⟨g5, 0, none⟩) n n) v6 := by
  obtain ⟨a6, c6, rfl⟩ := h6.shape
  rw [hs] at h6 hne ⊢
  exact ⟨hk, g5, a6, c6, rfl, rfl, h5.mono hb, h6.ints, fun p hp => by subst hp; exact hne _ rfl⟩
/-- The numbers from k on, zeros ahead of them. -/
def tailZ (xs : List Int) (k : Nat) : List Int := (List.range xs.length).map fun y => if k ≤ y then nth xs y else 0
theorem tailZ_length (xs : List Int) (k : Nat) : (tailZ xs k).length = xs.length := by simp [tailZ]
theorem tailZ_all (xs : List Int) : tailZ xs 0 = xs := ext_nth (tailZ_length _ _) fun i hi => by
  rw [tailZ_length] at hi
  rw [tailZ, nth_map_range hi, if_pos (Nat.zero_le _)]
theorem tailZ_none (xs : List Int) : tailZ xs xs.length = List.replicate xs.length 0 := ext_nth (by rw [tailZ_length]; simp) fun i hi => by
  rw [tailZ_length] at hi
  rw [tailZ, nth_map_range hi, if_neg (by omega), nth_replicate]
theorem tailZ_succ {xs : List Int} {k : Nat} (h : k < xs.length) : tailZ xs k = (tailZ xs (k + 1)).set k (nth xs k) := ext_nth (by simp [tailZ]) fun i hi => by
  rw [tailZ_length] at hi
  rw [nth_set (by rw [tailZ_length]; exact h), tailZ, tailZ, nth_map_range hi, nth_map_range hi]
  by_cases e : k = i
  · subst e; rw [if_pos (Nat.le_refl _), if_pos rfl]
  · rw [if_neg e]
    by_cases e2 : k ≤ i
    · rw [if_pos e2, if_pos (by omega)]
    · rw [if_neg e2, if_neg (by omega)]
theorem nth_tailZ {xs : List Int} {k y : Nat} (h : y < xs.length) (hk : k ≤ y) : nth (tailZ xs k) y = nth xs y := by rw [tailZ, nth_map_range h, if_pos hk]
theorem tailZ_abs {xs : List Int} {B : Int} (hB : 0 ≤ B) (h : Abs2 B xs) (k : Nat) : Abs2 B (tailZ xs k) := fun i => by
  by_cases hi : i < xs.length
  · rw [tailZ, nth_map_range hi]
    split
    · exact h i
    · omega
  · rw [nth_ge (by rw [tailZ_length]; omega)]; omega
theorem set_abs {xs : List Int} {B v : Int} {k : Nat} (_hB : 0 ≤ B) (h : Abs2 B xs) (hk : k < xs.length) (hv : -B ≤ v ∧ v ≤ B) : Abs2 B (xs.set k v) := fun i => by
  rw [nth_set hk]
  split
  · exact hv
  · exact h i
set_option maxRecDepth 100000 in
set_option maxHeartbeats 4000000 in
theorem spec_l4Caps (aP : Option Addr) (nP cP : Nat) (aW : Option Addr) (nW cW : Nat) (ps ws : List Int) (aL : Option Addr) (nL cL : Nat) (l : List Int) (w : World) (h : Tre w aP nP cP aW nW cW ps ws) (hT : Tr ps ws) (hL : Ints w aL nL l) (hnL : nP = nL) (hlb : ∀ i, -999 ≤ nth l i ∧ nth l i ≤ 999) :
    Calls Try.prog 60 #[.agg #[.slice aP nP cP, .slice aW nW cW], .slice aL nL cL] w fun e w' => ∃ v, e = .returned v ∧ Own w' w.heap.size v (capW ps ws l) ∧ Below w.heap.size w w' := by
  subst hnL
  have HTT := Lib.hid hT
  have hn24 := hT.n24
  have hn1 := hT.n1
  have HT := Lib.hid hT
  have hwl := hT.wl
  have hl := h.p.1
  have hlw := h.w.1
  have hpn := h.pn
  have hwn := h.wn
  have hb1 := below_new w (.cells #[.slice aP nP cP, .slice aW nW cW] 28)
  have hP1 := Lib.hid (Pair.new w (.slice aP nP cP) (.slice aW nW cW) 28)
  have H := Lib.hid h
  have Hl := Lib.hid hl
  have Hlw := Lib.hid hlw
  clear h hl hlw
  have hnW : nW ≤ nP ∧ nP ≤ nW := by have := Hlw.out; have := Hl.out; omega
  have hnP : 1 ≤ nP ∧ nP ≤ 24 := by have := Hl.out; omega
  clear hn24 hn1 hT hwl hpn hwn
  have HL := Lib.hid hL
  have hll := Lib.hid hL.1
  have Hlb := Lib.hid hlb
  clear hL hlb
  have hlt2 := hP1.out.lt
  have hmk := mk_ints nP (by omega)
  have hmx : nP ≤ maxLen := by have : maxLen = 9223372036854775807 := rfl; omega
  have Hsl : Hid ((sums ps ws).length = nP) := Lib.hid (by rw [sums_length HTT.out]; exact Hl.out)
  go_enter Try.func60, Try.ntmps60
  go_upto_region 1 with (fail)
  generalize (w.alloc (.cells #[.slice aP nP cP, .slice aW nW cW] 28)) = u0 at *
  have d0 := hP1.out.c0
  have d1 := hP1.out.c1
  go_cut [5, 6] (fun v5 v6 wc => ZeroS u0 wc nP ps ws v5 v6)
  case first =>
    go_region_held3 (fun W' => KeepR u0 W' ∧ W'.cell? ⟨w.heap.size, 0, none⟩ = some (.slice aP nP cP) ∧ W'.cell? ⟨w.heap.size, 1, none⟩ = some (.slice aW nW cW))
      (first | exact keepC2 (by assumption) d0 d1 | exact keepC2 (KeepR.start _) d0 d1 | exact keepC2 (KeepR.alloc0 _ _) d0 d1 | exact keepC2 (KeepR.alloc (by assumption : KeepR u0 _ ∧ _).1 _) d0 d1 | exact keepC2 (KeepR.alloc (by assumption : KeepR u0 _ ∧ _).1 _).drew d0 d1)
      (first
        | (go_at_call 61; refine (spec_l2Sums _ _ _ _ _ _ ps ws _ (H.out.below (hb1.trans (Below.mono (by assumption : KeepR u0 _ ∧ _).1 hb1.size))) HTT.out).mono ?_; rintro e w5 ⟨v5, rfl, o5, b5⟩; have hk5 := KeepR.next b5 (by assumption : KeepR u0 _ ∧ _).1))
    all_goals (go_wp2_with fail)
    all_goals go_meet
    all_goals first
      | exact zeroS_mk hk5 Hsl.out (((Own.zeros u0 u0.heap.size nP (Nat.le_refl _) hmx).below (Below.refl _ _).drew).below b5) o5 (Nat.le_refl _) (fun g hg => by have := World.ownsRow.lt o5 g hg; simp at this; omega)
      | exact zeroS_mk (KeepR.alloc hk5 _) Hsl.out (Own.zeros w5 w5.heap.size nP (Nat.le_refl _) hmx) (o5.below (below_new _ _)) (Below.size hk5) (fun g hg => by have := World.ownsRow.lt o5 g hg; omega)
  case rest =>
    obtain ⟨hkc, g5, a6, c6, rfl, rfl, o5, i6, hne⟩ := hcut
    have Hne := Lib.hid hne
    have HcL := Lib.hid (capW_length ps ws l)
    have hg5 : u0.heap.size ≤ g5 := o5.lt.1
    have hu0 : w.heap.size ≤ u0.heap.size := hb1.size
    have O5 : Hid (Own wc u0.heap.size (.slice (some ⟨g5, 0, none⟩) nP nP) (tailZ (capW ps ws l) nP)) := Lib.hid (by
      have := tailZ_none (capW ps ws l)
      rw [capW_length, Hl.out] at this
      rw [this]; exact o5)
    have hg5w : g5 ≠ w.heap.size := by have := hP1.out.lt; omega
    clear hne o5 hmk
    go_wp2_with fail
    go_loopw [7] (fun v7 wr => ∃ k : Nat, k ≤ nP ∧ ∃ j : Int, j + 1 = k ∧ v7 = .int .i64 j ∧ Own wr u0.heap.size (.slice (some ⟨g5, 0, none⟩) nP nP) (tailZ (capW ps ws l) k) ∧ Ints wr a6 nP (sums ps ws) ∧ KeepR u0 wr) (fun v7 _ => (intOf v7 + 1).toNat)
    case atStart => exact ⟨nP, Nat.le_refl _, _, by omega, rfl, O5.out, i6, hkc⟩
    case round =>
      clear O5 i6 hkc
      obtain ⟨k, hk, j, hj, rfl, hown, hi6, hbel⟩ := hrel
      have I6 := Lib.hid hi6
      clear hi6
      by_cases hge : j ≥ 0
      · obtain ⟨K, rfl⟩ : ∃ K : Nat, j = K := ⟨j.toNat, by omega⟩
        obtain rfl : k = K + 1 := by omega
        have hbw : Below w.heap.size w wr := hb1.trans (Below.mono hbel hu0)
        have hKl : K < (capW ps ws l).length := by rw [HcL.out, Hl.out]; omega
        obtain ⟨b6, o6, rfl, hc6⟩ := I6.out.at (i := K) (Below.refl _ _) (by omega)
        obtain ⟨bL, oL, rfl, hcL⟩ := HL.out.at (i := K) hbw (by omega)
        obtain ⟨bW, oW, rfl, hcW⟩ := H.out.w.at (i := K) hbw (by omega)
        have hlen : (tailZ (capW ps ws l) (K + 1)).length = nP := by rw [tailZ_length, HcL.out]; exact Hl.out
        have hcO := hown.cell (i := K) (by omega)
        have hfO := hown.free hlen.symm K
        have hwz := w_zero HTT.out (x := K) (by have := Hl.out; omega)
        have hval := nth_capW (l := l) HTT.out (x := K) (by have := Hl.out; omega)
        have hsucc := tailZ_succ (xs := capW ps ws l) (k := K) hKl
        have hset := Own.set (w := wr.drew) hown hlen.symm K (nth (sums ps ws) K * nth l K)
        have hkid : kidSum ps (fun z => nth ((tailZ (capW ps ws l) (K + 1)).set K (nth (sums ps ws) K * nth l K)) z) K ps.length = kidSum ps (fun z => nth (capW ps ws l) z) K ps.length := kidSum_congr fun z hz e => by
          have := kids_lt HTT.out.toPa hz e
          rw [nth_set (by rw [tailZ_length]; exact hKl), if_neg (by omega), nth_tailZ (by rw [capW_length]; exact hz) (by omega)]
        have hsb := sums_bd HTT.out K
        have hlb := Hlb.out K
        have hmb := mul_abs (B := 999) (U := 480) hlb hsb (by omega)
        rw [Int.mul_comm (nth l K) (nth (sums ps ws) K)] at hmb
        have habs : Abs2 1000000000 ((tailZ (capW ps ws l) (K + 1)).set K (nth (sums ps ws) K * nth l K)) := set_abs (by omega) (tailZ_abs (by omega) (fun i => by have := worth_abs HTT.out Hlb.out 24 i; unfold capW; omega) _) (by rw [tailZ_length]; exact hKl) (by omega)
        have hsz : nth (capW ps ws l) K = if endB ps K then nth (sums ps ws) K * nth l K else max (nth (sums ps ws) K * nth l K) (kidSum ps (fun z => nth (capW ps ws l) z) K ps.length) := hval
        have Habs := Lib.hid habs
        have Hkid := Lib.hid hkid
        have Hval := Lib.hid hsz
        have Hsucc := Lib.hid hsucc
        have Hlen := Lib.hid hlen
        clear habs hkid hval hsz hsucc hlen hsb hlb
        have d0w := (hP1.out.below hbel).c0
        have d1w := (hP1.out.below hbel).c1
        have Hcall : Hid (∀ W : World, KeepR u0 W → Ints W (some ⟨g5, 0, none⟩) nP ((tailZ (capW ps ws l) (K + 1)).set K (nth (sums ps ws) K * nth l K)) → Calls Try.prog 69 #[.agg #[.slice aP nP cP, .slice (some ⟨bW, oW, none⟩) nW cW], .slice (some ⟨g5, 0, none⟩) nP nP, .int .i64 (K : Int)] W fun e w' => e = .returned (.int .i64 (kidSum ps (fun z => nth (capW ps ws l) z) K ps.length)) ∧ Below W.heap.size W w') := Lib.hid fun W hW hI => by
          have := spec_l4Kids _ _ _ _ _ _ ps ws (some ⟨g5, 0, none⟩) nP nP _ K 1000000000 W (H.out.below (hb1.trans (Below.mono hW hu0))) HTT.out.toPa hI (Nat.le_refl _) (by omega) Habs.out (by omega)
          rw [Int.toNat_natCast, Hkid.out] at this
          exact this
        clear Hkid Habs
        generalize kidSum ps (fun z => nth (capW ps ws l) z) K ps.length = ov at *
        generalize nth (sums ps ws) K = sv at *
        generalize nth l K = lv at *
        generalize nth ws K = uv at *
        have k1 : IntKind.i64.wrap (sv * lv) = sv * lv := IntWalk.i64_in _ (by omega)
        have k2 : (0 : Int) ≤ (K : Int) := by omega
        have k3 : (K : Int) < (nP : Int) := by omega
        have k4 : (K : Int) < (nW : Int) := by omega
        clear hmb
        have Hset := Lib.hid hset
        clear hset
        have hI7 := Lib.hid (ints_far (w := wr.drew) (I6.out.below (Below.refl _ _).drew) (b := g5) (i := K) Hne.out (.int .i64 (sv * lv)))
        have hK7 : Hid (KeepR u0 (wr.drew.setCell ⟨g5, K, none⟩ (.int .i64 (sv * lv)))) := Lib.hid (KeepR.set hbel.drew hg5 _)
        have hHW : Hid (∃ bW' oW', some (⟨bW, oW, none⟩ : Addr) = some ⟨bW', oW', none⟩) := Lib.hid ⟨_, _, rfl⟩
        have hgW : bW < w.heap.size := by
          obtain ⟨b', o', he', hlt', _⟩ := H.out.w.2 (by omega)
          cases he'
          exact hlt'
        go_wp2_with fail
        refine wp_region_still_tail 12 (by kernel_rfl) (by kernel_rfl) ?_
        simp only [List.take_succ_cons, List.take_zero, List.drop_succ_cons, List.drop_zero]
        still_step
        still_step
        still_step
        still_step
        still_step
        still_step
        still_step
        still_step
        still_step
        still_step
        still_step
        still_step
        refine wpStill_nil ?_
        change wpList _ _ _ _ _ wr.drew
        have xO : wr.drew.cell? ⟨g5, K, none⟩ = some (.int .i64 (nth (tailZ (capW ps ws l) (K + 1)) K)) := hcO
        have xF : wr.drew.frozen? ⟨g5, K, none⟩ = false := hfO
        have hcW2 : wr.drew.cell? ⟨bW, oW + K, none⟩ = some (.int .i64 uv) := hcW
        clear hc6 hcL hcO hfO hcW d0w d1w
        generalize wr.drew = wq at *
        have xW : (wq.setCell ⟨g5, K, none⟩ (.int .i64 (sv * lv))).cell? ⟨bW, oW + K, none⟩ = some (.int .i64 uv) := by
          rw [World.cell?_setCell_other _ _ _ _ (by simp <;> intro e <;> omega)]; exact hcW2
        have x0 : (wq.setCell ⟨g5, K, none⟩ (.int .i64 (sv * lv))).cell? ⟨w.heap.size, 0, none⟩ = some (.slice aP nP cP) := (hP1.out.below hK7.out).c0
        have x1 : (wq.setCell ⟨g5, K, none⟩ (.int .i64 (sv * lv))).cell? ⟨w.heap.size, 1, none⟩ = some (.slice (some ⟨bW, oW, none⟩) nW cW) := (hP1.out.below hK7.out).c1
        clear hcW2
        cases he : endB ps K
        · rw [he] at hwz
          have hwz2 : (uv == 0) = true := hwz
          have Hv : Hid (nth (capW ps ws l) K = max (sv * lv) ov) := Lib.hid (by rw [Hval.out, he]; rfl)
          clear he hwz
          go_wp2_with fail
          clear xF xO
          generalize (wq.setCell ⟨g5, K, none⟩ (.int .i64 (sv * lv))) = w9 at *
          have xO9 := Hset.out.cell (i := K) (by rw [List.length_set, Hlen.out]; omega)
          rw [nth_set (by rw [Hlen.out]; omega), if_pos rfl] at xO9
          have xF9 := Hset.out.free (by rw [List.length_set, Hlen.out]) K
          refine wp_region_noPanic ?_
          refine wp_region_held_drew (S := (fun W' => KeepR u0 W' ∧ W'.cell? ⟨w.heap.size, 0, none⟩ = some (.slice aP nP cP) ∧ W'.cell? ⟨w.heap.size, 1, none⟩ = some (.slice (some ⟨bW, oW, none⟩) nW cW))) (by kernel_rfl) ?_ (fun hHeld0 => ?_)
          · (try dsimp only); first | exact keepC2 (by assumption) d0 d1 | exact keepC2 hK7.out.drew d0 d1 | exact keepC2 (KeepR.set (by assumption) hg5 _) d0 d1 | exact keepC2 (KeepR.set (by assumption : KeepR u0 _ ∧ _).1 hg5 _) d0 d1 | exact keepC2 (KeepR.set (by assumption : KeepR u0 _ ∧ _).1 hg5 _).drew d0 d1
          refine takeH (i := 0) (oi := _) (v := ?_) rfl (by kernel_rfl) (by kernel_rfl) (by kernel_rfl) (fun _ _ _ h => h) (Or.inl ⟨by rfl, ?_⟩) (by assumption) ?_
          rotate_left
          · first | (intro w hSw; (try dsimp only at hSw); go_simp; done) | (intro w hSw; (try dsimp only at hSw); go_simp; with_reducible rfl)
          (try simp only [Act.put, List.setIfInBounds_toArray, List.set_cons_zero, List.set_cons_succ])
          refine takeH (i := 1) (oi := _) (v := ?_) rfl (by kernel_rfl) (by kernel_rfl) (by kernel_rfl) (fun _ _ _ h => h) (Or.inl ⟨by rfl, ?_⟩) (by assumption) ?_
          rotate_left
          · first | (intro w hSw; (try dsimp only at hSw); go_simp; done) | (intro w hSw; (try dsimp only at hSw); go_simp; with_reducible rfl)
          (try simp only [Act.put, List.setIfInBounds_toArray, List.set_cons_zero, List.set_cons_succ])
          refine takeH (i := 2) (oi := _) (v := ?_) rfl (by kernel_rfl) (by kernel_rfl) (by kernel_rfl) (fun _ _ _ h => h) (Or.inl ⟨by rfl, ?_⟩) (by assumption) ?_
          rotate_left
          · first | (intro w hSw; (try dsimp only at hSw); go_simp; done) | (intro w hSw; (try dsimp only at hSw); go_simp; with_reducible rfl)
          (try simp only [Act.put, List.setIfInBounds_toArray, List.set_cons_zero, List.set_cons_succ])
          refine takeH (i := 3) (oi := _) (v := ?_) rfl (by kernel_rfl) (by kernel_rfl) (by kernel_rfl) (fun _ _ _ h => h) (Or.inl ⟨by rfl, ?_⟩) (by assumption) ?_
          rotate_left
          · first | (intro w hSw; (try dsimp only at hSw); go_simp; done) | (intro w hSw; (try dsimp only at hSw); go_simp; with_reducible rfl)
          (try simp only [Act.put, List.setIfInBounds_toArray, List.set_cons_zero, List.set_cons_succ])
          refine takeH (i := 4) (oi := _) (v := ?_) rfl (by kernel_rfl) (by kernel_rfl) (by kernel_rfl) (fun _ _ _ h => h) (Or.inl ⟨by rfl, ?_⟩) (by assumption) ?_
          rotate_left
          · first | (intro w hSw; (try dsimp only at hSw); go_simp; done) | (intro w hSw; (try dsimp only at hSw); go_simp; with_reducible rfl)
          (try simp only [Act.put, List.setIfInBounds_toArray, List.set_cons_zero, List.set_cons_succ])
          refine takeH (i := 6) (oi := _) (v := ?_) rfl (by kernel_rfl) (by kernel_rfl) (by kernel_rfl) (fun _ _ _ h => h) (Or.inl ⟨by rfl, ?_⟩) (by assumption) ?_
          rotate_left
          · first | (intro w hSw; (try dsimp only at hSw); go_simp; done) | (intro w hSw; (try dsimp only at hSw); go_simp; with_reducible rfl)
          (try simp only [Act.put, List.setIfInBounds_toArray, List.set_cons_zero, List.set_cons_succ])
          refine takeH (i := 7) (oi := _) (v := ?_) rfl (by kernel_rfl) (by kernel_rfl) (by kernel_rfl) (fun _ _ _ h => h) (Or.inl ⟨by rfl, ?_⟩) (by assumption) ?_
          rotate_left
          · first | (intro w hSw; (try dsimp only at hSw); go_simp; done) | (intro w hSw; (try dsimp only at hSw); go_simp; with_reducible rfl)
          (try simp only [Act.put, List.setIfInBounds_toArray, List.set_cons_zero, List.set_cons_succ])
          refine takeH (i := 8) (oi := _) (v := ?_) rfl (by kernel_rfl) (by kernel_rfl) (by kernel_rfl) (fun _ _ _ h => h) (Or.inl ⟨by rfl, ?_⟩) (by assumption) ?_
          rotate_left
          · first | (intro w hSw; (try dsimp only at hSw); go_simp; done) | (intro w hSw; (try dsimp only at hSw); go_simp; with_reducible rfl)
          (try simp only [Act.put, List.setIfInBounds_toArray, List.set_cons_zero, List.set_cons_succ])
          refine wpAnyH_ready (rs := [5, 9]) (by kernel_rfl) (by simp) ?_
          refine consM rfl (fun Kq hKq => ?_) (consH rfl (fun Kq hKq => ?_))
          · go_simp
            refine hKq.out _ _ ?_ (fun hHeld1 => ?_)
            · (try dsimp only); first | exact keepC2 (by assumption) d0 d1 | exact keepC2 hK7.out.drew d0 d1 | exact keepC2 (KeepR.set (by assumption) hg5 _) d0 d1 | exact keepC2 (KeepR.set (by assumption : KeepR u0 _ ∧ _).1 hg5 _) d0 d1 | exact keepC2 (KeepR.set (by assumption : KeepR u0 _ ∧ _).1 hg5 _).drew d0 d1
            clear hKq Kq
            (try simp only [Act.put, List.setIfInBounds_toArray, List.set_cons_zero, List.set_cons_succ])
            clear hHeld0
            refine wpAnyH_ready (rs := [9]) (by kernel_rfl) (by simp) ?_
            refine consH rfl (fun Kq hKq => ?_)
            go_simp
            (first
                | (go_at_call 69; refine (Hcall.out _ (by assumption : KeepR u0 _ ∧ _).1 (Hset.out.below (Below.refl _ _).drew).ints).mono ?_; rintro e w7 ⟨rfl, hb7⟩
                   have hk7 := KeepR.next hb7 (by assumption : KeepR u0 _ ∧ _).1
                   have hO7 := (Hset.out.below (Below.refl _ _).drew).below hb7
                   have hI7' := (hI7.out.below (Below.refl _ _).drew).below hb7
                   have xO7 := hO7.cell (i := K) (by rw [List.length_set, Hlen.out]; omega)
                   rw [nth_set (by rw [Hlen.out]; omega), if_pos rfl] at xO7
                   have xF7 := hO7.free (by rw [List.length_set, Hlen.out]) K)
                | (go_at_call 74; refine (spec_l1Most _ _ _).mono ?_; rintro e w' ⟨rfl, rfl⟩))
            refine hKq.out _ _ ?_ (fun hHeld2 => ?_)
            · (try dsimp only); first | exact keepC2 (by assumption) d0 d1 | exact keepC2 hK7.out.drew d0 d1 | exact keepC2 (KeepR.set (by assumption) hg5 _) d0 d1 | exact keepC2 (KeepR.set (by assumption : KeepR u0 _ ∧ _).1 hg5 _) d0 d1 | exact keepC2 (KeepR.set (by assumption : KeepR u0 _ ∧ _).1 hg5 _).drew d0 d1
            clear hKq Kq
            (try simp only [Act.put, List.setIfInBounds_toArray, List.set_cons_zero, List.set_cons_succ])
            clear hHeld1
            refine wpAnyH_ready (rs := [10]) (by kernel_rfl) (by simp) ?_
            refine consH rfl (fun Kq hKq => ?_)
            go_simp
            (first
                | (go_at_call 69; refine (Hcall.out _ (by assumption : KeepR u0 _ ∧ _).1 (Hset.out.below (Below.refl _ _).drew).ints).mono ?_; rintro e w7 ⟨rfl, hb7⟩
                   have hk7 := KeepR.next hb7 (by assumption : KeepR u0 _ ∧ _).1
                   have hO7 := (Hset.out.below (Below.refl _ _).drew).below hb7
                   have hI7' := (hI7.out.below (Below.refl _ _).drew).below hb7
                   have xO7 := hO7.cell (i := K) (by rw [List.length_set, Hlen.out]; omega)
                   rw [nth_set (by rw [Hlen.out]; omega), if_pos rfl] at xO7
                   have xF7 := hO7.free (by rw [List.length_set, Hlen.out]) K)
                | (go_at_call 74; refine (spec_l1Most _ _ _).mono ?_; rintro e w' ⟨rfl, rfl⟩))
            refine hKq.out _ _ ?_ (fun hHeld3 => ?_)
            · (try dsimp only); first | exact keepC2 (by assumption) d0 d1 | exact keepC2 hK7.out.drew d0 d1 | exact keepC2 (KeepR.set (by assumption) hg5 _) d0 d1 | exact keepC2 (KeepR.set (by assumption : KeepR u0 _ ∧ _).1 hg5 _) d0 d1 | exact keepC2 (KeepR.set (by assumption : KeepR u0 _ ∧ _).1 hg5 _).drew d0 d1
            clear hKq Kq
            (try simp only [Act.put, List.setIfInBounds_toArray, List.set_cons_zero, List.set_cons_succ])
            clear hHeld2
            refine takeH (i := 11) (oi := _) (v := ?_) rfl (by kernel_rfl) (by kernel_rfl) (by kernel_rfl) (fun _ _ _ h => h) (Or.inl ⟨by rfl, ?_⟩) (by assumption) ?_
            rotate_left
            · first | (intro w hSw; (try dsimp only at hSw); go_simp; done) | (intro w hSw; (try dsimp only at hSw); go_simp; with_reducible rfl)
            (try simp only [Act.put, List.setIfInBounds_toArray, List.set_cons_zero, List.set_cons_succ])
            refine wpAnyH_ready (rs := [12]) (by kernel_rfl) (by simp) ?_
            refine consH rfl (fun Kq hKq => ?_)
            go_simp
            refine hKq.out _ _ ?_ (fun hHeld4 => ?_)
            · (try dsimp only); first | exact keepC2 (by assumption) d0 d1 | exact keepC2 hK7.out.drew d0 d1 | exact keepC2 (KeepR.set (by assumption) hg5 _) d0 d1 | exact keepC2 (KeepR.set (by assumption : KeepR u0 _ ∧ _).1 hg5 _) d0 d1 | exact keepC2 (KeepR.set (by assumption : KeepR u0 _ ∧ _).1 hg5 _).drew d0 d1
            clear hKq Kq
            (try simp only [Act.put, List.setIfInBounds_toArray, List.set_cons_zero, List.set_cons_succ])
            clear hHeld3
            refine wpAnyH_done (by kernel_rfl) ?_ _
            refine NoPanic.normal ?_
            go_wp2_with fail
            go_roundw
            all_goals first
              | (have hset8 := Own.set (w := w7) hO7 (by rw [List.length_set, Hlen.out]) K (most (sv * lv) ov)
                 rw [List.set_set, most_eq, ← Hv.out, ← Hsucc.out] at hset8
                 rw [most_eq, ← Hv.out]
                 exact ⟨K, by omega, (K : Int) - 1, by omega, rfl, hset8, ints_far hI7' Hne.out _, KeepR.set hk7 hg5 _⟩)
              | (simp [intOf] <;> omega)
          · go_simp
            (first
                | (go_at_call 69; refine (Hcall.out _ (by assumption : KeepR u0 _ ∧ _).1 (Hset.out.below (Below.refl _ _).drew).ints).mono ?_; rintro e w7 ⟨rfl, hb7⟩
                   have hk7 := KeepR.next hb7 (by assumption : KeepR u0 _ ∧ _).1
                   have hO7 := (Hset.out.below (Below.refl _ _).drew).below hb7
                   have hI7' := (hI7.out.below (Below.refl _ _).drew).below hb7
                   have xO7 := hO7.cell (i := K) (by rw [List.length_set, Hlen.out]; omega)
                   rw [nth_set (by rw [Hlen.out]; omega), if_pos rfl] at xO7
                   have xF7 := hO7.free (by rw [List.length_set, Hlen.out]) K)
                | (go_at_call 74; refine (spec_l1Most _ _ _).mono ?_; rintro e w' ⟨rfl, rfl⟩))
            refine hKq.out _ _ ?_ (fun hHeld1 => ?_)
            · (try dsimp only); first | exact keepC2 (by assumption) d0 d1 | exact keepC2 hK7.out.drew d0 d1 | exact keepC2 (KeepR.set (by assumption) hg5 _) d0 d1 | exact keepC2 (KeepR.set (by assumption : KeepR u0 _ ∧ _).1 hg5 _) d0 d1 | exact keepC2 (KeepR.set (by assumption : KeepR u0 _ ∧ _).1 hg5 _).drew d0 d1
            clear hKq Kq
            (try simp only [Act.put, List.setIfInBounds_toArray, List.set_cons_zero, List.set_cons_succ])
            clear hHeld0
            refine wpAnyH_ready (rs := [5]) (by kernel_rfl) (by simp) ?_
            refine consH rfl (fun Kq hKq => ?_)
            go_simp
            refine hKq.out _ _ ?_ (fun hHeld2 => ?_)
            · (try dsimp only); first | exact keepC2 (by assumption) d0 d1 | exact keepC2 hK7.out.drew d0 d1 | exact keepC2 (KeepR.set (by assumption) hg5 _) d0 d1 | exact keepC2 (KeepR.set (by assumption : KeepR u0 _ ∧ _).1 hg5 _) d0 d1 | exact keepC2 (KeepR.set (by assumption : KeepR u0 _ ∧ _).1 hg5 _).drew d0 d1
            clear hKq Kq
            (try simp only [Act.put, List.setIfInBounds_toArray, List.set_cons_zero, List.set_cons_succ])
            clear hHeld1
            refine wpAnyH_ready (rs := [10]) (by kernel_rfl) (by simp) ?_
            refine consH rfl (fun Kq hKq => ?_)
            go_simp
            (first
                | (go_at_call 69; refine (Hcall.out _ (by assumption : KeepR u0 _ ∧ _).1 (Hset.out.below (Below.refl _ _).drew).ints).mono ?_; rintro e w7 ⟨rfl, hb7⟩
                   have hk7 := KeepR.next hb7 (by assumption : KeepR u0 _ ∧ _).1
                   have hO7 := (Hset.out.below (Below.refl _ _).drew).below hb7
                   have hI7' := (hI7.out.below (Below.refl _ _).drew).below hb7
                   have xO7 := hO7.cell (i := K) (by rw [List.length_set, Hlen.out]; omega)
                   rw [nth_set (by rw [Hlen.out]; omega), if_pos rfl] at xO7
                   have xF7 := hO7.free (by rw [List.length_set, Hlen.out]) K)
                | (go_at_call 74; refine (spec_l1Most _ _ _).mono ?_; rintro e w' ⟨rfl, rfl⟩))
            refine hKq.out _ _ ?_ (fun hHeld3 => ?_)
            · (try dsimp only); first | exact keepC2 (by assumption) d0 d1 | exact keepC2 hK7.out.drew d0 d1 | exact keepC2 (KeepR.set (by assumption) hg5 _) d0 d1 | exact keepC2 (KeepR.set (by assumption : KeepR u0 _ ∧ _).1 hg5 _) d0 d1 | exact keepC2 (KeepR.set (by assumption : KeepR u0 _ ∧ _).1 hg5 _).drew d0 d1
            clear hKq Kq
            (try simp only [Act.put, List.setIfInBounds_toArray, List.set_cons_zero, List.set_cons_succ])
            clear hHeld2
            refine takeH (i := 11) (oi := _) (v := ?_) rfl (by kernel_rfl) (by kernel_rfl) (by kernel_rfl) (fun _ _ _ h => h) (Or.inl ⟨by rfl, ?_⟩) (by assumption) ?_
            rotate_left
            · first | (intro w hSw; (try dsimp only at hSw); go_simp; done) | (intro w hSw; (try dsimp only at hSw); go_simp; with_reducible rfl)
            (try simp only [Act.put, List.setIfInBounds_toArray, List.set_cons_zero, List.set_cons_succ])
            refine wpAnyH_ready (rs := [12]) (by kernel_rfl) (by simp) ?_
            refine consH rfl (fun Kq hKq => ?_)
            go_simp
            refine hKq.out _ _ ?_ (fun hHeld4 => ?_)
            · (try dsimp only); first | exact keepC2 (by assumption) d0 d1 | exact keepC2 hK7.out.drew d0 d1 | exact keepC2 (KeepR.set (by assumption) hg5 _) d0 d1 | exact keepC2 (KeepR.set (by assumption : KeepR u0 _ ∧ _).1 hg5 _) d0 d1 | exact keepC2 (KeepR.set (by assumption : KeepR u0 _ ∧ _).1 hg5 _).drew d0 d1
            clear hKq Kq
            (try simp only [Act.put, List.setIfInBounds_toArray, List.set_cons_zero, List.set_cons_succ])
            clear hHeld3
            refine wpAnyH_done (by kernel_rfl) ?_ _
            refine NoPanic.normal ?_
            go_wp2_with fail
            go_roundw
            all_goals first
              | (have hset8 := Own.set (w := w7) hO7 (by rw [List.length_set, Hlen.out]) K (most (sv * lv) ov)
                 rw [List.set_set, most_eq, ← Hv.out, ← Hsucc.out] at hset8
                 rw [most_eq, ← Hv.out]
                 exact ⟨K, by omega, (K : Int) - 1, by omega, rfl, hset8, ints_far hI7' Hne.out _, KeepR.set hk7 hg5 _⟩)
              | (simp [intOf] <;> omega)
        · rw [he] at hwz
          have hwz2 : (uv == 0) = false := hwz
          have Hv : Hid (nth (capW ps ws l) K = sv * lv) := Lib.hid (by rw [Hval.out, he]; rfl)
          clear he hwz
          go_wp2_with fail
          go_roundw
          case rel => exact ⟨K, by omega, (K : Int) - 1, by omega, rfl, by rw [Hsucc.out, Hv.out]; exact Hset.out, hI7.out, hK7.out⟩
          case measure => simp [intOf] <;> omega
      · obtain rfl : k = 0 := by omega
        rw [tailZ_all] at hown
        go_wp2_with fail
        go_ret
        exact ⟨_, rfl, hown.mono hu0, hb1.trans (Below.mono hbel hu0)⟩
end Go.Proofs.Ytjkkfjipgomkdaa
