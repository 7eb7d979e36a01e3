/- Contracts and plain laws for the statement FnStoppedMeans, part 15. No conditions but those stated in each. -/
import Derived.Test.YtnbomleieianoaaGreatBnFnStoppedMeans9
import Derived.Test.YtnbomleieianoaaGreatBnFnStoppedMeans4
import Derived.Deep.DeepCutAuto
import Derived.Deep.Cut
import Derived.Test.YtnbomleieianoaaGreatBnFnStoppedMeans12
import Derived.Test.YtnbomleieianoaaGreatBnFnStoppedMeans1
import Derived.Test.YtnbomleieianoaaGreatBnFnStoppedMeans5
/- Contracts: the places of a stopping's nodes over the ends, two stoppings merged, by the program. -/
namespace Go.Proofs.YtnbomleieianoaaGreat
open Go.RowKit

/-- Where the node of a stopping on the way to an end stands in the list. -/
def ovI (ps nodes : List Int) (e : Int) : Int := idxI nodes (stop ps (hasB nodes) e.toNat)
theorem nth_map {xs : List Int} {f : Int → Int} {i : Nat} (h : i < xs.length) : nth (xs.map f) i = f (nth xs i) := by
  rw [nth_lt (by simpa using h), nth_lt h]; simp
theorem ov_at {ps nodes : List Int} (h : stopB ps nodes = true) (hp : Pa ps) {e : Nat} (he : e < ps.length) (he2 : endB ps e = true) : ∃ i : Nat, i < nodes.length ∧ ovI ps nodes (e : Int) = (i : Int) ∧ nth nodes i = stop ps (hasB nodes) e := by
  obtain ⟨s, _, hs2, hs3, _⟩ := sole_mem h hp he he2
  rw [ovI, Int.toNat_natCast, hs2]
  have : idxI nodes (s : Int) = -1 ∨ ∃ i : Nat, i < nodes.length ∧ nth nodes i = (s : Int) ∧ idxI nodes (s : Int) = (i : Int) := idx_cases nodes s
  rcases this with h1 | ⟨i, hi, h2, h3⟩
  · obtain ⟨i, hi, hie⟩ := hasB_mem hs3
    exact absurd h1 (idx_pos hi hie)
  · exact ⟨i, hi, h3, h2⟩
theorem mem_wayI {ps : List Int} {x : Nat} {rest : List Int} {e : Nat} (hp : Pa ps) (hx : x < ps.length) (h : way ps e = wayI ps (x : Int) ++ rest) : (x : Int) ∈ way ps e := by
  rw [h, wayI_up hp hx]; simp
theorem ov_hit {ps nodes : List Int} (h : stopB ps nodes = true) (hp : Pa ps) {e x : Nat} (he : e < ps.length) (he2 : endB ps e = true) (hx : x < ps.length) {rest : List Int} (hw : way ps e = wayI ps (x : Int) ++ rest) (hh : hasB nodes (x : Int) = true) : idxI nodes (x : Int) = ovI ps nodes (e : Int) ∧ 0 ≤ ovI ps nodes (e : Int) := by
  have h1 := sole_one h he he2 (mem_wayI hp hx hw) hh
  obtain ⟨i, _, h3, _⟩ := ov_at h hp he he2
  refine ⟨by rw [ovI, Int.toNat_natCast, ← h1], by omega⟩
theorem ov_miss {nodes : List Int} {y : Int} (hh : hasB nodes y = false) : idxI nodes y = -1 := idx_no fun i hi e => by rw [has_t hi e] at hh; cases hh
theorem ov_end {ps nodes : List Int} (h : stopB ps nodes = true) (hp : Pa ps) {e : Nat} (he : e < ps.length) (he2 : endB ps e = true) (hno : ∀ y, y ∈ way ps e → hasB nodes y = false) : False := by
  obtain ⟨s, _, _, h3, h4⟩ := sole_mem h hp he he2
  rw [hno _ h4] at h3; cases h3
set_option maxRecDepth 100000 in
set_option maxHeartbeats 1000000 in
theorem impl_over (aP : Option Addr) (nP cP : Nat) (aW : Option Addr) (nW cW : Nat) (ps ws : List Int) (aR : Option Addr) (nR cR : Nat) (rule : List Int) (w : World) (h : Tre w aP nP cP aW nW cW ps ws) (hp : Pa ps) (hR : Ints w aR nR rule) (hn : nR ≤ 1048576) (hst : stopB ps rule = true) :
    Calls Tryz.prog 140 #[.agg #[.slice aP nP cP, .slice aW nW cW], .slice aR nR cR] w fun e w' => ∃ v, e = .returned v ∧ Own w' w.heap.size v ((ends ps).map (ovI ps rule)) ∧ Below w.heap.size w w' := by
  have Hp := Lib.hid hp
  have Hst := Lib.hid hst
  have hn24 := hp.n24
  have hl := h.p.1
  have hlw := h.w.1
  have hpn := h.pn
  have hwn := h.wn
  have hb1 := below_new w (.cells #[.slice aP nP cP, .slice aW nW cW] 26)
  have hP1 := Lib.hid (Pair.new w (.slice aP nP cP) (.slice aW nW cW) 26)
  have H := Lib.hid h
  have Hl := Lib.hid hl
  have Hlw := Lib.hid hlw
  clear h hl hlw
  have hnP : nP ≤ 24 := by have := Hl.out; omega
  have HR := Lib.hid hR
  have Hrl := Lib.hid hR.1
  clear hp hn24 hR hst
  go_enter Tryz.func140, Tryz.ntmps140
  go_wp2_with fail
  have hnil := own_nil0 (w.alloc (.cells #[.slice aP nP cP, .slice aW nW cW] 26))
  rw [show (w.alloc (.cells #[.slice aP nP cP, .slice aW nW cW] 26)).heap.size = w.heap.size + 1 by simp] at hnil
  have hb2 : Below w.heap.size w ((w.alloc (.cells #[.slice aP nP cP, .slice aW nW cW] 26)).alloc (.cells #[] 3)) := hb1.alloc (by simp) _
  have hP2 := Lib.hid (hP1.out.alloc (.cells #[] 3))
  have hs2 : ((w.alloc (.cells #[.slice aP nP cP, .slice aW nW cW] 26)).alloc (.cells #[] 3)).heap.size = w.heap.size + 2 := by simp
  have c0 := hP2.out.c0
  have c1 := hP2.out.c1
  generalize ((w.alloc (.cells #[.slice aP nP cP, .slice aW nW cW] 26)).alloc (.cells #[] 3)) = w2 at *
  clear hP1 hb1
  go_wp2_with fail
  refine (impl_ends _ _ _ _ _ _ ps ws _ (H.out.below hb2) Hp.out).mono ?_
  rintro e w3 ⟨v, rfl, ho, hb3⟩
  obtain ⟨a3, c3, rfl⟩ := ho.shape
  have HE := Lib.hid ho.ints
  have HP3 := Lib.hid (hP2.out.below hb3)
  have hown0 := Lib.hid (hnil.below hb3)
  have hb13 := hb2.trans (hb3.mono hb2.size)
  have hel : (ends ps).length ≤ 24 := by have := filt_length (endB ps) ps.length; have := Hl.out; rw [ends]; omega
  have hap0 : Hid (0 < (ends ps).length → Apart a3 (Value.slice (some ⟨w.heap.size + 1, 0, none⟩) 0 0)) := Lib.hid fun h0 p hp e => by
    obtain ⟨g, cap, he, hg, _⟩ := ho.form h0
    cases he
    cases hp
    simp [Value.ownBlock] at e
    omega
  clear ho hnil hb3 hb2 hP2 hs2 c0 c1
  have Hen : Hid (∀ i, i < (ends ps).length → ∃ e : Nat, e < nP ∧ endB ps e = true ∧ nth (ends ps) i = (e : Int)) := Lib.hid fun i hi => by
    obtain ⟨e, h1, h2, h3⟩ := end_nth hi
    exact ⟨e, by have := Hl.out; omega, h2, h3⟩
  generalize hes : ends ps = es at *
  have Hes := Lib.hid hes
  clear hes
  go_wp2_with fail
  go_loopw [5, 14] (fun v5 v14 wr => ∃ k : Nat, k ≤ es.length ∧ v14 = .int .i64 (k : Int) ∧ Own wr (w.heap.size + 1) v5 ((es.take k).map (ovI ps rule)) ∧ Ints wr a3 es.length es ∧ (0 < es.length → Apart a3 v5) ∧ Pair wr w.heap.size (.slice aP nP cP) (.slice aW nW cW) ∧ Below w.heap.size w wr) (fun _ v14 _ => es.length - (intOf v14).toNat)
  case atStart => exact ⟨0, Nat.zero_le _, rfl, by simpa using hown0.out, HE.out, hap0.out, HP3.out, hb13⟩
  case round =>
    clear hb13 hown0 HE hap0 HP3
    obtain ⟨k, hk, rfl, hown, hE, hap, hP, hbel⟩ := hrel
    have HE := Lib.hid hE
    have Hap := Lib.hid hap
    have HP := Lib.hid hP
    have hsz : w.heap.size + 1 ≤ wr.heap.size := hP.lt
    have x0 := hP.c0
    have x1 := hP.c1
    clear hE hap hP
    by_cases hlt : (k : Int) < es.length
    · obtain ⟨be, oe, rfl, hce⟩ := HE.out.at (i := k) (Below.refl _ _) (by omega)
      obtain ⟨e, he, he2, hei⟩ := Hen.out k (by omega)
      rw [hei] at hce
      have hlen : ((es.take k).map (ovI ps rule)).length ≤ 24 := by rw [List.length_map, List.length_take]; omega
      have Hf : Hid ((es.take (k + 1)).map (ovI ps rule) = (es.take k).map (ovI ps rule) ++ [ovI ps rule (e : Int)]) := Lib.hid (by rw [take_succ_nth (by omega), List.map_append, hei]; rfl)
      have he' : e < ps.length := by have := Hl.out; omega
      have HcI : Hid (∀ y : Int, Calls Tryz.prog 136 #[.slice aR nR cR, .int .i64 y] wr fun e1 w' => e1 = .returned (.int .i64 (idxI rule y)) ∧ w' = wr) := Lib.hid fun y => c_index _ _ _ rule y _ (HR.out.below hbel) hn
      have Hhit : Hid (∀ (x : Nat) (rest : List Int), x < nP → way ps e = wayI ps (x : Int) ++ rest → hasB rule (x : Int) = true → idxI rule (x : Int) = ovI ps rule (e : Int) ∧ 0 ≤ ovI ps rule (e : Int)) := Lib.hid fun x rest hx hw hh => ov_hit Hst.out Hp.out he' he2 (by have := Hl.out; omega) hw hh
      have Hmiss : Hid ((∀ y, y ∈ way ps e → hasB rule y = false) → False) := Lib.hid fun hno => ov_end Hst.out Hp.out he' he2 hno
      have Hov : Hid (∃ i : Nat, i < nR ∧ ovI ps rule (e : Int) = (i : Int)) := Lib.hid (by obtain ⟨i, h1, h2, _⟩ := ov_at Hst.out Hp.out he' he2; exact ⟨i, by have := Hrl.out; omega, h2⟩)
      clear he2 hei
      generalize ovI ps rule (e : Int) = ov at *
      generalize (es.take k).map (ovI ps rule) = acc at *
      go_wp2_with fail
      go_loop [8, 9] (fun v7 v8 => ∃ x a : Int, -1 ≤ x ∧ x < nP ∧ v8 = .int .i64 x ∧ v7 = .int .i64 a ∧ ((a = -1 ∧ ∃ rest, way ps e = wayI ps x ++ rest ∧ ∀ y, y ∈ rest → hasB rule y = false) ∨ (a = ov ∧ 0 ≤ a))) (fun _ v8 => (intOf v8 + 1).toNat)
      case atStart => exact ⟨e, -1, by omega, by omega, rfl, rfl, .inl ⟨rfl, [], by rw [wayI_nat]; simp, fun y hy => by simp at hy⟩⟩
      case round =>
        obtain ⟨x, a, hx0, hxn, rfl, rfl, hdis⟩ := hrel
        by_cases hx : x ≥ 0
        · obtain ⟨X, rfl⟩ : ∃ X : Nat, x = X := ⟨x.toNat, by omega⟩
          obtain ⟨bp, op, rfl, hcp⟩ := H.out.p.at (i := X) hbel (by omega)
          by_cases ha : a < 0
          · obtain ⟨rest, hway, hrest⟩ : ∃ rest, way ps e = wayI ps (X : Int) ++ rest ∧ ∀ y, y ∈ rest → hasB rule y = false := by
              rcases hdis with ⟨_, h1⟩ | ⟨_, h2⟩
              · exact h1
              · omega
            have hXl : X < ps.length := by have := Hl.out; omega
            have Hup := Lib.hid (wayI_up Hp.out hXl)
            have hpar : -1 ≤ nth ps X ∧ nth ps X < (X : Int) := by
              rcases Nat.eq_zero_or_pos X with rfl | h0
              · rw [Hp.out.p0]; omega
              · have := Hp.out.up X (by omega) hXl; omega
            have Hway := Lib.hid hway
            have Hrest := Lib.hid hrest
            clear hdis hway hrest
            generalize hq0 : nth ps X = q at *
            have hq := Lib.hid hq0
            clear hq0
            cases hh : hasB rule (X : Int)
            · have Hm := Lib.hid (ov_miss hh)
              have Hh := Lib.hid hh
              have HcX : Hid (Calls Tryz.prog 136 #[.slice aR nR cR, .int .i64 (X : Int)] wr fun e1 w' => e1 = .returned (.int .i64 (-1)) ∧ w' = wr) := Lib.hid (by rw [← Hm.out]; exact HcI.out _)
              clear hh
              go_wp2_with (go_at_call 136; refine HcX.out.mono ?_; rintro e1 w' ⟨rfl, rfl⟩)
              go_round
              case rel => exact ⟨q, -1, by omega, by omega, rfl, rfl, .inl ⟨rfl, (X : Int) :: rest, by rw [Hway.out, Hup.out]; simp, fun y hy => by
                rw [List.mem_cons] at hy
                rcases hy with rfl | hy
                · exact Hh.out
                · exact Hrest.out y hy⟩⟩
              case measure => simp [intOf]; omega
            · obtain ⟨hi1, hi2⟩ := Hhit.out X rest (by omega) Hway.out hh
              have HcX : Hid (Calls Tryz.prog 136 #[.slice aR nR cR, .int .i64 (X : Int)] wr fun e1 w' => e1 = .returned (.int .i64 ov) ∧ w' = wr) := Lib.hid (by rw [← hi1]; exact HcI.out _)
              clear hh hi1
              go_wp2_with (go_at_call 136; refine HcX.out.mono ?_; rintro e1 w' ⟨rfl, rfl⟩)
              go_round
              case rel => exact ⟨q, ov, by omega, by omega, rfl, rfl, .inr ⟨rfl, hi2⟩⟩
              case measure => simp [intOf]; omega
          · obtain ⟨rfl, _⟩ : a = ov ∧ 0 ≤ a := by
              rcases hdis with ⟨h1, _⟩ | h2
              · omega
              · exact h2
            clear hdis
            go_wp2_with (at_builtin; refine wp_push2 (.tmp 33) (.tmp 35) rfl rfl (w.heap.size + 1) _ _ rfl hown rfl (by omega) hsz ?_; intro v' w' ho hb hm)
            have hE2 := HE.out.moved hm Hap.out
            go_roundw
            case rel => exact ⟨k + 1, by omega, by go_num, by rw [Hf.out]; exact ho, hE2.1, hE2.2, HP.out.up hb (by omega), hbel.trans (hb.mono (by omega))⟩
            case measure => simp [intOf]; omega
        · obtain rfl : x = -1 := by omega
          obtain ⟨rfl, hov0⟩ : a = ov ∧ 0 ≤ a := by
            rcases hdis with ⟨_, rest, h1, h2⟩ | h2
            · exact (Hmiss.out fun y hy => by
                rw [h1] at hy
                simp [wayI] at hy
                exact h2 y hy).elim
            · exact h2
          clear hdis
          go_wp2_with (at_builtin; refine wp_push2 (.tmp 33) (.tmp 35) rfl rfl (w.heap.size + 1) _ _ rfl hown rfl (by omega) hsz ?_; intro v' w' ho hb hm)
          have hE2 := HE.out.moved hm Hap.out
          go_roundw
          case rel => exact ⟨k + 1, by omega, by go_num, by rw [Hf.out]; exact ho, hE2.1, hE2.2, HP.out.up hb (by omega), hbel.trans (hb.mono (by omega))⟩
          case measure => simp [intOf]; omega
    · obtain rfl : k = es.length := by omega
      go_wp2_with fail
      go_ret
      exact ⟨_, rfl, by rw [Hes.out]; rw [List.take_length] at hown; exact hown.mono (Nat.le_succ _), hbel⟩
/-- A new empty slice and two lists of places, just made, apart from it. -/
def MergeR (u wc : World) (n : Nat) (f g : List Int) (v5 v6 v7 : Value) : Prop :=
  KeepR u wc ∧ ∃ (g5 : Nat) (a6 : Option Addr) (c6 : Nat) (a7 : Option Addr) (c7 : Nat), v5 = .slice (some ⟨g5, 0, none⟩) 0 0 ∧ v6 = .slice a6 n c6 ∧ v7 = .slice a7 n c7 ∧ Own wc u.heap.size v5 [] ∧ Ints wc a6 n f ∧ Ints wc a7 n g ∧ (0 < n → Apart a6 v5) ∧ (0 < n → Apart a7 v5)
theorem own_apart {w : World} {base g : Nat} {a : Option Addr} {n c : Nat} {xs : List Int} (h : Own w base (.slice a n c) xs) (hn : xs.length = n) (hg : ∀ q, (Value.slice a n c).ownBlock = some q → q ≠ g) : 0 < n → Apart a (.slice (some ⟨g, 0, none⟩) 0 0) := fun h0 p hp e => by
  obtain ⟨q, cap, he, _, _⟩ := h.form (by omega)
  cases he
  cases hp
  simp [Value.ownBlock] at e
  exact hg q rfl e.symm
theorem merge_mk {u wc : World} {n : Nat} {f g : List Int} {v6 v7 : Value} {b5 b6 b7 g5 : Nat} (hk : KeepR u wc) (hf : f.length = n) (hg : g.length = n) (h5 : Own wc b5 (.slice (some ⟨g5, 0, none⟩) 0 0) []) (hb : u.heap.size ≤ b5) (h6 : Own wc b6 v6 f) (h7 : Own wc b7 v7 g)
    (s6 : ∀ q, v6.ownBlock = some q → q ≠ g5) (s7 : ∀ q, v7.ownBlock = some q → q ≠ g5) : MergeR u wc n f g (.slice (some ⟨g5, 0, none⟩) 0 0) v6 v7 := by
  obtain ⟨a6, c6, rfl⟩ := h6.shape
  obtain ⟨a7, c7, rfl⟩ := h7.shape
  rw [hf] at h6 s6 ⊢
  rw [hg] at h7 s7 ⊢
  exact ⟨hk, g5, a6, c6, a7, c7, rfl, rfl, rfl, h5.mono hb, h6.ints, h7.ints, own_apart h6 hf s6, own_apart h7 hg s7⟩
set_option maxRecDepth 100000 in
set_option maxHeartbeats 1000000 in
theorem impl_merged (aP : Option Addr) (nP cP : Nat) (aW : Option Addr) (nW cW : Nat) (ps ws : List Int) (a1 : Option Addr) (n1 cA : Nat) (a : List Int) (a2 : Option Addr) (n2 cB : Nat) (b : List Int) (early : Bool) (w : World) (h : Tre w aP nP cP aW nW cW ps ws) (hp : Pa ps) (h1 : Ints w a1 n1 a) (h2 : Ints w a2 n2 b) (hn1 : n1 ≤ 1048576) (hn2 : n2 ≤ 1048576) (ha : stopB ps a = true) (hb : stopB ps b = true) :
    Calls Tryz.prog 83 #[.agg #[.slice aP nP cP, .slice aW nW cW], .slice a1 n1 cA, .slice a2 n2 cB, .bool early] w fun e w' => ∃ v, e = .returned v ∧ Own w' w.heap.size v (mergeV ps a b early) ∧ Below w.heap.size w w' := by
  have Hp := Lib.hid hp
  have Ha := Lib.hid ha
  have Hb := Lib.hid hb
  have hn24 := hp.n24
  have hl := h.p.1
  have hlw := h.w.1
  have hpn := h.pn
  have hwn := h.wn
  have hb1 := below_new w (.cells #[.slice aP nP cP, .slice aW nW cW] 26)
  have hP1 := Lib.hid (Pair.new w (.slice aP nP cP) (.slice aW nW cW) 26)
  have H := Lib.hid h
  have Hl := Lib.hid hl
  have Hlw := Lib.hid hlw
  clear h hl hlw
  have hnP : nP ≤ 24 := by have := Hl.out; omega
  have H1 := Lib.hid h1
  have H2 := Lib.hid h2
  clear hp hn24 h1 h2 ha hb
  have Hml : Hid (∀ r, ((ends ps).map (ovI ps r)).length = (ends ps).length) := Lib.hid fun r => List.length_map _
  have hel : (ends ps).length ≤ 24 := by have := filt_length (endB ps) ps.length; have := Hl.out; rw [ends]; omega
  go_enter Tryz.func83, Tryz.ntmps83
  have c0 := hP1.out.c0
  have c1 := hP1.out.c1
  go_upto_region 1 with fail
  generalize (w.alloc (.cells #[.slice aP nP cP, .slice aW nW cW] 26)) = w2 at *
  go_cut [9, 10, 11] (fun v9 v10 v11 wc => MergeR w2 wc (ends ps).length ((ends ps).map (ovI ps a)) ((ends ps).map (ovI ps b)) v9 v10 v11)
  case first =>
    refine wp_region_noPanic ?_
    refine wp_region_held_drew (S := fun W' => KeepR w2 W' ∧ W'.cell? ⟨w.heap.size, 0, none⟩ = some (.slice aP nP cP) ∧ W'.cell? ⟨w.heap.size, 1, none⟩ = some (.slice aW nW cW)) (by kernel_rfl) ?_ (fun hHeld0 => ?_)
    · (try dsimp only); first | exact keep2 (by assumption) hP1.out | exact keep2 (KeepR.alloc0 _ _) hP1.out | exact keep2 (KeepR.start _) hP1.out | exact keep2 (KeepR.alloc (by assumption : KeepR w2 _ ∧ _).1 _) hP1.out | exact keep2 (KeepR.alloc (by assumption : KeepR w2 _ ∧ _).1 _).drew hP1.out
    refine takeH (i := 1) (oi := _) (v := ?_) rfl (by kernel_rfl) (by kernel_rfl) (by kernel_rfl) (fun _ _ _ h => h) (Or.inl ⟨by rfl, ?_⟩) (by assumption) ?_
    rotate_left
    · first | (intro w hSw; (try dsimp only at hSw); go_simp; done) | (intro w hSw; (try dsimp only at hSw); go_simp; with_reducible rfl)
    (try simp only [Act.put, List.setIfInBounds_toArray, List.set_cons_zero, List.set_cons_succ])
    refine takeH (i := 2) (oi := _) (v := ?_) rfl (by kernel_rfl) (by kernel_rfl) (by kernel_rfl) (fun _ _ _ h => h) (Or.inl ⟨by rfl, ?_⟩) (by assumption) ?_
    rotate_left
    · first | (intro w hSw; (try dsimp only at hSw); go_simp; done) | (intro w hSw; (try dsimp only at hSw); go_simp; with_reducible rfl)
    (try simp only [Act.put, List.setIfInBounds_toArray, List.set_cons_zero, List.set_cons_succ])
    refine takeH (i := 4) (oi := _) (v := ?_) rfl (by kernel_rfl) (by kernel_rfl) (by kernel_rfl) (fun _ _ _ h => h) (Or.inl ⟨by rfl, ?_⟩) (by assumption) ?_
    rotate_left
    · first | (intro w hSw; (try dsimp only at hSw); go_simp; done) | (intro w hSw; (try dsimp only at hSw); go_simp; with_reducible rfl)
    (try simp only [Act.put, List.setIfInBounds_toArray, List.set_cons_zero, List.set_cons_succ])
    refine takeH (i := 5) (oi := _) (v := ?_) rfl (by kernel_rfl) (by kernel_rfl) (by kernel_rfl) (fun _ _ _ h => h) (Or.inl ⟨by rfl, ?_⟩) (by assumption) ?_
    rotate_left
    · first | (intro w hSw; (try dsimp only at hSw); go_simp; done) | (intro w hSw; (try dsimp only at hSw); go_simp; with_reducible rfl)
    (try simp only [Act.put, List.setIfInBounds_toArray, List.set_cons_zero, List.set_cons_succ])
    refine wpAnyH_ready (rs := [0, 3]) (by kernel_rfl) (by simp) ?_
    refine consM rfl (fun Kq hKq => ?_) (consH rfl (fun Kq hKq => ?_))
    · go_simp
      refine hKq.out _ _ ?_ (fun hHeld1 => ?_)
      · (try dsimp only); first | exact keep2 (by assumption) hP1.out | exact keep2 (KeepR.alloc0 _ _) hP1.out | exact keep2 (KeepR.start _) hP1.out | exact keep2 (KeepR.alloc (by assumption : KeepR w2 _ ∧ _).1 _) hP1.out | exact keep2 (KeepR.alloc (by assumption : KeepR w2 _ ∧ _).1 _).drew hP1.out
      clear hKq Kq
      (try simp only [Act.put, List.setIfInBounds_toArray, List.set_cons_zero, List.set_cons_succ])
      clear hHeld0
      refine wpAnyH_ready (rs := [3]) (by kernel_rfl) (by simp) ?_
      refine consH rfl (fun Kq hKq => ?_)
      go_simp
      (go_at_call 140; refine (impl_over _ _ _ _ _ _ ps ws a1 n1 cA a _ (H.out.below (hb1.trans (Below.mono (by assumption : KeepR w2 _ ∧ _).1 hb1.size))) Hp.out (H1.out.below (hb1.trans (Below.mono (by assumption : KeepR w2 _ ∧ _).1 hb1.size))) hn1 Ha.out).mono ?_; rintro e w5 ⟨v5, rfl, o5, b5⟩; have hk5 := KeepR.next b5 (by assumption : KeepR w2 _ ∧ _).1)
      refine hKq.out _ _ ?_ (fun hHeld2 => ?_)
      · (try dsimp only); first | exact keep2 (by assumption) hP1.out | exact keep2 (KeepR.alloc0 _ _) hP1.out | exact keep2 (KeepR.start _) hP1.out | exact keep2 (KeepR.alloc (by assumption : KeepR w2 _ ∧ _).1 _) hP1.out | exact keep2 (KeepR.alloc (by assumption : KeepR w2 _ ∧ _).1 _).drew hP1.out
      clear hKq Kq
      (try simp only [Act.put, List.setIfInBounds_toArray, List.set_cons_zero, List.set_cons_succ])
      clear hHeld1
      refine wpAnyH_ready (rs := [6]) (by kernel_rfl) (by simp) ?_
      refine consH rfl (fun Kq hKq => ?_)
      go_simp
      (go_at_call 140; refine (impl_over _ _ _ _ _ _ ps ws a2 n2 cB b _ (H.out.below (hb1.trans (Below.mono (by assumption : KeepR w2 _ ∧ _).1 hb1.size))) Hp.out (H2.out.below (hb1.trans (Below.mono (by assumption : KeepR w2 _ ∧ _).1 hb1.size))) hn2 Hb.out).mono ?_; rintro e w6 ⟨v6, rfl, o6, b6⟩; have hk6 := KeepR.next b6 (by assumption : KeepR w2 _ ∧ _).1)
      refine hKq.out _ _ ?_ (fun hHeld3 => ?_)
      · (try dsimp only); first | exact keep2 (by assumption) hP1.out | exact keep2 (KeepR.alloc0 _ _) hP1.out | exact keep2 (KeepR.start _) hP1.out | exact keep2 (KeepR.alloc (by assumption : KeepR w2 _ ∧ _).1 _) hP1.out | exact keep2 (KeepR.alloc (by assumption : KeepR w2 _ ∧ _).1 _).drew hP1.out
      clear hKq Kq
      (try simp only [Act.put, List.setIfInBounds_toArray, List.set_cons_zero, List.set_cons_succ])
      clear hHeld2
      refine takeH (i := 7) (oi := _) (v := ?_) rfl (by kernel_rfl) (by kernel_rfl) (by kernel_rfl) (fun _ _ _ h => h) (Or.inl ⟨by rfl, ?_⟩) (by assumption) ?_
      rotate_left
      · first | (intro w hSw; (try dsimp only at hSw); go_simp; done) | (intro w hSw; (try dsimp only at hSw); go_simp; with_reducible rfl)
      (try simp only [Act.put, List.setIfInBounds_toArray, List.set_cons_zero, List.set_cons_succ])
      refine takeH (i := 8) (oi := _) (v := ?_) rfl (by kernel_rfl) (by kernel_rfl) (by kernel_rfl) (fun _ _ _ h => h) (Or.inl ⟨by rfl, ?_⟩) (by assumption) ?_
      rotate_left
      · first | (intro w hSw; (try dsimp only at hSw); go_simp; done) | (intro w hSw; (try dsimp only at hSw); go_simp; with_reducible rfl)
      (try simp only [Act.put, List.setIfInBounds_toArray, List.set_cons_zero, List.set_cons_succ])
      refine takeH (i := 9) (oi := _) (v := ?_) rfl (by kernel_rfl) (by kernel_rfl) (by kernel_rfl) (fun _ _ _ h => h) (Or.inl ⟨by rfl, ?_⟩) (by assumption) ?_
      rotate_left
      · first | (intro w hSw; (try dsimp only at hSw); go_simp; done) | (intro w hSw; (try dsimp only at hSw); go_simp; with_reducible rfl)
      (try simp only [Act.put, List.setIfInBounds_toArray, List.set_cons_zero, List.set_cons_succ])
      refine wpAnyH_done (by kernel_rfl) ?_ _
      refine NoPanic.normal ?_
      go_wp2_with fail
      go_meet
      first
        | exact merge_mk hk6 (Hml.out a) (Hml.out b) (((own_nil0 w2).below b5).below b6) (Nat.le_refl _) (o5.below b6) o6 (fun q hq => by have := (World.ownsRow.lt o5 q hq).1; simp at this; omega) (fun q hq => by have := (World.ownsRow.lt o6 q hq).1; have := b5.size; simp at this; omega)
        | exact merge_mk hk6 (Hml.out a) (Hml.out b) ((((own_nil0 w2).below (Below.refl _ _).drew).below b5).below b6) (Nat.le_refl _) (o5.below b6) o6 (fun q hq => by have := (World.ownsRow.lt o5 q hq).1; simp at this; omega) (fun q hq => by have := (World.ownsRow.lt o6 q hq).1; have := b5.size; simp at this; omega)
        | exact merge_mk hk6 (Hml.out a) (Hml.out b) ((own_nil0 w5).below b6) (Below.size hk5) ((o5.below (below_new w5 _)).below b6) o6 (fun q hq => by have := (World.ownsRow.lt o5 q hq).2; omega) (fun q hq => by have := (World.ownsRow.lt o6 q hq).1; simp at this; omega)
        | exact merge_mk (KeepR.alloc hk6 _) (Hml.out a) (Hml.out b) (own_nil0 w6) (Below.size hk6) ((o5.below b6).below (below_new w6 _)) (o6.below (below_new w6 _)) (fun q hq => by have := (World.ownsRow.lt (o5.below b6) q hq).2; omega) (fun q hq => by have := (World.ownsRow.lt o6 q hq).2; omega)
    · go_simp
      (go_at_call 140; refine (impl_over _ _ _ _ _ _ ps ws a1 n1 cA a _ (H.out.below (hb1.trans (Below.mono (by assumption : KeepR w2 _ ∧ _).1 hb1.size))) Hp.out (H1.out.below (hb1.trans (Below.mono (by assumption : KeepR w2 _ ∧ _).1 hb1.size))) hn1 Ha.out).mono ?_; rintro e w5 ⟨v5, rfl, o5, b5⟩; have hk5 := KeepR.next b5 (by assumption : KeepR w2 _ ∧ _).1)
      refine hKq.out _ _ ?_ (fun hHeld1 => ?_)
      · (try dsimp only); first | exact keep2 (by assumption) hP1.out | exact keep2 (KeepR.alloc0 _ _) hP1.out | exact keep2 (KeepR.start _) hP1.out | exact keep2 (KeepR.alloc (by assumption : KeepR w2 _ ∧ _).1 _) hP1.out | exact keep2 (KeepR.alloc (by assumption : KeepR w2 _ ∧ _).1 _).drew hP1.out
      clear hKq Kq
      (try simp only [Act.put, List.setIfInBounds_toArray, List.set_cons_zero, List.set_cons_succ])
      clear hHeld0
      refine wpAnyH_ready (rs := [0, 6]) (by kernel_rfl) (by simp) ?_
      refine consM rfl (fun Kq hKq => ?_) (consH rfl (fun Kq hKq => ?_))
      · go_simp
        refine hKq.out _ _ ?_ (fun hHeld2 => ?_)
        · (try dsimp only); first | exact keep2 (by assumption) hP1.out | exact keep2 (KeepR.alloc0 _ _) hP1.out | exact keep2 (KeepR.start _) hP1.out | exact keep2 (KeepR.alloc (by assumption : KeepR w2 _ ∧ _).1 _) hP1.out | exact keep2 (KeepR.alloc (by assumption : KeepR w2 _ ∧ _).1 _).drew hP1.out
        clear hKq Kq
        (try simp only [Act.put, List.setIfInBounds_toArray, List.set_cons_zero, List.set_cons_succ])
        clear hHeld1
        refine wpAnyH_ready (rs := [6]) (by kernel_rfl) (by simp) ?_
        refine consH rfl (fun Kq hKq => ?_)
        go_simp
        (go_at_call 140; refine (impl_over _ _ _ _ _ _ ps ws a2 n2 cB b _ (H.out.below (hb1.trans (Below.mono (by assumption : KeepR w2 _ ∧ _).1 hb1.size))) Hp.out (H2.out.below (hb1.trans (Below.mono (by assumption : KeepR w2 _ ∧ _).1 hb1.size))) hn2 Hb.out).mono ?_; rintro e w6 ⟨v6, rfl, o6, b6⟩; have hk6 := KeepR.next b6 (by assumption : KeepR w2 _ ∧ _).1)
        refine hKq.out _ _ ?_ (fun hHeld3 => ?_)
        · (try dsimp only); first | exact keep2 (by assumption) hP1.out | exact keep2 (KeepR.alloc0 _ _) hP1.out | exact keep2 (KeepR.start _) hP1.out | exact keep2 (KeepR.alloc (by assumption : KeepR w2 _ ∧ _).1 _) hP1.out | exact keep2 (KeepR.alloc (by assumption : KeepR w2 _ ∧ _).1 _).drew hP1.out
        clear hKq Kq
        (try simp only [Act.put, List.setIfInBounds_toArray, List.set_cons_zero, List.set_cons_succ])
        clear hHeld2
        refine takeH (i := 7) (oi := _) (v := ?_) rfl (by kernel_rfl) (by kernel_rfl) (by kernel_rfl) (fun _ _ _ h => h) (Or.inl ⟨by rfl, ?_⟩) (by assumption) ?_
        rotate_left
        · first | (intro w hSw; (try dsimp only at hSw); go_simp; done) | (intro w hSw; (try dsimp only at hSw); go_simp; with_reducible rfl)
        (try simp only [Act.put, List.setIfInBounds_toArray, List.set_cons_zero, List.set_cons_succ])
        refine takeH (i := 8) (oi := _) (v := ?_) rfl (by kernel_rfl) (by kernel_rfl) (by kernel_rfl) (fun _ _ _ h => h) (Or.inl ⟨by rfl, ?_⟩) (by assumption) ?_
        rotate_left
        · first | (intro w hSw; (try dsimp only at hSw); go_simp; done) | (intro w hSw; (try dsimp only at hSw); go_simp; with_reducible rfl)
        (try simp only [Act.put, List.setIfInBounds_toArray, List.set_cons_zero, List.set_cons_succ])
        refine takeH (i := 9) (oi := _) (v := ?_) rfl (by kernel_rfl) (by kernel_rfl) (by kernel_rfl) (fun _ _ _ h => h) (Or.inl ⟨by rfl, ?_⟩) (by assumption) ?_
        rotate_left
        · first | (intro w hSw; (try dsimp only at hSw); go_simp; done) | (intro w hSw; (try dsimp only at hSw); go_simp; with_reducible rfl)
        (try simp only [Act.put, List.setIfInBounds_toArray, List.set_cons_zero, List.set_cons_succ])
        refine wpAnyH_done (by kernel_rfl) ?_ _
        refine NoPanic.normal ?_
        go_wp2_with fail
        go_meet
        first
          | exact merge_mk hk6 (Hml.out a) (Hml.out b) (((own_nil0 w2).below b5).below b6) (Nat.le_refl _) (o5.below b6) o6 (fun q hq => by have := (World.ownsRow.lt o5 q hq).1; simp at this; omega) (fun q hq => by have := (World.ownsRow.lt o6 q hq).1; have := b5.size; simp at this; omega)
          | exact merge_mk hk6 (Hml.out a) (Hml.out b) ((((own_nil0 w2).below (Below.refl _ _).drew).below b5).below b6) (Nat.le_refl _) (o5.below b6) o6 (fun q hq => by have := (World.ownsRow.lt o5 q hq).1; simp at this; omega) (fun q hq => by have := (World.ownsRow.lt o6 q hq).1; have := b5.size; simp at this; omega)
          | exact merge_mk hk6 (Hml.out a) (Hml.out b) ((own_nil0 w5).below b6) (Below.size hk5) ((o5.below (below_new w5 _)).below b6) o6 (fun q hq => by have := (World.ownsRow.lt o5 q hq).2; omega) (fun q hq => by have := (World.ownsRow.lt o6 q hq).1; simp at this; omega)
          | exact merge_mk (KeepR.alloc hk6 _) (Hml.out a) (Hml.out b) (own_nil0 w6) (Below.size hk6) ((o5.below b6).below (below_new w6 _)) (o6.below (below_new w6 _)) (fun q hq => by have := (World.ownsRow.lt (o5.below b6) q hq).2; omega) (fun q hq => by have := (World.ownsRow.lt o6 q hq).2; omega)
      · go_simp
        (go_at_call 140; refine (impl_over _ _ _ _ _ _ ps ws a2 n2 cB b _ (H.out.below (hb1.trans (Below.mono (by assumption : KeepR w2 _ ∧ _).1 hb1.size))) Hp.out (H2.out.below (hb1.trans (Below.mono (by assumption : KeepR w2 _ ∧ _).1 hb1.size))) hn2 Hb.out).mono ?_; rintro e w6 ⟨v6, rfl, o6, b6⟩; have hk6 := KeepR.next b6 (by assumption : KeepR w2 _ ∧ _).1)
        refine hKq.out _ _ ?_ (fun hHeld2 => ?_)
        · (try dsimp only); first | exact keep2 (by assumption) hP1.out | exact keep2 (KeepR.alloc0 _ _) hP1.out | exact keep2 (KeepR.start _) hP1.out | exact keep2 (KeepR.alloc (by assumption : KeepR w2 _ ∧ _).1 _) hP1.out | exact keep2 (KeepR.alloc (by assumption : KeepR w2 _ ∧ _).1 _).drew hP1.out
        clear hKq Kq
        (try simp only [Act.put, List.setIfInBounds_toArray, List.set_cons_zero, List.set_cons_succ])
        clear hHeld1
        refine wpAnyH_ready (rs := [0]) (by kernel_rfl) (by simp) ?_
        refine consH rfl (fun Kq hKq => ?_)
        go_simp
        refine hKq.out _ _ ?_ (fun hHeld3 => ?_)
        · (try dsimp only); first | exact keep2 (by assumption) hP1.out | exact keep2 (KeepR.alloc0 _ _) hP1.out | exact keep2 (KeepR.start _) hP1.out | exact keep2 (KeepR.alloc (by assumption : KeepR w2 _ ∧ _).1 _) hP1.out | exact keep2 (KeepR.alloc (by assumption : KeepR w2 _ ∧ _).1 _).drew hP1.out
        clear hKq Kq
        (try simp only [Act.put, List.setIfInBounds_toArray, List.set_cons_zero, List.set_cons_succ])
        clear hHeld2
        refine takeH (i := 7) (oi := _) (v := ?_) rfl (by kernel_rfl) (by kernel_rfl) (by kernel_rfl) (fun _ _ _ h => h) (Or.inl ⟨by rfl, ?_⟩) (by assumption) ?_
        rotate_left
        · first | (intro w hSw; (try dsimp only at hSw); go_simp; done) | (intro w hSw; (try dsimp only at hSw); go_simp; with_reducible rfl)
        (try simp only [Act.put, List.setIfInBounds_toArray, List.set_cons_zero, List.set_cons_succ])
        refine takeH (i := 8) (oi := _) (v := ?_) rfl (by kernel_rfl) (by kernel_rfl) (by kernel_rfl) (fun _ _ _ h => h) (Or.inl ⟨by rfl, ?_⟩) (by assumption) ?_
        rotate_left
        · first | (intro w hSw; (try dsimp only at hSw); go_simp; done) | (intro w hSw; (try dsimp only at hSw); go_simp; with_reducible rfl)
        (try simp only [Act.put, List.setIfInBounds_toArray, List.set_cons_zero, List.set_cons_succ])
        refine takeH (i := 9) (oi := _) (v := ?_) rfl (by kernel_rfl) (by kernel_rfl) (by kernel_rfl) (fun _ _ _ h => h) (Or.inl ⟨by rfl, ?_⟩) (by assumption) ?_
        rotate_left
        · first | (intro w hSw; (try dsimp only at hSw); go_simp; done) | (intro w hSw; (try dsimp only at hSw); go_simp; with_reducible rfl)
        (try simp only [Act.put, List.setIfInBounds_toArray, List.set_cons_zero, List.set_cons_succ])
        refine wpAnyH_done (by kernel_rfl) ?_ _
        refine NoPanic.normal ?_
        go_wp2_with fail
        go_meet
        first
          | exact merge_mk hk6 (Hml.out a) (Hml.out b) (((own_nil0 w2).below b5).below b6) (Nat.le_refl _) (o5.below b6) o6 (fun q hq => by have := (World.ownsRow.lt o5 q hq).1; simp at this; omega) (fun q hq => by have := (World.ownsRow.lt o6 q hq).1; have := b5.size; simp at this; omega)
          | exact merge_mk hk6 (Hml.out a) (Hml.out b) ((((own_nil0 w2).below (Below.refl _ _).drew).below b5).below b6) (Nat.le_refl _) (o5.below b6) o6 (fun q hq => by have := (World.ownsRow.lt o5 q hq).1; simp at this; omega) (fun q hq => by have := (World.ownsRow.lt o6 q hq).1; have := b5.size; simp at this; omega)
          | exact merge_mk hk6 (Hml.out a) (Hml.out b) ((own_nil0 w5).below b6) (Below.size hk5) ((o5.below (below_new w5 _)).below b6) o6 (fun q hq => by have := (World.ownsRow.lt o5 q hq).2; omega) (fun q hq => by have := (World.ownsRow.lt o6 q hq).1; simp at this; omega)
          | exact merge_mk (KeepR.alloc hk6 _) (Hml.out a) (Hml.out b) (own_nil0 w6) (Below.size hk6) ((o5.below b6).below (below_new w6 _)) (o6.below (below_new w6 _)) (fun q hq => by have := (World.ownsRow.lt (o5.below b6) q hq).2; omega) (fun q hq => by have := (World.ownsRow.lt o6 q hq).2; omega)
    all_goals exact foo
  case rest =>
    obtain ⟨hk5, g9, a10, c10, a11, c11, rfl, rfl, rfl, o9, i10, i11, s10, s11⟩ := hcut
    have hk5b : Below w2.heap.size w2 wc := hk5
    have hb15 := hb1.trans (hk5b.mono hb1.size)
    have HO := Lib.hid o9
    have G10 := Lib.hid i10
    have G11 := Lib.hid i11
    have R10 := Lib.hid s10
    have R11 := Lib.hid s11
    have hw2 : w.heap.size ≤ w2.heap.size := hb1.size
    have hw2c : w2.heap.size ≤ wc.heap.size := hk5b.size
    have H1' := Lib.hid (H1.out.below hb15)
    have H2' := Lib.hid (H2.out.below hb15)
    have HPL : Hid (∀ k, k < (ends ps).length → ∃ i j : Nat, i < n1 ∧ j < n2 ∧ nth ((ends ps).map (ovI ps a)) k = (i : Int) ∧ nth ((ends ps).map (ovI ps b)) k = (j : Int) ∧ nth ((ends ps).map fun e => pickI early (stop ps (hasB a) e.toNat) (stop ps (hasB b) e.toNat)) k = pickI early (nth a i) (nth b j)) := Lib.hid fun k hk => by
      obtain ⟨e, h1, h2, h3⟩ := end_nth hk
      obtain ⟨i, q1, q2, q3⟩ := ov_at Ha.out Hp.out h1 h2
      obtain ⟨j, r1, r2, r3⟩ := ov_at Hb.out Hp.out h1 h2
      have l1 := H1.out.1
      have l2 := H2.out.1
      refine ⟨i, j, by omega, by omega, ?_, ?_, ?_⟩
      · rw [nth_map hk, h3, q2]
      · rw [nth_map hk, h3, r2]
      · rw [nth_map hk, h3, Int.toNat_natCast, q3, r3]
    have Hres := Lib.hid (merge_eq Hp.out Ha.out Hb.out early)
    have Hlen : Hid (((ends ps).map fun e => pickI early (stop ps (hasB a) e.toNat) (stop ps (hasB b) e.toNat)).length = (ends ps).length) := Lib.hid (List.length_map _)
    clear i10 i11 s10 s11 o9 hk5 hk5b hb1 Hml
    generalize ((ends ps).map fun e => pickI early (stop ps (hasB a) e.toNat) (stop ps (hasB b) e.toNat)) = PL at *
    generalize ((ends ps).map (ovI ps a)) = F at *
    generalize ((ends ps).map (ovI ps b)) = G at *
    generalize (ends ps).length = m at *
    generalize hU : w2.heap.size = U at *
    clear hU
    go_wp2_with fail
    go_loopw [9, 24] (fun v9 v24 wr => ∃ k : Nat, k ≤ m ∧ v24 = .int .i64 (k : Int) ∧ Own wr U v9 (PL.take k) ∧ Ints wr a10 m F ∧ Ints wr a11 m G ∧ (0 < m → Apart a10 v9) ∧ (0 < m → Apart a11 v9) ∧ Below w.heap.size w wr ∧ U ≤ wr.heap.size) (fun _ v24 _ => m - (intOf v24).toNat)
    case atStart => exact ⟨0, Nat.zero_le _, rfl, by simpa using HO.out, G10.out, G11.out, R10.out, R11.out, hb15, hw2c⟩
    case round =>
      clear hb15 HO G10 G11 R10 R11 hw2c H1' H2'
      obtain ⟨k, hk, rfl, hown, h10, h11, hp10, hp11, hbel, hsz⟩ := hrel
      have G10 := Lib.hid h10
      have G11 := Lib.hid h11
      have R10 := Lib.hid hp10
      have R11 := Lib.hid hp11
      have H1' := Lib.hid (H1.out.below hbel)
      have H2' := Lib.hid (H2.out.below hbel)
      clear h10 h11 hp10 hp11
      by_cases hlt : (k : Int) < m
      · obtain ⟨i, j, hi, hj, e1, e2, e3⟩ := HPL.out k (by omega)
        obtain ⟨bF, oF, rfl, hcF⟩ := G10.out.at (i := k) (Below.refl _ _) (by omega)
        obtain ⟨bG, oG, rfl, hcG⟩ := G11.out.at (i := k) (Below.refl _ _) (by omega)
        obtain ⟨bA, oA, rfl, hcA⟩ := H1'.out.at (i := i) (Below.refl _ _) (by omega)
        obtain ⟨bB, oB, rfl, hcB⟩ := H2'.out.at (i := j) (Below.refl _ _) (by omega)
        rw [e1] at hcF
        rw [e2] at hcG
        clear e1 e2
        have hlen : (PL.take k).length ≤ 24 := by rw [List.length_take]; omega
        have Hf : Hid (PL.take (k + 1) = PL.take k ++ [pickI early (nth a i) (nth b j)]) := Lib.hid (by rw [take_succ_nth (by have := Hlen.out; omega), e3])
        clear e3
        have k1 : (0 : Int) ≤ (k : Int) := by omega
        have k2 : (k : Int) < (m : Int) := hlt
        have k3 : (0 : Int) ≤ (i : Int) := by omega
        have k4 : (i : Int) < (n1 : Int) := by omega
        have k5 : (0 : Int) ≤ (j : Int) := by omega
        have k6 : (j : Int) < (n2 : Int) := by omega
        generalize nth a i = X at *
        generalize nth b j = Y at *
        cases early <;> by_cases hYX : Y < X
        · have Hv : Hid (pickI false X Y = X) := Lib.hid (by simp [pickI, hYX])
          rw [Hv.out] at Hf
          clear Hv
          go_wp2_with (first
            | (at_builtin; refine wp_push2 (.tmp 47) (.tmp 49) rfl rfl U _ _ rfl hown rfl (by omega) hsz ?_; intro v' w' ho hb hm)
            | go_quiet (fail))
          have h10 := G10.out.moved hm R10.out
          have h11 := G11.out.moved hm R11.out
          go_roundw
          case rel => exact ⟨k + 1, by omega, by go_num, by rw [Hf.out]; exact ho, h10.1, h11.1, h10.2, h11.2, (below_drewN hbel _).trans (hb.mono hw2), by have := hb.size; simp at this; omega⟩
          case measure => simp [intOf]; omega
        · have Hv : Hid (pickI false X Y = Y) := Lib.hid (by simp [pickI, hYX])
          rw [Hv.out] at Hf
          clear Hv
          go_wp2_with (first
            | (at_builtin; refine wp_push2 (.tmp 47) (.tmp 49) rfl rfl U _ _ rfl hown rfl (by omega) hsz ?_; intro v' w' ho hb hm)
            | go_quiet (fail))
          have h10 := G10.out.moved hm R10.out
          have h11 := G11.out.moved hm R11.out
          go_roundw
          case rel => exact ⟨k + 1, by omega, by go_num, by rw [Hf.out]; exact ho, h10.1, h11.1, h10.2, h11.2, (below_drewN hbel _).trans (hb.mono hw2), by have := hb.size; simp at this; omega⟩
          case measure => simp [intOf]; omega
        · have Hv : Hid (pickI true X Y = Y) := Lib.hid (by simp [pickI, hYX])
          rw [Hv.out] at Hf
          clear Hv
          go_wp2_with (first
            | (at_builtin; refine wp_push2 (.tmp 47) (.tmp 49) rfl rfl U _ _ rfl hown rfl (by omega) hsz ?_; intro v' w' ho hb hm)
            | go_quiet (fail))
          have h10 := G10.out.moved hm R10.out
          have h11 := G11.out.moved hm R11.out
          go_roundw
          case rel => exact ⟨k + 1, by omega, by go_num, by rw [Hf.out]; exact ho, h10.1, h11.1, h10.2, h11.2, (below_drewN hbel _).trans (hb.mono hw2), by have := hb.size; simp at this; omega⟩
          case measure => simp [intOf]; omega
        · have Hv : Hid (pickI true X Y = X) := Lib.hid (by simp [pickI, hYX])
          rw [Hv.out] at Hf
          clear Hv
          go_wp2_with (first
            | (at_builtin; refine wp_push2 (.tmp 47) (.tmp 49) rfl rfl U _ _ rfl hown rfl (by omega) hsz ?_; intro v' w' ho hb hm)
            | go_quiet (fail))
          have h10 := G10.out.moved hm R10.out
          have h11 := G11.out.moved hm R11.out
          go_roundw
          case rel => exact ⟨k + 1, by omega, by go_num, by rw [Hf.out]; exact ho, h10.1, h11.1, h10.2, h11.2, (below_drewN hbel _).trans (hb.mono hw2), by have := hb.size; simp at this; omega⟩
          case measure => simp [intOf]; omega
      · obtain rfl : k = m := by omega
        have hPl : PL.take k = PL := List.take_of_length_le (by have := Hlen.out; omega)
        rw [hPl] at hown
        have hpl24 : PL.length ≤ 24 := by have := Hlen.out; omega
        clear hPl
        obtain ⟨av, cv, rfl⟩ := hown.shape
        go_wp2_with (first
          | (go_at_call 141; refine (c_sort _ _ _ _ PL _ hown (by omega) hsz).mono ?_; rintro e w5 ⟨rfl, ho5, hb5⟩)
          | (go_at_call 142; refine (c_compact _ _ _ _ _ _ ho5 (by omega)).mono ?_; rintro e w6 ⟨v6, rfl, ho6, hb6⟩))
        go_ret
        exact ⟨_, rfl, by rw [← Hres.out]; exact ho6.mono hw2, hbel.trans ((hb5.mono hw2).trans (hb6.mono hw2))⟩
end Go.Proofs.YtnbomleieianoaaGreat

/- Contracts: the earlier and the later one of two stoppings, and whether one is no later, by the program. -/
namespace Go.Proofs.YtnbomleieianoaaGreat
open Go.RowKit

def twoB (ps ws a b : List Int) : Bool := treeB ps ws && (stopB ps a && stopB ps b)
theorem two_no1 {ps ws a b : List Int} (h : treeB ps ws = false) : twoB ps ws a b = false := by rw [twoB, h]; rfl
theorem two_no2 {ps ws a b : List Int} (h : stopB ps a = false) : twoB ps ws a b = false := by rw [twoB, h]; simp
theorem two_no3 {ps ws a b : List Int} (h : stopB ps b = false) : twoB ps ws a b = false := by rw [twoB, h]; simp
theorem two_yes {ps ws a b : List Int} (h : treeB ps ws = true) (ha : stopB ps a = true) (hb : stopB ps b = true) : twoB ps ws a b = true := by rw [twoB, h, ha, hb]; rfl
theorem two_t {ps ws a b : List Int} (h : twoB ps ws a b = true) : treeB ps ws = true ∧ stopB ps a = true ∧ stopB ps b = true := by simpa [twoB] using h
/-- The earlier (the later) one of two stoppings, none where they are no stoppings. -/
def erlV (ps ws a b : List Int) (early : Bool) : List Int := cond (twoB ps ws a b) (mergeV ps a b early) []
theorem erl_no {ps ws a b : List Int} {early : Bool} (h : twoB ps ws a b = false) : erlV ps ws a b early = [] := by rw [erlV, h]; rfl
theorem erl_yes {ps ws a b : List Int} {early : Bool} (h : twoB ps ws a b = true) : erlV ps ws a b early = mergeV ps a b early := by rw [erlV, h]; rfl
theorem erl_len {ps ws a b : List Int} {early : Bool} : (erlV ps ws a b early).length ≤ 24 := by
  cases h : twoB ps ws a b
  · rw [erl_no h]; exact Nat.zero_le _
  · rw [erl_yes h]
    have := filt_length (mergeP ps a b early (ends ps)) ps.length
    have := (treeB_t (two_t h).1).toPa.n24
    rw [mergeV]; omega
/-- Is the first one no later? -/
def noLV (ps ws a b : List Int) : Bool := twoB ps ws a b && noLaterB ps a b
theorem noL_no {ps ws a b : List Int} (h : twoB ps ws a b = false) : noLV ps ws a b = false := by rw [noLV, h]; rfl
theorem noL_yes {ps ws a b : List Int} (h : twoB ps ws a b = true) : noLV ps ws a b = noLaterB ps a b := by rw [noLV, h]; rfl
set_option maxRecDepth 100000 in
set_option maxHeartbeats 1000000 in
theorem impl_EarlierStop (aP : Option Addr) (nP cP : Nat) (aW : Option Addr) (nW cW : Nat) (ps ws : List Int) (aA : Option Addr) (nA cA : Nat) (a : List Int) (aB : Option Addr) (nB cB : Nat) (b : List Int) (w : World) (h : Tre w aP nP cP aW nW cW ps ws) (hA : Ints w aA nA a) (_hAc : aA = none → cA = 0) (hnA : nA ≤ 1048576) (hB : Ints w aB nB b) (_hBc : aB = none → cB = 0) (hnB : nB ≤ 1048576) :
    Calls Tryz.prog 14 #[.agg #[.slice aP nP cP, .slice aW nW cW], .slice aA nA cA, .slice aB nB cB] w fun e w' => ∃ v, e = .returned (.tuple #[v, .bool (twoB ps ws a b)]) ∧ Own w' w.heap.size v (erlV ps ws a b true) ∧ Below w.heap.size w w' := by
  have hl := h.p.1
  have hlw := h.w.1
  have hpn := h.pn
  have hwn := h.wn
  have hb1 := below_new w (.cells #[.slice aP nP cP, .slice aW nW cW] 26)
  have hP1 := Lib.hid (Pair.new w (.slice aP nP cP) (.slice aW nW cW) 26)
  have H := Lib.hid h
  have Hl := Lib.hid hl
  have Hlw := Lib.hid hlw
  clear h hl hlw
  have HA := Lib.hid hA
  have HB := Lib.hid hB
  clear hA hB
  go_enter Tryz.func14, Tryz.ntmps14
  have c0 := hP1.out.c0
  have c1 := hP1.out.c1
  go_wp2_with fail
  generalize (w.alloc (.cells #[.slice aP nP cP, .slice aW nW cW] 26)) = w2 at *
  refine (impl_IsTree _ _ _ _ _ _ ps ws _ (H.out.below hb1)).mono ?_
  rintro e w3 ⟨rfl, hb3⟩
  have HP3 := Lib.hid (hP1.out.below hb3)
  have d0 := HP3.out.c0
  have d1 := HP3.out.c1
  have hb13 := hb1.trans (hb3.mono hb1.size)
  clear c0 c1 hb3 hP1
  cases hT : treeB ps ws
  · have Hv := Lib.hid (two_no1 (a := a) (b := b) hT)
    clear hT
    go_wp2_with fail
    go_ret2
    exact ⟨_, by rw [Hv.out]; rfl, by rw [erl_no Hv.out]; exact Own.nil _ _, hb13⟩
  have HT := Lib.hid hT
  have HTr := Lib.hid (treeB_t hT)
  clear hT
  go_wp2_with fail
  refine (impl_isStopping _ _ _ _ _ _ ps ws _ _ _ a _ (H.out.below hb13) HTr.out.toPa (HA.out.below hb13) hnA).mono ?_
  rintro e w4 ⟨rfl, hb4⟩
  have HP4 := Lib.hid (HP3.out.below hb4)
  have e0 := HP4.out.c0
  have e1 := HP4.out.c1
  have hb14 := hb13.trans (hb4.mono hb13.size)
  clear d0 d1 hb4 HP3
  cases hS : stopB ps a
  · have Hv := Lib.hid (two_no2 (ws := ws) (b := b) hS)
    clear hS
    go_wp2_with fail
    go_ret2
    exact ⟨_, by rw [Hv.out]; rfl, by rw [erl_no Hv.out]; exact Own.nil _ _, hb14⟩
  have HS := Lib.hid hS
  clear hS
  go_wp2_with fail
  refine (impl_isStopping _ _ _ _ _ _ ps ws _ _ _ b _ (H.out.below hb14) HTr.out.toPa (HB.out.below hb14) hnB).mono ?_
  rintro e w5 ⟨rfl, hb5⟩
  have HP5 := Lib.hid (HP4.out.below hb5)
  have f0 := HP5.out.c0
  have f1 := HP5.out.c1
  have hb15 := hb14.trans (hb5.mono hb14.size)
  clear e0 e1 hb5 HP4
  cases hS2 : stopB ps b
  · have Hv := Lib.hid (two_no3 (ws := ws) (a := a) hS2)
    clear hS2
    go_wp2_with fail
    go_ret2
    exact ⟨_, by rw [Hv.out]; rfl, by rw [erl_no Hv.out]; exact Own.nil _ _, hb15⟩
  have HS2 := Lib.hid hS2
  clear hS2
  have Hv := Lib.hid (two_yes HT.out HS.out HS2.out)
  go_wp2_with fail
  refine (impl_merged _ _ _ _ _ _ ps ws _ _ _ a _ _ _ b true _ (H.out.below hb15) HTr.out.toPa (HA.out.below hb15) (HB.out.below hb15) hnA hnB HS.out HS2.out).mono ?_
  rintro e w6 ⟨v6, rfl, ho6, hb6⟩
  go_wp2_with fail
  go_ret2
  exact ⟨_, by rw [Hv.out]; rfl, by rw [erl_yes Hv.out]; exact ho6.mono hb15.size, hb15.trans (hb6.mono hb15.size)⟩
set_option maxRecDepth 100000 in
set_option maxHeartbeats 1000000 in
theorem impl_LaterStop (aP : Option Addr) (nP cP : Nat) (aW : Option Addr) (nW cW : Nat) (ps ws : List Int) (aA : Option Addr) (nA cA : Nat) (a : List Int) (aB : Option Addr) (nB cB : Nat) (b : List Int) (w : World) (h : Tre w aP nP cP aW nW cW ps ws) (hA : Ints w aA nA a) (_hAc : aA = none → cA = 0) (hnA : nA ≤ 1048576) (hB : Ints w aB nB b) (_hBc : aB = none → cB = 0) (hnB : nB ≤ 1048576) :
    Calls Tryz.prog 16 #[.agg #[.slice aP nP cP, .slice aW nW cW], .slice aA nA cA, .slice aB nB cB] w fun e w' => ∃ v, e = .returned (.tuple #[v, .bool (twoB ps ws a b)]) ∧ Own w' w.heap.size v (erlV ps ws a b false) ∧ Below w.heap.size w w' := by
  have hl := h.p.1
  have hlw := h.w.1
  have hpn := h.pn
  have hwn := h.wn
  have hb1 := below_new w (.cells #[.slice aP nP cP, .slice aW nW cW] 26)
  have hP1 := Lib.hid (Pair.new w (.slice aP nP cP) (.slice aW nW cW) 26)
  have H := Lib.hid h
  have Hl := Lib.hid hl
  have Hlw := Lib.hid hlw
  clear h hl hlw
  have HA := Lib.hid hA
  have HB := Lib.hid hB
  clear hA hB
  go_enter Tryz.func16, Tryz.ntmps16
  have c0 := hP1.out.c0
  have c1 := hP1.out.c1
  go_wp2_with fail
  generalize (w.alloc (.cells #[.slice aP nP cP, .slice aW nW cW] 26)) = w2 at *
  refine (impl_IsTree _ _ _ _ _ _ ps ws _ (H.out.below hb1)).mono ?_
  rintro e w3 ⟨rfl, hb3⟩
  have HP3 := Lib.hid (hP1.out.below hb3)
  have d0 := HP3.out.c0
  have d1 := HP3.out.c1
  have hb13 := hb1.trans (hb3.mono hb1.size)
  clear c0 c1 hb3 hP1
  cases hT : treeB ps ws
  · have Hv := Lib.hid (two_no1 (a := a) (b := b) hT)
    clear hT
    go_wp2_with fail
    go_ret2
    exact ⟨_, by rw [Hv.out]; rfl, by rw [erl_no Hv.out]; exact Own.nil _ _, hb13⟩
  have HT := Lib.hid hT
  have HTr := Lib.hid (treeB_t hT)
  clear hT
  go_wp2_with fail
  refine (impl_isStopping _ _ _ _ _ _ ps ws _ _ _ a _ (H.out.below hb13) HTr.out.toPa (HA.out.below hb13) hnA).mono ?_
  rintro e w4 ⟨rfl, hb4⟩
  have HP4 := Lib.hid (HP3.out.below hb4)
  have e0 := HP4.out.c0
  have e1 := HP4.out.c1
  have hb14 := hb13.trans (hb4.mono hb13.size)
  clear d0 d1 hb4 HP3
  cases hS : stopB ps a
  · have Hv := Lib.hid (two_no2 (ws := ws) (b := b) hS)
    clear hS
    go_wp2_with fail
    go_ret2
    exact ⟨_, by rw [Hv.out]; rfl, by rw [erl_no Hv.out]; exact Own.nil _ _, hb14⟩
  have HS := Lib.hid hS
  clear hS
  go_wp2_with fail
  refine (impl_isStopping _ _ _ _ _ _ ps ws _ _ _ b _ (H.out.below hb14) HTr.out.toPa (HB.out.below hb14) hnB).mono ?_
  rintro e w5 ⟨rfl, hb5⟩
  have HP5 := Lib.hid (HP4.out.below hb5)
  have f0 := HP5.out.c0
  have f1 := HP5.out.c1
  have hb15 := hb14.trans (hb5.mono hb14.size)
  clear e0 e1 hb5 HP4
  cases hS2 : stopB ps b
  · have Hv := Lib.hid (two_no3 (ws := ws) (a := a) hS2)
    clear hS2
    go_wp2_with fail
    go_ret2
    exact ⟨_, by rw [Hv.out]; rfl, by rw [erl_no Hv.out]; exact Own.nil _ _, hb15⟩
  have HS2 := Lib.hid hS2
  clear hS2
  have Hv := Lib.hid (two_yes HT.out HS.out HS2.out)
  go_wp2_with fail
  refine (impl_merged _ _ _ _ _ _ ps ws _ _ _ a _ _ _ b false _ (H.out.below hb15) HTr.out.toPa (HA.out.below hb15) (HB.out.below hb15) hnA hnB HS.out HS2.out).mono ?_
  rintro e w6 ⟨v6, rfl, ho6, hb6⟩
  go_wp2_with fail
  go_ret2
  exact ⟨_, by rw [Hv.out]; rfl, by rw [erl_yes Hv.out]; exact ho6.mono hb15.size, hb15.trans (hb6.mono hb15.size)⟩
set_option maxRecDepth 100000 in
set_option maxHeartbeats 1000000 in
theorem impl_EarlierRule (aP : Option Addr) (nP cP : Nat) (aW : Option Addr) (nW cW : Nat) (ps ws : List Int) (aA : Option Addr) (nA cA : Nat) (a : List Int) (aB : Option Addr) (nB cB : Nat) (b : List Int) (w : World) (h : Tre w aP nP cP aW nW cW ps ws) (hA : Ints w aA nA a) (hAc : aA = none → cA = 0) (hnA : nA ≤ 1048576) (hB : Ints w aB nB b) (hBc : aB = none → cB = 0) (hnB : nB ≤ 1048576) :
    Calls Tryz.prog 51 #[.agg #[.slice aP nP cP, .slice aW nW cW], .slice aA nA cA, .slice aB nB cB] w fun e w' => ∃ v, e = .returned (.tuple #[v, .bool (twoB ps ws a b)]) ∧ Own w' w.heap.size v (erlV ps ws a b true) ∧ Below w.heap.size w w' := by
  have hl := h.p.1
  have hlw := h.w.1
  have hpn := h.pn
  have hwn := h.wn
  have hb1 := below_new w (.cells #[.slice aP nP cP, .slice aW nW cW] 26)
  have hP1 := Lib.hid (Pair.new w (.slice aP nP cP) (.slice aW nW cW) 26)
  have H := Lib.hid h
  have Hl := Lib.hid hl
  have Hlw := Lib.hid hlw
  clear h hl hlw
  have HA := Lib.hid hA
  have HB := Lib.hid hB
  clear hA hB
  go_enter Tryz.func51, Tryz.ntmps51
  have c0 := hP1.out.c0
  have c1 := hP1.out.c1
  go_wp2_with fail
  generalize (w.alloc (.cells #[.slice aP nP cP, .slice aW nW cW] 26)) = w2 at *
  refine (impl_EarlierStop _ _ _ _ _ _ ps ws _ _ _ a _ _ _ b _ (H.out.below hb1) (HA.out.below hb1) hAc hnA (HB.out.below hb1) hBc hnB).mono ?_
  rintro e w3 ⟨v3, rfl, ho3, hb3⟩
  go_wp2_with fail
  go_ret2
  exact ⟨_, rfl, ho3.mono hb1.size, hb1.trans (hb3.mono hb1.size)⟩
set_option maxRecDepth 100000 in
set_option maxHeartbeats 1000000 in
theorem impl_LaterRule (aP : Option Addr) (nP cP : Nat) (aW : Option Addr) (nW cW : Nat) (ps ws : List Int) (aA : Option Addr) (nA cA : Nat) (a : List Int) (aB : Option Addr) (nB cB : Nat) (b : List Int) (w : World) (h : Tre w aP nP cP aW nW cW ps ws) (hA : Ints w aA nA a) (hAc : aA = none → cA = 0) (hnA : nA ≤ 1048576) (hB : Ints w aB nB b) (hBc : aB = none → cB = 0) (hnB : nB ≤ 1048576) :
    Calls Tryz.prog 53 #[.agg #[.slice aP nP cP, .slice aW nW cW], .slice aA nA cA, .slice aB nB cB] w fun e w' => ∃ v, e = .returned (.tuple #[v, .bool (twoB ps ws a b)]) ∧ Own w' w.heap.size v (erlV ps ws a b false) ∧ Below w.heap.size w w' := by
  have hl := h.p.1
  have hlw := h.w.1
  have hpn := h.pn
  have hwn := h.wn
  have hb1 := below_new w (.cells #[.slice aP nP cP, .slice aW nW cW] 26)
  have hP1 := Lib.hid (Pair.new w (.slice aP nP cP) (.slice aW nW cW) 26)
  have H := Lib.hid h
  have Hl := Lib.hid hl
  have Hlw := Lib.hid hlw
  clear h hl hlw
  have HA := Lib.hid hA
  have HB := Lib.hid hB
  clear hA hB
  go_enter Tryz.func53, Tryz.ntmps53
  have c0 := hP1.out.c0
  have c1 := hP1.out.c1
  go_wp2_with fail
  generalize (w.alloc (.cells #[.slice aP nP cP, .slice aW nW cW] 26)) = w2 at *
  refine (impl_LaterStop _ _ _ _ _ _ ps ws _ _ _ a _ _ _ b _ (H.out.below hb1) (HA.out.below hb1) hAc hnA (HB.out.below hb1) hBc hnB).mono ?_
  rintro e w3 ⟨v3, rfl, ho3, hb3⟩
  go_wp2_with fail
  go_ret2
  exact ⟨_, rfl, ho3.mono hb1.size, hb1.trans (hb3.mono hb1.size)⟩
set_option maxRecDepth 100000 in
set_option maxHeartbeats 1000000 in
theorem impl_IsNoLater (aP : Option Addr) (nP cP : Nat) (aW : Option Addr) (nW cW : Nat) (ps ws : List Int) (aA : Option Addr) (nA cA : Nat) (a : List Int) (aB : Option Addr) (nB cB : Nat) (b : List Int) (w : World) (h : Tre w aP nP cP aW nW cW ps ws) (hA : Ints w aA nA a) (hAc : aA = none → cA = 0) (hnA : nA ≤ 1048576) (hB : Ints w aB nB b) (hBc : aB = none → cB = 0) (hnB : nB ≤ 1048576) :
    Calls Tryz.prog 23 #[.agg #[.slice aP nP cP, .slice aW nW cW], .slice aA nA cA, .slice aB nB cB] w fun e w' => e = .returned (.tuple #[.bool (noLV ps ws a b), .bool (twoB ps ws a b)]) ∧ Below w.heap.size w w' := by
  have hl := h.p.1
  have hlw := h.w.1
  have hpn := h.pn
  have hwn := h.wn
  have hb1 := below_new w (.cells #[.slice aP nP cP, .slice aW nW cW] 26)
  have hP1 := Lib.hid (Pair.new w (.slice aP nP cP) (.slice aW nW cW) 26)
  have H := Lib.hid h
  have Hl := Lib.hid hl
  have Hlw := Lib.hid hlw
  clear h hl hlw
  have HA := Lib.hid hA
  have HB := Lib.hid hB
  clear hA hB
  go_enter Tryz.func23, Tryz.ntmps23
  have c0 := hP1.out.c0
  have c1 := hP1.out.c1
  go_wp2_with fail
  generalize (w.alloc (.cells #[.slice aP nP cP, .slice aW nW cW] 26)) = w2 at *
  refine (impl_EarlierStop _ _ _ _ _ _ ps ws _ _ _ a _ _ _ b _ (H.out.below hb1) (HA.out.below hb1) hAc hnA (HB.out.below hb1) hBc hnB).mono ?_
  rintro e w3 ⟨v3, rfl, ho3, hb3⟩
  have hb13 := hb1.trans (hb3.mono hb1.size)
  cases hT : twoB ps ws a b
  · have Hv := Lib.hid (noL_no hT)
    have HT := Lib.hid hT
    clear hT
    go_wp2_with fail
    go_ret2
    exact ⟨by rw [Hv.out, HT.out]; rfl, hb13⟩
  obtain ⟨hTr, hsa, hsb⟩ := two_t hT
  have Hv := Lib.hid (noL_yes hT)
  have He := Lib.hid (noLater_eq (treeB_t hTr).toPa hsa hsb)
  rw [erl_yes hT] at ho3
  have HT := Lib.hid hT
  obtain ⟨a3, c3, rfl⟩ := ho3.shape
  have hlen : (mergeV ps a b true).length ≤ 1048576 := by
    have := filt_length (mergeP ps a b true (ends ps)) ps.length
    have := (treeB_t hTr).toPa.n24
    rw [mergeV]; omega
  clear hT hTr hsa hsb
  generalize mergeV ps a b true = V at *
  go_wp2_with fail
  refine (c_equal _ _ _ _ _ _ V a _ ho3.ints (HA.out.below hb13) (by have := ho3.ints.1; omega) hnA).mono ?_
  rintro e w4 ⟨rfl, hb4⟩
  go_wp2_with fail
  go_ret2
  exact ⟨by rw [Hv.out, HT.out, ← He.out]; rfl, hb13.trans (hb4.mono hb13.size)⟩
end Go.Proofs.YtnbomleieianoaaGreat

/- Contracts: what a seer has, the bound of a balanced list, by the program. -/
namespace Go.Proofs.YtnbomleieianoaaGreat
open Go.RowKit

def boN (c : Bool) (ps ws pay num : List Int) : Int := if c then nm (bndS ps ws pay num) (nth (sums ps ws) 0) else 0
def boD (c : Bool) (ps ws pay num : List Int) : Int := if c then dn (bndS ps ws pay num) (nth (sums ps ws) 0) else 0
theorem bo_no {c : Bool} {ps ws pay num : List Int} (h : c = false) : boN c ps ws pay num = 0 ∧ boD c ps ws pay num = 0 := by subst h; exact ⟨rfl, rfl⟩
theorem bo_yes {c : Bool} {ps ws pay num : List Int} (h : c = true) : boN c ps ws pay num = nm (bndS ps ws pay num) (nth (sums ps ws) 0) ∧ boD c ps ws pay num = dn (bndS ps ws pay num) (nth (sums ps ws) 0) := by subst h; exact ⟨rfl, rfl⟩
def zeL (ps : List Int) : List Int := List.replicate ps.length 0
theorem nth_zeL (ps : List Int) (i : Nat) : -999 ≤ nth (zeL ps) i ∧ nth (zeL ps) i ≤ 999 := by rw [zeL, nth_replicate]; omega
def bbB (ps ws pay num : List Int) : Bool := balV ps ws num && paysB ps ws pay
end Go.Proofs.YtnbomleieianoaaGreat

/- Contracts: totals, means, the bound of a list, what a seer has, by the reference. -/
namespace Go.Proofs.YtnbomleieianoaaGreat
open Go.RowKit

theorem Ints.away {w : World} {a : Option Addr} {n : Nat} {xs : List Int} (h : Ints w a n xs) {g i : Nat} (ha : ∀ p, a = some p → p.block ≠ g) (u : Value) : Ints (w.setCell ⟨g, i, none⟩ u) a n xs :=
  ⟨h.1, fun hn => by
    obtain ⟨b, off, rfl, hb, hc⟩ := h.2 hn
    exact ⟨b, off, rfl, by simpa using hb, fun j hj => cell_far (hc j hj) (ha ⟨b, off, none⟩ rfl)⟩⟩
/-- Zeros and the ends, just made, apart from each other. -/
def TotR (u wc : World) (n : Nat) (es : List Int) (v5 v6 : Value) : Prop :=
  KeepR u wc ∧ ∃ (g5 : Nat) (a6 : Option Addr) (c6 : Nat), v5 = .slice (some ⟨g5, 0, none⟩) n n ∧ v6 = .slice a6 es.length c6 ∧ Own wc u.heap.size v5 (List.replicate n 0) ∧ Ints wc a6 es.length es ∧ (∀ p, a6 = some p → p.block ≠ g5)
theorem tot_mk {u wc : World} {n : Nat} {es : List Int} {v6 : Value} {b5 b6 g5 : Nat} (hk : KeepR u wc) (h5 : Own wc b5 (.slice (some ⟨g5, 0, none⟩) n n) (List.replicate n 0)) (hb : u.heap.size ≤ b5) (h6 : Own wc b6 v6 es) (s6 : ∀ q, v6.ownBlock = some q → q ≠ g5) : TotR u wc n es (.slice (some ⟨g5, 0, none⟩) n n) v6 := by
  obtain ⟨a6, c6, rfl⟩ := h6.shape
  exact ⟨hk, g5, a6, c6, rfl, rfl, h5.mono hb, h6.ints, fun p hp => by subst hp; exact s6 _ rfl⟩
end Go.Proofs.YtnbomleieianoaaGreat

/- Contracts: the means at the nodes, by the reference. -/
namespace Go.Proofs.YtnbomleieianoaaGreat
open Go.RowKit

namespace Fr
end Fr
/-- The means at the nodes. -/
def meanL (ps ws : List Int) (V : Nat → Int) : List (Int × Int) := (List.range ps.length).map fun x => (nm (nth (totA ps ws V) x) (nth (sums ps ws) x), dn (nth (totA ps ws V) x) (nth (sums ps ws) x))
theorem meanL_length (ps ws : List Int) (V : Nat → Int) : (meanL ps ws V).length = ps.length := by simp [meanL]
theorem meanL_take (ps ws : List Int) (V : Nat → Int) {x : Nat} (hx : x < ps.length) : (meanL ps ws V).take (x + 1) = (meanL ps ws V).take x ++ [(nm (nth (totA ps ws V) x) (nth (sums ps ws) x), dn (nth (totA ps ws V) x) (nth (sums ps ws) x))] := by
  rw [List.take_succ_eq_append_getElem (by rw [meanL_length]; exact hx)]
  simp [meanL]
theorem meanL_root {ps ws : List Int} {V : Nat → Int} (h : 0 < ps.length) : Fr.at1 (meanL ps ws V) 0 = nm (nth (totA ps ws V) 0) (nth (sums ps ws) 0) ∧ Fr.at2 (meanL ps ws V) 0 = dn (nth (totA ps ws V) 0) (nth (sums ps ws) 0) := by
  constructor
  · rw [Fr.at1, meanL]; simp [List.getD, h]
  · rw [Fr.at2, meanL]; simp [List.getD, h]
/-- No pairs, sums and totals, just made, apart from each other. -/
def MeanR (u wc : World) (n : Nat) (s t : List Int) (v5 v6 v7 : Value) : Prop :=
  KeepR u wc ∧ ∃ (g5 : Nat) (a6 : Option Addr) (c6 : Nat) (a7 : Option Addr) (c7 : Nat), v5 = .slice (some ⟨g5, 0, none⟩) 0 0 ∧ v6 = .slice a6 n c6 ∧ v7 = .slice a7 n c7 ∧ Fr.Own wc u.heap.size v5 [] ∧ Ints wc a6 n s ∧ Ints wc a7 n t ∧ Apart a6 v5 ∧ Apart a7 v5
theorem mean_mk {u wc : World} {n : Nat} {s t : List Int} {v6 v7 : Value} {b5 b6 b7 g5 : Nat} (hk : KeepR u wc) (hs : s.length = n) (ht : t.length = n) (h5 : Fr.Own wc b5 (.slice (some ⟨g5, 0, none⟩) 0 0) []) (hb : u.heap.size ≤ b5) (h6 : Own wc b6 v6 s) (h7 : Own wc b7 v7 t)
    (s6 : ∀ q, v6.ownBlock = some q → q ≠ g5) (s7 : ∀ q, v7.ownBlock = some q → q ≠ g5) : MeanR u wc n s t (.slice (some ⟨g5, 0, none⟩) 0 0) v6 v7 := by
  obtain ⟨a6, c6, rfl⟩ := h6.shape
  obtain ⟨a7, c7, rfl⟩ := h7.shape
  rw [hs] at h6 s6 ⊢
  rw [ht] at h7 s7 ⊢
  refine ⟨hk, g5, a6, c6, a7, c7, rfl, rfl, rfl, h5.mono hb, h6.ints, h7.ints, fun p hp e => ?_, fun p hp e => ?_⟩
  · subst hp
    simp [Value.ownBlock] at e
    exact s6 _ rfl e.symm
  · subst hp
    simp [Value.ownBlock] at e
    exact s7 _ rfl e.symm
end Go.Proofs.YtnbomleieianoaaGreat

/- Contracts: the bound of a list, what a seer has, by the reference. -/
namespace Go.Proofs.YtnbomleieianoaaGreat
open Go.RowKit

/-- The values of the ends. -/
def grL (ps pay num : List Int) : List Int := (ends ps).map fun e => bdV ps pay num e.toNat
theorem grL_length (ps pay num : List Int) : (grL ps pay num).length = (ends ps).length := by simp [grL]
theorem nth_grL {ps pay num : List Int} {i e : Nat} (hi : i < (ends ps).length) (he : nth (ends ps) i = (e : Int)) : nth (grL ps pay num) i = bdV ps pay num e := by
  rw [nth_lt (by rw [grL_length]; exact hi)]
  rw [nth_lt hi] at he
  simp [grL, he]
theorem grL_take {ps pay num : List Int} {i e : Nat} (hi : i < (ends ps).length) (he : nth (ends ps) i = (e : Int)) : (grL ps pay num).take (i + 1) = (grL ps pay num).take i ++ [bdV ps pay num e] := by
  rw [take_succ_nth (by rw [grL_length]; exact hi), nth_grL hi he]
theorem bdV_bd {ps pay num : List Int} (h1 : ∀ i, -999 ≤ nth pay i ∧ nth pay i ≤ 999) (h2 : ∀ i, -999 ≤ nth num i ∧ nth num i ≤ 999) (e : Nat) : -2997 ≤ bdV ps pay num e ∧ bdV ps pay num e ≤ 2997 := by
  have := bdE_bd (ps := ps) h1 h2 e
  have := h2 0
  rw [bdV]; omega
end Go.Proofs.YtnbomleieianoaaGreat

/- Contracts: the bound of a balanced list, by the program and by the reference. -/
namespace Go.Proofs.YtnbomleieianoaaGreat
open Go.RowKit

theorem bb_no1 {ps ws pay num : List Int} (h : balV ps ws num = false) : bbB ps ws pay num = false := by rw [bbB, h]; rfl
theorem bb_no2 {ps ws pay num : List Int} (h : paysB ps ws pay = false) : bbB ps ws pay num = false := by rw [bbB, h]; simp
theorem bb_no3 {ps ws pay num : List Int} (h : paysB ps ws num = false) : bbB ps ws pay num = false := bb_no1 (balV_no h)
theorem bb_yes {ps ws pay num : List Int} (h1 : balV ps ws num = true) (h2 : paysB ps ws pay = true) : bbB ps ws pay num = true := by rw [bbB, h1, h2]; rfl
end Go.Proofs.YtnbomleieianoaaGreat

/- Plain law: the means of pays, and the process that they are. No conditions but those stated. -/
namespace Go.Proofs.YtnbomleieianoaaGreat

theorem hasE (ps : List Int) {x : Nat} (hx : x < ps.length) : hasB (ends ps) (x : Int) = endB ps x := by
  rw [Bool.eq_iff_iff, has_mem, ends, mem_filt]
  constructor
  · rintro ⟨i, _, h2, h3⟩
    have : x = i := by omega
    subst this; exact h2
  · exact fun h => ⟨x, hx, h, rfl⟩
theorem tot_en (ps ws : List Int) (V : Nat → Int) : totA ps ws V = gathA ps (enL ps (fun e => nth ws e * V e)) := by
  have : totK ps ws V (ends ps).length = enL ps (fun e => nth ws e * V e) := by
    unfold totK enL
    refine List.map_congr_left fun x hx => ?_
    rw [List.take_length, hasE ps (by simpa using hx)]
  rw [totA, this]
theorem totA_en (ps ws : List Int) (V : Nat → Int) (x : Nat) : nth (totA ps ws V) x = enG ps (fun e => nth ws e * V e) x := by rw [tot_en]; rfl
theorem tot_inner {ps ws : List Int} (h : Tr ps ws) (V : Nat → Int) {x : Nat} (hx : x < ps.length) (he : endB ps x = false) : nth (totA ps ws V) x = kidSum ps (fun y => nth (totA ps ws V) y) x ps.length := by
  rw [totA_en, enG_inner h.toPa _ hx he]
  exact kidSum_congr fun y _ _ => (totA_en ps ws V y).symm
/-- Totals of small values are small. -/
theorem tot_le {ps ws : List Int} (h : Tr ps ws) {V : Nat → Int} {B : Int} (hV : ∀ x, -B ≤ V x ∧ V x ≤ B) : ∀ x, x < ps.length → -(B * nth (sums ps ws) x) ≤ nth (totA ps ws V) x ∧ nth (totA ps ws V) x ≤ B * nth (sums ps ws) x := by
  refine h.toPa.below ?_
  intro x hx ih
  cases he : endB ps x
  · rw [tot_inner h V hx he, s_inner h hx he]
    have h1 := kidSum_le (ps := ps) (x := x) (f := fun y => nth (totA ps ws V) y) (g := fun y => B * nth (sums ps ws) y) (k := ps.length) fun y hy e => (ih y hy e).2
    have h2 := kidSum_le (ps := ps) (x := x) (f := fun y => (-B) * nth (sums ps ws) y) (g := fun y => nth (totA ps ws V) y) (k := ps.length) fun y hy e => by have := (ih y hy e).1; rw [Int.neg_mul]; exact this
    rw [kidSum_mul] at h1 h2
    rw [Int.neg_mul] at h2
    exact ⟨h2, h1⟩
  · rw [totA_en, enG_end h.toPa _ hx he, s_end h he]
    have hw := h.w0 x
    have h1 := Int.mul_le_mul_of_nonneg_left (hV x).2 hw.1
    have h2 := Int.mul_le_mul_of_nonneg_left (hV x).1 hw.1
    rw [Int.mul_neg] at h2
    rw [Int.mul_comm B]
    exact ⟨h2, h1⟩
theorem tot_bd999 {ps ws : List Int} (h : Tr ps ws) {V : Nat → Int} {B : Int} (hB : 0 ≤ B) (hV : ∀ x, -B ≤ V x ∧ V x ≤ B) {x : Nat} (hx : x < ps.length) : -(B * 480) ≤ nth (totA ps ws V) x ∧ nth (totA ps ws V) x ≤ B * 480 := by
  have h1 := tot_le h hV x hx
  have h2 := (sums_bd h x).2
  have h3 := Int.mul_le_mul_of_nonneg_left h2 hB
  omega
/-- May the pays be asked? -/
def epB (ps ws l : List Int) : Bool := treeB ps ws && ((l.length == (ends ps).length) && allIn l (-999) 999)
/-- The pay at an end. -/
def eV (ps l : List Int) (e : Nat) : Int := nth l ((ends ps).idxOf (e : Int))
theorem ends_nodup (ps : List Int) : (ends ps).Nodup := (filt_asc (endB ps) ps.length).imp fun h => by omega
theorem eV_at {ps l : List Int} {i e : Nat} (hi : i < (ends ps).length) (h : nth (ends ps) i = (e : Int)) : nth l i = eV ps l e := by
  have : (ends ps).idxOf (e : Int) = i := by
    rw [← h, nth_lt hi]
    exact (ends_nodup ps).idxOf_getElem i hi
  rw [eV, this]
theorem epB_t {ps ws l : List Int} (h : epB ps ws l = true) : Tr ps ws ∧ treeB ps ws = true ∧ l.length = (ends ps).length ∧ (∀ i, -999 ≤ nth l i ∧ nth l i ≤ 999) ∧ ∀ e, -999 ≤ eV ps l e ∧ eV ps l e ≤ 999 := by
  simp only [epB, Bool.and_eq_true, beq_iff_eq] at h
  have hl : ∀ i, -999 ≤ nth l i ∧ nth l i ≤ 999 := fun i => by
    by_cases hi : i < l.length
    · exact all_in h.2.2 hi
    · rw [nth_ge (by omega)]; omega
  exact ⟨treeB_t h.1, h.1, h.2.1, hl, fun e => hl _⟩
theorem ep_no1 {ps ws l : List Int} (h : treeB ps ws = false) : epB ps ws l = false := by rw [epB, h]; rfl
theorem ep_no2 {ps ws l : List Int} (h : ¬ l.length = (ends ps).length) : epB ps ws l = false := by simp [epB, h]
theorem ep_no3 {ps ws l : List Int} (h : allIn l (-999) 999 = false) : epB ps ws l = false := by simp [epB, h]
theorem ep_yes {ps ws l : List Int} (h : treeB ps ws = true) (h2 : l.length = (ends ps).length) (h3 : allIn l (-999) 999 = true) : epB ps ws l = true := by simp [epB, h, h2, h3]
/-- The means of pays, where they may be asked. -/
def mofV (ps ws l : List Int) : List (Int × Int) := if epB ps ws l then meanL ps ws (eV ps l) else []
theorem mofV_no {ps ws l : List Int} (h : epB ps ws l = false) : mofV ps ws l = [] := by rw [mofV, h]; rfl
theorem mofV_yes {ps ws l : List Int} (h : epB ps ws l = true) : mofV ps ws l = meanL ps ws (eV ps l) := by rw [mofV, if_pos h]
theorem meanL_at {ps ws : List Int} {V : Nat → Int} {x : Nat} (h : x < ps.length) : Fr.at1 (meanL ps ws V) x = nm (nth (totA ps ws V) x) (nth (sums ps ws) x) ∧ Fr.at2 (meanL ps ws V) x = dn (nth (totA ps ws V) x) (nth (sums ps ws) x) := by
  constructor
  · rw [Fr.at1, meanL]; simp [List.getD, h]
  · rw [Fr.at2, meanL]; simp [List.getD, h]
/-- Whether the means are a process of whole numbers, and that process. -/
def fpB (ps ws l : List Int) : Bool := epB ps ws l && (List.range ps.length).all fun x => Fr.at2 (meanL ps ws (eV ps l)) x == 1
def fpL (ps ws l : List Int) : List Int := (List.range ps.length).map fun x => Fr.at1 (meanL ps ws (eV ps l)) x
def fpV (ps ws l : List Int) : List Int := if fpB ps ws l then fpL ps ws l else []
theorem fp_no1 {ps ws l : List Int} (h : epB ps ws l = false) : fpB ps ws l = false := by rw [fpB, h]; rfl
theorem fp_no2 {ps ws l : List Int} {x : Nat} (hx : x < ps.length) (h : ¬ Fr.at2 (meanL ps ws (eV ps l)) x = 1) : fpB ps ws l = false := by
  rw [fpB, all_f hx (by simp [h]), Bool.and_false]
theorem fp_yes {ps ws l : List Int} (h : epB ps ws l = true) (h2 : ∀ x, x < ps.length → Fr.at2 (meanL ps ws (eV ps l)) x = 1) : fpB ps ws l = true := by
  rw [fpB, h, Bool.true_and]; exact all_t fun x hx => by simp [h2 x hx]
theorem fpV_no {ps ws l : List Int} (h : fpB ps ws l = false) : fpV ps ws l = [] := by rw [fpV, h]; rfl
theorem fpV_yes {ps ws l : List Int} (h : fpB ps ws l = true) : fpV ps ws l = fpL ps ws l := by rw [fpV, if_pos h]
theorem fpB_t {ps ws l : List Int} (h : fpB ps ws l = true) : epB ps ws l = true ∧ ∀ x, x < ps.length → Fr.at2 (meanL ps ws (eV ps l)) x = 1 := by
  rw [fpB, Bool.and_eq_true] at h
  exact ⟨h.1, fun x hx => by simpa using all_get h.2 hx⟩
theorem fpL_length (ps ws l : List Int) : (fpL ps ws l).length = ps.length := by simp [fpL]
theorem fpL_take (ps ws l : List Int) {x : Nat} (hx : x < ps.length) : (fpL ps ws l).take (x + 1) = (fpL ps ws l).take x ++ [Fr.at1 (meanL ps ws (eV ps l)) x] := by
  rw [take_succ_nth (by rw [fpL_length]; exact hx), fpL, nth_map_range hx]
theorem fp_tot {ps ws l : List Int} (h : fpB ps ws l = true) {x : Nat} (hx : x < ps.length) : nth (sums ps ws) x * nth (fpL ps ws l) x = nth (totA ps ws (eV ps l)) x := by
  obtain ⟨h1, h2⟩ := fpB_t h
  obtain ⟨hT, _⟩ := epB_t h1
  have hs := sums_pos hT x hx
  have hm := nm_mul (nth (totA ps ws (eV ps l)) x) (nth (sums ps ws) x) (by omega)
  have h3 := h2 x hx
  rw [(meanL_at hx).2] at h3
  rw [h3, Int.mul_one] at hm
  rw [fpL, nth_map_range hx, (meanL_at hx).1, Int.mul_comm]
  exact hm
/-- The means of pays are a fair process. -/
theorem fp_fair {ps ws l : List Int} (h : fpB ps ws l = true) : paysB ps ws (fpL ps ws l) = true ∧ balB ps ws (fpL ps ws l) = true := by
  obtain ⟨h1, h2⟩ := fpB_t h
  obtain ⟨hT, ht, _, _, hV⟩ := epB_t h1
  refine ⟨pays_both ht ?_, bal_yes fun x hx => ?_⟩
  · rw [procB, fpL_length]
    simp only [beq_self_eq_true, Bool.true_and]
    refine all_t fun i hi => ?_
    rw [fpL_length] at hi
    have h3 := fp_tot h hi
    have h4 := tot_le hT hV i hi
    have h5 := sums_pos hT i hi
    rw [← h3] at h4
    generalize nth (fpL ps ws l) i = v at *
    generalize nth (sums ps ws) i = s at *
    refine inB_mk ?_ ?_
    · exact Int.le_of_mul_le_mul_left (a := s) (by rw [Int.mul_neg, Int.mul_comm s 999]; exact h4.1) (by omega)
    · exact Int.le_of_mul_le_mul_left (a := s) (by rw [Int.mul_comm s 999]; exact h4.2) (by omega)
  · cases he : endB ps x
    · rw [(dr_bal hT hx)]
      refine .inr ?_
      rw [fp_tot h hx, tot_inner hT _ hx he]
      exact kidSum_congr fun y hy _ => (fp_tot h hy).symm
    · exact kidSum_end he (Nat.le_refl _)
end Go.Proofs.YtnbomleieianoaaGreat

/- Contracts: the nodes of a stopping on a way, what is a stopping, by the reference. -/
namespace Go.Proofs.YtnbomleieianoaaGreat
open Go.RowKit

set_option maxRecDepth 100000 in
set_option maxHeartbeats 1000000 in
theorem spec_l2Both (a1 : Option Addr) (n1 c1 : Nat) (xs : List Int) (a2 : Option Addr) (n2 c2 : Nat) (ys : List Int) (w : World) (h1 : Ints w a1 n1 xs) (h2 : Ints w a2 n2 ys) (hn1 : n1 ≤ 1048576) (hn2 : n2 ≤ 1048576) :
    Calls Tryz.prog 137 #[.slice a1 n1 c1, .slice a2 n2 c2] w fun e w' => ∃ v, e = .returned v ∧ Own w' w.heap.size v (xs.filter (hasB ys)) ∧ Below w.heap.size w w' := by
  have hl := Lib.hid h1.1
  have H1 := Lib.hid h1
  have H2 := Lib.hid h2
  clear h1 h2
  go_enter Tryz.func137, Tryz.ntmps137
  go_wp2_with fail
  have hnil := own_nil0 w
  have hb2 : Below w.heap.size w (w.alloc (.cells #[] 3)) := below_new _ _
  generalize (w.alloc (.cells #[] 3)) = w2 at *
  go_outline
  go_loopw [5, 6] (fun v8 v11 wr => ∃ k : Nat, k ≤ n1 ∧ v11 = .int .i64 (k : Int) ∧ Own wr w.heap.size v8 ((xs.take k).filter (hasB ys)) ∧ Below w.heap.size w wr) (fun _ v11 _ => n1 - (intOf v11).toNat)
  case atStart => exact ⟨0, Nat.zero_le _, rfl, by simpa using hnil, hb2⟩
  case round =>
    clear hnil hb2
    obtain ⟨k, hk, rfl, hown, hbel⟩ := hrel
    have hsz := hbel.size
    by_cases hlt : (k : Int) < n1
    · obtain ⟨b, off, rfl, hc⟩ := H1.out.at (i := k) hbel (by omega)
      have hlen : ((xs.take k).filter (hasB ys)).length ≤ k := by have := List.length_filter_le (hasB ys) (xs.take k); rw [List.length_take] at this; omega
      have Htk := Lib.hid (take_succ_nth (xs := xs) (k := k) (by rw [hl.out]; omega))
      have H2k := Lib.hid (H2.out.below hbel)
      cases he : hasB ys (nth xs k)
      · have Hf : Hid ((xs.take (k + 1)).filter (hasB ys) = (xs.take k).filter (hasB ys)) := Lib.hid (by rw [Htk.out, List.filter_append]; simp [he])
        have He := Lib.hid he
        generalize (xs.take k).filter (hasB ys) = acc at *
        generalize nth xs k = q at *
        clear he
        go_wp2_with (go_at_call 149; refine (spec_l1Has _ _ _ ys q _ hn2 H2k.out).mono ?_; rintro e w' ⟨rfl, rfl⟩; rw [He.out])
        go_roundw
        case rel => exact ⟨k + 1, by omega, by go_num, by rw [Hf.out]; exact hown, hbel⟩
        case measure => simp [intOf]; omega
      · have Hf : Hid ((xs.take (k + 1)).filter (hasB ys) = (xs.take k).filter (hasB ys) ++ [nth xs k]) := Lib.hid (by rw [Htk.out, List.filter_append]; simp [he])
        have He := Lib.hid he
        generalize (xs.take k).filter (hasB ys) = acc at *
        generalize nth xs k = q at *
        clear he
        go_wp2_with (first
          | (go_at_call 149; refine (spec_l1Has _ _ _ ys q _ hn2 H2k.out).mono ?_; rintro e w' ⟨rfl, rfl⟩; rw [He.out])
          | (at_builtin; refine wp_push _ _ rfl rfl w.heap.size _ _ rfl hown rfl (by omega) hsz ?_; intro v' w' ho hb))
        go_roundw
        case rel => exact ⟨k + 1, by omega, by go_num, by rw [Hf.out]; exact ho, hbel.trans hb⟩
        case measure => simp [intOf]; omega
    · obtain rfl : k = n1 := by omega
      go_wp2_with fail
      go_ret
      exact ⟨_, rfl, by rw [List.take_of_length_le (by rw [hl.out]; exact Nat.le_refl _)] at hown; exact hown, hbel⟩
end Go.Proofs.YtnbomleieianoaaGreat

/- Contracts: the nodes of a stopping on the way to a node, what is a stopping, by the reference. -/
namespace Go.Proofs.YtnbomleieianoaaGreat
open Go.RowKit

set_option maxRecDepth 100000 in
set_option maxHeartbeats 1000000 in
theorem spec_l3On (aP : Option Addr) (nP cP : Nat) (aW : Option Addr) (nW cW : Nat) (ps ws : List Int) (aR : Option Addr) (nR cR : Nat) (rule : List Int) (X : Nat) (w : World) (h : Tre w aP nP cP aW nW cW ps ws) (hp : Pa ps) (hR : Ints w aR nR rule) (hn : nR ≤ 1048576) (hx : X < nP) :
    Calls Tryz.prog 80 #[.agg #[.slice aP nP cP, .slice aW nW cW], .slice aR nR cR, .int .i64 (X : Int)] w fun e w' => ∃ v, e = .returned v ∧ Own w' w.heap.size v (rule.filter (hasB (way ps X))) ∧ Below w.heap.size w w' := by
  have Hp := Lib.hid hp
  have hn24 := hp.n24
  have hl := h.p.1
  have hlw := h.w.1
  have hpn := h.pn
  have hwn := h.wn
  have hb1 := below_new w (.cells #[.slice aP nP cP, .slice aW nW cW] 26)
  have hP1 := Lib.hid (Pair.new w (.slice aP nP cP) (.slice aW nW cW) 26)
  have H := Lib.hid h
  have Hl := Lib.hid hl
  have Hlw := Lib.hid hlw
  clear h hl hlw
  have hnP : nP ≤ 24 := by have := Hl.out; omega
  have hwl : (way ps X).length ≤ 24 := by have := way_length Hp.out X (by have := Hl.out; omega); omega
  have HR := Lib.hid hR
  clear hp hn24 hR
  go_enter Tryz.func80, Tryz.ntmps80
  have c0 := hP1.out.c0
  have c1 := hP1.out.c1
  go_wp2_with fail
  generalize (w.alloc (.cells #[.slice aP nP cP, .slice aW nW cW] 26)) = w2 at *
  go_wp2_with (first
    | (go_at_call 138; refine (spec_l2Way _ _ _ _ _ _ ps ws X _ (H.out.below hb1) Hp.out hx).mono ?_; rintro e w3 ⟨v3, rfl, ho3, hb3⟩; obtain ⟨a3, c3, rfl⟩ := ho3.shape; have hb13 := hb1.trans (hb3.mono hb1.size))
    | (go_at_call 137; refine (spec_l2Both _ _ _ rule _ _ _ (way ps X) _ (HR.out.below hb13) ho3.ints hn (by omega)).mono ?_; rintro e w4 ⟨v4, rfl, ho4, hb4⟩))
  go_ret
  exact ⟨_, rfl, ho4.mono (by have := hb13.size; omega), hb13.trans (hb4.mono hb13.size)⟩
set_option maxRecDepth 100000 in
set_option maxHeartbeats 1000000 in
theorem spec_l3Stop (aP : Option Addr) (nP cP : Nat) (aW : Option Addr) (nW cW : Nat) (ps ws : List Int) (aR : Option Addr) (nR cR : Nat) (rule : List Int) (w : World) (h : Tre w aP nP cP aW nW cW ps ws) (hp : Pa ps) (hR : Ints w aR nR rule) (hn : nR ≤ 1048576) :
    Calls Tryz.prog 85 #[.agg #[.slice aP nP cP, .slice aW nW cW], .slice aR nR cR] w fun e w' => e = .returned (.bool (stopB ps rule)) ∧ Below w.heap.size w w' := by
  have Hp := Lib.hid hp
  have hn24 := hp.n24
  have hl := h.p.1
  have hlw := h.w.1
  have hpn := h.pn
  have hwn := h.wn
  have hb1 := below_new w (.cells #[.slice aP nP cP, .slice aW nW cW] 26)
  have hP1 := Lib.hid (Pair.new w (.slice aP nP cP) (.slice aW nW cW) 26)
  have H := Lib.hid h
  have Hl := Lib.hid hl
  have Hlw := Lib.hid hlw
  clear h hl hlw
  have hnP : nP ≤ 24 := by have := Hl.out; omega
  have hn0 : 1 ≤ nP := by have := hp.n1; have := Hl.out; omega
  have HR := Lib.hid hR
  have Hrl := Lib.hid hR.1
  clear hp hn24 hR
  have Hcut : Hid (∀ (i x : Nat), i < (ends ps).length → nth (ends ps) i = (x : Int) → (rule.filter (hasB (way ps x))).length ≠ 1 → stopB ps rule = false) := Lib.hid fun i x h1 h2 h3 => l3_cut Hp.out h1 h2 h3
  have Hall : Hid ((∀ i, i < (ends ps).length → ∀ x : Nat, nth (ends ps) i = (x : Int) → (rule.filter (hasB (way ps x))).length = 1) → (risB rule && allIn rule 0 ((nP : Int) - 1)) = stopB ps rule) := Lib.hid fun h => by rw [← Hl.out]; exact l3_all Hp.out h
  go_enter Tryz.func85, Tryz.ntmps85
  have c0 := hP1.out.c0
  have c1 := hP1.out.c1
  go_wp2_with fail
  generalize (w.alloc (.cells #[.slice aP nP cP, .slice aW nW cW] 26)) = w2 at *
  refine (spec_l2Ends _ _ _ _ _ _ ps ws _ (H.out.below hb1) Hp.out).mono ?_
  rintro e w4 ⟨v4, rfl, ho4, hb4⟩
  obtain ⟨a4, c4, rfl⟩ := ho4.shape
  have HE := Lib.hid ho4.ints
  have HP4 := Lib.hid (hP1.out.below hb4)
  have hb14 := hb1.trans (hb4.mono hb1.size)
  have hel : (ends ps).length ≤ 24 := by have := filt_length (endB ps) ps.length; have := Hl.out; rw [ends]; omega
  have Hen : Hid (∀ i, i < (ends ps).length → ∃ e : Nat, e < nP ∧ nth (ends ps) i = (e : Int)) := Lib.hid fun i hi => by
    obtain ⟨e, h1, h2, h3⟩ := end_nth hi
    exact ⟨e, by have := Hl.out; omega, h3⟩
  clear ho4 hb4 hP1 hb1 c0 c1
  generalize ends ps = es at *
  go_wp2_with fail
  go_loopw [6] (fun v6 wr => ∃ i : Nat, i ≤ es.length ∧ v6 = .int .i64 (i : Int) ∧ (∀ j, j < i → ∀ x : Nat, nth es j = (x : Int) → (rule.filter (hasB (way ps x))).length = 1) ∧ Ints wr a4 es.length es ∧ Pair wr w.heap.size (.slice aP nP cP) (.slice aW nW cW) ∧ Below w.heap.size w wr) (fun v6 _ => es.length - (intOf v6).toNat)
  case atStart => exact ⟨0, Nat.zero_le _, rfl, fun j hj => by omega, HE.out, HP4.out, hb14⟩
  case round =>
    clear hb14 HE HP4
    obtain ⟨i, hi, rfl, hsf, hen, hP, hbel⟩ := hrel
    have x0 := hP.c0
    have x1 := hP.c1
    have HP := Lib.hid hP
    have HE := Lib.hid hen
    have Hsf := Lib.hid hsf
    clear hP hen hsf
    by_cases hlt : (i : Int) < es.length
    · obtain ⟨be, oe, rfl, hce⟩ := HE.out.at (i := i) (Below.refl _ _) (by omega)
      obtain ⟨e, he, hei⟩ := Hen.out i (by omega)
      rw [hei] at hce
      have Hcl : Hid (∀ W : World, Below w.heap.size w W → Calls Tryz.prog 80 #[.agg #[.slice aP nP cP, .slice aW nW cW], .slice aR nR cR, .int .i64 (e : Int)] W fun e' w' => ∃ v, e' = .returned v ∧ Own w' W.heap.size v (rule.filter (hasB (way ps e))) ∧ Below W.heap.size W w') := Lib.hid fun W hW => spec_l3On _ _ _ _ _ _ ps ws aR nR cR rule e W (H.out.below hW) Hp.out (HR.out.below hW) hn he
      have hfl : (rule.filter (hasB (way ps e))).length ≤ 1048576 := by have := List.length_filter_le (hasB (way ps e)) rule; have := Hrl.out; omega
      have Hcut' : Hid ((rule.filter (hasB (way ps e))).length ≠ 1 → stopB ps rule = false) := Lib.hid fun h => Hcut.out i e (by omega) hei h
      have Hone : Hid ((rule.filter (hasB (way ps e))).length = 1 → ∀ j, j < i + 1 → ∀ x : Nat, nth es j = (x : Int) → (rule.filter (hasB (way ps x))).length = 1) := Lib.hid fun h j hj x hx => by
        by_cases ee : j = i
        · subst ee
          obtain rfl : x = e := by omega
          exact h
        · exact Hsf.out j (by omega) x hx
      clear hei
      generalize rule.filter (hasB (way ps e)) = on at *
      by_cases h1 : (on.length : Int) = 1
      · have Hn := Lib.hid (Hone.out (by omega))
        go_wp2_with fail
        go_region_held3 (fun W' => KeepR wr W' ∧ W'.cell? ⟨w.heap.size, 0, none⟩ = some (.slice aP nP cP) ∧ W'.cell? ⟨w.heap.size, 1, none⟩ = some (.slice aW nW cW) ∧ W'.cell? ⟨be, oe + i, none⟩ = some (.int .i64 (e : Int)))
          (first | exact keepC3 (by assumption) x0 x1 hce | exact keepC3 (KeepR.start _) x0 x1 hce)
          ((go_at_call 80; refine (Hcl.out _ (hbel.trans (Below.mono (by assumption : KeepR wr _ ∧ _).1 hbel.size))).mono ?_; rintro e' w6 ⟨v6, rfl, ho6, b6⟩; obtain ⟨a6, c6, rfl⟩ := ho6.shape; have hk6 := KeepR.next b6 (by assumption : KeepR wr _ ∧ _).1))
        go_wp2_with fail
        have hk6' : Below wr.heap.size wr w6 := hk6
        go_roundw
        case rel => exact ⟨i + 1, by omega, by go_num, Hn.out, HE.out.below hk6', HP.out.below hk6', hbel.trans (hk6'.mono hbel.size)⟩
        case measure => simp [intOf]; omega
      · have Hv := Lib.hid (Hcut'.out (by omega))
        go_wp2_with fail
        go_region_held3 (fun W' => KeepR wr W' ∧ W'.cell? ⟨w.heap.size, 0, none⟩ = some (.slice aP nP cP) ∧ W'.cell? ⟨w.heap.size, 1, none⟩ = some (.slice aW nW cW) ∧ W'.cell? ⟨be, oe + i, none⟩ = some (.int .i64 (e : Int)))
          (first | exact keepC3 (by assumption) x0 x1 hce | exact keepC3 (KeepR.start _) x0 x1 hce)
          ((go_at_call 80; refine (Hcl.out _ (hbel.trans (Below.mono (by assumption : KeepR wr _ ∧ _).1 hbel.size))).mono ?_; rintro e' w6 ⟨v6, rfl, ho6, b6⟩; obtain ⟨a6, c6, rfl⟩ := ho6.shape; have hk6 := KeepR.next b6 (by assumption : KeepR wr _ ∧ _).1))
        go_wp2_with fail
        have hk6' : Below wr.heap.size wr w6 := hk6
        go_ret
        exact ⟨by rw [Hv.out]; rfl, hbel.trans (hk6'.mono hbel.size)⟩
    · obtain rfl : i = es.length := by omega
      have Hv := Lib.hid (Hall.out Hsf.out)
      go_wp2_with (go_at_call 144; refine (spec_l1Rising _ _ _ _ _ rule _ hn (HR.out.below hbel)).mono ?_; rintro e w5 ⟨rfl, hb5⟩)
      go_ret
      exact ⟨by rw [← Hv.out]; rfl, hbel.trans (hb5.mono hbel.size)⟩
end Go.Proofs.YtnbomleieianoaaGreat

/- Contracts: whether a process and a stopping are valid, whether a list is a stopping, by the reference. -/
namespace Go.Proofs.YtnbomleieianoaaGreat
open Go.RowKit

set_option maxRecDepth 100000 in
set_option maxHeartbeats 2000000 in
theorem spec_l3Both (aP : Option Addr) (nP cP : Nat) (aW : Option Addr) (nW cW : Nat) (ps ws : List Int) (aL : Option Addr) (nL cL : Nat) (l : List Int) (aS : Option Addr) (nS cS : Nat) (rule : List Int) (w : World) (h : Tre w aP nP cP aW nW cW ps ws) (hL : Ints w aL nL l) (hn : nL ≤ 1048576) (hS : Ints w aS nS rule) (hnS : nS ≤ 1048576) :
    Calls Tryz.prog 74 #[.agg #[.slice aP nP cP, .slice aW nW cW], .slice aL nL cL, .slice aS nS cS] w fun e w' => e = .returned (.bool (paysB ps ws l && stopB ps rule)) ∧ Below w.heap.size w w' := by
  have HS := Lib.hid hS
  clear hS
  have hl := h.p.1
  have hlw := h.w.1
  have hpn := h.pn
  have hwn := h.wn
  have hb1 := below_new w (.cells #[.slice aP nP cP, .slice aW nW cW] 26)
  have hP1 := Lib.hid (Pair.new w (.slice aP nP cP) (.slice aW nW cW) 26)
  have H := Lib.hid h
  have Hl := Lib.hid hl
  have Hlw := Lib.hid hlw
  clear h hl hlw
  have HL := Lib.hid hL
  clear hL
  go_enter Tryz.func74, Tryz.ntmps74
  have c0 := hP1.out.c0
  have c1 := hP1.out.c1
  go_wp2_with fail
  generalize (w.alloc (.cells #[.slice aP nP cP, .slice aW nW cW] 26)) = w2 at *
  refine (spec_l3Good _ _ _ _ _ _ ps ws _ _ _ l _ (H.out.below hb1) (HL.out.below hb1) hn).mono ?_
  rintro e w3 ⟨rfl, hb3⟩
  have hP3 := hP1.out.below hb3
  have d0 := hP3.c0
  have d1 := hP3.c1
  have hb13 := hb1.trans (hb3.mono hb1.size)
  clear hP3 c0 c1 hb3
  cases hT : paysB ps ws l
  · have Hv := Lib.hid hT
    clear hT
    go_wp2_with fail
    go_ret
    exact ⟨by rw [Hv.out]; rfl, hb13⟩
  have hpa := (paysB_t hT).1.toPa
  have Hv := Lib.hid hT
  clear hT
  go_wp2_with fail
  refine (spec_l3Stop _ _ _ _ _ _ ps ws _ _ _ rule _ (H.out.below hb13) hpa (HS.out.below hb13) hnS).mono ?_
  rintro e w4 ⟨rfl, hb4⟩
  have hb14 := hb13.trans (hb4.mono hb13.size)
  go_wp2_with fail
  go_ret
  exact ⟨by rw [Hv.out, Bool.true_and]; rfl, hb14⟩
set_option maxRecDepth 100000 in
set_option maxHeartbeats 1000000 in
theorem spec_IsStopping (aP : Option Addr) (nP cP : Nat) (aW : Option Addr) (nW cW : Nat) (ps ws : List Int) (aL : Option Addr) (nL cL : Nat) (l : List Int) (w : World) (h : Tre w aP nP cP aW nW cW ps ws) (hL : Ints w aL nL l) (_hLc : aL = none → cL = 0) (hn : nL ≤ 1048576) :
    Calls Tryz.prog 20 #[.agg #[.slice aP nP cP, .slice aW nW cW], .slice aL nL cL] w fun e w' => e = .returned (.tuple #[.bool (isRuleV ps ws l), .bool (treeB ps ws)]) ∧ Below w.heap.size w w' := by
  have hl := h.p.1
  have hlw := h.w.1
  have hpn := h.pn
  have hwn := h.wn
  have hb1 := below_new w (.cells #[.slice aP nP cP, .slice aW nW cW] 26)
  have hP1 := Lib.hid (Pair.new w (.slice aP nP cP) (.slice aW nW cW) 26)
  have H := Lib.hid h
  have Hl := Lib.hid hl
  have Hlw := Lib.hid hlw
  clear h hl hlw
  have HL := Lib.hid hL
  clear hL
  go_enter Tryz.func20, Tryz.ntmps20
  have c0 := hP1.out.c0
  have c1 := hP1.out.c1
  go_wp2_with fail
  generalize (w.alloc (.cells #[.slice aP nP cP, .slice aW nW cW] 26)) = w2 at *
  refine (spec_l2Good _ _ _ _ _ _ ps ws _ (H.out.below hb1)).mono ?_
  rintro e w3 ⟨rfl, hb3⟩
  have hP3 := hP1.out.below hb3
  have d0 := hP3.c0
  have d1 := hP3.c1
  have hb13 := hb1.trans (hb3.mono hb1.size)
  clear hP3 c0 c1 hb3 hP1
  cases hT : treeB ps ws
  · have Hv := Lib.hid (isRule_no (rule := l) hT)
    have HT := Lib.hid hT
    clear hT
    go_wp2_with fail
    go_ret2
    exact ⟨by rw [Hv.out, HT.out]; rfl, hb13⟩
  have Hv := Lib.hid (isRule_yes (rule := l) hT)
  have HTr := Lib.hid (treeB_t hT)
  have HT := Lib.hid hT
  clear hT
  go_wp2_with fail
  refine (spec_l3Stop _ _ _ _ _ _ ps ws _ _ _ l _ (H.out.below hb13) HTr.out.toPa (HL.out.below hb13) hn).mono ?_
  rintro e w4 ⟨rfl, hb4⟩
  go_wp2_with fail
  go_ret2
  exact ⟨by rw [Hv.out, HT.out]; rfl, hb13.trans (hb4.mono hb13.size)⟩
end Go.Proofs.YtnbomleieianoaaGreat
