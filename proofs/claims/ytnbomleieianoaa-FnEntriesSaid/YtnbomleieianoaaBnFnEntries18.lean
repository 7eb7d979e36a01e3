/- Contracts and plain laws for the statement FnEntries, part 18. No conditions but those stated in each. -/
import Derived.Test.YtnbomleieianoaaBnFnEntries11
import Derived.Test.YtnbomleieianoaaBnFnEntries5
import Derived.Deep.DeepCutAuto
import Derived.Deep.Cut
import Derived.Test.YtnbomleieianoaaBnFnEntries14
/- Contracts: the places of a stopping's nodes over the ends, two stoppings merged, by the program. -/
namespace Go.Proofs.Ytnbomleieianoaa
open Go.RowKit

/-- Where the node of a stopping on the way to an end stands in the list. -/
def ovI (ps nodes : List Int) (e : Int) : Int := idxI nodes (stop ps (hasB nodes) e.toNat)
theorem nth_map {xs : List Int} {f : Int → Int} {i : Nat} (h : i < xs.length) : nth (xs.map f) i = f (nth xs i) := by
  rw [nth_lt (by simpa using h), nth_lt h]; simp
theorem ov_at {ps nodes : List Int} (h : stopB ps nodes = true) (hp : Pa ps) {e : Nat} (he : e < ps.length) (he2 : endB ps e = true) : ∃ i : Nat, i < nodes.length ∧ ovI ps nodes (e : Int) = (i : Int) ∧ nth nodes i = stop ps (hasB nodes) e := by
  obtain ⟨s, _, hs2, hs3, _⟩ := sole_mem h hp he he2
  rw [ovI, Int.toNat_natCast, hs2]
  have : idxI nodes (s : Int) = -1 ∨ ∃ i : Nat, i < nodes.length ∧ nth nodes i = (s : Int) ∧ idxI nodes (s : Int) = (i : Int) := idx_cases nodes s
  rcases this with h1 | ⟨i, hi, h2, h3⟩
  · obtain ⟨i, hi, hie⟩ := hasB_mem hs3
    exact absurd h1 (idx_pos hi hie)
  · exact ⟨i, hi, h3, h2⟩
theorem mem_wayI {ps : List Int} {x : Nat} {rest : List Int} {e : Nat} (hp : Pa ps) (hx : x < ps.length) (h : way ps e = wayI ps (x : Int) ++ rest) : (x : Int) ∈ way ps e := by
  rw [h, wayI_up hp hx]; simp
theorem ov_hit {ps nodes : List Int} (h : stopB ps nodes = true) (hp : Pa ps) {e x : Nat} (he : e < ps.length) (he2 : endB ps e = true) (hx : x < ps.length) {rest : List Int} (hw : way ps e = wayI ps (x : Int) ++ rest) (hh : hasB nodes (x : Int) = true) : idxI nodes (x : Int) = ovI ps nodes (e : Int) ∧ 0 ≤ ovI ps nodes (e : Int) := by
  have h1 := sole_one h he he2 (mem_wayI hp hx hw) hh
  obtain ⟨i, _, h3, _⟩ := ov_at h hp he he2
  refine ⟨by rw [ovI, Int.toNat_natCast, ← h1], by omega⟩
theorem ov_miss {nodes : List Int} {y : Int} (hh : hasB nodes y = false) : idxI nodes y = -1 := idx_no fun i hi e => by rw [has_t hi e] at hh; cases hh
theorem ov_end {ps nodes : List Int} (h : stopB ps nodes = true) (hp : Pa ps) {e : Nat} (he : e < ps.length) (he2 : endB ps e = true) (hno : ∀ y, y ∈ way ps e → hasB nodes y = false) : False := by
  obtain ⟨s, _, _, h3, h4⟩ := sole_mem h hp he he2
  rw [hno _ h4] at h3; cases h3
set_option maxRecDepth 100000 in
set_option maxHeartbeats 1000000 in
theorem impl_over (aP : Option Addr) (nP cP : Nat) (aW : Option Addr) (nW cW : Nat) (ps ws : List Int) (aR : Option Addr) (nR cR : Nat) (rule : List Int) (w : World) (h : Tre w aP nP cP aW nW cW ps ws) (hp : Pa ps) (hR : Ints w aR nR rule) (hn : nR ≤ 1048576) (hst : stopB ps rule = true) :
    Calls Try.prog 134 #[.agg #[.slice aP nP cP, .slice aW nW cW], .slice aR nR cR] w fun e w' => ∃ v, e = .returned v ∧ Own w' w.heap.size v ((ends ps).map (ovI ps rule)) ∧ Below w.heap.size w w' := by
  have Hp := Lib.hid hp
  have Hst := Lib.hid hst
  have hn24 := hp.n24
  have hl := h.p.1
  have hlw := h.w.1
  have hpn := h.pn
  have hwn := h.wn
  have hb1 := below_new w (.cells #[.slice aP nP cP, .slice aW nW cW] 26)
  have hP1 := Lib.hid (Pair.new w (.slice aP nP cP) (.slice aW nW cW) 26)
  have H := Lib.hid h
  have Hl := Lib.hid hl
  have Hlw := Lib.hid hlw
  clear h hl hlw
  have hnP : nP ≤ 24 := by have := Hl.out; omega
  have HR := Lib.hid hR
  have Hrl := Lib.hid hR.1
  clear hp hn24 hR hst
  go_enter Try.func134, Try.ntmps134
  go_wp2_with fail
  have hnil := own_nil0 (w.alloc (.cells #[.slice aP nP cP, .slice aW nW cW] 26))
  rw [show (w.alloc (.cells #[.slice aP nP cP, .slice aW nW cW] 26)).heap.size = w.heap.size + 1 by simp] at hnil
  have hb2 : Below w.heap.size w ((w.alloc (.cells #[.slice aP nP cP, .slice aW nW cW] 26)).alloc (.cells #[] 3)) := hb1.alloc (by simp) _
  have hP2 := Lib.hid (hP1.out.alloc (.cells #[] 3))
  have hs2 : ((w.alloc (.cells #[.slice aP nP cP, .slice aW nW cW] 26)).alloc (.cells #[] 3)).heap.size = w.heap.size + 2 := by simp
  have c0 := hP2.out.c0
  have c1 := hP2.out.c1
  generalize ((w.alloc (.cells #[.slice aP nP cP, .slice aW nW cW] 26)).alloc (.cells #[] 3)) = w2 at *
  clear hP1 hb1
  go_wp2_with fail
  refine (impl_ends _ _ _ _ _ _ ps ws _ (H.out.below hb2) Hp.out).mono ?_
  rintro e w3 ⟨v, rfl, ho, hb3⟩
  obtain ⟨a3, c3, rfl⟩ := ho.shape
  have HE := Lib.hid ho.ints
  have HP3 := Lib.hid (hP2.out.below hb3)
  have hown0 := Lib.hid (hnil.below hb3)
  have hb13 := hb2.trans (hb3.mono hb2.size)
  have hel : (ends ps).length ≤ 24 := by have := filt_length (endB ps) ps.length; have := Hl.out; rw [ends]; omega
  have hap0 : Hid (0 < (ends ps).length → Apart a3 (Value.slice (some ⟨w.heap.size + 1, 0, none⟩) 0 0)) := Lib.hid fun h0 p hp e => by
    obtain ⟨g, cap, he, hg, _⟩ := ho.form h0
    cases he
    cases hp
    simp [Value.ownBlock] at e
    omega
  clear ho hnil hb3 hb2 hP2 hs2 c0 c1
  have Hen : Hid (∀ i, i < (ends ps).length → ∃ e : Nat, e < nP ∧ endB ps e = true ∧ nth (ends ps) i = (e : Int)) := Lib.hid fun i hi => by
    obtain ⟨e, h1, h2, h3⟩ := end_nth hi
    exact ⟨e, by have := Hl.out; omega, h2, h3⟩
  generalize hes : ends ps = es at *
  have Hes := Lib.hid hes
  clear hes
  go_wp2_with fail
  go_loopw [5, 14] (fun v5 v14 wr => ∃ k : Nat, k ≤ es.length ∧ v14 = .int .i64 (k : Int) ∧ Own wr (w.heap.size + 1) v5 ((es.take k).map (ovI ps rule)) ∧ Ints wr a3 es.length es ∧ (0 < es.length → Apart a3 v5) ∧ Pair wr w.heap.size (.slice aP nP cP) (.slice aW nW cW) ∧ Below w.heap.size w wr) (fun _ v14 _ => es.length - (intOf v14).toNat)
  case atStart => exact ⟨0, Nat.zero_le _, rfl, by simpa using hown0.out, HE.out, hap0.out, HP3.out, hb13⟩
  case round =>
    clear hb13 hown0 HE hap0 HP3
    obtain ⟨k, hk, rfl, hown, hE, hap, hP, hbel⟩ := hrel
    have HE := Lib.hid hE
    have Hap := Lib.hid hap
    have HP := Lib.hid hP
    have hsz : w.heap.size + 1 ≤ wr.heap.size := hP.lt
    have x0 := hP.c0
    have x1 := hP.c1
    clear hE hap hP
    by_cases hlt : (k : Int) < es.length
    · obtain ⟨be, oe, rfl, hce⟩ := HE.out.at (i := k) (Below.refl _ _) (by omega)
      obtain ⟨e, he, he2, hei⟩ := Hen.out k (by omega)
      rw [hei] at hce
      have hlen : ((es.take k).map (ovI ps rule)).length ≤ 24 := by rw [List.length_map, List.length_take]; omega
      have Hf : Hid ((es.take (k + 1)).map (ovI ps rule) = (es.take k).map (ovI ps rule) ++ [ovI ps rule (e : Int)]) := Lib.hid (by rw [take_succ_nth (by omega), List.map_append, hei]; rfl)
      have he' : e < ps.length := by have := Hl.out; omega
      have HcI : Hid (∀ y : Int, Calls Try.prog 133 #[.slice aR nR cR, .int .i64 y] wr fun e1 w' => e1 = .returned (.int .i64 (idxI rule y)) ∧ w' = wr) := Lib.hid fun y => c_index _ _ _ rule y _ (HR.out.below hbel) hn
      have Hhit : Hid (∀ (x : Nat) (rest : List Int), x < nP → way ps e = wayI ps (x : Int) ++ rest → hasB rule (x : Int) = true → idxI rule (x : Int) = ovI ps rule (e : Int) ∧ 0 ≤ ovI ps rule (e : Int)) := Lib.hid fun x rest hx hw hh => ov_hit Hst.out Hp.out he' he2 (by have := Hl.out; omega) hw hh
      have Hmiss : Hid ((∀ y, y ∈ way ps e → hasB rule y = false) → False) := Lib.hid fun hno => ov_end Hst.out Hp.out he' he2 hno
      have Hov : Hid (∃ i : Nat, i < nR ∧ ovI ps rule (e : Int) = (i : Int)) := Lib.hid (by obtain ⟨i, h1, h2, _⟩ := ov_at Hst.out Hp.out he' he2; exact ⟨i, by have := Hrl.out; omega, h2⟩)
      clear he2 hei
      generalize ovI ps rule (e : Int) = ov at *
      generalize (es.take k).map (ovI ps rule) = acc at *
      go_wp2_with fail
      go_loop [8, 9] (fun v7 v8 => ∃ x a : Int, -1 ≤ x ∧ x < nP ∧ v8 = .int .i64 x ∧ v7 = .int .i64 a ∧ ((a = -1 ∧ ∃ rest, way ps e = wayI ps x ++ rest ∧ ∀ y, y ∈ rest → hasB rule y = false) ∨ (a = ov ∧ 0 ≤ a))) (fun _ v8 => (intOf v8 + 1).toNat)
      case atStart => exact ⟨e, -1, by omega, by omega, rfl, rfl, .inl ⟨rfl, [], by rw [wayI_nat]; simp, fun y hy => by simp at hy⟩⟩
      case round =>
        obtain ⟨x, a, hx0, hxn, rfl, rfl, hdis⟩ := hrel
        by_cases hx : x ≥ 0
        · obtain ⟨X, rfl⟩ : ∃ X : Nat, x = X := ⟨x.toNat, by omega⟩
          obtain ⟨bp, op, rfl, hcp⟩ := H.out.p.at (i := X) hbel (by omega)
          by_cases ha : a < 0
          · obtain ⟨rest, hway, hrest⟩ : ∃ rest, way ps e = wayI ps (X : Int) ++ rest ∧ ∀ y, y ∈ rest → hasB rule y = false := by
              rcases hdis with ⟨_, h1⟩ | ⟨_, h2⟩
              · exact h1
              · omega
            have hXl : X < ps.length := by have := Hl.out; omega
            have Hup := Lib.hid (wayI_up Hp.out hXl)
            have hpar : -1 ≤ nth ps X ∧ nth ps X < (X : Int) := by
              rcases Nat.eq_zero_or_pos X with rfl | h0
              · rw [Hp.out.p0]; omega
              · have := Hp.out.up X (by omega) hXl; omega
            have Hway := Lib.hid hway
            have Hrest := Lib.hid hrest
            clear hdis hway hrest
            generalize hq0 : nth ps X = q at *
            have hq := Lib.hid hq0
            clear hq0
            cases hh : hasB rule (X : Int)
            · have Hm := Lib.hid (ov_miss hh)
              have Hh := Lib.hid hh
              have HcX : Hid (Calls Try.prog 133 #[.slice aR nR cR, .int .i64 (X : Int)] wr fun e1 w' => e1 = .returned (.int .i64 (-1)) ∧ w' = wr) := Lib.hid (by rw [← Hm.out]; exact HcI.out _)
              clear hh
              go_wp2_with (go_at_call 133; refine HcX.out.mono ?_; rintro e1 w' ⟨rfl, rfl⟩)
              go_round
              case rel => exact ⟨q, -1, by omega, by omega, rfl, rfl, .inl ⟨rfl, (X : Int) :: rest, by rw [Hway.out, Hup.out]; simp, fun y hy => by
                rw [List.mem_cons] at hy
                rcases hy with rfl | hy
                · exact Hh.out
                · exact Hrest.out y hy⟩⟩
              case measure => simp [intOf]; omega
            · obtain ⟨hi1, hi2⟩ := Hhit.out X rest (by omega) Hway.out hh
              have HcX : Hid (Calls Try.prog 133 #[.slice aR nR cR, .int .i64 (X : Int)] wr fun e1 w' => e1 = .returned (.int .i64 ov) ∧ w' = wr) := Lib.hid (by rw [← hi1]; exact HcI.out _)
              clear hh hi1
              go_wp2_with (go_at_call 133; refine HcX.out.mono ?_; rintro e1 w' ⟨rfl, rfl⟩)
              go_round
              case rel => exact ⟨q, ov, by omega, by omega, rfl, rfl, .inr ⟨rfl, hi2⟩⟩
              case measure => simp [intOf]; omega
          · obtain ⟨rfl, _⟩ : a = ov ∧ 0 ≤ a := by
              rcases hdis with ⟨h1, _⟩ | h2
              · omega
              · exact h2
            clear hdis
            go_wp2_with (at_builtin; refine wp_push2 (.tmp 33) (.tmp 35) rfl rfl (w.heap.size + 1) _ _ rfl hown rfl (by omega) hsz ?_; intro v' w' ho hb hm)
            have hE2 := HE.out.moved hm Hap.out
            go_roundw
            case rel => exact ⟨k + 1, by omega, by go_num, by rw [Hf.out]; exact ho, hE2.1, hE2.2, HP.out.up hb (by omega), hbel.trans (hb.mono (by omega))⟩
            case measure => simp [intOf]; omega
        · obtain rfl : x = -1 := by omega
          obtain ⟨rfl, hov0⟩ : a = ov ∧ 0 ≤ a := by
            rcases hdis with ⟨_, rest, h1, h2⟩ | h2
            · exact (Hmiss.out fun y hy => by
                rw [h1] at hy
                simp [wayI] at hy
                exact h2 y hy).elim
            · exact h2
          clear hdis
          go_wp2_with (at_builtin; refine wp_push2 (.tmp 33) (.tmp 35) rfl rfl (w.heap.size + 1) _ _ rfl hown rfl (by omega) hsz ?_; intro v' w' ho hb hm)
          have hE2 := HE.out.moved hm Hap.out
          go_roundw
          case rel => exact ⟨k + 1, by omega, by go_num, by rw [Hf.out]; exact ho, hE2.1, hE2.2, HP.out.up hb (by omega), hbel.trans (hb.mono (by omega))⟩
          case measure => simp [intOf]; omega
    · obtain rfl : k = es.length := by omega
      go_wp2_with fail
      go_ret
      exact ⟨_, rfl, by rw [Hes.out]; rw [List.take_length] at hown; exact hown.mono (Nat.le_succ _), hbel⟩
/-- A new empty slice and two lists of places, just made, apart from it. -/
def MergeR (u wc : World) (n : Nat) (f g : List Int) (v5 v6 v7 : Value) : Prop :=
  KeepR u wc ∧ ∃ (g5 : Nat) (a6 : Option Addr) (c6 : Nat) (a7 : Option Addr) (c7 : Nat), v5 = .slice (some ⟨g5, 0, none⟩) 0 0 ∧ v6 = .slice a6 n c6 ∧ v7 = .slice a7 n c7 ∧ Own wc u.heap.size v5 [] ∧ Ints wc a6 n f ∧ Ints wc a7 n g ∧ (0 < n → Apart a6 v5) ∧ (0 < n → Apart a7 v5)
theorem own_apart {w : World} {base g : Nat} {a : Option Addr} {n c : Nat} {xs : List Int} (h : Own w base (.slice a n c) xs) (hn : xs.length = n) (hg : ∀ q, (Value.slice a n c).ownBlock = some q → q ≠ g) : 0 < n → Apart a (.slice (some ⟨g, 0, none⟩) 0 0) := fun h0 p hp e => by
  obtain ⟨q, cap, he, _, _⟩ := h.form (by omega)
  cases he
  cases hp
  simp [Value.ownBlock] at e
  exact hg q rfl e.symm
theorem merge_mk {u wc : World} {n : Nat} {f g : List Int} {v6 v7 : Value} {b5 b6 b7 g5 : Nat} (hk : KeepR u wc) (hf : f.length = n) (hg : g.length = n) (h5 : Own wc b5 (.slice (some ⟨g5, 0, none⟩) 0 0) []) (hb : u.heap.size ≤ b5) (h6 : Own wc b6 v6 f) (h7 : Own wc b7 v7 g)
    (s6 : ∀ q, v6.ownBlock = some q → q ≠ g5) (s7 : ∀ q, v7.ownBlock = some q → q ≠ g5) : MergeR u wc n f g (.slice (some ⟨g5, 0, none⟩) 0 0) v6 v7 := by
  obtain ⟨a6, c6, rfl⟩ := h6.shape
  obtain ⟨a7, c7, rfl⟩ := h7.shape
  rw [hf] at h6 s6 ⊢
  rw [hg] at h7 s7 ⊢
  exact ⟨hk, g5, a6, c6, a7, c7, rfl, rfl, rfl, h5.mono hb, h6.ints, h7.ints, own_apart h6 hf s6, own_apart h7 hg s7⟩
set_option maxRecDepth 100000 in
set_option maxHeartbeats 1000000 in
theorem impl_merged (aP : Option Addr) (nP cP : Nat) (aW : Option Addr) (nW cW : Nat) (ps ws : List Int) (a1 : Option Addr) (n1 cA : Nat) (a : List Int) (a2 : Option Addr) (n2 cB : Nat) (b : List Int) (early : Bool) (w : World) (h : Tre w aP nP cP aW nW cW ps ws) (hp : Pa ps) (h1 : Ints w a1 n1 a) (h2 : Ints w a2 n2 b) (hn1 : n1 ≤ 1048576) (hn2 : n2 ≤ 1048576) (ha : stopB ps a = true) (hb : stopB ps b = true) :
    Calls Try.prog 141 #[.agg #[.slice aP nP cP, .slice aW nW cW], .slice a1 n1 cA, .slice a2 n2 cB, .bool early] w fun e w' => ∃ v, e = .returned v ∧ Own w' w.heap.size v (mergeV ps a b early) ∧ Below w.heap.size w w' := by
  have Hp := Lib.hid hp
  have Ha := Lib.hid ha
  have Hb := Lib.hid hb
  have hn24 := hp.n24
  have hl := h.p.1
  have hlw := h.w.1
  have hpn := h.pn
  have hwn := h.wn
  have hb1 := below_new w (.cells #[.slice aP nP cP, .slice aW nW cW] 26)
  have hP1 := Lib.hid (Pair.new w (.slice aP nP cP) (.slice aW nW cW) 26)
  have H := Lib.hid h
  have Hl := Lib.hid hl
  have Hlw := Lib.hid hlw
  clear h hl hlw
  have hnP : nP ≤ 24 := by have := Hl.out; omega
  have H1 := Lib.hid h1
  have H2 := Lib.hid h2
  clear hp hn24 h1 h2 ha hb
  have Hml : Hid (∀ r, ((ends ps).map (ovI ps r)).length = (ends ps).length) := Lib.hid fun r => List.length_map _
  have hel : (ends ps).length ≤ 24 := by have := filt_length (endB ps) ps.length; have := Hl.out; rw [ends]; omega
  go_enter Try.func141, Try.ntmps141
  have c0 := hP1.out.c0
  have c1 := hP1.out.c1
  go_upto_region 1 with fail
  generalize (w.alloc (.cells #[.slice aP nP cP, .slice aW nW cW] 26)) = w2 at *
  go_cut [9, 10, 11] (fun v9 v10 v11 wc => MergeR w2 wc (ends ps).length ((ends ps).map (ovI ps a)) ((ends ps).map (ovI ps b)) v9 v10 v11)
  case first =>
    refine wp_region_noPanic ?_
    refine wp_region_held_drew (S := fun W' => KeepR w2 W' ∧ W'.cell? ⟨w.heap.size, 0, none⟩ = some (.slice aP nP cP) ∧ W'.cell? ⟨w.heap.size, 1, none⟩ = some (.slice aW nW cW)) (by kernel_rfl) ?_ (fun hHeld0 => ?_)
    · (try dsimp only); first | exact keep2 (by assumption) hP1.out | exact keep2 (KeepR.alloc0 _ _) hP1.out | exact keep2 (KeepR.start _) hP1.out | exact keep2 (KeepR.alloc (by assumption : KeepR w2 _ ∧ _).1 _) hP1.out | exact keep2 (KeepR.alloc (by assumption : KeepR w2 _ ∧ _).1 _).drew hP1.out
    refine takeH (i := 1) (oi := _) (v := ?_) rfl (by kernel_rfl) (by kernel_rfl) (by kernel_rfl) (fun _ _ _ h => h) (Or.inl ⟨by rfl, ?_⟩) (by assumption) ?_
    rotate_left
    · first | (intro w hSw; (try dsimp only at hSw); go_simp; done) | (intro w hSw; (try dsimp only at hSw); go_simp; with_reducible rfl)
    (try simp only [Act.put, List.setIfInBounds_toArray, List.set_cons_zero, List.set_cons_succ])
    refine takeH (i := 2) (oi := _) (v := ?_) rfl (by kernel_rfl) (by kernel_rfl) (by kernel_rfl) (fun _ _ _ h => h) (Or.inl ⟨by rfl, ?_⟩) (by assumption) ?_
    rotate_left
    · first | (intro w hSw; (try dsimp only at hSw); go_simp; done) | (intro w hSw; (try dsimp only at hSw); go_simp; with_reducible rfl)
    (try simp only [Act.put, List.setIfInBounds_toArray, List.set_cons_zero, List.set_cons_succ])
    refine takeH (i := 4) (oi := _) (v := ?_) rfl (by kernel_rfl) (by kernel_rfl) (by kernel_rfl) (fun _ _ _ h => h) (Or.inl ⟨by rfl, ?_⟩) (by assumption) ?_
    rotate_left
    · first | (intro w hSw; (try dsimp only at hSw); go_simp; done) | (intro w hSw; (try dsimp only at hSw); go_simp; with_reducible rfl)
    (try simp only [Act.put, List.setIfInBounds_toArray, List.set_cons_zero, List.set_cons_succ])
    refine takeH (i := 5) (oi := _) (v := ?_) rfl (by kernel_rfl) (by kernel_rfl) (by kernel_rfl) (fun _ _ _ h => h) (Or.inl ⟨by rfl, ?_⟩) (by assumption) ?_
    rotate_left
    · first | (intro w hSw; (try dsimp only at hSw); go_simp; done) | (intro w hSw; (try dsimp only at hSw); go_simp; with_reducible rfl)
    (try simp only [Act.put, List.setIfInBounds_toArray, List.set_cons_zero, List.set_cons_succ])
    refine wpAnyH_ready (rs := [0, 3]) (by kernel_rfl) (by simp) ?_
    refine consM rfl (fun Kq hKq => ?_) (consH rfl (fun Kq hKq => ?_))
    · go_simp
      refine hKq.out _ _ ?_ (fun hHeld1 => ?_)
      · (try dsimp only); first | exact keep2 (by assumption) hP1.out | exact keep2 (KeepR.alloc0 _ _) hP1.out | exact keep2 (KeepR.start _) hP1.out | exact keep2 (KeepR.alloc (by assumption : KeepR w2 _ ∧ _).1 _) hP1.out | exact keep2 (KeepR.alloc (by assumption : KeepR w2 _ ∧ _).1 _).drew hP1.out
      clear hKq Kq
      (try simp only [Act.put, List.setIfInBounds_toArray, List.set_cons_zero, List.set_cons_succ])
      clear hHeld0
      refine wpAnyH_ready (rs := [3]) (by kernel_rfl) (by simp) ?_
      refine consH rfl (fun Kq hKq => ?_)
      go_simp
      (go_at_call 134; refine (impl_over _ _ _ _ _ _ ps ws a1 n1 cA a _ (H.out.below (hb1.trans (Below.mono (by assumption : KeepR w2 _ ∧ _).1 hb1.size))) Hp.out (H1.out.below (hb1.trans (Below.mono (by assumption : KeepR w2 _ ∧ _).1 hb1.size))) hn1 Ha.out).mono ?_; rintro e w5 ⟨v5, rfl, o5, b5⟩; have hk5 := KeepR.next b5 (by assumption : KeepR w2 _ ∧ _).1)
      refine hKq.out _ _ ?_ (fun hHeld2 => ?_)
      · (try dsimp only); first | exact keep2 (by assumption) hP1.out | exact keep2 (KeepR.alloc0 _ _) hP1.out | exact keep2 (KeepR.start _) hP1.out | exact keep2 (KeepR.alloc (by assumption : KeepR w2 _ ∧ _).1 _) hP1.out | exact keep2 (KeepR.alloc (by assumption : KeepR w2 _ ∧ _).1 _).drew hP1.out
      clear hKq Kq
      (try simp only [Act.put, List.setIfInBounds_toArray, List.set_cons_zero, List.set_cons_succ])
      clear hHeld1
      refine wpAnyH_ready (rs := [6]) (by kernel_rfl) (by simp) ?_
      refine consH rfl (fun Kq hKq => ?_)
      go_simp
      (go_at_call 134; refine (impl_over _ _ _ _ _ _ ps ws a2 n2 cB b _ (H.out.below (hb1.trans (Below.mono (by assumption : KeepR w2 _ ∧ _).1 hb1.size))) Hp.out (H2.out.below (hb1.trans (Below.mono (by assumption : KeepR w2 _ ∧ _).1 hb1.size))) hn2 Hb.out).mono ?_; rintro e w6 ⟨v6, rfl, o6, b6⟩; have hk6 := KeepR.next b6 (by assumption : KeepR w2 _ ∧ _).1)
      refine hKq.out _ _ ?_ (fun hHeld3 => ?_)
      · (try dsimp only); first | exact keep2 (by assumption) hP1.out | exact keep2 (KeepR.alloc0 _ _) hP1.out | exact keep2 (KeepR.start _) hP1.out | exact keep2 (KeepR.alloc (by assumption : KeepR w2 _ ∧ _).1 _) hP1.out | exact keep2 (KeepR.alloc (by assumption : KeepR w2 _ ∧ _).1 _).drew hP1.out
      clear hKq Kq
      (try simp only [Act.put, List.setIfInBounds_toArray, List.set_cons_zero, List.set_cons_succ])
      clear hHeld2
      refine takeH (i := 7) (oi := _) (v := ?_) rfl (by kernel_rfl) (by kernel_rfl) (by kernel_rfl) (fun _ _ _ h => h) (Or.inl ⟨by rfl, ?_⟩) (by assumption) ?_
      rotate_left
      · first | (intro w hSw; (try dsimp only at hSw); go_simp; done) | (intro w hSw; (try dsimp only at hSw); go_simp; with_reducible rfl)
      (try simp only [Act.put, List.setIfInBounds_toArray, List.set_cons_zero, List.set_cons_succ])
      refine takeH (i := 8) (oi := _) (v := ?_) rfl (by kernel_rfl) (by kernel_rfl) (by kernel_rfl) (fun _ _ _ h => h) (Or.inl ⟨by rfl, ?_⟩) (by assumption) ?_
      rotate_left
      · first | (intro w hSw; (try dsimp only at hSw); go_simp; done) | (intro w hSw; (try dsimp only at hSw); go_simp; with_reducible rfl)
      (try simp only [Act.put, List.setIfInBounds_toArray, List.set_cons_zero, List.set_cons_succ])
      refine takeH (i := 9) (oi := _) (v := ?_) rfl (by kernel_rfl) (by kernel_rfl) (by kernel_rfl) (fun _ _ _ h => h) (Or.inl ⟨by rfl, ?_⟩) (by assumption) ?_
      rotate_left
      · first | (intro w hSw; (try dsimp only at hSw); go_simp; done) | (intro w hSw; (try dsimp only at hSw); go_simp; with_reducible rfl)
      (try simp only [Act.put, List.setIfInBounds_toArray, List.set_cons_zero, List.set_cons_succ])
      refine wpAnyH_done (by kernel_rfl) ?_ _
      refine NoPanic.normal ?_
      go_wp2_with fail
      go_meet
      first
        | exact merge_mk hk6 (Hml.out a) (Hml.out b) (((own_nil0 w2).below b5).below b6) (Nat.le_refl _) (o5.below b6) o6 (fun q hq => by have := (World.ownsRow.lt o5 q hq).1; simp at this; omega) (fun q hq => by have := (World.ownsRow.lt o6 q hq).1; have := b5.size; simp at this; omega)
        | exact merge_mk hk6 (Hml.out a) (Hml.out b) ((((own_nil0 w2).below (Below.refl _ _).drew).below b5).below b6) (Nat.le_refl _) (o5.below b6) o6 (fun q hq => by have := (World.ownsRow.lt o5 q hq).1; simp at this; omega) (fun q hq => by have := (World.ownsRow.lt o6 q hq).1; have := b5.size; simp at this; omega)
        | exact merge_mk hk6 (Hml.out a) (Hml.out b) ((own_nil0 w5).below b6) (Below.size hk5) ((o5.below (below_new w5 _)).below b6) o6 (fun q hq => by have := (World.ownsRow.lt o5 q hq).2; omega) (fun q hq => by have := (World.ownsRow.lt o6 q hq).1; simp at this; omega)
        | exact merge_mk (KeepR.alloc hk6 _) (Hml.out a) (Hml.out b) (own_nil0 w6) (Below.size hk6) ((o5.below b6).below (below_new w6 _)) (o6.below (below_new w6 _)) (fun q hq => by have := (World.ownsRow.lt (o5.below b6) q hq).2; omega) (fun q hq => by have := (World.ownsRow.lt o6 q hq).2; omega)
    · go_simp
      (go_at_call 134; refine (impl_over _ _ _ _ _ _ ps ws a1 n1 cA a _ (H.out.below (hb1.trans (Below.mono (by assumption : KeepR w2 _ ∧ _).1 hb1.size))) Hp.out (H1.out.below (hb1.trans (Below.mono (by assumption : KeepR w2 _ ∧ _).1 hb1.size))) hn1 Ha.out).mono ?_; rintro e w5 ⟨v5, rfl, o5, b5⟩; have hk5 := KeepR.next b5 (by assumption : KeepR w2 _ ∧ _).1)
      refine hKq.out _ _ ?_ (fun hHeld1 => ?_)
      · (try dsimp only); first | exact keep2 (by assumption) hP1.out | exact keep2 (KeepR.alloc0 _ _) hP1.out | exact keep2 (KeepR.start _) hP1.out | exact keep2 (KeepR.alloc (by assumption : KeepR w2 _ ∧ _).1 _) hP1.out | exact keep2 (KeepR.alloc (by assumption : KeepR w2 _ ∧ _).1 _).drew hP1.out
      clear hKq Kq
      (try simp only [Act.put, List.setIfInBounds_toArray, List.set_cons_zero, List.set_cons_succ])
      clear hHeld0
      refine wpAnyH_ready (rs := [0, 6]) (by kernel_rfl) (by simp) ?_
      refine consM rfl (fun Kq hKq => ?_) (consH rfl (fun Kq hKq => ?_))
      · go_simp
        refine hKq.out _ _ ?_ (fun hHeld2 => ?_)
        · (try dsimp only); first | exact keep2 (by assumption) hP1.out | exact keep2 (KeepR.alloc0 _ _) hP1.out | exact keep2 (KeepR.start _) hP1.out | exact keep2 (KeepR.alloc (by assumption : KeepR w2 _ ∧ _).1 _) hP1.out | exact keep2 (KeepR.alloc (by assumption : KeepR w2 _ ∧ _).1 _).drew hP1.out
        clear hKq Kq
        (try simp only [Act.put, List.setIfInBounds_toArray, List.set_cons_zero, List.set_cons_succ])
        clear hHeld1
        refine wpAnyH_ready (rs := [6]) (by kernel_rfl) (by simp) ?_
        refine consH rfl (fun Kq hKq => ?_)
        go_simp
        (go_at_call 134; refine (impl_over _ _ _ _ _ _ ps ws a2 n2 cB b _ (H.out.below (hb1.trans (Below.mono (by assumption : KeepR w2 _ ∧ _).1 hb1.size))) Hp.out (H2.out.below (hb1.trans (Below.mono (by assumption : KeepR w2 _ ∧ _).1 hb1.size))) hn2 Hb.out).mono ?_; rintro e w6 ⟨v6, rfl, o6, b6⟩; have hk6 := KeepR.next b6 (by assumption : KeepR w2 _ ∧ _).1)
        refine hKq.out _ _ ?_ (fun hHeld3 => ?_)
        · (try dsimp only); first | exact keep2 (by assumption) hP1.out | exact keep2 (KeepR.alloc0 _ _) hP1.out | exact keep2 (KeepR.start _) hP1.out | exact keep2 (KeepR.alloc (by assumption : KeepR w2 _ ∧ _).1 _) hP1.out | exact keep2 (KeepR.alloc (by assumption : KeepR w2 _ ∧ _).1 _).drew hP1.out
        clear hKq Kq
        (try simp only [Act.put, List.setIfInBounds_toArray, List.set_cons_zero, List.set_cons_succ])
        clear hHeld2
        refine takeH (i := 7) (oi := _) (v := ?_) rfl (by kernel_rfl) (by kernel_rfl) (by kernel_rfl) (fun _ _ _ h => h) (Or.inl ⟨by rfl, ?_⟩) (by assumption) ?_
        rotate_left
        · first | (intro w hSw; (try dsimp only at hSw); go_simp; done) | (intro w hSw; (try dsimp only at hSw); go_simp; with_reducible rfl)
        (try simp only [Act.put, List.setIfInBounds_toArray, List.set_cons_zero, List.set_cons_succ])
        refine takeH (i := 8) (oi := _) (v := ?_) rfl (by kernel_rfl) (by kernel_rfl) (by kernel_rfl) (fun _ _ _ h => h) (Or.inl ⟨by rfl, ?_⟩) (by assumption) ?_
        rotate_left
        · first | (intro w hSw; (try dsimp only at hSw); go_simp; done) | (intro w hSw; (try dsimp only at hSw); go_simp; with_reducible rfl)
        (try simp only [Act.put, List.setIfInBounds_toArray, List.set_cons_zero, List.set_cons_succ])
        refine takeH (i := 9) (oi := _) (v := ?_) rfl (by kernel_rfl) (by kernel_rfl) (by kernel_rfl) (fun _ _ _ h => h) (Or.inl ⟨by rfl, ?_⟩) (by assumption) ?_
        rotate_left
        · first | (intro w hSw; (try dsimp only at hSw); go_simp; done) | (intro w hSw; (try dsimp only at hSw); go_simp; with_reducible rfl)
        (try simp only [Act.put, List.setIfInBounds_toArray, List.set_cons_zero, List.set_cons_succ])
        refine wpAnyH_done (by kernel_rfl) ?_ _
        refine NoPanic.normal ?_
        go_wp2_with fail
        go_meet
        first
          | exact merge_mk hk6 (Hml.out a) (Hml.out b) (((own_nil0 w2).below b5).below b6) (Nat.le_refl _) (o5.below b6) o6 (fun q hq => by have := (World.ownsRow.lt o5 q hq).1; simp at this; omega) (fun q hq => by have := (World.ownsRow.lt o6 q hq).1; have := b5.size; simp at this; omega)
          | exact merge_mk hk6 (Hml.out a) (Hml.out b) ((((own_nil0 w2).below (Below.refl _ _).drew).below b5).below b6) (Nat.le_refl _) (o5.below b6) o6 (fun q hq => by have := (World.ownsRow.lt o5 q hq).1; simp at this; omega) (fun q hq => by have := (World.ownsRow.lt o6 q hq).1; have := b5.size; simp at this; omega)
          | exact merge_mk hk6 (Hml.out a) (Hml.out b) ((own_nil0 w5).below b6) (Below.size hk5) ((o5.below (below_new w5 _)).below b6) o6 (fun q hq => by have := (World.ownsRow.lt o5 q hq).2; omega) (fun q hq => by have := (World.ownsRow.lt o6 q hq).1; simp at this; omega)
          | exact merge_mk (KeepR.alloc hk6 _) (Hml.out a) (Hml.out b) (own_nil0 w6) (Below.size hk6) ((o5.below b6).below (below_new w6 _)) (o6.below (below_new w6 _)) (fun q hq => by have := (World.ownsRow.lt (o5.below b6) q hq).2; omega) (fun q hq => by have := (World.ownsRow.lt o6 q hq).2; omega)
      · go_simp
        (go_at_call 134; refine (impl_over _ _ _ _ _ _ ps ws a2 n2 cB b _ (H.out.below (hb1.trans (Below.mono (by assumption : KeepR w2 _ ∧ _).1 hb1.size))) Hp.out (H2.out.below (hb1.trans (Below.mono (by assumption : KeepR w2 _ ∧ _).1 hb1.size))) hn2 Hb.out).mono ?_; rintro e w6 ⟨v6, rfl, o6, b6⟩; have hk6 := KeepR.next b6 (by assumption : KeepR w2 _ ∧ _).1)
        refine hKq.out _ _ ?_ (fun hHeld2 => ?_)
        · (try dsimp only); first | exact keep2 (by assumption) hP1.out | exact keep2 (KeepR.alloc0 _ _) hP1.out | exact keep2 (KeepR.start _) hP1.out | exact keep2 (KeepR.alloc (by assumption : KeepR w2 _ ∧ _).1 _) hP1.out | exact keep2 (KeepR.alloc (by assumption : KeepR w2 _ ∧ _).1 _).drew hP1.out
        clear hKq Kq
        (try simp only [Act.put, List.setIfInBounds_toArray, List.set_cons_zero, List.set_cons_succ])
        clear hHeld1
        refine wpAnyH_ready (rs := [0]) (by kernel_rfl) (by simp) ?_
        refine consH rfl (fun Kq hKq => ?_)
        go_simp
        refine hKq.out _ _ ?_ (fun hHeld3 => ?_)
        · (try dsimp only); first | exact keep2 (by assumption) hP1.out | exact keep2 (KeepR.alloc0 _ _) hP1.out | exact keep2 (KeepR.start _) hP1.out | exact keep2 (KeepR.alloc (by assumption : KeepR w2 _ ∧ _).1 _) hP1.out | exact keep2 (KeepR.alloc (by assumption : KeepR w2 _ ∧ _).1 _).drew hP1.out
        clear hKq Kq
        (try simp only [Act.put, List.setIfInBounds_toArray, List.set_cons_zero, List.set_cons_succ])
        clear hHeld2
        refine takeH (i := 7) (oi := _) (v := ?_) rfl (by kernel_rfl) (by kernel_rfl) (by kernel_rfl) (fun _ _ _ h => h) (Or.inl ⟨by rfl, ?_⟩) (by assumption) ?_
        rotate_left
        · first | (intro w hSw; (try dsimp only at hSw); go_simp; done) | (intro w hSw; (try dsimp only at hSw); go_simp; with_reducible rfl)
        (try simp only [Act.put, List.setIfInBounds_toArray, List.set_cons_zero, List.set_cons_succ])
        refine takeH (i := 8) (oi := _) (v := ?_) rfl (by kernel_rfl) (by kernel_rfl) (by kernel_rfl) (fun _ _ _ h => h) (Or.inl ⟨by rfl, ?_⟩) (by assumption) ?_
        rotate_left
        · first | (intro w hSw; (try dsimp only at hSw); go_simp; done) | (intro w hSw; (try dsimp only at hSw); go_simp; with_reducible rfl)
        (try simp only [Act.put, List.setIfInBounds_toArray, List.set_cons_zero, List.set_cons_succ])
        refine takeH (i := 9) (oi := _) (v := ?_) rfl (by kernel_rfl) (by kernel_rfl) (by kernel_rfl) (fun _ _ _ h => h) (Or.inl ⟨by rfl, ?_⟩) (by assumption) ?_
        rotate_left
        · first | (intro w hSw; (try dsimp only at hSw); go_simp; done) | (intro w hSw; (try dsimp only at hSw); go_simp; with_reducible rfl)
        (try simp only [Act.put, List.setIfInBounds_toArray, List.set_cons_zero, List.set_cons_succ])
        refine wpAnyH_done (by kernel_rfl) ?_ _
        refine NoPanic.normal ?_
        go_wp2_with fail
        go_meet
        first
          | exact merge_mk hk6 (Hml.out a) (Hml.out b) (((own_nil0 w2).below b5).below b6) (Nat.le_refl _) (o5.below b6) o6 (fun q hq => by have := (World.ownsRow.lt o5 q hq).1; simp at this; omega) (fun q hq => by have := (World.ownsRow.lt o6 q hq).1; have := b5.size; simp at this; omega)
          | exact merge_mk hk6 (Hml.out a) (Hml.out b) ((((own_nil0 w2).below (Below.refl _ _).drew).below b5).below b6) (Nat.le_refl _) (o5.below b6) o6 (fun q hq => by have := (World.ownsRow.lt o5 q hq).1; simp at this; omega) (fun q hq => by have := (World.ownsRow.lt o6 q hq).1; have := b5.size; simp at this; omega)
          | exact merge_mk hk6 (Hml.out a) (Hml.out b) ((own_nil0 w5).below b6) (Below.size hk5) ((o5.below (below_new w5 _)).below b6) o6 (fun q hq => by have := (World.ownsRow.lt o5 q hq).2; omega) (fun q hq => by have := (World.ownsRow.lt o6 q hq).1; simp at this; omega)
          | exact merge_mk (KeepR.alloc hk6 _) (Hml.out a) (Hml.out b) (own_nil0 w6) (Below.size hk6) ((o5.below b6).below (below_new w6 _)) (o6.below (below_new w6 _)) (fun q hq => by have := (World.ownsRow.lt (o5.below b6) q hq).2; omega) (fun q hq => by have := (World.ownsRow.lt o6 q hq).2; omega)
    all_goals exact foo
  case rest =>
    obtain ⟨hk5, g9, a10, c10, a11, c11, rfl, rfl, rfl, o9, i10, i11, s10, s11⟩ := hcut
    have hk5b : Below w2.heap.size w2 wc := hk5
    have hb15 := hb1.trans (hk5b.mono hb1.size)
    have HO := Lib.hid o9
    have G10 := Lib.hid i10
    have G11 := Lib.hid i11
    have R10 := Lib.hid s10
    have R11 := Lib.hid s11
    have hw2 : w.heap.size ≤ w2.heap.size := hb1.size
    have hw2c : w2.heap.size ≤ wc.heap.size := hk5b.size
    have H1' := Lib.hid (H1.out.below hb15)
    have H2' := Lib.hid (H2.out.below hb15)
    have HPL : Hid (∀ k, k < (ends ps).length → ∃ i j : Nat, i < n1 ∧ j < n2 ∧ nth ((ends ps).map (ovI ps a)) k = (i : Int) ∧ nth ((ends ps).map (ovI ps b)) k = (j : Int) ∧ nth ((ends ps).map fun e => pickI early (stop ps (hasB a) e.toNat) (stop ps (hasB b) e.toNat)) k = pickI early (nth a i) (nth b j)) := Lib.hid fun k hk => by
      obtain ⟨e, h1, h2, h3⟩ := end_nth hk
      obtain ⟨i, q1, q2, q3⟩ := ov_at Ha.out Hp.out h1 h2
      obtain ⟨j, r1, r2, r3⟩ := ov_at Hb.out Hp.out h1 h2
      have l1 := H1.out.1
      have l2 := H2.out.1
      refine ⟨i, j, by omega, by omega, ?_, ?_, ?_⟩
      · rw [nth_map hk, h3, q2]
      · rw [nth_map hk, h3, r2]
      · rw [nth_map hk, h3, Int.toNat_natCast, q3, r3]
    have Hres := Lib.hid (merge_eq Hp.out Ha.out Hb.out early)
    have Hlen : Hid (((ends ps).map fun e => pickI early (stop ps (hasB a) e.toNat) (stop ps (hasB b) e.toNat)).length = (ends ps).length) := Lib.hid (List.length_map _)
    clear i10 i11 s10 s11 o9 hk5 hk5b hb1 Hml
    generalize ((ends ps).map fun e => pickI early (stop ps (hasB a) e.toNat) (stop ps (hasB b) e.toNat)) = PL at *
    generalize ((ends ps).map (ovI ps a)) = F at *
    generalize ((ends ps).map (ovI ps b)) = G at *
    generalize (ends ps).length = m at *
    generalize hU : w2.heap.size = U at *
    clear hU
    go_wp2_with fail
    go_loopw [9, 24] (fun v9 v24 wr => ∃ k : Nat, k ≤ m ∧ v24 = .int .i64 (k : Int) ∧ Own wr U v9 (PL.take k) ∧ Ints wr a10 m F ∧ Ints wr a11 m G ∧ (0 < m → Apart a10 v9) ∧ (0 < m → Apart a11 v9) ∧ Below w.heap.size w wr ∧ U ≤ wr.heap.size) (fun _ v24 _ => m - (intOf v24).toNat)
    case atStart => exact ⟨0, Nat.zero_le _, rfl, by simpa using HO.out, G10.out, G11.out, R10.out, R11.out, hb15, hw2c⟩
    case round =>
      clear hb15 HO G10 G11 R10 R11 hw2c H1' H2'
      obtain ⟨k, hk, rfl, hown, h10, h11, hp10, hp11, hbel, hsz⟩ := hrel
      have G10 := Lib.hid h10
      have G11 := Lib.hid h11
      have R10 := Lib.hid hp10
      have R11 := Lib.hid hp11
      have H1' := Lib.hid (H1.out.below hbel)
      have H2' := Lib.hid (H2.out.below hbel)
      clear h10 h11 hp10 hp11
      by_cases hlt : (k : Int) < m
      · obtain ⟨i, j, hi, hj, e1, e2, e3⟩ := HPL.out k (by omega)
        obtain ⟨bF, oF, rfl, hcF⟩ := G10.out.at (i := k) (Below.refl _ _) (by omega)
        obtain ⟨bG, oG, rfl, hcG⟩ := G11.out.at (i := k) (Below.refl _ _) (by omega)
        obtain ⟨bA, oA, rfl, hcA⟩ := H1'.out.at (i := i) (Below.refl _ _) (by omega)
        obtain ⟨bB, oB, rfl, hcB⟩ := H2'.out.at (i := j) (Below.refl _ _) (by omega)
        rw [e1] at hcF
        rw [e2] at hcG
        clear e1 e2
        have hlen : (PL.take k).length ≤ 24 := by rw [List.length_take]; omega
        have Hf : Hid (PL.take (k + 1) = PL.take k ++ [pickI early (nth a i) (nth b j)]) := Lib.hid (by rw [take_succ_nth (by have := Hlen.out; omega), e3])
        clear e3
        have k1 : (0 : Int) ≤ (k : Int) := by omega
        have k2 : (k : Int) < (m : Int) := hlt
        have k3 : (0 : Int) ≤ (i : Int) := by omega
        have k4 : (i : Int) < (n1 : Int) := by omega
        have k5 : (0 : Int) ≤ (j : Int) := by omega
        have k6 : (j : Int) < (n2 : Int) := by omega
        generalize nth a i = X at *
        generalize nth b j = Y at *
        cases early <;> by_cases hYX : Y < X
        · have Hv : Hid (pickI false X Y = X) := Lib.hid (by simp [pickI, hYX])
          rw [Hv.out] at Hf
          clear Hv
          go_wp2_with (first
            | (at_builtin; refine wp_push2 (.tmp 47) (.tmp 49) rfl rfl U _ _ rfl hown rfl (by omega) hsz ?_; intro v' w' ho hb hm)
            | go_quiet (fail))
          have h10 := G10.out.moved hm R10.out
          have h11 := G11.out.moved hm R11.out
          go_roundw
          case rel => exact ⟨k + 1, by omega, by go_num, by rw [Hf.out]; exact ho, h10.1, h11.1, h10.2, h11.2, (below_drewN hbel _).trans (hb.mono hw2), by have := hb.size; simp at this; omega⟩
          case measure => simp [intOf]; omega
        · have Hv : Hid (pickI false X Y = Y) := Lib.hid (by simp [pickI, hYX])
          rw [Hv.out] at Hf
          clear Hv
          go_wp2_with (first
            | (at_builtin; refine wp_push2 (.tmp 47) (.tmp 49) rfl rfl U _ _ rfl hown rfl (by omega) hsz ?_; intro v' w' ho hb hm)
            | go_quiet (fail))
          have h10 := G10.out.moved hm R10.out
          have h11 := G11.out.moved hm R11.out
          go_roundw
          case rel => exact ⟨k + 1, by omega, by go_num, by rw [Hf.out]; exact ho, h10.1, h11.1, h10.2, h11.2, (below_drewN hbel _).trans (hb.mono hw2), by have := hb.size; simp at this; omega⟩
          case measure => simp [intOf]; omega
        · have Hv : Hid (pickI true X Y = Y) := Lib.hid (by simp [pickI, hYX])
          rw [Hv.out] at Hf
          clear Hv
          go_wp2_with (first
            | (at_builtin; refine wp_push2 (.tmp 47) (.tmp 49) rfl rfl U _ _ rfl hown rfl (by omega) hsz ?_; intro v' w' ho hb hm)
            | go_quiet (fail))
          have h10 := G10.out.moved hm R10.out
          have h11 := G11.out.moved hm R11.out
          go_roundw
          case rel => exact ⟨k + 1, by omega, by go_num, by rw [Hf.out]; exact ho, h10.1, h11.1, h10.2, h11.2, (below_drewN hbel _).trans (hb.mono hw2), by have := hb.size; simp at this; omega⟩
          case measure => simp [intOf]; omega
        · have Hv : Hid (pickI true X Y = X) := Lib.hid (by simp [pickI, hYX])
          rw [Hv.out] at Hf
          clear Hv
          go_wp2_with (first
            | (at_builtin; refine wp_push2 (.tmp 47) (.tmp 49) rfl rfl U _ _ rfl hown rfl (by omega) hsz ?_; intro v' w' ho hb hm)
            | go_quiet (fail))
          have h10 := G10.out.moved hm R10.out
          have h11 := G11.out.moved hm R11.out
          go_roundw
          case rel => exact ⟨k + 1, by omega, by go_num, by rw [Hf.out]; exact ho, h10.1, h11.1, h10.2, h11.2, (below_drewN hbel _).trans (hb.mono hw2), by have := hb.size; simp at this; omega⟩
          case measure => simp [intOf]; omega
      · obtain rfl : k = m := by omega
        have hPl : PL.take k = PL := List.take_of_length_le (by have := Hlen.out; omega)
        rw [hPl] at hown
        have hpl24 : PL.length ≤ 24 := by have := Hlen.out; omega
        clear hPl
        obtain ⟨av, cv, rfl⟩ := hown.shape
        go_wp2_with (first
          | (go_at_call 161; refine (c_sort _ _ _ _ PL _ hown (by omega) hsz).mono ?_; rintro e w5 ⟨rfl, ho5, hb5⟩)
          | (go_at_call 162; refine (c_compact _ _ _ _ _ _ ho5 (by omega)).mono ?_; rintro e w6 ⟨v6, rfl, ho6, hb6⟩))
        go_ret
        exact ⟨_, rfl, by rw [← Hres.out]; exact ho6.mono hw2, hbel.trans ((hb5.mono hw2).trans (hb6.mono hw2))⟩
end Go.Proofs.Ytnbomleieianoaa

/- Contracts: the earlier and the later one of two stoppings, and whether one is no later, by the program. -/
namespace Go.Proofs.Ytnbomleieianoaa
open Go.RowKit

def twoB (ps ws a b : List Int) : Bool := treeB ps ws && (stopB ps a && stopB ps b)
theorem two_no1 {ps ws a b : List Int} (h : treeB ps ws = false) : twoB ps ws a b = false := by rw [twoB, h]; rfl
theorem two_no2 {ps ws a b : List Int} (h : stopB ps a = false) : twoB ps ws a b = false := by rw [twoB, h]; simp
theorem two_no3 {ps ws a b : List Int} (h : stopB ps b = false) : twoB ps ws a b = false := by rw [twoB, h]; simp
theorem two_yes {ps ws a b : List Int} (h : treeB ps ws = true) (ha : stopB ps a = true) (hb : stopB ps b = true) : twoB ps ws a b = true := by rw [twoB, h, ha, hb]; rfl
theorem two_t {ps ws a b : List Int} (h : twoB ps ws a b = true) : treeB ps ws = true ∧ stopB ps a = true ∧ stopB ps b = true := by simpa [twoB] using h
/-- The earlier (the later) one of two stoppings, none where they are no stoppings. -/
def erlV (ps ws a b : List Int) (early : Bool) : List Int := cond (twoB ps ws a b) (mergeV ps a b early) []
theorem erl_no {ps ws a b : List Int} {early : Bool} (h : twoB ps ws a b = false) : erlV ps ws a b early = [] := by rw [erlV, h]; rfl
theorem erl_yes {ps ws a b : List Int} {early : Bool} (h : twoB ps ws a b = true) : erlV ps ws a b early = mergeV ps a b early := by rw [erlV, h]; rfl
theorem erl_len {ps ws a b : List Int} {early : Bool} : (erlV ps ws a b early).length ≤ 24 := by
  cases h : twoB ps ws a b
  · rw [erl_no h]; exact Nat.zero_le _
  · rw [erl_yes h]
    have := filt_length (mergeP ps a b early (ends ps)) ps.length
    have := (treeB_t (two_t h).1).toPa.n24
    rw [mergeV]; omega
/-- Is the first one no later? -/
def noLV (ps ws a b : List Int) : Bool := twoB ps ws a b && noLaterB ps a b
theorem noL_no {ps ws a b : List Int} (h : twoB ps ws a b = false) : noLV ps ws a b = false := by rw [noLV, h]; rfl
theorem noL_yes {ps ws a b : List Int} (h : twoB ps ws a b = true) : noLV ps ws a b = noLaterB ps a b := by rw [noLV, h]; rfl
set_option maxRecDepth 100000 in
set_option maxHeartbeats 1000000 in
theorem impl_EarlierStop (aP : Option Addr) (nP cP : Nat) (aW : Option Addr) (nW cW : Nat) (ps ws : List Int) (aA : Option Addr) (nA cA : Nat) (a : List Int) (aB : Option Addr) (nB cB : Nat) (b : List Int) (w : World) (h : Tre w aP nP cP aW nW cW ps ws) (hA : Ints w aA nA a) (_hAc : aA = none → cA = 0) (hnA : nA ≤ 1048576) (hB : Ints w aB nB b) (_hBc : aB = none → cB = 0) (hnB : nB ≤ 1048576) :
    Calls Try.prog 74 #[.agg #[.slice aP nP cP, .slice aW nW cW], .slice aA nA cA, .slice aB nB cB] w fun e w' => ∃ v, e = .returned (.tuple #[v, .bool (twoB ps ws a b)]) ∧ Own w' w.heap.size v (erlV ps ws a b true) ∧ Below w.heap.size w w' := by
  have hl := h.p.1
  have hlw := h.w.1
  have hpn := h.pn
  have hwn := h.wn
  have hb1 := below_new w (.cells #[.slice aP nP cP, .slice aW nW cW] 26)
  have hP1 := Lib.hid (Pair.new w (.slice aP nP cP) (.slice aW nW cW) 26)
  have H := Lib.hid h
  have Hl := Lib.hid hl
  have Hlw := Lib.hid hlw
  clear h hl hlw
  have HA := Lib.hid hA
  have HB := Lib.hid hB
  clear hA hB
  go_enter Try.func74, Try.ntmps74
  have c0 := hP1.out.c0
  have c1 := hP1.out.c1
  go_wp2_with fail
  generalize (w.alloc (.cells #[.slice aP nP cP, .slice aW nW cW] 26)) = w2 at *
  refine (impl_IsTree _ _ _ _ _ _ ps ws _ (H.out.below hb1)).mono ?_
  rintro e w3 ⟨rfl, hb3⟩
  have HP3 := Lib.hid (hP1.out.below hb3)
  have d0 := HP3.out.c0
  have d1 := HP3.out.c1
  have hb13 := hb1.trans (hb3.mono hb1.size)
  clear c0 c1 hb3 hP1
  cases hT : treeB ps ws
  · have Hv := Lib.hid (two_no1 (a := a) (b := b) hT)
    clear hT
    go_wp2_with fail
    go_ret2
    exact ⟨_, by rw [Hv.out]; rfl, by rw [erl_no Hv.out]; exact Own.nil _ _, hb13⟩
  have HT := Lib.hid hT
  have HTr := Lib.hid (treeB_t hT)
  clear hT
  go_wp2_with fail
  refine (impl_isStopping _ _ _ _ _ _ ps ws _ _ _ a _ (H.out.below hb13) HTr.out.toPa (HA.out.below hb13) hnA).mono ?_
  rintro e w4 ⟨rfl, hb4⟩
  have HP4 := Lib.hid (HP3.out.below hb4)
  have e0 := HP4.out.c0
  have e1 := HP4.out.c1
  have hb14 := hb13.trans (hb4.mono hb13.size)
  clear d0 d1 hb4 HP3
  cases hS : stopB ps a
  · have Hv := Lib.hid (two_no2 (ws := ws) (b := b) hS)
    clear hS
    go_wp2_with fail
    go_ret2
    exact ⟨_, by rw [Hv.out]; rfl, by rw [erl_no Hv.out]; exact Own.nil _ _, hb14⟩
  have HS := Lib.hid hS
  clear hS
  go_wp2_with fail
  refine (impl_isStopping _ _ _ _ _ _ ps ws _ _ _ b _ (H.out.below hb14) HTr.out.toPa (HB.out.below hb14) hnB).mono ?_
  rintro e w5 ⟨rfl, hb5⟩
  have HP5 := Lib.hid (HP4.out.below hb5)
  have f0 := HP5.out.c0
  have f1 := HP5.out.c1
  have hb15 := hb14.trans (hb5.mono hb14.size)
  clear e0 e1 hb5 HP4
  cases hS2 : stopB ps b
  · have Hv := Lib.hid (two_no3 (ws := ws) (a := a) hS2)
    clear hS2
    go_wp2_with fail
    go_ret2
    exact ⟨_, by rw [Hv.out]; rfl, by rw [erl_no Hv.out]; exact Own.nil _ _, hb15⟩
  have HS2 := Lib.hid hS2
  clear hS2
  have Hv := Lib.hid (two_yes HT.out HS.out HS2.out)
  go_wp2_with fail
  refine (impl_merged _ _ _ _ _ _ ps ws _ _ _ a _ _ _ b true _ (H.out.below hb15) HTr.out.toPa (HA.out.below hb15) (HB.out.below hb15) hnA hnB HS.out HS2.out).mono ?_
  rintro e w6 ⟨v6, rfl, ho6, hb6⟩
  go_wp2_with fail
  go_ret2
  exact ⟨_, by rw [Hv.out]; rfl, by rw [erl_yes Hv.out]; exact ho6.mono hb15.size, hb15.trans (hb6.mono hb15.size)⟩
set_option maxRecDepth 100000 in
set_option maxHeartbeats 1000000 in
theorem impl_LaterStop (aP : Option Addr) (nP cP : Nat) (aW : Option Addr) (nW cW : Nat) (ps ws : List Int) (aA : Option Addr) (nA cA : Nat) (a : List Int) (aB : Option Addr) (nB cB : Nat) (b : List Int) (w : World) (h : Tre w aP nP cP aW nW cW ps ws) (hA : Ints w aA nA a) (_hAc : aA = none → cA = 0) (hnA : nA ≤ 1048576) (hB : Ints w aB nB b) (_hBc : aB = none → cB = 0) (hnB : nB ≤ 1048576) :
    Calls Try.prog 81 #[.agg #[.slice aP nP cP, .slice aW nW cW], .slice aA nA cA, .slice aB nB cB] w fun e w' => ∃ v, e = .returned (.tuple #[v, .bool (twoB ps ws a b)]) ∧ Own w' w.heap.size v (erlV ps ws a b false) ∧ Below w.heap.size w w' := by
  have hl := h.p.1
  have hlw := h.w.1
  have hpn := h.pn
  have hwn := h.wn
  have hb1 := below_new w (.cells #[.slice aP nP cP, .slice aW nW cW] 26)
  have hP1 := Lib.hid (Pair.new w (.slice aP nP cP) (.slice aW nW cW) 26)
  have H := Lib.hid h
  have Hl := Lib.hid hl
  have Hlw := Lib.hid hlw
  clear h hl hlw
  have HA := Lib.hid hA
  have HB := Lib.hid hB
  clear hA hB
  go_enter Try.func81, Try.ntmps81
  have c0 := hP1.out.c0
  have c1 := hP1.out.c1
  go_wp2_with fail
  generalize (w.alloc (.cells #[.slice aP nP cP, .slice aW nW cW] 26)) = w2 at *
  refine (impl_IsTree _ _ _ _ _ _ ps ws _ (H.out.below hb1)).mono ?_
  rintro e w3 ⟨rfl, hb3⟩
  have HP3 := Lib.hid (hP1.out.below hb3)
  have d0 := HP3.out.c0
  have d1 := HP3.out.c1
  have hb13 := hb1.trans (hb3.mono hb1.size)
  clear c0 c1 hb3 hP1
  cases hT : treeB ps ws
  · have Hv := Lib.hid (two_no1 (a := a) (b := b) hT)
    clear hT
    go_wp2_with fail
    go_ret2
    exact ⟨_, by rw [Hv.out]; rfl, by rw [erl_no Hv.out]; exact Own.nil _ _, hb13⟩
  have HT := Lib.hid hT
  have HTr := Lib.hid (treeB_t hT)
  clear hT
  go_wp2_with fail
  refine (impl_isStopping _ _ _ _ _ _ ps ws _ _ _ a _ (H.out.below hb13) HTr.out.toPa (HA.out.below hb13) hnA).mono ?_
  rintro e w4 ⟨rfl, hb4⟩
  have HP4 := Lib.hid (HP3.out.below hb4)
  have e0 := HP4.out.c0
  have e1 := HP4.out.c1
  have hb14 := hb13.trans (hb4.mono hb13.size)
  clear d0 d1 hb4 HP3
  cases hS : stopB ps a
  · have Hv := Lib.hid (two_no2 (ws := ws) (b := b) hS)
    clear hS
    go_wp2_with fail
    go_ret2
    exact ⟨_, by rw [Hv.out]; rfl, by rw [erl_no Hv.out]; exact Own.nil _ _, hb14⟩
  have HS := Lib.hid hS
  clear hS
  go_wp2_with fail
  refine (impl_isStopping _ _ _ _ _ _ ps ws _ _ _ b _ (H.out.below hb14) HTr.out.toPa (HB.out.below hb14) hnB).mono ?_
  rintro e w5 ⟨rfl, hb5⟩
  have HP5 := Lib.hid (HP4.out.below hb5)
  have f0 := HP5.out.c0
  have f1 := HP5.out.c1
  have hb15 := hb14.trans (hb5.mono hb14.size)
  clear e0 e1 hb5 HP4
  cases hS2 : stopB ps b
  · have Hv := Lib.hid (two_no3 (ws := ws) (a := a) hS2)
    clear hS2
    go_wp2_with fail
    go_ret2
    exact ⟨_, by rw [Hv.out]; rfl, by rw [erl_no Hv.out]; exact Own.nil _ _, hb15⟩
  have HS2 := Lib.hid hS2
  clear hS2
  have Hv := Lib.hid (two_yes HT.out HS.out HS2.out)
  go_wp2_with fail
  refine (impl_merged _ _ _ _ _ _ ps ws _ _ _ a _ _ _ b false _ (H.out.below hb15) HTr.out.toPa (HA.out.below hb15) (HB.out.below hb15) hnA hnB HS.out HS2.out).mono ?_
  rintro e w6 ⟨v6, rfl, ho6, hb6⟩
  go_wp2_with fail
  go_ret2
  exact ⟨_, by rw [Hv.out]; rfl, by rw [erl_yes Hv.out]; exact ho6.mono hb15.size, hb15.trans (hb6.mono hb15.size)⟩
end Go.Proofs.Ytnbomleieianoaa

/- Contracts: what a seer has, the bound of a balanced list, by the program. -/
namespace Go.Proofs.Ytnbomleieianoaa
open Go.RowKit

def boN (c : Bool) (ps ws pay num : List Int) : Int := if c then nm (bndS ps ws pay num) (nth (sums ps ws) 0) else 0
def boD (c : Bool) (ps ws pay num : List Int) : Int := if c then dn (bndS ps ws pay num) (nth (sums ps ws) 0) else 0
theorem bo_no {c : Bool} {ps ws pay num : List Int} (h : c = false) : boN c ps ws pay num = 0 ∧ boD c ps ws pay num = 0 := by subst h; exact ⟨rfl, rfl⟩
theorem bo_yes {c : Bool} {ps ws pay num : List Int} (h : c = true) : boN c ps ws pay num = nm (bndS ps ws pay num) (nth (sums ps ws) 0) ∧ boD c ps ws pay num = dn (bndS ps ws pay num) (nth (sums ps ws) 0) := by subst h; exact ⟨rfl, rfl⟩
def zeL (ps : List Int) : List Int := List.replicate ps.length 0
theorem nth_zeL (ps : List Int) (i : Nat) : -999 ≤ nth (zeL ps) i ∧ nth (zeL ps) i ≤ 999 := by rw [zeL, nth_replicate]; omega
def bbB (ps ws pay num : List Int) : Bool := balV ps ws num && paysB ps ws pay
set_option maxRecDepth 100000 in
set_option maxHeartbeats 1000000 in
theorem impl_SeerMean (aP : Option Addr) (nP cP : Nat) (aW : Option Addr) (nW cW : Nat) (ps ws : List Int) (aL : Option Addr) (nL cL : Nat) (l : List Int) (w : World) (h : Tre w aP nP cP aW nW cW ps ws) (hL : Ints w aL nL l) (_hLc : aL = none → cL = 0) (hn : nL ≤ 1048576) :
    Calls Try.prog 49 #[.agg #[.slice aP nP cP, .slice aW nW cW], .slice aL nL cL] w fun e w' => e = .returned (.tuple #[.agg #[.int .i64 (boN (paysB ps ws l) ps ws l (zeL ps)), .int .i64 (boD (paysB ps ws l) ps ws l (zeL ps))], .bool (paysB ps ws l)]) ∧ Below w.heap.size w w' := by
  have hl := h.p.1
  have hlw := h.w.1
  have hpn := h.pn
  have hwn := h.wn
  have hb1 := below_new w (.cells #[.slice aP nP cP, .slice aW nW cW] 26)
  have hP1 := Lib.hid (Pair.new w (.slice aP nP cP) (.slice aW nW cW) 26)
  have H := Lib.hid h
  have Hl := Lib.hid hl
  have Hlw := Lib.hid hlw
  clear h hl hlw
  have HL := Lib.hid hL
  have hll := Lib.hid hL.1
  clear hL
  go_enter Try.func49, Try.ntmps49
  have hbb := hb1.trans ((below_new (w.alloc (.cells #[.slice aP nP cP, .slice aW nW cW] 26)) (.cells #[.int .i64 0, .int .i64 0] 48)).mono hb1.size)
  have hPP := Lib.hid (hP1.out.alloc (.cells #[.int .i64 0, .int .i64 0] 48))
  have hR1 := Pair.new (w.alloc (.cells #[.slice aP nP cP, .slice aW nW cW] 26)) (.int .i64 0) (.int .i64 0) 48
  rw [show (w.alloc (.cells #[.slice aP nP cP, .slice aW nW cW] 26)).heap.size = w.heap.size + 1 by simp] at hR1
  have HR1 := Lib.hid hR1
  have c0 := hPP.out.c0
  have c1 := hPP.out.c1
  clear hb1 hP1 hR1
  go_wp2_with fail
  generalize ((w.alloc (.cells #[.slice aP nP cP, .slice aW nW cW] 26)).alloc (.cells #[.int .i64 0, .int .i64 0] 48)) = w2 at *
  refine (impl_IsTree _ _ _ _ _ _ ps ws _ (H.out.below hbb)).mono ?_
  rintro e w3 ⟨rfl, hb3⟩
  have HP3 := Lib.hid (hPP.out.below hb3)
  have HR3 := Lib.hid (HR1.out.below hb3)
  have d0 := HP3.out.c0
  have d1 := HP3.out.c1
  have hb13 := hbb.trans (hb3.mono hbb.size)
  clear c0 c1 hb3 hPP HR1 hbb
  cases hT : treeB ps ws
  · have Hv := Lib.hid (pays_no1 (l := l) hT)
    clear hT
    have q3 := HR3.out.c0
    have q4 := HR3.out.c1
    have q5 := HR3.out.f0
    have q6 := HR3.out.f1
    have hr := HR3.out.set (.int .i64 0) (.int .i64 0)
    go_wp2_with fail
    exact bodyPost_ret (v := .tuple #[.agg #[.int .i64 0, .int .i64 0], .bool false]) (by simp [results, Try.results49, go_sem, hr.1, hr.2]) rfl ⟨by rw [Hv.out]; rfl, (hb13.setCell (by simp) _).setCell (by simp) _⟩
  have HT := Lib.hid hT
  clear hT
  go_wp2_with fail
  refine (impl_isProcess _ _ _ _ _ _ ps ws _ _ _ l _ (H.out.below hb13) (HL.out.below hb13) hn).mono ?_
  rintro e w4 ⟨rfl, hb4⟩
  have HP4 := Lib.hid (HP3.out.below hb4)
  have HR4 := Lib.hid (HR3.out.below hb4)
  have e0 := HP4.out.c0
  have e1 := HP4.out.c1
  have hb14 := hb13.trans (hb4.mono hb13.size)
  clear d0 d1 hb4 HP3 HR3
  cases hp : procB ps.length l
  · have Hv := Lib.hid (pays_no2 (ws := ws) hp)
    clear hp
    have q3 := HR4.out.c0
    have q4 := HR4.out.c1
    have q5 := HR4.out.f0
    have q6 := HR4.out.f1
    have hr := HR4.out.set (.int .i64 0) (.int .i64 0)
    go_wp2_with fail
    exact bodyPost_ret (v := .tuple #[.agg #[.int .i64 0, .int .i64 0], .bool false]) (by simp [results, Try.results49, go_sem, hr.1, hr.2]) rfl ⟨by rw [Hv.out]; rfl, (hb14.setCell (by simp) _).setCell (by simp) _⟩
  have Hc := Lib.hid (pays_both HT.out hp)
  obtain ⟨hTr, _, _, hleq, hlb⟩ := paysB_t Hc.out
  have hnL : nP = nL := by have := hll.out; have := Hl.out; omega
  have HTr := Lib.hid hTr
  have Hlb := Lib.hid hlb
  have hn24 : nP ≤ 24 := by have := hTr.n24; have := Hl.out; omega
  clear hp hTr hleq hlb hn hpn hwn
  subst hnL
  have hmk := mk_ints nP (by omega)
  have hmx : nP ≤ maxLen := by have : maxLen = 9223372036854775807 := rfl; omega
  have HcB : Hid (∀ (W : World) (ag : Option Addr) (cg : Nat), Below w.heap.size w W → Ints W ag nP (zeL ps) → Calls Try.prog 115 #[.agg #[.slice aP nP cP, .slice aW nW cW], .slice aL nP cL, .slice ag nP cg] W fun e w' => e = .returned (.tuple #[.agg #[.int .i64 (nm (bndS ps ws l (zeL ps)) (nth (sums ps ws) 0)), .int .i64 (dn (bndS ps ws l (zeL ps)) (nth (sums ps ws) 0))], .bool true]) ∧ Below W.heap.size W w') := Lib.hid fun W ag cg hW hI => impl_bound _ _ _ _ _ _ ps ws _ _ _ l _ _ _ (zeL ps) W (H.out.below hW) HTr.out (HL.out.below hW) rfl hI rfl Hlb.out (nth_zeL ps)
  have HZ : Hid (∀ W : World, Ints (W.alloc (.cells (zv nP) 3)) (some ⟨W.heap.size, 0, none⟩) nP (zeL ps)) := Lib.hid fun W => by
    have := (Own.zeros W W.heap.size nP (Nat.le_refl _) hmx).ints
    rw [zeL, Hl.out]
    exact this
  generalize hgn : nm (bndS ps ws l (zeL ps)) (nth (sums ps ws) 0) = gn at *
  generalize hgd : dn (bndS ps ws l (zeL ps)) (nth (sums ps ws) 0) = gd at *
  have Hgn := Lib.hid hgn
  have Hgd := Lib.hid hgd
  clear hgn hgd
  have hnew := (below_new w4 (.cells (zv nP) 3)).drew
  have hb15 := hb14.trans (hnew.mono hb14.size)
  have HR5 := Lib.hid (HR4.out.below hnew)
  have HP5 := Lib.hid (HP4.out.below hnew)
  have hz := (HZ.out w4).below (Below.refl _ _).drew
  have hS0 : Below w.heap.size w w4.drew ∧ w4.drew.cell? ⟨w.heap.size, 0, none⟩ = some (.slice aP nP cP) ∧ w4.drew.cell? ⟨w.heap.size, 1, none⟩ = some (.slice aW nW cW) := ⟨hb14.drew, e0, e1⟩
  have hSz : Below w.heap.size w (w4.alloc (.cells (zv nP) 3)).drew ∧ (w4.alloc (.cells (zv nP) 3)).drew.cell? ⟨w.heap.size, 0, none⟩ = some (.slice aP nP cP) ∧ (w4.alloc (.cells (zv nP) 3)).drew.cell? ⟨w.heap.size, 1, none⟩ = some (.slice aW nW cW) := ⟨hb15, HP5.out.c0, HP5.out.c1⟩
  go_upto_region 3 with fail
  refine wp_region_noPanic ?_
  refine wp_region_held_drew (S := fun W' => Below w.heap.size w W' ∧ W'.cell? ⟨w.heap.size, 0, none⟩ = some (.slice aP nP cP) ∧ W'.cell? ⟨w.heap.size, 1, none⟩ = some (.slice aW nW cW)) (by kernel_rfl) ?_ (fun hHeld0 => ?_)
  · (try dsimp only); first | exact hS0 | exact hSz | exact hS9 | exact ⟨(hb19.setCell (by simp) _).setCell (by simp) _, cell_far (cell_far hP9.c0 (by simp)) (by simp), cell_far (cell_far hP9.c1 (by simp)) (by simp)⟩
  refine takeH (i := 0) (oi := _) (v := ?_) rfl (by kernel_rfl) (by kernel_rfl) (by kernel_rfl) (fun _ _ _ h => h) (Or.inl ⟨by rfl, ?_⟩) (by assumption) ?_
  rotate_left
  · first | (intro w hSw; (try dsimp only at hSw); go_simp; done) | (intro w hSw; (try dsimp only at hSw); go_simp; with_reducible rfl)
  (try simp only [Act.put, List.setIfInBounds_toArray, List.set_cons_zero, List.set_cons_succ])
  refine takeH (i := 1) (oi := _) (v := ?_) rfl (by kernel_rfl) (by kernel_rfl) (by kernel_rfl) (fun _ _ _ h => h) (Or.inl ⟨by rfl, ?_⟩) (by assumption) ?_
  rotate_left
  · first | (intro w hSw; (try dsimp only at hSw); go_simp; done) | (intro w hSw; (try dsimp only at hSw); go_simp; with_reducible rfl)
  (try simp only [Act.put, List.setIfInBounds_toArray, List.set_cons_zero, List.set_cons_succ])
  refine takeH (i := 2) (oi := _) (v := ?_) rfl (by kernel_rfl) (by kernel_rfl) (by kernel_rfl) (fun _ _ _ h => h) (Or.inl ⟨by rfl, ?_⟩) (by assumption) ?_
  rotate_left
  · first | (intro w hSw; (try dsimp only at hSw); go_simp; done) | (intro w hSw; (try dsimp only at hSw); go_simp; with_reducible rfl)
  (try simp only [Act.put, List.setIfInBounds_toArray, List.set_cons_zero, List.set_cons_succ])
  refine takeH (i := 3) (oi := _) (v := ?_) rfl (by kernel_rfl) (by kernel_rfl) (by kernel_rfl) (fun _ _ _ h => h) (Or.inl ⟨by rfl, ?_⟩) (by assumption) ?_
  rotate_left
  · first | (intro w hSw; (try dsimp only at hSw); go_simp; done) | (intro w hSw; (try dsimp only at hSw); go_simp; with_reducible rfl)
  (try simp only [Act.put, List.setIfInBounds_toArray, List.set_cons_zero, List.set_cons_succ])
  refine wpAnyH_ready (rs := [4]) (by kernel_rfl) (by simp) ?_
  refine consH rfl (fun Kq hKq => ?_)
  go_simp
  refine hKq.out _ _ ?_ (fun hHeld1 => ?_)
  · (try dsimp only); first | exact hS0 | exact hSz | exact hS9 | exact ⟨(hb19.setCell (by simp) _).setCell (by simp) _, cell_far (cell_far hP9.c0 (by simp)) (by simp), cell_far (cell_far hP9.c1 (by simp)) (by simp)⟩
  clear hKq Kq
  (try simp only [Act.put, List.setIfInBounds_toArray, List.set_cons_zero, List.set_cons_succ])
  clear hHeld0
  refine wpAnyH_ready (rs := [5]) (by kernel_rfl) (by simp) ?_
  refine consH rfl (fun Kq hKq => ?_)
  go_simp
  (go_at_call 115; refine (HcB.out _ _ _ hb15 hz).mono ?_; rintro e w9 ⟨rfl, b9⟩; have hb19 := hb15.trans (b9.mono hb15.size); have hR9 := HR5.out.below b9; have hP9 := HP5.out.below b9; have q3 := hR9.c0; have q4 := hR9.c1; have q5 := hR9.f0; have q6 := hR9.f1; have hr := hR9.set (.int .i64 gn) (.int .i64 gd); have hS9 : Below w.heap.size w w9 ∧ w9.cell? ⟨w.heap.size, 0, none⟩ = some (.slice aP nP cP) ∧ w9.cell? ⟨w.heap.size, 1, none⟩ = some (.slice aW nW cW) := ⟨hb19, hP9.c0, hP9.c1⟩)
  refine hKq.out _ _ ?_ (fun hHeld2 => ?_)
  · (try dsimp only); first | exact hS0 | exact hSz | exact hS9 | exact ⟨(hb19.setCell (by simp) _).setCell (by simp) _, cell_far (cell_far hP9.c0 (by simp)) (by simp), cell_far (cell_far hP9.c1 (by simp)) (by simp)⟩
  clear hKq Kq
  (try simp only [Act.put, List.setIfInBounds_toArray, List.set_cons_zero, List.set_cons_succ])
  clear hHeld1
  refine takeH (i := 6) (oi := _) (v := ?_) rfl (by kernel_rfl) (by kernel_rfl) (by kernel_rfl) (fun _ _ _ h => h) (Or.inl ⟨by rfl, ?_⟩) (by assumption) ?_
  rotate_left
  · first | (intro w hSw; (try dsimp only at hSw); go_simp; done) | (intro w hSw; (try dsimp only at hSw); go_simp; with_reducible rfl)
  (try simp only [Act.put, List.setIfInBounds_toArray, List.set_cons_zero, List.set_cons_succ])
  refine takeH (i := 7) (oi := _) (v := ?_) rfl (by kernel_rfl) (by kernel_rfl) (by kernel_rfl) (fun _ _ _ h => h) (Or.inl ⟨by rfl, ?_⟩) (by assumption) ?_
  rotate_left
  · first | (intro w hSw; (try dsimp only at hSw); go_simp; done) | (intro w hSw; (try dsimp only at hSw); go_simp; with_reducible rfl)
  (try simp only [Act.put, List.setIfInBounds_toArray, List.set_cons_zero, List.set_cons_succ])
  refine wpAnyH_ready (rs := [8]) (by kernel_rfl) (by simp) ?_
  refine consH rfl (fun Kq hKq => ?_)
  go_simp
  refine hKq.out _ _ ?_ (fun hHeld3 => ?_)
  · (try dsimp only); first | exact hS0 | exact hSz | exact hS9 | exact ⟨(hb19.setCell (by simp) _).setCell (by simp) _, cell_far (cell_far hP9.c0 (by simp)) (by simp), cell_far (cell_far hP9.c1 (by simp)) (by simp)⟩
  clear hKq Kq
  (try simp only [Act.put, List.setIfInBounds_toArray, List.set_cons_zero, List.set_cons_succ])
  clear hHeld2
  refine takeH (i := 9) (oi := _) (v := ?_) rfl (by kernel_rfl) (by kernel_rfl) (by kernel_rfl) (fun _ _ _ h => h) (Or.inl ⟨by rfl, ?_⟩) (by assumption) ?_
  rotate_left
  · first | (intro w hSw; (try dsimp only at hSw); go_simp; done) | (intro w hSw; (try dsimp only at hSw); go_simp; with_reducible rfl)
  (try simp only [Act.put, List.setIfInBounds_toArray, List.set_cons_zero, List.set_cons_succ])
  refine wpAnyH_done (by kernel_rfl) ?_ _
  refine NoPanic.normal ?_
  go_wp2_with fail
  exact bodyPost_ret (v := .tuple #[.agg #[.int .i64 gn, .int .i64 gd], .bool true]) (by simp [results, Try.results49, go_sem, hr.1, hr.2]) rfl ⟨by rw [Hc.out, ← Hgn.out, ← Hgd.out]; rfl, (hb19.setCell (by simp) _).setCell (by simp) _⟩
end Go.Proofs.Ytnbomleieianoaa

/- Contracts: totals, means, the bound of a list, what a seer has, by the reference. -/
namespace Go.Proofs.Ytnbomleieianoaa
open Go.RowKit

theorem Ints.away {w : World} {a : Option Addr} {n : Nat} {xs : List Int} (h : Ints w a n xs) {g i : Nat} (ha : ∀ p, a = some p → p.block ≠ g) (u : Value) : Ints (w.setCell ⟨g, i, none⟩ u) a n xs :=
  ⟨h.1, fun hn => by
    obtain ⟨b, off, rfl, hb, hc⟩ := h.2 hn
    exact ⟨b, off, rfl, by simpa using hb, fun j hj => cell_far (hc j hj) (ha ⟨b, off, none⟩ rfl)⟩⟩
/-- Zeros and the ends, just made, apart from each other. -/
def TotR (u wc : World) (n : Nat) (es : List Int) (v5 v6 : Value) : Prop :=
  KeepR u wc ∧ ∃ (g5 : Nat) (a6 : Option Addr) (c6 : Nat), v5 = .slice (some ⟨g5, 0, none⟩) n n ∧ v6 = .slice a6 es.length c6 ∧ Own wc u.heap.size v5 (List.replicate n 0) ∧ Ints wc a6 es.length es ∧ (∀ p, a6 = some p → p.block ≠ g5)
theorem tot_mk {u wc : World} {n : Nat} {es : List Int} {v6 : Value} {b5 b6 g5 : Nat} (hk : KeepR u wc) (h5 : Own wc b5 (.slice (some ⟨g5, 0, none⟩) n n) (List.replicate n 0)) (hb : u.heap.size ≤ b5) (h6 : Own wc b6 v6 es) (s6 : ∀ q, v6.ownBlock = some q → q ≠ g5) : TotR u wc n es (.slice (some ⟨g5, 0, none⟩) n n) v6 := by
  obtain ⟨a6, c6, rfl⟩ := h6.shape
  exact ⟨hk, g5, a6, c6, rfl, rfl, h5.mono hb, h6.ints, fun p hp => by subst hp; exact s6 _ rfl⟩
set_option maxRecDepth 100000 in
set_option maxHeartbeats 2000000 in
theorem spec_l2Totals (aP : Option Addr) (nP cP : Nat) (aW : Option Addr) (nW cW : Nat) (ps ws : List Int) (aL : Option Addr) (nL cL : Nat) (l : List Int) (V : Nat → Int) (w : World) (h : Tre w aP nP cP aW nW cW ps ws) (hT : Tr ps ws) (hL : Ints w aL nL l) (hnL : (ends ps).length = nL) (hv : ∀ i e : Nat, i < nL → nth (ends ps) i = (e : Int) → nth l i = V e) (hV : ∀ x, -2997 ≤ V x ∧ V x ≤ 2997) :
    Calls Try.prog 156 #[.agg #[.slice aP nP cP, .slice aW nW cW], .slice aL nL cL] w fun e w' => ∃ v, e = .returned v ∧ Own w' w.heap.size v (totA ps ws V) ∧ Below w.heap.size w w' := by
  have HTT := Lib.hid hT
  have hn24 := hT.n24
  have hn1 := hT.n1
  have HT := Lib.hid hT
  have hwl := hT.wl
  have hl := h.p.1
  have hlw := h.w.1
  have hpn := h.pn
  have hwn := h.wn
  have hb1 := below_new w (.cells #[.slice aP nP cP, .slice aW nW cW] 26)
  have hP1 := Lib.hid (Pair.new w (.slice aP nP cP) (.slice aW nW cW) 26)
  have H := Lib.hid h
  have Hl := Lib.hid hl
  have Hlw := Lib.hid hlw
  clear h hl hlw
  have hnW : nW ≤ nP ∧ nP ≤ nW := by have := Hlw.out; have := Hl.out; omega
  have hnP : 1 ≤ nP ∧ nP ≤ 24 := by have := Hl.out; omega
  clear hn24 hn1 hT hwl hpn hwn
  have hWP : nW = nP := by omega
  clear hnW
  subst hWP
  have HL0 := Lib.hid hL
  have Hv := Lib.hid hv
  have HV := Lib.hid hV
  have hnP : 1 ≤ nW ∧ nW ≤ 24 := by have := HTT.out.n24; have := HTT.out.n1; have := Hl.out; omega
  have hel : (ends ps).length ≤ 24 := by have := filt_length (endB ps) ps.length; have := Hl.out; rw [ends]; omega
  clear hL hv hV
  have HnL := Lib.hid hnL
  have hnL24 : nL ≤ 24 := by omega
  clear hnL
  have hmk := mk_ints nW (by omega)
  have hmx : nW ≤ maxLen := by have : maxLen = 9223372036854775807 := rfl; omega
  go_enter Try.func156, Try.ntmps156
  have c0 := hP1.out.c0
  have c1 := hP1.out.c1
  go_upto_region 1 with fail
  generalize (w.alloc (.cells #[.slice aP nW cP, .slice aW nW cW] 26)) = w2 at *
  go_cut [5, 6] (fun v5 v6 wc => TotR w2 wc nW (ends ps) v5 v6)
  case first =>
    refine wp_region_noPanic ?_
    refine wp_region_held_drew (S := fun W' => KeepR w2 W' ∧ W'.cell? ⟨w.heap.size, 0, none⟩ = some (.slice aP nW cP) ∧ W'.cell? ⟨w.heap.size, 1, none⟩ = some (.slice aW nW cW)) (by kernel_rfl) ?_ (fun hHeld0 => ?_)
    · (try dsimp only); first | exact keep2 (by assumption) hP1.out | exact keep2 (KeepR.start _) hP1.out | exact keep2 (KeepR.alloc0 _ _) hP1.out | exact keep2 (KeepR.alloc (by assumption : KeepR w2 _ ∧ _).1 _) hP1.out
    refine takeH (i := 0) (oi := _) (v := ?_) rfl (by kernel_rfl) (by kernel_rfl) (by kernel_rfl) (fun _ _ _ h => h) (Or.inl ⟨by rfl, ?_⟩) (by assumption) ?_
    rotate_left
    · first | (intro w hSw; (try dsimp only at hSw); go_simp; done) | (intro w hSw; (try dsimp only at hSw); go_simp; with_reducible rfl)
    (try simp only [Act.put, List.setIfInBounds_toArray, List.set_cons_zero, List.set_cons_succ])
    refine takeH (i := 1) (oi := _) (v := ?_) rfl (by kernel_rfl) (by kernel_rfl) (by kernel_rfl) (fun _ _ _ h => h) (Or.inl ⟨by rfl, ?_⟩) (by assumption) ?_
    rotate_left
    · first | (intro w hSw; (try dsimp only at hSw); go_simp; done) | (intro w hSw; (try dsimp only at hSw); go_simp; with_reducible rfl)
    (try simp only [Act.put, List.setIfInBounds_toArray, List.set_cons_zero, List.set_cons_succ])
    refine takeH (i := 2) (oi := _) (v := ?_) rfl (by kernel_rfl) (by kernel_rfl) (by kernel_rfl) (fun _ _ _ h => h) (Or.inl ⟨by rfl, ?_⟩) (by assumption) ?_
    rotate_left
    · first | (intro w hSw; (try dsimp only at hSw); go_simp; done) | (intro w hSw; (try dsimp only at hSw); go_simp; with_reducible rfl)
    (try simp only [Act.put, List.setIfInBounds_toArray, List.set_cons_zero, List.set_cons_succ])
    refine takeH (i := 4) (oi := _) (v := ?_) rfl (by kernel_rfl) (by kernel_rfl) (by kernel_rfl) (fun _ _ _ h => h) (Or.inl ⟨by rfl, ?_⟩) (by assumption) ?_
    rotate_left
    · first | (intro w hSw; (try dsimp only at hSw); go_simp; done) | (intro w hSw; (try dsimp only at hSw); go_simp; with_reducible rfl)
    (try simp only [Act.put, List.setIfInBounds_toArray, List.set_cons_zero, List.set_cons_succ])
    refine wpAnyH_ready (rs := [3, 5]) (by kernel_rfl) (by simp) ?_
    refine consM rfl (fun Kq hKq => ?_) (consH rfl (fun Kq hKq => ?_))
    · go_simp
      refine hKq.out _ _ ?_ (fun hHeld1 => ?_)
      · (try dsimp only); first | exact keep2 (by assumption) hP1.out | exact keep2 (KeepR.start _) hP1.out | exact keep2 (KeepR.alloc0 _ _) hP1.out | exact keep2 (KeepR.alloc (by assumption : KeepR w2 _ ∧ _).1 _) hP1.out
      clear hKq Kq
      (try simp only [Act.put, List.setIfInBounds_toArray, List.set_cons_zero, List.set_cons_succ])
      clear hHeld0
      refine wpAnyH_ready (rs := [5]) (by kernel_rfl) (by simp) ?_
      refine consH rfl (fun Kq hKq => ?_)
      go_simp
      (go_at_call 89; refine (spec_l2Ends _ _ _ _ _ _ ps ws _ (H.out.below (hb1.trans (Below.mono (by assumption : KeepR w2 _ ∧ _).1 hb1.size))) HTT.out.toPa).mono ?_; rintro e w6 ⟨v6, rfl, o6, b6⟩; have hk6 := KeepR.next b6 (by assumption : KeepR w2 _ ∧ _).1)
      refine hKq.out _ _ ?_ (fun hHeld2 => ?_)
      · (try dsimp only); first | exact keep2 (by assumption) hP1.out | exact keep2 (KeepR.start _) hP1.out | exact keep2 (KeepR.alloc0 _ _) hP1.out | exact keep2 (KeepR.alloc (by assumption : KeepR w2 _ ∧ _).1 _) hP1.out
      clear hKq Kq
      (try simp only [Act.put, List.setIfInBounds_toArray, List.set_cons_zero, List.set_cons_succ])
      clear hHeld1
      refine takeH (i := 6) (oi := _) (v := ?_) rfl (by kernel_rfl) (by kernel_rfl) (by kernel_rfl) (fun _ _ _ h => h) (Or.inl ⟨by rfl, ?_⟩) (by assumption) ?_
      rotate_left
      · first | (intro w hSw; (try dsimp only at hSw); go_simp; done) | (intro w hSw; (try dsimp only at hSw); go_simp; with_reducible rfl)
      (try simp only [Act.put, List.setIfInBounds_toArray, List.set_cons_zero, List.set_cons_succ])
      refine takeH (i := 7) (oi := _) (v := ?_) rfl (by kernel_rfl) (by kernel_rfl) (by kernel_rfl) (fun _ _ _ h => h) (Or.inl ⟨by rfl, ?_⟩) (by assumption) ?_
      rotate_left
      · first | (intro w hSw; (try dsimp only at hSw); go_simp; done) | (intro w hSw; (try dsimp only at hSw); go_simp; with_reducible rfl)
      (try simp only [Act.put, List.setIfInBounds_toArray, List.set_cons_zero, List.set_cons_succ])
      refine wpAnyH_done (by kernel_rfl) ?_ _
      refine NoPanic.normal ?_
      go_wp2_with fail
      go_meet
      first
        | exact tot_mk hk6 (((Own.zeros w2 w2.heap.size nW (Nat.le_refl _) hmx).below (Below.refl _ _).drew).below b6) (Nat.le_refl _) o6 (fun q hq => by have := (World.ownsRow.lt o6 q hq).1; simp at this; omega)
        | exact tot_mk (KeepR.alloc hk6 _) (Own.zeros w6 w6.heap.size nW (Nat.le_refl _) hmx) (Below.size hk6) (o6.below (below_new w6 _)) (fun q hq => by have := (World.ownsRow.lt o6 q hq).2; omega)
    · go_simp
      (go_at_call 89; refine (spec_l2Ends _ _ _ _ _ _ ps ws _ (H.out.below (hb1.trans (Below.mono (by assumption : KeepR w2 _ ∧ _).1 hb1.size))) HTT.out.toPa).mono ?_; rintro e w6 ⟨v6, rfl, o6, b6⟩; have hk6 := KeepR.next b6 (by assumption : KeepR w2 _ ∧ _).1)
      refine hKq.out _ _ ?_ (fun hHeld1 => ?_)
      · (try dsimp only); first | exact keep2 (by assumption) hP1.out | exact keep2 (KeepR.start _) hP1.out | exact keep2 (KeepR.alloc0 _ _) hP1.out | exact keep2 (KeepR.alloc (by assumption : KeepR w2 _ ∧ _).1 _) hP1.out
      clear hKq Kq
      (try simp only [Act.put, List.setIfInBounds_toArray, List.set_cons_zero, List.set_cons_succ])
      clear hHeld0
      refine wpAnyH_ready (rs := [3]) (by kernel_rfl) (by simp) ?_
      refine consH rfl (fun Kq hKq => ?_)
      go_simp
      refine hKq.out _ _ ?_ (fun hHeld2 => ?_)
      · (try dsimp only); first | exact keep2 (by assumption) hP1.out | exact keep2 (KeepR.start _) hP1.out | exact keep2 (KeepR.alloc0 _ _) hP1.out | exact keep2 (KeepR.alloc (by assumption : KeepR w2 _ ∧ _).1 _) hP1.out
      clear hKq Kq
      (try simp only [Act.put, List.setIfInBounds_toArray, List.set_cons_zero, List.set_cons_succ])
      clear hHeld1
      refine takeH (i := 6) (oi := _) (v := ?_) rfl (by kernel_rfl) (by kernel_rfl) (by kernel_rfl) (fun _ _ _ h => h) (Or.inl ⟨by rfl, ?_⟩) (by assumption) ?_
      rotate_left
      · first | (intro w hSw; (try dsimp only at hSw); go_simp; done) | (intro w hSw; (try dsimp only at hSw); go_simp; with_reducible rfl)
      (try simp only [Act.put, List.setIfInBounds_toArray, List.set_cons_zero, List.set_cons_succ])
      refine takeH (i := 7) (oi := _) (v := ?_) rfl (by kernel_rfl) (by kernel_rfl) (by kernel_rfl) (fun _ _ _ h => h) (Or.inl ⟨by rfl, ?_⟩) (by assumption) ?_
      rotate_left
      · first | (intro w hSw; (try dsimp only at hSw); go_simp; done) | (intro w hSw; (try dsimp only at hSw); go_simp; with_reducible rfl)
      (try simp only [Act.put, List.setIfInBounds_toArray, List.set_cons_zero, List.set_cons_succ])
      refine wpAnyH_done (by kernel_rfl) ?_ _
      refine NoPanic.normal ?_
      go_wp2_with fail
      go_meet
      first
        | exact tot_mk hk6 (((Own.zeros w2 w2.heap.size nW (Nat.le_refl _) hmx).below (Below.refl _ _).drew).below b6) (Nat.le_refl _) o6 (fun q hq => by have := (World.ownsRow.lt o6 q hq).1; simp at this; omega)
        | exact tot_mk (KeepR.alloc hk6 _) (Own.zeros w6 w6.heap.size nW (Nat.le_refl _) hmx) (Below.size hk6) (o6.below (below_new w6 _)) (fun q hq => by have := (World.ownsRow.lt o6 q hq).2; omega)
  case rest =>
    obtain ⟨hk5, g5, a6, c6, rfl, rfl, o5, i6, p6⟩ := hcut
    have hk5b : Below w2.heap.size w2 wc := hk5
    have hb15 := hb1.trans (hk5b.mono hb1.size)
    have HO := Lib.hid o5
    have G6 := Lib.hid i6
    have P6 := Lib.hid p6
    have HP5 := Lib.hid (hP1.out.below hk5b)
    have hg5 : w2.heap.size ≤ g5 := o5.lt.1
    have hw2 : w.heap.size < w2.heap.size := hP1.out.lt
    clear hk5 hk5b o5 i6 p6 hP1 hb1 c0 c1 hmk
    generalize hU : w2.heap.size = U at *
    clear hU
    go_wp2_with fail
    go_loopw [7] (fun v7 wr => ∃ i : Nat, i ≤ nL ∧ v7 = .int .i64 (i : Int) ∧ Own wr U (.slice (some ⟨g5, 0, none⟩) nW nW) (totK ps ws V i) ∧ Ints wr a6 (ends ps).length (ends ps) ∧ Pair wr w.heap.size (.slice aP nW cP) (.slice aW nW cW) ∧ Below w.heap.size w wr) (fun v7 _ => nL - (intOf v7).toNat)
    case atStart => exact ⟨0, Nat.zero_le _, rfl, by rw [← totK_zero, Hl.out]; exact HO.out, G6.out, HP5.out, hb15⟩
    case round =>
      clear hb15 HO G6 HP5
      obtain ⟨i, hi, rfl, ho, h6, hP, hbel⟩ := hrel
      have c0 := hP.c0
      have c1 := hP.c1
      have HP := Lib.hid hP
      have G6 := Lib.hid h6
      clear hP h6
      by_cases hlt : (i : Int) < (ends ps).length
      · have hi' : i < nL := by have := HnL.out; omega
        obtain ⟨b6, o6, rfl, hc6⟩ := G6.out.at (i := i) (Below.refl _ _) (by omega)
        obtain ⟨e, he, hee, hei⟩ := end_nth (ps := ps) (i := i) (by omega)
        rw [hei] at hc6
        have heN : e < nW := by have := Hl.out; omega
        obtain ⟨bL, oL, rfl, hcL⟩ := HL0.out.at (i := i) hbel hi'
        rw [Hv.out i e hi' hei] at hcL
        obtain ⟨bW, oW, rfl, hcW⟩ := H.out.w.at (i := e) hbel heN
        have hne : b6 ≠ g5 := P6.out _ rfl
        have hkl : (totK ps ws V i).length = nW := by rw [totK_length]; exact Hl.out
        have d1 := ho.cell (i := e) (by omega)
        have f1 := ho.free hkl.symm e
        have hset := Own.set (w := wr.drew) ho hkl.symm e (nth ws e * V e)
        rw [← totK_succ (by omega) he hei] at hset
        have Hset := Lib.hid hset
        have hve := HV.out e
        have hwe := HTT.out.w0 e
        have hpr := mul_abs (B := 2997) (U := 20) hve hwe (by omega)
        rw [Int.mul_comm (V e) (nth ws e)] at hpr
        have hgw : g5 ≠ w.heap.size := by omega
        have HPn := Lib.hid (Pair.far (w := wr.drew) HP.out.drew (b := g5) (i := e) hgw (.int .i64 (nth ws e * V e)))
        have G6n := Lib.hid (Ints.away (w := wr.drew) (G6.out.below (Below.refl _ _).drew) (g := g5) (i := e) (fun p hp => by cases hp; exact hne) (.int .i64 (nth ws e * V e)))
        clear hset hei hee hkl ho
        generalize hz1 : nth (totK ps ws V i) e = z1 at *
        generalize hz2 : nth ws e = we at *
        generalize hz3 : V e = ve at *
        clear hz1 hz2 hz3
        have s0 : IntKind.i64.wrap (we * ve) = we * ve := IntWalk.i64_in _ (by omega)
        have s1 : (0 : Int) ≤ (e : Int) := by omega
        have s2 : (e : Int) < (nW : Int) := by omega
        have s3 : (0 : Int) ≤ (i : Int) := by omega
        have s4 : (i : Int) < (nL : Int) := by omega
        go_wp2_with fail
        refine wp_region_still_tail 19 (by kernel_rfl) (by kernel_rfl) ?_
        simp only [List.take_succ_cons, List.take_zero, List.drop_succ_cons, List.drop_zero]
        still_step
        still_step
        still_step
        still_step
        still_step
        still_step
        still_step
        still_step
        still_step
        still_step
        still_step
        still_step
        still_step
        still_step
        still_step
        still_step
        still_step
        still_step
        still_step
        refine wpStill_nil ?_
        change wpList _ _ _ _ _ wr.drew
        go_wp2_with fail
        go_roundw
        case rel => exact ⟨i + 1, by omega, by go_num, Hset.out, G6n.out, HPn.out, hbel.drew.setCell (show w.heap.size ≤ g5 by omega) _⟩
        case measure => simp [intOf]; omega
      · obtain rfl : i = nL := by have := HnL.out; omega
        have Hcl0 : Hid ((totK ps ws V i).length = nW) := Lib.hid (by rw [totK_length]; exact Hl.out)
        have Hka := Lib.hid (totK_abs HTT.out HV.out i)
        obtain ⟨G, hG⟩ : ∃ G, G = totA ps ws V := ⟨_, rfl⟩
        obtain ⟨l2, hl2⟩ : ∃ l2, l2 = totK ps ws V i := ⟨_, rfl⟩
        obtain ⟨B, hBB⟩ : ∃ B : Int, B = 59940 := ⟨_, rfl⟩
        have hB : 0 ≤ B ∧ B ≤ 1000000000 := by omega
        have HG : Hid (gath ps (nW - 1) l2 = G) := Lib.hid (by rw [hG, hl2, totA, gathA, Hl.out, HnL.out])
        have HLL : Hid (l2.length = nW) := Lib.hid (by rw [hl2]; exact Hcl0.out)
        have HA : Hid (Abs2 B l2) := Lib.hid (by rw [hl2, hBB]; exact Hka.out)
        rw [← hl2] at ho
        have HGt : Hid (totA ps ws V = G) := Lib.hid hG.symm
        have HO := Lib.hid ho
        clear hG hl2 hBB ho c0 c1
        have c0 := HP.out.c0
        have c1 := HP.out.c1
        go_wp2_with fail
        go_loopw [8] (fun v wr => ∃ (k : Nat) (cur : List Int) (C : Int), k < nW ∧ v = .int .i64 (k : Int) ∧ cur.length = nW ∧ gath ps k cur = G ∧ 0 ≤ C ∧ C * 2 ^ k ≤ B * 8388608 ∧ Abs2 C cur ∧ Own wr U (.slice (some ⟨g5, 0, none⟩) nW nW) cur ∧ Pair wr w.heap.size (.slice aP nW cP) (.slice aW nW cW) ∧ Below w.heap.size w wr) (fun v _ => (intOf v).toNat)
        case atStart => exact ⟨nW - 1, l2, B, by omega, vi (by omega), HLL.out, HG.out, hB.1, pow_start hB.1 (by omega), HA.out, HO.out, HP.out, hbel⟩
        case round =>
          clear hbel HP HO G6
          obtain ⟨k, cur, C, hk, rfl, hcl, hcg, hC0, hC1, hCa, hown, hP, hbel⟩ := hrel
          have c0 := hP.c0
          have c1 := hP.c1
          have HPk := Lib.hid hP
          have Hcl := Lib.hid hcl
          clear hP hcl
          by_cases hlt : (k : Int) > 0
          · obtain ⟨K, rfl⟩ : ∃ K : Nat, k = K + 1 := ⟨k - 1, by omega⟩
            obtain ⟨bP, oP, rfl, hc⟩ := H.out.p.at (i := K + 1) hbel (by omega)
            have hup := HTT.out.toPa.upN (x := K + 1) (by omega) (by have := Hl.out; omega)
            rw [hup.1] at hc
            have hpl := hup.2
            have hstep : gath ps K (cur.set (par ps (K + 1)) (nth cur (par ps (K + 1)) + nth cur (K + 1))) = G := hcg
            have hCb := pow_bd hB.2 hC0 hC1
            have hCs := pow_step (k := K) hC1
            have habs := gath_bd2 (k := K + 1) hCa (show par ps (K + 1) < cur.length by have := Hcl.out; omega)
            have hlen2 : (cur.set (par ps (K + 1)) (nth cur (par ps (K + 1)) + nth cur (K + 1))).length = nW := by rw [List.length_set]; exact Hcl.out
            clear hup hcg
            generalize par ps (K + 1) = p at *
            have d1 := hown.cell (i := p) (by have := Hcl.out; omega)
            have d2 := hown.cell (i := K + 1) (by have := Hcl.out; omega)
            have f1 := hown.free Hcl.out.symm p
            have hset := Own.set (w := wr.drew) hown Hcl.out.symm p (nth cur p + nth cur (K + 1))
            have q1 := hCa p
            have q2 := hCa (K + 1)
            generalize hz1 : nth cur p = z1 at *
            generalize hz2 : nth cur (K + 1) = z2 at *
            have Hset := Lib.hid hset
            have Hown := Lib.hid hown
            have Hstep := Lib.hid hstep
            have Habs := Lib.hid habs
            have Hlen2 := Lib.hid hlen2
            have HCa := Lib.hid hCa
            have HCs := Lib.hid hCs
            have HCC := Lib.hid hC1
            have HPn := Lib.hid (Pair.far (w := wr.drew) HPk.out.drew (b := g5) (i := p) (show g5 ≠ w.heap.size by omega) (.int .i64 (z1 + z2)))
            clear hset hown hstep habs hz1 hz2 hlen2 hCa hCs hC1
            have s0 : IntKind.i64.wrap (z1 + z2) = z1 + z2 := IntWalk.i64_in _ (by omega)
            have s1 : (0 : Int) ≤ (p : Int) := by omega
            have s2 : (p : Int) < (nW : Int) := by omega
            have s3 : (0 : Int) ≤ ((K + 1 : Nat) : Int) := by omega
            have s4 : ((K + 1 : Nat) : Int) < (nW : Int) := by omega
            have s5 : (0 : Int) ≤ (K : Int) + 1 := by omega
            have s6 : (K : Int) + 1 < (nW : Int) := by omega
            clear hCb
            go_wp2_with fail
            refine wp_region_still_tail 20 (by kernel_rfl) (by kernel_rfl) ?_
            simp only [List.take_succ_cons, List.take_zero, List.drop_succ_cons, List.drop_zero]
            still_step
            still_step
            still_step
            still_step
            still_step
            still_step
            still_step
            still_step
            still_step
            still_step
            still_step
            still_step
            still_step
            still_step
            still_step
            still_step
            still_step
            still_step
            still_step
            still_step
            refine wpStill_nil ?_
            change wpList _ _ _ _ _ wr.drew
            go_wp2_with fail
            go_roundw
            case rel => exact ⟨K, _, 2 * C, by omega, vi (by omega), Hlen2.out, Hstep.out, by omega, HCs.out, Habs.out, Hset.out, HPn.out, hbel.drew.setCell (show w.heap.size ≤ g5 by omega) _⟩
            case measure => simp [intOf]
          · obtain rfl : k = 0 := by omega
            have hfin : cur = G := hcg
            rw [hfin] at hown
            go_wp2_with fail
            go_ret
            exact ⟨_, rfl, by rw [HGt.out]; exact hown.mono (by omega), hbel⟩

end Go.Proofs.Ytnbomleieianoaa
