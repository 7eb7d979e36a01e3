/- Contracts: the places of a stopping's nodes over the ends, two stoppings merged, by the program. -/
import Derived.Test.YtnbomleieianoaaPlMerge
import Derived.Test.YtnbomleieianoaaRule2
import Derived.Test.YtnbomleieianoaaKeep
import Derived.Deep.DeepCutAuto
import Derived.Deep.Cut
namespace Go.Proofs.Ytnbomleieianoaa
open Go.RowKit

/-- Where the node of a stopping on the way to an end stands in the list. -/
def ovI (ps nodes : List Int) (e : Int) : Int := idxI nodes (stop ps (hasB nodes) e.toNat)
theorem nth_map {xs : List Int} {f : Int → Int} {i : Nat} (h : i < xs.length) : nth (xs.map f) i = f (nth xs i) := by
  rw [nth_lt (by simpa using h), nth_lt h]; simp
theorem ov_at {ps nodes : List Int} (h : stopB ps nodes = true) (hp : Pa ps) {e : Nat} (he : e < ps.length) (he2 : endB ps e = true) : ∃ i : Nat, i < nodes.length ∧ ovI ps nodes (e : Int) = (i : Int) ∧ nth nodes i = stop ps (hasB nodes) e := by
  obtain ⟨s, _, hs2, hs3, _⟩ := sole_mem h hp he he2
  rw [ovI, Int.toNat_natCast, hs2]
  have : idxI nodes (s : Int) = -1 ∨ ∃ i : Nat, i < nodes.length ∧ nth nodes i = (s : Int) ∧ idxI nodes (s : Int) = (i : Int) := idx_cases nodes s
  rcases this with h1 | ⟨i, hi, h2, h3⟩
  · obtain ⟨i, hi, hie⟩ := hasB_mem hs3
    exact absurd h1 (idx_pos hi hie)
  · exact ⟨i, hi, h3, h2⟩
theorem mem_wayI {ps : List Int} {x : Nat} {rest : List Int} {e : Nat} (hp : Pa ps) (hx : x < ps.length) (h : way ps e = wayI ps (x : Int) ++ rest) : (x : Int) ∈ way ps e := by
  rw [h, wayI_up hp hx]; simp
theorem ov_hit {ps nodes : List Int} (h : stopB ps nodes = true) (hp : Pa ps) {e x : Nat} (he : e < ps.length) (he2 : endB ps e = true) (hx : x < ps.length) {rest : List Int} (hw : way ps e = wayI ps (x : Int) ++ rest) (hh : hasB nodes (x : Int) = true) : idxI nodes (x : Int) = ovI ps nodes (e : Int) ∧ 0 ≤ ovI ps nodes (e : Int) := by
  have h1 := sole_one h he he2 (mem_wayI hp hx hw) hh
  obtain ⟨i, _, h3, _⟩ := ov_at h hp he he2
  refine ⟨by rw [ovI, Int.toNat_natCast, ← h1], by omega⟩
theorem ov_miss {nodes : List Int} {y : Int} (hh : hasB nodes y = false) : idxI nodes y = -1 := idx_no fun i hi e => by rw [has_t hi e] at hh; cases hh
theorem ov_end {ps nodes : List Int} (h : stopB ps nodes = true) (hp : Pa ps) {e : Nat} (he : e < ps.length) (he2 : endB ps e = true) (hno : ∀ y, y ∈ way ps e → hasB nodes y = false) : False := by
  obtain ⟨s, _, _, h3, h4⟩ := sole_mem h hp he he2
  rw [hno _ h4] at h3; cases h3
set_option maxRecDepth 100000 in
set_option maxHeartbeats 1000000 in
theorem impl_over (aP : Option Addr) (nP cP : Nat) (aW : Option Addr) (nW cW : Nat) (ps ws : List Int) (aR : Option Addr) (nR cR : Nat) (rule : List Int) (w : World) (h : Tre w aP nP cP aW nW cW ps ws) (hp : Pa ps) (hR : Ints w aR nR rule) (hn : nR ≤ 1048576) (hst : stopB ps rule = true) :
    Calls Try.prog 134 #[.agg #[.slice aP nP cP, .slice aW nW cW], .slice aR nR cR] w fun e w' => ∃ v, e = .returned v ∧ Own w' w.heap.size v ((ends ps).map (ovI ps rule)) ∧ Below w.heap.size w w' := by
  have Hp := Lib.hid hp
  have Hst := Lib.hid hst
  have hn24 := hp.n24
  have hl := h.p.1
  have hlw := h.w.1
  have hpn := h.pn
  have hwn := h.wn
  have hb1 := below_new w (.cells #[.slice aP nP cP, .slice aW nW cW] 26)
  have hP1 := Lib.hid (Pair.new w (.slice aP nP cP) (.slice aW nW cW) 26)
  have H := Lib.hid h
  have Hl := Lib.hid hl
  have Hlw := Lib.hid hlw
  clear h hl hlw
  have hnP : nP ≤ 24 := by have := Hl.out; omega
  have HR := Lib.hid hR
  have Hrl := Lib.hid hR.1
  clear hp hn24 hR hst
  go_enter Try.func134, Try.ntmps134
  go_wp2_with fail
  have hnil := own_nil0 (w.alloc (.cells #[.slice aP nP cP, .slice aW nW cW] 26))
  rw [show (w.alloc (.cells #[.slice aP nP cP, .slice aW nW cW] 26)).heap.size = w.heap.size + 1 by simp] at hnil
  have hb2 : Below w.heap.size w ((w.alloc (.cells #[.slice aP nP cP, .slice aW nW cW] 26)).alloc (.cells #[] 3)) := hb1.alloc (by simp) _
  have hP2 := Lib.hid (hP1.out.alloc (.cells #[] 3))
  have hs2 : ((w.alloc (.cells #[.slice aP nP cP, .slice aW nW cW] 26)).alloc (.cells #[] 3)).heap.size = w.heap.size + 2 := by simp
  have c0 := hP2.out.c0
  have c1 := hP2.out.c1
  generalize ((w.alloc (.cells #[.slice aP nP cP, .slice aW nW cW] 26)).alloc (.cells #[] 3)) = w2 at *
  clear hP1 hb1
  go_wp2_with fail
  refine (impl_ends _ _ _ _ _ _ ps ws _ (H.out.below hb2) Hp.out).mono ?_
  rintro e w3 ⟨v, rfl, ho, hb3⟩
  obtain ⟨a3, c3, rfl⟩ := ho.shape
  have HE := Lib.hid ho.ints
  have HP3 := Lib.hid (hP2.out.below hb3)
  have hown0 := Lib.hid (hnil.below hb3)
  have hb13 := hb2.trans (hb3.mono hb2.size)
  have hel : (ends ps).length ≤ 24 := by have := filt_length (endB ps) ps.length; have := Hl.out; rw [ends]; omega
  have hap0 : Hid (0 < (ends ps).length → Apart a3 (Value.slice (some ⟨w.heap.size + 1, 0, none⟩) 0 0)) := Lib.hid fun h0 p hp e => by
    obtain ⟨g, cap, he, hg, _⟩ := ho.form h0
    cases he
    cases hp
    simp [Value.ownBlock] at e
    omega
  clear ho hnil hb3 hb2 hP2 hs2 c0 c1
  have Hen : Hid (∀ i, i < (ends ps).length → ∃ e : Nat, e < nP ∧ endB ps e = true ∧ nth (ends ps) i = (e : Int)) := Lib.hid fun i hi => by
    obtain ⟨e, h1, h2, h3⟩ := end_nth hi
    exact ⟨e, by have := Hl.out; omega, h2, h3⟩
  generalize hes : ends ps = es at *
  have Hes := Lib.hid hes
  clear hes
  go_wp2_with fail
  go_loopw [5, 14] (fun v5 v14 wr => ∃ k : Nat, k ≤ es.length ∧ v14 = .int .i64 (k : Int) ∧ Own wr (w.heap.size + 1) v5 ((es.take k).map (ovI ps rule)) ∧ Ints wr a3 es.length es ∧ (0 < es.length → Apart a3 v5) ∧ Pair wr w.heap.size (.slice aP nP cP) (.slice aW nW cW) ∧ Below w.heap.size w wr) (fun _ v14 _ => es.length - (intOf v14).toNat)
  case atStart => exact ⟨0, Nat.zero_le _, rfl, by simpa using hown0.out, HE.out, hap0.out, HP3.out, hb13⟩
  case round =>
    clear hb13 hown0 HE hap0 HP3
    obtain ⟨k, hk, rfl, hown, hE, hap, hP, hbel⟩ := hrel
    have HE := Lib.hid hE
    have Hap := Lib.hid hap
    have HP := Lib.hid hP
    have hsz : w.heap.size + 1 ≤ wr.heap.size := hP.lt
    have x0 := hP.c0
    have x1 := hP.c1
    clear hE hap hP
    by_cases hlt : (k : Int) < es.length
    · obtain ⟨be, oe, rfl, hce⟩ := HE.out.at (i := k) (Below.refl _ _) (by omega)
      obtain ⟨e, he, he2, hei⟩ := Hen.out k (by omega)
      rw [hei] at hce
      have hlen : ((es.take k).map (ovI ps rule)).length ≤ 24 := by rw [List.length_map, List.length_take]; omega
      have Hf : Hid ((es.take (k + 1)).map (ovI ps rule) = (es.take k).map (ovI ps rule) ++ [ovI ps rule (e : Int)]) := Lib.hid (by rw [take_succ_nth (by omega), List.map_append, hei]; rfl)
      have he' : e < ps.length := by have := Hl.out; omega
      have HcI : Hid (∀ y : Int, Calls Try.prog 133 #[.slice aR nR cR, .int .i64 y] wr fun e1 w' => e1 = .returned (.int .i64 (idxI rule y)) ∧ w' = wr) := Lib.hid fun y => c_index _ _ _ rule y _ (HR.out.below hbel) hn
      have Hhit : Hid (∀ (x : Nat) (rest : List Int), x < nP → way ps e = wayI ps (x : Int) ++ rest → hasB rule (x : Int) = true → idxI rule (x : Int) = ovI ps rule (e : Int) ∧ 0 ≤ ovI ps rule (e : Int)) := Lib.hid fun x rest hx hw hh => ov_hit Hst.out Hp.out he' he2 (by have := Hl.out; omega) hw hh
      have Hmiss : Hid ((∀ y, y ∈ way ps e → hasB rule y = false) → False) := Lib.hid fun hno => ov_end Hst.out Hp.out he' he2 hno
      have Hov : Hid (∃ i : Nat, i < nR ∧ ovI ps rule (e : Int) = (i : Int)) := Lib.hid (by obtain ⟨i, h1, h2, _⟩ := ov_at Hst.out Hp.out he' he2; exact ⟨i, by have := Hrl.out; omega, h2⟩)
      clear he2 hei
      generalize ovI ps rule (e : Int) = ov at *
      generalize (es.take k).map (ovI ps rule) = acc at *
      go_wp2_with fail
      go_loop [8, 9] (fun v7 v8 => ∃ x a : Int, -1 ≤ x ∧ x < nP ∧ v8 = .int .i64 x ∧ v7 = .int .i64 a ∧ ((a = -1 ∧ ∃ rest, way ps e = wayI ps x ++ rest ∧ ∀ y, y ∈ rest → hasB rule y = false) ∨ (a = ov ∧ 0 ≤ a))) (fun _ v8 => (intOf v8 + 1).toNat)
      case atStart => exact ⟨e, -1, by omega, by omega, rfl, rfl, .inl ⟨rfl, [], by rw [wayI_nat]; simp, fun y hy => by simp at hy⟩⟩
      case round =>
        obtain ⟨x, a, hx0, hxn, rfl, rfl, hdis⟩ := hrel
        by_cases hx : x ≥ 0
        · obtain ⟨X, rfl⟩ : ∃ X : Nat, x = X := ⟨x.toNat, by omega⟩
          obtain ⟨bp, op, rfl, hcp⟩ := H.out.p.at (i := X) hbel (by omega)
          by_cases ha : a < 0
          · obtain ⟨rest, hway, hrest⟩ : ∃ rest, way ps e = wayI ps (X : Int) ++ rest ∧ ∀ y, y ∈ rest → hasB rule y = false := by
              rcases hdis with ⟨_, h1⟩ | ⟨_, h2⟩
              · exact h1
              · omega
            have hXl : X < ps.length := by have := Hl.out; omega
            have Hup := Lib.hid (wayI_up Hp.out hXl)
            have hpar : -1 ≤ nth ps X ∧ nth ps X < (X : Int) := by
              rcases Nat.eq_zero_or_pos X with rfl | h0
              · rw [Hp.out.p0]; omega
              · have := Hp.out.up X (by omega) hXl; omega
            have Hway := Lib.hid hway
            have Hrest := Lib.hid hrest
            clear hdis hway hrest
            generalize hq0 : nth ps X = q at *
            have hq := Lib.hid hq0
            clear hq0
            cases hh : hasB rule (X : Int)
            · have Hm := Lib.hid (ov_miss hh)
              have Hh := Lib.hid hh
              have HcX : Hid (Calls Try.prog 133 #[.slice aR nR cR, .int .i64 (X : Int)] wr fun e1 w' => e1 = .returned (.int .i64 (-1)) ∧ w' = wr) := Lib.hid (by rw [← Hm.out]; exact HcI.out _)
              clear hh
              go_wp2_with (go_at_call 133; refine HcX.out.mono ?_; rintro e1 w' ⟨rfl, rfl⟩)
              go_round
              case rel => exact ⟨q, -1, by omega, by omega, rfl, rfl, .inl ⟨rfl, (X : Int) :: rest, by rw [Hway.out, Hup.out]; simp, fun y hy => by
                rw [List.mem_cons] at hy
                rcases hy with rfl | hy
                · exact Hh.out
                · exact Hrest.out y hy⟩⟩
              case measure => simp [intOf]; omega
            · obtain ⟨hi1, hi2⟩ := Hhit.out X rest (by omega) Hway.out hh
              have HcX : Hid (Calls Try.prog 133 #[.slice aR nR cR, .int .i64 (X : Int)] wr fun e1 w' => e1 = .returned (.int .i64 ov) ∧ w' = wr) := Lib.hid (by rw [← hi1]; exact HcI.out _)
              clear hh hi1
              go_wp2_with (go_at_call 133; refine HcX.out.mono ?_; rintro e1 w' ⟨rfl, rfl⟩)
              go_round
              case rel => exact ⟨q, ov, by omega, by omega, rfl, rfl, .inr ⟨rfl, hi2⟩⟩
              case measure => simp [intOf]; omega
          · obtain ⟨rfl, _⟩ : a = ov ∧ 0 ≤ a := by
              rcases hdis with ⟨h1, _⟩ | h2
              · omega
              · exact h2
            clear hdis
            go_wp2_with (at_builtin; refine wp_push2 (.tmp 33) (.tmp 35) rfl rfl (w.heap.size + 1) _ _ rfl hown rfl (by omega) hsz ?_; intro v' w' ho hb hm)
            have hE2 := HE.out.moved hm Hap.out
            go_roundw
            case rel => exact ⟨k + 1, by omega, by go_num, by rw [Hf.out]; exact ho, hE2.1, hE2.2, HP.out.up hb (by omega), hbel.trans (hb.mono (by omega))⟩
            case measure => simp [intOf]; omega
        · obtain rfl : x = -1 := by omega
          obtain ⟨rfl, hov0⟩ : a = ov ∧ 0 ≤ a := by
            rcases hdis with ⟨_, rest, h1, h2⟩ | h2
            · exact (Hmiss.out fun y hy => by
                rw [h1] at hy
                simp [wayI] at hy
                exact h2 y hy).elim
            · exact h2
          clear hdis
          go_wp2_with (at_builtin; refine wp_push2 (.tmp 33) (.tmp 35) rfl rfl (w.heap.size + 1) _ _ rfl hown rfl (by omega) hsz ?_; intro v' w' ho hb hm)
          have hE2 := HE.out.moved hm Hap.out
          go_roundw
          case rel => exact ⟨k + 1, by omega, by go_num, by rw [Hf.out]; exact ho, hE2.1, hE2.2, HP.out.up hb (by omega), hbel.trans (hb.mono (by omega))⟩
          case measure => simp [intOf]; omega
    · obtain rfl : k = es.length := by omega
      go_wp2_with fail
      go_ret
      exact ⟨_, rfl, by rw [Hes.out]; rw [List.take_length] at hown; exact hown.mono (Nat.le_succ _), hbel⟩
/-- A new empty slice and two lists of places, just made, apart from it. -/
def MergeR (u wc : World) (n : Nat) (f g : List Int) (v5 v6 v7 : Value) : Prop :=
  KeepR u wc ∧ ∃ (g5 : Nat) (a6 : Option Addr) (c6 : Nat) (a7 : Option Addr) (c7 : Nat), v5 = .slice (some ⟨g5, 0, none⟩) 0 0 ∧ v6 = .slice a6 n c6 ∧ v7 = .slice a7 n c7 ∧ Own wc u.heap.size v5 [] ∧ Ints wc a6 n f ∧ Ints wc a7 n g ∧ (0 < n → Apart a6 v5) ∧ (0 < n → Apart a7 v5)
theorem own_apart {w : World} {base g : Nat} {a : Option Addr} {n c : Nat} {xs : List Int} (h : Own w base (.slice a n c) xs) (hn : xs.length = n) (hg : ∀ q, (Value.slice a n c).ownBlock = some q → q ≠ g) : 0 < n → Apart a (.slice (some ⟨g, 0, none⟩) 0 0) := fun h0 p hp e => by
  obtain ⟨q, cap, he, _, _⟩ := h.form (by omega)
  cases he
  cases hp
  simp [Value.ownBlock] at e
  exact hg q rfl e.symm
theorem merge_mk {u wc : World} {n : Nat} {f g : List Int} {v6 v7 : Value} {b5 b6 b7 g5 : Nat} (hk : KeepR u wc) (hf : f.length = n) (hg : g.length = n) (h5 : Own wc b5 (.slice (some ⟨g5, 0, none⟩) 0 0) []) (hb : u.heap.size ≤ b5) (h6 : Own wc b6 v6 f) (h7 : Own wc b7 v7 g)
    (s6 : ∀ q, v6.ownBlock = some q → q ≠ g5) (s7 : ∀ q, v7.ownBlock = some q → q ≠ g5) : MergeR u wc n f g (.slice (some ⟨g5, 0, none⟩) 0 0) v6 v7 := by
  obtain ⟨a6, c6, rfl⟩ := h6.shape
  obtain ⟨a7, c7, rfl⟩ := h7.shape
  rw [hf] at h6 s6 ⊢
  rw [hg] at h7 s7 ⊢
  exact ⟨hk, g5, a6, c6, a7, c7, rfl, rfl, rfl, h5.mono hb, h6.ints, h7.ints, own_apart h6 hf s6, own_apart h7 hg s7⟩
set_option maxRecDepth 100000 in
set_option maxHeartbeats 1000000 in
theorem impl_merged (aP : Option Addr) (nP cP : Nat) (aW : Option Addr) (nW cW : Nat) (ps ws : List Int) (a1 : Option Addr) (n1 cA : Nat) (a : List Int) (a2 : Option Addr) (n2 cB : Nat) (b : List Int) (early : Bool) (w : World) (h : Tre w aP nP cP aW nW cW ps ws) (hp : Pa ps) (h1 : Ints w a1 n1 a) (h2 : Ints w a2 n2 b) (hn1 : n1 ≤ 1048576) (hn2 : n2 ≤ 1048576) (ha : stopB ps a = true) (hb : stopB ps b = true) :
    Calls Try.prog 141 #[.agg #[.slice aP nP cP, .slice aW nW cW], .slice a1 n1 cA, .slice a2 n2 cB, .bool early] w fun e w' => ∃ v, e = .returned v ∧ Own w' w.heap.size v (mergeV ps a b early) ∧ Below w.heap.size w w' := by
  have Hp := Lib.hid hp
  have Ha := Lib.hid ha
  have Hb := Lib.hid hb
  have hn24 := hp.n24
  have hl := h.p.1
  have hlw := h.w.1
  have hpn := h.pn
  have hwn := h.wn
  have hb1 := below_new w (.cells #[.slice aP nP cP, .slice aW nW cW] 26)
  have hP1 := Lib.hid (Pair.new w (.slice aP nP cP) (.slice aW nW cW) 26)
  have H := Lib.hid h
  have Hl := Lib.hid hl
  have Hlw := Lib.hid hlw
  clear h hl hlw
  have hnP : nP ≤ 24 := by have := Hl.out; omega
  have H1 := Lib.hid h1
  have H2 := Lib.hid h2
  clear hp hn24 h1 h2 ha hb
  have Hml : Hid (∀ r, ((ends ps).map (ovI ps r)).length = (ends ps).length) := Lib.hid fun r => List.length_map _
  have hel : (ends ps).length ≤ 24 := by have := filt_length (endB ps) ps.length; have := Hl.out; rw [ends]; omega
  go_enter Try.func141, Try.ntmps141
  have c0 := hP1.out.c0
  have c1 := hP1.out.c1
  go_upto_region 1 with fail
  generalize (w.alloc (.cells #[.slice aP nP cP, .slice aW nW cW] 26)) = w2 at *
  go_cut [9, 10, 11] (fun v9 v10 v11 wc => MergeR w2 wc (ends ps).length ((ends ps).map (ovI ps a)) ((ends ps).map (ovI ps b)) v9 v10 v11)
  case first =>
    refine wp_region_noPanic ?_
    refine wp_region_held_drew (S := fun W' => KeepR w2 W' ∧ W'.cell? ⟨w.heap.size, 0, none⟩ = some (.slice aP nP cP) ∧ W'.cell? ⟨w.heap.size, 1, none⟩ = some (.slice aW nW cW)) (by kernel_rfl) ?_ (fun hHeld0 => ?_)
    · (try dsimp only); first | exact keep2 (by assumption) hP1.out | exact keep2 (KeepR.alloc0 _ _) hP1.out | exact keep2 (KeepR.start _) hP1.out | exact keep2 (KeepR.alloc (by assumption : KeepR w2 _ ∧ _).1 _) hP1.out | exact keep2 (KeepR.alloc (by assumption : KeepR w2 _ ∧ _).1 _).drew hP1.out
    refine takeH (i := 1) (oi := _) (v := ?_) rfl (by kernel_rfl) (by kernel_rfl) (by kernel_rfl) (fun _ _ _ h => h) (Or.inl ⟨by rfl, ?_⟩) (by assumption) ?_
    rotate_left
    · first | (intro w hSw; (try dsimp only at hSw); go_simp; done) | (intro w hSw; (try dsimp only at hSw); go_simp; with_reducible rfl)
    (try simp only [Act.put, List.setIfInBounds_toArray, List.set_cons_zero, List.set_cons_succ])
    refine takeH (i := 2) (oi := _) (v := ?_) rfl (by kernel_rfl) (by kernel_rfl) (by kernel_rfl) (fun _ _ _ h => h) (Or.inl ⟨by rfl, ?_⟩) (by assumption) ?_
    rotate_left
    · first | (intro w hSw; (try dsimp only at hSw); go_simp; done) | (intro w hSw; (try dsimp only at hSw); go_simp; with_reducible rfl)
    (try simp only [Act.put, List.setIfInBounds_toArray, List.set_cons_zero, List.set_cons_succ])
    refine takeH (i := 4) (oi := _) (v := ?_) rfl (by kernel_rfl) (by kernel_rfl) (by kernel_rfl) (fun _ _ _ h => h) (Or.inl ⟨by rfl, ?_⟩) (by assumption) ?_
    rotate_left
    · first | (intro w hSw; (try dsimp only at hSw); go_simp; done) | (intro w hSw; (try dsimp only at hSw); go_simp; with_reducible rfl)
    (try simp only [Act.put, List.setIfInBounds_toArray, List.set_cons_zero, List.set_cons_succ])
    refine takeH (i := 5) (oi := _) (v := ?_) rfl (by kernel_rfl) (by kernel_rfl) (by kernel_rfl) (fun _ _ _ h => h) (Or.inl ⟨by rfl, ?_⟩) (by assumption) ?_
    rotate_left
    · first | (intro w hSw; (try dsimp only at hSw); go_simp; done) | (intro w hSw; (try dsimp only at hSw); go_simp; with_reducible rfl)
    (try simp only [Act.put, List.setIfInBounds_toArray, List.set_cons_zero, List.set_cons_succ])
    refine wpAnyH_ready (rs := [0, 3]) (by kernel_rfl) (by simp) ?_
    refine consM rfl (fun Kq hKq => ?_) (consH rfl (fun Kq hKq => ?_))
    · go_simp
      refine hKq.out _ _ ?_ (fun hHeld1 => ?_)
      · (try dsimp only); first | exact keep2 (by assumption) hP1.out | exact keep2 (KeepR.alloc0 _ _) hP1.out | exact keep2 (KeepR.start _) hP1.out | exact keep2 (KeepR.alloc (by assumption : KeepR w2 _ ∧ _).1 _) hP1.out | exact keep2 (KeepR.alloc (by assumption : KeepR w2 _ ∧ _).1 _).drew hP1.out
      clear hKq Kq
      (try simp only [Act.put, List.setIfInBounds_toArray, List.set_cons_zero, List.set_cons_succ])
      clear hHeld0
      refine wpAnyH_ready (rs := [3]) (by kernel_rfl) (by simp) ?_
      refine consH rfl (fun Kq hKq => ?_)
      go_simp
      (go_at_call 134; refine (impl_over _ _ _ _ _ _ ps ws a1 n1 cA a _ (H.out.below (hb1.trans (Below.mono (by assumption : KeepR w2 _ ∧ _).1 hb1.size))) Hp.out (H1.out.below (hb1.trans (Below.mono (by assumption : KeepR w2 _ ∧ _).1 hb1.size))) hn1 Ha.out).mono ?_; rintro e w5 ⟨v5, rfl, o5, b5⟩; have hk5 := KeepR.next b5 (by assumption : KeepR w2 _ ∧ _).1)
      refine hKq.out _ _ ?_ (fun hHeld2 => ?_)
      · (try dsimp only); first | exact keep2 (by assumption) hP1.out | exact keep2 (KeepR.alloc0 _ _) hP1.out | exact keep2 (KeepR.start _) hP1.out | exact keep2 (KeepR.alloc (by assumption : KeepR w2 _ ∧ _).1 _) hP1.out | exact keep2 (KeepR.alloc (by assumption : KeepR w2 _ ∧ _).1 _).drew hP1.out
      clear hKq Kq
      (try simp only [Act.put, List.setIfInBounds_toArray, List.set_cons_zero, List.set_cons_succ])
      clear hHeld1
      refine wpAnyH_ready (rs := [6]) (by kernel_rfl) (by simp) ?_
      refine consH rfl (fun Kq hKq => ?_)
      go_simp
      (go_at_call 134; refine (impl_over _ _ _ _ _ _ ps ws a2 n2 cB b _ (H.out.below (hb1.trans (Below.mono (by assumption : KeepR w2 _ ∧ _).1 hb1.size))) Hp.out (H2.out.below (hb1.trans (Below.mono (by assumption : KeepR w2 _ ∧ _).1 hb1.size))) hn2 Hb.out).mono ?_; rintro e w6 ⟨v6, rfl, o6, b6⟩; have hk6 := KeepR.next b6 (by assumption : KeepR w2 _ ∧ _).1)
      refine hKq.out _ _ ?_ (fun hHeld3 => ?_)
      · (try dsimp only); first | exact keep2 (by assumption) hP1.out | exact keep2 (KeepR.alloc0 _ _) hP1.out | exact keep2 (KeepR.start _) hP1.out | exact keep2 (KeepR.alloc (by assumption : KeepR w2 _ ∧ _).1 _) hP1.out | exact keep2 (KeepR.alloc (by assumption : KeepR w2 _ ∧ _).1 _).drew hP1.out
      clear hKq Kq
      (try simp only [Act.put, List.setIfInBounds_toArray, List.set_cons_zero, List.set_cons_succ])
      clear hHeld2
      refine takeH (i := 7) (oi := _) (v := ?_) rfl (by kernel_rfl) (by kernel_rfl) (by kernel_rfl) (fun _ _ _ h => h) (Or.inl ⟨by rfl, ?_⟩) (by assumption) ?_
      rotate_left
      · first | (intro w hSw; (try dsimp only at hSw); go_simp; done) | (intro w hSw; (try dsimp only at hSw); go_simp; with_reducible rfl)
      (try simp only [Act.put, List.setIfInBounds_toArray, List.set_cons_zero, List.set_cons_succ])
      refine takeH (i := 8) (oi := _) (v := ?_) rfl (by kernel_rfl) (by kernel_rfl) (by kernel_rfl) (fun _ _ _ h => h) (Or.inl ⟨by rfl, ?_⟩) (by assumption) ?_
      rotate_left
      · first | (intro w hSw; (try dsimp only at hSw); go_simp; done) | (intro w hSw; (try dsimp only at hSw); go_simp; with_reducible rfl)
      (try simp only [Act.put, List.setIfInBounds_toArray, List.set_cons_zero, List.set_cons_succ])
      refine takeH (i := 9) (oi := _) (v := ?_) rfl (by kernel_rfl) (by kernel_rfl) (by kernel_rfl) (fun _ _ _ h => h) (Or.inl ⟨by rfl, ?_⟩) (by assumption) ?_
      rotate_left
      · first | (intro w hSw; (try dsimp only at hSw); go_simp; done) | (intro w hSw; (try dsimp only at hSw); go_simp; with_reducible rfl)
      (try simp only [Act.put, List.setIfInBounds_toArray, List.set_cons_zero, List.set_cons_succ])
      refine wpAnyH_done (by kernel_rfl) ?_ _
      refine NoPanic.normal ?_
      go_wp2_with fail
      go_meet
      first
        | exact merge_mk hk6 (Hml.out a) (Hml.out b) (((own_nil0 w2).below b5).below b6) (Nat.le_refl _) (o5.below b6) o6 (fun q hq => by have := (World.ownsRow.lt o5 q hq).1; simp at this; omega) (fun q hq => by have := (World.ownsRow.lt o6 q hq).1; have := b5.size; simp at this; omega)
        | exact merge_mk hk6 (Hml.out a) (Hml.out b) ((((own_nil0 w2).below (Below.refl _ _).drew).below b5).below b6) (Nat.le_refl _) (o5.below b6) o6 (fun q hq => by have := (World.ownsRow.lt o5 q hq).1; simp at this; omega) (fun q hq => by have := (World.ownsRow.lt o6 q hq).1; have := b5.size; simp at this; omega)
        | exact merge_mk hk6 (Hml.out a) (Hml.out b) ((own_nil0 w5).below b6) (Below.size hk5) ((o5.below (below_new w5 _)).below b6) o6 (fun q hq => by have := (World.ownsRow.lt o5 q hq).2; omega) (fun q hq => by have := (World.ownsRow.lt o6 q hq).1; simp at this; omega)
        | exact merge_mk (KeepR.alloc hk6 _) (Hml.out a) (Hml.out b) (own_nil0 w6) (Below.size hk6) ((o5.below b6).below (below_new w6 _)) (o6.below (below_new w6 _)) (fun q hq => by have := (World.ownsRow.lt (o5.below b6) q hq).2; omega) (fun q hq => by have := (World.ownsRow.lt o6 q hq).2; omega)
    · go_simp
      (go_at_call 134; refine (impl_over _ _ _ _ _ _ ps ws a1 n1 cA a _ (H.out.below (hb1.trans (Below.mono (by assumption : KeepR w2 _ ∧ _).1 hb1.size))) Hp.out (H1.out.below (hb1.trans (Below.mono (by assumption : KeepR w2 _ ∧ _).1 hb1.size))) hn1 Ha.out).mono ?_; rintro e w5 ⟨v5, rfl, o5, b5⟩; have hk5 := KeepR.next b5 (by assumption : KeepR w2 _ ∧ _).1)
      refine hKq.out _ _ ?_ (fun hHeld1 => ?_)
      · (try dsimp only); first | exact keep2 (by assumption) hP1.out | exact keep2 (KeepR.alloc0 _ _) hP1.out | exact keep2 (KeepR.start _) hP1.out | exact keep2 (KeepR.alloc (by assumption : KeepR w2 _ ∧ _).1 _) hP1.out | exact keep2 (KeepR.alloc (by assumption : KeepR w2 _ ∧ _).1 _).drew hP1.out
      clear hKq Kq
      (try simp only [Act.put, List.setIfInBounds_toArray, List.set_cons_zero, List.set_cons_succ])
      clear hHeld0
      refine wpAnyH_ready (rs := [0, 6]) (by kernel_rfl) (by simp) ?_
      refine consM rfl (fun Kq hKq => ?_) (consH rfl (fun Kq hKq => ?_))
      · go_simp
        refine hKq.out _ _ ?_ (fun hHeld2 => ?_)
        · (try dsimp only); first | exact keep2 (by assumption) hP1.out | exact keep2 (KeepR.alloc0 _ _) hP1.out | exact keep2 (KeepR.start _) hP1.out | exact keep2 (KeepR.alloc (by assumption : KeepR w2 _ ∧ _).1 _) hP1.out | exact keep2 (KeepR.alloc (by assumption : KeepR w2 _ ∧ _).1 _).drew hP1.out
        clear hKq Kq
        (try simp only [Act.put, List.setIfInBounds_toArray, List.set_cons_zero, List.set_cons_succ])
        clear hHeld1
        refine wpAnyH_ready (rs := [6]) (by kernel_rfl) (by simp) ?_
        refine consH rfl (fun Kq hKq => ?_)
        go_simp
        (go_at_call 134; refine (impl_over _ _ _ _ _ _ ps ws a2 n2 cB b _ (H.out.below (hb1.trans (Below.mono (by assumption : KeepR w2 _ ∧ _).1 hb1.size))) Hp.out (H2.out.below (hb1.trans (Below.mono (by assumption : KeepR w2 _ ∧ _).1 hb1.size))) hn2 Hb.out).mono ?_; rintro e w6 ⟨v6, rfl, o6, b6⟩; have hk6 := KeepR.next b6 (by assumption : KeepR w2 _ ∧ _).1)
        refine hKq.out _ _ ?_ (fun hHeld3 => ?_)
        · (try dsimp only); first | exact keep2 (by assumption) hP1.out | exact keep2 (KeepR.alloc0 _ _) hP1.out | exact keep2 (KeepR.start _) hP1.out | exact keep2 (KeepR.alloc (by assumption : KeepR w2 _ ∧ _).1 _) hP1.out | exact keep2 (KeepR.alloc (by assumption : KeepR w2 _ ∧ _).1 _).drew hP1.out
        clear hKq Kq
        (try simp only [Act.put, List.setIfInBounds_toArray, List.set_cons_zero, List.set_cons_succ])
        clear hHeld2
        refine takeH (i := 7) (oi := _) (v := ?_) rfl (by kernel_rfl) (by kernel_rfl) (by kernel_rfl) (fun _ _ _ h => h) (Or.inl ⟨by rfl, ?_⟩) (by assumption) ?_
        rotate_left
        · first | (intro w hSw; (try dsimp only at hSw); go_simp; done) | (intro w hSw; (try dsimp only at hSw); go_simp; with_reducible rfl)
        (try simp only [Act.put, List.setIfInBounds_toArray, List.set_cons_zero, List.set_cons_succ])
        refine takeH (i := 8) (oi := _) (v := ?_) rfl (by kernel_rfl) (by kernel_rfl) (by kernel_rfl) (fun _ _ _ h => h) (Or.inl ⟨by rfl, ?_⟩) (by assumption) ?_
        rotate_left
        · first | (intro w hSw; (try dsimp only at hSw); go_simp; done) | (intro w hSw; (try dsimp only at hSw); go_simp; with_reducible rfl)
        (try simp only [Act.put, List.setIfInBounds_toArray, List.set_cons_zero, List.set_cons_succ])
        refine takeH (i := 9) (oi := _) (v := ?_) rfl (by kernel_rfl) (by kernel_rfl) (by kernel_rfl) (fun _ _ _ h => h) (Or.inl ⟨by rfl, ?_⟩) (by assumption) ?_
        rotate_left
        · first | (intro w hSw; (try dsimp only at hSw); go_simp; done) | (intro w hSw; (try dsimp only at hSw); go_simp; with_reducible rfl)
        (try simp only [Act.put, List.setIfInBounds_toArray, List.set_cons_zero, List.set_cons_succ])
        refine wpAnyH_done (by kernel_rfl) ?_ _
        refine NoPanic.normal ?_
        go_wp2_with fail
        go_meet
        first
          | exact merge_mk hk6 (Hml.out a) (Hml.out b) (((own_nil0 w2).below b5).below b6) (Nat.le_refl _) (o5.below b6) o6 (fun q hq => by have := (World.ownsRow.lt o5 q hq).1; simp at this; omega) (fun q hq => by have := (World.ownsRow.lt o6 q hq).1; have := b5.size; simp at this; omega)
          | exact merge_mk hk6 (Hml.out a) (Hml.out b) ((((own_nil0 w2).below (Below.refl _ _).drew).below b5).below b6) (Nat.le_refl _) (o5.below b6) o6 (fun q hq => by have := (World.ownsRow.lt o5 q hq).1; simp at this; omega) (fun q hq => by have := (World.ownsRow.lt o6 q hq).1; have := b5.size; simp at this; omega)
          | exact merge_mk hk6 (Hml.out a) (Hml.out b) ((own_nil0 w5).below b6) (Below.size hk5) ((o5.below (below_new w5 _)).below b6) o6 (fun q hq => by have := (World.ownsRow.lt o5 q hq).2; omega) (fun q hq => by have := (World.ownsRow.lt o6 q hq).1; simp at this; omega)
          | exact merge_mk (KeepR.alloc hk6 _) (Hml.out a) (Hml.out b) (own_nil0 w6) (Below.size hk6) ((o5.below b6).below (below_new w6 _)) (o6.below (below_new w6 _)) (fun q hq => by have := (World.ownsRow.lt (o5.below b6) q hq).2; omega) (fun q hq => by have := (World.ownsRow.lt o6 q hq).2; omega)
      · go_simp
        (go_at_call 134; refine (impl_over _ _ _ _ _ _ ps ws a2 n2 cB b _ (H.out.below (hb1.trans (Below.mono (by assumption : KeepR w2 _ ∧ _).1 hb1.size))) Hp.out (H2.out.below (hb1.trans (Below.mono (by assumption : KeepR w2 _ ∧ _).1 hb1.size))) hn2 Hb.out).mono ?_; rintro e w6 ⟨v6, rfl, o6, b6⟩; have hk6 := KeepR.next b6 (by assumption : KeepR w2 _ ∧ _).1)
        refine hKq.out _ _ ?_ (fun hHeld2 => ?_)
        · (try dsimp only); first | exact keep2 (by assumption) hP1.out | exact keep2 (KeepR.alloc0 _ _) hP1.out | exact keep2 (KeepR.start _) hP1.out | exact keep2 (KeepR.alloc (by assumption : KeepR w2 _ ∧ _).1 _) hP1.out | exact keep2 (KeepR.alloc (by assumption : KeepR w2 _ ∧ _).1 _).drew hP1.out
        clear hKq Kq
        (try simp only [Act.put, List.setIfInBounds_toArray, List.set_cons_zero, List.set_cons_succ])
        clear hHeld1
        refine wpAnyH_ready (rs := [0]) (by kernel_rfl) (by simp) ?_
        refine consH rfl (fun Kq hKq => ?_)
        go_simp
        refine hKq.out _ _ ?_ (fun hHeld3 => ?_)
        · (try dsimp only); first | exact keep2 (by assumption) hP1.out | exact keep2 (KeepR.alloc0 _ _) hP1.out | exact keep2 (KeepR.start _) hP1.out | exact keep2 (KeepR.alloc (by assumption : KeepR w2 _ ∧ _).1 _) hP1.out | exact keep2 (KeepR.alloc (by assumption : KeepR w2 _ ∧ _).1 _).drew hP1.out
        clear hKq Kq
        (try simp only [Act.put, List.setIfInBounds_toArray, List.set_cons_zero, List.set_cons_succ])
        clear hHeld2
        refine takeH (i := 7) (oi := _) (v := ?_) rfl (by kernel_rfl) (by kernel_rfl) (by kernel_rfl) (fun _ _ _ h => h) (Or.inl ⟨by rfl, ?_⟩) (by assumption) ?_
        rotate_left
        · first | (intro w hSw; (try dsimp only at hSw); go_simp; done) | (intro w hSw; (try dsimp only at hSw); go_simp; with_reducible rfl)
        (try simp only [Act.put, List.setIfInBounds_toArray, List.set_cons_zero, List.set_cons_succ])
        refine takeH (i := 8) (oi := _) (v := ?_) rfl (by kernel_rfl) (by kernel_rfl) (by kernel_rfl) (fun _ _ _ h => h) (Or.inl ⟨by rfl, ?_⟩) (by assumption) ?_
        rotate_left
        · first | (intro w hSw; (try dsimp only at hSw); go_simp; done) | (intro w hSw; (try dsimp only at hSw); go_simp; with_reducible rfl)
        (try simp only [Act.put, List.setIfInBounds_toArray, List.set_cons_zero, List.set_cons_succ])
        refine takeH (i := 9) (oi := _) (v := ?_) rfl (by kernel_rfl) (by kernel_rfl) (by kernel_rfl) (fun _ _ _ h => h) (Or.inl ⟨by rfl, ?_⟩) (by assumption) ?_
        rotate_left
        · first | (intro w hSw; (try dsimp only at hSw); go_simp; done) | (intro w hSw; (try dsimp only at hSw); go_simp; with_reducible rfl)
        (try simp only [Act.put, List.setIfInBounds_toArray, List.set_cons_zero, List.set_cons_succ])
        refine wpAnyH_done (by kernel_rfl) ?_ _
        refine NoPanic.normal ?_
        go_wp2_with fail
        go_meet
        first
          | exact merge_mk hk6 (Hml.out a) (Hml.out b) (((own_nil0 w2).below b5).below b6) (Nat.le_refl _) (o5.below b6) o6 (fun q hq => by have := (World.ownsRow.lt o5 q hq).1; simp at this; omega) (fun q hq => by have := (World.ownsRow.lt o6 q hq).1; have := b5.size; simp at this; omega)
          | exact merge_mk hk6 (Hml.out a) (Hml.out b) ((((own_nil0 w2).below (Below.refl _ _).drew).below b5).below b6) (Nat.le_refl _) (o5.below b6) o6 (fun q hq => by have := (World.ownsRow.lt o5 q hq).1; simp at this; omega) (fun q hq => by have := (World.ownsRow.lt o6 q hq).1; have := b5.size; simp at this; omega)
          | exact merge_mk hk6 (Hml.out a) (Hml.out b) ((own_nil0 w5).below b6) (Below.size hk5) ((o5.below (below_new w5 _)).below b6) o6 (fun q hq => by have := (World.ownsRow.lt o5 q hq).2; omega) (fun q hq => by have := (World.ownsRow.lt o6 q hq).1; simp at this; omega)
          | exact merge_mk (KeepR.alloc hk6 _) (Hml.out a) (Hml.out b) (own_nil0 w6) (Below.size hk6) ((o5.below b6).below (below_new w6 _)) (o6.below (below_new w6 _)) (fun q hq => by have := (World.ownsRow.lt (o5.below b6) q hq).2; omega) (fun q hq => by have := (World.ownsRow.lt o6 q hq).2; omega)
    all_goals exact foo
  case rest =>
    obtain ⟨hk5, g9, a10, c10, a11, c11, rfl, rfl, rfl, o9, i10, i11, s10, s11⟩ := hcut
    have hk5b : Below w2.heap.size w2 wc := hk5
    have hb15 := hb1.trans (hk5b.mono hb1.size)
    have HO := Lib.hid o9
    have G10 := Lib.hid i10
    have G11 := Lib.hid i11
    have R10 := Lib.hid s10
    have R11 := Lib.hid s11
    have hw2 : w.heap.size ≤ w2.heap.size := hb1.size
    have hw2c : w2.heap.size ≤ wc.heap.size := hk5b.size
    have H1' := Lib.hid (H1.out.below hb15)
    have H2' := Lib.hid (H2.out.below hb15)
    have HPL : Hid (∀ k, k < (ends ps).length → ∃ i j : Nat, i < n1 ∧ j < n2 ∧ nth ((ends ps).map (ovI ps a)) k = (i : Int) ∧ nth ((ends ps).map (ovI ps b)) k = (j : Int) ∧ nth ((ends ps).map fun e => pickI early (stop ps (hasB a) e.toNat) (stop ps (hasB b) e.toNat)) k = pickI early (nth a i) (nth b j)) := Lib.hid fun k hk => by
      obtain ⟨e, h1, h2, h3⟩ := end_nth hk
      obtain ⟨i, q1, q2, q3⟩ := ov_at Ha.out Hp.out h1 h2
      obtain ⟨j, r1, r2, r3⟩ := ov_at Hb.out Hp.out h1 h2
      have l1 := H1.out.1
      have l2 := H2.out.1
      refine ⟨i, j, by omega, by omega, ?_, ?_, ?_⟩
      · rw [nth_map hk, h3, q2]
      · rw [nth_map hk, h3, r2]
      · rw [nth_map hk, h3, Int.toNat_natCast, q3, r3]
    have Hres := Lib.hid (merge_eq Hp.out Ha.out Hb.out early)
    have Hlen : Hid (((ends ps).map fun e => pickI early (stop ps (hasB a) e.toNat) (stop ps (hasB b) e.toNat)).length = (ends ps).length) := Lib.hid (List.length_map _)
    clear i10 i11 s10 s11 o9 hk5 hk5b hb1 Hml
    generalize ((ends ps).map fun e => pickI early (stop ps (hasB a) e.toNat) (stop ps (hasB b) e.toNat)) = PL at *
    generalize ((ends ps).map (ovI ps a)) = F at *
    generalize ((ends ps).map (ovI ps b)) = G at *
    generalize (ends ps).length = m at *
    generalize hU : w2.heap.size = U at *
    clear hU
    go_wp2_with fail
    go_loopw [9, 24] (fun v9 v24 wr => ∃ k : Nat, k ≤ m ∧ v24 = .int .i64 (k : Int) ∧ Own wr U v9 (PL.take k) ∧ Ints wr a10 m F ∧ Ints wr a11 m G ∧ (0 < m → Apart a10 v9) ∧ (0 < m → Apart a11 v9) ∧ Below w.heap.size w wr ∧ U ≤ wr.heap.size) (fun _ v24 _ => m - (intOf v24).toNat)
    case atStart => exact ⟨0, Nat.zero_le _, rfl, by simpa using HO.out, G10.out, G11.out, R10.out, R11.out, hb15, hw2c⟩
    case round =>
      clear hb15 HO G10 G11 R10 R11 hw2c H1' H2'
      obtain ⟨k, hk, rfl, hown, h10, h11, hp10, hp11, hbel, hsz⟩ := hrel
      have G10 := Lib.hid h10
      have G11 := Lib.hid h11
      have R10 := Lib.hid hp10
      have R11 := Lib.hid hp11
      have H1' := Lib.hid (H1.out.below hbel)
      have H2' := Lib.hid (H2.out.below hbel)
      clear h10 h11 hp10 hp11
      by_cases hlt : (k : Int) < m
      · obtain ⟨i, j, hi, hj, e1, e2, e3⟩ := HPL.out k (by omega)
        obtain ⟨bF, oF, rfl, hcF⟩ := G10.out.at (i := k) (Below.refl _ _) (by omega)
        obtain ⟨bG, oG, rfl, hcG⟩ := G11.out.at (i := k) (Below.refl _ _) (by omega)
        obtain ⟨bA, oA, rfl, hcA⟩ := H1'.out.at (i := i) (Below.refl _ _) (by omega)
        obtain ⟨bB, oB, rfl, hcB⟩ := H2'.out.at (i := j) (Below.refl _ _) (by omega)
        rw [e1] at hcF
        rw [e2] at hcG
        clear e1 e2
        have hlen : (PL.take k).length ≤ 24 := by rw [List.length_take]; omega
        have Hf : Hid (PL.take (k + 1) = PL.take k ++ [pickI early (nth a i) (nth b j)]) := Lib.hid (by rw [take_succ_nth (by have := Hlen.out; omega), e3])
        clear e3
        have k1 : (0 : Int) ≤ (k : Int) := by omega
        have k2 : (k : Int) < (m : Int) := hlt
        have k3 : (0 : Int) ≤ (i : Int) := by omega
        have k4 : (i : Int) < (n1 : Int) := by omega
        have k5 : (0 : Int) ≤ (j : Int) := by omega
        have k6 : (j : Int) < (n2 : Int) := by omega
        generalize nth a i = X at *
        generalize nth b j = Y at *
        cases early <;> by_cases hYX : Y < X
        · have Hv : Hid (pickI false X Y = X) := Lib.hid (by simp [pickI, hYX])
          rw [Hv.out] at Hf
          clear Hv
          go_wp2_with (first
            | (at_builtin; refine wp_push2 (.tmp 47) (.tmp 49) rfl rfl U _ _ rfl hown rfl (by omega) hsz ?_; intro v' w' ho hb hm)
            | go_quiet (fail))
          have h10 := G10.out.moved hm R10.out
          have h11 := G11.out.moved hm R11.out
          go_roundw
          case rel => exact ⟨k + 1, by omega, by go_num, by rw [Hf.out]; exact ho, h10.1, h11.1, h10.2, h11.2, (below_drewN hbel _).trans (hb.mono hw2), by have := hb.size; simp at this; omega⟩
          case measure => simp [intOf]; omega
        · have Hv : Hid (pickI false X Y = Y) := Lib.hid (by simp [pickI, hYX])
          rw [Hv.out] at Hf
          clear Hv
          go_wp2_with (first
            | (at_builtin; refine wp_push2 (.tmp 47) (.tmp 49) rfl rfl U _ _ rfl hown rfl (by omega) hsz ?_; intro v' w' ho hb hm)
            | go_quiet (fail))
          have h10 := G10.out.moved hm R10.out
          have h11 := G11.out.moved hm R11.out
          go_roundw
          case rel => exact ⟨k + 1, by omega, by go_num, by rw [Hf.out]; exact ho, h10.1, h11.1, h10.2, h11.2, (below_drewN hbel _).trans (hb.mono hw2), by have := hb.size; simp at this; omega⟩
          case measure => simp [intOf]; omega
        · have Hv : Hid (pickI true X Y = Y) := Lib.hid (by simp [pickI, hYX])
          rw [Hv.out] at Hf
          clear Hv
          go_wp2_with (first
            | (at_builtin; refine wp_push2 (.tmp 47) (.tmp 49) rfl rfl U _ _ rfl hown rfl (by omega) hsz ?_; intro v' w' ho hb hm)
            | go_quiet (fail))
          have h10 := G10.out.moved hm R10.out
          have h11 := G11.out.moved hm R11.out
          go_roundw
          case rel => exact ⟨k + 1, by omega, by go_num, by rw [Hf.out]; exact ho, h10.1, h11.1, h10.2, h11.2, (below_drewN hbel _).trans (hb.mono hw2), by have := hb.size; simp at this; omega⟩
          case measure => simp [intOf]; omega
        · have Hv : Hid (pickI true X Y = X) := Lib.hid (by simp [pickI, hYX])
          rw [Hv.out] at Hf
          clear Hv
          go_wp2_with (first
            | (at_builtin; refine wp_push2 (.tmp 47) (.tmp 49) rfl rfl U _ _ rfl hown rfl (by omega) hsz ?_; intro v' w' ho hb hm)
            | go_quiet (fail))
          have h10 := G10.out.moved hm R10.out
          have h11 := G11.out.moved hm R11.out
          go_roundw
          case rel => exact ⟨k + 1, by omega, by go_num, by rw [Hf.out]; exact ho, h10.1, h11.1, h10.2, h11.2, (below_drewN hbel _).trans (hb.mono hw2), by have := hb.size; simp at this; omega⟩
          case measure => simp [intOf]; omega
      · obtain rfl : k = m := by omega
        have hPl : PL.take k = PL := List.take_of_length_le (by have := Hlen.out; omega)
        rw [hPl] at hown
        have hpl24 : PL.length ≤ 24 := by have := Hlen.out; omega
        clear hPl
        obtain ⟨av, cv, rfl⟩ := hown.shape
        go_wp2_with (first
          | (go_at_call 161; refine (c_sort _ _ _ _ PL _ hown (by omega) hsz).mono ?_; rintro e w5 ⟨rfl, ho5, hb5⟩)
          | (go_at_call 162; refine (c_compact _ _ _ _ _ _ ho5 (by omega)).mono ?_; rintro e w6 ⟨v6, rfl, ho6, hb6⟩))
        go_ret
        exact ⟨_, rfl, by rw [← Hres.out]; exact ho6.mono hw2, hbel.trans ((hb5.mono hw2).trans (hb6.mono hw2))⟩
end Go.Proofs.Ytnbomleieianoaa
