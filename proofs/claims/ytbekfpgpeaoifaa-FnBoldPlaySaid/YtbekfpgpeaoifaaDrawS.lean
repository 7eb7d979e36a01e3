/- Contract: a table drawn for a proof of stakes. -/
import Derived.Test.YtbekfpgpeaoifaaDrawR
import Derived.Test.YtbekfpgpeaoifaaTabS2
import Derived.Test.YtbekfpgpeaoifaaHeld
import Derived.Test.YtbekfpgpeaoifaaB2
namespace Go.Proofs.Ytbekfpgpeaoifaa
open Go.RowKit

theorem far_ne {w : World} {base g : Nat} {e : TypeId} {v : Value} {m : Nat} {vs : List Value} (h : w.ownsRow base e 1 v m vs) (hg : g < base) : v.ownBlock = none ∨ v.ownBlock ≠ some g := by
  cases hb : v.ownBlock with
  | none => exact .inl rfl
  | some k => refine .inr fun e => ?_; cases e; have := (World.ownsRow.lt h g hb).1; omega
theorem OwnSS.far {w w' : World} {base g : Nat} {v : Value} {vs : List Value} {xss : List (List Int)} (h : OwnSS w base v vs xss) (hg : w.grownBy w' (some g)) (hlt : g < base) : OwnSS w' base v vs xss :=
  ⟨h.len, h.outer.grown hg (far_ne h.outer hlt), fun i hi => (h.rows i hi).grown hg (far_ne (h.rows i hi) hlt), h.apart⟩
/-- The cursor stays where another block is written. -/
theorem Cur.far {w w' : World} {g q : Nat} {a : Option Addr} {n cap : Nat} {lim : Int} (h : Cur w g a n cap lim) (hg : w.grownBy w' (some q)) (hne : g ≠ q) (hcode : 0 < n → ∀ b off, a = some ⟨b, off, none⟩ → b ≠ q) : Cur w' g a n cap lim := by
  have hc : ∀ i : Nat, w'.cell? ⟨g, i, none⟩ = w.cell? ⟨g, i, none⟩ := fun i => World.cell?_of_block (a := ⟨g, i, none⟩) (hg.block g h.lt (by simpa using hne))
  have hf : ∀ i : Nat, w'.frozen? ⟨g, i, none⟩ = w.frozen? ⟨g, i, none⟩ := fun i => World.frozen?_of_block (a := ⟨g, i, none⟩) (hg.block g h.lt (by simpa using hne))
  exact ⟨h.code.grown hcode hg, h.other, (hc 0).trans h.c0, by obtain ⟨k, h1, h2⟩ := h.c1; exact ⟨k, (hc 1).trans h1, h2⟩, by obtain ⟨s, h1⟩ := h.c2; exact ⟨s, (hc 2).trans h1⟩, (hf 1).trans h.f1, (hf 2).trans h.f2⟩
/-- A table that can be read. -/
def TableV (w : World) (v : Value) : Prop := ∃ (a : Option Addr) (n c : Nat) (xss : List (List Int)), v = .slice a n c ∧ IntsSS w a n xss ∧ n ≤ 16 ∧ ∀ j, j < n → (row xss j).length ≤ 16
theorem grown_cellS (w : World) (b i : Nat) (v : Value) : w.grownBy (w.setCell ⟨b, i, none⟩ v) (some b) :=
  ⟨rfl, rfl, rfl, by simp [World.setCell], fun k _ hk => Below.heap_setCell _ _ _ _ (fun e => hk (by simp [e]))⟩
theorem World.ownsRow.capS {w : World} {base : Nat} {e : TypeId} {g : Option Addr} {n cap : Nat} {vs : List Value} (h : w.ownsRow base e 1 (.slice g n cap) vs.length vs) : vs.length ≤ cap := by
  unfold World.ownsRow at h
  rcases h.2 with ⟨h1, h2⟩ | ⟨g, cp, cur, h1, h2, h3, h4, h5, h6⟩
  · omega
  · injection h1 with e1 e2 e3
    omega
/-- Behind a round: one number of one row is written. -/
theorem round_end {w w6 : World} {base go gr co cr M K J I q : Nat} {a : Option Addr} {n cap : Nat} {lim : Int} {vs : List Value} {yss : List (List Int)} {v : Int} (c6 : Cur w6 w.heap.size a n cap lim) (o6 : OwnSS w6 base (.slice (some ⟨go, 0, none⟩) (K + 1) co) vs yss) (r6 : Own w6 base (.slice (some ⟨gr, 0, none⟩) (M + 1) cr) (row yss J)) (hyl : yss.length = K + 1) (hrl : ∀ j, j < K + 1 → (row yss j).length = M + 1) (b6 : Below w.heap.size w w6) (hv : vnth vs J = .slice (some ⟨gr, 0, none⟩) (M + 1) cr) (hJ : J < K + 1) (_hI : I < M + 1) (hgr : w.heap.size < gr) (hcode : 0 < n → ∀ b off, a = some ⟨b, off, none⟩ → b < w.heap.size) (hq0 : (q : Int) > 0) (hq : q ≤ 2) (hl : lim ≤ 100 - 10 * ((q : Int) - 1)) :
    ∃ (t : Nat) (zss : List (List Int)), t ≤ 2 ∧ Value.int .i64 ((q : Int) - 1) = .int .i64 (t : Int) ∧ Cur (w6.setCell ⟨gr, I, none⟩ (.int .i64 v)) w.heap.size a n cap (100 - 10 * (t : Int)) ∧ OwnSS (w6.setCell ⟨gr, I, none⟩ (.int .i64 v)) base (.slice (some ⟨go, 0, none⟩) (K + 1) co) vs zss ∧ zss.length = K + 1 ∧ (∀ j, j < K + 1 → (row zss j).length = M + 1) ∧ Below w.heap.size w (w6.setCell ⟨gr, I, none⟩ (.int .i64 v)) := by
  have hg := grown_cellS w6 gr I (.int .i64 v)
  have hvl : vs.length = K + 1 := by rw [o6.len, hyl]
  refine ⟨q - 1, yss.set J ((row yss J).set I v), by omega, by congr 1; omega, (c6.far hg (by omega) fun h0 b off he => by have := hcode h0 b off he; omega).mono (by omega), ?_, by simp [hyl], fun j hj => ?_, b6.setCell (show w.heap.size ≤ gr by omega) _⟩
  · refine o6.write J (by omega) ?_ ?_ (by simp) fun j hj hne => ?_
    · rw [hv, row_set (by omega), if_pos rfl]
      exact r6.set (by rw [hrl J hJ]) I v
    · rw [hv]; exact hg
    · rw [row_set (by omega), if_neg (fun e => hne e.symm)]
  · rw [row_set (by omega)]
    by_cases e : J = j
    · rw [if_pos e, List.length_set]; exact hrl J hJ
    · rw [if_neg e]; exact hrl j hj
theorem row_tail (yss : List (List Int)) (j : Nat) : row yss.tail j = row yss (j + 1) := by
  cases yss with
  | nil => rfl
  | cons y ys => simp [row]
theorem IntsSS.rest {w : World} {b off n m : Nat} {yss : List (List Int)} (h : IntsSS w (some ⟨b, off, none⟩) n yss) (hm : m + 1 = n) : IntsSS w (some ⟨b, off + 1, none⟩) m yss.tail :=
  ⟨by rw [List.length_tail, h.1]; omega, fun h0 => by
    obtain ⟨b', off', he, hlt, hc⟩ := h.2 (by omega)
    cases he
    refine ⟨b, off + 1, rfl, hlt, fun j hj => ?_⟩
    rw [row_tail]
    have := hc (j + 1) (by omega)
    rwa [show off + 1 + j = off + (j + 1) by omega]⟩
set_option maxHeartbeats 2000000 in
theorem spec_DrawStakeProof (a : Option Addr) (n cap : Nat) (w : World) (h : Bytes w a n) :
    Calls Try.prog 15 #[.slice a n cap] w fun e w' => ∃ v, (∃ x y m : Int, e = .returned (.tuple #[.int .i64 x, .int .i64 y, .int .i64 m, v])) ∧ TableV w' v ∧ Below w.heap.size w w' := by
  have hc := Lib.hid (Cur.new (w := w) (cap := cap) 61 h)
  have hby := Lib.hid (h.below ((Below.refl _ _).alloc (Nat.le_refl _) (.cells #[.slice a n cap, .int .i64 0, .int .u64 0] 61)))
  have hb0 := (Below.refl w.heap.size w).alloc (Nat.le_refl _) (.cells #[.slice a n cap, .int .i64 0, .int .u64 0] 61)
  have hsz : (w.alloc (.cells #[.slice a n cap, .int .i64 0, .int .u64 0] 61)).heap.size = w.heap.size + 1 := by simp
  have Hcode : Hid (0 < n → ∀ b off, a = some ⟨b, off, none⟩ → b < w.heap.size) := Lib.hid fun h0 b off he => by
    obtain ⟨b', off', he', hlt, _⟩ := h.2 h0
    rw [he] at he'; cases he'; exact hlt
  go_enter Try.func15, Try.ntmps15
  go_wp2_with fail
  generalize (w.alloc (.cells #[.slice a n cap, .int .i64 0, .int .u64 0] 61)) = w0 at *
  refine (spec_DrawTimidTable a n cap _ hby.out).mono ?_
  rintro e w1 ⟨⟨x, y, m, k, rfl⟩, b1⟩
  go_wp2_with fail
  refine (spec_BestStakeTable x y m k _).mono ?_
  rintro e w2 ⟨v, rfl, hv, b2⟩
  have hsz1 := b1.size
  have C2 := Lib.hid ((hc.out.below b1).below b2)
  have B2 := Lib.hid ((hb0.trans (b1.mono (by omega))).trans (b2.mono (by omega)))
  have Hv := Lib.hid hv
  clear hc hv
  cases hok : tabOk x y m k
  · go_wp2_with fail
    refine bodyPost_ret (v := .tuple #[.int .i64 x, .int .i64 y, .int .i64 m, .slice (some ⟨w2.heap.size + 1, 0, none⟩) 1 1]) (by simp [results, Try.results15, go_sem]) rfl ⟨_, ⟨_, _, _, rfl⟩, ?_, ?_⟩
    · have h1 := ints_lit w2 [0, 1] #[.int .i64 0, .int .i64 1] 2 rfl rfl
      have h2 := h1.below ((Below.refl _ _).alloc (Nat.le_refl _) (.cells #[.slice (some ⟨w2.heap.size, 0, none⟩) 2 2] 35))
      refine ⟨_, _, _, [[0, 1]], rfl, ⟨rfl, fun _ => ⟨_, _, rfl, by simp, fun j hj => ?_⟩⟩, by omega, fun j hj => ?_⟩
      · obtain rfl : j = 0 := by omega
        exact ⟨_, _, by rw [World.cell?_alloc_at _ _ _ _ (by simp)]; rfl, h2⟩
      · obtain rfl : j = 0 := by omega
        decide
    · exact (B2.out.alloc (B2.out.size) _).alloc (by have := B2.out.size; simp; omega) _
  · have ht := tabOk_t hok
    have hv := Hv.out
    rw [tabV, hok, if_pos rfl] at hv
    obtain ⟨M, rfl⟩ : ∃ M : Nat, m = M := ⟨m.toNat, by omega⟩
    obtain ⟨K, rfl⟩ : ∃ K : Nat, k = K := ⟨k.toNat, by omega⟩
    simp only [Int.toNat_natCast] at hv
    obtain ⟨vs, hv⟩ := hv
    have hvl := hv.len
    rw [tabL_length] at hvl
    obtain ⟨go, co, hvf, hgo, hgl⟩ := hv.outer.form (by omega)
    rw [hvl] at hvf
    subst hvf
    have Hv := Lib.hid hv
    clear hv hvl
    go_wp2_with fail
    refine (spec_pick w.heap.size a n cap 0 _ _ (by omega) (by omega) C2.out).mono ?_
    rintro e w3 ⟨⟨t, rfl, ht0, ht1⟩, c3, g3⟩
    have C3 := Lib.hid c3
    have ho3 := Lib.hid (Hv.out.far g3 (by omega))
    clear c3
    go_wp2_with fail
    have hrl : ∀ j, j < K + 1 → (row (tabL (stF M) x y M K) j).length = M + 1 := fun j hj => by rw [row_tabL _ _ _ _ _ _ (by omega), tabRow_length]
    have hyl : (tabL (stF M) x y M K).length = K + 1 := tabL_length _ _ _ _ _
    obtain ⟨xs0, hx0⟩ : ∃ xs0, xs0 = tabL (stF M) x y M K := ⟨_, rfl⟩
    rw [← hx0] at ho3 hrl hyl
    have B3 := Lib.hid (B2.out.grown g3 (by have := B2.out.size; omega) (fun k hk => by cases hk; exact Nat.le_refl _))
    have hg3s := g3.size
    go_loopw [13] (fun v13 wr => ∃ (t : Nat) (yss : List (List Int)), t ≤ 2 ∧ v13 = .int .i64 (t : Int) ∧ Cur wr w.heap.size a n cap (100 - 10 * (t : Int)) ∧ OwnSS wr w1.heap.size (.slice (some ⟨go, 0, none⟩) (K + 1) co) vs yss ∧ yss.length = K + 1 ∧ (∀ j, j < K + 1 → (row yss j).length = M + 1) ∧ Below w.heap.size w wr) (fun v13 _ => (intOf v13).toNat)
    case atStart => exact ⟨t.toNat, xs0, by omega, vi (by omega), C3.out.mono (by omega), ho3.out, hyl, hrl, B3.out⟩
    case round =>
      obtain ⟨q, yss, hq, rfl, cq, oq, hyl, hrl, hbel⟩ := hrel
      have CQ := Lib.hid cq
      have OQ := Lib.hid oq
      have Hrl := Lib.hid hrl
      have Hyl := Lib.hid hyl
      clear cq oq hrl hyl
      by_cases hq0 : (q : Int) > 0
      · go_wp2_with fail
        refine (spec_pick w.heap.size a n cap _ _ _ (by omega) (by omega) CQ.out).mono ?_
        rintro e w4 ⟨⟨j, rfl, hj0, hj1⟩, c4, g4⟩
        obtain ⟨J, rfl⟩ : ∃ J : Nat, j = J := ⟨j.toNat, by omega⟩
        have hJ : J < K + 1 := by omega
        have o4 := OQ.out.far g4 (by omega)
        have hl4 := o4.len
        rw [Hyl.out] at hl4
        have hcJ := o4.outer.cell (i := J) (by omega)
        have hrJ := o4.rows J (by omega)
        obtain ⟨gr, cr, hvr, hgr, hgrl⟩ := hrJ.form (by rw [Hrl.out J hJ]; omega)
        rw [Hrl.out J hJ] at hvr
        rw [hvr] at hcJ hrJ
        have O4 := Lib.hid o4
        have HrJ := Lib.hid hrJ
        have Hvr := Lib.hid hvr
        have C4 := Lib.hid c4
        have B4 := Lib.hid (hbel.grown g4 hbel.size (fun k hk => by cases hk; exact Nat.le_refl _))
        have hg4s := g4.size
        clear o4 hrJ hvr c4 g4 hl4
        go_wp2_with fail
        refine (spec_pick w.heap.size a n cap _ _ _ (by omega) (by omega) C4.out).mono ?_
        rintro e w5 ⟨⟨i, rfl, hi0, hi1⟩, c5, g5⟩
        obtain ⟨I, rfl⟩ : ∃ I : Nat, i = I := ⟨i.toNat, by omega⟩
        have hI : I < M + 1 := by omega
        have o5 := O4.out.far g5 (by omega)
        have hrJ5 := HrJ.out.grown g5 (far_ne HrJ.out (by omega))
        have hcI := hrJ5.cell (i := I) (by rw [Hrl.out J hJ]; omega)
        obtain ⟨u, hu⟩ : ∃ u, u = nth (row yss J) I := ⟨_, rfl⟩
        rw [← hu] at hcI
        have Hu := Lib.hid hu
        have O5 := Lib.hid o5
        have HrJ5 := Lib.hid hrJ5
        have C5 := Lib.hid c5
        have B5 := Lib.hid (B4.out.grown g5 B4.out.size (fun k hk => by cases hk; exact Nat.le_refl _))
        have hg5s := g5.size
        clear o5 hrJ5 c5 g5 hu hcJ
        have hcI2 := (Below.cell (below_new w5 (.cells #[.int .i64 1, .int .i64 (-1), .int .i64 5, .int .i64 1000000000000000] 3)) (World.block_lt_of_cell? _ _ hcI)).trans hcI
        have k1 : (0 : Int) ≤ (I : Int) := by omega
        have k2 : (I : Int) < (M : Int) + 1 := by omega
        go_upto_region 11 with fail
        refine wp_region_noPanic ?_
        refine wp_region_held_drew (S := (fun W' => True)) (by kernel_rfl) ?_ (fun hHeld0 => ?_)
        · trivial
        refine takeH (i := 0) (oi := _) (v := ?_) rfl (by kernel_rfl) (by kernel_rfl) (by kernel_rfl) (fun _ _ _ h => h) (Or.inl ⟨by rfl, ?_⟩) (by assumption) ?_
        rotate_left
        · first | (intro w hSw; (try dsimp only at hSw); go_simp; done) | (intro w hSw; (try dsimp only at hSw); go_simp; with_reducible rfl)
        (try simp only [Act.put, List.setIfInBounds_toArray, List.set_cons_zero, List.set_cons_succ])
        refine takeH (i := 1) (oi := _) (v := ?_) rfl (by kernel_rfl) (by kernel_rfl) (by kernel_rfl) (fun _ _ _ h => h) (Or.inl ⟨by rfl, ?_⟩) (by assumption) ?_
        rotate_left
        · first | (intro w hSw; (try dsimp only at hSw); go_simp; done) | (intro w hSw; (try dsimp only at hSw); go_simp; with_reducible rfl)
        (try simp only [Act.put, List.setIfInBounds_toArray, List.set_cons_zero, List.set_cons_succ])
        refine takeH (i := 2) (oi := _) (v := ?_) rfl (by kernel_rfl) (by kernel_rfl) (by kernel_rfl) (fun _ _ _ h => h) (Or.inl ⟨by rfl, ?_⟩) (by assumption) ?_
        rotate_left
        · first | (intro w hSw; (try dsimp only at hSw); go_simp; done) | (intro w hSw; (try dsimp only at hSw); go_simp; with_reducible rfl)
        (try simp only [Act.put, List.setIfInBounds_toArray, List.set_cons_zero, List.set_cons_succ])
        refine takeH (i := 3) (oi := _) (v := ?_) rfl (by kernel_rfl) (by kernel_rfl) (by kernel_rfl) (fun _ _ _ h => h) (Or.inl ⟨by rfl, ?_⟩) (by assumption) ?_
        rotate_left
        · first | (intro w hSw; (try dsimp only at hSw); go_simp; done) | (intro w hSw; (try dsimp only at hSw); go_simp; with_reducible rfl)
        (try simp only [Act.put, List.setIfInBounds_toArray, List.set_cons_zero, List.set_cons_succ])
        refine takeH (i := 4) (oi := _) (v := ?_) rfl (by kernel_rfl) (by kernel_rfl) (by kernel_rfl) (fun _ _ _ h => h) (Or.inl ⟨by rfl, ?_⟩) (by assumption) ?_
        rotate_left
        · first | (intro w hSw; (try dsimp only at hSw); go_simp; done) | (intro w hSw; (try dsimp only at hSw); go_simp; with_reducible rfl)
        (try simp only [Act.put, List.setIfInBounds_toArray, List.set_cons_zero, List.set_cons_succ])
        refine takeH (i := 6) (oi := _) (v := ?_) rfl (by kernel_rfl) (by kernel_rfl) (by kernel_rfl) (fun _ _ _ h => h) (Or.inl ⟨by rfl, ?_⟩) (by assumption) ?_
        rotate_left
        · first | (intro w hSw; (try dsimp only at hSw); go_simp; done) | (intro w hSw; (try dsimp only at hSw); go_simp; with_reducible rfl)
        (try simp only [Act.put, List.setIfInBounds_toArray, List.set_cons_zero, List.set_cons_succ])
        refine wpAnyH_ready (rs := [5, 7]) (by kernel_rfl) (by simp) ?_
        refine consM rfl (fun Kq hKq => ?_) (consH rfl (fun Kq hKq => ?_))
        · go_simp
          refine hKq.out _ _ ?_ (fun hHeld1 => ?_)
          · trivial
          clear hKq Kq
          (try simp only [Act.put, List.setIfInBounds_toArray, List.set_cons_zero, List.set_cons_succ])
          clear hHeld0
          refine wpAnyH_ready (rs := [7]) (by kernel_rfl) (by simp) ?_
          refine consH rfl (fun Kq hKq => ?_)
          go_simp
          refine hKq.out _ _ ?_ (fun hHeld2 => ?_)
          · trivial
          clear hKq Kq
          (try simp only [Act.put, List.setIfInBounds_toArray, List.set_cons_zero, List.set_cons_succ])
          clear hHeld1
          refine wpAnyH_ready (rs := [8]) (by kernel_rfl) (by simp) ?_
          refine consH rfl (fun Kq hKq => ?_)
          go_simp
          have bl := (below_new w5 (.cells #[.int .i64 1, .int .i64 (-1), .int .i64 5, .int .i64 1000000000000000] 3)).drew
          refine (spec_among w.heap.size a n cap _ _ 4 4 [1, -1, 5, 1000000000000000] _ (by omega) (by omega) ((ints_lit w5 [1, -1, 5, 1000000000000000] _ 4 rfl rfl).below (Below.refl _ _).drew) (by intro p hp; cases hp; show w5.heap.size ≠ _; omega) (C5.out.below bl)).mono ?_
          rintro e w6 ⟨⟨z, hz, rfl⟩, c6, g6⟩
          have o6 := (O5.out.below bl).far g6 (by omega)
          have hr6 := (HrJ5.out.below bl).grown g6 (far_ne (HrJ5.out.below bl) (by omega))
          have hc6 := hr6.cell (i := I) (by rw [Hrl.out J hJ]; omega)
          rw [← Hu.out] at hc6
          have hf6 := hr6.free (Hrl.out J hJ).symm I
          have B6 := Lib.hid ((B5.out.trans (bl.mono B5.out.size)).grown g6 (B5.out.trans (bl.mono B5.out.size)).size (fun k hk => by cases hk; exact Nat.le_refl _))
          have O6 := Lib.hid o6
          have R6 := Lib.hid hr6
          have C6 := Lib.hid c6
          have hs6 := g6.size
          clear o6 hr6 c6 g6 bl hz
          generalize nth [1, -1, 5, 1000000000000000] z = q4 at *
          refine hKq.out _ _ ?_ (fun hHeld3 => ?_)
          · trivial
          clear hKq Kq
          (try simp only [Act.put, List.setIfInBounds_toArray, List.set_cons_zero, List.set_cons_succ])
          clear hHeld2
          refine takeH (i := 9) (oi := _) (v := ?_) rfl (by kernel_rfl) (by kernel_rfl) (by kernel_rfl) (fun _ _ _ h => h) (Or.inl ⟨by rfl, ?_⟩) (by assumption) ?_
          rotate_left
          · first | (intro w hSw; (try dsimp only at hSw); go_simp; done) | (intro w hSw; (try dsimp only at hSw); go_simp; with_reducible rfl)
          (try simp only [Act.put, List.setIfInBounds_toArray, List.set_cons_zero, List.set_cons_succ])
          refine takeH (i := 10) (oi := _) (v := ?_) rfl (by kernel_rfl) (by kernel_rfl) (by kernel_rfl) (fun _ _ _ h => h) (Or.inl ⟨by rfl, ?_⟩) (by assumption) ?_
          rotate_left
          · first | (intro w hSw; (try dsimp only at hSw); go_simp; done) | (intro w hSw; (try dsimp only at hSw); go_simp; with_reducible rfl)
          (try simp only [Act.put, List.setIfInBounds_toArray, List.set_cons_zero, List.set_cons_succ])
          refine wpAnyH_ready (rs := [11]) (by kernel_rfl) (by simp) ?_
          refine consH rfl (fun Kq hKq => ?_)
          go_simp
          refine hKq.out _ _ ?_ (fun hHeld4 => ?_)
          · trivial
          clear hKq Kq
          (try simp only [Act.put, List.setIfInBounds_toArray, List.set_cons_zero, List.set_cons_succ])
          clear hHeld3
          refine wpAnyH_done (by kernel_rfl) ?_ _
          refine NoPanic.normal ?_
          go_wp2_with fail
          go_roundw
          case rel => exact round_end C6.out O6.out R6.out Hyl.out Hrl.out B6.out Hvr.out hJ hI (by omega) Hcode.out (by omega) (by omega) (by omega)
          case measure => simp [intOf]; omega
        · go_simp
          refine hKq.out _ _ ?_ (fun hHeld1 => ?_)
          · trivial
          clear hKq Kq
          (try simp only [Act.put, List.setIfInBounds_toArray, List.set_cons_zero, List.set_cons_succ])
          clear hHeld0
          refine wpAnyH_ready (rs := [5, 8]) (by kernel_rfl) (by simp) ?_
          refine consM rfl (fun Kq hKq => ?_) (consH rfl (fun Kq hKq => ?_))
          · go_simp
            refine hKq.out _ _ ?_ (fun hHeld2 => ?_)
            · trivial
            clear hKq Kq
            (try simp only [Act.put, List.setIfInBounds_toArray, List.set_cons_zero, List.set_cons_succ])
            clear hHeld1
            refine wpAnyH_ready (rs := [8]) (by kernel_rfl) (by simp) ?_
            refine consH rfl (fun Kq hKq => ?_)
            go_simp
            have bl := (below_new w5 (.cells #[.int .i64 1, .int .i64 (-1), .int .i64 5, .int .i64 1000000000000000] 3)).drew
            refine (spec_among w.heap.size a n cap _ _ 4 4 [1, -1, 5, 1000000000000000] _ (by omega) (by omega) ((ints_lit w5 [1, -1, 5, 1000000000000000] _ 4 rfl rfl).below (Below.refl _ _).drew) (by intro p hp; cases hp; show w5.heap.size ≠ _; omega) (C5.out.below bl)).mono ?_
            rintro e w6 ⟨⟨z, hz, rfl⟩, c6, g6⟩
            have o6 := (O5.out.below bl).far g6 (by omega)
            have hr6 := (HrJ5.out.below bl).grown g6 (far_ne (HrJ5.out.below bl) (by omega))
            have hc6 := hr6.cell (i := I) (by rw [Hrl.out J hJ]; omega)
            rw [← Hu.out] at hc6
            have hf6 := hr6.free (Hrl.out J hJ).symm I
            have B6 := Lib.hid ((B5.out.trans (bl.mono B5.out.size)).grown g6 (B5.out.trans (bl.mono B5.out.size)).size (fun k hk => by cases hk; exact Nat.le_refl _))
            have O6 := Lib.hid o6
            have R6 := Lib.hid hr6
            have C6 := Lib.hid c6
            have hs6 := g6.size
            clear o6 hr6 c6 g6 bl hz
            generalize nth [1, -1, 5, 1000000000000000] z = q4 at *
            refine hKq.out _ _ ?_ (fun hHeld3 => ?_)
            · trivial
            clear hKq Kq
            (try simp only [Act.put, List.setIfInBounds_toArray, List.set_cons_zero, List.set_cons_succ])
            clear hHeld2
            refine takeH (i := 9) (oi := _) (v := ?_) rfl (by kernel_rfl) (by kernel_rfl) (by kernel_rfl) (fun _ _ _ h => h) (Or.inl ⟨by rfl, ?_⟩) (by assumption) ?_
            rotate_left
            · first | (intro w hSw; (try dsimp only at hSw); go_simp; done) | (intro w hSw; (try dsimp only at hSw); go_simp; with_reducible rfl)
            (try simp only [Act.put, List.setIfInBounds_toArray, List.set_cons_zero, List.set_cons_succ])
            refine takeH (i := 10) (oi := _) (v := ?_) rfl (by kernel_rfl) (by kernel_rfl) (by kernel_rfl) (fun _ _ _ h => h) (Or.inl ⟨by rfl, ?_⟩) (by assumption) ?_
            rotate_left
            · first | (intro w hSw; (try dsimp only at hSw); go_simp; done) | (intro w hSw; (try dsimp only at hSw); go_simp; with_reducible rfl)
            (try simp only [Act.put, List.setIfInBounds_toArray, List.set_cons_zero, List.set_cons_succ])
            refine wpAnyH_ready (rs := [11]) (by kernel_rfl) (by simp) ?_
            refine consH rfl (fun Kq hKq => ?_)
            go_simp
            refine hKq.out _ _ ?_ (fun hHeld4 => ?_)
            · trivial
            clear hKq Kq
            (try simp only [Act.put, List.setIfInBounds_toArray, List.set_cons_zero, List.set_cons_succ])
            clear hHeld3
            refine wpAnyH_done (by kernel_rfl) ?_ _
            refine NoPanic.normal ?_
            go_wp2_with fail
            go_roundw
            case rel => exact round_end C6.out O6.out R6.out Hyl.out Hrl.out B6.out Hvr.out hJ hI (by omega) Hcode.out (by omega) (by omega) (by omega)
            case measure => simp [intOf]; omega
          · go_simp
            have bl := (below_new w5 (.cells #[.int .i64 1, .int .i64 (-1), .int .i64 5, .int .i64 1000000000000000] 3)).drew
            refine (spec_among w.heap.size a n cap _ _ 4 4 [1, -1, 5, 1000000000000000] _ (by omega) (by omega) ((ints_lit w5 [1, -1, 5, 1000000000000000] _ 4 rfl rfl).below (Below.refl _ _).drew) (by intro p hp; cases hp; show w5.heap.size ≠ _; omega) (C5.out.below bl)).mono ?_
            rintro e w6 ⟨⟨z, hz, rfl⟩, c6, g6⟩
            have o6 := (O5.out.below bl).far g6 (by omega)
            have hr6 := (HrJ5.out.below bl).grown g6 (far_ne (HrJ5.out.below bl) (by omega))
            have hc6 := hr6.cell (i := I) (by rw [Hrl.out J hJ]; omega)
            rw [← Hu.out] at hc6
            have hf6 := hr6.free (Hrl.out J hJ).symm I
            have B6 := Lib.hid ((B5.out.trans (bl.mono B5.out.size)).grown g6 (B5.out.trans (bl.mono B5.out.size)).size (fun k hk => by cases hk; exact Nat.le_refl _))
            have O6 := Lib.hid o6
            have R6 := Lib.hid hr6
            have C6 := Lib.hid c6
            have hs6 := g6.size
            clear o6 hr6 c6 g6 bl hz
            generalize nth [1, -1, 5, 1000000000000000] z = q4 at *
            refine hKq.out _ _ ?_ (fun hHeld2 => ?_)
            · trivial
            clear hKq Kq
            (try simp only [Act.put, List.setIfInBounds_toArray, List.set_cons_zero, List.set_cons_succ])
            clear hHeld1
            refine wpAnyH_ready (rs := [5]) (by kernel_rfl) (by simp) ?_
            refine consH rfl (fun Kq hKq => ?_)
            go_simp
            refine hKq.out _ _ ?_ (fun hHeld3 => ?_)
            · trivial
            clear hKq Kq
            (try simp only [Act.put, List.setIfInBounds_toArray, List.set_cons_zero, List.set_cons_succ])
            clear hHeld2
            refine takeH (i := 9) (oi := _) (v := ?_) rfl (by kernel_rfl) (by kernel_rfl) (by kernel_rfl) (fun _ _ _ h => h) (Or.inl ⟨by rfl, ?_⟩) (by assumption) ?_
            rotate_left
            · first | (intro w hSw; (try dsimp only at hSw); go_simp; done) | (intro w hSw; (try dsimp only at hSw); go_simp; with_reducible rfl)
            (try simp only [Act.put, List.setIfInBounds_toArray, List.set_cons_zero, List.set_cons_succ])
            refine takeH (i := 10) (oi := _) (v := ?_) rfl (by kernel_rfl) (by kernel_rfl) (by kernel_rfl) (fun _ _ _ h => h) (Or.inl ⟨by rfl, ?_⟩) (by assumption) ?_
            rotate_left
            · first | (intro w hSw; (try dsimp only at hSw); go_simp; done) | (intro w hSw; (try dsimp only at hSw); go_simp; with_reducible rfl)
            (try simp only [Act.put, List.setIfInBounds_toArray, List.set_cons_zero, List.set_cons_succ])
            refine wpAnyH_ready (rs := [11]) (by kernel_rfl) (by simp) ?_
            refine consH rfl (fun Kq hKq => ?_)
            go_simp
            refine hKq.out _ _ ?_ (fun hHeld4 => ?_)
            · trivial
            clear hKq Kq
            (try simp only [Act.put, List.setIfInBounds_toArray, List.set_cons_zero, List.set_cons_succ])
            clear hHeld3
            refine wpAnyH_done (by kernel_rfl) ?_ _
            refine NoPanic.normal ?_
            go_wp2_with fail
            go_roundw
            case rel => exact round_end C6.out O6.out R6.out Hyl.out Hrl.out B6.out Hvr.out hJ hI (by omega) Hcode.out (by omega) (by omega) (by omega)
            case measure => simp [intOf]; omega
      · obtain rfl : q = 0 := by omega
        go_wp2_with fail
        refine (spec_one w.heap.size a n cap _ _ _ (by omega) (by omega) CQ.out).mono ?_
        rintro e w7 ⟨⟨t, rfl⟩, c7, g7⟩
        have o7 := Lib.hid (OQ.out.far g7 (by omega))
        have B7 := Lib.hid (hbel.grown g7 hbel.size (fun k hk => by cases hk; exact Nat.le_refl _))
        clear c7 g7
        cases t
        · go_wp2_with fail
          exact bodyPost_ret (v := .tuple #[.int .i64 x, .int .i64 y, .int .i64 (M : Int), .slice (some ⟨go, 0, none⟩) (K + 1) co]) (by simp [results, Try.results15, go_sem]) rfl ⟨_, ⟨_, _, _, rfl⟩, ⟨_, _, _, yss, rfl, o7.out.ints, by omega, fun j hj => by rw [Hrl.out j hj]; omega⟩, B7.out⟩
        · have hcap := (World.ownsRow.capS o7.out.outer)
          have hvl7 := o7.out.len
          rw [Hyl.out] at hvl7
          have r1 : (1 : Int) ≤ ((K + 1 : Nat) : Int) := by omega
          have r2 : ((K + 1 : Nat) : Int) ≤ (co : Int) := by omega
          by_cases hc1 : co = 1
          · obtain rfl : K = 0 := by omega
            subst hc1
            go_wp2_with fail
            exact bodyPost_ret (v := .tuple #[.int .i64 x, .int .i64 y, .int .i64 (M : Int), .slice _ 0 0]) (by simp [results, Try.results15, go_sem]; rfl) rfl ⟨_, ⟨_, _, _, rfl⟩, ⟨_, _, _, [], rfl, ⟨rfl, fun h => by omega⟩, by omega, fun j hj => by omega⟩, B7.out⟩
          · go_wp2_with fail
            exact bodyPost_ret (v := .tuple #[.int .i64 x, .int .i64 y, .int .i64 (M : Int), .slice (some ⟨go, 1, none⟩) K (co - 1)]) (by simp [results, Try.results15, go_sem]) rfl ⟨_, ⟨_, _, _, rfl⟩, ⟨_, _, _, yss.tail, rfl, o7.out.ints.rest rfl, by omega, fun j hj => by rw [row_tail, Hrl.out _ (by omega)]; omega⟩, B7.out⟩
end Go.Proofs.Ytbekfpgpeaoifaa
