/- Contracts: what going on is worth, of the program and of the reference. -/
import Derived.Test.YtfnmhoidgnihoaaLeast
import Derived.Test.YtfnmhoidgnihoaaLow
import Derived.Test.YtfnmhoidgnihoaaKeepB
namespace Go.Proofs.Ytfnmhoidgnihoaa
open Go.RowKit

/-- What going on is worth at x. -/
def goB (ps ws l : List Int) (x : Int) : Bool := paysB ps ws l && (inB x 0 ((ps.length : Int) - 1) && !endB ps x.toNat)
def goS (ps ws l : List Int) (x : Int) : Int := kidSum ps (fun y => nth (capW ps ws l) y) x.toNat ps.length
def goN (ps ws l : List Int) (x : Int) : Int := if goB ps ws l x then nm (goS ps ws l x) (nth (sums ps ws) x.toNat) else 0
def goD (ps ws l : List Int) (x : Int) : Int := if goB ps ws l x then dn (goS ps ws l x) (nth (sums ps ws) x.toNat) else 0
theorem go_no {ps ws l : List Int} {x : Int} (h : goB ps ws l x = false) : goN ps ws l x = 0 ∧ goD ps ws l x = 0 := by unfold goN goD; rw [h]; exact ⟨rfl, rfl⟩
theorem go_yes {ps ws l : List Int} {x : Int} (h : goB ps ws l x = true) : goN ps ws l x = nm (goS ps ws l x) (nth (sums ps ws) x.toNat) ∧ goD ps ws l x = dn (goS ps ws l x) (nth (sums ps ws) x.toNat) := by unfold goN goD; rw [h]; exact ⟨rfl, rfl⟩
theorem goB_no1 {ps ws l : List Int} {x : Int} (h : paysB ps ws l = false) : goB ps ws l x = false := by rw [goB, h]; rfl
theorem goB_no2 {ps ws l : List Int} {x : Int} (h : inB x 0 ((ps.length : Int) - 1) = false) : goB ps ws l x = false := by rw [goB, h]; simp
theorem goB_no3 {ps ws l : List Int} {x : Int} (h : endB ps x.toNat = true) : goB ps ws l x = false := by rw [goB, h]; simp
theorem goB_yes {ps ws l : List Int} {x : Int} (h1 : paysB ps ws l = true) (h2 : inB x 0 ((ps.length : Int) - 1) = true) (h3 : endB ps x.toNat = false) : goB ps ws l x = true := by rw [goB, h1, h2, h3]; rfl
theorem goS_bd {ps ws l : List Int} (h : Tr ps ws) (hl : ∀ i, -999 ≤ nth l i ∧ nth l i ≤ 999) (x : Int) : -479520 ≤ goS ps ws l x ∧ goS ps ws l x ≤ 479520 := by
  have h1 := kid_bd (l := l) h (fun y hy => worth_bd h hl 24 y hy) x.toNat
  have h2 := sums_bd h x.toNat
  unfold goS capW
  omega
set_option maxRecDepth 100000 in
set_option maxHeartbeats 2000000 in
theorem impl_GoingOn (aP : Option Addr) (nP cP : Nat) (aW : Option Addr) (nW cW : Nat) (ps ws : List Int) (aL : Option Addr) (nL cL : Nat) (l : List Int) (x : Int) (w : World) (h : Tre w aP nP cP aW nW cW ps ws) (hL : Ints w aL nL l) (_hLc : aL = none → cL = 0) (hn : nL ≤ 1048576) :
    Calls Try.prog 50 #[.agg #[.slice aP nP cP, .slice aW nW cW], .slice aL nL cL, .int .i64 x] w fun e w' => e = .returned (.tuple #[.agg #[.int .i64 (goN ps ws l x), .int .i64 (goD ps ws l x)], .bool (goB ps ws l x)]) ∧ Below w.heap.size w w' := by
  have hl := h.p.1
  have hlw := h.w.1
  have hpn := h.pn
  have hwn := h.wn
  have hb1 := below_new w (.cells #[.slice aP nP cP, .slice aW nW cW] 29)
  have hP1 := Lib.hid (Pair.new w (.slice aP nP cP) (.slice aW nW cW) 29)
  have H := Lib.hid h
  have Hl := Lib.hid hl
  have Hlw := Lib.hid hlw
  clear h hl hlw
  have HL := Lib.hid hL
  have hll := Lib.hid hL.1
  clear hL
  have hlt2 := hP1.out.lt
  go_enter Try.func50, Try.ntmps50
  have hbb := hb1.trans ((below_new (w.alloc (.cells #[.slice aP nP cP, .slice aW nW cW] 29)) (.cells #[.int .i64 0, .int .i64 0] 58)).mono hb1.size)
  have hPP := Lib.hid (hP1.out.alloc (.cells #[.int .i64 0, .int .i64 0] 58))
  have hR1 := Pair.new (w.alloc (.cells #[.slice aP nP cP, .slice aW nW cW] 29)) (.int .i64 0) (.int .i64 0) 58
  rw [show (w.alloc (.cells #[.slice aP nP cP, .slice aW nW cW] 29)).heap.size = w.heap.size + 1 by simp] at hR1
  have HR1 := Lib.hid hR1
  have c0 := hPP.out.c0
  have c1 := hPP.out.c1
  clear hb1 hP1 hlt2 hR1
  go_wp2_with fail
  generalize ((w.alloc (.cells #[.slice aP nP cP, .slice aW nW cW] 29)).alloc (.cells #[.int .i64 0, .int .i64 0] 58)) = w2 at *
  have hlt2 := hPP.out.lt
  refine (impl_IsTree _ _ _ _ _ _ ps ws _ (H.out.below hbb)).mono ?_
  rintro e w3 ⟨rfl, hb3⟩
  have hP3 := hPP.out.below hb3
  have d0 := hP3.c0
  have d1 := hP3.c1
  have HP3 := Lib.hid hP3
  have HR := Lib.hid (HR1.out.below hb3)
  have hb13 := hbb.trans (hb3.mono hbb.size)
  clear hP3 c0 c1 hb3 HR1 hPP hbb
  cases hT : treeB ps ws
  · have Hno := Lib.hid (pays_no1 (l := l) hT)
    clear hT
    have p3 := HR.out
    have q3 := p3.c0
    have q4 := p3.c1
    have q5 := p3.f0
    have q6 := p3.f1
    have hr := p3.set (.int .i64 0) (.int .i64 0)
    clear p3
    go_wp2_with fail
    exact bodyPost_ret (v := .tuple #[.agg #[.int .i64 0, .int .i64 0], .bool false]) (by simp [results, Try.results50, go_sem, hr.1, hr.2]) rfl ⟨by obtain ⟨z1, z2⟩ := go_no (x := x) (goB_no1 (x := x) Hno.out); rw [z1, z2, goB_no1 Hno.out], (hb13.setCell (by simp) _).setCell (by simp) _⟩
  have HT := Lib.hid hT
  clear hT
  go_wp2_with fail
  refine (impl_isProcess _ _ _ _ _ _ ps ws _ _ _ l _ (H.out.below hb13) (HL.out.below hb13) hn).mono ?_
  rintro e w4 ⟨rfl, hb4⟩
  have hb14 := hb13.trans (hb4.mono hb13.size)
  have hP4 := HP3.out.below hb4
  have e0 := hP4.c0
  have e1 := hP4.c1
  have HP := Lib.hid hP4
  have HR4 := Lib.hid (HR.out.below hb4)
  clear d0 d1 hP4 hb4 HR HP3
  have HR := HR4
  clear HR4
  cases hp : procB ps.length l
  · have Hno := Lib.hid (pays_no2 (ws := ws) hp)
    clear hp
    have p3 := HR.out
    have q3 := p3.c0
    have q4 := p3.c1
    have q5 := p3.f0
    have q6 := p3.f1
    have hr := p3.set (.int .i64 0) (.int .i64 0)
    clear p3
    go_wp2_with fail
    exact bodyPost_ret (v := .tuple #[.agg #[.int .i64 0, .int .i64 0], .bool false]) (by simp [results, Try.results50, go_sem, hr.1, hr.2]) rfl ⟨by obtain ⟨z1, z2⟩ := go_no (x := x) (goB_no1 (x := x) Hno.out); rw [z1, z2, goB_no1 Hno.out], (hb14.setCell (by simp) _).setCell (by simp) _⟩
  have Hpays := Lib.hid (pays_both HT.out hp)
  have hpp := procB_t hp
  have hTr := treeB_t HT.out
  have hn24 := hTr.n24
  have hn1 := hTr.n1
  have hnL : nP = nL := by have := hll.out; have := hpp.1; have := Hl.out; omega
  have hnW : nP = nW := by have := Hlw.out; have := hTr.wl; have := Hl.out; omega
  have hnP : 1 ≤ nP ∧ nP ≤ 24 := by have := Hl.out; omega
  have Hpp := Lib.hid hpp
  have HTr := Lib.hid hTr
  have HnW := Lib.hid hnW
  have hnW2 : nP ≤ nW := by omega
  clear hp hpp hn24 hn1 hTr hpn hwn hnW
  subst hnL
  go_wp2_with fail
  refine (impl_isNode _ _ _ _ _ _ ps ws x _ (H.out.below hb14) HTr.out).mono ?_
  rintro e w5 ⟨rfl, b5⟩
  have hb15 := hb14.trans (b5.mono hb14.size)
  have HP5 := Lib.hid (HP.out.below b5)
  have HR5 := Lib.hid (HR.out.below b5)
  clear HP HR e0 e1 b5
  have HR := HR5
  clear HR5
  cases hx : inB x 0 ((ps.length : Int) - 1)
  · have Hno := Lib.hid hx
    clear hx
    have p3 := HR.out
    have q3 := p3.c0
    have q4 := p3.c1
    have q5 := p3.f0
    have q6 := p3.f1
    have hr := p3.set (.int .i64 0) (.int .i64 0)
    clear p3
    go_wp2_with fail
    exact bodyPost_ret (v := .tuple #[.agg #[.int .i64 0, .int .i64 0], .bool false]) (by simp [results, Try.results50, go_sem, hr.1, hr.2]) rfl ⟨by obtain ⟨z1, z2⟩ := go_no (goB_no2 Hno.out); rw [z1, z2, goB_no2 Hno.out], (hb15.setCell (by simp) _).setCell (by simp) _⟩
  have Hx := Lib.hid hx
  have hxb := inB_t hx
  obtain ⟨X, rfl⟩ : ∃ X : Nat, x = X := ⟨x.toNat, by omega⟩
  have hXn : X < nP := by have := Hl.out; omega
  clear hx hxb
  have d0 := HP5.out.c0
  have d1 := HP5.out.c1
  go_wp2_with fail
  refine (impl_isEnd _ _ _ _ _ _ ps ws _ (H.out.below hb15) HTr.out.toPa).mono ?_
  rintro e w6 ⟨v6, rfl, o6, b6⟩
  obtain ⟨a6, c6, rfl⟩ := o6.shape
  have hel : (endsB ps).length = nP := by rw [endsB_length]; exact Hl.out
  rw [hel] at o6 ⊢
  have hb16 := hb15.trans (b6.mono hb15.size)
  have HP6 := Lib.hid (HP5.out.below b6)
  have HR6 := Lib.hid (HR.out.below b6)
  obtain ⟨bE, oE, rfl, hcE⟩ := o6.bools.at (i := X) (Below.refl _ _) (by omega)
  rw [nth_endsB (by have := Hl.out; omega)] at hcE
  clear HP5 HR d0 d1 b6 o6 hel
  have HR := HR6
  clear HR6
  cases hE : endB ps X
  rotate_left
  · have Hno := Lib.hid (goB_no3 (ps := ps) (ws := ws) (l := l) (x := (X : Int)) hE)
    rw [hE] at hcE
    clear hE
    have p3 := HR.out
    have q3 := p3.c0
    have q4 := p3.c1
    have q5 := p3.f0
    have q6 := p3.f1
    have hr := p3.set (.int .i64 0) (.int .i64 0)
    clear p3
    go_wp2_with fail
    exact bodyPost_ret (v := .tuple #[.agg #[.int .i64 0, .int .i64 0], .bool false]) (by simp [results, Try.results50, go_sem, hr.1, hr.2]) rfl ⟨by obtain ⟨z1, z2⟩ := go_no (id Hno.out); rw [z1, z2, id Hno.out], (hb16.setCell (by simp) _).setCell (by simp) _⟩
  rw [hE] at hcE
  have HE := Lib.hid hE
  clear hE
  have d0 := HP6.out.c0
  have d1 := HP6.out.c1
  go_wp2_with fail
  refine (impl_worth _ _ _ _ _ _ ps ws _ _ _ l _ 24 _ (H.out.below hb16) HTr.out (HL.out.below hb16) rfl Hpp.out.2 (.inl ⟨by omega, rfl⟩)).mono ?_
  rintro e w7 ⟨a1, c1, a2, c2, rfl, o1, o2, b7⟩
  have hb17 := hb16.trans (b7.mono hb16.size)
  have HP7 := Lib.hid (HP6.out.below b7)
  have HR7 := Lib.hid (HR.out.below b7)
  have hown2 := World.ownsRow.lt o2
  obtain ⟨bO, oO, rfl, hcO⟩ := o2.ints.at (i := X) (Below.refl _ _) (by omega)
  have hbO : bO ≠ w.heap.size + 1 := by
    have h1 := o2
    obtain ⟨g, cp, he, hg, _⟩ := h1.form (by rw [onW_length]; have := Hl.out; omega)
    cases he
    have := HR.out.lt
    omega
  clear hown2
  rw [on_capW HTr.out (by have := Hl.out; omega)] at hcO
  clear HP6 HR d0 d1 b7 o1 o2 hcE
  have hv : goS ps ws l (X : Int) = kidSum ps (fun y => nth (capW ps ws l) y) X ps.length := rfl
  rw [← hv] at hcO
  have hbd := goS_bd HTr.out Hpp.out.2 (X : Int)
  have hsb := sums_bd HTr.out X
  have hsp := sums_pos HTr.out X (by have := Hl.out; omega)
  have hgb := goB_yes (x := (X : Int)) Hpays.out Hx.out HE.out
  obtain ⟨z1, z2⟩ := go_yes hgb
  rw [Int.toNat_natCast] at z1 z2
  have Hlow : Hid (∀ W : World, Calls Try.prog 88 #[.int .i64 (goS ps ws l X), .int .i64 (nth (sums ps ws) X)] W fun e w' => e = .returned (.tuple #[.agg #[.int .i64 (goN ps ws l X), .int .i64 (goD ps ws l X)], .bool true]) ∧ Below W.heap.size W w') := Lib.hid fun W => by
    rw [z1, z2]
    exact impl_lowest_s _ _ W (by omega) (by omega)
  have Hgb := Lib.hid hgb
  clear hv hbd hsb hsp hgb z1 z2
  generalize hgn : goN ps ws l X = gn at *
  generalize hgd : goD ps ws l X = gd at *
  have Hgn := Lib.hid hgn
  have Hgd := Lib.hid hgd
  clear hgn hgd
  generalize goS ps ws l X = gs at *
  have d0 := HP7.out.c0
  have d1 := HP7.out.c1
  have Hsl : Hid ((sums ps ws).length = nP) := Lib.hid (by rw [sums_length HTr.out]; exact Hl.out)
  go_wp2_with fail
  have hn2 : bO ≠ w.heap.size + 1 := hbO
  have hw7 : w.heap.size + 1 < w7.heap.size := HR7.out.lt
  refine wp_region_noPanic ?_
  refine wp_region_held_drew (S := (fun W' => Below w.heap.size w W' ∧ W'.cell? ⟨w.heap.size, 0, none⟩ = some (.slice aP nP cP) ∧ W'.cell? ⟨w.heap.size, 1, none⟩ = some (.slice aW nW cW) ∧ W'.cell? ⟨bO, oO + X, none⟩ = some (.int .i64 gs))) (by kernel_rfl) ?_ (fun hHeld0 => ?_)
  · (try dsimp only); first | assumption | exact bk3_start hb17 d0 d1 hcO | exact bk3_set (by simp) (by simp) (by simp) hn2 (bk3_set (by simp) (by simp) (by simp) hn2 (by assumption))
  refine takeH (i := 0) (oi := _) (v := ?_) rfl (by kernel_rfl) (by kernel_rfl) (by kernel_rfl) (fun _ _ _ h => h) (Or.inl ⟨by rfl, ?_⟩) (by assumption) ?_
  rotate_left
  · first | (intro w hSw; (try dsimp only at hSw); go_simp; done) | (intro w hSw; (try dsimp only at hSw); go_simp; with_reducible rfl)
  (try simp only [Act.put, List.setIfInBounds_toArray, List.set_cons_zero, List.set_cons_succ])
  refine takeH (i := 1) (oi := _) (v := ?_) rfl (by kernel_rfl) (by kernel_rfl) (by kernel_rfl) (fun _ _ _ h => h) (Or.inl ⟨by rfl, ?_⟩) (by assumption) ?_
  rotate_left
  · first | (intro w hSw; (try dsimp only at hSw); go_simp; done) | (intro w hSw; (try dsimp only at hSw); go_simp; with_reducible rfl)
  (try simp only [Act.put, List.setIfInBounds_toArray, List.set_cons_zero, List.set_cons_succ])
  refine takeH (i := 2) (oi := _) (v := ?_) rfl (by kernel_rfl) (by kernel_rfl) (by kernel_rfl) (fun _ _ _ h => h) (Or.inl ⟨by rfl, ?_⟩) (by assumption) ?_
  rotate_left
  · first | (intro w hSw; (try dsimp only at hSw); go_simp; done) | (intro w hSw; (try dsimp only at hSw); go_simp; with_reducible rfl)
  (try simp only [Act.put, List.setIfInBounds_toArray, List.set_cons_zero, List.set_cons_succ])
  refine takeH (i := 3) (oi := _) (v := ?_) rfl (by kernel_rfl) (by kernel_rfl) (by kernel_rfl) (fun _ _ _ h => h) (Or.inl ⟨by rfl, ?_⟩) (by assumption) ?_
  rotate_left
  · first | (intro w hSw; (try dsimp only at hSw); go_simp; done) | (intro w hSw; (try dsimp only at hSw); go_simp; with_reducible rfl)
  (try simp only [Act.put, List.setIfInBounds_toArray, List.set_cons_zero, List.set_cons_succ])
  refine takeH (i := 4) (oi := _) (v := ?_) rfl (by kernel_rfl) (by kernel_rfl) (by kernel_rfl) (fun _ _ _ h => h) (Or.inl ⟨by rfl, ?_⟩) (by assumption) ?_
  rotate_left
  · first | (intro w hSw; (try dsimp only at hSw); go_simp; done) | (intro w hSw; (try dsimp only at hSw); go_simp; with_reducible rfl)
  (try simp only [Act.put, List.setIfInBounds_toArray, List.set_cons_zero, List.set_cons_succ])
  refine takeH (i := 6) (oi := _) (v := ?_) rfl (by kernel_rfl) (by kernel_rfl) (by kernel_rfl) (fun _ _ _ h => h) (Or.inl ⟨by rfl, ?_⟩) (by assumption) ?_
  rotate_left
  · first | (intro w hSw; (try dsimp only at hSw); go_simp; done) | (intro w hSw; (try dsimp only at hSw); go_simp; with_reducible rfl)
  (try simp only [Act.put, List.setIfInBounds_toArray, List.set_cons_zero, List.set_cons_succ])
  refine wpAnyH_ready (rs := [5]) (by kernel_rfl) (by simp) ?_
  refine consH rfl (fun Kq hKq => ?_)
  go_simp
  (first
      | (go_at_call 61; refine (impl_sums _ _ _ _ _ _ ps ws _ (H.out.below (by assumption : Below w.heap.size w _ ∧ _).1) HTr.out).mono ?_; rintro e w8 ⟨v8, rfl, o8, b8⟩
         have hk8 := bk3_next b8 (by assumption : Below w.heap.size w _ ∧ _ ∧ _ ∧ _)
         have hR8 := pair_up b8 HR7.out.c0 HR7.out.c1 HR7.out.f0 HR7.out.f1
         obtain ⟨a8, c8, rfl⟩ := o8.shape
         rw [Hsl.out] at o8 ⊢
         obtain ⟨b8', o8', rfl, hc8⟩ := o8.ints.at (i := X) (Below.refl _ _) hXn)
      | (go_at_call 88; refine (Hlow.out _).mono ?_; rintro e w9 ⟨rfl, b9⟩
         have hk9 := bk3_next b9 (by assumption : Below w.heap.size w _ ∧ _ ∧ _ ∧ _)
         have hb9 : Below w.heap.size w w9 := hk9.1
         have hR9 := pair_up b9 hR8.c0 hR8.c1 hR8.f0 hR8.f1
         have q3 := hR9.c0
         have q4 := hR9.c1
         have q5 := hR9.f0
         have q6 := hR9.f1
         have hr := hR9.set (.int .i64 gn) (.int .i64 gd)))
  refine hKq.out _ _ ?_ (fun hHeld1 => ?_)
  · (try dsimp only); first | assumption | exact bk3_start hb17 d0 d1 hcO | exact bk3_set (by simp) (by simp) (by simp) hn2 (bk3_set (by simp) (by simp) (by simp) hn2 (by assumption))
  clear hKq Kq
  (try simp only [Act.put, List.setIfInBounds_toArray, List.set_cons_zero, List.set_cons_succ])
  clear hHeld0
  refine takeH (i := 7) (oi := _) (v := ?_) rfl (by kernel_rfl) (by kernel_rfl) (by kernel_rfl) (fun _ _ _ h => h) (Or.inl ⟨by rfl, ?_⟩) (by assumption) ?_
  rotate_left
  · first | (intro w hSw; (try dsimp only at hSw); go_simp; done) | (intro w hSw; (try dsimp only at hSw); go_simp; with_reducible rfl)
  (try simp only [Act.put, List.setIfInBounds_toArray, List.set_cons_zero, List.set_cons_succ])
  refine wpAnyH_ready (rs := [8]) (by kernel_rfl) (by simp) ?_
  refine consH rfl (fun Kq hKq => ?_)
  go_simp
  refine hKq.out _ _ ?_ (fun hHeld2 => ?_)
  · (try dsimp only); first | assumption | exact bk3_start hb17 d0 d1 hcO | exact bk3_set (by simp) (by simp) (by simp) hn2 (bk3_set (by simp) (by simp) (by simp) hn2 (by assumption))
  clear hKq Kq
  (try simp only [Act.put, List.setIfInBounds_toArray, List.set_cons_zero, List.set_cons_succ])
  clear hHeld1
  refine wpAnyH_ready (rs := [9]) (by kernel_rfl) (by simp) ?_
  refine consH rfl (fun Kq hKq => ?_)
  go_simp
  (first
      | (go_at_call 61; refine (impl_sums _ _ _ _ _ _ ps ws _ (H.out.below (by assumption : Below w.heap.size w _ ∧ _).1) HTr.out).mono ?_; rintro e w8 ⟨v8, rfl, o8, b8⟩
         have hk8 := bk3_next b8 (by assumption : Below w.heap.size w _ ∧ _ ∧ _ ∧ _)
         have hR8 := pair_up b8 HR7.out.c0 HR7.out.c1 HR7.out.f0 HR7.out.f1
         obtain ⟨a8, c8, rfl⟩ := o8.shape
         rw [Hsl.out] at o8 ⊢
         obtain ⟨b8', o8', rfl, hc8⟩ := o8.ints.at (i := X) (Below.refl _ _) hXn)
      | (go_at_call 88; refine (Hlow.out _).mono ?_; rintro e w9 ⟨rfl, b9⟩
         have hk9 := bk3_next b9 (by assumption : Below w.heap.size w _ ∧ _ ∧ _ ∧ _)
         have hb9 : Below w.heap.size w w9 := hk9.1
         have hR9 := pair_up b9 hR8.c0 hR8.c1 hR8.f0 hR8.f1
         have q3 := hR9.c0
         have q4 := hR9.c1
         have q5 := hR9.f0
         have q6 := hR9.f1
         have hr := hR9.set (.int .i64 gn) (.int .i64 gd)))
  refine hKq.out _ _ ?_ (fun hHeld3 => ?_)
  · (try dsimp only); first | assumption | exact bk3_start hb17 d0 d1 hcO | exact bk3_set (by simp) (by simp) (by simp) hn2 (bk3_set (by simp) (by simp) (by simp) hn2 (by assumption))
  clear hKq Kq
  (try simp only [Act.put, List.setIfInBounds_toArray, List.set_cons_zero, List.set_cons_succ])
  clear hHeld2
  refine takeH (i := 10) (oi := _) (v := ?_) rfl (by kernel_rfl) (by kernel_rfl) (by kernel_rfl) (fun _ _ _ h => h) (Or.inl ⟨by rfl, ?_⟩) (by assumption) ?_
  rotate_left
  · first | (intro w hSw; (try dsimp only at hSw); go_simp; done) | (intro w hSw; (try dsimp only at hSw); go_simp; with_reducible rfl)
  (try simp only [Act.put, List.setIfInBounds_toArray, List.set_cons_zero, List.set_cons_succ])
  refine takeH (i := 11) (oi := _) (v := ?_) rfl (by kernel_rfl) (by kernel_rfl) (by kernel_rfl) (fun _ _ _ h => h) (Or.inl ⟨by rfl, ?_⟩) (by assumption) ?_
  rotate_left
  · first | (intro w hSw; (try dsimp only at hSw); go_simp; done) | (intro w hSw; (try dsimp only at hSw); go_simp; with_reducible rfl)
  (try simp only [Act.put, List.setIfInBounds_toArray, List.set_cons_zero, List.set_cons_succ])
  refine wpAnyH_ready (rs := [12]) (by kernel_rfl) (by simp) ?_
  refine consH rfl (fun Kq hKq => ?_)
  go_simp
  refine hKq.out _ _ ?_ (fun hHeld4 => ?_)
  · (try dsimp only); first | assumption | exact bk3_start hb17 d0 d1 hcO | exact bk3_set (by simp) (by simp) (by simp) hn2 (bk3_set (by simp) (by simp) (by simp) hn2 (by assumption))
  clear hKq Kq
  (try simp only [Act.put, List.setIfInBounds_toArray, List.set_cons_zero, List.set_cons_succ])
  clear hHeld3
  refine takeH (i := 13) (oi := _) (v := ?_) rfl (by kernel_rfl) (by kernel_rfl) (by kernel_rfl) (fun _ _ _ h => h) (Or.inl ⟨by rfl, ?_⟩) (by assumption) ?_
  rotate_left
  · first | (intro w hSw; (try dsimp only at hSw); go_simp; done) | (intro w hSw; (try dsimp only at hSw); go_simp; with_reducible rfl)
  (try simp only [Act.put, List.setIfInBounds_toArray, List.set_cons_zero, List.set_cons_succ])
  refine wpAnyH_done (by kernel_rfl) ?_ _
  refine NoPanic.normal ?_
  go_wp2_with fail
  exact bodyPost_ret (v := .tuple #[.agg #[.int .i64 gn, .int .i64 gd], .bool true]) (by simp [results, Try.results50, go_sem, hr.1, hr.2]) rfl ⟨by rw [Hgb.out, Hgn.out, Hgd.out], (hb9.setCell (by simp) _).setCell (by simp) _⟩
theorem w_pos {ps ws : List Int} (h : Tr ps ws) {x : Nat} (hx : x < ps.length) : (endB ps x = true → nth ws x > 0) ∧ (endB ps x = false → ¬ nth ws x > 0) :=
  ⟨fun he => by have := h.leaf x hx he; omega, fun he => by have := h.inner x hx he; omega⟩
set_option maxRecDepth 100000 in
set_option maxHeartbeats 2000000 in
theorem spec_GoingOn (aP : Option Addr) (nP cP : Nat) (aW : Option Addr) (nW cW : Nat) (ps ws : List Int) (aL : Option Addr) (nL cL : Nat) (l : List Int) (x : Int) (w : World) (h : Tre w aP nP cP aW nW cW ps ws) (hL : Ints w aL nL l) (_hLc : aL = none → cL = 0) (hn : nL ≤ 1048576) :
    Calls Try.prog 49 #[.agg #[.slice aP nP cP, .slice aW nW cW], .slice aL nL cL, .int .i64 x] w fun e w' => e = .returned (.tuple #[.agg #[.int .i64 (goN ps ws l x), .int .i64 (goD ps ws l x)], .bool (goB ps ws l x)]) ∧ Below w.heap.size w w' := by
  have hl := h.p.1
  have hlw := h.w.1
  have hpn := h.pn
  have hwn := h.wn
  have hb1 := below_new w (.cells #[.slice aP nP cP, .slice aW nW cW] 29)
  have hP1 := Lib.hid (Pair.new w (.slice aP nP cP) (.slice aW nW cW) 29)
  have H := Lib.hid h
  have Hl := Lib.hid hl
  have Hlw := Lib.hid hlw
  clear h hl hlw
  have HL := Lib.hid hL
  have hll := Lib.hid hL.1
  clear hL
  have hlt2 := hP1.out.lt
  go_enter Try.func49, Try.ntmps49
  have hbb := hb1.trans ((below_new (w.alloc (.cells #[.slice aP nP cP, .slice aW nW cW] 29)) (.cells #[.int .i64 0, .int .i64 0] 58)).mono hb1.size)
  have hPP := Lib.hid (hP1.out.alloc (.cells #[.int .i64 0, .int .i64 0] 58))
  have hR1 := Pair.new (w.alloc (.cells #[.slice aP nP cP, .slice aW nW cW] 29)) (.int .i64 0) (.int .i64 0) 58
  rw [show (w.alloc (.cells #[.slice aP nP cP, .slice aW nW cW] 29)).heap.size = w.heap.size + 1 by simp] at hR1
  have HR1 := Lib.hid hR1
  have c0 := hPP.out.c0
  have c1 := hPP.out.c1
  clear hb1 hP1 hlt2 hR1
  go_wp2_with fail
  generalize ((w.alloc (.cells #[.slice aP nP cP, .slice aW nW cW] 29)).alloc (.cells #[.int .i64 0, .int .i64 0] 58)) = w2 at *
  have hlt2 := hPP.out.lt
  refine (spec_l4Pays _ _ _ _ _ _ ps ws _ _ _ l _ (H.out.below hbb) (HL.out.below hbb) hn).mono ?_
  rintro e w3 ⟨rfl, hb3⟩
  have hP3 := hPP.out.below hb3
  have d0 := hP3.c0
  have d1 := hP3.c1
  have HP := Lib.hid hP3
  have HR := Lib.hid (HR1.out.below hb3)
  have hb13 := hbb.trans (hb3.mono hbb.size)
  clear hP3 hb3 c0 c1 HR1 hPP hbb
  cases hT : paysB ps ws l
  · have Hno := Lib.hid hT
    clear hT
    have p3 := HR.out
    have q3 := p3.c0
    have q4 := p3.c1
    have q5 := p3.f0
    have q6 := p3.f1
    have hr := p3.set (.int .i64 0) (.int .i64 0)
    clear p3
    go_wp2_with fail
    exact bodyPost_ret (v := .tuple #[.agg #[.int .i64 0, .int .i64 0], .bool false]) (by simp [results, Try.results49, go_sem, hr.1, hr.2]) rfl ⟨by obtain ⟨z1, z2⟩ := go_no (x := x) (goB_no1 (x := x) Hno.out); rw [z1, z2, goB_no1 Hno.out], (hb13.setCell (by simp) _).setCell (by simp) _⟩
  have Hpays := Lib.hid hT
  have hpt := paysB_t hT
  have hTr := hpt.1
  have hn24 := hTr.n24
  have hn1 := hTr.n1
  have hnL : nP = nL := by have := hll.out; have := hpt.2.2.2.1; have := Hl.out; omega
  have hnW : nP = nW := by have := Hlw.out; have := hTr.wl; have := Hl.out; omega
  have hnP : 1 ≤ nP ∧ nP ≤ 24 := by have := Hl.out; omega
  have Hpp := Lib.hid hpt.2.2.2.2
  have HTr := Lib.hid hTr
  have HnW := Lib.hid hnW
  have hnW2 : nP ≤ nW := by omega
  clear hT hpt hn24 hn1 hTr hpn hwn hnW
  subst hnL
  go_wp2_with fail
  refine (spec_l2Node _ _ _ _ _ _ ps ws x _ (H.out.below hb13)).mono ?_
  rintro e w5 ⟨rfl, b5⟩
  have hb15 := hb13.trans (b5.mono hb13.size)
  have HP5 := Lib.hid (HP.out.below b5)
  have HR5 := Lib.hid (HR.out.below b5)
  clear HP HR d0 d1 b5
  have HR := HR5
  clear HR5
  have htb := (paysB_t Hpays.out).2.1
  rw [htb, Bool.true_and]
  clear htb
  cases hx : inB x 0 ((ps.length : Int) - 1)
  · have Hno := Lib.hid hx
    clear hx
    have p3 := HR.out
    have q3 := p3.c0
    have q4 := p3.c1
    have q5 := p3.f0
    have q6 := p3.f1
    have hr := p3.set (.int .i64 0) (.int .i64 0)
    clear p3
    go_wp2_with fail
    exact bodyPost_ret (v := .tuple #[.agg #[.int .i64 0, .int .i64 0], .bool false]) (by simp [results, Try.results49, go_sem, hr.1, hr.2]) rfl ⟨by obtain ⟨z1, z2⟩ := go_no (goB_no2 Hno.out); rw [z1, z2, goB_no2 Hno.out], (hb15.setCell (by simp) _).setCell (by simp) _⟩
  have Hx := Lib.hid hx
  have hxb := inB_t hx
  obtain ⟨X, rfl⟩ : ∃ X : Nat, x = X := ⟨x.toNat, by omega⟩
  have hXn : X < nP := by have := Hl.out; omega
  clear hx hxb
  have d0 := HP5.out.c0
  have d1 := HP5.out.c1
  obtain ⟨bW, oW, rfl, hbW, hcW⟩ := H.out.w.at2 (i := X) hb15 (by omega)
  have hwp := w_pos HTr.out (x := X) (by have := Hl.out; omega)
  cases hE : endB ps X
  rotate_left
  · have hup := hwp.1 hE
    have Hno := Lib.hid (goB_no3 (ps := ps) (ws := ws) (l := l) (x := (X : Int)) hE)
    generalize nth ws X = u at *
    clear hwp hE
    have p3 := HR.out
    have q3 := p3.c0
    have q4 := p3.c1
    have q5 := p3.f0
    have q6 := p3.f1
    have hr := p3.set (.int .i64 0) (.int .i64 0)
    clear p3
    go_wp2_with fail
    exact bodyPost_ret (v := .tuple #[.agg #[.int .i64 0, .int .i64 0], .bool false]) (by simp [results, Try.results49, go_sem, hr.1, hr.2]) rfl ⟨by obtain ⟨z1, z2⟩ := go_no (id Hno.out); rw [z1, z2, id Hno.out], (hb15.setCell (by simp) _).setCell (by simp) _⟩
  have hup := hwp.2 hE
  have HE := Lib.hid hE
  generalize nth ws X = u at *
  clear hE hwp
  have hv : goS ps ws l (X : Int) = kidSum ps (fun y => nth (capW ps ws l) y) X ps.length := rfl
  have hbd := goS_bd HTr.out Hpp.out (X : Int)
  have hsb := sums_bd HTr.out X
  have hsp := sums_pos HTr.out X (by have := Hl.out; omega)
  have hgb := goB_yes (x := (X : Int)) Hpays.out Hx.out HE.out
  obtain ⟨z1, z2⟩ := go_yes hgb
  rw [Int.toNat_natCast] at z1 z2
  have Hcut : Hid (∀ W : World, Calls Try.prog 86 #[.int .i64 (goS ps ws l X), .int .i64 (nth (sums ps ws) X)] W fun e w' => e = .returned (.agg #[.int .i64 (goN ps ws l X), .int .i64 (goD ps ws l X)]) ∧ Below W.heap.size W w') := Lib.hid fun W => by
    rw [z1, z2]
    exact spec_l2Cut _ _ W (by omega) (by omega)
  have Hcl : Hid ((capW ps ws l).length = nP) := Lib.hid (by rw [capW_length]; exact Hl.out)
  have Hkid : Hid (∀ (W : World) (a : Option Addr) (c : Nat), Below w.heap.size w W → Ints W a nP (capW ps ws l) → Calls Try.prog 59 #[.agg #[.slice aP nP cP, .slice (some ⟨bW, oW, none⟩) nW cW], .slice a nP c, .int .i64 (X : Int)] W fun e w' => e = .returned (.int .i64 (goS ps ws l X)) ∧ Below W.heap.size W w') := Lib.hid fun W a c hW hI => by
    have := spec_l4Kids _ _ _ _ _ _ ps ws a nP c (capW ps ws l) X 1000000000 W (H.out.below hW) HTr.out.toPa hI (Nat.le_refl _) (by omega) (fun i => by have := worth_abs HTr.out Hpp.out 24 i; unfold capW; omega) (by omega)
    rw [Int.toNat_natCast] at this
    exact this
  have Hgb := Lib.hid hgb
  clear hv hbd hsb hsp hgb z1 z2
  generalize hgn : goN ps ws l X = gn at *
  generalize hgd : goD ps ws l X = gd at *
  have Hgn := Lib.hid hgn
  have Hgd := Lib.hid hgd
  clear hgn hgd
  generalize goS ps ws l X = gs at *
  have Hsl : Hid ((sums ps ws).length = nP) := Lib.hid (by rw [sums_length HTr.out]; exact Hl.out)
  have hw5 : w.heap.size + 1 < w5.heap.size := HR.out.lt
  go_wp2_with fail
  refine wp_region_noPanic ?_
  refine wp_region_held_drew (S := (fun W' => Below w.heap.size w W' ∧ W'.cell? ⟨w.heap.size, 0, none⟩ = some (.slice aP nP cP) ∧ W'.cell? ⟨w.heap.size, 1, none⟩ = some (.slice (some ⟨bW, oW, none⟩) nW cW))) (by kernel_rfl) ?_ (fun hHeld0 => ?_)
  · (try dsimp only); first | assumption | exact bk2_start hb15 d0 d1 | exact bk2_set (by simp) (by simp) (by simp) (bk2_set (by simp) (by simp) (by simp) (by assumption))
  refine takeH (i := 0) (oi := _) (v := ?_) rfl (by kernel_rfl) (by kernel_rfl) (by kernel_rfl) (fun _ _ _ h => h) (Or.inl ⟨by rfl, ?_⟩) (by assumption) ?_
  rotate_left
  · first | (intro w hSw; (try dsimp only at hSw); go_simp; done) | (intro w hSw; (try dsimp only at hSw); go_simp; with_reducible rfl)
  (try simp only [Act.put, List.setIfInBounds_toArray, List.set_cons_zero, List.set_cons_succ])
  refine takeH (i := 1) (oi := _) (v := ?_) rfl (by kernel_rfl) (by kernel_rfl) (by kernel_rfl) (fun _ _ _ h => h) (Or.inl ⟨by rfl, ?_⟩) (by assumption) ?_
  rotate_left
  · first | (intro w hSw; (try dsimp only at hSw); go_simp; done) | (intro w hSw; (try dsimp only at hSw); go_simp; with_reducible rfl)
  (try simp only [Act.put, List.setIfInBounds_toArray, List.set_cons_zero, List.set_cons_succ])
  refine takeH (i := 2) (oi := _) (v := ?_) rfl (by kernel_rfl) (by kernel_rfl) (by kernel_rfl) (fun _ _ _ h => h) (Or.inl ⟨by rfl, ?_⟩) (by assumption) ?_
  rotate_left
  · first | (intro w hSw; (try dsimp only at hSw); go_simp; done) | (intro w hSw; (try dsimp only at hSw); go_simp; with_reducible rfl)
  (try simp only [Act.put, List.setIfInBounds_toArray, List.set_cons_zero, List.set_cons_succ])
  refine takeH (i := 4) (oi := _) (v := ?_) rfl (by kernel_rfl) (by kernel_rfl) (by kernel_rfl) (fun _ _ _ h => h) (Or.inl ⟨by rfl, ?_⟩) (by assumption) ?_
  rotate_left
  · first | (intro w hSw; (try dsimp only at hSw); go_simp; done) | (intro w hSw; (try dsimp only at hSw); go_simp; with_reducible rfl)
  (try simp only [Act.put, List.setIfInBounds_toArray, List.set_cons_zero, List.set_cons_succ])
  refine takeH (i := 6) (oi := _) (v := ?_) rfl (by kernel_rfl) (by kernel_rfl) (by kernel_rfl) (fun _ _ _ h => h) (Or.inl ⟨by rfl, ?_⟩) (by assumption) ?_
  rotate_left
  · first | (intro w hSw; (try dsimp only at hSw); go_simp; done) | (intro w hSw; (try dsimp only at hSw); go_simp; with_reducible rfl)
  (try simp only [Act.put, List.setIfInBounds_toArray, List.set_cons_zero, List.set_cons_succ])
  refine takeH (i := 8) (oi := _) (v := ?_) rfl (by kernel_rfl) (by kernel_rfl) (by kernel_rfl) (fun _ _ _ h => h) (Or.inl ⟨by rfl, ?_⟩) (by assumption) ?_
  rotate_left
  · first | (intro w hSw; (try dsimp only at hSw); go_simp; done) | (intro w hSw; (try dsimp only at hSw); go_simp; with_reducible rfl)
  (try simp only [Act.put, List.setIfInBounds_toArray, List.set_cons_zero, List.set_cons_succ])
  refine wpAnyH_ready (rs := [3]) (by kernel_rfl) (by simp) ?_
  refine consH rfl (fun Kq hKq => ?_)
  go_simp
  (first
      | (go_at_call 74; refine (spec_l4Caps _ _ _ _ _ _ ps ws _ _ _ l _ (H.out.below (by assumption : Below w.heap.size w _ ∧ _).1) HTr.out (HL.out.below (by assumption : Below w.heap.size w _ ∧ _).1) rfl Hpp.out).mono ?_; rintro e w6 ⟨v6, rfl, o6, b6⟩
         have hk6 := bk2_next b6 (by assumption : Below w.heap.size w _ ∧ _ ∧ _)
         have hR6 := pair_up b6 HR.out.c0 HR.out.c1 HR.out.f0 HR.out.f1
         obtain ⟨a6, c6, rfl⟩ := o6.shape
         rw [Hcl.out] at o6 ⊢)
      | (go_at_call 59; refine (Hkid.out _ _ _ (by assumption : Below w.heap.size w _ ∧ _).1 o6.ints).mono ?_; rintro e w7 ⟨rfl, b7⟩
         have hk7 := bk2_next b7 (by assumption : Below w.heap.size w _ ∧ _ ∧ _)
         have hR7 := pair_up b7 hR6.c0 hR6.c1 hR6.f0 hR6.f1)
      | (go_at_call 58; refine (spec_l2Sums _ _ _ _ _ _ ps ws _ (H.out.below (by assumption : Below w.heap.size w _ ∧ _).1) HTr.out).mono ?_; rintro e w8 ⟨v8, rfl, o8, b8⟩
         have hk8 := bk2_next b8 (by assumption : Below w.heap.size w _ ∧ _ ∧ _)
         have hR8 := pair_up b8 hR7.c0 hR7.c1 hR7.f0 hR7.f1
         obtain ⟨a8, c8, rfl⟩ := o8.shape
         rw [Hsl.out] at o8 ⊢
         obtain ⟨b8', o8', rfl, hc8⟩ := o8.ints.at (i := X) (Below.refl _ _) hXn)
      | (go_at_call 86; refine (Hcut.out _).mono ?_; rintro e w9 ⟨rfl, b9⟩
         have hk9 := bk2_next b9 (by assumption : Below w.heap.size w _ ∧ _ ∧ _)
         have hb9 : Below w.heap.size w w9 := hk9.1
         have hR9 := pair_up b9 hR8.c0 hR8.c1 hR8.f0 hR8.f1
         have q3 := hR9.c0
         have q4 := hR9.c1
         have q5 := hR9.f0
         have q6 := hR9.f1
         have hr := hR9.set (.int .i64 gn) (.int .i64 gd)))
  refine hKq.out _ _ ?_ (fun hHeld1 => ?_)
  · (try dsimp only); first | assumption | exact bk2_start hb15 d0 d1 | exact bk2_set (by simp) (by simp) (by simp) (bk2_set (by simp) (by simp) (by simp) (by assumption))
  clear hKq Kq
  (try simp only [Act.put, List.setIfInBounds_toArray, List.set_cons_zero, List.set_cons_succ])
  clear hHeld0
  refine wpAnyH_ready (rs := [5]) (by kernel_rfl) (by simp) ?_
  refine consH rfl (fun Kq hKq => ?_)
  go_simp
  (first
      | (go_at_call 74; refine (spec_l4Caps _ _ _ _ _ _ ps ws _ _ _ l _ (H.out.below (by assumption : Below w.heap.size w _ ∧ _).1) HTr.out (HL.out.below (by assumption : Below w.heap.size w _ ∧ _).1) rfl Hpp.out).mono ?_; rintro e w6 ⟨v6, rfl, o6, b6⟩
         have hk6 := bk2_next b6 (by assumption : Below w.heap.size w _ ∧ _ ∧ _)
         have hR6 := pair_up b6 HR.out.c0 HR.out.c1 HR.out.f0 HR.out.f1
         obtain ⟨a6, c6, rfl⟩ := o6.shape
         rw [Hcl.out] at o6 ⊢)
      | (go_at_call 59; refine (Hkid.out _ _ _ (by assumption : Below w.heap.size w _ ∧ _).1 o6.ints).mono ?_; rintro e w7 ⟨rfl, b7⟩
         have hk7 := bk2_next b7 (by assumption : Below w.heap.size w _ ∧ _ ∧ _)
         have hR7 := pair_up b7 hR6.c0 hR6.c1 hR6.f0 hR6.f1)
      | (go_at_call 58; refine (spec_l2Sums _ _ _ _ _ _ ps ws _ (H.out.below (by assumption : Below w.heap.size w _ ∧ _).1) HTr.out).mono ?_; rintro e w8 ⟨v8, rfl, o8, b8⟩
         have hk8 := bk2_next b8 (by assumption : Below w.heap.size w _ ∧ _ ∧ _)
         have hR8 := pair_up b8 hR7.c0 hR7.c1 hR7.f0 hR7.f1
         obtain ⟨a8, c8, rfl⟩ := o8.shape
         rw [Hsl.out] at o8 ⊢
         obtain ⟨b8', o8', rfl, hc8⟩ := o8.ints.at (i := X) (Below.refl _ _) hXn)
      | (go_at_call 86; refine (Hcut.out _).mono ?_; rintro e w9 ⟨rfl, b9⟩
         have hk9 := bk2_next b9 (by assumption : Below w.heap.size w _ ∧ _ ∧ _)
         have hb9 : Below w.heap.size w w9 := hk9.1
         have hR9 := pair_up b9 hR8.c0 hR8.c1 hR8.f0 hR8.f1
         have q3 := hR9.c0
         have q4 := hR9.c1
         have q5 := hR9.f0
         have q6 := hR9.f1
         have hr := hR9.set (.int .i64 gn) (.int .i64 gd)))
  refine hKq.out _ _ ?_ (fun hHeld2 => ?_)
  · (try dsimp only); first | assumption | exact bk2_start hb15 d0 d1 | exact bk2_set (by simp) (by simp) (by simp) (bk2_set (by simp) (by simp) (by simp) (by assumption))
  clear hKq Kq
  (try simp only [Act.put, List.setIfInBounds_toArray, List.set_cons_zero, List.set_cons_succ])
  clear hHeld1
  refine wpAnyH_ready (rs := [7]) (by kernel_rfl) (by simp) ?_
  refine consH rfl (fun Kq hKq => ?_)
  go_simp
  (first
      | (go_at_call 74; refine (spec_l4Caps _ _ _ _ _ _ ps ws _ _ _ l _ (H.out.below (by assumption : Below w.heap.size w _ ∧ _).1) HTr.out (HL.out.below (by assumption : Below w.heap.size w _ ∧ _).1) rfl Hpp.out).mono ?_; rintro e w6 ⟨v6, rfl, o6, b6⟩
         have hk6 := bk2_next b6 (by assumption : Below w.heap.size w _ ∧ _ ∧ _)
         have hR6 := pair_up b6 HR.out.c0 HR.out.c1 HR.out.f0 HR.out.f1
         obtain ⟨a6, c6, rfl⟩ := o6.shape
         rw [Hcl.out] at o6 ⊢)
      | (go_at_call 59; refine (Hkid.out _ _ _ (by assumption : Below w.heap.size w _ ∧ _).1 o6.ints).mono ?_; rintro e w7 ⟨rfl, b7⟩
         have hk7 := bk2_next b7 (by assumption : Below w.heap.size w _ ∧ _ ∧ _)
         have hR7 := pair_up b7 hR6.c0 hR6.c1 hR6.f0 hR6.f1)
      | (go_at_call 58; refine (spec_l2Sums _ _ _ _ _ _ ps ws _ (H.out.below (by assumption : Below w.heap.size w _ ∧ _).1) HTr.out).mono ?_; rintro e w8 ⟨v8, rfl, o8, b8⟩
         have hk8 := bk2_next b8 (by assumption : Below w.heap.size w _ ∧ _ ∧ _)
         have hR8 := pair_up b8 hR7.c0 hR7.c1 hR7.f0 hR7.f1
         obtain ⟨a8, c8, rfl⟩ := o8.shape
         rw [Hsl.out] at o8 ⊢
         obtain ⟨b8', o8', rfl, hc8⟩ := o8.ints.at (i := X) (Below.refl _ _) hXn)
      | (go_at_call 86; refine (Hcut.out _).mono ?_; rintro e w9 ⟨rfl, b9⟩
         have hk9 := bk2_next b9 (by assumption : Below w.heap.size w _ ∧ _ ∧ _)
         have hb9 : Below w.heap.size w w9 := hk9.1
         have hR9 := pair_up b9 hR8.c0 hR8.c1 hR8.f0 hR8.f1
         have q3 := hR9.c0
         have q4 := hR9.c1
         have q5 := hR9.f0
         have q6 := hR9.f1
         have hr := hR9.set (.int .i64 gn) (.int .i64 gd)))
  refine hKq.out _ _ ?_ (fun hHeld3 => ?_)
  · (try dsimp only); first | assumption | exact bk2_start hb15 d0 d1 | exact bk2_set (by simp) (by simp) (by simp) (bk2_set (by simp) (by simp) (by simp) (by assumption))
  clear hKq Kq
  (try simp only [Act.put, List.setIfInBounds_toArray, List.set_cons_zero, List.set_cons_succ])
  clear hHeld2
  refine takeH (i := 9) (oi := _) (v := ?_) rfl (by kernel_rfl) (by kernel_rfl) (by kernel_rfl) (fun _ _ _ h => h) (Or.inl ⟨by rfl, ?_⟩) (by assumption) ?_
  rotate_left
  · first | (intro w hSw; (try dsimp only at hSw); go_simp; done) | (intro w hSw; (try dsimp only at hSw); go_simp; with_reducible rfl)
  (try simp only [Act.put, List.setIfInBounds_toArray, List.set_cons_zero, List.set_cons_succ])
  refine wpAnyH_ready (rs := [10]) (by kernel_rfl) (by simp) ?_
  refine consH rfl (fun Kq hKq => ?_)
  go_simp
  refine hKq.out _ _ ?_ (fun hHeld4 => ?_)
  · (try dsimp only); first | assumption | exact bk2_start hb15 d0 d1 | exact bk2_set (by simp) (by simp) (by simp) (bk2_set (by simp) (by simp) (by simp) (by assumption))
  clear hKq Kq
  (try simp only [Act.put, List.setIfInBounds_toArray, List.set_cons_zero, List.set_cons_succ])
  clear hHeld3
  refine wpAnyH_ready (rs := [11]) (by kernel_rfl) (by simp) ?_
  refine consH rfl (fun Kq hKq => ?_)
  go_simp
  (first
      | (go_at_call 74; refine (spec_l4Caps _ _ _ _ _ _ ps ws _ _ _ l _ (H.out.below (by assumption : Below w.heap.size w _ ∧ _).1) HTr.out (HL.out.below (by assumption : Below w.heap.size w _ ∧ _).1) rfl Hpp.out).mono ?_; rintro e w6 ⟨v6, rfl, o6, b6⟩
         have hk6 := bk2_next b6 (by assumption : Below w.heap.size w _ ∧ _ ∧ _)
         have hR6 := pair_up b6 HR.out.c0 HR.out.c1 HR.out.f0 HR.out.f1
         obtain ⟨a6, c6, rfl⟩ := o6.shape
         rw [Hcl.out] at o6 ⊢)
      | (go_at_call 59; refine (Hkid.out _ _ _ (by assumption : Below w.heap.size w _ ∧ _).1 o6.ints).mono ?_; rintro e w7 ⟨rfl, b7⟩
         have hk7 := bk2_next b7 (by assumption : Below w.heap.size w _ ∧ _ ∧ _)
         have hR7 := pair_up b7 hR6.c0 hR6.c1 hR6.f0 hR6.f1)
      | (go_at_call 58; refine (spec_l2Sums _ _ _ _ _ _ ps ws _ (H.out.below (by assumption : Below w.heap.size w _ ∧ _).1) HTr.out).mono ?_; rintro e w8 ⟨v8, rfl, o8, b8⟩
         have hk8 := bk2_next b8 (by assumption : Below w.heap.size w _ ∧ _ ∧ _)
         have hR8 := pair_up b8 hR7.c0 hR7.c1 hR7.f0 hR7.f1
         obtain ⟨a8, c8, rfl⟩ := o8.shape
         rw [Hsl.out] at o8 ⊢
         obtain ⟨b8', o8', rfl, hc8⟩ := o8.ints.at (i := X) (Below.refl _ _) hXn)
      | (go_at_call 86; refine (Hcut.out _).mono ?_; rintro e w9 ⟨rfl, b9⟩
         have hk9 := bk2_next b9 (by assumption : Below w.heap.size w _ ∧ _ ∧ _)
         have hb9 : Below w.heap.size w w9 := hk9.1
         have hR9 := pair_up b9 hR8.c0 hR8.c1 hR8.f0 hR8.f1
         have q3 := hR9.c0
         have q4 := hR9.c1
         have q5 := hR9.f0
         have q6 := hR9.f1
         have hr := hR9.set (.int .i64 gn) (.int .i64 gd)))
  refine hKq.out _ _ ?_ (fun hHeld5 => ?_)
  · (try dsimp only); first | assumption | exact bk2_start hb15 d0 d1 | exact bk2_set (by simp) (by simp) (by simp) (bk2_set (by simp) (by simp) (by simp) (by assumption))
  clear hKq Kq
  (try simp only [Act.put, List.setIfInBounds_toArray, List.set_cons_zero, List.set_cons_succ])
  clear hHeld4
  refine wpAnyH_ready (rs := [12]) (by kernel_rfl) (by simp) ?_
  refine consH rfl (fun Kq hKq => ?_)
  go_simp
  refine hKq.out _ _ ?_ (fun hHeld6 => ?_)
  · (try dsimp only); first | assumption | exact bk2_start hb15 d0 d1 | exact bk2_set (by simp) (by simp) (by simp) (bk2_set (by simp) (by simp) (by simp) (by assumption))
  clear hKq Kq
  (try simp only [Act.put, List.setIfInBounds_toArray, List.set_cons_zero, List.set_cons_succ])
  clear hHeld5
  refine takeH (i := 13) (oi := _) (v := ?_) rfl (by kernel_rfl) (by kernel_rfl) (by kernel_rfl) (fun _ _ _ h => h) (Or.inl ⟨by rfl, ?_⟩) (by assumption) ?_
  rotate_left
  · first | (intro w hSw; (try dsimp only at hSw); go_simp; done) | (intro w hSw; (try dsimp only at hSw); go_simp; with_reducible rfl)
  (try simp only [Act.put, List.setIfInBounds_toArray, List.set_cons_zero, List.set_cons_succ])
  refine wpAnyH_done (by kernel_rfl) ?_ _
  refine NoPanic.normal ?_
  go_wp2_with fail
  exact bodyPost_ret (v := .tuple #[.agg #[.int .i64 gn, .int .i64 gd], .bool true]) (by simp [results, Try.results49, go_sem, hr.1, hr.2]) rfl ⟨by rw [Hgb.out, Hgn.out, Hgd.out], (hb9.setCell (by simp) _).setCell (by simp) _⟩
end Go.Proofs.Ytfnmhoidgnihoaa
