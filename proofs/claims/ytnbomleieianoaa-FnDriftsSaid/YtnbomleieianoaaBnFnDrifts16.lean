/- Contracts and plain laws for the statement FnDrifts, part 16. No conditions but those stated in each. -/
import Derived.Test.YtnbomleieianoaaBnFnDrifts13
import Derived.Test.YtnbomleieianoaaBnFnDrifts11
import Derived.Test.YtnbomleieianoaaBnFnDrifts1
/- Contracts: what a seer has, the bound of a balanced list, by the program. -/
namespace Go.Proofs.Ytnbomleieianoaa
open Go.RowKit

def boN (c : Bool) (ps ws pay num : List Int) : Int := if c then nm (bndS ps ws pay num) (nth (sums ps ws) 0) else 0
def boD (c : Bool) (ps ws pay num : List Int) : Int := if c then dn (bndS ps ws pay num) (nth (sums ps ws) 0) else 0
theorem bo_no {c : Bool} {ps ws pay num : List Int} (h : c = false) : boN c ps ws pay num = 0 ∧ boD c ps ws pay num = 0 := by subst h; exact ⟨rfl, rfl⟩
theorem bo_yes {c : Bool} {ps ws pay num : List Int} (h : c = true) : boN c ps ws pay num = nm (bndS ps ws pay num) (nth (sums ps ws) 0) ∧ boD c ps ws pay num = dn (bndS ps ws pay num) (nth (sums ps ws) 0) := by subst h; exact ⟨rfl, rfl⟩
def zeL (ps : List Int) : List Int := List.replicate ps.length 0
theorem nth_zeL (ps : List Int) (i : Nat) : -999 ≤ nth (zeL ps) i ∧ nth (zeL ps) i ≤ 999 := by rw [zeL, nth_replicate]; omega
def bbB (ps ws pay num : List Int) : Bool := balV ps ws num && paysB ps ws pay
set_option maxRecDepth 100000 in
set_option maxHeartbeats 1000000 in
theorem impl_SeerMean (aP : Option Addr) (nP cP : Nat) (aW : Option Addr) (nW cW : Nat) (ps ws : List Int) (aL : Option Addr) (nL cL : Nat) (l : List Int) (w : World) (h : Tre w aP nP cP aW nW cW ps ws) (hL : Ints w aL nL l) (_hLc : aL = none → cL = 0) (hn : nL ≤ 1048576) :
    Calls Try.prog 49 #[.agg #[.slice aP nP cP, .slice aW nW cW], .slice aL nL cL] w fun e w' => e = .returned (.tuple #[.agg #[.int .i64 (boN (paysB ps ws l) ps ws l (zeL ps)), .int .i64 (boD (paysB ps ws l) ps ws l (zeL ps))], .bool (paysB ps ws l)]) ∧ Below w.heap.size w w' := by
  have hl := h.p.1
  have hlw := h.w.1
  have hpn := h.pn
  have hwn := h.wn
  have hb1 := below_new w (.cells #[.slice aP nP cP, .slice aW nW cW] 26)
  have hP1 := Lib.hid (Pair.new w (.slice aP nP cP) (.slice aW nW cW) 26)
  have H := Lib.hid h
  have Hl := Lib.hid hl
  have Hlw := Lib.hid hlw
  clear h hl hlw
  have HL := Lib.hid hL
  have hll := Lib.hid hL.1
  clear hL
  go_enter Try.func49, Try.ntmps49
  have hbb := hb1.trans ((below_new (w.alloc (.cells #[.slice aP nP cP, .slice aW nW cW] 26)) (.cells #[.int .i64 0, .int .i64 0] 48)).mono hb1.size)
  have hPP := Lib.hid (hP1.out.alloc (.cells #[.int .i64 0, .int .i64 0] 48))
  have hR1 := Pair.new (w.alloc (.cells #[.slice aP nP cP, .slice aW nW cW] 26)) (.int .i64 0) (.int .i64 0) 48
  rw [show (w.alloc (.cells #[.slice aP nP cP, .slice aW nW cW] 26)).heap.size = w.heap.size + 1 by simp] at hR1
  have HR1 := Lib.hid hR1
  have c0 := hPP.out.c0
  have c1 := hPP.out.c1
  clear hb1 hP1 hR1
  go_wp2_with fail
  generalize ((w.alloc (.cells #[.slice aP nP cP, .slice aW nW cW] 26)).alloc (.cells #[.int .i64 0, .int .i64 0] 48)) = w2 at *
  refine (impl_IsTree _ _ _ _ _ _ ps ws _ (H.out.below hbb)).mono ?_
  rintro e w3 ⟨rfl, hb3⟩
  have HP3 := Lib.hid (hPP.out.below hb3)
  have HR3 := Lib.hid (HR1.out.below hb3)
  have d0 := HP3.out.c0
  have d1 := HP3.out.c1
  have hb13 := hbb.trans (hb3.mono hbb.size)
  clear c0 c1 hb3 hPP HR1 hbb
  cases hT : treeB ps ws
  · have Hv := Lib.hid (pays_no1 (l := l) hT)
    clear hT
    have q3 := HR3.out.c0
    have q4 := HR3.out.c1
    have q5 := HR3.out.f0
    have q6 := HR3.out.f1
    have hr := HR3.out.set (.int .i64 0) (.int .i64 0)
    go_wp2_with fail
    exact bodyPost_ret (v := .tuple #[.agg #[.int .i64 0, .int .i64 0], .bool false]) (by simp [results, Try.results49, go_sem, hr.1, hr.2]) rfl ⟨by rw [Hv.out]; rfl, (hb13.setCell (by simp) _).setCell (by simp) _⟩
  have HT := Lib.hid hT
  clear hT
  go_wp2_with fail
  refine (impl_isProcess _ _ _ _ _ _ ps ws _ _ _ l _ (H.out.below hb13) (HL.out.below hb13) hn).mono ?_
  rintro e w4 ⟨rfl, hb4⟩
  have HP4 := Lib.hid (HP3.out.below hb4)
  have HR4 := Lib.hid (HR3.out.below hb4)
  have e0 := HP4.out.c0
  have e1 := HP4.out.c1
  have hb14 := hb13.trans (hb4.mono hb13.size)
  clear d0 d1 hb4 HP3 HR3
  cases hp : procB ps.length l
  · have Hv := Lib.hid (pays_no2 (ws := ws) hp)
    clear hp
    have q3 := HR4.out.c0
    have q4 := HR4.out.c1
    have q5 := HR4.out.f0
    have q6 := HR4.out.f1
    have hr := HR4.out.set (.int .i64 0) (.int .i64 0)
    go_wp2_with fail
    exact bodyPost_ret (v := .tuple #[.agg #[.int .i64 0, .int .i64 0], .bool false]) (by simp [results, Try.results49, go_sem, hr.1, hr.2]) rfl ⟨by rw [Hv.out]; rfl, (hb14.setCell (by simp) _).setCell (by simp) _⟩
  have Hc := Lib.hid (pays_both HT.out hp)
  obtain ⟨hTr, _, _, hleq, hlb⟩ := paysB_t Hc.out
  have hnL : nP = nL := by have := hll.out; have := Hl.out; omega
  have HTr := Lib.hid hTr
  have Hlb := Lib.hid hlb
  have hn24 : nP ≤ 24 := by have := hTr.n24; have := Hl.out; omega
  clear hp hTr hleq hlb hn hpn hwn
  subst hnL
  have hmk := mk_ints nP (by omega)
  have hmx : nP ≤ maxLen := by have : maxLen = 9223372036854775807 := rfl; omega
  have HcB : Hid (∀ (W : World) (ag : Option Addr) (cg : Nat), Below w.heap.size w W → Ints W ag nP (zeL ps) → Calls Try.prog 115 #[.agg #[.slice aP nP cP, .slice aW nW cW], .slice aL nP cL, .slice ag nP cg] W fun e w' => e = .returned (.tuple #[.agg #[.int .i64 (nm (bndS ps ws l (zeL ps)) (nth (sums ps ws) 0)), .int .i64 (dn (bndS ps ws l (zeL ps)) (nth (sums ps ws) 0))], .bool true]) ∧ Below W.heap.size W w') := Lib.hid fun W ag cg hW hI => impl_bound _ _ _ _ _ _ ps ws _ _ _ l _ _ _ (zeL ps) W (H.out.below hW) HTr.out (HL.out.below hW) rfl hI rfl Hlb.out (nth_zeL ps)
  have HZ : Hid (∀ W : World, Ints (W.alloc (.cells (zv nP) 3)) (some ⟨W.heap.size, 0, none⟩) nP (zeL ps)) := Lib.hid fun W => by
    have := (Own.zeros W W.heap.size nP (Nat.le_refl _) hmx).ints
    rw [zeL, Hl.out]
    exact this
  generalize hgn : nm (bndS ps ws l (zeL ps)) (nth (sums ps ws) 0) = gn at *
  generalize hgd : dn (bndS ps ws l (zeL ps)) (nth (sums ps ws) 0) = gd at *
  have Hgn := Lib.hid hgn
  have Hgd := Lib.hid hgd
  clear hgn hgd
  have hnew := (below_new w4 (.cells (zv nP) 3)).drew
  have hb15 := hb14.trans (hnew.mono hb14.size)
  have HR5 := Lib.hid (HR4.out.below hnew)
  have HP5 := Lib.hid (HP4.out.below hnew)
  have hz := (HZ.out w4).below (Below.refl _ _).drew
  have hS0 : Below w.heap.size w w4.drew ∧ w4.drew.cell? ⟨w.heap.size, 0, none⟩ = some (.slice aP nP cP) ∧ w4.drew.cell? ⟨w.heap.size, 1, none⟩ = some (.slice aW nW cW) := ⟨hb14.drew, e0, e1⟩
  have hSz : Below w.heap.size w (w4.alloc (.cells (zv nP) 3)).drew ∧ (w4.alloc (.cells (zv nP) 3)).drew.cell? ⟨w.heap.size, 0, none⟩ = some (.slice aP nP cP) ∧ (w4.alloc (.cells (zv nP) 3)).drew.cell? ⟨w.heap.size, 1, none⟩ = some (.slice aW nW cW) := ⟨hb15, HP5.out.c0, HP5.out.c1⟩
  go_upto_region 3 with fail
  refine wp_region_noPanic ?_
  refine wp_region_held_drew (S := fun W' => Below w.heap.size w W' ∧ W'.cell? ⟨w.heap.size, 0, none⟩ = some (.slice aP nP cP) ∧ W'.cell? ⟨w.heap.size, 1, none⟩ = some (.slice aW nW cW)) (by kernel_rfl) ?_ (fun hHeld0 => ?_)
  · (try dsimp only); first | exact hS0 | exact hSz | exact hS9 | exact ⟨(hb19.setCell (by simp) _).setCell (by simp) _, cell_far (cell_far hP9.c0 (by simp)) (by simp), cell_far (cell_far hP9.c1 (by simp)) (by simp)⟩
  refine takeH (i := 0) (oi := _) (v := ?_) rfl (by kernel_rfl) (by kernel_rfl) (by kernel_rfl) (fun _ _ _ h => h) (Or.inl ⟨by rfl, ?_⟩) (by assumption) ?_
  rotate_left
  · first | (intro w hSw; (try dsimp only at hSw); go_simp; done) | (intro w hSw; (try dsimp only at hSw); go_simp; with_reducible rfl)
  (try simp only [Act.put, List.setIfInBounds_toArray, List.set_cons_zero, List.set_cons_succ])
  refine takeH (i := 1) (oi := _) (v := ?_) rfl (by kernel_rfl) (by kernel_rfl) (by kernel_rfl) (fun _ _ _ h => h) (Or.inl ⟨by rfl, ?_⟩) (by assumption) ?_
  rotate_left
  · first | (intro w hSw; (try dsimp only at hSw); go_simp; done) | (intro w hSw; (try dsimp only at hSw); go_simp; with_reducible rfl)
  (try simp only [Act.put, List.setIfInBounds_toArray, List.set_cons_zero, List.set_cons_succ])
  refine takeH (i := 2) (oi := _) (v := ?_) rfl (by kernel_rfl) (by kernel_rfl) (by kernel_rfl) (fun _ _ _ h => h) (Or.inl ⟨by rfl, ?_⟩) (by assumption) ?_
  rotate_left
  · first | (intro w hSw; (try dsimp only at hSw); go_simp; done) | (intro w hSw; (try dsimp only at hSw); go_simp; with_reducible rfl)
  (try simp only [Act.put, List.setIfInBounds_toArray, List.set_cons_zero, List.set_cons_succ])
  refine takeH (i := 3) (oi := _) (v := ?_) rfl (by kernel_rfl) (by kernel_rfl) (by kernel_rfl) (fun _ _ _ h => h) (Or.inl ⟨by rfl, ?_⟩) (by assumption) ?_
  rotate_left
  · first | (intro w hSw; (try dsimp only at hSw); go_simp; done) | (intro w hSw; (try dsimp only at hSw); go_simp; with_reducible rfl)
  (try simp only [Act.put, List.setIfInBounds_toArray, List.set_cons_zero, List.set_cons_succ])
  refine wpAnyH_ready (rs := [4]) (by kernel_rfl) (by simp) ?_
  refine consH rfl (fun Kq hKq => ?_)
  go_simp
  refine hKq.out _ _ ?_ (fun hHeld1 => ?_)
  · (try dsimp only); first | exact hS0 | exact hSz | exact hS9 | exact ⟨(hb19.setCell (by simp) _).setCell (by simp) _, cell_far (cell_far hP9.c0 (by simp)) (by simp), cell_far (cell_far hP9.c1 (by simp)) (by simp)⟩
  clear hKq Kq
  (try simp only [Act.put, List.setIfInBounds_toArray, List.set_cons_zero, List.set_cons_succ])
  clear hHeld0
  refine wpAnyH_ready (rs := [5]) (by kernel_rfl) (by simp) ?_
  refine consH rfl (fun Kq hKq => ?_)
  go_simp
  (go_at_call 115; refine (HcB.out _ _ _ hb15 hz).mono ?_; rintro e w9 ⟨rfl, b9⟩; have hb19 := hb15.trans (b9.mono hb15.size); have hR9 := HR5.out.below b9; have hP9 := HP5.out.below b9; have q3 := hR9.c0; have q4 := hR9.c1; have q5 := hR9.f0; have q6 := hR9.f1; have hr := hR9.set (.int .i64 gn) (.int .i64 gd); have hS9 : Below w.heap.size w w9 ∧ w9.cell? ⟨w.heap.size, 0, none⟩ = some (.slice aP nP cP) ∧ w9.cell? ⟨w.heap.size, 1, none⟩ = some (.slice aW nW cW) := ⟨hb19, hP9.c0, hP9.c1⟩)
  refine hKq.out _ _ ?_ (fun hHeld2 => ?_)
  · (try dsimp only); first | exact hS0 | exact hSz | exact hS9 | exact ⟨(hb19.setCell (by simp) _).setCell (by simp) _, cell_far (cell_far hP9.c0 (by simp)) (by simp), cell_far (cell_far hP9.c1 (by simp)) (by simp)⟩
  clear hKq Kq
  (try simp only [Act.put, List.setIfInBounds_toArray, List.set_cons_zero, List.set_cons_succ])
  clear hHeld1
  refine takeH (i := 6) (oi := _) (v := ?_) rfl (by kernel_rfl) (by kernel_rfl) (by kernel_rfl) (fun _ _ _ h => h) (Or.inl ⟨by rfl, ?_⟩) (by assumption) ?_
  rotate_left
  · first | (intro w hSw; (try dsimp only at hSw); go_simp; done) | (intro w hSw; (try dsimp only at hSw); go_simp; with_reducible rfl)
  (try simp only [Act.put, List.setIfInBounds_toArray, List.set_cons_zero, List.set_cons_succ])
  refine takeH (i := 7) (oi := _) (v := ?_) rfl (by kernel_rfl) (by kernel_rfl) (by kernel_rfl) (fun _ _ _ h => h) (Or.inl ⟨by rfl, ?_⟩) (by assumption) ?_
  rotate_left
  · first | (intro w hSw; (try dsimp only at hSw); go_simp; done) | (intro w hSw; (try dsimp only at hSw); go_simp; with_reducible rfl)
  (try simp only [Act.put, List.setIfInBounds_toArray, List.set_cons_zero, List.set_cons_succ])
  refine wpAnyH_ready (rs := [8]) (by kernel_rfl) (by simp) ?_
  refine consH rfl (fun Kq hKq => ?_)
  go_simp
  refine hKq.out _ _ ?_ (fun hHeld3 => ?_)
  · (try dsimp only); first | exact hS0 | exact hSz | exact hS9 | exact ⟨(hb19.setCell (by simp) _).setCell (by simp) _, cell_far (cell_far hP9.c0 (by simp)) (by simp), cell_far (cell_far hP9.c1 (by simp)) (by simp)⟩
  clear hKq Kq
  (try simp only [Act.put, List.setIfInBounds_toArray, List.set_cons_zero, List.set_cons_succ])
  clear hHeld2
  refine takeH (i := 9) (oi := _) (v := ?_) rfl (by kernel_rfl) (by kernel_rfl) (by kernel_rfl) (fun _ _ _ h => h) (Or.inl ⟨by rfl, ?_⟩) (by assumption) ?_
  rotate_left
  · first | (intro w hSw; (try dsimp only at hSw); go_simp; done) | (intro w hSw; (try dsimp only at hSw); go_simp; with_reducible rfl)
  (try simp only [Act.put, List.setIfInBounds_toArray, List.set_cons_zero, List.set_cons_succ])
  refine wpAnyH_done (by kernel_rfl) ?_ _
  refine NoPanic.normal ?_
  go_wp2_with fail
  exact bodyPost_ret (v := .tuple #[.agg #[.int .i64 gn, .int .i64 gd], .bool true]) (by simp [results, Try.results49, go_sem, hr.1, hr.2]) rfl ⟨by rw [Hc.out, ← Hgn.out, ← Hgd.out]; rfl, (hb19.setCell (by simp) _).setCell (by simp) _⟩
end Go.Proofs.Ytnbomleieianoaa

/- Contracts: totals, means, the bound of a list, what a seer has, by the reference. -/
namespace Go.Proofs.Ytnbomleieianoaa
open Go.RowKit

theorem Ints.away {w : World} {a : Option Addr} {n : Nat} {xs : List Int} (h : Ints w a n xs) {g i : Nat} (ha : ∀ p, a = some p → p.block ≠ g) (u : Value) : Ints (w.setCell ⟨g, i, none⟩ u) a n xs :=
  ⟨h.1, fun hn => by
    obtain ⟨b, off, rfl, hb, hc⟩ := h.2 hn
    exact ⟨b, off, rfl, by simpa using hb, fun j hj => cell_far (hc j hj) (ha ⟨b, off, none⟩ rfl)⟩⟩
/-- Zeros and the ends, just made, apart from each other. -/
def TotR (u wc : World) (n : Nat) (es : List Int) (v5 v6 : Value) : Prop :=
  KeepR u wc ∧ ∃ (g5 : Nat) (a6 : Option Addr) (c6 : Nat), v5 = .slice (some ⟨g5, 0, none⟩) n n ∧ v6 = .slice a6 es.length c6 ∧ Own wc u.heap.size v5 (List.replicate n 0) ∧ Ints wc a6 es.length es ∧ (∀ p, a6 = some p → p.block ≠ g5)
theorem tot_mk {u wc : World} {n : Nat} {es : List Int} {v6 : Value} {b5 b6 g5 : Nat} (hk : KeepR u wc) (h5 : Own wc b5 (.slice (some ⟨g5, 0, none⟩) n n) (List.replicate n 0)) (hb : u.heap.size ≤ b5) (h6 : Own wc b6 v6 es) (s6 : ∀ q, v6.ownBlock = some q → q ≠ g5) : TotR u wc n es (.slice (some ⟨g5, 0, none⟩) n n) v6 := by
  obtain ⟨a6, c6, rfl⟩ := h6.shape
  exact ⟨hk, g5, a6, c6, rfl, rfl, h5.mono hb, h6.ints, fun p hp => by subst hp; exact s6 _ rfl⟩
set_option maxRecDepth 100000 in
set_option maxHeartbeats 2000000 in
theorem spec_l2Totals (aP : Option Addr) (nP cP : Nat) (aW : Option Addr) (nW cW : Nat) (ps ws : List Int) (aL : Option Addr) (nL cL : Nat) (l : List Int) (V : Nat → Int) (w : World) (h : Tre w aP nP cP aW nW cW ps ws) (hT : Tr ps ws) (hL : Ints w aL nL l) (hnL : (ends ps).length = nL) (hv : ∀ i e : Nat, i < nL → nth (ends ps) i = (e : Int) → nth l i = V e) (hV : ∀ x, -2997 ≤ V x ∧ V x ≤ 2997) :
    Calls Try.prog 156 #[.agg #[.slice aP nP cP, .slice aW nW cW], .slice aL nL cL] w fun e w' => ∃ v, e = .returned v ∧ Own w' w.heap.size v (totA ps ws V) ∧ Below w.heap.size w w' := by
  have HTT := Lib.hid hT
  have hn24 := hT.n24
  have hn1 := hT.n1
  have HT := Lib.hid hT
  have hwl := hT.wl
  have hl := h.p.1
  have hlw := h.w.1
  have hpn := h.pn
  have hwn := h.wn
  have hb1 := below_new w (.cells #[.slice aP nP cP, .slice aW nW cW] 26)
  have hP1 := Lib.hid (Pair.new w (.slice aP nP cP) (.slice aW nW cW) 26)
  have H := Lib.hid h
  have Hl := Lib.hid hl
  have Hlw := Lib.hid hlw
  clear h hl hlw
  have hnW : nW ≤ nP ∧ nP ≤ nW := by have := Hlw.out; have := Hl.out; omega
  have hnP : 1 ≤ nP ∧ nP ≤ 24 := by have := Hl.out; omega
  clear hn24 hn1 hT hwl hpn hwn
  have hWP : nW = nP := by omega
  clear hnW
  subst hWP
  have HL0 := Lib.hid hL
  have Hv := Lib.hid hv
  have HV := Lib.hid hV
  have hnP : 1 ≤ nW ∧ nW ≤ 24 := by have := HTT.out.n24; have := HTT.out.n1; have := Hl.out; omega
  have hel : (ends ps).length ≤ 24 := by have := filt_length (endB ps) ps.length; have := Hl.out; rw [ends]; omega
  clear hL hv hV
  have HnL := Lib.hid hnL
  have hnL24 : nL ≤ 24 := by omega
  clear hnL
  have hmk := mk_ints nW (by omega)
  have hmx : nW ≤ maxLen := by have : maxLen = 9223372036854775807 := rfl; omega
  go_enter Try.func156, Try.ntmps156
  have c0 := hP1.out.c0
  have c1 := hP1.out.c1
  go_upto_region 1 with fail
  generalize (w.alloc (.cells #[.slice aP nW cP, .slice aW nW cW] 26)) = w2 at *
  go_cut [5, 6] (fun v5 v6 wc => TotR w2 wc nW (ends ps) v5 v6)
  case first =>
    refine wp_region_noPanic ?_
    refine wp_region_held_drew (S := fun W' => KeepR w2 W' ∧ W'.cell? ⟨w.heap.size, 0, none⟩ = some (.slice aP nW cP) ∧ W'.cell? ⟨w.heap.size, 1, none⟩ = some (.slice aW nW cW)) (by kernel_rfl) ?_ (fun hHeld0 => ?_)
    · (try dsimp only); first | exact keep2 (by assumption) hP1.out | exact keep2 (KeepR.start _) hP1.out | exact keep2 (KeepR.alloc0 _ _) hP1.out | exact keep2 (KeepR.alloc (by assumption : KeepR w2 _ ∧ _).1 _) hP1.out
    refine takeH (i := 0) (oi := _) (v := ?_) rfl (by kernel_rfl) (by kernel_rfl) (by kernel_rfl) (fun _ _ _ h => h) (Or.inl ⟨by rfl, ?_⟩) (by assumption) ?_
    rotate_left
    · first | (intro w hSw; (try dsimp only at hSw); go_simp; done) | (intro w hSw; (try dsimp only at hSw); go_simp; with_reducible rfl)
    (try simp only [Act.put, List.setIfInBounds_toArray, List.set_cons_zero, List.set_cons_succ])
    refine takeH (i := 1) (oi := _) (v := ?_) rfl (by kernel_rfl) (by kernel_rfl) (by kernel_rfl) (fun _ _ _ h => h) (Or.inl ⟨by rfl, ?_⟩) (by assumption) ?_
    rotate_left
    · first | (intro w hSw; (try dsimp only at hSw); go_simp; done) | (intro w hSw; (try dsimp only at hSw); go_simp; with_reducible rfl)
    (try simp only [Act.put, List.setIfInBounds_toArray, List.set_cons_zero, List.set_cons_succ])
    refine takeH (i := 2) (oi := _) (v := ?_) rfl (by kernel_rfl) (by kernel_rfl) (by kernel_rfl) (fun _ _ _ h => h) (Or.inl ⟨by rfl, ?_⟩) (by assumption) ?_
    rotate_left
    · first | (intro w hSw; (try dsimp only at hSw); go_simp; done) | (intro w hSw; (try dsimp only at hSw); go_simp; with_reducible rfl)
    (try simp only [Act.put, List.setIfInBounds_toArray, List.set_cons_zero, List.set_cons_succ])
    refine takeH (i := 4) (oi := _) (v := ?_) rfl (by kernel_rfl) (by kernel_rfl) (by kernel_rfl) (fun _ _ _ h => h) (Or.inl ⟨by rfl, ?_⟩) (by assumption) ?_
    rotate_left
    · first | (intro w hSw; (try dsimp only at hSw); go_simp; done) | (intro w hSw; (try dsimp only at hSw); go_simp; with_reducible rfl)
    (try simp only [Act.put, List.setIfInBounds_toArray, List.set_cons_zero, List.set_cons_succ])
    refine wpAnyH_ready (rs := [3, 5]) (by kernel_rfl) (by simp) ?_
    refine consM rfl (fun Kq hKq => ?_) (consH rfl (fun Kq hKq => ?_))
    · go_simp
      refine hKq.out _ _ ?_ (fun hHeld1 => ?_)
      · (try dsimp only); first | exact keep2 (by assumption) hP1.out | exact keep2 (KeepR.start _) hP1.out | exact keep2 (KeepR.alloc0 _ _) hP1.out | exact keep2 (KeepR.alloc (by assumption : KeepR w2 _ ∧ _).1 _) hP1.out
      clear hKq Kq
      (try simp only [Act.put, List.setIfInBounds_toArray, List.set_cons_zero, List.set_cons_succ])
      clear hHeld0
      refine wpAnyH_ready (rs := [5]) (by kernel_rfl) (by simp) ?_
      refine consH rfl (fun Kq hKq => ?_)
      go_simp
      (go_at_call 89; refine (spec_l2Ends _ _ _ _ _ _ ps ws _ (H.out.below (hb1.trans (Below.mono (by assumption : KeepR w2 _ ∧ _).1 hb1.size))) HTT.out.toPa).mono ?_; rintro e w6 ⟨v6, rfl, o6, b6⟩; have hk6 := KeepR.next b6 (by assumption : KeepR w2 _ ∧ _).1)
      refine hKq.out _ _ ?_ (fun hHeld2 => ?_)
      · (try dsimp only); first | exact keep2 (by assumption) hP1.out | exact keep2 (KeepR.start _) hP1.out | exact keep2 (KeepR.alloc0 _ _) hP1.out | exact keep2 (KeepR.alloc (by assumption : KeepR w2 _ ∧ _).1 _) hP1.out
      clear hKq Kq
      (try simp only [Act.put, List.setIfInBounds_toArray, List.set_cons_zero, List.set_cons_succ])
      clear hHeld1
      refine takeH (i := 6) (oi := _) (v := ?_) rfl (by kernel_rfl) (by kernel_rfl) (by kernel_rfl) (fun _ _ _ h => h) (Or.inl ⟨by rfl, ?_⟩) (by assumption) ?_
      rotate_left
      · first | (intro w hSw; (try dsimp only at hSw); go_simp; done) | (intro w hSw; (try dsimp only at hSw); go_simp; with_reducible rfl)
      (try simp only [Act.put, List.setIfInBounds_toArray, List.set_cons_zero, List.set_cons_succ])
      refine takeH (i := 7) (oi := _) (v := ?_) rfl (by kernel_rfl) (by kernel_rfl) (by kernel_rfl) (fun _ _ _ h => h) (Or.inl ⟨by rfl, ?_⟩) (by assumption) ?_
      rotate_left
      · first | (intro w hSw; (try dsimp only at hSw); go_simp; done) | (intro w hSw; (try dsimp only at hSw); go_simp; with_reducible rfl)
      (try simp only [Act.put, List.setIfInBounds_toArray, List.set_cons_zero, List.set_cons_succ])
      refine wpAnyH_done (by kernel_rfl) ?_ _
      refine NoPanic.normal ?_
      go_wp2_with fail
      go_meet
      first
        | exact tot_mk hk6 (((Own.zeros w2 w2.heap.size nW (Nat.le_refl _) hmx).below (Below.refl _ _).drew).below b6) (Nat.le_refl _) o6 (fun q hq => by have := (World.ownsRow.lt o6 q hq).1; simp at this; omega)
        | exact tot_mk (KeepR.alloc hk6 _) (Own.zeros w6 w6.heap.size nW (Nat.le_refl _) hmx) (Below.size hk6) (o6.below (below_new w6 _)) (fun q hq => by have := (World.ownsRow.lt o6 q hq).2; omega)
    · go_simp
      (go_at_call 89; refine (spec_l2Ends _ _ _ _ _ _ ps ws _ (H.out.below (hb1.trans (Below.mono (by assumption : KeepR w2 _ ∧ _).1 hb1.size))) HTT.out.toPa).mono ?_; rintro e w6 ⟨v6, rfl, o6, b6⟩; have hk6 := KeepR.next b6 (by assumption : KeepR w2 _ ∧ _).1)
      refine hKq.out _ _ ?_ (fun hHeld1 => ?_)
      · (try dsimp only); first | exact keep2 (by assumption) hP1.out | exact keep2 (KeepR.start _) hP1.out | exact keep2 (KeepR.alloc0 _ _) hP1.out | exact keep2 (KeepR.alloc (by assumption : KeepR w2 _ ∧ _).1 _) hP1.out
      clear hKq Kq
      (try simp only [Act.put, List.setIfInBounds_toArray, List.set_cons_zero, List.set_cons_succ])
      clear hHeld0
      refine wpAnyH_ready (rs := [3]) (by kernel_rfl) (by simp) ?_
      refine consH rfl (fun Kq hKq => ?_)
      go_simp
      refine hKq.out _ _ ?_ (fun hHeld2 => ?_)
      · (try dsimp only); first | exact keep2 (by assumption) hP1.out | exact keep2 (KeepR.start _) hP1.out | exact keep2 (KeepR.alloc0 _ _) hP1.out | exact keep2 (KeepR.alloc (by assumption : KeepR w2 _ ∧ _).1 _) hP1.out
      clear hKq Kq
      (try simp only [Act.put, List.setIfInBounds_toArray, List.set_cons_zero, List.set_cons_succ])
      clear hHeld1
      refine takeH (i := 6) (oi := _) (v := ?_) rfl (by kernel_rfl) (by kernel_rfl) (by kernel_rfl) (fun _ _ _ h => h) (Or.inl ⟨by rfl, ?_⟩) (by assumption) ?_
      rotate_left
      · first | (intro w hSw; (try dsimp only at hSw); go_simp; done) | (intro w hSw; (try dsimp only at hSw); go_simp; with_reducible rfl)
      (try simp only [Act.put, List.setIfInBounds_toArray, List.set_cons_zero, List.set_cons_succ])
      refine takeH (i := 7) (oi := _) (v := ?_) rfl (by kernel_rfl) (by kernel_rfl) (by kernel_rfl) (fun _ _ _ h => h) (Or.inl ⟨by rfl, ?_⟩) (by assumption) ?_
      rotate_left
      · first | (intro w hSw; (try dsimp only at hSw); go_simp; done) | (intro w hSw; (try dsimp only at hSw); go_simp; with_reducible rfl)
      (try simp only [Act.put, List.setIfInBounds_toArray, List.set_cons_zero, List.set_cons_succ])
      refine wpAnyH_done (by kernel_rfl) ?_ _
      refine NoPanic.normal ?_
      go_wp2_with fail
      go_meet
      first
        | exact tot_mk hk6 (((Own.zeros w2 w2.heap.size nW (Nat.le_refl _) hmx).below (Below.refl _ _).drew).below b6) (Nat.le_refl _) o6 (fun q hq => by have := (World.ownsRow.lt o6 q hq).1; simp at this; omega)
        | exact tot_mk (KeepR.alloc hk6 _) (Own.zeros w6 w6.heap.size nW (Nat.le_refl _) hmx) (Below.size hk6) (o6.below (below_new w6 _)) (fun q hq => by have := (World.ownsRow.lt o6 q hq).2; omega)
  case rest =>
    obtain ⟨hk5, g5, a6, c6, rfl, rfl, o5, i6, p6⟩ := hcut
    have hk5b : Below w2.heap.size w2 wc := hk5
    have hb15 := hb1.trans (hk5b.mono hb1.size)
    have HO := Lib.hid o5
    have G6 := Lib.hid i6
    have P6 := Lib.hid p6
    have HP5 := Lib.hid (hP1.out.below hk5b)
    have hg5 : w2.heap.size ≤ g5 := o5.lt.1
    have hw2 : w.heap.size < w2.heap.size := hP1.out.lt
    clear hk5 hk5b o5 i6 p6 hP1 hb1 c0 c1 hmk
    generalize hU : w2.heap.size = U at *
    clear hU
    go_wp2_with fail
    go_loopw [7] (fun v7 wr => ∃ i : Nat, i ≤ nL ∧ v7 = .int .i64 (i : Int) ∧ Own wr U (.slice (some ⟨g5, 0, none⟩) nW nW) (totK ps ws V i) ∧ Ints wr a6 (ends ps).length (ends ps) ∧ Pair wr w.heap.size (.slice aP nW cP) (.slice aW nW cW) ∧ Below w.heap.size w wr) (fun v7 _ => nL - (intOf v7).toNat)
    case atStart => exact ⟨0, Nat.zero_le _, rfl, by rw [← totK_zero, Hl.out]; exact HO.out, G6.out, HP5.out, hb15⟩
    case round =>
      clear hb15 HO G6 HP5
      obtain ⟨i, hi, rfl, ho, h6, hP, hbel⟩ := hrel
      have c0 := hP.c0
      have c1 := hP.c1
      have HP := Lib.hid hP
      have G6 := Lib.hid h6
      clear hP h6
      by_cases hlt : (i : Int) < (ends ps).length
      · have hi' : i < nL := by have := HnL.out; omega
        obtain ⟨b6, o6, rfl, hc6⟩ := G6.out.at (i := i) (Below.refl _ _) (by omega)
        obtain ⟨e, he, hee, hei⟩ := end_nth (ps := ps) (i := i) (by omega)
        rw [hei] at hc6
        have heN : e < nW := by have := Hl.out; omega
        obtain ⟨bL, oL, rfl, hcL⟩ := HL0.out.at (i := i) hbel hi'
        rw [Hv.out i e hi' hei] at hcL
        obtain ⟨bW, oW, rfl, hcW⟩ := H.out.w.at (i := e) hbel heN
        have hne : b6 ≠ g5 := P6.out _ rfl
        have hkl : (totK ps ws V i).length = nW := by rw [totK_length]; exact Hl.out
        have d1 := ho.cell (i := e) (by omega)
        have f1 := ho.free hkl.symm e
        have hset := Own.set (w := wr.drew) ho hkl.symm e (nth ws e * V e)
        rw [← totK_succ (by omega) he hei] at hset
        have Hset := Lib.hid hset
        have hve := HV.out e
        have hwe := HTT.out.w0 e
        have hpr := mul_abs (B := 2997) (U := 20) hve hwe (by omega)
        rw [Int.mul_comm (V e) (nth ws e)] at hpr
        have hgw : g5 ≠ w.heap.size := by omega
        have HPn := Lib.hid (Pair.far (w := wr.drew) HP.out.drew (b := g5) (i := e) hgw (.int .i64 (nth ws e * V e)))
        have G6n := Lib.hid (Ints.away (w := wr.drew) (G6.out.below (Below.refl _ _).drew) (g := g5) (i := e) (fun p hp => by cases hp; exact hne) (.int .i64 (nth ws e * V e)))
        clear hset hei hee hkl ho
        generalize hz1 : nth (totK ps ws V i) e = z1 at *
        generalize hz2 : nth ws e = we at *
        generalize hz3 : V e = ve at *
        clear hz1 hz2 hz3
        have s0 : IntKind.i64.wrap (we * ve) = we * ve := IntWalk.i64_in _ (by omega)
        have s1 : (0 : Int) ≤ (e : Int) := by omega
        have s2 : (e : Int) < (nW : Int) := by omega
        have s3 : (0 : Int) ≤ (i : Int) := by omega
        have s4 : (i : Int) < (nL : Int) := by omega
        go_wp2_with fail
        refine wp_region_still_tail 19 (by kernel_rfl) (by kernel_rfl) ?_
        simp only [List.take_succ_cons, List.take_zero, List.drop_succ_cons, List.drop_zero]
        still_step
        still_step
        still_step
        still_step
        still_step
        still_step
        still_step
        still_step
        still_step
        still_step
        still_step
        still_step
        still_step
        still_step
        still_step
        still_step
        still_step
        still_step
        still_step
        refine wpStill_nil ?_
        change wpList _ _ _ _ _ wr.drew
        go_wp2_with fail
        go_roundw
        case rel => exact ⟨i + 1, by omega, by go_num, Hset.out, G6n.out, HPn.out, hbel.drew.setCell (show w.heap.size ≤ g5 by omega) _⟩
        case measure => simp [intOf]; omega
      · obtain rfl : i = nL := by have := HnL.out; omega
        have Hcl0 : Hid ((totK ps ws V i).length = nW) := Lib.hid (by rw [totK_length]; exact Hl.out)
        have Hka := Lib.hid (totK_abs HTT.out HV.out i)
        obtain ⟨G, hG⟩ : ∃ G, G = totA ps ws V := ⟨_, rfl⟩
        obtain ⟨l2, hl2⟩ : ∃ l2, l2 = totK ps ws V i := ⟨_, rfl⟩
        obtain ⟨B, hBB⟩ : ∃ B : Int, B = 59940 := ⟨_, rfl⟩
        have hB : 0 ≤ B ∧ B ≤ 1000000000 := by omega
        have HG : Hid (gath ps (nW - 1) l2 = G) := Lib.hid (by rw [hG, hl2, totA, gathA, Hl.out, HnL.out])
        have HLL : Hid (l2.length = nW) := Lib.hid (by rw [hl2]; exact Hcl0.out)
        have HA : Hid (Abs2 B l2) := Lib.hid (by rw [hl2, hBB]; exact Hka.out)
        rw [← hl2] at ho
        have HGt : Hid (totA ps ws V = G) := Lib.hid hG.symm
        have HO := Lib.hid ho
        clear hG hl2 hBB ho c0 c1
        have c0 := HP.out.c0
        have c1 := HP.out.c1
        go_wp2_with fail
        go_loopw [8] (fun v wr => ∃ (k : Nat) (cur : List Int) (C : Int), k < nW ∧ v = .int .i64 (k : Int) ∧ cur.length = nW ∧ gath ps k cur = G ∧ 0 ≤ C ∧ C * 2 ^ k ≤ B * 8388608 ∧ Abs2 C cur ∧ Own wr U (.slice (some ⟨g5, 0, none⟩) nW nW) cur ∧ Pair wr w.heap.size (.slice aP nW cP) (.slice aW nW cW) ∧ Below w.heap.size w wr) (fun v _ => (intOf v).toNat)
        case atStart => exact ⟨nW - 1, l2, B, by omega, vi (by omega), HLL.out, HG.out, hB.1, pow_start hB.1 (by omega), HA.out, HO.out, HP.out, hbel⟩
        case round =>
          clear hbel HP HO G6
          obtain ⟨k, cur, C, hk, rfl, hcl, hcg, hC0, hC1, hCa, hown, hP, hbel⟩ := hrel
          have c0 := hP.c0
          have c1 := hP.c1
          have HPk := Lib.hid hP
          have Hcl := Lib.hid hcl
          clear hP hcl
          by_cases hlt : (k : Int) > 0
          · obtain ⟨K, rfl⟩ : ∃ K : Nat, k = K + 1 := ⟨k - 1, by omega⟩
            obtain ⟨bP, oP, rfl, hc⟩ := H.out.p.at (i := K + 1) hbel (by omega)
            have hup := HTT.out.toPa.upN (x := K + 1) (by omega) (by have := Hl.out; omega)
            rw [hup.1] at hc
            have hpl := hup.2
            have hstep : gath ps K (cur.set (par ps (K + 1)) (nth cur (par ps (K + 1)) + nth cur (K + 1))) = G := hcg
            have hCb := pow_bd hB.2 hC0 hC1
            have hCs := pow_step (k := K) hC1
            have habs := gath_bd2 (k := K + 1) hCa (show par ps (K + 1) < cur.length by have := Hcl.out; omega)
            have hlen2 : (cur.set (par ps (K + 1)) (nth cur (par ps (K + 1)) + nth cur (K + 1))).length = nW := by rw [List.length_set]; exact Hcl.out
            clear hup hcg
            generalize par ps (K + 1) = p at *
            have d1 := hown.cell (i := p) (by have := Hcl.out; omega)
            have d2 := hown.cell (i := K + 1) (by have := Hcl.out; omega)
            have f1 := hown.free Hcl.out.symm p
            have hset := Own.set (w := wr.drew) hown Hcl.out.symm p (nth cur p + nth cur (K + 1))
            have q1 := hCa p
            have q2 := hCa (K + 1)
            generalize hz1 : nth cur p = z1 at *
            generalize hz2 : nth cur (K + 1) = z2 at *
            have Hset := Lib.hid hset
            have Hown := Lib.hid hown
            have Hstep := Lib.hid hstep
            have Habs := Lib.hid habs
            have Hlen2 := Lib.hid hlen2
            have HCa := Lib.hid hCa
            have HCs := Lib.hid hCs
            have HCC := Lib.hid hC1
            have HPn := Lib.hid (Pair.far (w := wr.drew) HPk.out.drew (b := g5) (i := p) (show g5 ≠ w.heap.size by omega) (.int .i64 (z1 + z2)))
            clear hset hown hstep habs hz1 hz2 hlen2 hCa hCs hC1
            have s0 : IntKind.i64.wrap (z1 + z2) = z1 + z2 := IntWalk.i64_in _ (by omega)
            have s1 : (0 : Int) ≤ (p : Int) := by omega
            have s2 : (p : Int) < (nW : Int) := by omega
            have s3 : (0 : Int) ≤ ((K + 1 : Nat) : Int) := by omega
            have s4 : ((K + 1 : Nat) : Int) < (nW : Int) := by omega
            have s5 : (0 : Int) ≤ (K : Int) + 1 := by omega
            have s6 : (K : Int) + 1 < (nW : Int) := by omega
            clear hCb
            go_wp2_with fail
            refine wp_region_still_tail 20 (by kernel_rfl) (by kernel_rfl) ?_
            simp only [List.take_succ_cons, List.take_zero, List.drop_succ_cons, List.drop_zero]
            still_step
            still_step
            still_step
            still_step
            still_step
            still_step
            still_step
            still_step
            still_step
            still_step
            still_step
            still_step
            still_step
            still_step
            still_step
            still_step
            still_step
            still_step
            still_step
            still_step
            refine wpStill_nil ?_
            change wpList _ _ _ _ _ wr.drew
            go_wp2_with fail
            go_roundw
            case rel => exact ⟨K, _, 2 * C, by omega, vi (by omega), Hlen2.out, Hstep.out, by omega, HCs.out, Habs.out, Hset.out, HPn.out, hbel.drew.setCell (show w.heap.size ≤ g5 by omega) _⟩
            case measure => simp [intOf]
          · obtain rfl : k = 0 := by omega
            have hfin : cur = G := hcg
            rw [hfin] at hown
            go_wp2_with fail
            go_ret
            exact ⟨_, rfl, by rw [HGt.out]; exact hown.mono (by omega), hbel⟩

end Go.Proofs.Ytnbomleieianoaa

/- Contracts: the means at the nodes, by the reference. -/
namespace Go.Proofs.Ytnbomleieianoaa
open Go.RowKit

namespace Fr
/-- The same behind a call of the region. -/
theorem step_push3 {ops : Array Oper} {o : Oper} {a : Act} {K : Act → World → Prop} {Q : Exit → Act → World → Prop} {E : Prop} {w : World} {x1 x2 : Int} (hgd : o.guard = none) (s x : Operand)
    (ho : o.op = .call { callee := .builtin .append, args := #[s, x], argTypes := #[42, 42] })
    (base : Nat) (v : Value) (xs : List (Int × Int)) (hs : a.eval s = v) (hown : Own w base v xs) (hx : a.eval x = .slice (some ⟨w.heap.size, 0, none⟩) 1 1)
    (hl : xs.length ≤ 1048576) (hb : base ≤ w.heap.size)
    (h : ∀ v' w', Own w' base v' (xs ++ [(x1, x2)]) → Below base w w' → Moved w v w' v' → K (a.put o.dst v') w') :
    if Region.wanted o (yielded ops a.tmps) = true then Oper.wp Try.prog o a (w.alloc (.cells #[.int .i64 x1, .int .i64 x2] 48)) K Q else E := by
  obtain ⟨i0, hi0, hz0, hz1, hz2⟩ := info_parts
  refine step_append_lies _ hgd s x 42 ho base 48 i0 (.agg #[.int .i64 0, .int .i64 0]) 2 16 Try.underlying42 hi0 hz0 hz1 hz2 rfl (by decide) v xs.length (fs xs) hs
    (hown.below ((Below.refl _ _).alloc (Nat.le_refl _) _)) ⟨w.heap.size, 0, none⟩ 1 1 [.int .i64 x1, .int .i64 x2] hx rfl
    (World.news_of_block (cs := #[.int .i64 x1, .int .i64 x2]) (t := 48) (fr := (0, 0)) (heap_alloc_new w _)) (by simp [Value.oneCell']) (by decide) (by simp only [maxLen]; omega) (by omega) (by simp; omega) (w.heap.size + 1) (by simp) ?_
  intro g cap w' h1 h2 h3 _
  have hdb : Below w.heap.size w (w.alloc (.cells #[.int .i64 x1, .int .i64 x2] 48)) := ((Below.refl _ _).alloc (Nat.le_refl _) _)
  refine h _ w' ?_ ?_ ⟨Nat.le_trans hdb.size h2.size, fun b hb' hne => ⟨fun e => ?_, ?_⟩⟩
  · unfold Own
    rw [← fs_append, List.length_append]; exact h1
  · exact (((Below.refl base w).alloc hb _)).grown h2 (by simp; omega) fun k hk => (World.ownsRow.lt hown k hk).1
  · simp [Value.ownBlock] at e
    rcases h3 with h3 | h3
    · rw [h3, e] at hne; exact hne rfl
    · omega
  · have := h2.block b (Nat.lt_of_lt_of_le hb' hdb.size) (fun e => hne e.symm)
    rw [this]; exact hdb.block b hb'
end Fr
/-- The means at the nodes. -/
def meanL (ps ws : List Int) (V : Nat → Int) : List (Int × Int) := (List.range ps.length).map fun x => (nm (nth (totA ps ws V) x) (nth (sums ps ws) x), dn (nth (totA ps ws V) x) (nth (sums ps ws) x))
theorem meanL_length (ps ws : List Int) (V : Nat → Int) : (meanL ps ws V).length = ps.length := by simp [meanL]
theorem meanL_take (ps ws : List Int) (V : Nat → Int) {x : Nat} (hx : x < ps.length) : (meanL ps ws V).take (x + 1) = (meanL ps ws V).take x ++ [(nm (nth (totA ps ws V) x) (nth (sums ps ws) x), dn (nth (totA ps ws V) x) (nth (sums ps ws) x))] := by
  rw [List.take_succ_eq_append_getElem (by rw [meanL_length]; exact hx)]
  simp [meanL]
theorem meanL_root {ps ws : List Int} {V : Nat → Int} (h : 0 < ps.length) : Fr.at1 (meanL ps ws V) 0 = nm (nth (totA ps ws V) 0) (nth (sums ps ws) 0) ∧ Fr.at2 (meanL ps ws V) 0 = dn (nth (totA ps ws V) 0) (nth (sums ps ws) 0) := by
  constructor
  · rw [Fr.at1, meanL]; simp [List.getD, h]
  · rw [Fr.at2, meanL]; simp [List.getD, h]
/-- No pairs, sums and totals, just made, apart from each other. -/
def MeanR (u wc : World) (n : Nat) (s t : List Int) (v5 v6 v7 : Value) : Prop :=
  KeepR u wc ∧ ∃ (g5 : Nat) (a6 : Option Addr) (c6 : Nat) (a7 : Option Addr) (c7 : Nat), v5 = .slice (some ⟨g5, 0, none⟩) 0 0 ∧ v6 = .slice a6 n c6 ∧ v7 = .slice a7 n c7 ∧ Fr.Own wc u.heap.size v5 [] ∧ Ints wc a6 n s ∧ Ints wc a7 n t ∧ Apart a6 v5 ∧ Apart a7 v5
theorem mean_mk {u wc : World} {n : Nat} {s t : List Int} {v6 v7 : Value} {b5 b6 b7 g5 : Nat} (hk : KeepR u wc) (hs : s.length = n) (ht : t.length = n) (h5 : Fr.Own wc b5 (.slice (some ⟨g5, 0, none⟩) 0 0) []) (hb : u.heap.size ≤ b5) (h6 : Own wc b6 v6 s) (h7 : Own wc b7 v7 t)
    (s6 : ∀ q, v6.ownBlock = some q → q ≠ g5) (s7 : ∀ q, v7.ownBlock = some q → q ≠ g5) : MeanR u wc n s t (.slice (some ⟨g5, 0, none⟩) 0 0) v6 v7 := by
  obtain ⟨a6, c6, rfl⟩ := h6.shape
  obtain ⟨a7, c7, rfl⟩ := h7.shape
  rw [hs] at h6 s6 ⊢
  rw [ht] at h7 s7 ⊢
  refine ⟨hk, g5, a6, c6, a7, c7, rfl, rfl, rfl, h5.mono hb, h6.ints, h7.ints, fun p hp e => ?_, fun p hp e => ?_⟩
  · subst hp
    simp [Value.ownBlock] at e
    exact s6 _ rfl e.symm
  · subst hp
    simp [Value.ownBlock] at e
    exact s7 _ rfl e.symm
set_option maxRecDepth 100000 in
set_option maxHeartbeats 2000000 in
theorem spec_l2Means (aP : Option Addr) (nP cP : Nat) (aW : Option Addr) (nW cW : Nat) (ps ws : List Int) (aL : Option Addr) (nL cL : Nat) (l : List Int) (V : Nat → Int) (w : World) (h : Tre w aP nP cP aW nW cW ps ws) (hT : Tr ps ws) (hL : Ints w aL nL l) (hnL : (ends ps).length = nL) (hv : ∀ i e : Nat, i < nL → nth (ends ps) i = (e : Int) → nth l i = V e) (hV : ∀ x, -2997 ≤ V x ∧ V x ≤ 2997) :
    Calls Try.prog 109 #[.agg #[.slice aP nP cP, .slice aW nW cW], .slice aL nL cL] w fun e w' => ∃ v, e = .returned v ∧ Fr.Own w' w.heap.size v (meanL ps ws V) ∧ Below w.heap.size w w' := by
  have HTT := Lib.hid hT
  have hn24 := hT.n24
  have hn1 := hT.n1
  have HT := Lib.hid hT
  have hwl := hT.wl
  have hl := h.p.1
  have hlw := h.w.1
  have hpn := h.pn
  have hwn := h.wn
  have hb1 := below_new w (.cells #[.slice aP nP cP, .slice aW nW cW] 26)
  have hP1 := Lib.hid (Pair.new w (.slice aP nP cP) (.slice aW nW cW) 26)
  have H := Lib.hid h
  have Hl := Lib.hid hl
  have Hlw := Lib.hid hlw
  clear h hl hlw
  have hnW : nW ≤ nP ∧ nP ≤ nW := by have := Hlw.out; have := Hl.out; omega
  have hnP : 1 ≤ nP ∧ nP ≤ 24 := by have := Hl.out; omega
  clear hn24 hn1 hT hwl hpn hwn
  have HL0 := Lib.hid hL
  have Hv := Lib.hid hv
  have HV := Lib.hid hV
  have HnL := Lib.hid hnL
  have hnP : 1 ≤ nP ∧ nP ≤ 24 := by have := HTT.out.n24; have := HTT.out.n1; have := Hl.out; omega
  clear hL hv hV hnL
  have Hsl : Hid ((sums ps ws).length = nP) := Lib.hid (by rw [sums_length HTT.out]; exact Hl.out)
  have Htl : Hid ((totA ps ws V).length = nP) := Lib.hid (by rw [totA_length]; exact Hl.out)
  go_enter Try.func109, Try.ntmps109
  have c0 := hP1.out.c0
  have c1 := hP1.out.c1
  go_upto_region 1 with fail
  generalize (w.alloc (.cells #[.slice aP nP cP, .slice aW nW cW] 26)) = w2 at *
  go_cut [5, 6, 7] (fun v5 v6 v7 wc => MeanR w2 wc nP (sums ps ws) (totA ps ws V) v5 v6 v7)
  case first =>
    refine wp_region_noPanic ?_
    refine wp_region_held_drew (S := fun W' => KeepR w2 W' ∧ W'.cell? ⟨w.heap.size, 0, none⟩ = some (.slice aP nP cP) ∧ W'.cell? ⟨w.heap.size, 1, none⟩ = some (.slice aW nW cW)) (by kernel_rfl) ?_ (fun hHeld0 => ?_)
    · (try dsimp only); first | exact keep2 (by assumption) hP1.out | exact keep2 (KeepR.start _) hP1.out | exact keep2 (KeepR.alloc0 _ _) hP1.out | exact keep2 (KeepR.alloc (by assumption : KeepR w2 _ ∧ _).1 _) hP1.out
    refine takeH (i := 1) (oi := _) (v := ?_) rfl (by kernel_rfl) (by kernel_rfl) (by kernel_rfl) (fun _ _ _ h => h) (Or.inl ⟨by rfl, ?_⟩) (by assumption) ?_
    rotate_left
    · first | (intro w hSw; (try dsimp only at hSw); go_simp; done) | (intro w hSw; (try dsimp only at hSw); go_simp; with_reducible rfl)
    (try simp only [Act.put, List.setIfInBounds_toArray, List.set_cons_zero, List.set_cons_succ])
    refine takeH (i := 3) (oi := _) (v := ?_) rfl (by kernel_rfl) (by kernel_rfl) (by kernel_rfl) (fun _ _ _ h => h) (Or.inl ⟨by rfl, ?_⟩) (by assumption) ?_
    rotate_left
    · first | (intro w hSw; (try dsimp only at hSw); go_simp; done) | (intro w hSw; (try dsimp only at hSw); go_simp; with_reducible rfl)
    (try simp only [Act.put, List.setIfInBounds_toArray, List.set_cons_zero, List.set_cons_succ])
    refine takeH (i := 4) (oi := _) (v := ?_) rfl (by kernel_rfl) (by kernel_rfl) (by kernel_rfl) (fun _ _ _ h => h) (Or.inl ⟨by rfl, ?_⟩) (by assumption) ?_
    rotate_left
    · first | (intro w hSw; (try dsimp only at hSw); go_simp; done) | (intro w hSw; (try dsimp only at hSw); go_simp; with_reducible rfl)
    (try simp only [Act.put, List.setIfInBounds_toArray, List.set_cons_zero, List.set_cons_succ])
    refine wpAnyH_ready (rs := [0, 2]) (by kernel_rfl) (by simp) ?_
    refine consM rfl (fun Kq hKq => ?_) (consH rfl (fun Kq hKq => ?_))
    · go_simp
      refine hKq.out _ _ ?_ (fun hHeld1 => ?_)
      · (try dsimp only); first | exact keep2 (by assumption) hP1.out | exact keep2 (KeepR.start _) hP1.out | exact keep2 (KeepR.alloc0 _ _) hP1.out | exact keep2 (KeepR.alloc (by assumption : KeepR w2 _ ∧ _).1 _) hP1.out
      clear hKq Kq
      (try simp only [Act.put, List.setIfInBounds_toArray, List.set_cons_zero, List.set_cons_succ])
      clear hHeld0
      refine wpAnyH_ready (rs := [2]) (by kernel_rfl) (by simp) ?_
      refine consH rfl (fun Kq hKq => ?_)
      go_simp
      (go_at_call 127; refine (spec_l2Sums _ _ _ _ _ _ ps ws _ (H.out.below (hb1.trans (Below.mono (by assumption : KeepR w2 _ ∧ _).1 hb1.size))) HTT.out).mono ?_; rintro e w5 ⟨v5, rfl, o5, b5⟩; have hk5 := KeepR.next b5 (by assumption : KeepR w2 _ ∧ _).1)
      refine hKq.out _ _ ?_ (fun hHeld2 => ?_)
      · (try dsimp only); first | exact keep2 (by assumption) hP1.out | exact keep2 (KeepR.start _) hP1.out | exact keep2 (KeepR.alloc0 _ _) hP1.out | exact keep2 (KeepR.alloc (by assumption : KeepR w2 _ ∧ _).1 _) hP1.out
      clear hKq Kq
      (try simp only [Act.put, List.setIfInBounds_toArray, List.set_cons_zero, List.set_cons_succ])
      clear hHeld1
      refine wpAnyH_ready (rs := [5]) (by kernel_rfl) (by simp) ?_
      refine consH rfl (fun Kq hKq => ?_)
      go_simp
      (go_at_call 156; refine (spec_l2Totals _ _ _ _ _ _ ps ws _ _ _ l V _ (H.out.below (hb1.trans (Below.mono (by assumption : KeepR w2 _ ∧ _).1 hb1.size))) HTT.out (HL0.out.below (hb1.trans (Below.mono (by assumption : KeepR w2 _ ∧ _).1 hb1.size))) HnL.out Hv.out HV.out).mono ?_; rintro e w6 ⟨v6, rfl, o6, b6⟩; have hk6 := KeepR.next b6 (by assumption : KeepR w2 _ ∧ _).1)
      refine hKq.out _ _ ?_ (fun hHeld3 => ?_)
      · (try dsimp only); first | exact keep2 (by assumption) hP1.out | exact keep2 (KeepR.start _) hP1.out | exact keep2 (KeepR.alloc0 _ _) hP1.out | exact keep2 (KeepR.alloc (by assumption : KeepR w2 _ ∧ _).1 _) hP1.out
      clear hKq Kq
      (try simp only [Act.put, List.setIfInBounds_toArray, List.set_cons_zero, List.set_cons_succ])
      clear hHeld2
      refine takeH (i := 6) (oi := _) (v := ?_) rfl (by kernel_rfl) (by kernel_rfl) (by kernel_rfl) (fun _ _ _ h => h) (Or.inl ⟨by rfl, ?_⟩) (by assumption) ?_
      rotate_left
      · first | (intro w hSw; (try dsimp only at hSw); go_simp; done) | (intro w hSw; (try dsimp only at hSw); go_simp; with_reducible rfl)
      (try simp only [Act.put, List.setIfInBounds_toArray, List.set_cons_zero, List.set_cons_succ])
      refine takeH (i := 7) (oi := _) (v := ?_) rfl (by kernel_rfl) (by kernel_rfl) (by kernel_rfl) (fun _ _ _ h => h) (Or.inl ⟨by rfl, ?_⟩) (by assumption) ?_
      rotate_left
      · first | (intro w hSw; (try dsimp only at hSw); go_simp; done) | (intro w hSw; (try dsimp only at hSw); go_simp; with_reducible rfl)
      (try simp only [Act.put, List.setIfInBounds_toArray, List.set_cons_zero, List.set_cons_succ])
      refine takeH (i := 8) (oi := _) (v := ?_) rfl (by kernel_rfl) (by kernel_rfl) (by kernel_rfl) (fun _ _ _ h => h) (Or.inl ⟨by rfl, ?_⟩) (by assumption) ?_
      rotate_left
      · first | (intro w hSw; (try dsimp only at hSw); go_simp; done) | (intro w hSw; (try dsimp only at hSw); go_simp; with_reducible rfl)
      (try simp only [Act.put, List.setIfInBounds_toArray, List.set_cons_zero, List.set_cons_succ])
      refine wpAnyH_done (by kernel_rfl) ?_ _
      refine NoPanic.normal ?_
      go_wp2_with fail
      go_meet
      first
        | exact mean_mk hk6 Hsl.out Htl.out ((((Fr.own_nil0 w2).below (Below.refl _ _).drew).below b5).below b6) (Nat.le_refl _) (o5.below b6) o6 (fun q hq => by have := (World.ownsRow.lt o5 q hq).1; simp at this; omega) (fun q hq => by have := (World.ownsRow.lt o6 q hq).1; have := b5.size; simp at this; omega)
        | exact mean_mk hk6 Hsl.out Htl.out ((Fr.own_nil0 w5).below b6) (Below.size hk5) ((o5.below (below_new w5 _)).below b6) o6 (fun q hq => by have := (World.ownsRow.lt o5 q hq).2; omega) (fun q hq => by have := (World.ownsRow.lt o6 q hq).1; simp at this; omega)
        | exact mean_mk (KeepR.alloc hk6 _) Hsl.out Htl.out (Fr.own_nil0 w6) (Below.size hk6) ((o5.below b6).below (below_new w6 _)) (o6.below (below_new w6 _)) (fun q hq => by have := (World.ownsRow.lt (o5.below b6) q hq).2; omega) (fun q hq => by have := (World.ownsRow.lt o6 q hq).2; omega)
    · go_simp
      (go_at_call 127; refine (spec_l2Sums _ _ _ _ _ _ ps ws _ (H.out.below (hb1.trans (Below.mono (by assumption : KeepR w2 _ ∧ _).1 hb1.size))) HTT.out).mono ?_; rintro e w5 ⟨v5, rfl, o5, b5⟩; have hk5 := KeepR.next b5 (by assumption : KeepR w2 _ ∧ _).1)
      refine hKq.out _ _ ?_ (fun hHeld1 => ?_)
      · (try dsimp only); first | exact keep2 (by assumption) hP1.out | exact keep2 (KeepR.start _) hP1.out | exact keep2 (KeepR.alloc0 _ _) hP1.out | exact keep2 (KeepR.alloc (by assumption : KeepR w2 _ ∧ _).1 _) hP1.out
      clear hKq Kq
      (try simp only [Act.put, List.setIfInBounds_toArray, List.set_cons_zero, List.set_cons_succ])
      clear hHeld0
      refine wpAnyH_ready (rs := [0, 5]) (by kernel_rfl) (by simp) ?_
      refine consM rfl (fun Kq hKq => ?_) (consH rfl (fun Kq hKq => ?_))
      · go_simp
        refine hKq.out _ _ ?_ (fun hHeld2 => ?_)
        · (try dsimp only); first | exact keep2 (by assumption) hP1.out | exact keep2 (KeepR.start _) hP1.out | exact keep2 (KeepR.alloc0 _ _) hP1.out | exact keep2 (KeepR.alloc (by assumption : KeepR w2 _ ∧ _).1 _) hP1.out
        clear hKq Kq
        (try simp only [Act.put, List.setIfInBounds_toArray, List.set_cons_zero, List.set_cons_succ])
        clear hHeld1
        refine wpAnyH_ready (rs := [5]) (by kernel_rfl) (by simp) ?_
        refine consH rfl (fun Kq hKq => ?_)
        go_simp
        (go_at_call 156; refine (spec_l2Totals _ _ _ _ _ _ ps ws _ _ _ l V _ (H.out.below (hb1.trans (Below.mono (by assumption : KeepR w2 _ ∧ _).1 hb1.size))) HTT.out (HL0.out.below (hb1.trans (Below.mono (by assumption : KeepR w2 _ ∧ _).1 hb1.size))) HnL.out Hv.out HV.out).mono ?_; rintro e w6 ⟨v6, rfl, o6, b6⟩; have hk6 := KeepR.next b6 (by assumption : KeepR w2 _ ∧ _).1)
        refine hKq.out _ _ ?_ (fun hHeld3 => ?_)
        · (try dsimp only); first | exact keep2 (by assumption) hP1.out | exact keep2 (KeepR.start _) hP1.out | exact keep2 (KeepR.alloc0 _ _) hP1.out | exact keep2 (KeepR.alloc (by assumption : KeepR w2 _ ∧ _).1 _) hP1.out
        clear hKq Kq
        (try simp only [Act.put, List.setIfInBounds_toArray, List.set_cons_zero, List.set_cons_succ])
        clear hHeld2
        refine takeH (i := 6) (oi := _) (v := ?_) rfl (by kernel_rfl) (by kernel_rfl) (by kernel_rfl) (fun _ _ _ h => h) (Or.inl ⟨by rfl, ?_⟩) (by assumption) ?_
        rotate_left
        · first | (intro w hSw; (try dsimp only at hSw); go_simp; done) | (intro w hSw; (try dsimp only at hSw); go_simp; with_reducible rfl)
        (try simp only [Act.put, List.setIfInBounds_toArray, List.set_cons_zero, List.set_cons_succ])
        refine takeH (i := 7) (oi := _) (v := ?_) rfl (by kernel_rfl) (by kernel_rfl) (by kernel_rfl) (fun _ _ _ h => h) (Or.inl ⟨by rfl, ?_⟩) (by assumption) ?_
        rotate_left
        · first | (intro w hSw; (try dsimp only at hSw); go_simp; done) | (intro w hSw; (try dsimp only at hSw); go_simp; with_reducible rfl)
        (try simp only [Act.put, List.setIfInBounds_toArray, List.set_cons_zero, List.set_cons_succ])
        refine takeH (i := 8) (oi := _) (v := ?_) rfl (by kernel_rfl) (by kernel_rfl) (by kernel_rfl) (fun _ _ _ h => h) (Or.inl ⟨by rfl, ?_⟩) (by assumption) ?_
        rotate_left
        · first | (intro w hSw; (try dsimp only at hSw); go_simp; done) | (intro w hSw; (try dsimp only at hSw); go_simp; with_reducible rfl)
        (try simp only [Act.put, List.setIfInBounds_toArray, List.set_cons_zero, List.set_cons_succ])
        refine wpAnyH_done (by kernel_rfl) ?_ _
        refine NoPanic.normal ?_
        go_wp2_with fail
        go_meet
        first
          | exact mean_mk hk6 Hsl.out Htl.out ((((Fr.own_nil0 w2).below (Below.refl _ _).drew).below b5).below b6) (Nat.le_refl _) (o5.below b6) o6 (fun q hq => by have := (World.ownsRow.lt o5 q hq).1; simp at this; omega) (fun q hq => by have := (World.ownsRow.lt o6 q hq).1; have := b5.size; simp at this; omega)
          | exact mean_mk hk6 Hsl.out Htl.out ((Fr.own_nil0 w5).below b6) (Below.size hk5) ((o5.below (below_new w5 _)).below b6) o6 (fun q hq => by have := (World.ownsRow.lt o5 q hq).2; omega) (fun q hq => by have := (World.ownsRow.lt o6 q hq).1; simp at this; omega)
          | exact mean_mk (KeepR.alloc hk6 _) Hsl.out Htl.out (Fr.own_nil0 w6) (Below.size hk6) ((o5.below b6).below (below_new w6 _)) (o6.below (below_new w6 _)) (fun q hq => by have := (World.ownsRow.lt (o5.below b6) q hq).2; omega) (fun q hq => by have := (World.ownsRow.lt o6 q hq).2; omega)
      · go_simp
        (go_at_call 156; refine (spec_l2Totals _ _ _ _ _ _ ps ws _ _ _ l V _ (H.out.below (hb1.trans (Below.mono (by assumption : KeepR w2 _ ∧ _).1 hb1.size))) HTT.out (HL0.out.below (hb1.trans (Below.mono (by assumption : KeepR w2 _ ∧ _).1 hb1.size))) HnL.out Hv.out HV.out).mono ?_; rintro e w6 ⟨v6, rfl, o6, b6⟩; have hk6 := KeepR.next b6 (by assumption : KeepR w2 _ ∧ _).1)
        refine hKq.out _ _ ?_ (fun hHeld2 => ?_)
        · (try dsimp only); first | exact keep2 (by assumption) hP1.out | exact keep2 (KeepR.start _) hP1.out | exact keep2 (KeepR.alloc0 _ _) hP1.out | exact keep2 (KeepR.alloc (by assumption : KeepR w2 _ ∧ _).1 _) hP1.out
        clear hKq Kq
        (try simp only [Act.put, List.setIfInBounds_toArray, List.set_cons_zero, List.set_cons_succ])
        clear hHeld1
        refine wpAnyH_ready (rs := [0]) (by kernel_rfl) (by simp) ?_
        refine consH rfl (fun Kq hKq => ?_)
        go_simp
        refine hKq.out _ _ ?_ (fun hHeld3 => ?_)
        · (try dsimp only); first | exact keep2 (by assumption) hP1.out | exact keep2 (KeepR.start _) hP1.out | exact keep2 (KeepR.alloc0 _ _) hP1.out | exact keep2 (KeepR.alloc (by assumption : KeepR w2 _ ∧ _).1 _) hP1.out
        clear hKq Kq
        (try simp only [Act.put, List.setIfInBounds_toArray, List.set_cons_zero, List.set_cons_succ])
        clear hHeld2
        refine takeH (i := 6) (oi := _) (v := ?_) rfl (by kernel_rfl) (by kernel_rfl) (by kernel_rfl) (fun _ _ _ h => h) (Or.inl ⟨by rfl, ?_⟩) (by assumption) ?_
        rotate_left
        · first | (intro w hSw; (try dsimp only at hSw); go_simp; done) | (intro w hSw; (try dsimp only at hSw); go_simp; with_reducible rfl)
        (try simp only [Act.put, List.setIfInBounds_toArray, List.set_cons_zero, List.set_cons_succ])
        refine takeH (i := 7) (oi := _) (v := ?_) rfl (by kernel_rfl) (by kernel_rfl) (by kernel_rfl) (fun _ _ _ h => h) (Or.inl ⟨by rfl, ?_⟩) (by assumption) ?_
        rotate_left
        · first | (intro w hSw; (try dsimp only at hSw); go_simp; done) | (intro w hSw; (try dsimp only at hSw); go_simp; with_reducible rfl)
        (try simp only [Act.put, List.setIfInBounds_toArray, List.set_cons_zero, List.set_cons_succ])
        refine takeH (i := 8) (oi := _) (v := ?_) rfl (by kernel_rfl) (by kernel_rfl) (by kernel_rfl) (fun _ _ _ h => h) (Or.inl ⟨by rfl, ?_⟩) (by assumption) ?_
        rotate_left
        · first | (intro w hSw; (try dsimp only at hSw); go_simp; done) | (intro w hSw; (try dsimp only at hSw); go_simp; with_reducible rfl)
        (try simp only [Act.put, List.setIfInBounds_toArray, List.set_cons_zero, List.set_cons_succ])
        refine wpAnyH_done (by kernel_rfl) ?_ _
        refine NoPanic.normal ?_
        go_wp2_with fail
        go_meet
        first
          | exact mean_mk hk6 Hsl.out Htl.out ((((Fr.own_nil0 w2).below (Below.refl _ _).drew).below b5).below b6) (Nat.le_refl _) (o5.below b6) o6 (fun q hq => by have := (World.ownsRow.lt o5 q hq).1; simp at this; omega) (fun q hq => by have := (World.ownsRow.lt o6 q hq).1; have := b5.size; simp at this; omega)
          | exact mean_mk hk6 Hsl.out Htl.out ((Fr.own_nil0 w5).below b6) (Below.size hk5) ((o5.below (below_new w5 _)).below b6) o6 (fun q hq => by have := (World.ownsRow.lt o5 q hq).2; omega) (fun q hq => by have := (World.ownsRow.lt o6 q hq).1; simp at this; omega)
          | exact mean_mk (KeepR.alloc hk6 _) Hsl.out Htl.out (Fr.own_nil0 w6) (Below.size hk6) ((o5.below b6).below (below_new w6 _)) (o6.below (below_new w6 _)) (fun q hq => by have := (World.ownsRow.lt (o5.below b6) q hq).2; omega) (fun q hq => by have := (World.ownsRow.lt o6 q hq).2; omega)
  case rest =>
    obtain ⟨hk5, g5, a6, c6, a7, c7, rfl, rfl, rfl, o5, i6, i7, p6, p7⟩ := hcut
    have hk5b : Below w2.heap.size w2 wc := hk5
    have hb15 := hb1.trans (hk5b.mono hb1.size)
    have HO := Lib.hid o5
    have G6 := Lib.hid i6
    have G7 := Lib.hid i7
    have P6 := Lib.hid p6
    have P7 := Lib.hid p7
    have HP5 := Lib.hid (hP1.out.below hk5b)
    have hw2 : w.heap.size < w2.heap.size := hP1.out.lt
    have hw2c : w2.heap.size ≤ wc.heap.size := hk5b.size
    have Hta := Lib.hid (totA_abs HTT.out HV.out)
    clear hk5 hk5b o5 i6 i7 p6 p7 hP1 hb1 c0 c1
    generalize hU : w2.heap.size = U at *
    clear hU
    go_wp2_with fail
    go_loopw [5, 8] (fun v5 v8 wr => ∃ x : Nat, x ≤ nP ∧ v8 = .int .i64 (x : Int) ∧ Fr.Own wr U v5 ((meanL ps ws V).take x) ∧ Ints wr a6 nP (sums ps ws) ∧ Ints wr a7 nP (totA ps ws V) ∧ Apart a6 v5 ∧ Apart a7 v5 ∧ Pair wr w.heap.size (.slice aP nP cP) (.slice aW nW cW) ∧ Below w.heap.size w wr ∧ U ≤ wr.heap.size) (fun _ v8 _ => nP - (intOf v8).toNat)
    case atStart => exact ⟨0, Nat.zero_le _, rfl, by rw [List.take_zero]; exact HO.out, G6.out, G7.out, P6.out, P7.out, HP5.out, hb15, hw2c⟩
    case round =>
      clear hb15 HO G6 G7 P6 P7 HP5 hw2c
      obtain ⟨x, hx, rfl, hou, h6, h7, p6, p7, hP, hbel, hsz⟩ := hrel
      have HP := Lib.hid hP
      have G6 := Lib.hid h6
      have G7 := Lib.hid h7
      have P6 := Lib.hid p6
      have P7 := Lib.hid p7
      clear hP h6 h7 p6 p7
      by_cases hlt : (x : Int) < nP
      · obtain ⟨b6, o6, rfl, hc6⟩ := G6.out.at (i := x) (Below.refl _ _) (by omega)
        obtain ⟨b7, o7, rfl, hc7⟩ := G7.out.at (i := x) (Below.refl _ _) (by omega)
        have Hml := Lib.hid (meanL_take ps ws V (x := x) (by have := Hl.out; omega))
        have hol : ((meanL ps ws V).take x).length ≤ 24 := by rw [List.length_take]; omega
        have hs1 := sums_pos HTT.out x (by have := Hl.out; omega)
        have hs2 := (sums_bd HTT.out x).2
        have htx := Hta.out x
        have HcC : Hid (∀ W : World, Calls Try.prog 128 #[.int .i64 (nth (totA ps ws V) x), .int .i64 (nth (sums ps ws) x)] W fun e w' => e = .returned (.agg #[.int .i64 (nm (nth (totA ps ws V) x) (nth (sums ps ws) x)), .int .i64 (dn (nth (totA ps ws V) x) (nth (sums ps ws) x))]) ∧ Below W.heap.size W w') := Lib.hid fun W => spec_l2Cut _ _ W (by omega) (by omega)
        clear hs1 hs2 htx
        generalize nm (nth (totA ps ws V) x) (nth (sums ps ws) x) = gn at *
        generalize dn (nth (totA ps ws V) x) (nth (sums ps ws) x) = gd at *
        generalize nth (totA ps ws V) x = tx at *
        generalize nth (sums ps ws) x = sx at *
        generalize (meanL ps ws V).take x = acc at *
        have k2 : (0 : Int) ≤ (x : Int) := by omega
        obtain ⟨a5, c5, rfl⟩ := hou.shape
        have HO := Lib.hid hou
        clear hou
        go_wp2_with fail
        refine wp_region_noPanic ?_
        refine wp_region_held_drew (S := fun W' => Below U wr W' ∧ W'.cell? ⟨b6, o6 + x, none⟩ = some (.int .i64 sx) ∧ W'.cell? ⟨b7, o7 + x, none⟩ = some (.int .i64 tx)) (by kernel_rfl) ?_ (fun hHeld0 => ?_)
        · (try dsimp only); first | assumption | exact ⟨(Below.refl _ _).drew, hc6, hc7⟩ | exact ⟨(Below.mono hk9 hsz), cell_up hk9 hc6, cell_up hk9 hc7⟩ | exact ⟨Below.alloc (Below.mono hk9 hsz) hsz9 _, cell_up (below_new w9 _) (cell_up hk9 hc6), cell_up (below_new w9 _) (cell_up hk9 hc7)⟩
        refine takeH (i := 0) (oi := _) (v := ?_) rfl (by kernel_rfl) (by kernel_rfl) (by kernel_rfl) (fun _ _ _ h => h) (Or.inl ⟨by rfl, ?_⟩) (by assumption) ?_
        rotate_left
        · first | (intro w hSw; (try dsimp only at hSw); go_simp; done) | (intro w hSw; (try dsimp only at hSw); go_simp; with_reducible rfl)
        (try simp only [Act.put, List.setIfInBounds_toArray, List.set_cons_zero, List.set_cons_succ])
        refine takeH (i := 1) (oi := _) (v := ?_) rfl (by kernel_rfl) (by kernel_rfl) (by kernel_rfl) (fun _ _ _ h => h) (Or.inl ⟨by rfl, ?_⟩) (by assumption) ?_
        rotate_left
        · first | (intro w hSw; (try dsimp only at hSw); go_simp; done) | (intro w hSw; (try dsimp only at hSw); go_simp; with_reducible rfl)
        (try simp only [Act.put, List.setIfInBounds_toArray, List.set_cons_zero, List.set_cons_succ])
        refine takeH (i := 2) (oi := _) (v := ?_) rfl (by kernel_rfl) (by kernel_rfl) (by kernel_rfl) (fun _ _ _ h => h) (Or.inl ⟨by rfl, ?_⟩) (by assumption) ?_
        rotate_left
        · first | (intro w hSw; (try dsimp only at hSw); go_simp; done) | (intro w hSw; (try dsimp only at hSw); go_simp; with_reducible rfl)
        (try simp only [Act.put, List.setIfInBounds_toArray, List.set_cons_zero, List.set_cons_succ])
        refine takeH (i := 3) (oi := _) (v := ?_) rfl (by kernel_rfl) (by kernel_rfl) (by kernel_rfl) (fun _ _ _ h => h) (Or.inl ⟨by rfl, ?_⟩) (by assumption) ?_
        rotate_left
        · first | (intro w hSw; (try dsimp only at hSw); go_simp; done) | (intro w hSw; (try dsimp only at hSw); go_simp; with_reducible rfl)
        (try simp only [Act.put, List.setIfInBounds_toArray, List.set_cons_zero, List.set_cons_succ])
        refine takeH (i := 4) (oi := _) (v := ?_) rfl (by kernel_rfl) (by kernel_rfl) (by kernel_rfl) (fun _ _ _ h => h) (Or.inl ⟨by rfl, ?_⟩) (by assumption) ?_
        rotate_left
        · first | (intro w hSw; (try dsimp only at hSw); go_simp; done) | (intro w hSw; (try dsimp only at hSw); go_simp; with_reducible rfl)
        (try simp only [Act.put, List.setIfInBounds_toArray, List.set_cons_zero, List.set_cons_succ])
        refine takeH (i := 5) (oi := _) (v := ?_) rfl (by kernel_rfl) (by kernel_rfl) (by kernel_rfl) (fun _ _ _ h => h) (Or.inl ⟨by rfl, ?_⟩) (by assumption) ?_
        rotate_left
        · first | (intro w hSw; (try dsimp only at hSw); go_simp; done) | (intro w hSw; (try dsimp only at hSw); go_simp; with_reducible rfl)
        (try simp only [Act.put, List.setIfInBounds_toArray, List.set_cons_zero, List.set_cons_succ])
        refine takeH (i := 6) (oi := _) (v := ?_) rfl (by kernel_rfl) (by kernel_rfl) (by kernel_rfl) (fun _ _ _ h => h) (Or.inl ⟨by rfl, ?_⟩) (by assumption) ?_
        rotate_left
        · first | (intro w hSw; (try dsimp only at hSw); go_simp; done) | (intro w hSw; (try dsimp only at hSw); go_simp; with_reducible rfl)
        (try simp only [Act.put, List.setIfInBounds_toArray, List.set_cons_zero, List.set_cons_succ])
        refine takeH (i := 7) (oi := _) (v := ?_) rfl (by kernel_rfl) (by kernel_rfl) (by kernel_rfl) (fun _ _ _ h => h) (Or.inl ⟨by rfl, ?_⟩) (by assumption) ?_
        rotate_left
        · first | (intro w hSw; (try dsimp only at hSw); go_simp; done) | (intro w hSw; (try dsimp only at hSw); go_simp; with_reducible rfl)
        (try simp only [Act.put, List.setIfInBounds_toArray, List.set_cons_zero, List.set_cons_succ])
        refine takeH (i := 8) (oi := _) (v := ?_) rfl (by kernel_rfl) (by kernel_rfl) (by kernel_rfl) (fun _ _ _ h => h) (Or.inl ⟨by rfl, ?_⟩) (by assumption) ?_
        rotate_left
        · first | (intro w hSw; (try dsimp only at hSw); go_simp; done) | (intro w hSw; (try dsimp only at hSw); go_simp; with_reducible rfl)
        (try simp only [Act.put, List.setIfInBounds_toArray, List.set_cons_zero, List.set_cons_succ])
        refine wpAnyH_ready (rs := [9]) (by kernel_rfl) (by simp) ?_
        refine consH rfl (fun Kq hKq => ?_)
        go_simp
        (go_at_call 128; refine (HcC.out _).mono ?_; rintro e w9 ⟨rfl, b9⟩; have hk9 : KeepR wr w9 := KeepR.next b9 (KeepR.start wr); have hsz9 : U ≤ w9.heap.size := Nat.le_trans hsz (Below.size hk9))
        refine hKq.out _ _ ?_ (fun hHeld1 => ?_)
        · (try dsimp only); first | assumption | exact ⟨(Below.refl _ _).drew, hc6, hc7⟩ | exact ⟨(Below.mono hk9 hsz), cell_up hk9 hc6, cell_up hk9 hc7⟩ | exact ⟨Below.alloc (Below.mono hk9 hsz) hsz9 _, cell_up (below_new w9 _) (cell_up hk9 hc6), cell_up (below_new w9 _) (cell_up hk9 hc7)⟩
        clear hKq Kq
        (try simp only [Act.put, List.setIfInBounds_toArray, List.set_cons_zero, List.set_cons_succ])
        clear hHeld0
        refine wpAnyH_ready (rs := [10]) (by kernel_rfl) (by simp) ?_
        refine consH rfl (fun Kq hKq => ?_)
        go_simp
        refine hKq.out _ _ ?_ (fun hHeld2 => ?_)
        · (try dsimp only); first | assumption | exact ⟨(Below.refl _ _).drew, hc6, hc7⟩ | exact ⟨(Below.mono hk9 hsz), cell_up hk9 hc6, cell_up hk9 hc7⟩ | exact ⟨Below.alloc (Below.mono hk9 hsz) hsz9 _, cell_up (below_new w9 _) (cell_up hk9 hc6), cell_up (below_new w9 _) (cell_up hk9 hc7)⟩
        clear hKq Kq
        (try simp only [Act.put, List.setIfInBounds_toArray, List.set_cons_zero, List.set_cons_succ])
        clear hHeld1
        refine wpAnyH_ready (rs := [11]) (by kernel_rfl) (by simp) ?_
        refine consH rfl (fun Kq hKq => ?_)
        (refine Fr.step_push3 (x1 := gn) (x2 := gd) rfl _ _ rfl U _ _ (by rfl) (HO.out.below hk9) (by rfl) (by omega) hsz9 ?_; intro v' w' ho hb hm; have x6 := hm.cell (cell_up hk9 hc6) (P6.out ⟨b6, o6, none⟩ rfl); have x7 := hm.cell (cell_up hk9 hc7) (P7.out ⟨b7, o7, none⟩ rfl); have hSS : Below U wr w' ∧ w'.cell? ⟨b6, o6 + x, none⟩ = some (.int .i64 sx) ∧ w'.cell? ⟨b7, o7 + x, none⟩ = some (.int .i64 tx) := ⟨(Below.mono hk9 hsz).trans hb, x6, x7⟩)
        refine hKq.out _ _ ?_ (fun hHeld3 => ?_)
        · (try dsimp only); first | assumption | exact ⟨(Below.refl _ _).drew, hc6, hc7⟩ | exact ⟨(Below.mono hk9 hsz), cell_up hk9 hc6, cell_up hk9 hc7⟩ | exact ⟨Below.alloc (Below.mono hk9 hsz) hsz9 _, cell_up (below_new w9 _) (cell_up hk9 hc6), cell_up (below_new w9 _) (cell_up hk9 hc7)⟩
        clear hKq Kq
        (try simp only [Act.put, List.setIfInBounds_toArray, List.set_cons_zero, List.set_cons_succ])
        clear hHeld2
        refine takeH (i := 12) (oi := _) (v := ?_) rfl (by kernel_rfl) (by kernel_rfl) (by kernel_rfl) (fun _ _ _ h => h) (Or.inl ⟨by rfl, ?_⟩) (by assumption) ?_
        rotate_left
        · first | (intro w hSw; (try dsimp only at hSw); go_simp; done) | (intro w hSw; (try dsimp only at hSw); go_simp; with_reducible rfl)
        (try simp only [Act.put, List.setIfInBounds_toArray, List.set_cons_zero, List.set_cons_succ])
        refine wpAnyH_done (by kernel_rfl) ?_ _
        refine NoPanic.normal ?_
        go_wp2_with fail
        have hk9' : Below wr.heap.size wr w9 := hk9
        have h6' := (G6.out.below hk9').moved hm (fun _ => P6.out)
        have h7' := (G7.out.below hk9').moved hm (fun _ => P7.out)
        go_roundw
        case rel => exact ⟨x + 1, by omega, by go_num, by rw [Hml.out]; exact ho, h6'.1, h7'.1, h6'.2 (by omega), h7'.2 (by omega), (HP.out.below hk9').up hb (by omega), (hbel.trans (hk9'.mono hbel.size)).trans (hb.mono (by omega)), Nat.le_trans hsz9 hb.size⟩
        case measure => simp [intOf]; omega
      · obtain rfl : x = nP := by omega
        have hfin : (meanL ps ws V).take x = meanL ps ws V := List.take_of_length_le (by rw [meanL_length]; have := Hl.out; omega)
        rw [hfin] at hou
        go_wp2_with fail
        go_ret
        exact ⟨_, rfl, hou.mono (by omega), hbel⟩
end Go.Proofs.Ytnbomleieianoaa

/- Plain law: the means of pays, and the process that they are. No conditions but those stated. -/
namespace Go.Proofs.Ytnbomleieianoaa

theorem hasE (ps : List Int) {x : Nat} (hx : x < ps.length) : hasB (ends ps) (x : Int) = endB ps x := by
  rw [Bool.eq_iff_iff, has_mem, ends, mem_filt]
  constructor
  · rintro ⟨i, _, h2, h3⟩
    have : x = i := by omega
    subst this; exact h2
  · exact fun h => ⟨x, hx, h, rfl⟩
theorem tot_en (ps ws : List Int) (V : Nat → Int) : totA ps ws V = gathA ps (enL ps (fun e => nth ws e * V e)) := by
  have : totK ps ws V (ends ps).length = enL ps (fun e => nth ws e * V e) := by
    unfold totK enL
    refine List.map_congr_left fun x hx => ?_
    rw [List.take_length, hasE ps (by simpa using hx)]
  rw [totA, this]
theorem totA_en (ps ws : List Int) (V : Nat → Int) (x : Nat) : nth (totA ps ws V) x = enG ps (fun e => nth ws e * V e) x := by rw [tot_en]; rfl
theorem tot_inner {ps ws : List Int} (h : Tr ps ws) (V : Nat → Int) {x : Nat} (hx : x < ps.length) (he : endB ps x = false) : nth (totA ps ws V) x = kidSum ps (fun y => nth (totA ps ws V) y) x ps.length := by
  rw [totA_en, enG_inner h.toPa _ hx he]
  exact kidSum_congr fun y _ _ => (totA_en ps ws V y).symm
/-- Totals of small values are small. -/
theorem tot_le {ps ws : List Int} (h : Tr ps ws) {V : Nat → Int} {B : Int} (hV : ∀ x, -B ≤ V x ∧ V x ≤ B) : ∀ x, x < ps.length → -(B * nth (sums ps ws) x) ≤ nth (totA ps ws V) x ∧ nth (totA ps ws V) x ≤ B * nth (sums ps ws) x := by
  refine h.toPa.below ?_
  intro x hx ih
  cases he : endB ps x
  · rw [tot_inner h V hx he, s_inner h hx he]
    have h1 := kidSum_le (ps := ps) (x := x) (f := fun y => nth (totA ps ws V) y) (g := fun y => B * nth (sums ps ws) y) (k := ps.length) fun y hy e => (ih y hy e).2
    have h2 := kidSum_le (ps := ps) (x := x) (f := fun y => (-B) * nth (sums ps ws) y) (g := fun y => nth (totA ps ws V) y) (k := ps.length) fun y hy e => by have := (ih y hy e).1; rw [Int.neg_mul]; exact this
    rw [kidSum_mul] at h1 h2
    rw [Int.neg_mul] at h2
    exact ⟨h2, h1⟩
  · rw [totA_en, enG_end h.toPa _ hx he, s_end h he]
    have hw := h.w0 x
    have h1 := Int.mul_le_mul_of_nonneg_left (hV x).2 hw.1
    have h2 := Int.mul_le_mul_of_nonneg_left (hV x).1 hw.1
    rw [Int.mul_neg] at h2
    rw [Int.mul_comm B]
    exact ⟨h2, h1⟩
theorem tot_bd999 {ps ws : List Int} (h : Tr ps ws) {V : Nat → Int} {B : Int} (hB : 0 ≤ B) (hV : ∀ x, -B ≤ V x ∧ V x ≤ B) {x : Nat} (hx : x < ps.length) : -(B * 480) ≤ nth (totA ps ws V) x ∧ nth (totA ps ws V) x ≤ B * 480 := by
  have h1 := tot_le h hV x hx
  have h2 := (sums_bd h x).2
  have h3 := Int.mul_le_mul_of_nonneg_left h2 hB
  omega
/-- May the pays be asked? -/
def epB (ps ws l : List Int) : Bool := treeB ps ws && ((l.length == (ends ps).length) && allIn l (-999) 999)
/-- The pay at an end. -/
def eV (ps l : List Int) (e : Nat) : Int := nth l ((ends ps).idxOf (e : Int))
theorem ends_nodup (ps : List Int) : (ends ps).Nodup := (filt_asc (endB ps) ps.length).imp fun h => by omega
theorem eV_at {ps l : List Int} {i e : Nat} (hi : i < (ends ps).length) (h : nth (ends ps) i = (e : Int)) : nth l i = eV ps l e := by
  have : (ends ps).idxOf (e : Int) = i := by
    rw [← h, nth_lt hi]
    exact (ends_nodup ps).idxOf_getElem i hi
  rw [eV, this]
theorem epB_t {ps ws l : List Int} (h : epB ps ws l = true) : Tr ps ws ∧ treeB ps ws = true ∧ l.length = (ends ps).length ∧ (∀ i, -999 ≤ nth l i ∧ nth l i ≤ 999) ∧ ∀ e, -999 ≤ eV ps l e ∧ eV ps l e ≤ 999 := by
  simp only [epB, Bool.and_eq_true, beq_iff_eq] at h
  have hl : ∀ i, -999 ≤ nth l i ∧ nth l i ≤ 999 := fun i => by
    by_cases hi : i < l.length
    · exact all_in h.2.2 hi
    · rw [nth_ge (by omega)]; omega
  exact ⟨treeB_t h.1, h.1, h.2.1, hl, fun e => hl _⟩
theorem ep_no1 {ps ws l : List Int} (h : treeB ps ws = false) : epB ps ws l = false := by rw [epB, h]; rfl
theorem ep_no2 {ps ws l : List Int} (h : ¬ l.length = (ends ps).length) : epB ps ws l = false := by simp [epB, h]
theorem ep_no3 {ps ws l : List Int} (h : allIn l (-999) 999 = false) : epB ps ws l = false := by simp [epB, h]
theorem ep_yes {ps ws l : List Int} (h : treeB ps ws = true) (h2 : l.length = (ends ps).length) (h3 : allIn l (-999) 999 = true) : epB ps ws l = true := by simp [epB, h, h2, h3]
/-- The means of pays, where they may be asked. -/
def mofV (ps ws l : List Int) : List (Int × Int) := if epB ps ws l then meanL ps ws (eV ps l) else []
theorem mofV_no {ps ws l : List Int} (h : epB ps ws l = false) : mofV ps ws l = [] := by rw [mofV, h]; rfl
theorem mofV_yes {ps ws l : List Int} (h : epB ps ws l = true) : mofV ps ws l = meanL ps ws (eV ps l) := by rw [mofV, if_pos h]
theorem meanL_at {ps ws : List Int} {V : Nat → Int} {x : Nat} (h : x < ps.length) : Fr.at1 (meanL ps ws V) x = nm (nth (totA ps ws V) x) (nth (sums ps ws) x) ∧ Fr.at2 (meanL ps ws V) x = dn (nth (totA ps ws V) x) (nth (sums ps ws) x) := by
  constructor
  · rw [Fr.at1, meanL]; simp [List.getD, h]
  · rw [Fr.at2, meanL]; simp [List.getD, h]
/-- Whether the means are a process of whole numbers, and that process. -/
def fpB (ps ws l : List Int) : Bool := epB ps ws l && (List.range ps.length).all fun x => Fr.at2 (meanL ps ws (eV ps l)) x == 1
def fpL (ps ws l : List Int) : List Int := (List.range ps.length).map fun x => Fr.at1 (meanL ps ws (eV ps l)) x
def fpV (ps ws l : List Int) : List Int := if fpB ps ws l then fpL ps ws l else []
theorem fp_no1 {ps ws l : List Int} (h : epB ps ws l = false) : fpB ps ws l = false := by rw [fpB, h]; rfl
theorem fp_no2 {ps ws l : List Int} {x : Nat} (hx : x < ps.length) (h : ¬ Fr.at2 (meanL ps ws (eV ps l)) x = 1) : fpB ps ws l = false := by
  rw [fpB, all_f hx (by simp [h]), Bool.and_false]
theorem fp_yes {ps ws l : List Int} (h : epB ps ws l = true) (h2 : ∀ x, x < ps.length → Fr.at2 (meanL ps ws (eV ps l)) x = 1) : fpB ps ws l = true := by
  rw [fpB, h, Bool.true_and]; exact all_t fun x hx => by simp [h2 x hx]
theorem fpV_no {ps ws l : List Int} (h : fpB ps ws l = false) : fpV ps ws l = [] := by rw [fpV, h]; rfl
theorem fpV_yes {ps ws l : List Int} (h : fpB ps ws l = true) : fpV ps ws l = fpL ps ws l := by rw [fpV, if_pos h]
theorem fpB_t {ps ws l : List Int} (h : fpB ps ws l = true) : epB ps ws l = true ∧ ∀ x, x < ps.length → Fr.at2 (meanL ps ws (eV ps l)) x = 1 := by
  rw [fpB, Bool.and_eq_true] at h
  exact ⟨h.1, fun x hx => by simpa using all_get h.2 hx⟩
theorem fpL_length (ps ws l : List Int) : (fpL ps ws l).length = ps.length := by simp [fpL]
theorem fpL_take (ps ws l : List Int) {x : Nat} (hx : x < ps.length) : (fpL ps ws l).take (x + 1) = (fpL ps ws l).take x ++ [Fr.at1 (meanL ps ws (eV ps l)) x] := by
  rw [take_succ_nth (by rw [fpL_length]; exact hx), fpL, nth_map_range hx]
theorem fp_tot {ps ws l : List Int} (h : fpB ps ws l = true) {x : Nat} (hx : x < ps.length) : nth (sums ps ws) x * nth (fpL ps ws l) x = nth (totA ps ws (eV ps l)) x := by
  obtain ⟨h1, h2⟩ := fpB_t h
  obtain ⟨hT, _⟩ := epB_t h1
  have hs := sums_pos hT x hx
  have hm := nm_mul (nth (totA ps ws (eV ps l)) x) (nth (sums ps ws) x) (by omega)
  have h3 := h2 x hx
  rw [(meanL_at hx).2] at h3
  rw [h3, Int.mul_one] at hm
  rw [fpL, nth_map_range hx, (meanL_at hx).1, Int.mul_comm]
  exact hm
/-- The means of pays are a fair process. -/
theorem fp_fair {ps ws l : List Int} (h : fpB ps ws l = true) : paysB ps ws (fpL ps ws l) = true ∧ balB ps ws (fpL ps ws l) = true := by
  obtain ⟨h1, h2⟩ := fpB_t h
  obtain ⟨hT, ht, _, _, hV⟩ := epB_t h1
  refine ⟨pays_both ht ?_, bal_yes fun x hx => ?_⟩
  · rw [procB, fpL_length]
    simp only [beq_self_eq_true, Bool.true_and]
    refine all_t fun i hi => ?_
    rw [fpL_length] at hi
    have h3 := fp_tot h hi
    have h4 := tot_le hT hV i hi
    have h5 := sums_pos hT i hi
    rw [← h3] at h4
    generalize nth (fpL ps ws l) i = v at *
    generalize nth (sums ps ws) i = s at *
    refine inB_mk ?_ ?_
    · exact Int.le_of_mul_le_mul_left (a := s) (by rw [Int.mul_neg, Int.mul_comm s 999]; exact h4.1) (by omega)
    · exact Int.le_of_mul_le_mul_left (a := s) (by rw [Int.mul_comm s 999]; exact h4.2) (by omega)
  · cases he : endB ps x
    · rw [(dr_bal hT hx)]
      refine .inr ?_
      rw [fp_tot h hx, tot_inner hT _ hx he]
      exact kidSum_congr fun y hy _ => (fp_tot h hy).symm
    · exact kidSum_end he (Nat.le_refl _)
end Go.Proofs.Ytnbomleieianoaa
