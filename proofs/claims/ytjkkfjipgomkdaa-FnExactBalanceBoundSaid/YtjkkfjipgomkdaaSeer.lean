/- Contracts: what a seer has, the bound of a balanced list, by the program. -/
import Derived.Test.YtjkkfjipgomkdaaBound
import Derived.Test.YtjkkfjipgomkdaaDrift
namespace Go.Proofs.Ytjkkfjipgomkdaa
open Go.RowKit

def boN (c : Bool) (ps ws pay num : List Int) : Int := if c then nm (bndS ps ws pay num) (nth (sums ps ws) 0) else 0
def boD (c : Bool) (ps ws pay num : List Int) : Int := if c then dn (bndS ps ws pay num) (nth (sums ps ws) 0) else 0
theorem bo_no {c : Bool} {ps ws pay num : List Int} (h : c = false) : boN c ps ws pay num = 0 ∧ boD c ps ws pay num = 0 := by subst h; exact ⟨rfl, rfl⟩
theorem bo_yes {c : Bool} {ps ws pay num : List Int} (h : c = true) : boN c ps ws pay num = nm (bndS ps ws pay num) (nth (sums ps ws) 0) ∧ boD c ps ws pay num = dn (bndS ps ws pay num) (nth (sums ps ws) 0) := by subst h; exact ⟨rfl, rfl⟩
def zeL (ps : List Int) : List Int := List.replicate ps.length 0
theorem nth_zeL (ps : List Int) (i : Nat) : -999 ≤ nth (zeL ps) i ∧ nth (zeL ps) i ≤ 999 := by rw [zeL, nth_replicate]; omega
def bbB (ps ws pay num : List Int) : Bool := balV ps ws num && paysB ps ws pay
set_option maxRecDepth 100000 in
set_option maxHeartbeats 1000000 in
theorem impl_SeerMean (aP : Option Addr) (nP cP : Nat) (aW : Option Addr) (nW cW : Nat) (ps ws : List Int) (aL : Option Addr) (nL cL : Nat) (l : List Int) (w : World) (h : Tre w aP nP cP aW nW cW ps ws) (hL : Ints w aL nL l) (_hLc : aL = none → cL = 0) (hn : nL ≤ 1048576) :
    Calls Try.prog 23 #[.agg #[.slice aP nP cP, .slice aW nW cW], .slice aL nL cL] w fun e w' => e = .returned (.tuple #[.agg #[.int .i64 (boN (paysB ps ws l) ps ws l (zeL ps)), .int .i64 (boD (paysB ps ws l) ps ws l (zeL ps))], .bool (paysB ps ws l)]) ∧ Below w.heap.size w w' := by
  have hl := h.p.1
  have hlw := h.w.1
  have hpn := h.pn
  have hwn := h.wn
  have hb1 := below_new w (.cells #[.slice aP nP cP, .slice aW nW cW] 28)
  have hP1 := Lib.hid (Pair.new w (.slice aP nP cP) (.slice aW nW cW) 28)
  have H := Lib.hid h
  have Hl := Lib.hid hl
  have Hlw := Lib.hid hlw
  clear h hl hlw
  have HL := Lib.hid hL
  have hll := Lib.hid hL.1
  clear hL
  go_enter Try.func23, Try.ntmps23
  have hbb := hb1.trans ((below_new (w.alloc (.cells #[.slice aP nP cP, .slice aW nW cW] 28)) (.cells #[.int .i64 0, .int .i64 0] 34)).mono hb1.size)
  have hPP := Lib.hid (hP1.out.alloc (.cells #[.int .i64 0, .int .i64 0] 34))
  have hR1 := Pair.new (w.alloc (.cells #[.slice aP nP cP, .slice aW nW cW] 28)) (.int .i64 0) (.int .i64 0) 34
  rw [show (w.alloc (.cells #[.slice aP nP cP, .slice aW nW cW] 28)).heap.size = w.heap.size + 1 by simp] at hR1
  have HR1 := Lib.hid hR1
  have c0 := hPP.out.c0
  have c1 := hPP.out.c1
  clear hb1 hP1 hR1
  go_wp2_with fail
  generalize ((w.alloc (.cells #[.slice aP nP cP, .slice aW nW cW] 28)).alloc (.cells #[.int .i64 0, .int .i64 0] 34)) = w2 at *
  refine (impl_IsTree _ _ _ _ _ _ ps ws _ (H.out.below hbb)).mono ?_
  rintro e w3 ⟨rfl, hb3⟩
  have HP3 := Lib.hid (hPP.out.below hb3)
  have HR3 := Lib.hid (HR1.out.below hb3)
  have d0 := HP3.out.c0
  have d1 := HP3.out.c1
  have hb13 := hbb.trans (hb3.mono hbb.size)
  clear c0 c1 hb3 hPP HR1 hbb
  cases hT : treeB ps ws
  · have Hv := Lib.hid (pays_no1 (l := l) hT)
    clear hT
    have q3 := HR3.out.c0
    have q4 := HR3.out.c1
    have q5 := HR3.out.f0
    have q6 := HR3.out.f1
    have hr := HR3.out.set (.int .i64 0) (.int .i64 0)
    go_wp2_with fail
    exact bodyPost_ret (v := .tuple #[.agg #[.int .i64 0, .int .i64 0], .bool false]) (by simp [results, Try.results23, go_sem, hr.1, hr.2]) rfl ⟨by rw [Hv.out]; rfl, (hb13.setCell (by simp) _).setCell (by simp) _⟩
  have HT := Lib.hid hT
  clear hT
  go_wp2_with fail
  refine (impl_isProcess _ _ _ _ _ _ ps ws _ _ _ l _ (H.out.below hb13) (HL.out.below hb13) hn).mono ?_
  rintro e w4 ⟨rfl, hb4⟩
  have HP4 := Lib.hid (HP3.out.below hb4)
  have HR4 := Lib.hid (HR3.out.below hb4)
  have e0 := HP4.out.c0
  have e1 := HP4.out.c1
  have hb14 := hb13.trans (hb4.mono hb13.size)
  clear d0 d1 hb4 HP3 HR3
  cases hp : procB ps.length l
  · have Hv := Lib.hid (pays_no2 (ws := ws) hp)
    clear hp
    have q3 := HR4.out.c0
    have q4 := HR4.out.c1
    have q5 := HR4.out.f0
    have q6 := HR4.out.f1
    have hr := HR4.out.set (.int .i64 0) (.int .i64 0)
    go_wp2_with fail
    exact bodyPost_ret (v := .tuple #[.agg #[.int .i64 0, .int .i64 0], .bool false]) (by simp [results, Try.results23, go_sem, hr.1, hr.2]) rfl ⟨by rw [Hv.out]; rfl, (hb14.setCell (by simp) _).setCell (by simp) _⟩
  have Hc := Lib.hid (pays_both HT.out hp)
  obtain ⟨hTr, _, _, hleq, hlb⟩ := paysB_t Hc.out
  have hnL : nP = nL := by have := hll.out; have := Hl.out; omega
  have HTr := Lib.hid hTr
  have Hlb := Lib.hid hlb
  have hn24 : nP ≤ 24 := by have := hTr.n24; have := Hl.out; omega
  clear hp hTr hleq hlb hn hpn hwn
  subst hnL
  have hmk := mk_ints nP (by omega)
  have hmx : nP ≤ maxLen := by have : maxLen = 9223372036854775807 := rfl; omega
  have HcB : Hid (∀ (W : World) (ag : Option Addr) (cg : Nat), Below w.heap.size w W → Ints W ag nP (zeL ps) → Calls Try.prog 59 #[.agg #[.slice aP nP cP, .slice aW nW cW], .slice aL nP cL, .slice ag nP cg] W fun e w' => e = .returned (.tuple #[.agg #[.int .i64 (nm (bndS ps ws l (zeL ps)) (nth (sums ps ws) 0)), .int .i64 (dn (bndS ps ws l (zeL ps)) (nth (sums ps ws) 0))], .bool true]) ∧ Below W.heap.size W w') := Lib.hid fun W ag cg hW hI => impl_bound _ _ _ _ _ _ ps ws _ _ _ l _ _ _ (zeL ps) W (H.out.below hW) HTr.out (HL.out.below hW) rfl hI rfl Hlb.out (nth_zeL ps)
  have HZ : Hid (∀ W : World, Ints (W.alloc (.cells (zv nP) 3)) (some ⟨W.heap.size, 0, none⟩) nP (zeL ps)) := Lib.hid fun W => by
    have := (Own.zeros W W.heap.size nP (Nat.le_refl _) hmx).ints
    rw [zeL, Hl.out]
    exact this
  generalize hgn : nm (bndS ps ws l (zeL ps)) (nth (sums ps ws) 0) = gn at *
  generalize hgd : dn (bndS ps ws l (zeL ps)) (nth (sums ps ws) 0) = gd at *
  have Hgn := Lib.hid hgn
  have Hgd := Lib.hid hgd
  clear hgn hgd
  have hnew := (below_new w4 (.cells (zv nP) 3)).drew
  have hb15 := hb14.trans (hnew.mono hb14.size)
  have HR5 := Lib.hid (HR4.out.below hnew)
  have HP5 := Lib.hid (HP4.out.below hnew)
  have hz := (HZ.out w4).below (Below.refl _ _).drew
  have hS0 : Below w.heap.size w w4.drew ∧ w4.drew.cell? ⟨w.heap.size, 0, none⟩ = some (.slice aP nP cP) ∧ w4.drew.cell? ⟨w.heap.size, 1, none⟩ = some (.slice aW nW cW) := ⟨hb14.drew, e0, e1⟩
  have hSz : Below w.heap.size w (w4.alloc (.cells (zv nP) 3)).drew ∧ (w4.alloc (.cells (zv nP) 3)).drew.cell? ⟨w.heap.size, 0, none⟩ = some (.slice aP nP cP) ∧ (w4.alloc (.cells (zv nP) 3)).drew.cell? ⟨w.heap.size, 1, none⟩ = some (.slice aW nW cW) := ⟨hb15, HP5.out.c0, HP5.out.c1⟩
  go_upto_region 3 with fail
  refine wp_region_noPanic ?_
  refine wp_region_held_drew (S := fun W' => Below w.heap.size w W' ∧ W'.cell? ⟨w.heap.size, 0, none⟩ = some (.slice aP nP cP) ∧ W'.cell? ⟨w.heap.size, 1, none⟩ = some (.slice aW nW cW)) (by kernel_rfl) ?_ (fun hHeld0 => ?_)
  · (try dsimp only); first | exact hS0 | exact hSz | exact hS9 | exact ⟨(hb19.setCell (by simp) _).setCell (by simp) _, cell_far (cell_far hP9.c0 (by simp)) (by simp), cell_far (cell_far hP9.c1 (by simp)) (by simp)⟩
  refine takeH (i := 0) (oi := _) (v := ?_) rfl (by kernel_rfl) (by kernel_rfl) (by kernel_rfl) (fun _ _ _ h => h) (Or.inl ⟨by rfl, ?_⟩) (by assumption) ?_
  rotate_left
  · first | (intro w hSw; (try dsimp only at hSw); go_simp; done) | (intro w hSw; (try dsimp only at hSw); go_simp; with_reducible rfl)
  (try simp only [Act.put, List.setIfInBounds_toArray, List.set_cons_zero, List.set_cons_succ])
  refine takeH (i := 1) (oi := _) (v := ?_) rfl (by kernel_rfl) (by kernel_rfl) (by kernel_rfl) (fun _ _ _ h => h) (Or.inl ⟨by rfl, ?_⟩) (by assumption) ?_
  rotate_left
  · first | (intro w hSw; (try dsimp only at hSw); go_simp; done) | (intro w hSw; (try dsimp only at hSw); go_simp; with_reducible rfl)
  (try simp only [Act.put, List.setIfInBounds_toArray, List.set_cons_zero, List.set_cons_succ])
  refine takeH (i := 2) (oi := _) (v := ?_) rfl (by kernel_rfl) (by kernel_rfl) (by kernel_rfl) (fun _ _ _ h => h) (Or.inl ⟨by rfl, ?_⟩) (by assumption) ?_
  rotate_left
  · first | (intro w hSw; (try dsimp only at hSw); go_simp; done) | (intro w hSw; (try dsimp only at hSw); go_simp; with_reducible rfl)
  (try simp only [Act.put, List.setIfInBounds_toArray, List.set_cons_zero, List.set_cons_succ])
  refine takeH (i := 3) (oi := _) (v := ?_) rfl (by kernel_rfl) (by kernel_rfl) (by kernel_rfl) (fun _ _ _ h => h) (Or.inl ⟨by rfl, ?_⟩) (by assumption) ?_
  rotate_left
  · first | (intro w hSw; (try dsimp only at hSw); go_simp; done) | (intro w hSw; (try dsimp only at hSw); go_simp; with_reducible rfl)
  (try simp only [Act.put, List.setIfInBounds_toArray, List.set_cons_zero, List.set_cons_succ])
  refine wpAnyH_ready (rs := [4]) (by kernel_rfl) (by simp) ?_
  refine consH rfl (fun Kq hKq => ?_)
  go_simp
  refine hKq.out _ _ ?_ (fun hHeld1 => ?_)
  · (try dsimp only); first | exact hS0 | exact hSz | exact hS9 | exact ⟨(hb19.setCell (by simp) _).setCell (by simp) _, cell_far (cell_far hP9.c0 (by simp)) (by simp), cell_far (cell_far hP9.c1 (by simp)) (by simp)⟩
  clear hKq Kq
  (try simp only [Act.put, List.setIfInBounds_toArray, List.set_cons_zero, List.set_cons_succ])
  clear hHeld0
  refine wpAnyH_ready (rs := [5]) (by kernel_rfl) (by simp) ?_
  refine consH rfl (fun Kq hKq => ?_)
  go_simp
  (go_at_call 59; refine (HcB.out _ _ _ hb15 hz).mono ?_; rintro e w9 ⟨rfl, b9⟩; have hb19 := hb15.trans (b9.mono hb15.size); have hR9 := HR5.out.below b9; have hP9 := HP5.out.below b9; have q3 := hR9.c0; have q4 := hR9.c1; have q5 := hR9.f0; have q6 := hR9.f1; have hr := hR9.set (.int .i64 gn) (.int .i64 gd); have hS9 : Below w.heap.size w w9 ∧ w9.cell? ⟨w.heap.size, 0, none⟩ = some (.slice aP nP cP) ∧ w9.cell? ⟨w.heap.size, 1, none⟩ = some (.slice aW nW cW) := ⟨hb19, hP9.c0, hP9.c1⟩)
  refine hKq.out _ _ ?_ (fun hHeld2 => ?_)
  · (try dsimp only); first | exact hS0 | exact hSz | exact hS9 | exact ⟨(hb19.setCell (by simp) _).setCell (by simp) _, cell_far (cell_far hP9.c0 (by simp)) (by simp), cell_far (cell_far hP9.c1 (by simp)) (by simp)⟩
  clear hKq Kq
  (try simp only [Act.put, List.setIfInBounds_toArray, List.set_cons_zero, List.set_cons_succ])
  clear hHeld1
  refine takeH (i := 6) (oi := _) (v := ?_) rfl (by kernel_rfl) (by kernel_rfl) (by kernel_rfl) (fun _ _ _ h => h) (Or.inl ⟨by rfl, ?_⟩) (by assumption) ?_
  rotate_left
  · first | (intro w hSw; (try dsimp only at hSw); go_simp; done) | (intro w hSw; (try dsimp only at hSw); go_simp; with_reducible rfl)
  (try simp only [Act.put, List.setIfInBounds_toArray, List.set_cons_zero, List.set_cons_succ])
  refine takeH (i := 7) (oi := _) (v := ?_) rfl (by kernel_rfl) (by kernel_rfl) (by kernel_rfl) (fun _ _ _ h => h) (Or.inl ⟨by rfl, ?_⟩) (by assumption) ?_
  rotate_left
  · first | (intro w hSw; (try dsimp only at hSw); go_simp; done) | (intro w hSw; (try dsimp only at hSw); go_simp; with_reducible rfl)
  (try simp only [Act.put, List.setIfInBounds_toArray, List.set_cons_zero, List.set_cons_succ])
  refine wpAnyH_ready (rs := [8]) (by kernel_rfl) (by simp) ?_
  refine consH rfl (fun Kq hKq => ?_)
  go_simp
  refine hKq.out _ _ ?_ (fun hHeld3 => ?_)
  · (try dsimp only); first | exact hS0 | exact hSz | exact hS9 | exact ⟨(hb19.setCell (by simp) _).setCell (by simp) _, cell_far (cell_far hP9.c0 (by simp)) (by simp), cell_far (cell_far hP9.c1 (by simp)) (by simp)⟩
  clear hKq Kq
  (try simp only [Act.put, List.setIfInBounds_toArray, List.set_cons_zero, List.set_cons_succ])
  clear hHeld2
  refine takeH (i := 9) (oi := _) (v := ?_) rfl (by kernel_rfl) (by kernel_rfl) (by kernel_rfl) (fun _ _ _ h => h) (Or.inl ⟨by rfl, ?_⟩) (by assumption) ?_
  rotate_left
  · first | (intro w hSw; (try dsimp only at hSw); go_simp; done) | (intro w hSw; (try dsimp only at hSw); go_simp; with_reducible rfl)
  (try simp only [Act.put, List.setIfInBounds_toArray, List.set_cons_zero, List.set_cons_succ])
  refine wpAnyH_done (by kernel_rfl) ?_ _
  refine NoPanic.normal ?_
  go_wp2_with fail
  exact bodyPost_ret (v := .tuple #[.agg #[.int .i64 gn, .int .i64 gd], .bool true]) (by simp [results, Try.results23, go_sem, hr.1, hr.2]) rfl ⟨by rw [Hc.out, ← Hgn.out, ← Hgd.out]; rfl, (hb19.setCell (by simp) _).setCell (by simp) _⟩
end Go.Proofs.Ytjkkfjipgomkdaa
