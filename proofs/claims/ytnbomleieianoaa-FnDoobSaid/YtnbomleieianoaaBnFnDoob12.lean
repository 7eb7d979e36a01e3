/- Contracts and plain laws for the statement FnDoob, part 12. No conditions but those stated in each. -/
import Derived.Test.YtnbomleieianoaaBnFnDoob10
import Derived.Test.YtnbomleieianoaaBnFnDoob6
import Derived.Test.YtnbomleieianoaaBnFnDoob3
import Derived.Test.YtnbomleieianoaaBnFnDoob11
import Derived.Test.YtnbomleieianoaaBnFnDoob8
import Derived.Test.YtnbomleieianoaaBnFnDoob13
/- Contracts: the mean of a rule, of the program and of the reference. -/
namespace Go.Proofs.Ytnbomleieianoaa
open Go.RowKit

/-- The sum of the first k numbers at the nodes of a rule, each times its node's sum. -/
def mS (s l rule : List Int) : Nat → Int
  | 0 => 0
  | k + 1 => mS s l rule k + nth s (nth rule k).toNat * nth l (nth rule k).toNat
theorem mS_bd {ps ws l rule : List Int} (h : Tr ps ws) (hl : ∀ i, -999 ≤ nth l i ∧ nth l i ≤ 999) : ∀ k : Nat, -(479520 * (k : Int)) ≤ mS (sums ps ws) l rule k ∧ mS (sums ps ws) l rule k ≤ 479520 * (k : Int)
  | 0 => by simp [mS]
  | k + 1 => by
    have ih := mS_bd (rule := rule) h hl k
    have h1 := mul_abs (B := 999) (U := 480) (hl (nth rule k).toNat) (sums_bd h (nth rule k).toNat) (by omega)
    rw [Int.mul_comm (nth l (nth rule k).toNat)] at h1
    rw [mS, Int.natCast_add, Int.mul_add]; simp only [Int.natCast_one, Int.mul_one]; omega
theorem ris_ge {l : List Int} (h : risB l = true) (h0 : ∀ i, i < l.length → 0 ≤ nth l i) : ∀ i : Nat, i < l.length → (i : Int) ≤ nth l i
  | 0, hi => h0 0 hi
  | i + 1, hi => by
    have ih := ris_ge h h0 i (by omega)
    have := ris_get h (i := i + 1) (by omega) hi
    rw [show i + 1 - 1 = i by omega] at this
    omega
theorem stop_len {ps rule : List Int} (h : stopB ps rule = true) : rule.length ≤ ps.length ∧ (∀ i, i < rule.length → 0 ≤ nth rule i ∧ nth rule i < (ps.length : Int)) := by
  have ha : allIn rule 0 ((ps.length : Int) - 1) = true := by
    cases ha : allIn rule 0 ((ps.length : Int) - 1)
    · rw [stop_no2 ha] at h; cases h
    · rfl
  have hr : risB rule = true := by
    cases hr : risB rule
    · rw [stop_no1 hr] at h; cases h
    · rfl
  have hb := fun i hi => all_in (l := rule) ha (i := i) hi
  refine ⟨?_, fun i hi => by have := hb i hi; omega⟩
  rcases Nat.eq_zero_or_pos rule.length with h0 | h0
  · omega
  · have h1 := ris_ge hr (fun i hi => (hb i hi).1) (rule.length - 1) (by omega)
    have h2 := hb (rule.length - 1) (by omega)
    omega
def rmB (ps ws l rule : List Int) : Bool := paysB ps ws l && stopB ps rule
def rmS (ps ws l rule : List Int) : Int := mS (sums ps ws) l rule rule.length
def rmN (ps ws l rule : List Int) : Int := if rmB ps ws l rule then nm (rmS ps ws l rule) (nth (sums ps ws) 0) else 0
def rmD (ps ws l rule : List Int) : Int := if rmB ps ws l rule then dn (rmS ps ws l rule) (nth (sums ps ws) 0) else 0
theorem rm_no {ps ws l rule : List Int} (h : rmB ps ws l rule = false) : rmN ps ws l rule = 0 ∧ rmD ps ws l rule = 0 := by unfold rmN rmD; rw [h]; exact ⟨rfl, rfl⟩
theorem rm_yes {ps ws l rule : List Int} (h : rmB ps ws l rule = true) : rmN ps ws l rule = nm (rmS ps ws l rule) (nth (sums ps ws) 0) ∧ rmD ps ws l rule = dn (rmS ps ws l rule) (nth (sums ps ws) 0) := by unfold rmN rmD; rw [h]; exact ⟨rfl, rfl⟩
theorem rmB_no1 {ps ws l rule : List Int} (h : paysB ps ws l = false) : rmB ps ws l rule = false := by rw [rmB, h]; rfl
theorem rmB_no2 {ps ws l rule : List Int} (h : stopB ps rule = false) : rmB ps ws l rule = false := by rw [rmB, h]; simp
theorem rmB_yes {ps ws l rule : List Int} (h1 : paysB ps ws l = true) (h2 : stopB ps rule = true) : rmB ps ws l rule = true := by rw [rmB, h1, h2]; rfl
end Go.Proofs.Ytnbomleieianoaa

/- Contracts: the drifts of a process and what they tell, by the reference. -/
namespace Go.Proofs.Ytnbomleieianoaa
open Go.RowKit

theorem mS_kids (s l : List Int) (ps : List Int) (x : Nat) : mS s l (kids ps x) (kids ps x).length = kidSum ps (fun y => nth s y * nth l y) x ps.length := by
  have h : ∀ (xs : List Int) (k : Nat), k ≤ xs.length → mS s l xs k = sumOf (fun x => nth s x.toNat * nth l x.toNat) (xs.take k) := by
    intro xs k
    induction k with
    | zero => intro _; simp [mS, sumOf]
    | succ k ih => intro hk; rw [mS, ih (by omega), sumOf_take_succ _ _ _ (by omega)]
  rw [h _ _ (Nat.le_refl _), List.take_length, kids_sum]; simp
theorem dr_inner {ps ws l : List Int} (h : Tr ps ws) {x : Nat} (hx : x < ps.length) (he : endB ps x = false) : drA ps ws l x = mS (sums ps ws) l (kids ps x) (kids ps x).length - nth (sums ps ws) x * nth l x := by
  have h1 : drA ps ws l x = kidSum ps (fun y => nth (sums ps ws) y * nth l y) x ps.length + kidSum ps (fun y => nth (sums ps ws) y * (-(nth l x))) x ps.length := by
    rw [← kidSum_add]
    exact kidSum_congr fun y _ _ => by rw [← Int.mul_add]; rfl
  have h2 := sums_kids h x
  rw [h.inner x hx he, Int.zero_add] at h2
  rw [h1, kidSum_mulr, ← h2, mS_kids, Int.mul_neg]
  omega
theorem dr_end {ps ws l : List Int} {x : Nat} (he : endB ps x = true) : drA ps ws l x = 0 := kidSum_end he (Nat.le_refl _)
theorem nm_zero1 {s : Int} (h : 1 ≤ s) : nm 0 s = 0 ∧ dn 0 s = 1 := by
  have := nm_cross (x := 0) (y := s) (x' := 0) (y' := 1) (by omega) (by omega) (by simp)
  rw [this.1, this.2]
  constructor <;> simp [nm, dn, gcdI]
theorem kids_isEmpty {ps : List Int} {x : Nat} : endB ps x = ((kids ps x).length == 0) := by
  rw [endB_kids]; cases kids ps x <;> rfl
set_option maxRecDepth 100000 in
set_option maxHeartbeats 2000000 in
theorem spec_l3Drift (aP : Option Addr) (nP cP : Nat) (aW : Option Addr) (nW cW : Nat) (ps ws : List Int) (aL : Option Addr) (nL cL : Nat) (l : List Int) (X : Nat) (w : World) (h : Tre w aP nP cP aW nW cW ps ws) (hT : Tr ps ws) (hL : Ints w aL nL l) (hl : ∀ i, -999 ≤ nth l i ∧ nth l i ≤ 999) (hn : nP = nL) (hX : X < nP) :
    Calls Try.prog 149 #[.agg #[.slice aP nP cP, .slice aW nW cW], .slice aL nL cL, .int .i64 (X : Int)] w fun e w' => e = .returned (.agg #[.int .i64 (nm (drA ps ws l X) (nth (sums ps ws) X)), .int .i64 (dn (drA ps ws l X) (nth (sums ps ws) X))]) ∧ Below w.heap.size w w' := by
  subst hn
  have HL := Lib.hid hL
  have Hpl := Lib.hid hl
  clear hL hl
  have hn24 := hT.n24
  have hn1 := hT.n1
  have HT := Lib.hid hT
  have hwl := hT.wl
  have hl := h.p.1
  have hlw := h.w.1
  have hpn := h.pn
  have hwn := h.wn
  have hb1 := below_new w (.cells #[.slice aP nP cP, .slice aW nW cW] 26)
  have hP1 := Lib.hid (Pair.new w (.slice aP nP cP) (.slice aW nW cW) 26)
  have H := Lib.hid h
  have Hl := Lib.hid hl
  have Hlw := Lib.hid hlw
  clear h hl hlw
  have hnW : nW ≤ nP ∧ nP ≤ nW := by have := Hlw.out; have := Hl.out; omega
  have hnP : 1 ≤ nP ∧ nP ≤ 24 := by have := Hl.out; omega
  clear hn24 hn1 hT hwl hpn hwn
  have hXp : X < ps.length := by have := Hl.out; omega
  go_enter Try.func149, Try.ntmps149
  have hlt2 := hP1.out.lt
  have hbb := hb1.trans ((below_new (w.alloc (.cells #[.slice aP nP cP, .slice aW nW cW] 26)) (.cells #[.int .i64 0, .int .i64 0] 48)).mono hb1.size)
  have hPP := Lib.hid (hP1.out.alloc (.cells #[.int .i64 0, .int .i64 0] 48))
  have hR1 := Pair.new (w.alloc (.cells #[.slice aP nP cP, .slice aW nW cW] 26)) (.int .i64 0) (.int .i64 0) 48
  rw [show (w.alloc (.cells #[.slice aP nP cP, .slice aW nW cW] 26)).heap.size = w.heap.size + 1 by simp] at hR1
  have HR1 := Lib.hid hR1
  have c0 := hPP.out.c0
  have c1 := hPP.out.c1
  clear hb1 hP1 hlt2 hR1
  go_wp2_with fail
  generalize ((w.alloc (.cells #[.slice aP nP cP, .slice aW nW cW] 26)).alloc (.cells #[.int .i64 0, .int .i64 0] 48)) = w2 at *
  have hlt2 := hPP.out.lt
  refine wp_region_noPanic ?_
  refine wp_region_held_drew (S := (fun W' => KeepR w2 W' ∧ W'.cell? ⟨w.heap.size, 0, none⟩ = some (.slice aP nP cP) ∧ W'.cell? ⟨w.heap.size, 1, none⟩ = some (.slice aW nW cW))) (by kernel_rfl) ?_ (fun hHeld0 => ?_)
  · (try dsimp only); first | exact keep2 (by assumption) hPP.out | exact keep2 (KeepR.start _) hPP.out | exact keep2 (KeepR.alloc0 _ _) hPP.out | exact keep2 (KeepR.alloc (by assumption : KeepR w2 _ ∧ _).1 _) hPP.out
  refine takeH (i := 0) (oi := _) (v := ?_) rfl (by kernel_rfl) (by kernel_rfl) (by kernel_rfl) (fun _ _ _ h => h) (Or.inl ⟨by rfl, ?_⟩) (by assumption) ?_
  rotate_left
  · first | (intro w hSw; (try dsimp only at hSw); go_simp; done) | (intro w hSw; (try dsimp only at hSw); go_simp; with_reducible rfl)
  (try simp only [Act.put, List.setIfInBounds_toArray, List.set_cons_zero, List.set_cons_succ])
  refine takeH (i := 1) (oi := _) (v := ?_) rfl (by kernel_rfl) (by kernel_rfl) (by kernel_rfl) (fun _ _ _ h => h) (Or.inl ⟨by rfl, ?_⟩) (by assumption) ?_
  rotate_left
  · first | (intro w hSw; (try dsimp only at hSw); go_simp; done) | (intro w hSw; (try dsimp only at hSw); go_simp; with_reducible rfl)
  (try simp only [Act.put, List.setIfInBounds_toArray, List.set_cons_zero, List.set_cons_succ])
  refine takeH (i := 3) (oi := _) (v := ?_) rfl (by kernel_rfl) (by kernel_rfl) (by kernel_rfl) (fun _ _ _ h => h) (Or.inl ⟨by rfl, ?_⟩) (by assumption) ?_
  rotate_left
  · first | (intro w hSw; (try dsimp only at hSw); go_simp; done) | (intro w hSw; (try dsimp only at hSw); go_simp; with_reducible rfl)
  (try simp only [Act.put, List.setIfInBounds_toArray, List.set_cons_zero, List.set_cons_succ])
  refine wpAnyH_ready (rs := [2]) (by kernel_rfl) (by simp) ?_
  refine consH rfl (fun Kq hKq => ?_)
  go_simp
  (go_at_call 138; refine (spec_l2Kids _ _ _ _ _ _ ps ws (X : Int) _ (H.out.below (hbb.trans (Below.mono (by assumption : KeepR w2 _ ∧ _).1 hbb.size))) HT.out.toPa (by omega)).mono ?_; rintro e w5 ⟨v5, rfl, o5, b5⟩; rw [Int.toNat_natCast] at o5; have hk5 := KeepR.next b5 (by assumption : KeepR w2 _ ∧ _).1)
  refine hKq.out _ _ ?_ (fun hHeld1 => ?_)
  · (try dsimp only); first | exact keep2 (by assumption) hPP.out | exact keep2 (KeepR.start _) hPP.out | exact keep2 (KeepR.alloc0 _ _) hPP.out | exact keep2 (KeepR.alloc (by assumption : KeepR w2 _ ∧ _).1 _) hPP.out
  clear hKq Kq
  (try simp only [Act.put, List.setIfInBounds_toArray, List.set_cons_zero, List.set_cons_succ])
  clear hHeld0
  refine wpAnyH_ready (rs := [4]) (by kernel_rfl) (by simp) ?_
  refine consH rfl (fun Kq hKq => ?_)
  go_simp
  (go_at_call 127; refine (spec_l2Sums _ _ _ _ _ _ ps ws _ (H.out.below (hbb.trans (Below.mono (by assumption : KeepR w2 _ ∧ _).1 hbb.size))) HT.out).mono ?_; rintro e w6 ⟨v6, rfl, o6, b6⟩; have hk6 := KeepR.next b6 (by assumption : KeepR w2 _ ∧ _).1)
  refine hKq.out _ _ ?_ (fun hHeld2 => ?_)
  · (try dsimp only); first | exact keep2 (by assumption) hPP.out | exact keep2 (KeepR.start _) hPP.out | exact keep2 (KeepR.alloc0 _ _) hPP.out | exact keep2 (KeepR.alloc (by assumption : KeepR w2 _ ∧ _).1 _) hPP.out
  clear hKq Kq
  (try simp only [Act.put, List.setIfInBounds_toArray, List.set_cons_zero, List.set_cons_succ])
  clear hHeld1
  refine takeH (i := 5) (oi := _) (v := ?_) rfl (by kernel_rfl) (by kernel_rfl) (by kernel_rfl) (fun _ _ _ h => h) (Or.inl ⟨by rfl, ?_⟩) (by assumption) ?_
  rotate_left
  · first | (intro w hSw; (try dsimp only at hSw); go_simp; done) | (intro w hSw; (try dsimp only at hSw); go_simp; with_reducible rfl)
  (try simp only [Act.put, List.setIfInBounds_toArray, List.set_cons_zero, List.set_cons_succ])
  refine takeH (i := 6) (oi := _) (v := ?_) rfl (by kernel_rfl) (by kernel_rfl) (by kernel_rfl) (fun _ _ _ h => h) (Or.inl ⟨by rfl, ?_⟩) (by assumption) ?_
  rotate_left
  · first | (intro w hSw; (try dsimp only at hSw); go_simp; done) | (intro w hSw; (try dsimp only at hSw); go_simp; with_reducible rfl)
  (try simp only [Act.put, List.setIfInBounds_toArray, List.set_cons_zero, List.set_cons_succ])
  refine wpAnyH_done (by kernel_rfl) ?_ _
  refine NoPanic.normal ?_
  obtain ⟨aK, cK, rfl⟩ := o5.shape
  obtain ⟨a6, c6, rfl⟩ := o6.shape
  obtain ⟨nK, hnK⟩ : ∃ z, z = (kids ps X).length := ⟨_, rfl⟩
  have Hsl : Hid ((sums ps ws).length = nP) := Lib.hid (by rw [sums_length HT.out]; exact Hl.out)
  rw [Hsl.out] at o6 ⊢
  rw [← hnK] at o5 ⊢
  have HG := Lib.hid o6.ints
  have Hsep : Hid (∀ p, a6 = some p → w.heap.size + 1 < p.block) := Lib.hid fun p hp => by
    subst hp
    have h1 := (World.ownsRow.lt o6 _ rfl).1
    have h2 := Below.size hk5
    have h3 := hPP.out.lt
    have h4 := HR1.out.lt
    omega
  have HK := Lib.hid (o5.below b6).ints
  have hb16 := hbb.trans (Below.mono hk6 hbb.size)
  have HR := Lib.hid (HR1.out.below hk6)
  have HnK := Lib.hid hnK
  obtain ⟨W6, hW6⟩ : ∃ z, z = w6 := ⟨_, rfl⟩
  rw [← hW6] at HG HK hb16 HR ⊢
  clear hW6 c0 c1 b6 o6 b5 o5 HR1 hPP hlt2 hbb hk6 hk5 hnK
  try clear hHeld0
  try clear hHeld1
  try clear hHeld2
  have Hkx : Hid (∀ k, k < nK → ∃ Y : Nat, Y < nP ∧ nth (kids ps X) k = (Y : Int)) := Lib.hid fun k hk => by
    obtain ⟨Y, h1, _, h2⟩ := nth_filt (show k < (kids ps X).length by have := HnK.out; omega)
    exact ⟨Y, by have := Hl.out; omega, h2⟩
  have hsb := sums_bd HT.out X
  have hsp := sums_pos HT.out X hXp
  have hkl : nK ≤ 24 := by
    have h1 : (kids ps X).length ≤ ps.length := by rw [kids]; exact filt_length _ _
    have := HnK.out; have := Hl.out; omega
  cases he : endB ps X
  rotate_left
  · have h0 : nK = 0 := by
      have h1 := kids_isEmpty (ps := ps) (x := X)
      rw [he] at h1
      have h2 : (kids ps X).length = 0 := by simpa using h1.symm
      have := HnK.out; omega
    subst h0
    have Hz := Lib.hid (nm_zero1 hsp)
    have Hd := Lib.hid (dr_end (ws := ws) (l := l) he)
    have hR9 := HR.out
    have q3 := hR9.c0
    have q4 := hR9.c1
    have q5 := hR9.f0
    have q6 := hR9.f1
    have hr := hR9.set (.int .i64 0) (.int .i64 1)
    clear he hR9
    go_wp2_with fail
    exact bodyPost_ret (v := .agg #[.int .i64 0, .int .i64 1]) (by simp [results, Try.results149, go_sem, hr.1, hr.2]) rfl ⟨by rw [Hd.out, Hz.out.1, Hz.out.2], (hb16.setCell (by simp) _).setCell (by simp) _⟩
  have hk0 : ¬ nK = 0 := by
    have h1 := kids_isEmpty (ps := ps) (x := X)
    rw [he] at h1
    have h2 : ¬ (kids ps X).length = 0 := by simpa using h1.symm
    have := HnK.out; omega
  have hkb : ((nK : Int) == 0) = false := by rw [beq_eq_false_iff_ne]; omega
  have Hbd : Hid (∀ k : Nat, k ≤ 24 → -11508480 ≤ mS (sums ps ws) l (kids ps X) k ∧ mS (sums ps ws) l (kids ps X) k ≤ 11508480) := Lib.hid fun k hk => by have := mS_bd (rule := kids ps X) HT.out Hpl.out k; omega
  have Hmu : Hid (∀ x : Nat, -479520 ≤ nth (sums ps ws) x * nth l x ∧ nth (sums ps ws) x * nth l x ≤ 479520) := Lib.hid fun x => by rw [Int.mul_comm]; exact mul_abs (B := 999) (U := 480) (Hpl.out x) (sums_bd HT.out x) (by omega)
  have Hmul0 : Hid (mS (sums ps ws) l (kids ps X) 0 = 0) := Lib.hid rfl
  have Hstep : Hid (∀ (k x : Nat), nth (kids ps X) k = (x : Int) → mS (sums ps ws) l (kids ps X) (k + 1) = mS (sums ps ws) l (kids ps X) k + nth (sums ps ws) x * nth l x) := Lib.hid fun k x hx => by
    rw [mS, hx, Int.toNat_natCast]
  have Hend : Hid (drA ps ws l X = mS (sums ps ws) l (kids ps X) nK - nth (sums ps ws) X * nth l X) := Lib.hid (by rw [HnK.out]; exact dr_inner HT.out hXp he)
  have Hcut : Hid (∀ W : World, Calls Try.prog 128 #[.int .i64 (mS (sums ps ws) l (kids ps X) nK - nth (sums ps ws) X * nth l X), .int .i64 (nth (sums ps ws) X)] W fun e w' => e = .returned (.agg #[.int .i64 (nm (drA ps ws l X) (nth (sums ps ws) X)), .int .i64 (dn (drA ps ws l X) (nth (sums ps ws) X))]) ∧ Below W.heap.size W w') := Lib.hid fun W => by
    have := Hbd.out nK hkl
    have := Hmu.out X
    rw [Hend.out]
    exact spec_l2Cut _ _ W (by omega) (by omega)
  generalize hgn : nm (drA ps ws l X) (nth (sums ps ws) X) = gn at *
  generalize hgd : dn (drA ps ws l X) (nth (sums ps ws) X) = gd at *
  have Hgn := Lib.hid hgn
  have Hgd := Lib.hid hgd
  clear hgn hgd
  clear hsb hsp he
  go_wp2_with fail
  go_loopw [9, 10] (fun v9 v10 wr => ∃ k : Nat, k ≤ nK ∧ v9 = .int .i64 (mS (sums ps ws) l (kids ps X) k) ∧ v10 = .int .i64 (k : Int) ∧ Below W6.heap.size W6 wr) (fun _ v10 _ => nK - (intOf v10).toNat)
  case atStart => exact ⟨0, Nat.zero_le _, by rw [Hmul0.out], rfl, Below.refl _ _⟩
  case round =>
    obtain ⟨k, hk, rfl, rfl, hbel⟩ := hrel
    have hbelw := hb16.trans (hbel.mono hb16.size)
    by_cases hlt : (k : Int) < nK
    · obtain ⟨b1, o1, rfl, hc1⟩ := HK.out.at (i := k) hbel (by omega)
      obtain ⟨x, hx, hxe⟩ := Hkx.out k (by omega)
      rw [hxe] at hc1
      obtain ⟨b2, o2, rfl, hc2⟩ := HL.out.at (i := x) hbelw (by omega)
      obtain ⟨b3, o3, rfl, hc3⟩ := HG.out.at (i := x) hbel (by omega)
      have Hst2 := Lib.hid (Hstep.out k x hxe)
      have h1 := Hbd.out k (by omega)
      have h2 := Hmu.out x
      clear hxe
      generalize mS (sums ps ws) l (kids ps X) k = sm at *
      generalize hu : nth l x = u at *
      generalize hv : nth (sums ps ws) x = v at *
      have k1 : IntKind.i64.wrap (v * u) = v * u := IntWalk.i64_in _ (by omega)
      have k2 : IntKind.i64.wrap (sm + v * u) = sm + v * u := IntWalk.i64_in _ (by omega)
      have k3 : (0 : Int) ≤ (x : Int) := by omega
      have k4 : (x : Int) < (nP : Int) := by omega
      have k5 : (0 : Int) ≤ (k : Int) := by omega
      clear hu hv h1 h2
      go_wp2_with fail
      go_quiet (fail)
      go_wp2_with fail
      go_roundw
      case rel => exact ⟨k + 1, by omega, by rw [Hst2.out], by go_num, below_drewN hbel _⟩
      case measure => simp [intOf]; omega
    · obtain rfl : k = nK := by omega
      obtain ⟨b3, o3, rfl, hc3⟩ := HG.out.at (i := X) hbel (by omega)
      have hs3 := Hsep.out _ rfl
      obtain ⟨b2, o2, rfl, hb2w, hc2⟩ := HL.out.at2 (i := X) hbelw (by omega)
      have n3 : b3 ≠ w.heap.size + 1 := by simp at hs3; omega
      have n2 : b2 ≠ w.heap.size + 1 := by omega
      have h1 := Hbd.out k (by omega)
      have h2 := Hmu.out X
      clear Hbd Hmu Hstep Hend Hmul0 Hkx
      generalize mS (sums ps ws) l (kids ps X) k = gs at *
      generalize hs0 : nth (sums ps ws) X = s0 at *
      generalize hl0 : nth l X = l0 at *
      have k1 : IntKind.i64.wrap (s0 * l0) = s0 * l0 := IntWalk.i64_in _ (by omega)
      have k2 : IntKind.i64.wrap (gs - s0 * l0) = gs - s0 * l0 := IntWalk.i64_in _ (by omega)
      have k3 : (0 : Int) ≤ (X : Int) := by omega
      have k4 : (X : Int) < (nP : Int) := by omega
      have Hs0 := Lib.hid hs0
      clear hs0 hl0 h1 h2
      have HR9 := Lib.hid (HR.out.below hbel)
      have N3 := Lib.hid n3
      have N2 := Lib.hid n2
      clear n3 n2 hs3 hb2w
      go_wp2_with fail
      refine wp_region_noPanic ?_
      refine wp_region_held_drew (S := (fun W' => W'.cell? ⟨b3, o3 + X, none⟩ = some (.int .i64 s0) ∧ W'.cell? ⟨b2, o2 + X, none⟩ = some (.int .i64 l0))) (by kernel_rfl) ?_ (fun hHeld0 => ?_)
      · (try dsimp only); first | assumption | exact ⟨hc3, hc2⟩ | exact ⟨cell_far (cell_far hSS.1 N3.out) N3.out, cell_far (cell_far hSS.2 N2.out) N2.out⟩
      refine takeH (i := 0) (oi := _) (v := ?_) rfl (by kernel_rfl) (by kernel_rfl) (by kernel_rfl) (fun _ _ _ h => h) (Or.inl ⟨by rfl, ?_⟩) (by assumption) ?_
      rotate_left
      · first | (intro w hSw; (try dsimp only at hSw); go_simp; done) | (intro w hSw; (try dsimp only at hSw); go_simp; with_reducible rfl)
      (try simp only [Act.put, List.setIfInBounds_toArray, List.set_cons_zero, List.set_cons_succ])
      refine takeH (i := 1) (oi := _) (v := ?_) rfl (by kernel_rfl) (by kernel_rfl) (by kernel_rfl) (fun _ _ _ h => h) (Or.inl ⟨by rfl, ?_⟩) (by assumption) ?_
      rotate_left
      · first | (intro w hSw; (try dsimp only at hSw); go_simp; done) | (intro w hSw; (try dsimp only at hSw); go_simp; with_reducible rfl)
      (try simp only [Act.put, List.setIfInBounds_toArray, List.set_cons_zero, List.set_cons_succ])
      refine takeH (i := 2) (oi := _) (v := ?_) rfl (by kernel_rfl) (by kernel_rfl) (by kernel_rfl) (fun _ _ _ h => h) (Or.inl ⟨by rfl, ?_⟩) (by assumption) ?_
      rotate_left
      · first | (intro w hSw; (try dsimp only at hSw); go_simp; done) | (intro w hSw; (try dsimp only at hSw); go_simp; with_reducible rfl)
      (try simp only [Act.put, List.setIfInBounds_toArray, List.set_cons_zero, List.set_cons_succ])
      refine takeH (i := 3) (oi := _) (v := ?_) rfl (by kernel_rfl) (by kernel_rfl) (by kernel_rfl) (fun _ _ _ h => h) (Or.inl ⟨by rfl, ?_⟩) (by assumption) ?_
      rotate_left
      · first | (intro w hSw; (try dsimp only at hSw); go_simp; done) | (intro w hSw; (try dsimp only at hSw); go_simp; with_reducible rfl)
      (try simp only [Act.put, List.setIfInBounds_toArray, List.set_cons_zero, List.set_cons_succ])
      refine takeH (i := 4) (oi := _) (v := ?_) rfl (by kernel_rfl) (by kernel_rfl) (by kernel_rfl) (fun _ _ _ h => h) (Or.inl ⟨by rfl, ?_⟩) (by assumption) ?_
      rotate_left
      · first | (intro w hSw; (try dsimp only at hSw); go_simp; done) | (intro w hSw; (try dsimp only at hSw); go_simp; with_reducible rfl)
      (try simp only [Act.put, List.setIfInBounds_toArray, List.set_cons_zero, List.set_cons_succ])
      refine takeH (i := 5) (oi := _) (v := ?_) rfl (by kernel_rfl) (by kernel_rfl) (by kernel_rfl) (fun _ _ _ h => h) (Or.inl ⟨by rfl, ?_⟩) (by assumption) ?_
      rotate_left
      · first | (intro w hSw; (try dsimp only at hSw); go_simp; done) | (intro w hSw; (try dsimp only at hSw); go_simp; with_reducible rfl)
      (try simp only [Act.put, List.setIfInBounds_toArray, List.set_cons_zero, List.set_cons_succ])
      refine takeH (i := 6) (oi := _) (v := ?_) rfl (by kernel_rfl) (by kernel_rfl) (by kernel_rfl) (fun _ _ _ h => h) (Or.inl ⟨by rfl, ?_⟩) (by assumption) ?_
      rotate_left
      · first | (intro w hSw; (try dsimp only at hSw); go_simp; done) | (intro w hSw; (try dsimp only at hSw); go_simp; with_reducible rfl)
      (try simp only [Act.put, List.setIfInBounds_toArray, List.set_cons_zero, List.set_cons_succ])
      refine takeH (i := 7) (oi := _) (v := ?_) rfl (by kernel_rfl) (by kernel_rfl) (by kernel_rfl) (fun _ _ _ h => h) (Or.inl ⟨by rfl, ?_⟩) (by assumption) ?_
      rotate_left
      · first | (intro w hSw; (try dsimp only at hSw); go_simp; done) | (intro w hSw; (try dsimp only at hSw); go_simp; with_reducible rfl)
      (try simp only [Act.put, List.setIfInBounds_toArray, List.set_cons_zero, List.set_cons_succ])
      refine takeH (i := 8) (oi := _) (v := ?_) rfl (by kernel_rfl) (by kernel_rfl) (by kernel_rfl) (fun _ _ _ h => h) (Or.inl ⟨by rfl, ?_⟩) (by assumption) ?_
      rotate_left
      · first | (intro w hSw; (try dsimp only at hSw); go_simp; done) | (intro w hSw; (try dsimp only at hSw); go_simp; with_reducible rfl)
      (try simp only [Act.put, List.setIfInBounds_toArray, List.set_cons_zero, List.set_cons_succ])
      refine takeH (i := 9) (oi := _) (v := ?_) rfl (by kernel_rfl) (by kernel_rfl) (by kernel_rfl) (fun _ _ _ h => h) (Or.inl ⟨by rfl, ?_⟩) (by assumption) ?_
      rotate_left
      · first | (intro w hSw; (try dsimp only at hSw); go_simp; done) | (intro w hSw; (try dsimp only at hSw); go_simp; with_reducible rfl)
      (try simp only [Act.put, List.setIfInBounds_toArray, List.set_cons_zero, List.set_cons_succ])
      refine takeH (i := 10) (oi := _) (v := ?_) rfl (by kernel_rfl) (by kernel_rfl) (by kernel_rfl) (fun _ _ _ h => h) (Or.inl ⟨by rfl, ?_⟩) (by assumption) ?_
      rotate_left
      · first | (intro w hSw; (try dsimp only at hSw); go_simp; done) | (intro w hSw; (try dsimp only at hSw); go_simp; with_reducible rfl)
      (try simp only [Act.put, List.setIfInBounds_toArray, List.set_cons_zero, List.set_cons_succ])
      refine takeH (i := 11) (oi := _) (v := ?_) rfl (by kernel_rfl) (by kernel_rfl) (by kernel_rfl) (fun _ _ _ h => h) (Or.inl ⟨by rfl, ?_⟩) (by assumption) ?_
      rotate_left
      · first | (intro w hSw; (try dsimp only at hSw); go_simp; done) | (intro w hSw; (try dsimp only at hSw); go_simp; with_reducible rfl)
      (try simp only [Act.put, List.setIfInBounds_toArray, List.set_cons_zero, List.set_cons_succ])
      refine takeH (i := 12) (oi := _) (v := ?_) rfl (by kernel_rfl) (by kernel_rfl) (by kernel_rfl) (fun _ _ _ h => h) (Or.inl ⟨by rfl, ?_⟩) (by assumption) ?_
      rotate_left
      · first | (intro w hSw; (try dsimp only at hSw); go_simp; done) | (intro w hSw; (try dsimp only at hSw); go_simp; with_reducible rfl)
      (try simp only [Act.put, List.setIfInBounds_toArray, List.set_cons_zero, List.set_cons_succ])
      refine takeH (i := 13) (oi := _) (v := ?_) rfl (by kernel_rfl) (by kernel_rfl) (by kernel_rfl) (fun _ _ _ h => h) (Or.inl ⟨by rfl, ?_⟩) (by assumption) ?_
      rotate_left
      · first | (intro w hSw; (try dsimp only at hSw); go_simp; done) | (intro w hSw; (try dsimp only at hSw); go_simp; with_reducible rfl)
      (try simp only [Act.put, List.setIfInBounds_toArray, List.set_cons_zero, List.set_cons_succ])
      refine takeH (i := 14) (oi := _) (v := ?_) rfl (by kernel_rfl) (by kernel_rfl) (by kernel_rfl) (fun _ _ _ h => h) (Or.inl ⟨by rfl, ?_⟩) (by assumption) ?_
      rotate_left
      · first | (intro w hSw; (try dsimp only at hSw); go_simp; done) | (intro w hSw; (try dsimp only at hSw); go_simp; with_reducible rfl)
      (try simp only [Act.put, List.setIfInBounds_toArray, List.set_cons_zero, List.set_cons_succ])
      refine wpAnyH_ready (rs := [15]) (by kernel_rfl) (by simp) ?_
      refine consH rfl (fun Kq hKq => ?_)
      go_simp
      (go_at_call 128; refine (Hcut.out _).mono ?_; rintro e w9 ⟨rfl, b9⟩
       have b92 := (Below.refl wr.heap.size wr).drew.trans b9
       have hb9 := hbelw.trans (b92.mono hbelw.size)
       have hR9 := HR9.out.below b92
       have q3 := hR9.c0
       have q4 := hR9.c1
       have q5 := hR9.f0
       have q6 := hR9.f1
       have hr := hR9.set (.int .i64 gn) (.int .i64 gd)
       have hSS := And.intro (cell_up b92 hc3) (cell_up b92 hc2))
      refine hKq.out _ _ ?_ (fun hHeld1 => ?_)
      · (try dsimp only); first | assumption | exact ⟨hc3, hc2⟩ | exact ⟨cell_far (cell_far hSS.1 N3.out) N3.out, cell_far (cell_far hSS.2 N2.out) N2.out⟩
      clear hKq Kq
      (try simp only [Act.put, List.setIfInBounds_toArray, List.set_cons_zero, List.set_cons_succ])
      clear hHeld0
      refine wpAnyH_ready (rs := [16]) (by kernel_rfl) (by simp) ?_
      refine consH rfl (fun Kq hKq => ?_)
      go_simp
      refine hKq.out _ _ ?_ (fun hHeld2 => ?_)
      · (try dsimp only); first | assumption | exact ⟨hc3, hc2⟩ | exact ⟨cell_far (cell_far hSS.1 N3.out) N3.out, cell_far (cell_far hSS.2 N2.out) N2.out⟩
      clear hKq Kq
      (try simp only [Act.put, List.setIfInBounds_toArray, List.set_cons_zero, List.set_cons_succ])
      clear hHeld1
      refine wpAnyH_done (by kernel_rfl) ?_ _
      refine NoPanic.normal ?_
      go_wp2_with fail
      exact bodyPost_ret (v := .agg #[.int .i64 gn, .int .i64 gd]) (by simp [results, Try.results149, go_sem, hr.1, hr.2]) rfl ⟨by rw [Hs0.out, Hgn.out, Hgd.out], (hb9.setCell (by simp) _).setCell (by simp) _⟩
set_option maxRecDepth 100000 in
set_option maxHeartbeats 2000000 in
theorem spec_l3Drifts (aP : Option Addr) (nP cP : Nat) (aW : Option Addr) (nW cW : Nat) (ps ws : List Int) (aL : Option Addr) (nL cL : Nat) (l : List Int) (w : World) (h : Tre w aP nP cP aW nW cW ps ws) (hT : Tr ps ws) (hL : Ints w aL nL l) (hl : ∀ i, -999 ≤ nth l i ∧ nth l i ≤ 999) (hn : nP = nL) :
    Calls Try.prog 98 #[.agg #[.slice aP nP cP, .slice aW nW cW], .slice aL nL cL] w fun e w' => ∃ v, e = .returned v ∧ Fr.Own w' w.heap.size v (driftL ps ws l) ∧ Below w.heap.size w w' := by
  have HLn := Lib.hid hn
  subst hn
  have HL := Lib.hid hL
  have Hpl := Lib.hid hl
  clear hL hl
  have hn24 := hT.n24
  have hn1 := hT.n1
  have HT := Lib.hid hT
  have hwl := hT.wl
  have hl := h.p.1
  have hlw := h.w.1
  have hpn := h.pn
  have hwn := h.wn
  have hb1 := below_new w (.cells #[.slice aP nP cP, .slice aW nW cW] 26)
  have hP1 := Lib.hid (Pair.new w (.slice aP nP cP) (.slice aW nW cW) 26)
  have H := Lib.hid h
  have Hl := Lib.hid hl
  have Hlw := Lib.hid hlw
  clear h hl hlw
  have hnW : nW ≤ nP ∧ nP ≤ nW := by have := Hlw.out; have := Hl.out; omega
  have hnP : 1 ≤ nP ∧ nP ≤ 24 := by have := Hl.out; omega
  clear hn24 hn1 hT hwl hpn hwn
  go_enter Try.func98, Try.ntmps98
  have hlt2 := hP1.out.lt
  go_wp2_with fail
  have hnil := Fr.own_nil0 (w.alloc (.cells #[.slice aP nP cP, .slice aW nW cW] 26))
  rw [show (w.alloc (.cells #[.slice aP nP cP, .slice aW nW cW] 26)).heap.size = w.heap.size + 1 by simp] at hnil
  have hb2 : Below w.heap.size w ((w.alloc (.cells #[.slice aP nP cP, .slice aW nW cW] 26)).alloc (.cells #[] 48)) := hb1.alloc (by simp) _
  have hP2 := Lib.hid (hP1.out.alloc (.cells #[] 48))
  have hs2 : ((w.alloc (.cells #[.slice aP nP cP, .slice aW nW cW] 26)).alloc (.cells #[] 48)).heap.size = w.heap.size + 2 := by simp
  generalize ((w.alloc (.cells #[.slice aP nP cP, .slice aW nW cW] 26)).alloc (.cells #[] 48)) = w2 at *
  clear hP1 hb1 hlt2
  have HN := Lib.hid hnil
  have hdl : (driftL ps ws l).length = nP := by rw [driftL_length]; exact Hl.out
  have Hdl := Lib.hid hdl
  have Hdt : Hid (∀ k, k < nP → (driftL ps ws l).take (k + 1) = (driftL ps ws l).take k ++ [(nm (drA ps ws l k) (nth (sums ps ws) k), dn (drA ps ws l k) (nth (sums ps ws) k))]) := Lib.hid fun k hk => driftL_take ps ws l (by have := Hl.out; omega)
  clear hnil hdl
  go_wp2_with fail
  go_loopw [5, 6] (fun v5 v6 wr => ∃ k : Nat, k ≤ nP ∧ v6 = .int .i64 (k : Int) ∧ Fr.Own wr (w.heap.size + 1) v5 ((driftL ps ws l).take k) ∧ Pair wr w.heap.size (.slice aP nP cP) (.slice aW nW cW) ∧ Below w.heap.size w wr) (fun _ v6 _ => nP - (intOf v6).toNat)
  case atStart => exact ⟨0, Nat.zero_le _, rfl, by rw [List.take_zero]; exact HN.out, hP2.out, hb2⟩
  case round =>
    clear HN hP2 hb2 hs2
    obtain ⟨k, hk, rfl, hown, hP, hbel⟩ := hrel
    have HP := Lib.hid hP
    have HO := Lib.hid hown
    have c0 := hP.c0
    have c1 := hP.c1
    have hsz := hP.lt
    clear hP hown
    by_cases hlt : (k : Int) < nP
    · have Hcd : Hid (∀ W : World, Below w.heap.size w W → Calls Try.prog 149 #[.agg #[.slice aP nP cP, .slice aW nW cW], .slice aL nP cL, .int .i64 (k : Int)] W fun e w' => e = .returned (.agg #[.int .i64 (nm (drA ps ws l k) (nth (sums ps ws) k)), .int .i64 (dn (drA ps ws l k) (nth (sums ps ws) k))]) ∧ Below W.heap.size W w') := Lib.hid fun W hW => spec_l3Drift _ _ _ _ _ _ ps ws _ _ _ l k W (H.out.below hW) HT.out (HL.out.below hW) Hpl.out rfl (by omega)
      have Hst := Lib.hid (Hdt.out k (by omega))
      generalize nm (drA ps ws l k) (nth (sums ps ws) k) = gn at *
      generalize dn (drA ps ws l k) (nth (sums ps ws) k) = gd at *
      have hol : ((driftL ps ws l).take k).length ≤ 24 := by rw [List.length_take]; omega
      generalize (driftL ps ws l).take k = acc at *
      go_wp2_with (first
        | (go_at_call 149; refine (Hcd.out _ hbel).mono ?_; rintro e w7 ⟨rfl, b7⟩
           have hO7 := HO.out.below b7
           have hs7 : w.heap.size + 1 ≤ w7.heap.size := Nat.le_trans hsz b7.size)
        | (at_builtin; refine Fr.wp_push2 _ _ rfl rfl (w.heap.size + 1) _ _ rfl hO7 rfl (by omega) hs7 ?_; intro v' w' ho hb hm))
      go_roundw
      case rel => exact ⟨k + 1, by omega, by go_num, by rw [Hst.out]; exact ho, (HP.out.below b7).up hb (by omega), (hbel.trans (b7.mono hbel.size)).trans (hb.mono (by omega))⟩
      case measure => simp [intOf]; omega
    · obtain rfl : k = nP := by omega
      have hfin : (driftL ps ws l).take k = driftL ps ws l := List.take_of_length_le (by have := Hdl.out; omega)
      have HO2 := HO.out
      rw [hfin] at HO2
      go_wp2_with fail
      go_ret
      exact ⟨_, rfl, HO2.mono (Nat.le_succ _), hbel⟩
/-- No drift is greater than 0, and, if fair, none is less. -/
def stdB (ps ws l : List Int) (fair : Bool) : Bool := if fair then balB ps ws l else fallB ps ws l
end Go.Proofs.Ytnbomleieianoaa

/- Plain law behind FnDrifts: what the drifts tell. No conditions but those stated. -/
namespace Go.Proofs.Ytnbomleieianoaa

theorem driftL_at {ps ws l : List Int} {x : Nat} (h : x < ps.length) : Fr.at1 (driftL ps ws l) x = nm (drA ps ws l x) (nth (sums ps ws) x) ∧ Fr.at2 (driftL ps ws l) x = dn (drA ps ws l x) (nth (sums ps ws) x) := by
  constructor
  · rw [Fr.at1, driftL]; simp [List.getD, h]
  · rw [Fr.at2, driftL]; simp [List.getD, h]
theorem drA_bd {ps ws l : List Int} (h : Tr ps ws) (hl : ∀ i, -999 ≤ nth l i ∧ nth l i ≤ 999) (x : Nat) : -23016960 ≤ drA ps ws l x ∧ drA ps ws l x ≤ 23016960 := by
  have h1 := sumOf_abs (B := 959040) (by omega) (drT_bd h hl x) (kids ps x)
  rw [dr_sum] at h1
  have h2 : (kids ps x).length ≤ ps.length := by rw [kids]; exact filt_length _ _
  have h3 := h.n24
  omega
/-- What is read of a drift. -/
theorem drf_at {ps ws l : List Int} (h : paysB ps ws l = true) {x : Nat} (hx : x < ps.length) :
    (1 ≤ nth (sums ps ws) x ∧ nth (sums ps ws) x ≤ 480) ∧ (-23016960 ≤ Fr.at1 (driftL ps ws l) x ∧ Fr.at1 (driftL ps ws l) x ≤ 23016960) ∧ (1 ≤ Fr.at2 (driftL ps ws l) x ∧ Fr.at2 (driftL ps ws l) x ≤ 480) ∧
    (endB ps x = false → Fr.at1 (driftL ps ws l) x * nth (sums ps ws) x = (mS (sums ps ws) l (kids ps x) (kids ps x).length - nth (sums ps ws) x * nth l x) * Fr.at2 (driftL ps ws l) x) ∧
    (endB ps x = true → Fr.at1 (driftL ps ws l) x * nth (sums ps ws) x = (nth (sums ps ws) x * nth l x - nth (sums ps ws) x * nth l x) * Fr.at2 (driftL ps ws l) x) ∧
    (Fr.at1 (driftL ps ws l) x = 0 ↔ drA ps ws l x = 0) ∧ (Fr.at1 (driftL ps ws l) x ≤ 0 ↔ drA ps ws l x ≤ 0) := by
  obtain ⟨hT, _, _, _, hl⟩ := paysB_t h
  have hs := sums_pos hT x hx
  have hs2 := (sums_bd hT x).2
  have hd := drA_bd hT hl x
  have ha := nm_abs (drA ps ws l x) (nth (sums ps ws) x)
  have hp := dn_pos (drA ps ws l x) (nth (sums ps ws) x) (by omega)
  have hm := nm_mul (drA ps ws l x) (nth (sums ps ws) x) (by omega)
  obtain ⟨e1, e2⟩ := driftL_at (ps := ps) (ws := ws) (l := l) hx
  rw [e1, e2]
  refine ⟨⟨hs, hs2⟩, by omega, by omega, fun he => ?_, fun he => ?_, nm_zero (by omega), nm_low (by omega)⟩
  · rw [hm, ← dr_inner hT hx he]
  · rw [hm, dr_end he]; simp
theorem mul_abs3 {a b M N : Int} (h1 : -M ≤ a ∧ a ≤ M) (h2 : -N ≤ b ∧ b ≤ N) : -(M * N) ≤ a * b ∧ a * b ≤ M * N := by
  have e1 : a.natAbs * b.natAbs ≤ M.natAbs * N.natAbs := Nat.mul_le_mul (by omega) (by omega)
  have e2 : (a * b).natAbs = a.natAbs * b.natAbs := Int.natAbs_mul a b
  have e3 : (M * N).natAbs = M.natAbs * N.natAbs := Int.natAbs_mul M N
  have e4 : 0 ≤ M * N := Int.mul_nonneg (by omega) (by omega)
  omega
def noB (dl : List (Int × Int)) (k : Nat) : Bool := (List.range k).all fun x => Fr.at1 dl x == 0
def loB (dl : List (Int × Int)) (k : Nat) : Bool := (List.range k).all fun x => decide (Fr.at1 dl x ≤ 0)
theorem noB_succ (dl : List (Int × Int)) (k : Nat) : noB dl (k + 1) = (noB dl k && (Fr.at1 dl k == 0)) := by
  unfold noB; rw [List.range_succ, List.all_append]; simp
theorem loB_succ (dl : List (Int × Int)) (k : Nat) : loB dl (k + 1) = (loB dl k && decide (Fr.at1 dl k ≤ 0)) := by
  unfold loB; rw [List.range_succ, List.all_append]; simp
theorem all_rng {p q : Nat → Bool} : ∀ {n : Nat}, (∀ x, x < n → p x = q x) → (List.range n).all p = (List.range n).all q
  | 0, _ => rfl
  | n + 1, h => by
    rw [List.range_succ, List.all_append, List.all_append, all_rng (n := n) fun x hx => h x (by omega)]
    simp [h n (by omega)]
theorem noB_all {ps ws l : List Int} (h : paysB ps ws l = true) : noB (driftL ps ws l) ps.length = balB ps ws l :=
  all_rng fun x hx => by
    have := (drf_at h hx).2.2.2.2.2.1
    rw [Bool.eq_iff_iff, beq_iff_eq, beq_iff_eq]; exact this
theorem loB_all {ps ws l : List Int} (h : paysB ps ws l = true) : loB (driftL ps ws l) ps.length = fallB ps ws l :=
  all_rng fun x hx => by
    have := (drf_at h hx).2.2.2.2.2.2
    rw [decide_eq_decide]; exact this
end Go.Proofs.Ytnbomleieianoaa

/- Plain numbers: the fair part of a process and what is known of it. No conditions but those stated. -/
namespace Go.Proofs.Ytnbomleieianoaa

def FrG (x y : Int) : Prop := (-1000000000 ≤ x ∧ x ≤ 1000000000) ∧ (1 ≤ y ∧ y ≤ 1000000) ∧ gcdI x y = 1
theorem frg_of {a b : Int} (hb : b ≠ 0) (h : okF (nm a b) (dn a b) = true) : FrG (nm a b) (dn a b) := by
  unfold okF at h
  simp only [Bool.and_eq_true, decide_eq_true_eq] at h
  have h1 := inB_t h.1
  exact ⟨h1, ⟨dn_pos a b hb, h.2⟩, gcdI_quot a b hb⟩
theorem frg_ok {a b : Int} (h : FrG a b) : okF a b = true := by
  unfold okF; rw [inB_mk h.1.1 h.1.2]; simp [h.2.1.2]
theorem frg_01 : FrG 0 1 := ⟨by omega, by omega, by simp [gcdI]⟩
/-- A sum of two pairs, top and bottom. -/
def adN (x y u v : Int) : Int := nm (x * v + u * y) (y * v)
def adD (x y u v : Int) : Int := dn (x * v + u * y) (y * v)
/-- One more known number. -/
def knOne (ps ws l : List Int) (acc : List (Int × Int)) (x : Nat) : Int × Int :=
  if x = 0 then (0, 1) else (adN (Fr.at1 acc (par ps x)) (Fr.at2 acc (par ps x)) (Fr.at1 (driftL ps ws l) (par ps x)) (Fr.at2 (driftL ps ws l) (par ps x)), adD (Fr.at1 acc (par ps x)) (Fr.at2 acc (par ps x)) (Fr.at1 (driftL ps ws l) (par ps x)) (Fr.at2 (driftL ps ws l) (par ps x)))
def knL (ps ws l : List Int) : Nat → List (Int × Int)
  | 0 => []
  | x + 1 => knL ps ws l x ++ [knOne ps ws l (knL ps ws l x) x]
theorem knL_length (ps ws l : List Int) : ∀ k, (knL ps ws l k).length = k
  | 0 => rfl
  | k + 1 => by rw [knL, List.length_append, knL_length ps ws l k]; rfl
def kn1 (ps ws l : List Int) (x : Nat) : Int := Fr.at1 (knL ps ws l (x + 1)) x
def kn2 (ps ws l : List Int) (x : Nat) : Int := Fr.at2 (knL ps ws l (x + 1)) x
theorem fr_app_l {xs : List (Int × Int)} {p : Int × Int} {i : Nat} (h : i < xs.length) : Fr.at1 (xs ++ [p]) i = Fr.at1 xs i ∧ Fr.at2 (xs ++ [p]) i = Fr.at2 xs i := by
  unfold Fr.at1 Fr.at2; simp [List.getD, List.getElem?_append_left h]
theorem fr_app_r {xs : List (Int × Int)} {p : Int × Int} : Fr.at1 (xs ++ [p]) xs.length = p.1 ∧ Fr.at2 (xs ++ [p]) xs.length = p.2 := by
  unfold Fr.at1 Fr.at2; simp [List.getD]
theorem knL_at (ps ws l : List Int) : ∀ (k x : Nat), x < k → Fr.at1 (knL ps ws l k) x = kn1 ps ws l x ∧ Fr.at2 (knL ps ws l k) x = kn2 ps ws l x
  | 0, x, h => by omega
  | k + 1, x, h => by
    by_cases e : x = k
    · subst e; exact ⟨rfl, rfl⟩
    · have h1 := fr_app_l (xs := knL ps ws l k) (p := knOne ps ws l (knL ps ws l k) k) (i := x) (by rw [knL_length]; omega)
      rw [knL, h1.1, h1.2]
      exact knL_at ps ws l k x (by omega)
theorem kn_zero (ps ws l : List Int) : kn1 ps ws l 0 = 0 ∧ kn2 ps ws l 0 = 1 := ⟨rfl, rfl⟩
theorem kn_pair (ps ws l : List Int) (x : Nat) : knOne ps ws l (knL ps ws l x) x = (kn1 ps ws l x, kn2 ps ws l x) := by
  have h := fr_app_r (xs := knL ps ws l x) (p := knOne ps ws l (knL ps ws l x) x)
  rw [knL_length] at h
  unfold kn1 kn2
  rw [knL, h.1, h.2]
theorem kn_up {ps : List Int} (ws l : List Int) {x : Nat} (h1 : 1 ≤ x) (hp : par ps x < x) : kn1 ps ws l x = adN (kn1 ps ws l (par ps x)) (kn2 ps ws l (par ps x)) (Fr.at1 (driftL ps ws l) (par ps x)) (Fr.at2 (driftL ps ws l) (par ps x)) ∧ kn2 ps ws l x = adD (kn1 ps ws l (par ps x)) (kn2 ps ws l (par ps x)) (Fr.at1 (driftL ps ws l) (par ps x)) (Fr.at2 (driftL ps ws l) (par ps x)) := by
  have h := kn_pair ps ws l x
  have ha := knL_at ps ws l x (par ps x) hp
  rw [knOne, if_neg (by omega), ha.1, ha.2] at h
  exact ⟨(congrArg Prod.fst h).symm, (congrArg Prod.snd h).symm⟩
/-- The fair part. -/
def fa1 (ps ws l : List Int) (x : Nat) : Int := nm (nth l x * kn2 ps ws l x - kn1 ps ws l x) (kn2 ps ws l x)
def fa2 (ps ws l : List Int) (x : Nat) : Int := dn (nth l x * kn2 ps ws l x - kn1 ps ws l x) (kn2 ps ws l x)
def okA (ps ws l : List Int) (x : Nat) : Bool := okF (kn1 ps ws l x) (kn2 ps ws l x)
def okB (ps ws l : List Int) (x : Nat) : Bool := okF (fa1 ps ws l x) (fa2 ps ws l x)
def dbB (ps ws l : List Int) : Bool := paysB ps ws l && (List.range ps.length).all fun x => okA ps ws l x && okB ps ws l x
def faL (ps ws l : List Int) (k : Nat) : List (Int × Int) := (List.range k).map fun x => (fa1 ps ws l x, fa2 ps ws l x)
theorem faL_length (ps ws l : List Int) (k : Nat) : (faL ps ws l k).length = k := by simp [faL]
theorem faL_succ (ps ws l : List Int) (k : Nat) : faL ps ws l (k + 1) = faL ps ws l k ++ [(fa1 ps ws l k, fa2 ps ws l k)] := by simp [faL, List.range_succ]
theorem faL_at (ps ws l : List Int) {k x : Nat} (h : x < k) : Fr.at1 (faL ps ws l k) x = fa1 ps ws l x ∧ Fr.at2 (faL ps ws l k) x = fa2 ps ws l x := by
  unfold Fr.at1 Fr.at2 faL; simp [List.getD, h]
theorem knL_succ (ps ws l : List Int) (k : Nat) : knL ps ws l (k + 1) = knL ps ws l k ++ [(kn1 ps ws l k, kn2 ps ws l k)] := by rw [knL, kn_pair]
def dbF (ps ws l : List Int) : List (Int × Int) := if dbB ps ws l then faL ps ws l ps.length else []
def dbK (ps ws l : List Int) : List (Int × Int) := if dbB ps ws l then knL ps ws l ps.length else []
theorem db_no {ps ws l : List Int} (h : dbB ps ws l = false) : dbF ps ws l = [] ∧ dbK ps ws l = [] := by unfold dbF dbK; rw [h]; exact ⟨rfl, rfl⟩
theorem db_yes {ps ws l : List Int} (h : dbB ps ws l = true) : dbF ps ws l = faL ps ws l ps.length ∧ dbK ps ws l = knL ps ws l ps.length := by unfold dbF dbK; rw [h]; exact ⟨rfl, rfl⟩
theorem db_no1 {ps ws l : List Int} (h : paysB ps ws l = false) : dbB ps ws l = false := by rw [dbB, h]; rfl
theorem db_no2 {ps ws l : List Int} {x : Nat} (hx : x < ps.length) (h : (okA ps ws l x && okB ps ws l x) = false) : dbB ps ws l = false := by
  rw [dbB, all_f hx h, Bool.and_false]
theorem db_all {ps ws l : List Int} (h : paysB ps ws l = true) (h2 : ∀ x, x < ps.length → okA ps ws l x = true ∧ okB ps ws l x = true) : dbB ps ws l = true := by
  rw [dbB, h, Bool.true_and]; exact all_t fun x hx => by rw [(h2 x hx).1, (h2 x hx).2]; rfl
theorem dbB_t {ps ws l : List Int} (h : dbB ps ws l = true) : paysB ps ws l = true ∧ ∀ x, x < ps.length → okA ps ws l x = true ∧ okB ps ws l x = true := by
  rw [dbB, Bool.and_eq_true] at h
  exact ⟨h.1, fun x hx => by simpa using all_get h.2 hx⟩
theorem drf_frg {ps ws l : List Int} (h : paysB ps ws l = true) {x : Nat} (hx : x < ps.length) : FrG (Fr.at1 (driftL ps ws l) x) (Fr.at2 (driftL ps ws l) x) := by
  have hz := drf_at h hx
  obtain ⟨e1, e2⟩ := driftL_at (ps := ps) (ws := ws) (l := l) hx
  have hs := sums_pos (paysB_t h).1 x hx
  refine ⟨by omega, by omega, ?_⟩
  rw [e1, e2]; exact gcdI_quot _ _ (by omega)
/-- A known number's bottom is greater than 0, if the one of its parent is. -/
theorem kn_frg {ps ws l : List Int} (h : paysB ps ws l = true) {x : Nat} (hx : x < ps.length) (hA : okA ps ws l x = true) (hU : 1 ≤ x → FrG (kn1 ps ws l (par ps x)) (kn2 ps ws l (par ps x))) : FrG (kn1 ps ws l x) (kn2 ps ws l x) := by
  by_cases h0 : x = 0
  · subst h0; exact frg_01
  · have hp := ((paysB_t h).1.toPa.upN (x := x) (by omega) hx).2
    have hk := hU (by omega)
    have hd := drf_frg h (x := par ps x) (by omega)
    have hu := kn_up (ps := ps) ws l (x := x) (by omega) hp
    unfold okA at hA
    rw [hu.1, hu.2] at hA ⊢
    have hne : kn2 ps ws l (par ps x) * Fr.at2 (driftL ps ws l) (par ps x) ≠ 0 := Int.mul_ne_zero (by have := hk.2.1; omega) (by have := hd.2.1; omega)
    exact frg_of hne hA
theorem fa_frg {ps ws l : List Int} {x : Nat} (hk : FrG (kn1 ps ws l x) (kn2 ps ws l x)) (hB : okB ps ws l x = true) : FrG (fa1 ps ws l x) (fa2 ps ws l x) := by
  unfold okB at hB
  exact frg_of (a := nth l x * kn2 ps ws l x - kn1 ps ws l x) (b := kn2 ps ws l x) (by have := hk.2.1; omega) hB
/-- All known numbers, where the parts are fractions. -/
theorem kn_all {ps ws l : List Int} (h : dbB ps ws l = true) : ∀ n x, x < n → x < ps.length → FrG (kn1 ps ws l x) (kn2 ps ws l x)
  | 0, x, h1, _ => by omega
  | n + 1, x, h1, h2 => by
    obtain ⟨hp, hA⟩ := dbB_t h
    refine kn_frg hp h2 (hA x h2).1 fun hx => ?_
    have hpar := ((paysB_t hp).1.toPa.upN (x := x) hx h2).2
    exact kn_all h n (par ps x) (by omega) (by omega)
/-- Both parts together are the process. -/
theorem parts_sum {ps ws l : List Int} {x : Nat} (hk : FrG (kn1 ps ws l x) (kn2 ps ws l x)) (hf : FrG (fa1 ps ws l x) (fa2 ps ws l x)) : adN (fa1 ps ws l x) (fa2 ps ws l x) (kn1 ps ws l x) (kn2 ps ws l x) = nth l x ∧ adD (fa1 ps ws l x) (fa2 ps ws l x) (kn1 ps ws l x) (kn2 ps ws l x) = 1 := by
  have hm := nm_mul (nth l x * kn2 ps ws l x - kn1 ps ws l x) (kn2 ps ws l x) (by have := hk.2.1; omega)
  have e : fa1 ps ws l x * kn2 ps ws l x + kn1 ps ws l x * fa2 ps ws l x = nth l x * (fa2 ps ws l x * kn2 ps ws l x) := by
    have h1 : fa1 ps ws l x * kn2 ps ws l x = (nth l x * kn2 ps ws l x - kn1 ps ws l x) * fa2 ps ws l x := hm
    rw [h1, Int.sub_mul]
    have : nth l x * kn2 ps ws l x * fa2 ps ws l x = nth l x * (fa2 ps ws l x * kn2 ps ws l x) := by rw [Int.mul_assoc, Int.mul_comm (kn2 ps ws l x)]
    omega
  have hne : fa2 ps ws l x * kn2 ps ws l x ≠ 0 := Int.mul_ne_zero (by have := hf.2.1; omega) (by have := hk.2.1; omega)
  have hc := nm_cross (x := nth l x * (fa2 ps ws l x * kn2 ps ws l x)) (y := fa2 ps ws l x * kn2 ps ws l x) (x' := nth l x) (y' := 1) hne (by omega) (by rw [Int.mul_one])
  have h1 := nm_one (nth l x)
  unfold adN adD
  rw [e, hc.1, hc.2]
  exact h1
/-- A sum of two fractions, when it is one. -/
theorem ad_low {x y u v : Int} (h : lowB (x * v + u * y) (y * v) = true) : lowN (x * v + u * y) (y * v) = adN x y u v ∧ lowD (x * v + u * y) (y * v) = adD x y u v := by
  unfold lowB at h; unfold lowN lowD adN adD; rw [h]; exact ⟨rfl, rfl⟩
theorem ad_bd {x y u v : Int} (h1 : FrG x y) (h2 : FrG u v) : (-1000000000000000 ≤ x * v ∧ x * v ≤ 1000000000000000) ∧ (-1000000000000000 ≤ u * y ∧ u * y ≤ 1000000000000000) ∧ 1 ≤ y * v ∧ y * v ≤ 1000000000000 := by
  have e1 := mul_abs3 (a := x) (b := v) (M := 1000000000) (N := 1000000) h1.1 (by have := h2.2.1; omega)
  have e2 := mul_abs3 (a := u) (b := y) (M := 1000000000) (N := 1000000) h2.1 (by have := h1.2.1; omega)
  have e3 := mul_abs3 (a := y) (b := v) (M := 1000000) (N := 1000000) (by have := h1.2.1; omega) (by have := h2.2.1; omega)
  have e4 := Int.mul_pos (show 0 < y by have := h1.2.1; omega) (show 0 < v by have := h2.2.1; omega)
  omega
theorem adN_neg (p k1 k2 : Int) : adN p 1 (-k1) k2 = nm (p * k2 - k1) k2 ∧ adD p 1 (-k1) k2 = dn (p * k2 - k1) k2 := by
  unfold adN adD
  rw [Int.mul_one, Int.one_mul, ← Int.sub_eq_add_neg]
  exact ⟨rfl, rfl⟩
/-- What a known number is at most, whether it is a fraction or not. -/
theorem kn_bd {ps ws l : List Int} (h : paysB ps ws l = true) {x : Nat} (hx : x < ps.length) (hU : 1 ≤ x → FrG (kn1 ps ws l (par ps x)) (kn2 ps ws l (par ps x))) : (-2000000000000000 ≤ kn1 ps ws l x ∧ kn1 ps ws l x ≤ 2000000000000000) ∧ 1 ≤ kn2 ps ws l x ∧ kn2 ps ws l x ≤ 1000000000000 := by
  by_cases h0 : x = 0
  · subst h0
    have := kn_zero ps ws l
    rw [this.1, this.2]; omega
  · have hp := ((paysB_t h).1.toPa.upN (x := x) (by omega) hx).2
    have hb := ad_bd (hU (by omega)) (drf_frg h (x := par ps x) (by omega))
    have hu := kn_up (ps := ps) ws l (x := x) (by omega) hp
    rw [hu.1, hu.2]
    unfold adN adD
    have ha := nm_abs (kn1 ps ws l (par ps x) * Fr.at2 (driftL ps ws l) (par ps x) + Fr.at1 (driftL ps ws l) (par ps x) * kn2 ps ws l (par ps x)) (kn2 ps ws l (par ps x) * Fr.at2 (driftL ps ws l) (par ps x))
    have hd := dn_pos (kn1 ps ws l (par ps x) * Fr.at2 (driftL ps ws l) (par ps x) + Fr.at1 (driftL ps ws l) (par ps x) * kn2 ps ws l (par ps x)) (kn2 ps ws l (par ps x) * Fr.at2 (driftL ps ws l) (par ps x)) (by omega)
    omega
theorem kn_frac {ps ws l : List Int} (h : paysB ps ws l = true) {x : Nat} (hx : x < ps.length) (hU : 1 ≤ x → FrG (kn1 ps ws l (par ps x)) (kn2 ps ws l (par ps x))) : fracB (kn1 ps ws l x) (kn2 ps ws l x) = okA ps ws l x := by
  by_cases h0 : x = 0
  · subst h0
    have hz := kn_zero ps ws l
    rw [okA, hz.1, hz.2]
    unfold fracB okF
    rw [show gcdI 0 1 = 1 by simp [gcdI]]
    rfl
  · have hp := ((paysB_t h).1.toPa.upN (x := x) (by omega) hx).2
    have hb := ad_bd (hU (by omega)) (drf_frg h (x := par ps x) (by omega))
    have hu := kn_up (ps := ps) ws l (x := x) (by omega) hp
    unfold okA
    rw [hu.1, hu.2]
    exact fracB_quot _ _ (by omega)
theorem fa_frac {ps ws l : List Int} {x : Nat} (hk : 1 ≤ kn2 ps ws l x) : fracB (fa1 ps ws l x) (fa2 ps ws l x) = okB ps ws l x := fracB_quot _ _ (by omega)
theorem pk_bd {p k2 : Int} (hp : -999 ≤ p ∧ p ≤ 999) (h2 : 1 ≤ k2 ∧ k2 ≤ 1000000000000) : -999000000000000 ≤ p * k2 ∧ p * k2 ≤ 999000000000000 := by
  have := mul_abs3 (a := p) (b := k2) (M := 999) (N := 1000000000000) hp (by omega)
  omega
end Go.Proofs.Ytnbomleieianoaa

/- Contracts: sums of pairs, the fair part of a process and what is known, by the reference. -/
namespace Go.Proofs.Ytnbomleieianoaa
open Go.RowKit

set_option maxRecDepth 100000 in
set_option maxHeartbeats 2000000 in
theorem spec_l2Add (x y u v : Int) (w : World) (hy : 1 ≤ y ∧ y ≤ 4000000000000000000) (hv : 1 ≤ v ∧ v ≤ 4000000000000000000) (h1 : -2000000000000000000 ≤ x * v ∧ x * v ≤ 2000000000000000000) (h2 : -2000000000000000000 ≤ u * y ∧ u * y ≤ 2000000000000000000) (h3 : y * v ≤ 4000000000000000000) :
    Calls Try.prog 99 #[.agg #[.int .i64 x, .int .i64 y], .agg #[.int .i64 u, .int .i64 v]] w fun e w' => e = .returned (.agg #[.int .i64 (adN x y u v), .int .i64 (adD x y u v)]) ∧ Below w.heap.size w w' := by
  go_enter Try.func99, Try.ntmps99
  have p1 := Pair.new w (.int .i64 x) (.int .i64 y) 48
  have b1 := below_new w (.cells #[.int .i64 x, .int .i64 y] 48)
  have p1 := (p1.alloc (.cells #[.int .i64 u, .int .i64 v] 48)).alloc (.cells #[.int .i64 0, .int .i64 0] 48)
  have p2 := (Pair.new (w.alloc (.cells #[.int .i64 x, .int .i64 y] 48)) (.int .i64 u) (.int .i64 v) 48).alloc (.cells #[.int .i64 0, .int .i64 0] 48)
  have p3 := Pair.new ((w.alloc (.cells #[.int .i64 x, .int .i64 y] 48)).alloc (.cells #[.int .i64 u, .int .i64 v] 48)) (.int .i64 0) (.int .i64 0) 48
  have b3 : Below w.heap.size w (((w.alloc (.cells #[.int .i64 x, .int .i64 y] 48)).alloc (.cells #[.int .i64 u, .int .i64 v] 48)).alloc (.cells #[.int .i64 0, .int .i64 0] 48)) := (b1.alloc (by simp) _).alloc (by simp; omega) _
  rw [show (w.alloc (.cells #[.int .i64 x, .int .i64 y] 48)).heap.size = w.heap.size + 1 by simp] at p2
  rw [show ((w.alloc (.cells #[.int .i64 x, .int .i64 y] 48)).alloc (.cells #[.int .i64 u, .int .i64 v] 48)).heap.size = w.heap.size + 2 by simp] at p3
  have P1 := Lib.hid p1
  have P2 := Lib.hid p2
  have P3 := Lib.hid p3
  have B3 := Lib.hid b3
  have c1 := p1.c1
  have c3 := p2.c1
  have hk := gcdI_pos (a := y) (b := v) (by omega)
  obtain ⟨k, hkk⟩ : ∃ z, z = gcdI y v := ⟨_, rfl⟩
  obtain ⟨y', hy'⟩ := gcdI_dvd_l y v
  obtain ⟨v', hv'⟩ := gcdI_dvd_r y v
  rw [← hkk] at hk hy' hv'
  have HG : Hid (∀ W : World, Calls Try.prog 150 #[.int .i64 y, .int .i64 v] W fun e w' => e = .returned (.int .i64 k) ∧ ∃ n, w' = W.drewN n) := Lib.hid fun W => by rw [hkk]; exact spec_l2Gcd _ _ W (by omega) (by omega)
  have hy1 : 1 ≤ y' := by
    rcases Int.lt_or_le 0 y' with h | h
    · omega
    · have := Int.mul_nonpos_of_nonneg_of_nonpos (Int.le_of_lt hk) h; omega
  have hv1 : 1 ≤ v' := by
    rcases Int.lt_or_le 0 v' with h | h
    · omega
    · have := Int.mul_nonpos_of_nonneg_of_nonpos (Int.le_of_lt hk) h; omega
  have hyy : y' ≤ y := by have := Int.mul_le_mul_of_nonneg_right (show 1 ≤ k by omega) (show 0 ≤ y' by omega); omega
  have hvv : v' ≤ v := by have := Int.mul_le_mul_of_nonneg_right (show 1 ≤ k by omega) (show 0 ≤ v' by omega); omega
  have sc : ∀ t : Int, ∀ B : Int, 0 ≤ B → (-B ≤ k * t ∧ k * t ≤ B) → -B ≤ t ∧ t ≤ B := fun t B hB hh => by
    rcases Int.lt_or_le t 0 with h | h
    · have := Int.mul_le_mul_of_nonneg_right (show 1 ≤ k by omega) (show 0 ≤ -t by omega)
      rw [Int.mul_neg, Int.mul_neg] at this; omega
    · have := Int.mul_le_mul_of_nonneg_right (show 1 ≤ k by omega) h
      omega
  have e1 : x * v = k * (x * v') := by rw [hv', Int.mul_left_comm]
  have e2 : u * y = k * (u * y') := by rw [hy', Int.mul_left_comm]
  have e3 : y * v = k * (y' * v) := by rw [hy', Int.mul_assoc]
  have q1 := sc (x * v') 2000000000000000000 (by omega) (by rw [← e1]; exact h1)
  have q2 := sc (u * y') 2000000000000000000 (by omega) (by rw [← e2]; exact h2)
  have q0 := Int.mul_pos (show 0 < y' by omega) (show 0 < v by omega)
  have q3 := sc (y' * v) 4000000000000000000 (by omega) (by rw [← e3]; have := Int.mul_pos (show 0 < y by omega) (show 0 < v by omega); omega)
  have hs := nm_scale (k := k) (x := x * v' + u * y') (y := y' * v) (by omega) (by omega)
  rw [Int.mul_add, ← e1, ← e2, ← e3] at hs
  have HC : Hid (∀ W : World, Calls Try.prog 128 #[.int .i64 (x * v' + u * y'), .int .i64 (y' * v)] W fun e w' => e = .returned (.agg #[.int .i64 (adN x y u v), .int .i64 (adD x y u v)]) ∧ Below W.heap.size W w') := Lib.hid fun W => by
    unfold adN adD
    rw [hs.1, hs.2]
    exact spec_l2Cut _ _ W (by omega) (by omega)
  have t1 : v.tdiv k = v' := by rw [hv']; exact Int.mul_tdiv_cancel_left _ (by omega)
  have t2 : y.tdiv k = y' := by rw [hy']; exact Int.mul_tdiv_cancel_left _ (by omega)
  obtain ⟨rn, hrn⟩ : ∃ z, z = adN x y u v := ⟨_, rfl⟩
  obtain ⟨rd, hrd⟩ : ∃ z, z = adD x y u v := ⟨_, rfl⟩
  rw [← hrn, ← hrd] at HC ⊢
  clear p1 p2 p3 b1 b3 hs sc e1 e2 e3 hkk hy' hv' h1 h2 h3 hrn hrd
  go_wp2_with fail
  generalize (((w.alloc (.cells #[.int .i64 x, .int .i64 y] 48)).alloc (.cells #[.int .i64 u, .int .i64 v] 48)).alloc (.cells #[.int .i64 0, .int .i64 0] 48)) = w2 at *
  refine (HG.out _).mono ?_
  rintro e w3 ⟨rfl, m, hw3⟩
  have hb23 : Below w2.heap.size w2 w3 := by rw [hw3]; exact below_drewN (Below.refl _ _) m
  have P1 := Lib.hid (P1.out.below hb23)
  have P2 := Lib.hid (P2.out.below hb23)
  have P3 := Lib.hid (P3.out.below hb23)
  have hb13 := Lib.hid (B3.out.trans (hb23.mono B3.out.size))
  clear c1 c3 hw3 hb23
  have n1 : w.heap.size ≠ w.heap.size + 2 := by omega
  have n2 : w.heap.size + 1 ≠ w.heap.size + 2 := by omega
  have f0 := P1.out.c0
  have f1 := P1.out.c1
  have g0 := P2.out.c0
  have g1 := P2.out.c1
  have k1 : IntKind.i64.wrap v' = v' := IntWalk.i64_in _ (by omega)
  have k2 : IntKind.i64.wrap y' = y' := IntWalk.i64_in _ (by omega)
  have k3 : IntKind.i64.wrap (x * v') = x * v' := IntWalk.i64_in _ (by omega)
  have k4 : IntKind.i64.wrap (u * y') = u * y' := IntWalk.i64_in _ (by omega)
  have k5 : IntKind.i64.wrap (x * v' + u * y') = x * v' + u * y' := IntWalk.i64_in _ (by omega)
  have k6 : IntKind.i64.wrap (y' * v) = y' * v := IntWalk.i64_in _ (by omega)
  have k7 : ¬ k = 0 := by omega
  clear hy hv q0 q1 q2 q3 hy1 hv1 hyy hvv hk
  go_wp2_with fail
  refine wp_region_noPanic ?_
  refine wp_region_held_drew (S := (fun W' => (W'.cell? ⟨w.heap.size, 0, none⟩ = some (.int .i64 x) ∧ W'.cell? ⟨w.heap.size, 1, none⟩ = some (.int .i64 y)) ∧ W'.cell? ⟨w.heap.size + 1, 0, none⟩ = some (.int .i64 u) ∧ W'.cell? ⟨w.heap.size + 1, 1, none⟩ = some (.int .i64 v))) (by kernel_rfl) ?_ (fun hHeld0 => ?_)
  · (try dsimp only); first | assumption | exact ⟨⟨f0, f1⟩, g0, g1⟩ | exact ⟨⟨cell_far (cell_far hSS.1.1 n1) n1, cell_far (cell_far hSS.1.2 n1) n1⟩, cell_far (cell_far hSS.2.1 n2) n2, cell_far (cell_far hSS.2.2 n2) n2⟩
  refine takeH (i := 0) (oi := _) (v := ?_) rfl (by kernel_rfl) (by kernel_rfl) (by kernel_rfl) (fun _ _ _ h => h) (Or.inl ⟨by rfl, ?_⟩) (by assumption) ?_
  rotate_left
  · first | (intro w hSw; (try dsimp only at hSw); go_simp; done) | (intro w hSw; (try dsimp only at hSw); go_simp; with_reducible rfl)
  (try simp only [Act.put, List.setIfInBounds_toArray, List.set_cons_zero, List.set_cons_succ])
  refine takeH (i := 1) (oi := _) (v := ?_) rfl (by kernel_rfl) (by kernel_rfl) (by kernel_rfl) (fun _ _ _ h => h) (Or.inl ⟨by rfl, ?_⟩) (by assumption) ?_
  rotate_left
  · first | (intro w hSw; (try dsimp only at hSw); go_simp; done) | (intro w hSw; (try dsimp only at hSw); go_simp; with_reducible rfl)
  (try simp only [Act.put, List.setIfInBounds_toArray, List.set_cons_zero, List.set_cons_succ])
  refine takeH (i := 2) (oi := _) (v := ?_) rfl (by kernel_rfl) (by kernel_rfl) (by kernel_rfl) (fun _ _ _ h => h) (Or.inl ⟨by rfl, ?_⟩) (by assumption) ?_
  rotate_left
  · first | (intro w hSw; (try dsimp only at hSw); go_simp; done) | (intro w hSw; (try dsimp only at hSw); go_simp; with_reducible rfl)
  (try simp only [Act.put, List.setIfInBounds_toArray, List.set_cons_zero, List.set_cons_succ])
  refine takeH (i := 3) (oi := _) (v := ?_) rfl (by kernel_rfl) (by kernel_rfl) (by kernel_rfl) (fun _ _ _ h => h) (Or.inl ⟨by rfl, ?_⟩) (by assumption) ?_
  rotate_left
  · first | (intro w hSw; (try dsimp only at hSw); go_simp; done) | (intro w hSw; (try dsimp only at hSw); go_simp; with_reducible rfl)
  (try simp only [Act.put, List.setIfInBounds_toArray, List.set_cons_zero, List.set_cons_succ])
  refine takeH (i := 4) (oi := _) (v := ?_) rfl (by kernel_rfl) (by kernel_rfl) (by kernel_rfl) (fun _ _ _ h => h) (Or.inl ⟨by rfl, ?_⟩) (by assumption) ?_
  rotate_left
  · first | (intro w hSw; (try dsimp only at hSw); go_simp; done) | (intro w hSw; (try dsimp only at hSw); go_simp; with_reducible rfl)
  (try simp only [Act.put, List.setIfInBounds_toArray, List.set_cons_zero, List.set_cons_succ])
  refine takeH (i := 5) (oi := _) (v := ?_) rfl (by kernel_rfl) (by kernel_rfl) (by kernel_rfl) (fun _ _ _ h => h) (Or.inl ⟨by rfl, ?_⟩) (by assumption) ?_
  rotate_left
  · first | (intro w hSw; (try dsimp only at hSw); go_simp; done) | (intro w hSw; (try dsimp only at hSw); go_simp; with_reducible rfl)
  (try simp only [Act.put, List.setIfInBounds_toArray, List.set_cons_zero, List.set_cons_succ])
  refine takeH (i := 6) (oi := _) (v := ?_) rfl (by kernel_rfl) (by kernel_rfl) (by kernel_rfl) (fun _ _ _ h => h) (Or.inl ⟨by rfl, ?_⟩) (by assumption) ?_
  rotate_left
  · first | (intro w hSw; (try dsimp only at hSw); go_simp; done) | (intro w hSw; (try dsimp only at hSw); go_simp; with_reducible rfl)
  (try simp only [Act.put, List.setIfInBounds_toArray, List.set_cons_zero, List.set_cons_succ])
  refine takeH (i := 7) (oi := _) (v := ?_) rfl (by kernel_rfl) (by kernel_rfl) (by kernel_rfl) (fun _ _ _ h => h) (Or.inl ⟨by rfl, ?_⟩) (by assumption) ?_
  rotate_left
  · first | (intro w hSw; (try dsimp only at hSw); go_simp; done) | (intro w hSw; (try dsimp only at hSw); go_simp; with_reducible rfl)
  (try simp only [Act.put, List.setIfInBounds_toArray, List.set_cons_zero, List.set_cons_succ])
  refine takeH (i := 8) (oi := _) (v := ?_) rfl (by kernel_rfl) (by kernel_rfl) (by kernel_rfl) (fun _ _ _ h => h) (Or.inl ⟨by rfl, ?_⟩) (by assumption) ?_
  rotate_left
  · first | (intro w hSw; (try dsimp only at hSw); go_simp; done) | (intro w hSw; (try dsimp only at hSw); go_simp; with_reducible rfl)
  (try simp only [Act.put, List.setIfInBounds_toArray, List.set_cons_zero, List.set_cons_succ])
  refine takeH (i := 9) (oi := _) (v := ?_) rfl (by kernel_rfl) (by kernel_rfl) (by kernel_rfl) (fun _ _ _ h => h) (Or.inl ⟨by rfl, ?_⟩) (by assumption) ?_
  rotate_left
  · first | (intro w hSw; (try dsimp only at hSw); go_simp; done) | (intro w hSw; (try dsimp only at hSw); go_simp; with_reducible rfl)
  (try simp only [Act.put, List.setIfInBounds_toArray, List.set_cons_zero, List.set_cons_succ])
  refine takeH (i := 10) (oi := _) (v := ?_) rfl (by kernel_rfl) (by kernel_rfl) (by kernel_rfl) (fun _ _ _ h => h) (Or.inl ⟨by rfl, ?_⟩) (by assumption) ?_
  rotate_left
  · first | (intro w hSw; (try dsimp only at hSw); go_simp; done) | (intro w hSw; (try dsimp only at hSw); go_simp; with_reducible rfl)
  (try simp only [Act.put, List.setIfInBounds_toArray, List.set_cons_zero, List.set_cons_succ])
  refine takeH (i := 11) (oi := _) (v := ?_) rfl (by kernel_rfl) (by kernel_rfl) (by kernel_rfl) (fun _ _ _ h => h) (Or.inl ⟨by rfl, ?_⟩) (by assumption) ?_
  rotate_left
  · first | (intro w hSw; (try dsimp only at hSw); go_simp; done) | (intro w hSw; (try dsimp only at hSw); go_simp; with_reducible rfl)
  (try simp only [Act.put, List.setIfInBounds_toArray, List.set_cons_zero, List.set_cons_succ])
  refine takeH (i := 12) (oi := _) (v := ?_) rfl (by kernel_rfl) (by kernel_rfl) (by kernel_rfl) (fun _ _ _ h => h) (Or.inl ⟨by rfl, ?_⟩) (by assumption) ?_
  rotate_left
  · first | (intro w hSw; (try dsimp only at hSw); go_simp; done) | (intro w hSw; (try dsimp only at hSw); go_simp; with_reducible rfl)
  (try simp only [Act.put, List.setIfInBounds_toArray, List.set_cons_zero, List.set_cons_succ])
  refine takeH (i := 13) (oi := _) (v := ?_) rfl (by kernel_rfl) (by kernel_rfl) (by kernel_rfl) (fun _ _ _ h => h) (Or.inl ⟨by rfl, ?_⟩) (by assumption) ?_
  rotate_left
  · first | (intro w hSw; (try dsimp only at hSw); go_simp; done) | (intro w hSw; (try dsimp only at hSw); go_simp; with_reducible rfl)
  (try simp only [Act.put, List.setIfInBounds_toArray, List.set_cons_zero, List.set_cons_succ])
  refine takeH (i := 14) (oi := _) (v := ?_) rfl (by kernel_rfl) (by kernel_rfl) (by kernel_rfl) (fun _ _ _ h => h) (Or.inl ⟨by rfl, ?_⟩) (by assumption) ?_
  rotate_left
  · first | (intro w hSw; (try dsimp only at hSw); go_simp; done) | (intro w hSw; (try dsimp only at hSw); go_simp; with_reducible rfl)
  (try simp only [Act.put, List.setIfInBounds_toArray, List.set_cons_zero, List.set_cons_succ])
  refine takeH (i := 15) (oi := _) (v := ?_) rfl (by kernel_rfl) (by kernel_rfl) (by kernel_rfl) (fun _ _ _ h => h) (Or.inl ⟨by rfl, ?_⟩) (by assumption) ?_
  rotate_left
  · first | (intro w hSw; (try dsimp only at hSw); go_simp; done) | (intro w hSw; (try dsimp only at hSw); go_simp; with_reducible rfl)
  (try simp only [Act.put, List.setIfInBounds_toArray, List.set_cons_zero, List.set_cons_succ])
  refine takeH (i := 16) (oi := _) (v := ?_) rfl (by kernel_rfl) (by kernel_rfl) (by kernel_rfl) (fun _ _ _ h => h) (Or.inl ⟨by rfl, ?_⟩) (by assumption) ?_
  rotate_left
  · first | (intro w hSw; (try dsimp only at hSw); go_simp; done) | (intro w hSw; (try dsimp only at hSw); go_simp; with_reducible rfl)
  (try simp only [Act.put, List.setIfInBounds_toArray, List.set_cons_zero, List.set_cons_succ])
  refine takeH (i := 17) (oi := _) (v := ?_) rfl (by kernel_rfl) (by kernel_rfl) (by kernel_rfl) (fun _ _ _ h => h) (Or.inl ⟨by rfl, ?_⟩) (by assumption) ?_
  rotate_left
  · first | (intro w hSw; (try dsimp only at hSw); go_simp; done) | (intro w hSw; (try dsimp only at hSw); go_simp; with_reducible rfl)
  (try simp only [Act.put, List.setIfInBounds_toArray, List.set_cons_zero, List.set_cons_succ])
  refine takeH (i := 18) (oi := _) (v := ?_) rfl (by kernel_rfl) (by kernel_rfl) (by kernel_rfl) (fun _ _ _ h => h) (Or.inl ⟨by rfl, ?_⟩) (by assumption) ?_
  rotate_left
  · first | (intro w hSw; (try dsimp only at hSw); go_simp; done) | (intro w hSw; (try dsimp only at hSw); go_simp; with_reducible rfl)
  (try simp only [Act.put, List.setIfInBounds_toArray, List.set_cons_zero, List.set_cons_succ])
  refine takeH (i := 19) (oi := _) (v := ?_) rfl (by kernel_rfl) (by kernel_rfl) (by kernel_rfl) (fun _ _ _ h => h) (Or.inl ⟨by rfl, ?_⟩) (by assumption) ?_
  rotate_left
  · first | (intro w hSw; (try dsimp only at hSw); go_simp; done) | (intro w hSw; (try dsimp only at hSw); go_simp; with_reducible rfl)
  (try simp only [Act.put, List.setIfInBounds_toArray, List.set_cons_zero, List.set_cons_succ])
  refine takeH (i := 20) (oi := _) (v := ?_) rfl (by kernel_rfl) (by kernel_rfl) (by kernel_rfl) (fun _ _ _ h => h) (Or.inl ⟨by rfl, ?_⟩) (by assumption) ?_
  rotate_left
  · first | (intro w hSw; (try dsimp only at hSw); go_simp; done) | (intro w hSw; (try dsimp only at hSw); go_simp; with_reducible rfl)
  (try simp only [Act.put, List.setIfInBounds_toArray, List.set_cons_zero, List.set_cons_succ])
  refine takeH (i := 21) (oi := _) (v := ?_) rfl (by kernel_rfl) (by kernel_rfl) (by kernel_rfl) (fun _ _ _ h => h) (Or.inl ⟨by rfl, ?_⟩) (by assumption) ?_
  rotate_left
  · first | (intro w hSw; (try dsimp only at hSw); go_simp; done) | (intro w hSw; (try dsimp only at hSw); go_simp; with_reducible rfl)
  (try simp only [Act.put, List.setIfInBounds_toArray, List.set_cons_zero, List.set_cons_succ])
  refine wpAnyH_ready (rs := [22]) (by kernel_rfl) (by simp) ?_
  refine consH rfl (fun Kq hKq => ?_)
  go_simp
  (go_at_call 128; refine (HC.out _).mono ?_; rintro e w9 ⟨rfl, b9⟩
   have b92 := (Below.refl w3.heap.size w3).drew.trans b9
   have hb9 := hb13.out.trans (b92.mono hb13.out.size)
   have hR9 := P3.out.below b92
   have q3 := hR9.c0
   have q4 := hR9.c1
   have q5 := hR9.f0
   have q6 := hR9.f1
   have hr := hR9.set (.int .i64 rn) (.int .i64 rd)
   have hSS := And.intro (And.intro (cell_up b92 f0) (cell_up b92 f1)) (And.intro (cell_up b92 g0) (cell_up b92 g1)))
  refine hKq.out _ _ ?_ (fun hHeld1 => ?_)
  · (try dsimp only); first | assumption | exact ⟨⟨f0, f1⟩, g0, g1⟩ | exact ⟨⟨cell_far (cell_far hSS.1.1 n1) n1, cell_far (cell_far hSS.1.2 n1) n1⟩, cell_far (cell_far hSS.2.1 n2) n2, cell_far (cell_far hSS.2.2 n2) n2⟩
  clear hKq Kq
  (try simp only [Act.put, List.setIfInBounds_toArray, List.set_cons_zero, List.set_cons_succ])
  clear hHeld0
  refine wpAnyH_ready (rs := [23]) (by kernel_rfl) (by simp) ?_
  refine consH rfl (fun Kq hKq => ?_)
  go_simp
  refine hKq.out _ _ ?_ (fun hHeld2 => ?_)
  · (try dsimp only); first | assumption | exact ⟨⟨f0, f1⟩, g0, g1⟩ | exact ⟨⟨cell_far (cell_far hSS.1.1 n1) n1, cell_far (cell_far hSS.1.2 n1) n1⟩, cell_far (cell_far hSS.2.1 n2) n2, cell_far (cell_far hSS.2.2 n2) n2⟩
  clear hKq Kq
  (try simp only [Act.put, List.setIfInBounds_toArray, List.set_cons_zero, List.set_cons_succ])
  clear hHeld1
  refine wpAnyH_done (by kernel_rfl) ?_ _
  refine NoPanic.normal ?_
  go_wp2_with fail
  exact bodyPost_ret (v := .agg #[.int .i64 rn, .int .i64 rd]) (by simp [results, Try.results99, go_sem, hr.1, hr.2]) rfl ⟨rfl, (hb9.setCell (show w.heap.size ≤ w.heap.size + 2 by omega) _).setCell (show w.heap.size ≤ w.heap.size + 2 by omega) _⟩
end Go.Proofs.Ytnbomleieianoaa

/- Contracts: the mean of a rule: RuleMean. -/
namespace Go.Proofs.Ytnbomleieianoaa
open Go.RowKit

end Go.Proofs.Ytnbomleieianoaa
