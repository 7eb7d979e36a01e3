/- Contract: the children of a node with a less price, with its price and with a greater one, by the program. -/
import Derived.Test.YtfnmhoidgnihoaaMkt2
import Derived.Test.YtfnmhoidgnihoaaTree7
import Derived.Test.YtfnmhoidgnihoaaB4
namespace Go.Proofs.Ytfnmhoidgnihoaa
open Go.RowKit

/-- How many of these nodes have a price that is so. -/
def cntP (l : List Int) (f : Int → Bool) (ks : List Int) : Nat := ks.countP fun y => f (nth l y.toNat)
theorem cntP_le (l : List Int) (f : Int → Bool) (ks : List Int) : cntP l f ks ≤ ks.length := List.countP_le_length
theorem cntP_succ (l : List Int) (f : Int → Bool) (ks : List Int) {i : Nat} (h : i < ks.length) : cntP l f (ks.take (i + 1)) = cntP l f (ks.take i) + if f (nth l (nth ks i).toNat) then 1 else 0 := by
  rw [take_succ_nth h, cntP, List.countP_append, cntP]; simp [List.countP_cons]
def lessF (p q : Int) : Bool := decide (q < p)
def sameF (p q : Int) : Bool := q == p
def moreF (p q : Int) : Bool := decide (q > p)
/-- Three lists that the call owns, apart from each other. -/
structure Own3 (w : World) (base : Nat) (v1 v2 v3 : Value) (n1 n2 n3 : Nat) : Prop where
  o1 : ∃ xs, xs.length = n1 ∧ Own w base v1 xs
  o2 : ∃ xs, xs.length = n2 ∧ Own w base v2 xs
  o3 : ∃ xs, xs.length = n3 ∧ Own w base v3 xs
  s12 : ∀ g, v1.ownBlock = some g → v2.ownBlock ≠ some g
  s13 : ∀ g, v1.ownBlock = some g → v3.ownBlock ≠ some g
  s23 : ∀ g, v2.ownBlock = some g → v3.ownBlock ≠ some g
theorem Own3.rot {w : World} {base : Nat} {v1 v2 v3 : Value} {n1 n2 n3 : Nat} (h : Own3 w base v1 v2 v3 n1 n2 n3) : Own3 w base v2 v3 v1 n2 n3 n1 :=
  ⟨h.o2, h.o3, h.o1, h.s23, (fun g h1 h2 => h.s12 g h2 h1), (fun g h1 h2 => h.s13 g h2 h1)⟩
theorem Own3.below {w w' : World} {base : Nat} {v1 v2 v3 : Value} {n1 n2 n3 : Nat} (h : Own3 w base v1 v2 v3 n1 n2 n3) (hb : Below w.heap.size w w') : Own3 w' base v1 v2 v3 n1 n2 n3 := by
  obtain ⟨⟨x1, l1, o1⟩, ⟨x2, l2, o2⟩, ⟨x3, l3, o3⟩, s12, s13, s23⟩ := h
  exact ⟨⟨x1, l1, o1.below hb⟩, ⟨x2, l2, o2.below hb⟩, ⟨x3, l3, o3.below hb⟩, s12, s13, s23⟩
/-- One more number in the first. -/
theorem Own3.push {w w' : World} {base : Nat} {v1 v1' v2 v3 : Value} {n1 n2 n3 : Nat} {xs : List Int} {u : Int} (h : Own3 w base v1 v2 v3 n1 n2 n3) (hl : xs.length = n1) (ho : Own w' base v1' (xs ++ [u])) (hm : Moved w v1 w' v1') : Own3 w' base v1' v2 v3 (n1 + 1) n2 n3 := by
  obtain ⟨_, ⟨x2, l2, o2⟩, ⟨x3, l3, o3⟩, s12, s13, s23⟩ := h
  have a2 : ∀ g, v2.ownBlock = some g → v1.ownBlock ≠ some g := fun g h1 h2 => s12 g h2 h1
  have a3 : ∀ g, v3.ownBlock = some g → v1.ownBlock ≠ some g := fun g h1 h2 => s13 g h2 h1
  refine ⟨⟨_, by simp [hl], ho⟩, ⟨x2, l2, o2.moved hm a2⟩, ⟨x3, l3, o3.moved hm a3⟩, fun g h1 h2 => ?_, fun g h1 h2 => ?_, s23⟩
  · exact (hm.2 g (World.ownsRow.lt o2 g h2).2 (a2 g h2)).1 h1
  · exact (hm.2 g (World.ownsRow.lt o3 g h2).2 (a3 g h2)).1 h1
set_option maxRecDepth 100000 in
set_option maxHeartbeats 4000000 in
theorem impl_beside (aP : Option Addr) (nP cP : Nat) (aW : Option Addr) (nW cW : Nat) (aL : Option Addr) (nL cL : Nat) (ps ws l : List Int) (X : Nat) (w : World) (h : Mkt w aP nP cP aW nW cW aL nL cL ps ws l) (hT : Tr ps ws) (hnl : nL = ps.length) (hX : X < nP) :
    Calls Try.prog 79 #[.agg #[.slice aP nP cP, .slice aW nW cW, .slice aL nL cL], .int .i64 (X : Int)] w fun e w' => ∃ (a1 : Option Addr) (c1 : Nat) (a2 : Option Addr) (c2 : Nat) (a3 : Option Addr) (c3 : Nat), e = .returned (.tuple #[.slice a1 (cntP l (lessF (nth l X)) (kids ps X)) c1, .slice a2 (cntP l (sameF (nth l X)) (kids ps X)) c2, .slice a3 (cntP l (moreF (nth l X)) (kids ps X)) c3]) ∧ Below w.heap.size w w' := by
  have hn24 := hT.n24
  have HTr := Lib.hid hT
  have Hnl := Lib.hid hnl
  clear hnl hT
  have hl := h.t.p.1
  have hlw := h.t.w.1
  have hll := h.l.1
  have hpn := h.t.pn
  have hwn := h.t.wn
  have hln := h.ln
  have hb1 := below_new w (.cells #[.slice aP nP cP, .slice aW nW cW, .slice aL nL cL] 31)
  have hX1 := Lib.hid (Trip.new w (.slice aP nP cP) (.slice aW nW cW) (.slice aL nL cL) 31)
  have H := Lib.hid h
  have Hl := Lib.hid hl
  have Hlw := Lib.hid hlw
  have Hll := Lib.hid hll
  clear h hl hlw hll
  have hnP : nP ≤ 24 := by have := Hl.out; omega
  have hkl : (kids ps X).length ≤ 24 := by have := filt_length (fun y => nth ps y == (X : Int)) ps.length; unfold kids; omega
  have HKm : Hid (∀ i, i < (kids ps X).length → ∃ j : Nat, j < nP ∧ nth (kids ps X) i = j) := Lib.hid fun i hi => by
    obtain ⟨j, h1, _, h3⟩ := nth_filt hi
    exact ⟨j, by have := Hl.out; omega, h3⟩
  clear hn24 hpn hwn hln
  have c0 := hX1.out.c0
  have c1 := hX1.out.c1
  have hlt2 := hX1.out.lt
  go_enter Try.func79, Try.ntmps79
  go_upto_region 1 with fail
  generalize (w.alloc (.cells #[.slice aP nP cP, .slice aW nW cW, .slice aL nL cL] 31)) = u0 at *
  have hbN : Below u0.heap.size u0 (((u0.alloc (.cells #[] 3)).alloc (.cells #[] 3)).alloc (.cells #[] 3)) := ((below_new u0 _).alloc (by simp) _).alloc (by simp; omega) _
  have hX2 := hX1.out.below hbN
  have e0 := hX2.c0
  have e1 := hX2.c1
  have hb2 := hb1.trans (hbN.mono hb1.size)
  have n1 : Own (((u0.alloc (.cells #[] 3)).alloc (.cells #[] 3)).alloc (.cells #[] 3)) u0.heap.size (.slice (some ⟨u0.heap.size, 0, none⟩) 0 0) [] := ((own_nil0 u0).below (below_new _ _)).below (below_new _ _)
  have n2 : Own (((u0.alloc (.cells #[] 3)).alloc (.cells #[] 3)).alloc (.cells #[] 3)) u0.heap.size (.slice (some ⟨u0.heap.size + 1, 0, none⟩) 0 0) [] := by
    have := ((own_nil0 (u0.alloc (.cells #[] 3))).mono (base' := u0.heap.size) (by simp)).below (below_new _ (.cells #[] 3))
    simpa using this
  have n3 : Own (((u0.alloc (.cells #[] 3)).alloc (.cells #[] 3)).alloc (.cells #[] 3)) u0.heap.size (.slice (some ⟨u0.heap.size + 1 + 1, 0, none⟩) 0 0) [] := by
    have := (own_nil0 ((u0.alloc (.cells #[] 3)).alloc (.cells #[] 3))).mono (base' := u0.heap.size) (by simp; omega)
    simpa using this
  have N3 : Hid (Own3 (((u0.alloc (.cells #[] 3)).alloc (.cells #[] 3)).alloc (.cells #[] 3)) u0.heap.size (.slice (some ⟨u0.heap.size, 0, none⟩) 0 0) (.slice (some ⟨u0.heap.size + 1, 0, none⟩) 0 0) (.slice (some ⟨u0.heap.size + 1 + 1, 0, none⟩) 0 0) 0 0 0) := Lib.hid ⟨⟨[], rfl, n1⟩, ⟨[], rfl, n2⟩, ⟨[], rfl, n3⟩, (fun g h1 h2 => by simp [Value.ownBlock] at h1 h2; omega), (fun g h1 h2 => by simp [Value.ownBlock] at h1 h2; omega), (fun g h1 h2 => by simp [Value.ownBlock] at h1 h2; omega)⟩
  have hs3 : (((u0.alloc (.cells #[] 3)).alloc (.cells #[] 3)).alloc (.cells #[] 3)).heap.size = u0.heap.size + 3 := by simp
  have Hs3 := Lib.hid hs3
  have hu0 : w.heap.size ≤ u0.heap.size := hb1.size
  clear c0 c1 hbN n1 n2 n3 hs3
  go_wp2_with fail
  have HX2 := Lib.hid hX2
  clear hX2 e0 e1
  generalize (((u0.alloc (.cells #[] 3)).alloc (.cells #[] 3)).alloc (.cells #[] 3)) = w4 at *
  refine (impl_children _ _ _ _ _ _ ps ws (X : Int) _ (H.out.t.below hb2) HTr.out.toPa (by omega)).mono ?_
  rintro e w5 ⟨v5, rfl, o5, b5⟩
  rw [Int.toNat_natCast] at o5
  obtain ⟨a5, c5, rfl⟩ := o5.shape
  have hb15 := hb2.trans (b5.mono hb2.size)
  have HX5 := Lib.hid (HX2.out.below b5)
  have HN := Lib.hid (N3.out.below b5)
  have HE := Lib.hid o5.ints
  have hsz5 : u0.heap.size ≤ w5.heap.size := by have := b5.size; have := Hs3.out; omega
  have hapB : ∀ b, b < u0.heap.size + 3 → (0 < (kids ps X).length → Apart a5 (.slice (some ⟨b, 0, none⟩) 0 0)) := fun b hb h0 p hp e => by
    obtain ⟨gg, cap, he, hg, _⟩ := o5.form h0
    have h4 := Hs3.out
    obtain rfl := (Value.slice.inj he).1
    cases hp
    simp [Value.ownBlock] at e
    omega
  have Ha1 := Lib.hid (hapB u0.heap.size (by omega))
  have Ha2 := Lib.hid (hapB (u0.heap.size + 1) (by omega))
  have Ha3 := Lib.hid (hapB (u0.heap.size + 1 + 1) (by omega))
  clear o5 b5 N3 HX2 hX1 hapB
  obtain ⟨KK, hKK⟩ : ∃ KK, KK = kids ps X := ⟨_, rfl⟩
  have HKK := Lib.hid hKK
  rw [← hKK] at HE Ha1 Ha2 Ha3 HKm hkl ⊢
  clear hKK
  go_wp2_with fail
  go_loopw [7, 8, 9, 21] (fun v7 v8 v9 v21 wr => ∃ i : Nat, i ≤ KK.length ∧ v21 = .int .i64 (i : Int) ∧ Own3 wr u0.heap.size v7 v8 v9 (cntP l (lessF (nth l X)) (KK.take i)) (cntP l (sameF (nth l X)) (KK.take i)) (cntP l (moreF (nth l X)) (KK.take i)) ∧ Ints wr a5 KK.length KK ∧ (0 < KK.length → Apart a5 v7) ∧ (0 < KK.length → Apart a5 v8) ∧ (0 < KK.length → Apart a5 v9) ∧ Trip wr w.heap.size (.slice aP nP cP) (.slice aW nW cW) (.slice aL nL cL) ∧ Below w.heap.size w wr ∧ u0.heap.size ≤ wr.heap.size) (fun _ _ _ v21 _ => KK.length - (intOf v21).toNat)
  case atStart => exact ⟨0, Nat.zero_le _, rfl, HN.out, HE.out, Ha1.out, Ha2.out, Ha3.out, HX5.out, hb15, hsz5⟩
  case round =>
    clear HN HE Ha1 Ha2 Ha3 HX5 hb15 hsz5
    obtain ⟨i, hi, rfl, hN, hE, ha1, ha2, ha3, hX3, hbel, hsz⟩ := hrel
    have c2 := hX3.c2
    have HX := Lib.hid hX3
    have HN := Lib.hid hN
    have HE := Lib.hid hE
    have HA1 := Lib.hid ha1
    have HA2 := Lib.hid ha2
    have HA3 := Lib.hid ha3
    clear hX3 hN hE ha1 ha2 ha3
    by_cases hlt : (i : Int) < KK.length
    · obtain ⟨bE, oE, rfl, hcE⟩ := HE.out.at (i := i) (Below.refl _ _) (by omega)
      obtain ⟨y, hy, hyn⟩ := HKm.out i (by omega)
      rw [hyn] at hcE
      have hyL : y < nL := by have := Hnl.out; have := Hl.out; omega
      have hXL : X < nL := by have := Hnl.out; have := Hl.out; omega
      obtain ⟨bL, oL, hbo, hcL⟩ := H.out.l.at (i := y) hbel hyL
      obtain ⟨bL', oL', hbo', hcX⟩ := H.out.l.at (i := X) hbel hXL
      rw [hbo] at hbo'
      cases hbo'
      subst hbo
      have hL1 := cntP_succ l (lessF (nth l X)) KK (i := i) (by omega)
      have hS1 := cntP_succ l (sameF (nth l X)) KK (i := i) (by omega)
      have hM1 := cntP_succ l (moreF (nth l X)) KK (i := i) (by omega)
      rw [hyn, Int.toNat_natCast] at hL1 hS1 hM1
      have hcl := cntP_le l (lessF (nth l X)) (KK.take i)
      have hcs := cntP_le l (sameF (nth l X)) (KK.take i)
      have hcm := cntP_le l (moreF (nth l X)) (KK.take i)
      rw [List.length_take, Nat.min_eq_left (by omega)] at hcl hcs hcm
      have hfl : lessF (nth l X) (nth l y) = decide (nth l y < nth l X) := rfl
      have hfs : sameF (nth l X) (nth l y) = (nth l y == nth l X) := rfl
      have hfm : moreF (nth l X) (nth l y) = decide (nth l y > nth l X) := rfl
      rw [hfl] at hL1
      rw [hfs] at hS1
      rw [hfm] at hM1
      clear hfl hfs hfm hyn
      have Hc := Lib.hid (And.intro hL1 (And.intro hS1 hM1))
      clear hL1 hS1 hM1
      generalize hp : nth l X = p at *
      generalize hq : nth l y = q at *
      clear hq
      by_cases h1 : q < p
      · have hL1 := Hc.out.1
        have hS1 := Hc.out.2.1
        have hM1 := Hc.out.2.2
        have e1 : (q == p) = false := by rw [beq_eq_false_iff_ne]; omega
        rw [decide_eq_true h1, if_pos rfl] at hL1
        rw [e1, if_neg Bool.false_ne_true, Nat.add_zero] at hS1
        rw [decide_eq_false (by omega), if_neg Bool.false_ne_true, Nat.add_zero] at hM1
        have HL1 := Lib.hid hL1
        have HS1 := Lib.hid hS1
        have HM1 := Lib.hid hM1
        clear e1 hL1 hS1 hM1
        have hrot := HN.out
        obtain ⟨xs, hxl, hown⟩ := hrot.o1
        have Hrot := Lib.hid hrot
        clear hrot
        go_wp2_with (at_builtin; refine wp_push2 _ _ rfl rfl u0.heap.size _ xs rfl hown rfl (by omega) hsz ?_; intro v' w' ho hb hm)
        have hN2 := Hrot.out.push hxl ho hm
        have hE2 := HE.out.moved hm HA1.out
        go_roundw
        case rel => exact ⟨i + 1, by omega, by go_num, by rw [HL1.out, HS1.out, HM1.out]; exact hN2, hE2.1, hE2.2, HA2.out, HA3.out, HX.out.up hb (by omega), hbel.trans (hb.mono hu0), Nat.le_trans hsz hb.size⟩
        case measure => simp [intOf]; omega
      · by_cases h2 : q > p
        · have hL1 := Hc.out.1
          have hS1 := Hc.out.2.1
          have hM1 := Hc.out.2.2
          have e1 : (q == p) = false := by rw [beq_eq_false_iff_ne]; omega
          rw [decide_eq_false h1, if_neg Bool.false_ne_true, Nat.add_zero] at hL1
          rw [e1, if_neg Bool.false_ne_true, Nat.add_zero] at hS1
          rw [decide_eq_true h2, if_pos rfl] at hM1
          have HL1 := Lib.hid hL1
          have HS1 := Lib.hid hS1
          have HM1 := Lib.hid hM1
          clear e1 hL1 hS1 hM1
          have hrot := HN.out.rot.rot
          obtain ⟨xs, hxl, hown⟩ := hrot.o1
          have Hrot := Lib.hid hrot
          clear hrot
          go_wp2_with (at_builtin; refine wp_push2 _ _ rfl rfl u0.heap.size _ xs rfl hown rfl (by omega) hsz ?_; intro v' w' ho hb hm)
          have hN2 := Hrot.out.push hxl ho hm
          have hE2 := HE.out.moved hm HA3.out
          go_roundw
          case rel => exact ⟨i + 1, by omega, by go_num, by rw [HL1.out, HS1.out, HM1.out]; exact hN2.rot, hE2.1, HA1.out, HA2.out, hE2.2, HX.out.up hb (by omega), hbel.trans (hb.mono hu0), Nat.le_trans hsz hb.size⟩
          case measure => simp [intOf]; omega
        · have hL1 := Hc.out.1
          have hS1 := Hc.out.2.1
          have hM1 := Hc.out.2.2
          have e1 : (q == p) = true := by rw [beq_iff_eq]; omega
          rw [decide_eq_false h1, if_neg Bool.false_ne_true, Nat.add_zero] at hL1
          rw [e1, if_pos rfl] at hS1
          rw [decide_eq_false h2, if_neg Bool.false_ne_true, Nat.add_zero] at hM1
          have HL1 := Lib.hid hL1
          have HS1 := Lib.hid hS1
          have HM1 := Lib.hid hM1
          clear e1 hL1 hS1 hM1
          have hrot := HN.out.rot
          obtain ⟨xs, hxl, hown⟩ := hrot.o1
          have Hrot := Lib.hid hrot
          clear hrot
          go_wp2_with (at_builtin; refine wp_push2 _ _ rfl rfl u0.heap.size _ xs rfl hown rfl (by omega) hsz ?_; intro v' w' ho hb hm)
          have hN2 := Hrot.out.push hxl ho hm
          have hE2 := HE.out.moved hm HA2.out
          go_roundw
          case rel => exact ⟨i + 1, by omega, by go_num, by rw [HL1.out, HS1.out, HM1.out]; exact hN2.rot.rot, hE2.1, HA1.out, hE2.2, HA3.out, HX.out.up hb (by omega), hbel.trans (hb.mono hu0), Nat.le_trans hsz hb.size⟩
          case measure => simp [intOf]; omega
    · obtain rfl : i = KK.length := by omega
      have hN := HN.out
      rw [List.take_length] at hN
      obtain ⟨⟨x1, l1, o1⟩, ⟨x2, l2, o2⟩, ⟨x3, l3, o3⟩, -, -, -⟩ := hN
      obtain ⟨a1, d1, rfl⟩ := o1.shape
      obtain ⟨a2, d2, rfl⟩ := o2.shape
      obtain ⟨a3, d3, rfl⟩ := o3.shape
      rw [l1, l2, l3]
      clear o1 o2 o3 HN
      go_wp2_with fail
      exact bodyPost_ret (v := .tuple #[.slice a1 (cntP l (lessF (nth l X)) KK) d1, .slice a2 (cntP l (sameF (nth l X)) KK) d2, .slice a3 (cntP l (moreF (nth l X)) KK) d3]) (by simp [results, Try.results79, go_sem]) rfl ⟨⟨a1, d1, a2, d2, a3, d3, by rw [HKK.out]⟩, hbel⟩
end Go.Proofs.Ytfnmhoidgnihoaa
