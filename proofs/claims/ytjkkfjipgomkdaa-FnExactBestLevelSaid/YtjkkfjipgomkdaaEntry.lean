/- Contracts: the first entry, by the program. -/
import Derived.Test.YtjkkfjipgomkdaaLevel
import Derived.Deep.DeepCutAuto
import Derived.Deep.Cut
namespace Go.Proofs.Ytjkkfjipgomkdaa
open Go.RowKit

/-- For the first k nodes whether something is so at them or ahead of them, then false. -/
def beL (ps : List Int) (S : Int → Bool) (n k : Nat) : List Bool := (List.range n).map fun y => decide (y < k) && behB ps S y
theorem beL_length (ps : List Int) (S : Int → Bool) (n k : Nat) : (beL ps S n k).length = n := by simp [beL]
theorem beL_zero (ps : List Int) (S : Int → Bool) (n : Nat) : List.replicate n false = beL ps S n 0 := Bo.ext_nth (by simp [beL]) fun i hi => by
  rw [List.length_replicate] at hi
  rw [Bo.nth_replicate, beL, Bo.nth_map_range hi]; simp
theorem nth_beL {ps : List Int} {S : Int → Bool} {n k y : Nat} (h : y < k) (hn : y < n) : Bo.nth (beL ps S n k) y = behB ps S y := by rw [beL, Bo.nth_map_range hn, decide_eq_true h, Bool.true_and]
theorem beL_t {ps : List Int} {S : Int → Bool} {n k : Nat} (h : k < n) (hb : behB ps S k = true) : beL ps S n (k + 1) = (beL ps S n k).set k true := Bo.ext_nth (by simp [beL]) fun j hj => by
  rw [beL_length] at hj
  rw [Bo.nth_set (by rw [beL_length]; exact h), beL, beL, Bo.nth_map_range hj, Bo.nth_map_range hj]
  by_cases e : k = j
  · subst e; rw [if_pos rfl, decide_eq_true (by omega), hb]; rfl
  · rw [if_neg e]
    have : decide (j < k + 1) = decide (j < k) := by rw [decide_eq_decide]; omega
    rw [this]
theorem beL_f {ps : List Int} {S : Int → Bool} {n k : Nat} (hb : behB ps S k = false) : beL ps S n (k + 1) = beL ps S n k := Bo.ext_nth (by simp [beL]) fun j hj => by
  rw [beL_length] at hj
  rw [beL, beL, Bo.nth_map_range hj, Bo.nth_map_range hj]
  by_cases e : k = j
  · subst e; rw [hb]; simp
  · have : decide (j < k + 1) = decide (j < k) := by rw [decide_eq_decide]; omega
    rw [this]
/-- A list without numbers, ends and falses, just made, apart from each other. -/
def ThreeF (u wc : World) (n : Nat) (ps : List Int) (v7 v8 v9 : Value) : Prop :=
  KeepR u wc ∧ ∃ (g7 : Nat) (a8 : Option Addr) (c8 g9 : Nat), v7 = .slice (some ⟨g7, 0, none⟩) 0 0 ∧ v8 = .slice a8 n c8 ∧ v9 = .slice (some ⟨g9, 0, none⟩) n n ∧ Own wc u.heap.size v7 [] ∧ Bo.Ints wc a8 n (endsB ps) ∧ Bo.Own wc u.heap.size v9 (List.replicate n false) ∧
    g7 ≠ g9 ∧ (∀ p, a8 = some p → p.block ≠ g7) ∧ ∀ p, a8 = some p → p.block ≠ g9
theorem threeF_mk {u wc : World} {n : Nat} {ps : List Int} {v8 : Value} {b7 b8 b9 g7 g9 : Nat} (hk : KeepR u wc) (he : (endsB ps).length = n) (h7 : Own wc b7 (.slice (some ⟨g7, 0, none⟩) 0 0) []) (h8 : Bo.Own wc b8 v8 (endsB ps)) (h9 : Bo.Own wc b9 (.slice (some ⟨g9, 0, none⟩) n n) (List.replicate n false)) (hb7 : u.heap.size ≤ b7) (hb9 : u.heap.size ≤ b9) (hne : g7 ≠ g9)
    (s7 : ∀ g, v8.ownBlock = some g → g ≠ g7 ∧ g ≠ g9) : ThreeF u wc n ps (.slice (some ⟨g7, 0, none⟩) 0 0) v8 (.slice (some ⟨g9, 0, none⟩) n n) := by
  obtain ⟨a8, c8, rfl⟩ := h8.shape
  rw [he] at h8 s7 ⊢
  exact ⟨hk, g7, a8, c8, g9, rfl, rfl, rfl, h7.mono hb7, h8.bools, h9.mono hb9, hne, (fun p hp => by subst hp; exact (s7 _ rfl).1), (fun p hp => by subst hp; exact (s7 _ rfl).2)⟩
/-- The stopping at the first numbers of at least a level. -/
def entryV (ps ws l : List Int) (lev : Int) : List Int := if paysB ps ws l then firsts ps (fS (levB ps l lev)) else []
theorem entryV_no {ps ws l : List Int} {lev : Int} (h : paysB ps ws l = false) : entryV ps ws l lev = [] := by rw [entryV, h]; rfl
theorem entryV_yes {ps ws l : List Int} {lev : Int} (h : paysB ps ws l = true) : entryV ps ws l lev = firsts ps (fS (levB ps l lev)) := by rw [entryV, h]; rfl
theorem entryV_len {ps ws l : List Int} {lev : Int} : (entryV ps ws l lev).length ≤ 1048576 := by
  cases h : paysB ps ws l
  · rw [entryV_no h]; simp
  · rw [entryV_yes h]; have := (paysB_t h).1.n24; have := firsts_length ps (fS (levB ps l lev)); omega
set_option maxRecDepth 100000 in
set_option maxHeartbeats 4000000 in
theorem impl_FirstEntry (aP : Option Addr) (nP cP : Nat) (aW : Option Addr) (nW cW : Nat) (ps ws : List Int) (aL : Option Addr) (nL cL : Nat) (l : List Int) (lev : Int) (w : World) (h : Tre w aP nP cP aW nW cW ps ws) (hL : Ints w aL nL l) (_hLc : aL = none → cL = 0) (hn : nL ≤ 1048576) :
    Calls Try.prog 84 #[.agg #[.slice aP nP cP, .slice aW nW cW], .slice aL nL cL, .int .i64 lev] w fun e w' => ∃ v, e = .returned (.tuple #[v, .bool (paysB ps ws l)]) ∧ Own w' w.heap.size v (entryV ps ws l lev) ∧ Below w.heap.size w w' := by
  have hl := h.p.1
  have hlw := h.w.1
  have hpn := h.pn
  have hwn := h.wn
  have hb1 := below_new w (.cells #[.slice aP nP cP, .slice aW nW cW] 28)
  have hP1 := Lib.hid (Pair.new w (.slice aP nP cP) (.slice aW nW cW) 28)
  have H := Lib.hid h
  have Hl := Lib.hid hl
  have Hlw := Lib.hid hlw
  clear h hl hlw
  have HL := Lib.hid hL
  have hll := Lib.hid hL.1
  clear hL
  have hlt2 := hP1.out.lt
  go_enter Try.func84, Try.ntmps84
  have c0 := hP1.out.c0
  have c1 := hP1.out.c1
  go_wp2_with fail
  generalize (w.alloc (.cells #[.slice aP nP cP, .slice aW nW cW] 28)) = w2 at *
  refine (impl_IsTree _ _ _ _ _ _ ps ws _ (H.out.below hb1)).mono ?_
  rintro e w3 ⟨rfl, hb3⟩
  have hP3 := hP1.out.below hb3
  have d0 := hP3.c0
  have d1 := hP3.c1
  have HP3 := Lib.hid hP3
  have hb13 := hb1.trans (hb3.mono hb1.size)
  clear hP3 c0 c1 hb3
  cases hT : treeB ps ws
  · have Hv := Lib.hid (pays_no1 (l := l) hT)
    clear hT
    go_wp2_with fail
    go_ret2
    exact ⟨_, by rw [Hv.out]; rfl, by rw [entryV_no Hv.out]; exact Own.nil _ _, hb13⟩
  have HT := Lib.hid hT
  clear hT
  go_wp2_with fail
  refine (impl_isProcess _ _ _ _ _ _ ps ws _ _ _ l _ (H.out.below hb13) (HL.out.below hb13) hn).mono ?_
  rintro e w4 ⟨rfl, hb4⟩
  have hb14 := hb13.trans (hb4.mono hb13.size)
  have hP4 := HP3.out.below hb4
  have e0 := hP4.c0
  have e1 := hP4.c1
  have HP4 := Lib.hid hP4
  clear d0 d1 hP4 hb4
  cases hp : procB ps.length l
  · have Hv := Lib.hid (pays_no2 (ws := ws) hp)
    clear hp
    go_wp2_with fail
    go_ret2
    exact ⟨_, by rw [Hv.out]; rfl, by rw [entryV_no Hv.out]; exact Own.nil _ _, hb14⟩
  have Hpays := Lib.hid (pays_both HT.out hp)
  have hpp := procB_t hp
  have hTr := treeB_t HT.out
  have hn24 := hTr.n24
  have hn1 := hTr.n1
  have hnL : nP = nL := by have := hll.out; have := hpp.1; have := Hl.out; omega
  have hnW : nP = nW := by have := Hlw.out; have := hTr.wl; have := Hl.out; omega
  have hnP : 1 ≤ nP ∧ nP ≤ 24 := by have := Hl.out; omega
  have Hpp := Lib.hid hpp
  have HTr := Lib.hid hTr
  have HnW := Lib.hid hnW
  have hnW2 : nP ≤ nW := by omega
  clear hp hpp hn24 hn1 hTr hpn hwn hnW
  subst hnL
  have hmk := Bo.mk_bools nP (by omega)
  have hmx : nP ≤ maxLen := by have : maxLen = 9223372036854775807 := rfl; omega
  have Hel : Hid ((endsB ps).length = nP) := Lib.hid (by rw [endsB_length]; exact Hl.out)
  have hw4 : w.heap.size < w4.heap.size := HP4.out.lt
  have z1 : Hid (Bo.Own ((w4.alloc (.cells #[] 3)).alloc (.cells (Bo.zv nP) 4)) w4.heap.size (.slice (some ⟨w4.heap.size + 1, 0, none⟩) nP nP) (List.replicate nP false)) := Lib.hid (by
    have := Bo.Own.zeros (w4.alloc (.cells #[] 3)) w4.heap.size nP (by simp) hmx
    simpa using this)
  have z2 : Hid (Own ((w4.alloc (.cells (Bo.zv nP) 4)).alloc (.cells #[] 3)) w4.heap.size (.slice (some ⟨w4.heap.size + 1, 0, none⟩) 0 0) []) := Lib.hid (by
    have := (own_nil0 (w4.alloc (.cells (Bo.zv nP) 4))).mono (base' := w4.heap.size) (by simp)
    simpa using this)
  go_upto_region 3 with fail
  go_cut [8, 9, 10] (fun v8 v9 v10 wc => ThreeF w4 wc nP ps v8 v9 v10)
  case first =>
    go_region_held3 (fun W' => KeepR w4 W' ∧ W'.cell? ⟨w.heap.size, 0, none⟩ = some (.slice aP nP cP) ∧ W'.cell? ⟨w.heap.size, 1, none⟩ = some (.slice aW nW cW))
      (first | exact keep2 (by assumption) HP4.out | exact keep2 (KeepR.alloc0 _ _) HP4.out | exact keep2 (KeepR.start _) HP4.out | exact keep2 (KeepR.alloc (by assumption : KeepR w4 _ ∧ _).1 _) HP4.out | exact keep2 (KeepR.alloc (by assumption : KeepR w4 _ ∧ _).1 _).drew HP4.out | exact keep2 (KeepR.alloc (KeepR.alloc0 _ _) _).drew HP4.out | exact keep2 (KeepR.alloc (KeepR.alloc0 _ _) _) HP4.out)
      (first
        | (go_at_call 70; refine (impl_isEnd _ _ _ _ _ _ ps ws _ (H.out.below (hb14.trans (Below.mono (by assumption : KeepR w4 _ ∧ _).1 hb14.size))) HTr.out.toPa).mono ?_; rintro e w6 ⟨v6, rfl, o6, b6⟩; have hk6 := KeepR.next b6 (by assumption : KeepR w4 _ ∧ _).1
           have z3 : Bo.Own ((w6.alloc (.cells #[] 3)).alloc (.cells (Bo.zv nP) 4)) w6.heap.size (.slice (some ⟨w6.heap.size + 1, 0, none⟩) nP nP) (List.replicate nP false) := by
             have := Bo.Own.zeros (w6.alloc (.cells #[] 3)) w6.heap.size nP (by simp) hmx
             simpa using this
           have z4 : Own ((w6.alloc (.cells (Bo.zv nP) 4)).alloc (.cells #[] 3)) w6.heap.size (.slice (some ⟨w6.heap.size + 1, 0, none⟩) 0 0) [] := by
             have := (own_nil0 (w6.alloc (.cells (Bo.zv nP) 4))).mono (base' := w6.heap.size) (by simp)
             simpa using this))
    all_goals (go_wp2_with fail)
    all_goals go_meet
    all_goals first
      | exact threeF_mk hk6 Hel.out ((((own_nil0 w4).below (below_new _ _)).below (Below.refl _ _).drew).below b6) o6 ((z1.out.below (Below.refl _ _).drew).below b6) (Nat.le_refl _) (Nat.le_refl _) (by simp) (fun g hg => by have h1 := World.ownsRow.lt o6 g hg; have h2 := Below.size hk6; have h3 := b6.size; (try simp at h1); (try simp at h3); constructor <;> (try simp) <;> omega)
      | exact threeF_mk hk6 Hel.out ((z2.out.below (Below.refl _ _).drew).below b6) o6 ((((Bo.Own.zeros w4 w4.heap.size nP (Nat.le_refl _) hmx).below (below_new _ _)).below (Below.refl _ _).drew).below b6) (Nat.le_refl _) (Nat.le_refl _) (by simp) (fun g hg => by have h1 := World.ownsRow.lt o6 g hg; have h2 := Below.size hk6; have h3 := b6.size; (try simp at h1); (try simp at h3); constructor <;> (try simp) <;> omega)
      | exact threeF_mk (KeepR.alloc hk6 _) Hel.out ((((own_nil0 w4).below (Below.refl _ _).drew).below b6).below (below_new w6 _)) (o6.below (below_new w6 _)) (Bo.Own.zeros w6 w6.heap.size nP (Nat.le_refl _) hmx) (Nat.le_refl _) (Below.size hk6) (by have h2 := Below.size hk6; have h3 := b6.size; (try simp at h3); (try simp) <;> omega) (fun g hg => by have h1 := World.ownsRow.lt o6 g hg; have h2 := Below.size hk6; have h3 := b6.size; (try simp at h1); (try simp at h3); constructor <;> (try simp) <;> omega)
      | exact threeF_mk (KeepR.alloc hk6 _) Hel.out (own_nil0 w6) (o6.below (below_new w6 _)) ((((Bo.Own.zeros w4 w4.heap.size nP (Nat.le_refl _) hmx).below (Below.refl _ _).drew).below b6).below (below_new w6 _)) (Below.size hk6) (Nat.le_refl _) (by have h2 := Below.size hk6; have h3 := b6.size; (try simp at h3); (try simp) <;> omega) (fun g hg => by have h1 := World.ownsRow.lt o6 g hg; have h2 := Below.size hk6; have h3 := b6.size; (try simp at h1); (try simp at h3); constructor <;> (try simp) <;> omega)
      | exact threeF_mk (KeepR.alloc (KeepR.alloc hk6 _) _) Hel.out ((own_nil0 w6).below (below_new _ _)) ((o6.below (below_new w6 _)).below (below_new _ _)) z3 (Below.size hk6) (Below.size hk6) (by have h2 := Below.size hk6; have h3 := b6.size; (try simp at h3); (try simp) <;> omega) (fun g hg => by have h1 := World.ownsRow.lt o6 g hg; have h2 := Below.size hk6; have h3 := b6.size; (try simp at h1); (try simp at h3); constructor <;> (try simp) <;> omega)
      | exact threeF_mk (KeepR.alloc (KeepR.alloc hk6 _) _) Hel.out z4 ((o6.below (below_new w6 _)).below (below_new _ _)) ((Bo.Own.zeros w6 w6.heap.size nP (Nat.le_refl _) hmx).below (below_new _ _)) (Below.size hk6) (Below.size hk6) (by have h2 := Below.size hk6; have h3 := b6.size; (try simp at h3); (try simp) <;> omega) (fun g hg => by have h1 := World.ownsRow.lt o6 g hg; have h2 := Below.size hk6; have h3 := b6.size; (try simp at h1); (try simp at h3); constructor <;> (try simp) <;> omega)
  case rest =>
    clear hmk e0 e1
    obtain ⟨hk5, g8, a9, c9, g10, rfl, rfl, rfl, o8, i9, o10, hne, s8, s10⟩ := hcut
    have hk5b : Below w4.heap.size w4 wc := hk5
    have hb15 := hb14.trans (hk5b.mono hb14.size)
    have HP5 := Lib.hid (HP4.out.below hk5b)
    have G9 := Lib.hid i9
    have hlt8 := o8.lt
    have hlt10 := o10.lt
    have hfs := Lib.hid (entryV_yes (lev := lev) Hpays.out)
    clear i9 hk5 hk5b
    have HneN0 : (Value.slice (some ⟨g8, 0, none⟩) 0 0).ownBlock ≠ some g10 := by simp [Value.ownBlock]; exact hne
    have hap0 : 0 < nP → Apart a9 (Value.slice (some ⟨g8, 0, none⟩) 0 0) := fun _ p hp e => by
      simp [Value.ownBlock] at e
      exact s8 p hp e.symm
    have H10 : Hid (Bo.Own wc w4.heap.size (.slice (some ⟨g10, 0, none⟩) nP nP) (beL ps (fS (levB ps l lev)) nP 0)) := Lib.hid (by rw [← beL_zero]; exact o10)
    have H8 := Lib.hid o8
    have Hap0 := Lib.hid hap0
    have Hne0 := Lib.hid HneN0
    clear o10 o8 hap0 HneN0 s8
    go_wp2_with fail
    go_loopw [8, 30] (fun v8 v30 wr => ∃ k : Nat, k ≤ nP ∧ v30 = .int .i64 (k : Int) ∧ Own wr w4.heap.size v8 (filt (firB ps (fS (levB ps l lev))) k) ∧ Bo.Ints wr a9 nP (endsB ps) ∧ Bo.Own wr w4.heap.size (.slice (some ⟨g10, 0, none⟩) nP nP) (beL ps (fS (levB ps l lev)) nP k) ∧ Pair wr w.heap.size (.slice aP nP cP) (.slice aW nW cW) ∧ v8.ownBlock ≠ some g10 ∧ (0 < nP → Apart a9 v8) ∧ Below w.heap.size w wr) (fun _ v30 _ => nP - (intOf v30).toNat)
    case atStart => exact ⟨0, Nat.zero_le _, rfl, H8.out, G9.out, H10.out, HP5.out, Hne0.out, Hap0.out, hb15⟩
    case round =>
      clear H8 H10 Hap0 Hne0 G9 hb15 HP5 hlt8
      obtain ⟨k, hk, rfl, hou, hend, hent, hP, hne2, hap, hbel⟩ := hrel
      have c0 := hP.c0
      have c1 := hP.c1
      have HP := Lib.hid hP
      have Hend := Lib.hid hend
      have HneN := Lib.hid hne2
      have Hap := Lib.hid hap
      have hg10w : g10 < wr.heap.size := hent.lt.2
      have hw4r : w4.heap.size ≤ wr.heap.size := by omega
      clear hP hend hne2 hap
      by_cases hlt : (k : Int) < nP
      · obtain ⟨bE, oE, rfl, hcE⟩ := Hend.out.at (i := k) (Below.refl _ _) (by omega)
        rw [nth_endsB (by have := Hl.out; omega)] at hcE
        obtain ⟨bL, oL, rfl, hcL⟩ := HL.out.at (i := k) hbel (by omega)
        obtain ⟨bP, oP, rfl, hcP⟩ := H.out.p.at (i := k) hbel (by omega)
        have hcN := hent.cell (i := k) (by rw [beL_length]; omega)
        have hfN := hent.free (by rw [beL_length]) k
        have hfl := filt_length (firB ps (fS (levB ps l lev))) k
        by_cases hk0 : k = 0
        · have hbf : behB ps (fS (levB ps l lev)) k = fS (levB ps l lev) (k : Int) ∧ firB ps (fS (levB ps l lev)) k = fS (levB ps l lev) (k : Int) := by subst hk0; exact beh_zero _ _
          have hx0 : ¬ (k : Int) > 0 := by omega
          clear hcP hk0
          cases he : endB ps k
          · rw [he] at hcE
            by_cases hp : nth l k ≥ lev
            · have hbe : behB ps (fS (levB ps l lev)) k = true := by rw [hbf.1]; unfold fS levB; rw [Int.toNat_natCast, decide_eq_true hp]; simp
              have hfi : firB ps (fS (levB ps l lev)) k = true := by rw [hbf.2]; unfold fS levB; rw [Int.toNat_natCast, decide_eq_true hp]; simp
              generalize nth l k = q at *
              clear hbf he
              have hbt := beL_t (n := nP) (show k < nP by omega) hbe
              have Hs := Lib.hid (hent.set (by rw [beL_length]) k true)
              have HouF := Lib.hid (hou.far (a := ⟨g10, k, none⟩) (u := .bool true) HneN.out)
              have HenF := Lib.hid (Bo.ints_far Hend.out (b := g10) (i := k) s10 (.bool true))
              have HPF := Lib.hid (HP.out.far (b := g10) (i := k) (by omega) (.bool true))
              have Hbt := Lib.hid hbt
              clear hbt hent hou
              have Hff := Lib.hid (filt_t hfi)
              have hbs : Below w.heap.size w (wr.setCell ⟨g10, k, none⟩ (.bool true)) := hbel.setCell (show w.heap.size ≤ g10 by omega) _
              have hsz2 : w4.heap.size ≤ (wr.setCell ⟨g10, k, none⟩ (.bool true)).heap.size := by simpa using hw4r
              clear hbe hfi
              go_upto_region 11 with fail
              generalize wr.setCell ⟨g10, k, none⟩ (.bool true) = wz at *
              go_wp2_with (at_builtin; refine wp_push2 _ _ rfl rfl w4.heap.size _ _ rfl HouF.out rfl (by omega) hsz2 ?_; intro v' w' ho hb hm)
              have hE2 := Bo.Ints.moved HenF.out hm Hap.out
              have hN2 := Bo.Own.moved Hs.out hm (fun g hg e => HneN.out ((show g10 = g by simpa [Value.ownBlock] using hg) ▸ e))
              have hg10 : g10 < wr.heap.size := hg10w
              go_roundw
              case rel => exact ⟨k + 1, by omega, by go_num, by rw [Hff.out]; exact ho, hE2.1, by rw [Hbt.out]; exact hN2, HPF.out.up hb (by omega), (hm.2 g10 (Hs.out.lt.2) HneN.out).1, hE2.2, hbs.trans (hb.mono (by omega))⟩
              case measure => simp [intOf]; omega
            · have hbe : behB ps (fS (levB ps l lev)) k = false := by rw [hbf.1]; unfold fS levB; rw [Int.toNat_natCast, decide_eq_false hp, he]; rfl
              have hfi : firB ps (fS (levB ps l lev)) k = false := by rw [hbf.2]; unfold fS levB; rw [Int.toNat_natCast, decide_eq_false hp, he]; rfl
              generalize nth l k = q at *
              clear hbf he
              have Hff := Lib.hid (filt_f hfi)
              have Hbf := Lib.hid (beL_f (n := nP) hbe)
              clear hbe hfi
              go_wp2_with fail
              go_roundw
              case rel => exact ⟨k + 1, by omega, by go_num, by rw [Hff.out]; exact hou, Hend.out, by rw [Hbf.out]; exact hent, HP.out, HneN.out, Hap.out, hbel⟩
              case measure => simp [intOf]; omega
          · rw [he] at hcE
            have hbe : behB ps (fS (levB ps l lev)) k = true := by rw [hbf.1]; unfold fS levB; rw [Int.toNat_natCast, he]; rfl
            have hfi : firB ps (fS (levB ps l lev)) k = true := by rw [hbf.2]; unfold fS levB; rw [Int.toNat_natCast, he]; rfl
            generalize hq : nth l k = q at *
            clear hbf he hq
            by_cases hp : q ≥ lev
            · skip
              have hbt := beL_t (n := nP) (show k < nP by omega) hbe
              have Hs := Lib.hid (hent.set (by rw [beL_length]) k true)
              have HouF := Lib.hid (hou.far (a := ⟨g10, k, none⟩) (u := .bool true) HneN.out)
              have HenF := Lib.hid (Bo.ints_far Hend.out (b := g10) (i := k) s10 (.bool true))
              have HPF := Lib.hid (HP.out.far (b := g10) (i := k) (by omega) (.bool true))
              have Hbt := Lib.hid hbt
              clear hbt hent hou
              have Hff := Lib.hid (filt_t hfi)
              have hbs : Below w.heap.size w (wr.setCell ⟨g10, k, none⟩ (.bool true)) := hbel.setCell (show w.heap.size ≤ g10 by omega) _
              have hsz2 : w4.heap.size ≤ (wr.setCell ⟨g10, k, none⟩ (.bool true)).heap.size := by simpa using hw4r
              clear hbe hfi
              go_upto_region 11 with fail
              generalize wr.setCell ⟨g10, k, none⟩ (.bool true) = wz at *
              go_wp2_with (at_builtin; refine wp_push2 _ _ rfl rfl w4.heap.size _ _ rfl HouF.out rfl (by omega) hsz2 ?_; intro v' w' ho hb hm)
              have hE2 := Bo.Ints.moved HenF.out hm Hap.out
              have hN2 := Bo.Own.moved Hs.out hm (fun g hg e => HneN.out ((show g10 = g by simpa [Value.ownBlock] using hg) ▸ e))
              have hg10 : g10 < wr.heap.size := hg10w
              go_roundw
              case rel => exact ⟨k + 1, by omega, by go_num, by rw [Hff.out]; exact ho, hE2.1, by rw [Hbt.out]; exact hN2, HPF.out.up hb (by omega), (hm.2 g10 (Hs.out.lt.2) HneN.out).1, hE2.2, hbs.trans (hb.mono (by omega))⟩
              case measure => simp [intOf]; omega
            · skip
              have hbt := beL_t (n := nP) (show k < nP by omega) hbe
              have Hs := Lib.hid (hent.set (by rw [beL_length]) k true)
              have HouF := Lib.hid (hou.far (a := ⟨g10, k, none⟩) (u := .bool true) HneN.out)
              have HenF := Lib.hid (Bo.ints_far Hend.out (b := g10) (i := k) s10 (.bool true))
              have HPF := Lib.hid (HP.out.far (b := g10) (i := k) (by omega) (.bool true))
              have Hbt := Lib.hid hbt
              clear hbt hent hou
              have Hff := Lib.hid (filt_t hfi)
              have hbs : Below w.heap.size w (wr.setCell ⟨g10, k, none⟩ (.bool true)) := hbel.setCell (show w.heap.size ≤ g10 by omega) _
              have hsz2 : w4.heap.size ≤ (wr.setCell ⟨g10, k, none⟩ (.bool true)).heap.size := by simpa using hw4r
              clear hbe hfi
              go_upto_region 11 with fail
              generalize wr.setCell ⟨g10, k, none⟩ (.bool true) = wz at *
              go_wp2_with (at_builtin; refine wp_push2 _ _ rfl rfl w4.heap.size _ _ rfl HouF.out rfl (by omega) hsz2 ?_; intro v' w' ho hb hm)
              have hE2 := Bo.Ints.moved HenF.out hm Hap.out
              have hN2 := Bo.Own.moved Hs.out hm (fun g hg e => HneN.out ((show g10 = g by simpa [Value.ownBlock] using hg) ▸ e))
              have hg10 : g10 < wr.heap.size := hg10w
              go_roundw
              case rel => exact ⟨k + 1, by omega, by go_num, by rw [Hff.out]; exact ho, hE2.1, by rw [Hbt.out]; exact hN2, HPF.out.up hb (by omega), (hm.2 g10 (Hs.out.lt.2) HneN.out).1, hE2.2, hbs.trans (hb.mono (by omega))⟩
              case measure => simp [intOf]; omega
        · have hx0 : (k : Int) > 0 := by omega
          have hup := HTr.out.toPa.upN (x := k) (by omega) (by have := Hl.out; omega)
          have hbu := beh_up HTr.out.toPa (fS (levB ps l lev)) (x := k) (by omega) (by have := Hl.out; omega)
          have hcQ := hent.cell (i := par ps k) (by rw [beL_length]; have := hup.2; omega)
          rw [nth_beL hup.2 (by have := hup.2; omega)] at hcQ
          rw [hup.1] at hcP
          have hpl := hup.2
          have hpl2 : par ps k < nP := by omega
          clear hup
          generalize par ps k = pk at *
          cases hbp : behB ps (fS (levB ps l lev)) pk
          · have hbf := hbu.2 hbp
            rw [hbp] at hcQ
            clear hbu hbp
            cases he : endB ps k
            · rw [he] at hcE
              by_cases hp : nth l k ≥ lev
              · have hbe : behB ps (fS (levB ps l lev)) k = true := by rw [hbf.1]; unfold fS levB; rw [Int.toNat_natCast, decide_eq_true hp]; simp
                have hfi : firB ps (fS (levB ps l lev)) k = true := by rw [hbf.2]; unfold fS levB; rw [Int.toNat_natCast, decide_eq_true hp]; simp
                generalize nth l k = q at *
                clear hbf he
                have hbt := beL_t (n := nP) (show k < nP by omega) hbe
                have Hs := Lib.hid (hent.set (by rw [beL_length]) k true)
                have HouF := Lib.hid (hou.far (a := ⟨g10, k, none⟩) (u := .bool true) HneN.out)
                have HenF := Lib.hid (Bo.ints_far Hend.out (b := g10) (i := k) s10 (.bool true))
                have HPF := Lib.hid (HP.out.far (b := g10) (i := k) (by omega) (.bool true))
                have Hbt := Lib.hid hbt
                clear hbt hent hou
                have Hff := Lib.hid (filt_t hfi)
                have hbs : Below w.heap.size w (wr.setCell ⟨g10, k, none⟩ (.bool true)) := hbel.setCell (show w.heap.size ≤ g10 by omega) _
                have hsz2 : w4.heap.size ≤ (wr.setCell ⟨g10, k, none⟩ (.bool true)).heap.size := by simpa using hw4r
                clear hbe hfi
                go_upto_region 11 with fail
                generalize wr.setCell ⟨g10, k, none⟩ (.bool true) = wz at *
                go_wp2_with (at_builtin; refine wp_push2 _ _ rfl rfl w4.heap.size _ _ rfl HouF.out rfl (by omega) hsz2 ?_; intro v' w' ho hb hm)
                have hE2 := Bo.Ints.moved HenF.out hm Hap.out
                have hN2 := Bo.Own.moved Hs.out hm (fun g hg e => HneN.out ((show g10 = g by simpa [Value.ownBlock] using hg) ▸ e))
                have hg10 : g10 < wr.heap.size := hg10w
                go_roundw
                case rel => exact ⟨k + 1, by omega, by go_num, by rw [Hff.out]; exact ho, hE2.1, by rw [Hbt.out]; exact hN2, HPF.out.up hb (by omega), (hm.2 g10 (Hs.out.lt.2) HneN.out).1, hE2.2, hbs.trans (hb.mono (by omega))⟩
                case measure => simp [intOf]; omega
              · have hbe : behB ps (fS (levB ps l lev)) k = false := by rw [hbf.1]; unfold fS levB; rw [Int.toNat_natCast, decide_eq_false hp, he]; rfl
                have hfi : firB ps (fS (levB ps l lev)) k = false := by rw [hbf.2]; unfold fS levB; rw [Int.toNat_natCast, decide_eq_false hp, he]; rfl
                generalize nth l k = q at *
                clear hbf he
                have Hff := Lib.hid (filt_f hfi)
                have Hbf := Lib.hid (beL_f (n := nP) hbe)
                clear hbe hfi
                go_wp2_with fail
                go_roundw
                case rel => exact ⟨k + 1, by omega, by go_num, by rw [Hff.out]; exact hou, Hend.out, by rw [Hbf.out]; exact hent, HP.out, HneN.out, Hap.out, hbel⟩
                case measure => simp [intOf]; omega
            · rw [he] at hcE
              have hbe : behB ps (fS (levB ps l lev)) k = true := by rw [hbf.1]; unfold fS levB; rw [Int.toNat_natCast, he]; rfl
              have hfi : firB ps (fS (levB ps l lev)) k = true := by rw [hbf.2]; unfold fS levB; rw [Int.toNat_natCast, he]; rfl
              generalize hq : nth l k = q at *
              clear hbf he hq
              by_cases hp : q ≥ lev
              · skip
                have hbt := beL_t (n := nP) (show k < nP by omega) hbe
                have Hs := Lib.hid (hent.set (by rw [beL_length]) k true)
                have HouF := Lib.hid (hou.far (a := ⟨g10, k, none⟩) (u := .bool true) HneN.out)
                have HenF := Lib.hid (Bo.ints_far Hend.out (b := g10) (i := k) s10 (.bool true))
                have HPF := Lib.hid (HP.out.far (b := g10) (i := k) (by omega) (.bool true))
                have Hbt := Lib.hid hbt
                clear hbt hent hou
                have Hff := Lib.hid (filt_t hfi)
                have hbs : Below w.heap.size w (wr.setCell ⟨g10, k, none⟩ (.bool true)) := hbel.setCell (show w.heap.size ≤ g10 by omega) _
                have hsz2 : w4.heap.size ≤ (wr.setCell ⟨g10, k, none⟩ (.bool true)).heap.size := by simpa using hw4r
                clear hbe hfi
                go_upto_region 11 with fail
                generalize wr.setCell ⟨g10, k, none⟩ (.bool true) = wz at *
                go_wp2_with (at_builtin; refine wp_push2 _ _ rfl rfl w4.heap.size _ _ rfl HouF.out rfl (by omega) hsz2 ?_; intro v' w' ho hb hm)
                have hE2 := Bo.Ints.moved HenF.out hm Hap.out
                have hN2 := Bo.Own.moved Hs.out hm (fun g hg e => HneN.out ((show g10 = g by simpa [Value.ownBlock] using hg) ▸ e))
                have hg10 : g10 < wr.heap.size := hg10w
                go_roundw
                case rel => exact ⟨k + 1, by omega, by go_num, by rw [Hff.out]; exact ho, hE2.1, by rw [Hbt.out]; exact hN2, HPF.out.up hb (by omega), (hm.2 g10 (Hs.out.lt.2) HneN.out).1, hE2.2, hbs.trans (hb.mono (by omega))⟩
                case measure => simp [intOf]; omega
              · skip
                have hbt := beL_t (n := nP) (show k < nP by omega) hbe
                have Hs := Lib.hid (hent.set (by rw [beL_length]) k true)
                have HouF := Lib.hid (hou.far (a := ⟨g10, k, none⟩) (u := .bool true) HneN.out)
                have HenF := Lib.hid (Bo.ints_far Hend.out (b := g10) (i := k) s10 (.bool true))
                have HPF := Lib.hid (HP.out.far (b := g10) (i := k) (by omega) (.bool true))
                have Hbt := Lib.hid hbt
                clear hbt hent hou
                have Hff := Lib.hid (filt_t hfi)
                have hbs : Below w.heap.size w (wr.setCell ⟨g10, k, none⟩ (.bool true)) := hbel.setCell (show w.heap.size ≤ g10 by omega) _
                have hsz2 : w4.heap.size ≤ (wr.setCell ⟨g10, k, none⟩ (.bool true)).heap.size := by simpa using hw4r
                clear hbe hfi
                go_upto_region 11 with fail
                generalize wr.setCell ⟨g10, k, none⟩ (.bool true) = wz at *
                go_wp2_with (at_builtin; refine wp_push2 _ _ rfl rfl w4.heap.size _ _ rfl HouF.out rfl (by omega) hsz2 ?_; intro v' w' ho hb hm)
                have hE2 := Bo.Ints.moved HenF.out hm Hap.out
                have hN2 := Bo.Own.moved Hs.out hm (fun g hg e => HneN.out ((show g10 = g by simpa [Value.ownBlock] using hg) ▸ e))
                have hg10 : g10 < wr.heap.size := hg10w
                go_roundw
                case rel => exact ⟨k + 1, by omega, by go_num, by rw [Hff.out]; exact ho, hE2.1, by rw [Hbt.out]; exact hN2, HPF.out.up hb (by omega), (hm.2 g10 (Hs.out.lt.2) HneN.out).1, hE2.2, hbs.trans (hb.mono (by omega))⟩
                case measure => simp [intOf]; omega
          · obtain ⟨hbe, hfi⟩ := hbu.1 hbp
            rw [hbp] at hcQ
            clear hbu hbp
            have hbt := beL_t (n := nP) (show k < nP by omega) hbe
            have Hs := Lib.hid (hent.set (by rw [beL_length]) k true)
            have HouF := Lib.hid (hou.far (a := ⟨g10, k, none⟩) (u := .bool true) HneN.out)
            have HenF := Lib.hid (Bo.ints_far Hend.out (b := g10) (i := k) s10 (.bool true))
            have HPF := Lib.hid (HP.out.far (b := g10) (i := k) (by omega) (.bool true))
            have Hbt := Lib.hid hbt
            clear hbt hent hou
            have Hff := Lib.hid (filt_f hfi)
            clear hbe hfi
            go_wp2_with fail
            go_roundw
            case rel => exact ⟨k + 1, by omega, by go_num, by rw [Hff.out]; exact HouF.out, HenF.out, by rw [Hbt.out]; exact Hs.out, HPF.out, HneN.out, Hap.out, hbel.setCell (show w.heap.size ≤ g10 by omega) _⟩
            case measure => simp [intOf]; omega
      · obtain rfl : k = nP := by omega
        have HO := Lib.hid hou
        have Hfir : Hid (filt (firB ps (fS (levB ps l lev))) k = entryV ps ws l lev) := Lib.hid (by rw [hfs.out]; unfold firsts; rw [Hl.out])
        clear hou
        go_wp2_with fail
        go_ret2
        exact ⟨_, by rw [Hpays.out]; rfl, by rw [← Hfir.out]; exact HO.out.mono hb14.size, hbel⟩
end Go.Proofs.Ytjkkfjipgomkdaa
