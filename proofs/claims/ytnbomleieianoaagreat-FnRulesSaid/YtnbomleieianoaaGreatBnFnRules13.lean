/- Contracts and plain laws for the statement FnRules, part 13. No conditions but those stated in each. -/
import Derived.Test.YtnbomleieianoaaGreatBnFnRules5
import Derived.Test.YtnbomleieianoaaGreatBnFnRules2
import Derived.Test.YtnbomleieianoaaGreatBnFnRules4
import Derived.Deep.DeepCutAuto
import Derived.Deep.Cut
import Derived.Test.YtnbomleieianoaaGreatBnFnRules6
import Derived.Test.YtnbomleieianoaaGreatBnFnRules10
import Derived.Test.YtnbomleieianoaaGreatBnFnRules3
/- Contracts: do caps cover payments, by the program. -/
namespace Go.Proofs.YtnbomleieianoaaGreat
open Go.RowKit




/-- Sums, zeros and ends, just made, apart from each other. -/
def Three (u wc : World) (n : Nat) (ps ws : List Int) (v8 v9 v10 : Value) : Prop :=
  KeepR u wc ∧ ∃ (a8 : Option Addr) (c8 g9 : Nat) (a10 : Option Addr) (c10 : Nat), v8 = .slice a8 n c8 ∧ v9 = .slice (some ⟨g9, 0, none⟩) n n ∧ v10 = .slice a10 n c10 ∧ Ints wc a8 n (sums ps ws) ∧ Own wc u.heap.size v9 (List.replicate n 0) ∧ Bo.Ints wc a10 n (endsB ps) ∧
    (∀ p, a8 = some p → p.block ≠ g9) ∧ ∀ p, a10 = some p → p.block ≠ g9
theorem three_mk {u wc : World} {n : Nat} {ps ws : List Int} {v8 v10 : Value} {b8 b9 b10 g9 : Nat} (hk : KeepR u wc) (hs : (sums ps ws).length = n) (he : (endsB ps).length = n) (h8 : Own wc b8 v8 (sums ps ws)) (h9 : Own wc b9 (.slice (some ⟨g9, 0, none⟩) n n) (List.replicate n 0)) (h10 : Bo.Own wc b10 v10 (endsB ps)) (hb : u.heap.size ≤ b9)
    (s8 : ∀ g, v8.ownBlock = some g → g ≠ g9) (s10 : ∀ g, v10.ownBlock = some g → g ≠ g9) : Three u wc n ps ws v8 (.slice (some ⟨g9, 0, none⟩) n n) v10 := by
  obtain ⟨a8, c8, rfl⟩ := h8.shape
  obtain ⟨a10, c10, rfl⟩ := h10.shape
  rw [hs] at h8 s8 ⊢
  rw [he] at h10 s10 ⊢
  exact ⟨hk, a8, c8, g9, a10, c10, rfl, rfl, rfl, h8.ints, h9.mono hb, h10.bools, (fun p hp => by subst hp; exact s8 _ rfl), (fun p hp => by subst hp; exact s10 _ rfl)⟩

/-- Do caps cover payments? -/
def capOk (ps ws l caps : List Int) (x : Nat) : Bool := !(decide (nth caps x < nth (sums ps ws) x * nth l x) || (!endB ps x && decide (nth caps x < kidSum ps (fun y => nth caps y) x ps.length)))
def coverV (ps ws l caps : List Int) : Bool := paysB ps ws l && ((caps.length == ps.length && allIn caps (-1000000000) 1000000000) && (List.range ps.length).all (capOk ps ws l caps))
theorem coverV_no {ps ws l caps : List Int} (h : paysB ps ws l = false) : coverV ps ws l caps = false := by rw [coverV, h]; rfl
theorem coverV_len {ps ws l caps : List Int} (h : ¬ caps.length = ps.length) : coverV ps ws l caps = false := by simp [coverV, h]
theorem coverV_all {ps ws l caps : List Int} (h : allIn caps (-1000000000) 1000000000 = false) : coverV ps ws l caps = false := by simp [coverV, h]
theorem coverV_bad {ps ws l caps : List Int} {x : Nat} (hx : x < ps.length) (h : capOk ps ws l caps x = false) : coverV ps ws l caps = false := by
  have := all_f hx h
  rw [coverV, this]; simp
theorem coverV_yes {ps ws l caps : List Int} (h1 : paysB ps ws l = true) (h2 : caps.length = ps.length) (h3 : allIn caps (-1000000000) 1000000000 = true) (h4 : ∀ x, x < ps.length → capOk ps ws l caps x = true) : coverV ps ws l caps = true := by
  have := all_t h4
  rw [coverV, h1, h3, this, h2]; simp
end Go.Proofs.YtnbomleieianoaaGreat

/- Contracts: do caps cover payments, by the reference. -/
namespace Go.Proofs.YtnbomleieianoaaGreat
open Go.RowKit

theorem w_zero {ps ws : List Int} (h : Tr ps ws) {x : Nat} (hx : x < ps.length) : (nth ws x == 0) = !endB ps x := by
  cases he : endB ps x
  · rw [h.inner x hx he]; rfl
  · have := h.leaf x hx he
    have : (nth ws x == 0) = false := by rw [beq_eq_false_iff_ne]; omega
    rw [this]; rfl
end Go.Proofs.YtnbomleieianoaaGreat

/- Contracts: the first entry, by the program. -/
namespace Go.Proofs.YtnbomleieianoaaGreat
open Go.RowKit

/-- For the first k nodes whether something is so at them or ahead of them, then false. -/
def beL (ps : List Int) (S : Int → Bool) (n k : Nat) : List Bool := (List.range n).map fun y => decide (y < k) && behB ps S y
theorem beL_length (ps : List Int) (S : Int → Bool) (n k : Nat) : (beL ps S n k).length = n := by simp [beL]
theorem beL_zero (ps : List Int) (S : Int → Bool) (n : Nat) : List.replicate n false = beL ps S n 0 := Bo.ext_nth (by simp [beL]) fun i hi => by
  rw [List.length_replicate] at hi
  rw [Bo.nth_replicate, beL, Bo.nth_map_range hi]; simp
theorem nth_beL {ps : List Int} {S : Int → Bool} {n k y : Nat} (h : y < k) (hn : y < n) : Bo.nth (beL ps S n k) y = behB ps S y := by rw [beL, Bo.nth_map_range hn, decide_eq_true h, Bool.true_and]
theorem beL_t {ps : List Int} {S : Int → Bool} {n k : Nat} (h : k < n) (hb : behB ps S k = true) : beL ps S n (k + 1) = (beL ps S n k).set k true := Bo.ext_nth (by simp [beL]) fun j hj => by
  rw [beL_length] at hj
  rw [Bo.nth_set (by rw [beL_length]; exact h), beL, beL, Bo.nth_map_range hj, Bo.nth_map_range hj]
  by_cases e : k = j
  · subst e; rw [if_pos rfl, decide_eq_true (by omega), hb]; rfl
  · rw [if_neg e]
    have : decide (j < k + 1) = decide (j < k) := by rw [decide_eq_decide]; omega
    rw [this]
theorem beL_f {ps : List Int} {S : Int → Bool} {n k : Nat} (hb : behB ps S k = false) : beL ps S n (k + 1) = beL ps S n k := Bo.ext_nth (by simp [beL]) fun j hj => by
  rw [beL_length] at hj
  rw [beL, beL, Bo.nth_map_range hj, Bo.nth_map_range hj]
  by_cases e : k = j
  · subst e; rw [hb]; simp
  · have : decide (j < k + 1) = decide (j < k) := by rw [decide_eq_decide]; omega
    rw [this]
/-- A list without numbers, ends and falses, just made, apart from each other. -/
def ThreeF (u wc : World) (n : Nat) (ps : List Int) (v7 v8 v9 : Value) : Prop :=
  KeepR u wc ∧ ∃ (g7 : Nat) (a8 : Option Addr) (c8 g9 : Nat), v7 = .slice (some ⟨g7, 0, none⟩) 0 0 ∧ v8 = .slice a8 n c8 ∧ v9 = .slice (some ⟨g9, 0, none⟩) n n ∧ Own wc u.heap.size v7 [] ∧ Bo.Ints wc a8 n (endsB ps) ∧ Bo.Own wc u.heap.size v9 (List.replicate n false) ∧
    g7 ≠ g9 ∧ (∀ p, a8 = some p → p.block ≠ g7) ∧ ∀ p, a8 = some p → p.block ≠ g9
theorem threeF_mk {u wc : World} {n : Nat} {ps : List Int} {v8 : Value} {b7 b8 b9 g7 g9 : Nat} (hk : KeepR u wc) (he : (endsB ps).length = n) (h7 : Own wc b7 (.slice (some ⟨g7, 0, none⟩) 0 0) []) (h8 : Bo.Own wc b8 v8 (endsB ps)) (h9 : Bo.Own wc b9 (.slice (some ⟨g9, 0, none⟩) n n) (List.replicate n false)) (hb7 : u.heap.size ≤ b7) (hb9 : u.heap.size ≤ b9) (hne : g7 ≠ g9)
    (s7 : ∀ g, v8.ownBlock = some g → g ≠ g7 ∧ g ≠ g9) : ThreeF u wc n ps (.slice (some ⟨g7, 0, none⟩) 0 0) v8 (.slice (some ⟨g9, 0, none⟩) n n) := by
  obtain ⟨a8, c8, rfl⟩ := h8.shape
  rw [he] at h8 s7 ⊢
  exact ⟨hk, g7, a8, c8, g9, rfl, rfl, rfl, h7.mono hb7, h8.bools, h9.mono hb9, hne, (fun p hp => by subst hp; exact (s7 _ rfl).1), (fun p hp => by subst hp; exact (s7 _ rfl).2)⟩
/-- The stopping at the first numbers of at least a level. -/
def entryV (ps ws l : List Int) (lev : Int) : List Int := if paysB ps ws l then firsts ps (fS (levB ps l lev)) else []
theorem entryV_no {ps ws l : List Int} {lev : Int} (h : paysB ps ws l = false) : entryV ps ws l lev = [] := by rw [entryV, h]; rfl
theorem entryV_yes {ps ws l : List Int} {lev : Int} (h : paysB ps ws l = true) : entryV ps ws l lev = firsts ps (fS (levB ps l lev)) := by rw [entryV, h]; rfl
theorem entryV_len {ps ws l : List Int} {lev : Int} : (entryV ps ws l lev).length ≤ 1048576 := by
  cases h : paysB ps ws l
  · rw [entryV_no h]; simp
  · rw [entryV_yes h]; have := (paysB_t h).1.n24; have := firsts_length ps (fS (levB ps l lev)); omega
set_option maxRecDepth 100000 in
set_option maxHeartbeats 4000000 in
theorem impl_FirstEntry (aP : Option Addr) (nP cP : Nat) (aW : Option Addr) (nW cW : Nat) (ps ws : List Int) (aL : Option Addr) (nL cL : Nat) (l : List Int) (lev : Int) (w : World) (h : Tre w aP nP cP aW nW cW ps ws) (hL : Ints w aL nL l) (_hLc : aL = none → cL = 0) (hn : nL ≤ 1048576) :
    Calls Tryz.prog 122 #[.agg #[.slice aP nP cP, .slice aW nW cW], .slice aL nL cL, .int .i64 lev] w fun e w' => ∃ v, e = .returned (.tuple #[v, .bool (paysB ps ws l)]) ∧ Own w' w.heap.size v (entryV ps ws l lev) ∧ Below w.heap.size w w' := by
  have hl := h.p.1
  have hlw := h.w.1
  have hpn := h.pn
  have hwn := h.wn
  have hb1 := below_new w (.cells #[.slice aP nP cP, .slice aW nW cW] 26)
  have hP1 := Lib.hid (Pair.new w (.slice aP nP cP) (.slice aW nW cW) 26)
  have H := Lib.hid h
  have Hl := Lib.hid hl
  have Hlw := Lib.hid hlw
  clear h hl hlw
  have HL := Lib.hid hL
  have hll := Lib.hid hL.1
  clear hL
  have hlt2 := hP1.out.lt
  go_enter Tryz.func122, Tryz.ntmps122
  have c0 := hP1.out.c0
  have c1 := hP1.out.c1
  go_wp2_with fail
  generalize (w.alloc (.cells #[.slice aP nP cP, .slice aW nW cW] 26)) = w2 at *
  refine (impl_IsTree _ _ _ _ _ _ ps ws _ (H.out.below hb1)).mono ?_
  rintro e w3 ⟨rfl, hb3⟩
  have hP3 := hP1.out.below hb3
  have d0 := hP3.c0
  have d1 := hP3.c1
  have HP3 := Lib.hid hP3
  have hb13 := hb1.trans (hb3.mono hb1.size)
  clear hP3 c0 c1 hb3
  cases hT : treeB ps ws
  · have Hv := Lib.hid (pays_no1 (l := l) hT)
    clear hT
    go_wp2_with fail
    go_ret2
    exact ⟨_, by rw [Hv.out]; rfl, by rw [entryV_no Hv.out]; exact Own.nil _ _, hb13⟩
  have HT := Lib.hid hT
  clear hT
  go_wp2_with fail
  refine (impl_isProcess _ _ _ _ _ _ ps ws _ _ _ l _ (H.out.below hb13) (HL.out.below hb13) hn).mono ?_
  rintro e w4 ⟨rfl, hb4⟩
  have hb14 := hb13.trans (hb4.mono hb13.size)
  have hP4 := HP3.out.below hb4
  have e0 := hP4.c0
  have e1 := hP4.c1
  have HP4 := Lib.hid hP4
  clear d0 d1 hP4 hb4
  cases hp : procB ps.length l
  · have Hv := Lib.hid (pays_no2 (ws := ws) hp)
    clear hp
    go_wp2_with fail
    go_ret2
    exact ⟨_, by rw [Hv.out]; rfl, by rw [entryV_no Hv.out]; exact Own.nil _ _, hb14⟩
  have Hpays := Lib.hid (pays_both HT.out hp)
  have hpp := procB_t hp
  have hTr := treeB_t HT.out
  have hn24 := hTr.n24
  have hn1 := hTr.n1
  have hnL : nP = nL := by have := hll.out; have := hpp.1; have := Hl.out; omega
  have hnW : nP = nW := by have := Hlw.out; have := hTr.wl; have := Hl.out; omega
  have hnP : 1 ≤ nP ∧ nP ≤ 24 := by have := Hl.out; omega
  have Hpp := Lib.hid hpp
  have HTr := Lib.hid hTr
  have HnW := Lib.hid hnW
  have hnW2 : nP ≤ nW := by omega
  clear hp hpp hn24 hn1 hTr hpn hwn hnW
  subst hnL
  have hmk := Bo.mk_bools nP (by omega)
  have hmx : nP ≤ maxLen := by have : maxLen = 9223372036854775807 := rfl; omega
  have Hel : Hid ((endsB ps).length = nP) := Lib.hid (by rw [endsB_length]; exact Hl.out)
  have hw4 : w.heap.size < w4.heap.size := HP4.out.lt
  have z1 : Hid (Bo.Own ((w4.alloc (.cells #[] 3)).alloc (.cells (Bo.zv nP) 4)) w4.heap.size (.slice (some ⟨w4.heap.size + 1, 0, none⟩) nP nP) (List.replicate nP false)) := Lib.hid (by
    have := Bo.Own.zeros (w4.alloc (.cells #[] 3)) w4.heap.size nP (by simp) hmx
    simpa using this)
  have z2 : Hid (Own ((w4.alloc (.cells (Bo.zv nP) 4)).alloc (.cells #[] 3)) w4.heap.size (.slice (some ⟨w4.heap.size + 1, 0, none⟩) 0 0) []) := Lib.hid (by
    have := (own_nil0 (w4.alloc (.cells (Bo.zv nP) 4))).mono (base' := w4.heap.size) (by simp)
    simpa using this)
  go_upto_region 3 with fail
  go_cut [8, 9, 10] (fun v8 v9 v10 wc => ThreeF w4 wc nP ps v8 v9 v10)
  case first =>
    go_region_held3 (fun W' => KeepR w4 W' ∧ W'.cell? ⟨w.heap.size, 0, none⟩ = some (.slice aP nP cP) ∧ W'.cell? ⟨w.heap.size, 1, none⟩ = some (.slice aW nW cW))
      (first | exact keep2 (by assumption) HP4.out | exact keep2 (KeepR.alloc0 _ _) HP4.out | exact keep2 (KeepR.start _) HP4.out | exact keep2 (KeepR.alloc (by assumption : KeepR w4 _ ∧ _).1 _) HP4.out | exact keep2 (KeepR.alloc (by assumption : KeepR w4 _ ∧ _).1 _).drew HP4.out | exact keep2 (KeepR.alloc (KeepR.alloc0 _ _) _).drew HP4.out | exact keep2 (KeepR.alloc (KeepR.alloc0 _ _) _) HP4.out)
      (first
        | (go_at_call 104; refine (impl_isEnd _ _ _ _ _ _ ps ws _ (H.out.below (hb14.trans (Below.mono (by assumption : KeepR w4 _ ∧ _).1 hb14.size))) HTr.out.toPa).mono ?_; rintro e w6 ⟨v6, rfl, o6, b6⟩; have hk6 := KeepR.next b6 (by assumption : KeepR w4 _ ∧ _).1
           have z3 : Bo.Own ((w6.alloc (.cells #[] 3)).alloc (.cells (Bo.zv nP) 4)) w6.heap.size (.slice (some ⟨w6.heap.size + 1, 0, none⟩) nP nP) (List.replicate nP false) := by
             have := Bo.Own.zeros (w6.alloc (.cells #[] 3)) w6.heap.size nP (by simp) hmx
             simpa using this
           have z4 : Own ((w6.alloc (.cells (Bo.zv nP) 4)).alloc (.cells #[] 3)) w6.heap.size (.slice (some ⟨w6.heap.size + 1, 0, none⟩) 0 0) [] := by
             have := (own_nil0 (w6.alloc (.cells (Bo.zv nP) 4))).mono (base' := w6.heap.size) (by simp)
             simpa using this))
    all_goals (go_wp2_with fail)
    all_goals go_meet
    all_goals first
      | exact threeF_mk hk6 Hel.out ((((own_nil0 w4).below (below_new _ _)).below (Below.refl _ _).drew).below b6) o6 ((z1.out.below (Below.refl _ _).drew).below b6) (Nat.le_refl _) (Nat.le_refl _) (by simp) (fun g hg => by have h1 := World.ownsRow.lt o6 g hg; have h2 := Below.size hk6; have h3 := b6.size; (try simp at h1); (try simp at h3); constructor <;> (try simp) <;> omega)
      | exact threeF_mk hk6 Hel.out ((z2.out.below (Below.refl _ _).drew).below b6) o6 ((((Bo.Own.zeros w4 w4.heap.size nP (Nat.le_refl _) hmx).below (below_new _ _)).below (Below.refl _ _).drew).below b6) (Nat.le_refl _) (Nat.le_refl _) (by simp) (fun g hg => by have h1 := World.ownsRow.lt o6 g hg; have h2 := Below.size hk6; have h3 := b6.size; (try simp at h1); (try simp at h3); constructor <;> (try simp) <;> omega)
      | exact threeF_mk (KeepR.alloc hk6 _) Hel.out ((((own_nil0 w4).below (Below.refl _ _).drew).below b6).below (below_new w6 _)) (o6.below (below_new w6 _)) (Bo.Own.zeros w6 w6.heap.size nP (Nat.le_refl _) hmx) (Nat.le_refl _) (Below.size hk6) (by have h2 := Below.size hk6; have h3 := b6.size; (try simp at h3); (try simp) <;> omega) (fun g hg => by have h1 := World.ownsRow.lt o6 g hg; have h2 := Below.size hk6; have h3 := b6.size; (try simp at h1); (try simp at h3); constructor <;> (try simp) <;> omega)
      | exact threeF_mk (KeepR.alloc hk6 _) Hel.out (own_nil0 w6) (o6.below (below_new w6 _)) ((((Bo.Own.zeros w4 w4.heap.size nP (Nat.le_refl _) hmx).below (Below.refl _ _).drew).below b6).below (below_new w6 _)) (Below.size hk6) (Nat.le_refl _) (by have h2 := Below.size hk6; have h3 := b6.size; (try simp at h3); (try simp) <;> omega) (fun g hg => by have h1 := World.ownsRow.lt o6 g hg; have h2 := Below.size hk6; have h3 := b6.size; (try simp at h1); (try simp at h3); constructor <;> (try simp) <;> omega)
      | exact threeF_mk (KeepR.alloc (KeepR.alloc hk6 _) _) Hel.out ((own_nil0 w6).below (below_new _ _)) ((o6.below (below_new w6 _)).below (below_new _ _)) z3 (Below.size hk6) (Below.size hk6) (by have h2 := Below.size hk6; have h3 := b6.size; (try simp at h3); (try simp) <;> omega) (fun g hg => by have h1 := World.ownsRow.lt o6 g hg; have h2 := Below.size hk6; have h3 := b6.size; (try simp at h1); (try simp at h3); constructor <;> (try simp) <;> omega)
      | exact threeF_mk (KeepR.alloc (KeepR.alloc hk6 _) _) Hel.out z4 ((o6.below (below_new w6 _)).below (below_new _ _)) ((Bo.Own.zeros w6 w6.heap.size nP (Nat.le_refl _) hmx).below (below_new _ _)) (Below.size hk6) (Below.size hk6) (by have h2 := Below.size hk6; have h3 := b6.size; (try simp at h3); (try simp) <;> omega) (fun g hg => by have h1 := World.ownsRow.lt o6 g hg; have h2 := Below.size hk6; have h3 := b6.size; (try simp at h1); (try simp at h3); constructor <;> (try simp) <;> omega)
  case rest =>
    clear hmk e0 e1
    obtain ⟨hk5, g8, a9, c9, g10, rfl, rfl, rfl, o8, i9, o10, hne, s8, s10⟩ := hcut
    have hk5b : Below w4.heap.size w4 wc := hk5
    have hb15 := hb14.trans (hk5b.mono hb14.size)
    have HP5 := Lib.hid (HP4.out.below hk5b)
    have G9 := Lib.hid i9
    have hlt8 := o8.lt
    have hlt10 := o10.lt
    have hfs := Lib.hid (entryV_yes (lev := lev) Hpays.out)
    clear i9 hk5 hk5b
    have HneN0 : (Value.slice (some ⟨g8, 0, none⟩) 0 0).ownBlock ≠ some g10 := by simp [Value.ownBlock]; exact hne
    have hap0 : 0 < nP → Apart a9 (Value.slice (some ⟨g8, 0, none⟩) 0 0) := fun _ p hp e => by
      simp [Value.ownBlock] at e
      exact s8 p hp e.symm
    have H10 : Hid (Bo.Own wc w4.heap.size (.slice (some ⟨g10, 0, none⟩) nP nP) (beL ps (fS (levB ps l lev)) nP 0)) := Lib.hid (by rw [← beL_zero]; exact o10)
    have H8 := Lib.hid o8
    have Hap0 := Lib.hid hap0
    have Hne0 := Lib.hid HneN0
    clear o10 o8 hap0 HneN0 s8
    go_wp2_with fail
    go_loopw [8, 30] (fun v8 v30 wr => ∃ k : Nat, k ≤ nP ∧ v30 = .int .i64 (k : Int) ∧ Own wr w4.heap.size v8 (filt (firB ps (fS (levB ps l lev))) k) ∧ Bo.Ints wr a9 nP (endsB ps) ∧ Bo.Own wr w4.heap.size (.slice (some ⟨g10, 0, none⟩) nP nP) (beL ps (fS (levB ps l lev)) nP k) ∧ Pair wr w.heap.size (.slice aP nP cP) (.slice aW nW cW) ∧ v8.ownBlock ≠ some g10 ∧ (0 < nP → Apart a9 v8) ∧ Below w.heap.size w wr) (fun _ v30 _ => nP - (intOf v30).toNat)
    case atStart => exact ⟨0, Nat.zero_le _, rfl, H8.out, G9.out, H10.out, HP5.out, Hne0.out, Hap0.out, hb15⟩
    case round =>
      clear H8 H10 Hap0 Hne0 G9 hb15 HP5 hlt8
      obtain ⟨k, hk, rfl, hou, hend, hent, hP, hne2, hap, hbel⟩ := hrel
      have c0 := hP.c0
      have c1 := hP.c1
      have HP := Lib.hid hP
      have Hend := Lib.hid hend
      have HneN := Lib.hid hne2
      have Hap := Lib.hid hap
      have hg10w : g10 < wr.heap.size := hent.lt.2
      have hw4r : w4.heap.size ≤ wr.heap.size := by omega
      clear hP hend hne2 hap
      by_cases hlt : (k : Int) < nP
      · obtain ⟨bE, oE, rfl, hcE⟩ := Hend.out.at (i := k) (Below.refl _ _) (by omega)
        rw [nth_endsB (by have := Hl.out; omega)] at hcE
        obtain ⟨bL, oL, rfl, hcL⟩ := HL.out.at (i := k) hbel (by omega)
        obtain ⟨bP, oP, rfl, hcP⟩ := H.out.p.at (i := k) hbel (by omega)
        have hcN := hent.cell (i := k) (by rw [beL_length]; omega)
        have hfN := hent.free (by rw [beL_length]) k
        have hfl := filt_length (firB ps (fS (levB ps l lev))) k
        by_cases hk0 : k = 0
        · have hbf : behB ps (fS (levB ps l lev)) k = fS (levB ps l lev) (k : Int) ∧ firB ps (fS (levB ps l lev)) k = fS (levB ps l lev) (k : Int) := by subst hk0; exact beh_zero _ _
          have hx0 : ¬ (k : Int) > 0 := by omega
          clear hcP hk0
          cases he : endB ps k
          · rw [he] at hcE
            by_cases hp : nth l k ≥ lev
            · have hbe : behB ps (fS (levB ps l lev)) k = true := by rw [hbf.1]; unfold fS levB; rw [Int.toNat_natCast, decide_eq_true hp]; simp
              have hfi : firB ps (fS (levB ps l lev)) k = true := by rw [hbf.2]; unfold fS levB; rw [Int.toNat_natCast, decide_eq_true hp]; simp
              generalize nth l k = q at *
              clear hbf he
              have hbt := beL_t (n := nP) (show k < nP by omega) hbe
              have Hs := Lib.hid (hent.set (by rw [beL_length]) k true)
              have HouF := Lib.hid (hou.far (a := ⟨g10, k, none⟩) (u := .bool true) HneN.out)
              have HenF := Lib.hid (Bo.ints_far Hend.out (b := g10) (i := k) s10 (.bool true))
              have HPF := Lib.hid (HP.out.far (b := g10) (i := k) (by omega) (.bool true))
              have Hbt := Lib.hid hbt
              clear hbt hent hou
              have Hff := Lib.hid (filt_t hfi)
              have hbs : Below w.heap.size w (wr.setCell ⟨g10, k, none⟩ (.bool true)) := hbel.setCell (show w.heap.size ≤ g10 by omega) _
              have hsz2 : w4.heap.size ≤ (wr.setCell ⟨g10, k, none⟩ (.bool true)).heap.size := by simpa using hw4r
              clear hbe hfi
              go_upto_region 11 with fail
              generalize wr.setCell ⟨g10, k, none⟩ (.bool true) = wz at *
              go_wp2_with (at_builtin; refine wp_push2 _ _ rfl rfl w4.heap.size _ _ rfl HouF.out rfl (by omega) hsz2 ?_; intro v' w' ho hb hm)
              have hE2 := Bo.Ints.moved HenF.out hm Hap.out
              have hN2 := Bo.Own.moved Hs.out hm (fun g hg e => HneN.out ((show g10 = g by simpa [Value.ownBlock] using hg) ▸ e))
              have hg10 : g10 < wr.heap.size := hg10w
              go_roundw
              case rel => exact ⟨k + 1, by omega, by go_num, by rw [Hff.out]; exact ho, hE2.1, by rw [Hbt.out]; exact hN2, HPF.out.up hb (by omega), (hm.2 g10 (Hs.out.lt.2) HneN.out).1, hE2.2, hbs.trans (hb.mono (by omega))⟩
              case measure => simp [intOf]; omega
            · have hbe : behB ps (fS (levB ps l lev)) k = false := by rw [hbf.1]; unfold fS levB; rw [Int.toNat_natCast, decide_eq_false hp, he]; rfl
              have hfi : firB ps (fS (levB ps l lev)) k = false := by rw [hbf.2]; unfold fS levB; rw [Int.toNat_natCast, decide_eq_false hp, he]; rfl
              generalize nth l k = q at *
              clear hbf he
              have Hff := Lib.hid (filt_f hfi)
              have Hbf := Lib.hid (beL_f (n := nP) hbe)
              clear hbe hfi
              go_wp2_with fail
              go_roundw
              case rel => exact ⟨k + 1, by omega, by go_num, by rw [Hff.out]; exact hou, Hend.out, by rw [Hbf.out]; exact hent, HP.out, HneN.out, Hap.out, hbel⟩
              case measure => simp [intOf]; omega
          · rw [he] at hcE
            have hbe : behB ps (fS (levB ps l lev)) k = true := by rw [hbf.1]; unfold fS levB; rw [Int.toNat_natCast, he]; rfl
            have hfi : firB ps (fS (levB ps l lev)) k = true := by rw [hbf.2]; unfold fS levB; rw [Int.toNat_natCast, he]; rfl
            generalize hq : nth l k = q at *
            clear hbf he hq
            by_cases hp : q ≥ lev
            · skip
              have hbt := beL_t (n := nP) (show k < nP by omega) hbe
              have Hs := Lib.hid (hent.set (by rw [beL_length]) k true)
              have HouF := Lib.hid (hou.far (a := ⟨g10, k, none⟩) (u := .bool true) HneN.out)
              have HenF := Lib.hid (Bo.ints_far Hend.out (b := g10) (i := k) s10 (.bool true))
              have HPF := Lib.hid (HP.out.far (b := g10) (i := k) (by omega) (.bool true))
              have Hbt := Lib.hid hbt
              clear hbt hent hou
              have Hff := Lib.hid (filt_t hfi)
              have hbs : Below w.heap.size w (wr.setCell ⟨g10, k, none⟩ (.bool true)) := hbel.setCell (show w.heap.size ≤ g10 by omega) _
              have hsz2 : w4.heap.size ≤ (wr.setCell ⟨g10, k, none⟩ (.bool true)).heap.size := by simpa using hw4r
              clear hbe hfi
              go_upto_region 11 with fail
              generalize wr.setCell ⟨g10, k, none⟩ (.bool true) = wz at *
              go_wp2_with (at_builtin; refine wp_push2 _ _ rfl rfl w4.heap.size _ _ rfl HouF.out rfl (by omega) hsz2 ?_; intro v' w' ho hb hm)
              have hE2 := Bo.Ints.moved HenF.out hm Hap.out
              have hN2 := Bo.Own.moved Hs.out hm (fun g hg e => HneN.out ((show g10 = g by simpa [Value.ownBlock] using hg) ▸ e))
              have hg10 : g10 < wr.heap.size := hg10w
              go_roundw
              case rel => exact ⟨k + 1, by omega, by go_num, by rw [Hff.out]; exact ho, hE2.1, by rw [Hbt.out]; exact hN2, HPF.out.up hb (by omega), (hm.2 g10 (Hs.out.lt.2) HneN.out).1, hE2.2, hbs.trans (hb.mono (by omega))⟩
              case measure => simp [intOf]; omega
            · skip
              have hbt := beL_t (n := nP) (show k < nP by omega) hbe
              have Hs := Lib.hid (hent.set (by rw [beL_length]) k true)
              have HouF := Lib.hid (hou.far (a := ⟨g10, k, none⟩) (u := .bool true) HneN.out)
              have HenF := Lib.hid (Bo.ints_far Hend.out (b := g10) (i := k) s10 (.bool true))
              have HPF := Lib.hid (HP.out.far (b := g10) (i := k) (by omega) (.bool true))
              have Hbt := Lib.hid hbt
              clear hbt hent hou
              have Hff := Lib.hid (filt_t hfi)
              have hbs : Below w.heap.size w (wr.setCell ⟨g10, k, none⟩ (.bool true)) := hbel.setCell (show w.heap.size ≤ g10 by omega) _
              have hsz2 : w4.heap.size ≤ (wr.setCell ⟨g10, k, none⟩ (.bool true)).heap.size := by simpa using hw4r
              clear hbe hfi
              go_upto_region 11 with fail
              generalize wr.setCell ⟨g10, k, none⟩ (.bool true) = wz at *
              go_wp2_with (at_builtin; refine wp_push2 _ _ rfl rfl w4.heap.size _ _ rfl HouF.out rfl (by omega) hsz2 ?_; intro v' w' ho hb hm)
              have hE2 := Bo.Ints.moved HenF.out hm Hap.out
              have hN2 := Bo.Own.moved Hs.out hm (fun g hg e => HneN.out ((show g10 = g by simpa [Value.ownBlock] using hg) ▸ e))
              have hg10 : g10 < wr.heap.size := hg10w
              go_roundw
              case rel => exact ⟨k + 1, by omega, by go_num, by rw [Hff.out]; exact ho, hE2.1, by rw [Hbt.out]; exact hN2, HPF.out.up hb (by omega), (hm.2 g10 (Hs.out.lt.2) HneN.out).1, hE2.2, hbs.trans (hb.mono (by omega))⟩
              case measure => simp [intOf]; omega
        · have hx0 : (k : Int) > 0 := by omega
          have hup := HTr.out.toPa.upN (x := k) (by omega) (by have := Hl.out; omega)
          have hbu := beh_up HTr.out.toPa (fS (levB ps l lev)) (x := k) (by omega) (by have := Hl.out; omega)
          have hcQ := hent.cell (i := par ps k) (by rw [beL_length]; have := hup.2; omega)
          rw [nth_beL hup.2 (by have := hup.2; omega)] at hcQ
          rw [hup.1] at hcP
          have hpl := hup.2
          have hpl2 : par ps k < nP := by omega
          clear hup
          generalize par ps k = pk at *
          cases hbp : behB ps (fS (levB ps l lev)) pk
          · have hbf := hbu.2 hbp
            rw [hbp] at hcQ
            clear hbu hbp
            cases he : endB ps k
            · rw [he] at hcE
              by_cases hp : nth l k ≥ lev
              · have hbe : behB ps (fS (levB ps l lev)) k = true := by rw [hbf.1]; unfold fS levB; rw [Int.toNat_natCast, decide_eq_true hp]; simp
                have hfi : firB ps (fS (levB ps l lev)) k = true := by rw [hbf.2]; unfold fS levB; rw [Int.toNat_natCast, decide_eq_true hp]; simp
                generalize nth l k = q at *
                clear hbf he
                have hbt := beL_t (n := nP) (show k < nP by omega) hbe
                have Hs := Lib.hid (hent.set (by rw [beL_length]) k true)
                have HouF := Lib.hid (hou.far (a := ⟨g10, k, none⟩) (u := .bool true) HneN.out)
                have HenF := Lib.hid (Bo.ints_far Hend.out (b := g10) (i := k) s10 (.bool true))
                have HPF := Lib.hid (HP.out.far (b := g10) (i := k) (by omega) (.bool true))
                have Hbt := Lib.hid hbt
                clear hbt hent hou
                have Hff := Lib.hid (filt_t hfi)
                have hbs : Below w.heap.size w (wr.setCell ⟨g10, k, none⟩ (.bool true)) := hbel.setCell (show w.heap.size ≤ g10 by omega) _
                have hsz2 : w4.heap.size ≤ (wr.setCell ⟨g10, k, none⟩ (.bool true)).heap.size := by simpa using hw4r
                clear hbe hfi
                go_upto_region 11 with fail
                generalize wr.setCell ⟨g10, k, none⟩ (.bool true) = wz at *
                go_wp2_with (at_builtin; refine wp_push2 _ _ rfl rfl w4.heap.size _ _ rfl HouF.out rfl (by omega) hsz2 ?_; intro v' w' ho hb hm)
                have hE2 := Bo.Ints.moved HenF.out hm Hap.out
                have hN2 := Bo.Own.moved Hs.out hm (fun g hg e => HneN.out ((show g10 = g by simpa [Value.ownBlock] using hg) ▸ e))
                have hg10 : g10 < wr.heap.size := hg10w
                go_roundw
                case rel => exact ⟨k + 1, by omega, by go_num, by rw [Hff.out]; exact ho, hE2.1, by rw [Hbt.out]; exact hN2, HPF.out.up hb (by omega), (hm.2 g10 (Hs.out.lt.2) HneN.out).1, hE2.2, hbs.trans (hb.mono (by omega))⟩
                case measure => simp [intOf]; omega
              · have hbe : behB ps (fS (levB ps l lev)) k = false := by rw [hbf.1]; unfold fS levB; rw [Int.toNat_natCast, decide_eq_false hp, he]; rfl
                have hfi : firB ps (fS (levB ps l lev)) k = false := by rw [hbf.2]; unfold fS levB; rw [Int.toNat_natCast, decide_eq_false hp, he]; rfl
                generalize nth l k = q at *
                clear hbf he
                have Hff := Lib.hid (filt_f hfi)
                have Hbf := Lib.hid (beL_f (n := nP) hbe)
                clear hbe hfi
                go_wp2_with fail
                go_roundw
                case rel => exact ⟨k + 1, by omega, by go_num, by rw [Hff.out]; exact hou, Hend.out, by rw [Hbf.out]; exact hent, HP.out, HneN.out, Hap.out, hbel⟩
                case measure => simp [intOf]; omega
            · rw [he] at hcE
              have hbe : behB ps (fS (levB ps l lev)) k = true := by rw [hbf.1]; unfold fS levB; rw [Int.toNat_natCast, he]; rfl
              have hfi : firB ps (fS (levB ps l lev)) k = true := by rw [hbf.2]; unfold fS levB; rw [Int.toNat_natCast, he]; rfl
              generalize hq : nth l k = q at *
              clear hbf he hq
              by_cases hp : q ≥ lev
              · skip
                have hbt := beL_t (n := nP) (show k < nP by omega) hbe
                have Hs := Lib.hid (hent.set (by rw [beL_length]) k true)
                have HouF := Lib.hid (hou.far (a := ⟨g10, k, none⟩) (u := .bool true) HneN.out)
                have HenF := Lib.hid (Bo.ints_far Hend.out (b := g10) (i := k) s10 (.bool true))
                have HPF := Lib.hid (HP.out.far (b := g10) (i := k) (by omega) (.bool true))
                have Hbt := Lib.hid hbt
                clear hbt hent hou
                have Hff := Lib.hid (filt_t hfi)
                have hbs : Below w.heap.size w (wr.setCell ⟨g10, k, none⟩ (.bool true)) := hbel.setCell (show w.heap.size ≤ g10 by omega) _
                have hsz2 : w4.heap.size ≤ (wr.setCell ⟨g10, k, none⟩ (.bool true)).heap.size := by simpa using hw4r
                clear hbe hfi
                go_upto_region 11 with fail
                generalize wr.setCell ⟨g10, k, none⟩ (.bool true) = wz at *
                go_wp2_with (at_builtin; refine wp_push2 _ _ rfl rfl w4.heap.size _ _ rfl HouF.out rfl (by omega) hsz2 ?_; intro v' w' ho hb hm)
                have hE2 := Bo.Ints.moved HenF.out hm Hap.out
                have hN2 := Bo.Own.moved Hs.out hm (fun g hg e => HneN.out ((show g10 = g by simpa [Value.ownBlock] using hg) ▸ e))
                have hg10 : g10 < wr.heap.size := hg10w
                go_roundw
                case rel => exact ⟨k + 1, by omega, by go_num, by rw [Hff.out]; exact ho, hE2.1, by rw [Hbt.out]; exact hN2, HPF.out.up hb (by omega), (hm.2 g10 (Hs.out.lt.2) HneN.out).1, hE2.2, hbs.trans (hb.mono (by omega))⟩
                case measure => simp [intOf]; omega
              · skip
                have hbt := beL_t (n := nP) (show k < nP by omega) hbe
                have Hs := Lib.hid (hent.set (by rw [beL_length]) k true)
                have HouF := Lib.hid (hou.far (a := ⟨g10, k, none⟩) (u := .bool true) HneN.out)
                have HenF := Lib.hid (Bo.ints_far Hend.out (b := g10) (i := k) s10 (.bool true))
                have HPF := Lib.hid (HP.out.far (b := g10) (i := k) (by omega) (.bool true))
                have Hbt := Lib.hid hbt
                clear hbt hent hou
                have Hff := Lib.hid (filt_t hfi)
                have hbs : Below w.heap.size w (wr.setCell ⟨g10, k, none⟩ (.bool true)) := hbel.setCell (show w.heap.size ≤ g10 by omega) _
                have hsz2 : w4.heap.size ≤ (wr.setCell ⟨g10, k, none⟩ (.bool true)).heap.size := by simpa using hw4r
                clear hbe hfi
                go_upto_region 11 with fail
                generalize wr.setCell ⟨g10, k, none⟩ (.bool true) = wz at *
                go_wp2_with (at_builtin; refine wp_push2 _ _ rfl rfl w4.heap.size _ _ rfl HouF.out rfl (by omega) hsz2 ?_; intro v' w' ho hb hm)
                have hE2 := Bo.Ints.moved HenF.out hm Hap.out
                have hN2 := Bo.Own.moved Hs.out hm (fun g hg e => HneN.out ((show g10 = g by simpa [Value.ownBlock] using hg) ▸ e))
                have hg10 : g10 < wr.heap.size := hg10w
                go_roundw
                case rel => exact ⟨k + 1, by omega, by go_num, by rw [Hff.out]; exact ho, hE2.1, by rw [Hbt.out]; exact hN2, HPF.out.up hb (by omega), (hm.2 g10 (Hs.out.lt.2) HneN.out).1, hE2.2, hbs.trans (hb.mono (by omega))⟩
                case measure => simp [intOf]; omega
          · obtain ⟨hbe, hfi⟩ := hbu.1 hbp
            rw [hbp] at hcQ
            clear hbu hbp
            have hbt := beL_t (n := nP) (show k < nP by omega) hbe
            have Hs := Lib.hid (hent.set (by rw [beL_length]) k true)
            have HouF := Lib.hid (hou.far (a := ⟨g10, k, none⟩) (u := .bool true) HneN.out)
            have HenF := Lib.hid (Bo.ints_far Hend.out (b := g10) (i := k) s10 (.bool true))
            have HPF := Lib.hid (HP.out.far (b := g10) (i := k) (by omega) (.bool true))
            have Hbt := Lib.hid hbt
            clear hbt hent hou
            have Hff := Lib.hid (filt_f hfi)
            clear hbe hfi
            go_wp2_with fail
            go_roundw
            case rel => exact ⟨k + 1, by omega, by go_num, by rw [Hff.out]; exact HouF.out, HenF.out, by rw [Hbt.out]; exact Hs.out, HPF.out, HneN.out, Hap.out, hbel.setCell (show w.heap.size ≤ g10 by omega) _⟩
            case measure => simp [intOf]; omega
      · obtain rfl : k = nP := by omega
        have HO := Lib.hid hou
        have Hfir : Hid (filt (firB ps (fS (levB ps l lev))) k = entryV ps ws l lev) := Lib.hid (by rw [hfs.out]; unfold firsts; rw [Hl.out])
        clear hou
        go_wp2_with fail
        go_ret2
        exact ⟨_, by rw [Hpays.out]; rfl, by rw [← Hfir.out]; exact HO.out.mono hb14.size, hbel⟩
end Go.Proofs.YtnbomleieianoaaGreat

/- Contract: the rule that stops at the first node on each way at which something is so, by the program. -/
namespace Go.Proofs.YtnbomleieianoaaGreat
open Go.RowKit

/-- A list without numbers and falses, just made, apart from each other. -/
def TwoF (u wc : World) (n : Nat) (v5 v6 : Value) : Prop :=
  KeepR u wc ∧ ∃ g5 g6 : Nat, v5 = .slice (some ⟨g5, 0, none⟩) 0 0 ∧ v6 = .slice (some ⟨g6, 0, none⟩) n n ∧ g5 ≠ g6 ∧ Own wc u.heap.size v5 [] ∧ Bo.Own wc u.heap.size v6 (List.replicate n false)
set_option maxRecDepth 100000 in
set_option maxHeartbeats 4000000 in
theorem impl_firsts (aP : Option Addr) (nP cP : Nat) (aW : Option Addr) (nW cW : Nat) (ps ws : List Int) (f : FuncId) (caps : Array Value) (q : Nat → Bool) (w : World) (h : Tre w aP nP cP aW nW cW ps ws) (hp : Pa ps)
    (hcf : ∀ (args : Array Value) (W : World), (callFunc f args).run Tryz.prog W = .ok (.enter f args) W)
    (hst : ∀ (x : Nat) (W : World), x < nP → Below w.heap.size w W → Calls Tryz.prog f (#[.int .i64 (x : Int)] ++ caps) W fun e w' => e = .returned (.bool (q x)) ∧ Below W.heap.size W w') :
    Calls Tryz.prog 101 #[.agg #[.slice aP nP cP, .slice aW nW cW], .func (.func f) #[] caps] w fun e w' => ∃ v, e = .returned v ∧ Own w' w.heap.size v (firsts ps (fS q)) ∧ Below w.heap.size w w' := by
  have Hp := Lib.hid hp
  have hn24 := hp.n24
  have hl := h.p.1
  have hlw := h.w.1
  have hpn := h.pn
  have hwn := h.wn
  have hb1 := below_new w (.cells #[.slice aP nP cP, .slice aW nW cW] 26)
  have hP1 := Lib.hid (Pair.new w (.slice aP nP cP) (.slice aW nW cW) 26)
  have H := Lib.hid h
  have Hl := Lib.hid hl
  have Hlw := Lib.hid hlw
  clear h hl hlw
  have hnP : nP ≤ 24 := by have := Hl.out; omega
  have Hst := Lib.hid hst
  clear hp hn24 hst
  have hmk := Bo.mk_bools nP (by omega)
  have hmx : nP ≤ maxLen := by have : maxLen = 9223372036854775807 := rfl; omega
  have c0 := hP1.out.c0
  have c1 := hP1.out.c1
  go_enter Tryz.func101, Tryz.ntmps101
  go_wp2_with fail
  have hu0 : w.heap.size + 1 ≤ (w.alloc (.cells #[.slice aP nP cP, .slice aW nW cW] 26)).heap.size := by simp
  generalize (w.alloc (.cells #[.slice aP nP cP, .slice aW nW cW] 26)) = u0 at *
  have z1 : Hid (Bo.Own ((u0.alloc (.cells #[] 3)).alloc (.cells (Bo.zv nP) 4)) u0.heap.size (.slice (some ⟨u0.heap.size + 1, 0, none⟩) nP nP) (List.replicate nP false)) := Lib.hid (by
    have := Bo.Own.zeros (u0.alloc (.cells #[] 3)) u0.heap.size nP (by simp) hmx
    simpa using this)
  have z2 : Hid (Own ((u0.alloc (.cells (Bo.zv nP) 4)).alloc (.cells #[] 3)) u0.heap.size (.slice (some ⟨u0.heap.size + 1, 0, none⟩) 0 0) []) := Lib.hid (by
    have := (own_nil0 (u0.alloc (.cells (Bo.zv nP) 4))).mono (base' := u0.heap.size) (by simp)
    simpa using this)
  go_cut [5, 6] (fun v5 v6 wc => TwoF u0 wc nP v5 v6)
  case first =>
    go_region_held3 (fun W' => KeepR u0 W' ∧ W'.cell? ⟨w.heap.size, 0, none⟩ = some (.slice aP nP cP))
      (first | exact keepC1 (by assumption) c0 | exact keepC1 (KeepR.alloc0 _ _) c0 | exact keepC1 (KeepR.start _) c0 | exact keepC1 (KeepR.alloc (by assumption : KeepR u0 _ ∧ _).1 _) c0 | exact keepC1 (KeepR.alloc (by assumption : KeepR u0 _ ∧ _).1 _).drew c0 | exact keepC1 (KeepR.alloc (KeepR.alloc0 _ _) _).drew c0 | exact keepC1 (KeepR.alloc (KeepR.alloc0 _ _) _) c0)
      (fail)
    all_goals (go_wp2_with fail)
    all_goals go_meet
    all_goals first
      | exact ⟨((below_new u0 _).alloc (by simp) _).drew, _, _, rfl, rfl, by simp, ((own_nil0 u0).below (below_new _ _)).below (Below.refl _ _).drew, z1.out.below (Below.refl _ _).drew⟩
      | exact ⟨((below_new u0 _).alloc (by simp) _).drew, _, _, rfl, rfl, by simp, z2.out.below (Below.refl _ _).drew, ((Bo.Own.zeros u0 u0.heap.size nP (Nat.le_refl _) hmx).below (below_new _ _)).below (Below.refl _ _).drew⟩
  case rest =>
    clear hmk
    obtain ⟨hk4, g5, g6, rfl, rfl, hne, o5, o6⟩ := hcut
    have hk4b : Below u0.heap.size u0 wc := hk4
    have hb4 := hb1.trans (hk4b.mono hb1.size)
    have HP4 := Lib.hid (hP1.out.below hk4b)
    have hlt6 := o6.lt
    have hlt2 : u0.heap.size ≤ wc.heap.size := hk4b.size
    have O6 : Hid (Bo.Own wc u0.heap.size (.slice (some ⟨g6, 0, none⟩) nP nP) (beL ps (fS q) nP 0)) := Lib.hid (by rw [← beL_zero]; exact o6)
    have O5 := Lib.hid o5
    have Hne0 : Hid ((Value.slice (some ⟨g5, 0, none⟩) 0 0).ownBlock ≠ some g6) := Lib.hid (by simp [Value.ownBlock]; exact hne)
    clear o5 o6 hk4 hk4b c0 c1 hb1 hP1
    have c0 := HP4.out.c0
    go_wp2_with fail

    go_loopw [5, 16] (fun v5 v16 wr => ∃ k : Nat, k ≤ nP ∧ v16 = .int .i64 (k : Int) ∧ Own wr u0.heap.size v5 (filt (firB ps (fS q)) k) ∧ Bo.Own wr u0.heap.size (.slice (some ⟨g6, 0, none⟩) nP nP) (beL ps (fS q) nP k) ∧ Pair wr w.heap.size (.slice aP nP cP) (.slice aW nW cW) ∧ v5.ownBlock ≠ some g6 ∧ Below w.heap.size w wr) (fun _ v16 _ => nP - (intOf v16).toNat)
    case atStart => exact ⟨0, Nat.zero_le _, rfl, O5.out, O6.out, HP4.out, Hne0.out, hb4⟩
    case round =>
      clear O5 O6 Hne0 hb4 HP4 hlt2 c0
      obtain ⟨k, hk, rfl, hou, hent, hP, hne2, hbel⟩ := hrel
      have c0 := hP.c0
      have c1 := hP.c1
      have HP := Lib.hid hP
      have HneN := Lib.hid hne2
      have hu0r : u0.heap.size ≤ wr.heap.size := by have := hent.lt; omega
      clear hP hne2
      by_cases hlt : (k : Int) < nP
      · obtain ⟨bP, oP, rfl, hcP⟩ := H.out.p.at (i := k) hbel (by omega)
        have hcN := hent.cell (i := k) (by rw [beL_length]; omega)
        have hfN := hent.free (by rw [beL_length]) k
        have hfl := filt_length (firB ps (fS q)) k
        by_cases hk0 : k = 0
        · have hbf : behB ps (fS q) k = fS q (k : Int) ∧ firB ps (fS q) k = fS q (k : Int) := by subst hk0; exact beh_zero _ _
          have hx0 : ¬ (k : Int) > 0 := by omega
          clear hcP hk0
          have hqf : fS q (k : Int) = q k := by unfold fS; rw [Int.toNat_natCast]
          rw [hqf] at hbf
          go_wp2_with fail
          refine (Hst.out k _ (by omega) hbel).mono ?_
          rintro e w5 ⟨rfl, b5⟩
          have hou5 := hou.below b5
          have hent5 := hent.below b5
          have HP5 := Lib.hid (HP.out.below b5)
          have hbel5 := hbel.trans (b5.mono hbel.size)
          have hu05 : u0.heap.size ≤ w5.heap.size := Nat.le_trans hu0r b5.size
          have c05 := HP5.out.c0
          have hcN5 := hent5.cell (i := k) (by rw [beL_length]; omega)
          have hfN5 := hent5.free (by rw [beL_length]) k
          clear hou hent HP hbel hu0r hcN hfN b5 c0 c1
          have hou := hou5
          have hent := hent5
          have HP := HP5
          have hbel := hbel5
          have hu0r := hu05
          clear hou5 hent5 HP5 hbel5 hu05
          cases hq : q k
          · have hbe : behB ps (fS q) k = false := by rw [hbf.1, hq]
            have hfi : firB ps (fS q) k = false := by rw [hbf.2, hq]
            clear hbf hq hqf
            have Hff := Lib.hid (filt_f hfi)
            have Hbf := Lib.hid (beL_f (n := nP) hbe)
            clear hbe hfi
            go_wp2_with fail
            go_roundw
            case rel => exact ⟨k + 1, by omega, by go_num, by rw [Hff.out]; exact hou, by rw [Hbf.out]; exact hent, HP.out, HneN.out, hbel⟩
            case measure => simp [intOf]; omega
          · have hbe : behB ps (fS q) k = true := by rw [hbf.1, hq]
            have hfi : firB ps (fS q) k = true := by rw [hbf.2, hq]
            clear hbf hq hqf
            have hbt := beL_t (n := nP) (show k < nP by omega) hbe
            have Hs := Lib.hid (Bo.Own.set (w := w5) hent (by rw [beL_length]) k true)
            have HouF := Lib.hid (Own.far (w := w5) hou (a := ⟨g6, k, none⟩) (u := .bool true) HneN.out)
            have HPF := Lib.hid (Pair.far (w := w5) HP.out (b := g6) (i := k) (by omega) (.bool true))
            have hbs : Below w.heap.size w (w5.setCell ⟨g6, k, none⟩ (.bool true)) := hbel.setCell (show w.heap.size ≤ g6 by omega) _
            have Hbt := Lib.hid hbt
            clear hbt hent hou
            have Hff := Lib.hid (filt_t hfi)
            have hsz2 : u0.heap.size ≤ (w5.setCell ⟨g6, k, none⟩ (.bool true)).heap.size := by simpa using hu0r
            clear hbe hfi
            go_upto_region 9 with fail
            generalize w5.setCell ⟨g6, k, none⟩ (.bool true) = wz at *
            go_wp2_with (at_builtin; refine wp_push2 _ _ rfl rfl u0.heap.size _ _ rfl HouF.out rfl (by omega) hsz2 ?_; intro v' w' ho hb hm)
            have hN2 := Bo.Own.moved Hs.out hm (fun g hg e => HneN.out ((show g6 = g by simpa [Value.ownBlock] using hg) ▸ e))
            go_roundw
            case rel => exact ⟨k + 1, by omega, by go_num, by rw [Hff.out]; exact ho, by rw [Hbt.out]; exact hN2, HPF.out.up hb (by omega), (hm.2 g6 (Hs.out.lt.2) HneN.out).1, hbs.trans (hb.mono (by omega))⟩
            case measure => simp [intOf]; omega
        · have hx0 : (k : Int) > 0 := by omega
          have hup := Hp.out.upN (x := k) (by omega) (by have := Hl.out; omega)
          have hbu := beh_up Hp.out (fS q) (x := k) (by omega) (by have := Hl.out; omega)
          have hcQ := hent.cell (i := par ps k) (by rw [beL_length]; have := hup.2; omega)
          rw [nth_beL hup.2 (by have := hup.2; omega)] at hcQ
          rw [hup.1] at hcP
          have hpl := hup.2
          have hpl2 : par ps k < nP := by omega
          clear hup
          generalize par ps k = pk at *
          cases hbp : behB ps (fS q) pk
          · have hbf := hbu.2 hbp
            rw [hbp] at hcQ
            clear hbu hbp
            have hqf : fS q (k : Int) = q k := by unfold fS; rw [Int.toNat_natCast]
            rw [hqf] at hbf
            go_wp2_with fail
            refine (Hst.out k _ (by omega) hbel).mono ?_
            rintro e w5 ⟨rfl, b5⟩
            have hou5 := hou.below b5
            have hent5 := hent.below b5
            have HP5 := Lib.hid (HP.out.below b5)
            have hbel5 := hbel.trans (b5.mono hbel.size)
            have hu05 : u0.heap.size ≤ w5.heap.size := Nat.le_trans hu0r b5.size
            have c05 := HP5.out.c0
            have hcN5 := hent5.cell (i := k) (by rw [beL_length]; omega)
            have hfN5 := hent5.free (by rw [beL_length]) k
            clear hou hent HP hbel hu0r hcN hfN b5 c0 c1
            have hou := hou5
            have hent := hent5
            have HP := HP5
            have hbel := hbel5
            have hu0r := hu05
            clear hou5 hent5 HP5 hbel5 hu05
            cases hq : q k
            · have hbe : behB ps (fS q) k = false := by rw [hbf.1, hq]
              have hfi : firB ps (fS q) k = false := by rw [hbf.2, hq]
              clear hbf hq hqf
              have Hff := Lib.hid (filt_f hfi)
              have Hbf := Lib.hid (beL_f (n := nP) hbe)
              clear hbe hfi
              go_wp2_with fail
              go_roundw
              case rel => exact ⟨k + 1, by omega, by go_num, by rw [Hff.out]; exact hou, by rw [Hbf.out]; exact hent, HP.out, HneN.out, hbel⟩
              case measure => simp [intOf]; omega
            · have hbe : behB ps (fS q) k = true := by rw [hbf.1, hq]
              have hfi : firB ps (fS q) k = true := by rw [hbf.2, hq]
              clear hbf hq hqf
              have hbt := beL_t (n := nP) (show k < nP by omega) hbe
              have Hs := Lib.hid (Bo.Own.set (w := w5) hent (by rw [beL_length]) k true)
              have HouF := Lib.hid (Own.far (w := w5) hou (a := ⟨g6, k, none⟩) (u := .bool true) HneN.out)
              have HPF := Lib.hid (Pair.far (w := w5) HP.out (b := g6) (i := k) (by omega) (.bool true))
              have hbs : Below w.heap.size w (w5.setCell ⟨g6, k, none⟩ (.bool true)) := hbel.setCell (show w.heap.size ≤ g6 by omega) _
              have Hbt := Lib.hid hbt
              clear hbt hent hou
              have Hff := Lib.hid (filt_t hfi)
              have hsz2 : u0.heap.size ≤ (w5.setCell ⟨g6, k, none⟩ (.bool true)).heap.size := by simpa using hu0r
              clear hbe hfi
              go_upto_region 9 with fail
              generalize w5.setCell ⟨g6, k, none⟩ (.bool true) = wz at *
              go_wp2_with (at_builtin; refine wp_push2 _ _ rfl rfl u0.heap.size _ _ rfl HouF.out rfl (by omega) hsz2 ?_; intro v' w' ho hb hm)
              have hN2 := Bo.Own.moved Hs.out hm (fun g hg e => HneN.out ((show g6 = g by simpa [Value.ownBlock] using hg) ▸ e))
              go_roundw
              case rel => exact ⟨k + 1, by omega, by go_num, by rw [Hff.out]; exact ho, by rw [Hbt.out]; exact hN2, HPF.out.up hb (by omega), (hm.2 g6 (Hs.out.lt.2) HneN.out).1, hbs.trans (hb.mono (by omega))⟩
              case measure => simp [intOf]; omega
          · obtain ⟨hbe, hfi⟩ := hbu.1 hbp
            rw [hbp] at hcQ
            clear hbu hbp
            have hbt := beL_t (n := nP) (show k < nP by omega) hbe
            have Hs := Lib.hid (Bo.Own.set (w := wr) hent (by rw [beL_length]) k true)
            have HouF := Lib.hid (Own.far (w := wr) hou (a := ⟨g6, k, none⟩) (u := .bool true) HneN.out)
            have HPF := Lib.hid (Pair.far (w := wr) HP.out (b := g6) (i := k) (by omega) (.bool true))
            have hbs : Below w.heap.size w (wr.setCell ⟨g6, k, none⟩ (.bool true)) := hbel.setCell (show w.heap.size ≤ g6 by omega) _
            have Hbt := Lib.hid hbt
            clear hbt hent hou
            have Hff := Lib.hid (filt_f hfi)
            clear hbe hfi
            go_wp2_with fail
            go_roundw
            case rel => exact ⟨k + 1, by omega, by go_num, by rw [Hff.out]; exact HouF.out, by rw [Hbt.out]; exact Hs.out, HPF.out, HneN.out, hbs⟩
            case measure => simp [intOf]; omega
      · obtain rfl : k = nP := by omega
        have HO := Lib.hid hou
        have Hfir : Hid (filt (firB ps (fS q)) k = firsts ps (fS q)) := Lib.hid (by unfold firsts; rw [Hl.out])
        clear hou
        go_wp2_with fail
        go_ret
        exact ⟨_, rfl, by rw [← Hfir.out]; exact HO.out.mono (by omega), hbel⟩
end Go.Proofs.YtnbomleieianoaaGreat

/- Contracts: the drifts of a process, whether it is fair, by the program. -/
namespace Go.Proofs.YtnbomleieianoaaGreat
open Go.RowKit

/-- Is a list balanced, and may it be asked? -/
def balV (ps ws l : List Int) : Bool := paysB ps ws l && balB ps ws l
theorem balV_no {ps ws l : List Int} (h : paysB ps ws l = false) : balV ps ws l = false := by rw [balV, h]; rfl
theorem balV_yes {ps ws l : List Int} (h : paysB ps ws l = true) : balV ps ws l = balB ps ws l := by rw [balV, h]; rfl
end Go.Proofs.YtnbomleieianoaaGreat

/- Contracts: what is a balanced list, by the reference. -/
namespace Go.Proofs.YtnbomleieianoaaGreat
open Go.RowKit

/-- The products of sums and numbers. -/
def prL (ps ws l : List Int) : List Int := (List.range ps.length).map fun x => nth (sums ps ws) x * nth l x
theorem prL_length (ps ws l : List Int) : (prL ps ws l).length = ps.length := by simp [prL]
theorem nth_prL {ps ws l : List Int} {x : Nat} (hx : x < ps.length) : nth (prL ps ws l) x = nth (sums ps ws) x * nth l x := by rw [prL, nth_map_range hx]
theorem prL_take (ps ws l : List Int) {x : Nat} (hx : x < ps.length) : (prL ps ws l).take (x + 1) = (prL ps ws l).take x ++ [nth (sums ps ws) x * nth l x] := by
  rw [take_succ_nth (by rw [prL_length]; exact hx), nth_prL hx]
theorem prL_bd {ps ws l : List Int} (h : Tr ps ws) (hl : ∀ i, -999 ≤ nth l i ∧ nth l i ≤ 999) : Abs2 479520 (prL ps ws l) := fun i => by
  by_cases hi : i < ps.length
  · rw [nth_prL hi]
    have := mul_abs (B := 999) (U := 480) (hl i) (sums_bd h i) (by omega)
    rw [Int.mul_comm (nth l i) (nth (sums ps ws) i)] at this
    omega
  · rw [nth_ge (by rw [prL_length]; omega)]; omega
theorem pr_kids {ps ws l : List Int} (x : Nat) : kidSum ps (fun y => nth (prL ps ws l) y) x ps.length = kidSum ps (fun y => nth (sums ps ws) y * nth l y) x ps.length := kidSum_congr fun _ hy _ => nth_prL hy
end Go.Proofs.YtnbomleieianoaaGreat

/- Contracts: the rule of a level, of the program and of the reference. -/
namespace Go.Proofs.YtnbomleieianoaaGreat
open Go.RowKit

set_option maxRecDepth 100000 in
theorem impl_ThresholdRule (aP : Option Addr) (nP cP : Nat) (aW : Option Addr) (nW cW : Nat) (ps ws : List Int) (aL : Option Addr) (nL cL : Nat) (l : List Int) (lev : Int) (w : World) (h : Tre w aP nP cP aW nW cW ps ws) (hL : Ints w aL nL l) (hLc : aL = none → cL = 0) (hn : nL ≤ 1048576) :
    Calls Tryz.prog 64 #[.agg #[.slice aP nP cP, .slice aW nW cW], .slice aL nL cL, .int .i64 lev] w fun e w' => ∃ v, e = .returned (.tuple #[v, .bool (paysB ps ws l)]) ∧ Own w' w.heap.size v (entryV ps ws l lev) ∧ Below w.heap.size w w' := by
  have hl := h.p.1
  have hlw := h.w.1
  have hpn := h.pn
  have hwn := h.wn
  have hb1 := below_new w (.cells #[.slice aP nP cP, .slice aW nW cW] 26)
  have hP1 := Lib.hid (Pair.new w (.slice aP nP cP) (.slice aW nW cW) 26)
  have H := Lib.hid h
  have Hl := Lib.hid hl
  have Hlw := Lib.hid hlw
  clear h hl hlw
  have HL := Lib.hid hL
  clear hL
  have c0 := hP1.out.c0
  have c1 := hP1.out.c1
  go_enter Tryz.func64, Tryz.ntmps64
  go_wp2_with fail
  generalize (w.alloc (.cells #[.slice aP nP cP, .slice aW nW cW] 26)) = w2 at *
  refine (impl_FirstEntry _ _ _ _ _ _ ps ws _ _ _ l lev _ (H.out.below hb1) (HL.out.below hb1) hLc hn).mono ?_
  rintro e w3 ⟨v, rfl, o3, b3⟩
  have O3 := Lib.hid o3
  clear o3
  go_wp2_with fail
  go_ret2
  exact ⟨_, rfl, O3.out.mono hb1.size, hb1.trans (b3.mono hb1.size)⟩
set_option maxRecDepth 100000 in
set_option maxHeartbeats 2000000 in
theorem spec_ThresholdRule (aP : Option Addr) (nP cP : Nat) (aW : Option Addr) (nW cW : Nat) (ps ws : List Int) (aL : Option Addr) (nL cL : Nat) (l : List Int) (lev : Int) (w : World) (h : Tre w aP nP cP aW nW cW ps ws) (hL : Ints w aL nL l) (_hLc : aL = none → cL = 0) (hn : nL ≤ 1048576) :
    Calls Tryz.prog 65 #[.agg #[.slice aP nP cP, .slice aW nW cW], .slice aL nL cL, .int .i64 lev] w fun e w' => ∃ v, e = .returned (.tuple #[v, .bool (paysB ps ws l)]) ∧ Own w' w.heap.size v (entryV ps ws l lev) ∧ Below w.heap.size w w' := by
  have hl := h.p.1
  have hlw := h.w.1
  have hpn := h.pn
  have hwn := h.wn
  have hb1 := below_new w (.cells #[.slice aP nP cP, .slice aW nW cW] 26)
  have hP1 := Lib.hid (Pair.new w (.slice aP nP cP) (.slice aW nW cW) 26)
  have H := Lib.hid h
  have Hl := Lib.hid hl
  have Hlw := Lib.hid hlw
  clear h hl hlw
  have HL := Lib.hid hL
  have hll := Lib.hid hL.1
  clear hL
  have hlt2 := hP1.out.lt
  go_enter Tryz.func65, Tryz.ntmps65
  have c0 := hP1.out.c0
  have c1 := hP1.out.c1
  go_wp2_with fail
  try generalize (w.alloc (.cells #[.slice aP nP cP, .slice aW nW cW] 26)) = w2 at *
  refine (spec_l4Pays _ _ _ _ _ _ ps ws _ _ _ l _ (H.out.below hb1) (HL.out.below hb1) hn).mono ?_
  rintro e w3 ⟨rfl, hb3⟩
  have hP3 := hP1.out.below hb3
  have d0 := hP3.c0
  have d1 := hP3.c1
  have HP3 := Lib.hid hP3
  have hb13 := hb1.trans (hb3.mono hb1.size)
  clear hP3 hb3
  try clear c0 c1
  cases hT : paysB ps ws l
  · have Hno := Lib.hid hT
    clear hT
    go_wp2_with fail
    go_ret2
    exact ⟨_, by rw [Hno.out]; rfl, by rw [entryV_no Hno.out]; exact (own_nil0 w3).mono hb13.size, hb13.trans ((below_new w3 _).mono hb13.size)⟩
  have Hpays := Lib.hid hT
  have hpt := paysB_t hT
  have hTr := hpt.1
  have hn24 := hTr.n24
  have hn1 := hTr.n1
  have hnL : nP = nL := by have := hll.out; have := hpt.2.2.2.1; have := Hl.out; omega
  have hnW : nP = nW := by have := Hlw.out; have := hTr.wl; have := Hl.out; omega
  have hnP : 1 ≤ nP ∧ nP ≤ 24 := by have := Hl.out; omega
  have Hpp := Lib.hid hpt.2.2.2.2
  have HTr := Lib.hid hTr
  have HnW := Lib.hid hnW
  have hnW2 : nP ≤ nW := by omega
  clear hT hpt hn24 hn1 hTr hpn hwn hnW
  subst hnL
  go_wp2_with fail
  refine (spec_l4Level _ _ _ _ _ _ ps ws _ _ _ l lev _ (H.out.below hb13) HTr.out (HL.out.below hb13) rfl).mono ?_
  rintro e w5 ⟨v, rfl, o1, b5⟩
  have O1 := Lib.hid o1
  clear o1
  go_wp2_with fail
  go_ret2
  exact ⟨_, by rw [Hpays.out]; rfl, by rw [entryV_yes Hpays.out]; exact O1.out.mono hb13.size, hb13.trans (b5.mono hb13.size)⟩
end Go.Proofs.YtnbomleieianoaaGreat
