/- Contracts of the law's helpers on slices of pairs: equal, marked, held. No condition but those stated. -/
import Derived.Test.YtjkkfjipgomkdaaLawA2
import Derived.Test.YtjkkfjipgomkdaaLawT
import Derived.Test.YtjkkfjipgomkdaaFr
import Derived.Test.YtjkkfjipgomkdaaKeepB
namespace Go.Proofs.Ytjkkfjipgomkdaa
open Go.RowKit
namespace Fr

theorem at1_lt {xs : List (Int × Int)} {i : Nat} (h : i < xs.length) : at1 xs i = xs[i].1 := by simp [at1, List.getD, h]
theorem at2_lt {xs : List (Int × Int)} {i : Nat} (h : i < xs.length) : at2 xs i = xs[i].2 := by simp [at2, List.getD, h]
theorem fs_set1 : ∀ (xs : List (Int × Int)) (i : Nat) (u : Int), i < xs.length → (fs xs).set (i * 2) (.int .i64 u) = fs (xs.set i (u, at2 xs i))
  | [], i, u, h => by simp at h
  | p :: ps, 0, u, _ => rfl
  | p :: ps, i + 1, u, h => by
    have ih := fs_set1 ps i u (by simpa using h)
    have e2 : at2 (p :: ps) (i + 1) = at2 ps i := rfl
    rw [e2, List.set_cons_succ, fs, fs, ← ih, show (i + 1) * 2 = (i * 2) + 1 + 1 by omega, List.set_cons_succ, List.set_cons_succ]
theorem fs_set2 : ∀ (xs : List (Int × Int)) (i : Nat) (u : Int), i < xs.length → (fs xs).set (i * 2 + 1) (.int .i64 u) = fs (xs.set i (at1 xs i, u))
  | [], i, u, h => by simp at h
  | p :: ps, 0, u, _ => rfl
  | p :: ps, i + 1, u, h => by
    have ih := fs_set2 ps i u (by simpa using h)
    have e2 : at1 (p :: ps) (i + 1) = at1 ps i := rfl
    rw [e2, List.set_cons_succ, fs, fs, ← ih, show (i + 1) * 2 + 1 = (i * 2 + 1) + 1 + 1 by omega, List.set_cons_succ, List.set_cons_succ]
theorem ext_at {xs ys : List (Int × Int)} (hl : xs.length = ys.length) (h : ∀ i, i < xs.length → at1 xs i = at1 ys i ∧ at2 xs i = at2 ys i) : xs = ys := by
  refine List.ext_getElem hl fun i h1 h2 => ?_
  obtain ⟨e1, e2⟩ := h i h1
  rw [at1_lt h1, at1_lt h2] at e1
  rw [at2_lt h1, at2_lt h2] at e2
  exact Prod.ext e1 e2
theorem at_map {n i : Nat} {f g : Nat → Int} (h : i < n) : at1 ((List.range n).map fun j => (f j, g j)) i = f i ∧ at2 ((List.range n).map fun j => (f j, g j)) i = g i := by
  rw [at1_lt (by simpa using h), at2_lt (by simpa using h)]; simp
/-- The marks. -/
def marks (k : Int) (n : Nat) : List (Int × Int) := (List.range n).map fun (i : Nat) => (k + (i : Int) * 2, k + (i : Int) * 2 + 1)
/-- m marks, then the list as it was. -/
def mk (k : Int) (xs : List (Int × Int)) (m : Nat) : List (Int × Int) := (List.range xs.length).map fun (i : Nat) => (if i * 2 < m then k + (i : Int) * 2 else at1 xs i, if i * 2 + 1 < m then k + (i : Int) * 2 + 1 else at2 xs i)
theorem mk_length (k : Int) (xs : List (Int × Int)) (m : Nat) : (mk k xs m).length = xs.length := by simp [mk]
theorem mk_at (k : Int) (xs : List (Int × Int)) (m : Nat) {i : Nat} (h : i < xs.length) : at1 (mk k xs m) i = (if i * 2 < m then k + (i : Int) * 2 else at1 xs i) ∧ at2 (mk k xs m) i = (if i * 2 + 1 < m then k + (i : Int) * 2 + 1 else at2 xs i) := at_map h
theorem mk_zero (k : Int) (xs : List (Int × Int)) : mk k xs 0 = xs := ext_at (mk_length _ _ _) fun i hi => by
  rw [mk_length] at hi
  obtain ⟨e1, e2⟩ := mk_at k xs 0 hi
  rw [e1, e2]; simp
theorem mk_all (k : Int) (xs : List (Int × Int)) : mk k xs (xs.length * 2) = marks k xs.length := ext_at (by rw [mk_length]; simp [marks]) fun i hi => by
  rw [mk_length] at hi
  obtain ⟨e1, e2⟩ := mk_at k xs (xs.length * 2) hi
  obtain ⟨f1, f2⟩ := at_map (f := fun i : Nat => k + (i : Int) * 2) (g := fun i : Nat => k + (i : Int) * 2 + 1) hi
  rw [e1, e2, marks, f1, f2, if_pos (by omega), if_pos (by omega)]
  exact ⟨rfl, rfl⟩
theorem at_set {xs : List (Int × Int)} {i j : Nat} {u v : Int} (h : i < xs.length) : at1 (xs.set i (u, v)) j = (if i = j then u else at1 xs j) ∧ at2 (xs.set i (u, v)) j = (if i = j then v else at2 xs j) := by
  unfold at1 at2
  by_cases e : i = j
  · subst e; simp [List.getD, h]
  · simp [List.getD, e]
theorem mk_step1 (k : Int) (xs : List (Int × Int)) {i : Nat} (h : i < xs.length) : (mk k xs (i * 2)).set i (k + (i : Int) * 2, at2 (mk k xs (i * 2)) i) = mk k xs (i * 2 + 1) := ext_at (by simp [mk_length]) fun j hj => by
  rw [List.length_set, mk_length] at hj
  obtain ⟨e1, e2⟩ := at_set (xs := mk k xs (i * 2)) (i := i) (j := j) (u := k + (i : Int) * 2) (v := at2 (mk k xs (i * 2)) i) (by rw [mk_length]; exact h)
  obtain ⟨a1, a2⟩ := mk_at k xs (i * 2) hj
  obtain ⟨b1, b2⟩ := mk_at k xs (i * 2 + 1) hj
  obtain ⟨c1, c2⟩ := mk_at k xs (i * 2) h
  rw [e1, e2, b1, b2]
  by_cases e : i = j
  · subst e
    rw [if_pos rfl, if_pos rfl, c2, if_pos (by omega), if_neg (by omega), if_neg (by omega)]
    exact ⟨rfl, rfl⟩
  · rw [if_neg e, if_neg e, a1, a2]
    constructor
    · by_cases hh : j * 2 < i * 2
      · rw [if_pos hh, if_pos (by omega)]
      · rw [if_neg hh, if_neg (by omega)]
    · by_cases hh : j * 2 + 1 < i * 2
      · rw [if_pos hh, if_pos (by omega)]
      · rw [if_neg hh, if_neg (by omega)]
theorem mk_step2 (k : Int) (xs : List (Int × Int)) {i : Nat} (h : i < xs.length) : (mk k xs (i * 2 + 1)).set i (at1 (mk k xs (i * 2 + 1)) i, k + (i : Int) * 2 + 1) = mk k xs (i * 2 + 2) := ext_at (by simp [mk_length]) fun j hj => by
  rw [List.length_set, mk_length] at hj
  obtain ⟨e1, e2⟩ := at_set (xs := mk k xs (i * 2 + 1)) (i := i) (j := j) (u := at1 (mk k xs (i * 2 + 1)) i) (v := k + (i : Int) * 2 + 1) (by rw [mk_length]; exact h)
  obtain ⟨a1, a2⟩ := mk_at k xs (i * 2 + 1) hj
  obtain ⟨b1, b2⟩ := mk_at k xs (i * 2 + 2) hj
  obtain ⟨c1, c2⟩ := mk_at k xs (i * 2 + 1) h
  rw [e1, e2, b1, b2]
  by_cases e : i = j
  · subst e
    rw [if_pos rfl, if_pos rfl, c1, if_pos (by omega), if_pos (by omega), if_pos (by omega)]
    exact ⟨rfl, rfl⟩
  · rw [if_neg e, if_neg e, a1, a2]
    constructor
    · by_cases hh : j * 2 < i * 2 + 1
      · rw [if_pos hh, if_pos (by omega)]
      · rw [if_neg hh, if_neg (by omega)]
    · by_cases hh : j * 2 + 1 < i * 2 + 1
      · rw [if_pos hh, if_pos (by omega)]
      · rw [if_neg hh, if_neg (by omega)]
theorem Own.form {w : World} {base : Nat} {v : Value} {xs : List (Int × Int)} (h : Own w base v xs) (hn : 0 < xs.length) : ∃ g cap, v = .slice (some ⟨g, 0, none⟩) xs.length cap ∧ base ≤ g ∧ g < w.heap.size := by
  obtain ⟨g, cap, rfl⟩ := Joins.ownsRow_form h hn
  have := World.ownsRow.lt h g rfl
  exact ⟨g, cap, rfl, this.1, this.2⟩
theorem Own.cell {w : World} {base g n cap : Nat} {xs : List (Int × Int)} (h : Own w base (.slice (some ⟨g, 0, none⟩) n cap) xs) (hn : xs.length = n) {i : Nat} (hi : i < n) : w.cell? ⟨g, i * 2, none⟩ = some (.int .i64 (at1 xs i)) ∧ w.cell? ⟨g, i * 2 + 1, none⟩ = some (.int .i64 (at2 xs i)) := by
  subst hn
  have hg := fs_get xs i hi
  exact ⟨(World.ownsRow.cellAt h (i * 2) (by omega)).trans hg.1, (World.ownsRow.cellAt h (i * 2 + 1) (by omega)).trans hg.2⟩
theorem Own.free {w : World} {base g n cap : Nat} {xs : List (Int × Int)} (h : Own w base (.slice (some ⟨g, 0, none⟩) n cap) xs) (hn : xs.length = n) (i : Nat) : w.frozen? ⟨g, i, none⟩ = false := by
  subst hn
  exact World.ownsRow.frozenAt h i
theorem Own.set1 {w : World} {base g n cap : Nat} {xs : List (Int × Int)} (h : Own w base (.slice (some ⟨g, 0, none⟩) n cap) xs) (hn : xs.length = n) {i : Nat} (hi : i < n) (u : Int) : Own (w.setCell ⟨g, i * 2, none⟩ (.int .i64 u)) base (.slice (some ⟨g, 0, none⟩) n cap) (xs.set i (u, at2 xs i)) := by
  subst hn
  have := (World.ownsRow.stored h (i * 2) (.int .i64 u)).1
  rw [fs_set1 _ _ _ hi] at this
  unfold Own
  rw [List.length_set]
  exact this
theorem Own.set2 {w : World} {base g n cap : Nat} {xs : List (Int × Int)} (h : Own w base (.slice (some ⟨g, 0, none⟩) n cap) xs) (hn : xs.length = n) {i : Nat} (hi : i < n) (u : Int) : Own (w.setCell ⟨g, i * 2 + 1, none⟩ (.int .i64 u)) base (.slice (some ⟨g, 0, none⟩) n cap) (xs.set i (at1 xs i, u)) := by
  subst hn
  have := (World.ownsRow.stored h (i * 2 + 1) (.int .i64 u)).1
  rw [fs_set2 _ _ _ hi] at this
  unfold Own
  rw [List.length_set]
  exact this
theorem Own.grew {w : World} {base g n cap : Nat} {xs : List (Int × Int)} (h : Own w base (.slice (some ⟨g, 0, none⟩) n cap) xs) (hn : xs.length = n) (j : Nat) (u : Value) : w.grownBy (w.setCell ⟨g, j, none⟩ u) (some g) := by
  subst hn
  exact (World.ownsRow.stored h j u).2
theorem Own.only {lo hi : Nat} {w w' : World} {base : Nat} {v : Value} {xs : List (Int × Int)} (h : Own w base v xs) (ho : Only lo hi w w') (hs : ∀ g, v.ownBlock = some g → g < lo ∨ hi ≤ g) : Own w' base v xs := by
  refine ⟨h.1, ?_⟩
  rcases h.2 with hn | ⟨g, cap, cur, rfl, hb, hgg, rest⟩
  · exact .inl hn
  · refine .inr ⟨g, cap, cur, rfl, hb, ?_, rest⟩
    rw [ho.block g (Array.getElem?_eq_some_iff.1 hgg).1 (hs g rfl)]
    exact hgg
end Fr
set_option maxHeartbeats 400000 in
theorem laws_eqIntA2S (a b : Option Addr) (n ca cb : Nat) (xs : List (Int × Int)) (w : World) (hn : n ≤ 4294967296) (ha : Fr.Ints w a n xs) (hb : Fr.Ints w b n xs) :
    Calls Try.prog 27 #[.slice a n ca, .slice b n cb] w fun e w' => e = .returned (.bool true) ∧ Below w.heap.size w w' := by
  have Ha := Lib.hid ha
  have Hb := Lib.hid hb
  clear ha hb
  go_enter Try.func27, Try.ntmps27
  go_wp2_with fail
  go_loopw [5] (fun v5 wr => ∃ i : Nat, i ≤ n ∧ v5 = .int .i64 (i : Int) ∧ Below w.heap.size w wr) (fun v5 _ => n - (intOf v5).toNat)
  case atStart => exact ⟨0, Nat.zero_le _, rfl, Below.refl _ _⟩
  case round =>
    obtain ⟨i, hi, rfl, hbel⟩ := hrel
    by_cases hlt : (i : Int) < n
    · obtain ⟨ba, oa, rfl, hba, hca⟩ := Ha.out.2 (by omega)
      obtain ⟨bb, ob, rfl, hbb, hcb⟩ := Hb.out.2 (by omega)
      have a1 := (hbel.cell (p := ⟨ba, oa + i * 2, none⟩) hba).trans (hca i (by omega)).1
      have a2 := (hbel.cell (p := ⟨ba, oa + i * 2 + 1, none⟩) hba).trans (hca i (by omega)).2
      have b1 := (hbel.cell (p := ⟨bb, ob + i * 2, none⟩) hbb).trans (hcb i (by omega)).1
      have b2 := (hbel.cell (p := ⟨bb, ob + i * 2 + 1, none⟩) hbb).trans (hcb i (by omega)).2
      clear hca hcb
      generalize Fr.at1 xs i = c1 at *
      generalize Fr.at2 xs i = c2 at *
      have k0 : (0 : Int) ≤ (i : Int) := by omega
      go_wp2_with fail
      refine wp_region_noPanic ?_
      refine wp_region_held_drew (S := fun W' => KeepR wr W' ∧ W'.cell? ⟨ba, oa + i * 2, none⟩ = some (.int .i64 c1) ∧ W'.cell? ⟨ba, oa + i * 2 + 1, none⟩ = some (.int .i64 c2) ∧ W'.cell? ⟨bb, ob + i * 2, none⟩ = some (.int .i64 c1) ∧ W'.cell? ⟨bb, ob + i * 2 + 1, none⟩ = some (.int .i64 c2)) (by kernel_rfl) ?_ (fun hHeld0 => ?_)
      · (try dsimp only); first | exact keepC4 (by assumption) a1 a2 b1 b2 | exact keepC4 (KeepR.start _) a1 a2 b1 b2
      refine takeH (i := 0) (oi := _) (v := ?_) rfl (by kernel_rfl) (by kernel_rfl) (by kernel_rfl) (fun _ _ _ h => h) (Or.inl ⟨by rfl, ?_⟩) (by assumption) ?_
      rotate_left
      · first | (intro w hSw; (try dsimp only at hSw); go_simp; done) | (intro w hSw; (try dsimp only at hSw); go_simp; with_reducible rfl)
      (try simp only [Act.put, List.setIfInBounds_toArray, List.set_cons_zero, List.set_cons_succ])
      refine takeH (i := 1) (oi := _) (v := ?_) rfl (by kernel_rfl) (by kernel_rfl) (by kernel_rfl) (fun _ _ _ h => h) (Or.inl ⟨by rfl, ?_⟩) (by assumption) ?_
      rotate_left
      · first | (intro w hSw; (try dsimp only at hSw); go_simp; done) | (intro w hSw; (try dsimp only at hSw); go_simp; with_reducible rfl)
      (try simp only [Act.put, List.setIfInBounds_toArray, List.set_cons_zero, List.set_cons_succ])
      refine takeH (i := 2) (oi := _) (v := ?_) rfl (by kernel_rfl) (by kernel_rfl) (by kernel_rfl) (fun _ _ _ h => h) (Or.inl ⟨by rfl, ?_⟩) (by assumption) ?_
      rotate_left
      · first | (intro w hSw; (try dsimp only at hSw); go_simp; done) | (intro w hSw; (try dsimp only at hSw); go_simp; with_reducible rfl)
      (try simp only [Act.put, List.setIfInBounds_toArray, List.set_cons_zero, List.set_cons_succ])
      refine takeH (i := 3) (oi := _) (v := ?_) rfl (by kernel_rfl) (by kernel_rfl) (by kernel_rfl) (fun _ _ _ h => h) (Or.inl ⟨by rfl, ?_⟩) (by assumption) ?_
      rotate_left
      · first | (intro w hSw; (try dsimp only at hSw); go_simp; done) | (intro w hSw; (try dsimp only at hSw); go_simp; with_reducible rfl)
      (try simp only [Act.put, List.setIfInBounds_toArray, List.set_cons_zero, List.set_cons_succ])
      refine takeH (i := 4) (oi := _) (v := ?_) rfl (by kernel_rfl) (by kernel_rfl) (by kernel_rfl) (fun _ _ _ h => h) (Or.inl ⟨by rfl, ?_⟩) (by assumption) ?_
      rotate_left
      · first | (intro w hSw; (try dsimp only at hSw); go_simp; done) | (intro w hSw; (try dsimp only at hSw); go_simp; with_reducible rfl)
      (try simp only [Act.put, List.setIfInBounds_toArray, List.set_cons_zero, List.set_cons_succ])
      refine takeH (i := 5) (oi := _) (v := ?_) rfl (by kernel_rfl) (by kernel_rfl) (by kernel_rfl) (fun _ _ _ h => h) (Or.inl ⟨by rfl, ?_⟩) (by assumption) ?_
      rotate_left
      · first | (intro w hSw; (try dsimp only at hSw); go_simp; done) | (intro w hSw; (try dsimp only at hSw); go_simp; with_reducible rfl)
      (try simp only [Act.put, List.setIfInBounds_toArray, List.set_cons_zero, List.set_cons_succ])
      refine takeH (i := 6) (oi := _) (v := ?_) rfl (by kernel_rfl) (by kernel_rfl) (by kernel_rfl) (fun _ _ _ h => h) (Or.inl ⟨by rfl, ?_⟩) (by assumption) ?_
      rotate_left
      · first | (intro w hSw; (try dsimp only at hSw); go_simp; done) | (intro w hSw; (try dsimp only at hSw); go_simp; with_reducible rfl)
      (try simp only [Act.put, List.setIfInBounds_toArray, List.set_cons_zero, List.set_cons_succ])
      refine takeH (i := 7) (oi := _) (v := ?_) rfl (by kernel_rfl) (by kernel_rfl) (by kernel_rfl) (fun _ _ _ h => h) (Or.inl ⟨by rfl, ?_⟩) (by assumption) ?_
      rotate_left
      · first | (intro w hSw; (try dsimp only at hSw); go_simp; done) | (intro w hSw; (try dsimp only at hSw); go_simp; with_reducible rfl)
      (try simp only [Act.put, List.setIfInBounds_toArray, List.set_cons_zero, List.set_cons_succ])
      refine wpAnyH_ready (rs := [8]) (by kernel_rfl) (by simp) ?_
      refine consH rfl (fun Kq hKq => ?_)
      go_simp
      (go_at_call 24; refine (laws_eqIntA2 _ _ _).mono ?_; rintro e' w6 ⟨rfl, b6⟩; have hk6 := KeepR.next b6 (by assumption : KeepR wr _ ∧ _).1)
      refine hKq.out _ _ ?_ (fun hHeld1 => ?_)
      · (try dsimp only); first | exact keepC4 (by assumption) a1 a2 b1 b2 | exact keepC4 (KeepR.start _) a1 a2 b1 b2
      clear hKq Kq
      (try simp only [Act.put, List.setIfInBounds_toArray, List.set_cons_zero, List.set_cons_succ])
      clear hHeld0
      refine takeH (i := 9) (oi := _) (v := ?_) rfl (by kernel_rfl) (by kernel_rfl) (by kernel_rfl) (fun _ _ _ h => h) (Or.inl ⟨by rfl, ?_⟩) (by assumption) ?_
      rotate_left
      · first | (intro w hSw; (try dsimp only at hSw); go_simp; done) | (intro w hSw; (try dsimp only at hSw); go_simp; with_reducible rfl)
      (try simp only [Act.put, List.setIfInBounds_toArray, List.set_cons_zero, List.set_cons_succ])
      refine wpAnyH_done (by kernel_rfl) ?_ _
      refine NoPanic.normal ?_
      go_wp2_with fail
      have hk6' : Below wr.heap.size wr w6 := hk6
      go_roundw
      case rel => exact ⟨i + 1, by omega, by go_num, hbel.trans (hk6'.mono hbel.size)⟩
      case measure => simp [intOf]; omega
    · go_wp2_with fail
      go_ret
      exact ⟨rfl, hbel⟩
set_option maxHeartbeats 1000000 in
theorem laws_markIntA2S (base : Nat) (a : Option Addr) (n cap : Nat) (k : Int) (xs : List (Int × Int)) (w : World) (hn : n ≤ 4294967296) (hk0 : 0 ≤ k) (hk1 : k ≤ 1000000000000) (h : Fr.Own w base (.slice a n cap) xs) :
    Calls Try.prog 30 #[.slice a n cap, .int .i64 k] w fun e w' => e = .returned (.int .i64 (k + (n : Int) * 2)) ∧ Fr.Own w' base (.slice a n cap) (Fr.marks k n) ∧ w.grownBy w' (Value.slice a n cap).ownBlock := by
  obtain ⟨a', cap', he⟩ := h.shape
  simp only [Value.slice.injEq] at he
  obtain ⟨-, hlen, -⟩ := he
  have Hlen := Lib.hid hlen
  clear hlen
  go_enter Try.func30, Try.ntmps30
  go_wp2_with fail
  have hown0 : Fr.Own w base (.slice a n cap) (Fr.mk k xs 0) := by rw [Fr.mk_zero]; exact h
  clear h
  go_loopw [1, 5] (fun v1 v5 wr => ∃ i : Nat, i ≤ n ∧ v5 = .int .i64 (i : Int) ∧ v1 = .int .i64 (k + (i : Int) * 2) ∧ Fr.Own wr base (.slice a n cap) (Fr.mk k xs (i * 2)) ∧ w.grownBy wr (Value.slice a n cap).ownBlock) (fun _ v5 _ => n - (intOf v5).toNat)
  case atStart => exact ⟨0, Nat.zero_le _, rfl, by simp, hown0, World.grownBy.refl _ _⟩
  case round =>
    obtain ⟨i, hi, rfl, rfl, hown, hg⟩ := hrel
    clear hown0
    by_cases hlt : (i : Int) < n
    · have hml : (Fr.mk k xs (i * 2)).length = n := by rw [Fr.mk_length]; exact Hlen.out.symm
      obtain ⟨g, cap'', he, hbg, hgs⟩ := hown.form (by omega)
      simp only [Value.slice.injEq] at he
      obtain ⟨rfl, -, -⟩ := he
      obtain ⟨c1, c2⟩ := hown.cell hml (i := i) (by omega)
      have f1 := hown.free hml (i * 2)
      have f2 := hown.free hml (i * 2 + 1)
      have hs1 := hown.set1 hml (i := i) (by omega) (k + (i : Int) * 2)
      rw [Fr.mk_step1 _ _ (by have := Hlen.out; omega)] at hs1
      have hml1 : (Fr.mk k xs (i * 2 + 1)).length = n := by rw [Fr.mk_length]; exact Hlen.out.symm
      have hs2 := hs1.set2 hml1 (i := i) (by omega) (k + (i : Int) * 2 + 1)
      rw [Fr.mk_step2 _ _ (by have := Hlen.out; omega)] at hs2
      have hg1 := (hg.trans (hown.grew hml (i * 2) (.int .i64 (k + (i : Int) * 2)))).trans (hs1.grew hml1 (i * 2 + 1) (.int .i64 (k + (i : Int) * 2 + 1)))
      have Hs2 := Lib.hid hs2
      have Hg := Lib.hid hg1
      clear hown hml hs1 hs2 hml1 hg1 hg
      generalize Fr.at1 (Fr.mk k xs (i * 2)) i = z1 at *
      generalize Fr.at2 (Fr.mk k xs (i * 2)) i = z2 at *
      have k0 : (0 : Int) ≤ (i : Int) := by omega
      have k1 : IntKind.i64.wrap (k + (i : Int) * 2 + 1) = k + (i : Int) * 2 + 1 := IntWalk.i64_in _ (by omega)
      have k2 : IntKind.i64.wrap (k + (i : Int) * 2 + 1 + 1) = k + (i : Int) * 2 + 1 + 1 := IntWalk.i64_in _ (by omega)
      obtain ⟨wo, rfl⟩ : ∃ wo, wo = wr := ⟨_, rfl⟩
      go_wp2_with fail
      go_loopw [1, 6] (fun v1 v6 wr => (v6 = .int .i64 0 ∧ v1 = .int .i64 (k + (i : Int) * 2) ∧ wr = wo) ∨ (v6 = .int .i64 1 ∧ v1 = .int .i64 (k + (i : Int) * 2 + 1) ∧ wr = wo.setCell ⟨g, i * 2, none⟩ (.int .i64 (k + (i : Int) * 2))) ∨ (v6 = .int .i64 2 ∧ v1 = .int .i64 (k + (i : Int) * 2 + 1 + 1) ∧ wr = (wo.setCell ⟨g, i * 2, none⟩ (.int .i64 (k + (i : Int) * 2))).setCell ⟨g, i * 2 + 1, none⟩ (.int .i64 (k + (i : Int) * 2 + 1)))) (fun _ v6 _ => 2 - (intOf v6).toNat)
      case atStart => exact .inl ⟨rfl, rfl, rfl⟩
      case round =>
        rcases hrel with ⟨rfl, rfl, rfl⟩ | ⟨rfl, rfl, rfl⟩ | ⟨rfl, rfl, rfl⟩
        · go_wp2_with fail
          go_roundw
          case rel => exact .inr (.inl ⟨rfl, rfl, by first | trivial | rfl⟩)
          case measure => simp [intOf]
        · have d2 : (wo.setCell ⟨g, i * 2, none⟩ (.int .i64 (k + (i : Int) * 2))).cell? ⟨g, i * 2 + 1, none⟩ = some (.int .i64 z2) := by rw [World.cell?_setCell_other _ _ _ _ (by simp)]; exact c2
          have e2 : (wo.setCell ⟨g, i * 2, none⟩ (.int .i64 (k + (i : Int) * 2))).frozen? ⟨g, i * 2 + 1, none⟩ = false := by simpa using f2
          generalize hwx : wo.setCell ⟨g, i * 2, none⟩ (.int .i64 (k + (i : Int) * 2)) = wx at *
          have Hwx := Lib.hid hwx
          clear hwx
          go_wp2_with fail
          go_roundw
          case rel => exact .inr (.inr ⟨rfl, rfl, by first | trivial | rw [Hwx.out]⟩)
          case measure => simp [intOf]
        · have hk3 : k + (i : Int) * 2 + 1 + 1 = k + ((i + 1 : Nat) : Int) * 2 := by omega
          have Hk3 := Lib.hid hk3
          clear hk3
          go_wp2_with fail
          go_roundw
          case rel => exact ⟨i + 1, by omega, by go_num, by rw [Hk3.out], by rw [show (i + 1) * 2 = i * 2 + 2 by omega]; exact Hs2.out, Hg.out⟩
          case measure => simp [intOf]; omega
    · obtain rfl : i = n := by omega
      go_wp2_with fail
      go_ret
      refine ⟨rfl, ?_, hg⟩
      have := Fr.mk_all k xs
      rw [← Hlen.out] at this
      rw [← this]; exact hown
set_option maxHeartbeats 1000000 in
theorem laws_heldIntA2S (a : Option Addr) (n cap : Nat) (k : Int) (w : World) (hn : n ≤ 4294967296) (hk0 : 0 ≤ k) (hk1 : k ≤ 1000000000000) (h : Fr.Ints w a n (Fr.marks k n)) :
    Calls Try.prog 31 #[.slice a n cap, .int .i64 k] w fun e w' => e = .returned (.int .i64 (k + (n : Int) * 2)) ∧ w = w' := by
  have Ha := Lib.hid h
  clear h
  go_enter Try.func31, Try.ntmps31
  go_wp2_with fail
  go_loop [1, 5] (fun v1 v5 => ∃ i : Nat, i ≤ n ∧ v5 = .int .i64 (i : Int) ∧ v1 = .int .i64 (k + (i : Int) * 2)) (fun _ v5 => n - (intOf v5).toNat)
  case atStart => exact ⟨0, Nat.zero_le _, rfl, by simp⟩
  case round =>
    obtain ⟨i, hi, rfl, rfl⟩ := hrel
    by_cases hlt : (i : Int) < n
    · obtain ⟨ba, oa, rfl, hba, hca⟩ := Ha.out.2 (by omega)
      obtain ⟨h1, h2⟩ := hca i (by omega)
      obtain ⟨m1, m2⟩ := Fr.at_map (n := n) (f := fun i : Nat => k + (i : Int) * 2) (g := fun i : Nat => k + (i : Int) * 2 + 1) (i := i) (by omega)
      rw [Fr.marks, m1] at h1
      rw [Fr.marks, m2] at h2
      clear hca m1 m2
      have k1 : IntKind.i64.wrap (k + (i : Int) * 2 + 1) = k + (i : Int) * 2 + 1 := IntWalk.i64_in _ (by omega)
      have k2 : IntKind.i64.wrap (k + (i : Int) * 2 + 1 + 1) = k + (i : Int) * 2 + 1 + 1 := IntWalk.i64_in _ (by omega)
      have k0 : (0 : Int) ≤ (i : Int) := by omega
      have hk3 : Hid (k + (i : Int) * 2 + 1 + 1 = k + ((i + 1 : Nat) : Int) * 2) := Lib.hid (by omega)
      go_wp2_with fail
      go_loop [1, 6] (fun v1 v6 => (v6 = .int .i64 0 ∧ v1 = .int .i64 (k + (i : Int) * 2)) ∨ (v6 = .int .i64 1 ∧ v1 = .int .i64 (k + (i : Int) * 2 + 1)) ∨ (v6 = .int .i64 2 ∧ v1 = .int .i64 (k + (i : Int) * 2 + 1 + 1))) (fun _ v6 => 2 - (intOf v6).toNat)
      case atStart => exact .inl ⟨rfl, rfl⟩
      case round =>
        rcases hrel with ⟨rfl, rfl⟩ | ⟨rfl, rfl⟩ | ⟨rfl, rfl⟩
        · go_wp2_with fail
          go_round
          case rel => exact .inr (.inl ⟨rfl, rfl⟩)
          case measure => simp [intOf]
        · go_wp2_with fail
          go_round
          case rel => exact .inr (.inr ⟨rfl, rfl⟩)
          case measure => simp [intOf]
        · go_wp2_with fail
          go_round
          case rel => exact ⟨i + 1, by omega, by go_num, by rw [hk3.out]⟩
          case measure => simp [intOf]; omega
    · obtain rfl : i = n := by omega
      go_wp2_with fail
      go_ret
      exact ⟨rfl, rfl⟩
end Go.Proofs.Ytjkkfjipgomkdaa
