/- Contracts: the chance of ruin as a fraction, of the program and of the reference. -/
import Derived.Test.YtbekfpgpeaoifaaRuin
namespace Go.Proofs.Ytbekfpgpeaoifaa
open Go.RowKit

set_option maxHeartbeats 1000000 in
theorem spec_l5Chance (a b i n : Int) (w : World) (ha : 1 ≤ a ∧ a ≤ 20) (hb : 1 ≤ b ∧ b ≤ 20) (hi : 0 ≤ i ∧ i ≤ n) (hn : 1 ≤ n ∧ n ≤ 12) :
    Calls Try.prog 88 #[.int .i64 a, .int .i64 b, .int .i64 i, .int .i64 n] w fun e w' =>
      e = .returned (.agg #[.int .i64 (nm (chT a b i.toNat n.toNat) (chB a b n.toNat)), .int .i64 (dn (chT a b i.toNat n.toNat) (chB a b n.toNat))]) ∧ Below w.heap.size w w' := by
  have hP := Pair.new w (.int .i64 0) (.int .i64 0) 47
  have hb0 : Below w.heap.size w (w.alloc (.cells #[.int .i64 0, .int .i64 0] 47)) := (Below.refl _ _).alloc (Nat.le_refl _) _
  have hT := chT_bd ha hb i.toNat n.toNat (by omega) (by omega)
  have hB1 := chB_pos ha hb n.toNat (by omega)
  have hB2 : chB a b n.toNat ≤ 49152000000000000 := by
    unfold chB; split
    · omega
    · exact (termS_bd12 ha hb _ _ (Nat.le_refl _) (by omega)).2
  obtain ⟨T, hTv⟩ : ∃ T, T = chT a b i.toNat n.toNat := ⟨_, rfl⟩
  obtain ⟨B, hBv⟩ : ∃ B, B = chB a b n.toNat := ⟨_, rfl⟩
  rw [← hTv] at hT ⊢
  rw [← hBv] at hB1 hB2 ⊢
  have hP := Lib.hid hP
  by_cases he : a = b
  · subst he
    rw [chT, if_pos rfl] at hTv
    rw [chB, if_pos rfl] at hBv
    have e1 : i = T := by omega
    have e2 : n = B := by omega
    subst e1 e2
    clear hTv hBv
    go_enter Try.func88, Try.ntmps88
    go_wp2_with fail
    generalize (w.alloc (.cells #[.int .i64 0, .int .i64 0] 47)) = w2 at *
    refine (spec_l2Cut _ _ _ (by omega) (by omega)).mono ?_
    rintro e w3 ⟨rfl, hb3⟩
    have p3 := hP.out.below hb3
    have q3 := p3.c0
    have q4 := p3.c1
    have q5 := p3.f0
    have q6 := p3.f1
    have hr := p3.set (.int .i64 (nm i n)) (.int .i64 (dn i n))
    clear p3
    go_wp2_with fail
    exact bodyPost_ret (v := .agg #[.int .i64 (nm i n), .int .i64 (dn i n)]) (by simp [results, Try.results88, go_sem, hr.1, hr.2]) rfl ⟨rfl, ((hb0.trans (hb3.mono hb0.size)).setCell (Nat.le_refl _) _).setCell (Nat.le_refl _) _⟩
  · have he2 : (a == b) = false := by simpa using he
    rw [chT, if_neg he] at hTv
    rw [chB, if_neg he] at hBv
    have e1 : (n - i).toNat = n.toNat - i.toNat := by omega
    have b1 := powI_bd20 ha.1 ha.2 (n.toNat - i.toNat) (by omega)
    have b2 := termS_bd12 ha hb i.toNat i.toNat (Nat.le_refl _) (by omega)
    obtain ⟨u, hu⟩ : ∃ u, u = powI a (n.toNat - i.toNat) := ⟨_, rfl⟩
    obtain ⟨v, hv⟩ : ∃ v, v = termS a b i.toNat i.toNat := ⟨_, rfl⟩
    rw [← hu] at hTv b1
    rw [← hv] at hTv b2
    have hTv' : u * v = T := hTv.symm
    have Hu : Hid (powI a (n - i).toNat = u) := Lib.hid (by rw [e1]; exact hu.symm)
    have Hv : Hid (termS a b i.toNat i.toNat = v) := Lib.hid hv.symm
    have Hw : Hid (termS a b n.toNat n.toNat = B) := Lib.hid hBv.symm
    clear hTv hBv e1 hu hv he
    have hTw : 0 ≤ u * v ∧ u * v ≤ 49152000000000000 := by omega
    go_enter Try.func88, Try.ntmps88
    go_wp2_with fail
    generalize (w.alloc (.cells #[.int .i64 0, .int .i64 0] 47)) = w2 at *
    refine (spec_l5Power _ _ _ ha (by omega)).mono ?_
    rintro e w' ⟨rfl, rfl⟩
    rw [Hu.out]
    go_wp2_with fail
    refine (spec_l5Terms _ _ _ _ ha hb (by omega)).mono ?_
    rintro e w' ⟨rfl, rfl⟩
    rw [Hv.out]
    go_wp2_with fail
    refine (spec_l5Terms _ _ _ _ ha hb (by omega)).mono ?_
    rintro e w' ⟨rfl, rfl⟩
    rw [Hw.out]
    go_wp2_with fail
    refine (spec_l2Cut _ _ _ (by omega) (by omega)).mono ?_
    rintro e w3 ⟨rfl, hb3⟩
    have p3 := hP.out.below hb3
    have q3 := p3.c0
    have q4 := p3.c1
    have q5 := p3.f0
    have q6 := p3.f1
    have hr := p3.set (.int .i64 (nm T B)) (.int .i64 (dn T B))
    clear p3
    go_wp2_with fail
    exact bodyPost_ret (v := .agg #[.int .i64 (nm T B), .int .i64 (dn T B)]) (by simp [results, Try.results88, go_sem, hr.1, hr.2]) rfl ⟨rfl, ((hb0.trans (hb3.mono hb0.size)).setCell (Nat.le_refl _) _).setCell (Nat.le_refl _) _⟩

/-- What both RuinChance return. -/
def rcN (a b i n : Int) : Int := if game4 a b i n then lowN (chT a b i.toNat n.toNat) (chB a b n.toNat) else 0
def rcD (a b i n : Int) : Int := if game4 a b i n then lowD (chT a b i.toNat n.toNat) (chB a b n.toNat) else 0
def rcB (a b i n : Int) : Bool := game4 a b i n && lowB (chT a b i.toNat n.toNat) (chB a b n.toNat)
theorem game4_t {a b i n : Int} (h : game4 a b i n = true) : (1 ≤ a ∧ a ≤ 20) ∧ (1 ≤ b ∧ b ≤ 20) ∧ (0 ≤ i ∧ i ≤ n) ∧ 1 ≤ n ∧ n ≤ 12 := by
  simp only [game4, Bool.and_eq_true] at h
  have := odds_t h.1.1
  have := inB_t h.1.2
  have := inB_t h.2
  omega
theorem rc_no {a b i n : Int} (h : game4 a b i n = false) : rcN a b i n = 0 ∧ rcD a b i n = 0 ∧ rcB a b i n = false := by
  unfold rcN rcD rcB; rw [h]; exact ⟨rfl, rfl, rfl⟩
theorem rc_spec {a b i n : Int} (h : game4 a b i n = true) :
    rcN a b i n = (if fracB (nm (chT a b i.toNat n.toNat) (chB a b n.toNat)) (dn (chT a b i.toNat n.toNat) (chB a b n.toNat)) then nm (chT a b i.toNat n.toNat) (chB a b n.toNat) else 0) ∧
    rcD a b i n = (if fracB (nm (chT a b i.toNat n.toNat) (chB a b n.toNat)) (dn (chT a b i.toNat n.toNat) (chB a b n.toNat)) then dn (chT a b i.toNat n.toNat) (chB a b n.toNat) else 0) ∧
    rcB a b i n = fracB (nm (chT a b i.toNat n.toNat) (chB a b n.toNat)) (dn (chT a b i.toNat n.toNat) (chB a b n.toNat)) := by
  obtain ⟨ha, hb, _, hn⟩ := game4_t h
  have := chB_pos ha hb n.toNat (by omega)
  rw [fracB_quot _ _ (by omega)]
  unfold rcN rcD rcB
  rw [h]
  exact ⟨rfl, rfl, rfl⟩
theorem rc_impl {a b i n : Int} (h : game4 a b i n = true) :
    rcN a b i n = lowN (ruT a b i.toNat n.toNat) (ruB a b n.toNat) ∧ rcD a b i n = lowD (ruT a b i.toNat n.toNat) (ruB a b n.toNat) ∧ rcB a b i n = lowB (ruT a b i.toNat n.toNat) (ruB a b n.toNat) := by
  obtain ⟨ha, hb, _, hn⟩ := game4_t h
  have := ru_eq ha hb i.toNat n.toNat (by omega)
  unfold rcN rcD rcB lowN lowD lowB
  rw [h, this.1, this.2.1]
  exact ⟨rfl, rfl, rfl⟩
set_option maxHeartbeats 1000000 in
theorem spec_RuinChance (a b i n : Int) (w : World) :
    Calls Try.prog 41 #[.int .i64 a, .int .i64 b, .int .i64 i, .int .i64 n] w fun e w' =>
      e = .returned (.tuple #[.agg #[.int .i64 (rcN a b i n), .int .i64 (rcD a b i n)], .bool (rcB a b i n)]) ∧ Below w.heap.size w w' := by
  have hP := Lib.hid (Pair.new w (.int .i64 0) (.int .i64 0) 47)
  have hb0 : Below w.heap.size w (w.alloc (.cells #[.int .i64 0, .int .i64 0] 47)) := (Below.refl _ _).alloc (Nat.le_refl _) _
  cases hg : game4 a b i n
  · obtain ⟨e1, e2, e3⟩ := rc_no hg
    rw [e1, e2, e3]
    clear e1 e2 e3
    go_enter Try.func41, Try.ntmps41
    go_wp2_with fail
    generalize (w.alloc (.cells #[.int .i64 0, .int .i64 0] 47)) = w2 at *
    refine (spec_l5Game _ _ _ _ _).mono ?_
    rintro e w' ⟨rfl, rfl⟩
    have p3 := hP.out
    have q3 := p3.c0
    have q4 := p3.c1
    have q5 := p3.f0
    have q6 := p3.f1
    have hr := p3.set (.int .i64 0) (.int .i64 0)
    clear p3
    go_wp2_with fail
    exact bodyPost_ret (v := .tuple #[.agg #[.int .i64 0, .int .i64 0], .bool false]) (by simp [results, Try.results41, go_sem, hr.1, hr.2]) rfl ⟨rfl, (hb0.setCell (Nat.le_refl _) _).setCell (Nat.le_refl _) _⟩
  · obtain ⟨ha, hb, hi, hn⟩ := game4_t hg
    obtain ⟨e1, e2, e3⟩ := rc_spec hg
    generalize hx : nm (chT a b i.toNat n.toNat) (chB a b n.toNat) = x at e1 e2 e3
    generalize hy : dn (chT a b i.toNat n.toNat) (chB a b n.toNat) = y at e1 e2 e3
    have Hs : Hid (∀ W : World, Calls Try.prog 88 #[.int .i64 a, .int .i64 b, .int .i64 i, .int .i64 n] W fun e w' => e = .returned (.agg #[.int .i64 x, .int .i64 y]) ∧ Below W.heap.size W w') := Lib.hid fun W => by
      rw [← hx, ← hy]; exact spec_l5Chance a b i n W ha hb hi hn
    have Hk : Hid (∀ W : World, Calls Try.prog 87 #[.agg #[.int .i64 x, .int .i64 y]] W fun e w' => e = .returned (.tuple #[.agg #[.int .i64 (rcN a b i n), .int .i64 (rcD a b i n)], .bool (rcB a b i n)]) ∧ Below W.heap.size W w') := Lib.hid fun W => by
      rw [e1, e2, e3]; exact spec_l2Kept x y W
    clear hx hy e1 e2 e3
    generalize rcN a b i n = rn at *
    generalize rcD a b i n = rd at *
    generalize rcB a b i n = rb at *
    go_enter Try.func41, Try.ntmps41
    go_wp2_with fail
    generalize (w.alloc (.cells #[.int .i64 0, .int .i64 0] 47)) = w2 at *
    refine (spec_l5Game _ _ _ _ _).mono ?_
    rintro e w' ⟨rfl, rfl⟩
    go_wp2_with fail
    refine (Hs.out _).mono ?_
    rintro e w3 ⟨rfl, hb3⟩
    go_wp2_with fail
    refine (Hk.out _).mono ?_
    rintro e w4 ⟨rfl, hb4⟩
    have p3 := (hP.out.below hb3).below hb4
    have q3 := p3.c0
    have q4 := p3.c1
    have q5 := p3.f0
    have q6 := p3.f1
    have hr := p3.set (.int .i64 rn) (.int .i64 rd)
    have hb5 := hb0.trans ((hb3.trans (hb4.mono hb3.size)).mono hb0.size)
    clear p3 hb3 hb4
    go_wp2_with fail
    exact bodyPost_ret (v := .tuple #[.agg #[.int .i64 rn, .int .i64 rd], .bool rb]) (by simp [results, Try.results41, go_sem, hr.1, hr.2]) rfl ⟨rfl, (hb5.setCell (Nat.le_refl _) _).setCell (Nat.le_refl _) _⟩

set_option maxHeartbeats 1000000 in
theorem impl_RuinChance (a b i n : Int) (w : World) :
    Calls Try.prog 40 #[.int .i64 a, .int .i64 b, .int .i64 i, .int .i64 n] w fun e w' =>
      e = .returned (.tuple #[.agg #[.int .i64 (rcN a b i n), .int .i64 (rcD a b i n)], .bool (rcB a b i n)]) ∧ Below w.heap.size w w' := by
  have hP := Lib.hid (Pair.new w (.int .i64 0) (.int .i64 0) 47)
  have hb0 : Below w.heap.size w (w.alloc (.cells #[.int .i64 0, .int .i64 0] 47)) := (Below.refl _ _).alloc (Nat.le_refl _) _
  cases hg : game4 a b i n
  · obtain ⟨e1, e2, e3⟩ := rc_no hg
    rw [e1, e2, e3]
    clear e1 e2 e3
    rw [game4_eq] at hg
    have hh : game a b n = false ∨ game a b n = true ∧ inB i 0 n = false := by
      cases h : game a b n
      · exact .inl rfl
      · rw [h] at hg; exact .inr ⟨rfl, by simpa using hg⟩
    clear hg
    rcases hh with hh | ⟨hh, hh2⟩
    all_goals
      go_enter Try.func40, Try.ntmps40
      go_wp2_with (first | (go_at_call 48; refine (impl_isGame _ _ _ _).mono ?_; rintro e w' ⟨rfl, rfl⟩) | (go_at_call 49; refine (impl_within _ _ _ _).mono ?_; rintro e w' ⟨rfl, rfl⟩))
      exact bodyPost_ret (v := .tuple #[.agg #[.int .i64 0, .int .i64 0], .bool false]) (by simp [results, Try.results40, go_sem]) rfl ⟨rfl, by first | exact hb0 | exact (hb0.setCell (Nat.le_refl _) _).setCell (Nat.le_refl _) _⟩
  · obtain ⟨ha, hb, hi, hn⟩ := game4_t hg
    have hru := ru_eq ha hb i.toNat n.toNat (by omega)
    have hT := ruT_bd ha hb i.toNat n.toNat (by omega) (by omega)
    have hB := ruB_bd ha hb n.toNat (by omega)
    obtain ⟨e1, e2, e3⟩ := rc_impl hg
    rw [game4_eq] at hg
    have hgame : game a b n = true := by cases h : game a b n; (rw [h] at hg; exact hg); rfl
    have hwith : inB i 0 n = true := by rw [hgame] at hg; simpa using hg
    have hB0 := hru.2.2
    clear hru hg
    generalize hx : ruT a b i.toNat n.toNat = x at *
    generalize hy : ruB a b n.toNat = y at *
    have Hs : Hid (∀ W : World, Calls Try.prog 86 #[.int .i64 a, .int .i64 b, .int .i64 i, .int .i64 n] W fun e w' => e = .returned (.tuple #[.int .i64 x, .int .i64 y]) ∧ W = w') := Lib.hid fun W => by
      rw [← hx, ← hy]; exact impl_ruin a b i n W ha hb hi hn
    have Hk : Hid (∀ W : World, Calls Try.prog 85 #[.int .i64 x, .int .i64 y] W fun e w' => e = .returned (.tuple #[.agg #[.int .i64 (rcN a b i n), .int .i64 (rcD a b i n)], .bool (rcB a b i n)]) ∧ Below W.heap.size W w') := Lib.hid fun W => by
      rw [e1, e2, e3]; exact impl_lowest x y W hB0 (by omega) (by omega)
    clear hx hy e1 e2 e3 hT hB hB0
    generalize rcN a b i n = rn at *
    generalize rcD a b i n = rd at *
    generalize rcB a b i n = rb at *
    go_enter Try.func40, Try.ntmps40
    go_wp2_with fail
    generalize (w.alloc (.cells #[.int .i64 0, .int .i64 0] 47)) = w2 at *
    refine (impl_isGame _ _ _ _).mono ?_
    rintro e w' ⟨rfl, rfl⟩
    go_wp2_with (first | (go_at_call 49; refine (impl_within _ _ _ _).mono ?_; rintro e w' ⟨rfl, rfl⟩) | (go_at_call 86; refine (Hs.out _).mono ?_; rintro e w' ⟨rfl, rfl⟩))
    refine (Hk.out _).mono ?_
    rintro e w4 ⟨rfl, hb4⟩
    have p3 := hP.out.below hb4
    have q3 := p3.c0
    have q4 := p3.c1
    have q5 := p3.f0
    have q6 := p3.f1
    have hr := p3.set (.int .i64 rn) (.int .i64 rd)
    have hb5 := hb0.trans (hb4.mono hb0.size)
    clear p3 hb4
    go_wp2_with fail
    exact bodyPost_ret (v := .tuple #[.agg #[.int .i64 rn, .int .i64 rd], .bool rb]) (by simp [results, Try.results40, go_sem, hr.1, hr.2]) rfl ⟨rfl, (hb5.setCell (Nat.le_refl _) _).setCell (Nat.le_refl _) _⟩
end Go.Proofs.Ytbekfpgpeaoifaa
