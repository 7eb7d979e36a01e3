/- Contracts: the mean number of rolls of timid play, of the program and of the reference. -/
import Derived.Test.YtbekfpgpeaoifaaRuinCh
import Derived.Test.YtbekfpgpeaoifaaPlRm
namespace Go.Proofs.Ytbekfpgpeaoifaa
open Go.RowKit

def rmN (a b i n : Int) : Int := if game4 a b i n then (if a = b then i * (n - i) else lowN (rmX a b i n) (rmY a b i n)) else 0
def rmD (a b i n : Int) : Int := if game4 a b i n then (if a = b then 1 else lowD (rmX a b i n) (rmY a b i n)) else 0
def rmB (a b i n : Int) : Bool := game4 a b i n && (a == b || lowB (rmX a b i n) (rmY a b i n))
theorem rm_no {a b i n : Int} (h : game4 a b i n = false) : rmN a b i n = 0 ∧ rmD a b i n = 0 ∧ rmB a b i n = false := by
  unfold rmN rmD rmB; rw [h]; exact ⟨rfl, rfl, rfl⟩
theorem rm_same {a i n : Int} (h : game4 a a i n = true) : rmN a a i n = i * (n - i) ∧ rmD a a i n = 1 ∧ rmB a a i n = true := by
  unfold rmN rmD rmB; rw [h]; simp
theorem rm_other {a b i n : Int} (h : game4 a b i n = true) (hab : a ≠ b) : rmN a b i n = lowN (rmX a b i n) (rmY a b i n) ∧ rmD a b i n = lowD (rmX a b i n) (rmY a b i n) ∧ rmB a b i n = lowB (rmX a b i n) (rmY a b i n) := by
  unfold rmN rmD rmB; rw [h]; simp [hab]

set_option maxHeartbeats 2000000 in
theorem spec_RuinMean (a b i n : Int) (w : World) :
    Calls Try.prog 43 #[.int .i64 a, .int .i64 b, .int .i64 i, .int .i64 n] w fun e w' =>
      e = .returned (.tuple #[.agg #[.int .i64 (rmN a b i n), .int .i64 (rmD a b i n)], .bool (rmB a b i n)]) ∧ Below w.heap.size w w' := by
  have hP := Lib.hid (Pair.new w (.int .i64 0) (.int .i64 0) 47)
  have hb0 : Below w.heap.size w (w.alloc (.cells #[.int .i64 0, .int .i64 0] 47)) := (Below.refl _ _).alloc (Nat.le_refl _) _
  cases hg : game4 a b i n
  · obtain ⟨e1, e2, e3⟩ := rm_no hg
    rw [e1, e2, e3]
    clear e1 e2 e3
    go_enter Try.func43, Try.ntmps43
    go_wp2_with fail
    generalize (w.alloc (.cells #[.int .i64 0, .int .i64 0] 47)) = w2 at *
    refine (spec_l5Game _ _ _ _ _).mono ?_
    rintro e w' ⟨rfl, rfl⟩
    have p3 := hP.out
    have q3 := p3.c0
    have q4 := p3.c1
    have q5 := p3.f0
    have q6 := p3.f1
    have hr := p3.set (.int .i64 0) (.int .i64 0)
    clear p3
    go_wp2_with fail
    exact bodyPost_ret (v := .tuple #[.agg #[.int .i64 0, .int .i64 0], .bool false]) (by simp [results, Try.results43, go_sem, hr.1, hr.2]) rfl ⟨rfl, (hb0.setCell (Nat.le_refl _) _).setCell (Nat.le_refl _) _⟩
  · obtain ⟨ha, hb, hi, hn⟩ := game4_t hg
    by_cases hab : a = b
    · subst hab
      obtain ⟨e1, e2, e3⟩ := rm_same hg
      rw [e1, e2, e3]
      clear e1 e2 e3
      have hm := mul_abs_le (a := i) (b := n - i) (M := 12) (N := 12) (by omega) (by omega)
      go_enter Try.func43, Try.ntmps43
      go_wp2_with fail
      generalize (w.alloc (.cells #[.int .i64 0, .int .i64 0] 47)) = w2 at *
      refine (spec_l5Game _ _ _ _ _).mono ?_
      rintro e w' ⟨rfl, rfl⟩
      have p3 := hP.out
      have q3 := p3.c0
      have q4 := p3.c1
      have q5 := p3.f0
      have q6 := p3.f1
      have hr := p3.set (.int .i64 (i * (n - i))) (.int .i64 1)
      clear p3
      go_wp2_with fail
      exact bodyPost_ret (v := .tuple #[.agg #[.int .i64 (i * (n - i)), .int .i64 1], .bool true]) (by simp [results, Try.results43, go_sem, hr.1, hr.2]) rfl ⟨rfl, (hb0.setCell (Nat.le_refl _) _).setCell (Nat.le_refl _) _⟩
    · have he2 : (a == b) = false := by simpa using hab
      obtain ⟨e1, e2, e3⟩ := rm_other hg hab
      have hT := chT_bd2 ha hb i.toNat n.toNat (by omega) (by omega) (by omega)
      have hB := chB_bd2 ha hb n.toNat (by omega) (by omega)
      have hab1 := nm_abs (chT a b i.toNat n.toNat) (chB a b n.toNat)
      have hd1 := dn_pos (chT a b i.toNat n.toNat) (chB a b n.toNat) (by omega)
      have Hs : Hid (∀ W : World, Calls Try.prog 88 #[.int .i64 a, .int .i64 b, .int .i64 i, .int .i64 n] W fun e w' => e = .returned (.agg #[.int .i64 (nm (chT a b i.toNat n.toNat) (chB a b n.toNat)), .int .i64 (dn (chT a b i.toNat n.toNat) (chB a b n.toNat))]) ∧ Below W.heap.size W w') := Lib.hid fun W => spec_l5Chance a b i n W ha hb hi hn
      unfold rmX rmY at e1 e2 e3
      generalize nm (chT a b i.toNat n.toNat) (chB a b n.toNat) = p at *
      generalize dn (chT a b i.toNat n.toNat) (chB a b n.toNat) = q at *
      have hp : 0 ≤ p.natAbs ∧ -2457600000000000 ≤ p ∧ p ≤ 2457600000000000 := by omega
      have hq : 1 ≤ q ∧ q ≤ 2457600000000000 := by omega
      have hbd := mean_bd (i := i) (n := n) ha hb (by omega) (by omega) (p := p) (q := q) (by omega) (by omega)
      have hx1 : mnT a b i n p q = (a + b) * (i * q - n * p) := rfl
      have hy1 : mnB a b q = (b - a) * q := rfl
      have hy0 : mnB a b q ≠ 0 := Int.mul_ne_zero (by omega) (by omega)
      have hfl := nm_flip (mnT a b i n p q) (mnB a b q) hy0
      have hfb := fracB_quot (mnT a b i n p q) (mnB a b q) hy0
      have hk : ∀ W : World, Calls Try.prog 87 #[.agg #[.int .i64 (nm (mnT a b i n p q) (mnB a b q)), .int .i64 (dn (mnT a b i n p q) (mnB a b q))]] W fun e w' => e = .returned (.tuple #[.agg #[.int .i64 (rmN a b i n), .int .i64 (rmD a b i n)], .bool (rmB a b i n)]) ∧ Below W.heap.size W w' := fun W => by
        have := spec_l2Kept (nm (mnT a b i n p q) (mnB a b q)) (dn (mnT a b i n p q) (mnB a b q)) W
        rw [hfb] at this
        rw [e1, e2, e3]; exact this
      have Hk := Lib.hid hk
      have Hfl := Lib.hid hfl
      clear hfb hk e1 e2 e3 hab1 hT hB hfl hd1
      generalize mnT a b i n p q = X at *
      generalize mnB a b q = Y at *
      have Hx1 := Lib.hid hx1.symm
      have Hy1 := Lib.hid hy1.symm
      have hiq := hbd.1
      have hnp := hbd.2.1
      have hX : -3932160000000000000 ≤ (a + b) * (i * q - n * p) ∧ (a + b) * (i * q - n * p) ≤ 3932160000000000000 := by rw [Hx1.out]; exact hbd.2.2.1
      have hY : -81920000000000000 ≤ (b - a) * q ∧ (b - a) * q ≤ 81920000000000000 := by rw [Hy1.out]; exact hbd.2.2.2
      have hXb := hbd.2.2.1
      have hYb := hbd.2.2.2
      clear hx1 hy1 hbd
      generalize rmN a b i n = rn at *
      generalize rmD a b i n = rd at *
      generalize rmB a b i n = rb at *
      go_enter Try.func43, Try.ntmps43
      go_wp2_with fail
      generalize (w.alloc (.cells #[.int .i64 0, .int .i64 0] 47)) = w2 at *
      refine (spec_l5Game _ _ _ _ _).mono ?_
      rintro e w' ⟨rfl, rfl⟩
      go_wp2_with fail
      refine (Hs.out _).mono ?_
      rintro e w3 ⟨rfl, hb3⟩
      go_upto_region 6 with (fail)
      have hP2 := Lib.hid ((hP.out.below hb3).alloc (.cells #[.int .i64 p, .int .i64 q] 47))
      have hQ2 := Pair.new w3 (.int .i64 p) (.int .i64 q) 47
      have hb4 : Below w.heap.size w (w3.alloc (.cells #[.int .i64 p, .int .i64 q] 47)) := (hb0.trans (hb3.mono hb0.size)).trans ((Below.refl _ _).alloc (by have := hb0.size; have := hb3.size; omega) _)
      have c0 := hQ2.c0
      have c1 := hQ2.c1
      clear hQ2 hP hb3 hb0
      generalize (w3.alloc (.cells #[.int .i64 p, .int .i64 q] 47)) = w4 at *
      have f1 : IntKind.i64.wrap (a + b) = a + b := IntWalk.i64_in _ (by omega)
      have f2 : IntKind.i64.wrap (i * q) = i * q := IntWalk.i64_in _ (by omega)
      have f3 : IntKind.i64.wrap (n * p) = n * p := IntWalk.i64_in _ (by omega)
      have f4 : IntKind.i64.wrap (i * q - n * p) = i * q - n * p := IntWalk.i64_in _ (by omega)
      have f5 : IntKind.i64.wrap ((a + b) * (i * q - n * p)) = X := by rw [IntWalk.i64_in _ (by omega)]; exact Hx1.out
      have f6 : IntKind.i64.wrap (b - a) = b - a := IntWalk.i64_in _ (by omega)
      have f7 : IntKind.i64.wrap ((b - a) * q) = Y := by rw [IntWalk.i64_in _ (by omega)]; exact Hy1.out
      go_quiet (fail)
      clear f1 f2 f3 f4 f5 f6 f7 c0 c1
      have hP3 := Lib.hid (hP2.out.drewN nq)
      have hb5 := below_drewN hb4 nq
      clear hP2 hb4
      generalize w4.drewN nq = w5 at *
      by_cases hneg : Y < 0
      · have hl : nm (-X) (-Y) = nm X Y ∧ dn (-X) (-Y) = dn X Y := Hfl.out
        have Hc : Hid (∀ W : World, Calls Try.prog 90 #[.int .i64 (-X), .int .i64 (-Y)] W fun e w' => e = .returned (.agg #[.int .i64 (nm X Y), .int .i64 (dn X Y)]) ∧ Below W.heap.size W w') := Lib.hid fun W => by
          rw [← hl.1, ← hl.2]; exact spec_l2Cut _ _ W (by omega) (by omega)
        clear hl
        go_wp2_with fail
        refine (Hc.out _).mono ?_
        rintro e w6 ⟨rfl, hb6⟩
        go_wp2_with fail
        refine (Hk.out _).mono ?_
        rintro e w7 ⟨rfl, hb7⟩
        have p3 := (hP3.out.below hb6).below hb7
        have q3 := p3.c0
        have q4 := p3.c1
        have q5 := p3.f0
        have q6 := p3.f1
        have hr := p3.set (.int .i64 rn) (.int .i64 rd)
        have hb8 := hb5.trans ((hb6.trans (hb7.mono hb6.size)).mono hb5.size)
        clear p3 hb6 hb7
        go_wp2_with fail
        exact bodyPost_ret (v := .tuple #[.agg #[.int .i64 rn, .int .i64 rd], .bool rb]) (by simp [results, Try.results43, go_sem, hr.1, hr.2]) rfl ⟨rfl, (hb8.setCell (Nat.le_refl _) _).setCell (Nat.le_refl _) _⟩
      · have hY1 : 1 ≤ Y := by omega
        have Hc : Hid (∀ W : World, Calls Try.prog 90 #[.int .i64 X, .int .i64 Y] W fun e w' => e = .returned (.agg #[.int .i64 (nm X Y), .int .i64 (dn X Y)]) ∧ Below W.heap.size W w') := Lib.hid fun W => spec_l2Cut _ _ W (by omega) (by omega)
        go_wp2_with fail
        refine (Hc.out _).mono ?_
        rintro e w6 ⟨rfl, hb6⟩
        go_wp2_with fail
        refine (Hk.out _).mono ?_
        rintro e w7 ⟨rfl, hb7⟩
        have p3 := (hP3.out.below hb6).below hb7
        have q3 := p3.c0
        have q4 := p3.c1
        have q5 := p3.f0
        have q6 := p3.f1
        have hr := p3.set (.int .i64 rn) (.int .i64 rd)
        have hb8 := hb5.trans ((hb6.trans (hb7.mono hb6.size)).mono hb5.size)
        clear p3 hb6 hb7
        go_wp2_with fail
        exact bodyPost_ret (v := .tuple #[.agg #[.int .i64 rn, .int .i64 rd], .bool rb]) (by simp [results, Try.results43, go_sem, hr.1, hr.2]) rfl ⟨rfl, (hb8.setCell (Nat.le_refl _) _).setCell (Nat.le_refl _) _⟩

theorem rm_impl {a b i n d a' b' c t s : Int} (hg : game4 a b i n = true) (hab : a ≠ b) (ha : a = d * a') (hb : b = d * b') (hd : 1 ≤ d)
    (ht : ruT a' b' i.toNat n.toNat = c * t) (hs : ruB a' b' n.toNat = c * s) (hc : c ≠ 0) (hs0 : s ≠ 0) :
    rmN a b i n = lowN (mnT a' b' i n t s) (mnB a' b' s) ∧ rmD a b i n = lowD (mnT a' b' i n t s) (mnB a' b' s) ∧ rmB a b i n = lowB (mnT a' b' i n t s) (mnB a' b' s) := by
  obtain ⟨ga, gb, gi, gn⟩ := game4_t hg
  obtain ⟨e1, e2, e3⟩ := rm_other hg hab
  have hab' : a' ≠ b' := fun e => hab (by rw [ha, hb, e])
  have hx := ratio_cross hd hab' (by rw [← ha]; exact ga) (by rw [← hb]; exact gb) i.toNat n.toNat (by omega) (by omega) ht hs hc
  have hq := dn_pos (chT (d * a') (d * b') i.toNat n.toNat) (chB (d * a') (d * b') n.toNat) (by have := chB_pos ga gb n.toNat (by omega); rw [ha, hb] at this; omega)
  have hm := mean_eq (i := i) (n := n) hd hab' (by omega) hs0 hx
  rw [e1, e2, e3]
  unfold rmX rmY lowN lowD lowB
  rw [ha, hb, ← hm.1, ← hm.2]
  exact ⟨rfl, rfl, rfl⟩
set_option maxHeartbeats 2000000 in
theorem impl_RuinMean (a b i n : Int) (w : World) :
    Calls Try.prog 42 #[.int .i64 a, .int .i64 b, .int .i64 i, .int .i64 n] w fun e w' =>
      e = .returned (.tuple #[.agg #[.int .i64 (rmN a b i n), .int .i64 (rmD a b i n)], .bool (rmB a b i n)]) ∧ Below w.heap.size w w' := by
  have hP := Lib.hid (Pair.new w (.int .i64 0) (.int .i64 0) 47)
  have hb0 : Below w.heap.size w (w.alloc (.cells #[.int .i64 0, .int .i64 0] 47)) := (Below.refl _ _).alloc (Nat.le_refl _) _
  cases hg : game4 a b i n
  · obtain ⟨e1, e2, e3⟩ := rm_no hg
    rw [e1, e2, e3]
    clear e1 e2 e3
    rw [game4_eq] at hg
    have hh : game a b n = false ∨ game a b n = true ∧ inB i 0 n = false := by
      cases h : game a b n
      · exact .inl rfl
      · rw [h] at hg; exact .inr ⟨rfl, by simpa using hg⟩
    clear hg
    rcases hh with hh | ⟨hh, hh2⟩
    all_goals
      go_enter Try.func42, Try.ntmps42
      go_wp2_with (first | (go_at_call 48; refine (impl_isGame _ _ _ _).mono ?_; rintro e w' ⟨rfl, rfl⟩) | (go_at_call 49; refine (impl_within _ _ _ _).mono ?_; rintro e w' ⟨rfl, rfl⟩))
      exact bodyPost_ret (v := .tuple #[.agg #[.int .i64 0, .int .i64 0], .bool false]) (by simp [results, Try.results42, go_sem]) rfl ⟨rfl, by first | exact hb0 | exact (hb0.setCell (Nat.le_refl _) _).setCell (Nat.le_refl _) _⟩
  · obtain ⟨ha, hb, hi, hn⟩ := game4_t hg
    have hg2 := hg
    rw [game4_eq] at hg2
    have hgame : game a b n = true := by cases h : game a b n; (rw [h] at hg2; exact hg2); rfl
    have hwith : inB i 0 n = true := by rw [hgame] at hg2; simpa using hg2
    have Hgm := Lib.hid hg
    clear hg2 hg
    by_cases hab : a = b
    · subst hab
      obtain ⟨e1, e2, e3⟩ := rm_same Hgm.out
      have hm := mul_abs_le (a := i) (b := n - i) (M := 12) (N := 12) (by omega) (by omega)
      obtain ⟨l1, l2, l3⟩ := low_one (x := i * (n - i)) (by omega)
      have Hk : Hid (∀ W : World, Calls Try.prog 85 #[.int .i64 (i * (n - i)), .int .i64 1] W fun e w' => e = .returned (.tuple #[.agg #[.int .i64 (rmN a a i n), .int .i64 (rmD a a i n)], .bool (rmB a a i n)]) ∧ Below W.heap.size W w') := Lib.hid fun W => by
        rw [e1, e2, e3]
        have := impl_lowest (i * (n - i)) 1 W (by omega) (by omega) (by omega)
        rw [l1, l2, l3] at this; exact this
      clear e1 e2 e3 l1 l2 l3
      generalize rmN a a i n = rn at *
      generalize rmD a a i n = rd at *
      generalize rmB a a i n = rb at *
      go_enter Try.func42, Try.ntmps42
      go_wp2_with fail
      generalize (w.alloc (.cells #[.int .i64 0, .int .i64 0] 47)) = w2 at *
      refine (impl_isGame _ _ _ _).mono ?_
      rintro e w' ⟨rfl, rfl⟩
      go_wp2_with (go_at_call 49; refine (impl_within _ _ _ _).mono ?_; rintro e w' ⟨rfl, rfl⟩)
      refine (Hk.out _).mono ?_
      rintro e w7 ⟨rfl, hb7⟩
      have hP3 := hP
      have hb5 := hb0
      have p3 := hP3.out.below hb7
      have q3 := p3.c0
      have q4 := p3.c1
      have q5 := p3.f0
      have q6 := p3.f1
      have hr := p3.set (.int .i64 rn) (.int .i64 rd)
      have hb8 := hb5.trans (hb7.mono hb5.size)
      clear p3 hb7
      go_wp2_with fail
      exact bodyPost_ret (v := .tuple #[.agg #[.int .i64 rn, .int .i64 rd], .bool rb]) (by simp [results, Try.results42, go_sem, hr.1, hr.2]) rfl ⟨rfl, (hb8.setCell (Nat.le_refl _) _).setCell (Nat.le_refl _) _⟩
    · have he2 : (a == b) = false := by simpa using hab
      have hg1 := gcdI_pos (a := a) (b := b) (by omega)
      have hg3 := gcdI_le_r (a := a) (b := b) (by omega)
      obtain ⟨a', ha'⟩ := gcdI_dvd_l a b
      obtain ⟨b', hb'⟩ := gcdI_dvd_r a b
      have q1 := Int.tdiv_eq_ediv_of_dvd (gcdI_dvd_l a b)
      have q2 := Int.tdiv_eq_ediv_of_dvd (gcdI_dvd_r a b)
      have q3 : a / gcdI a b = a' := by
        have := Int.mul_ediv_cancel_left a' (show gcdI a b ≠ 0 by omega)
        rwa [← ha'] at this
      have q4 : b / gcdI a b = b' := by
        have := Int.mul_ediv_cancel_left b' (show gcdI a b ≠ 0 by omega)
        rwa [← hb'] at this
      rw [q3] at q1
      rw [q4] at q2
      have Hg : Hid (∀ W : World, Calls Try.prog 89 #[.int .i64 a, .int .i64 b] W fun e w' => e = .returned (.int .i64 (gcdI a b)) ∧ ∃ n, w' = W.drewN n) := Lib.hid fun W => impl_commonDivisor a b W (by omega) (by omega)
      clear q3 q4
      generalize gcdI a b = d at *
      have ba : 1 ≤ a' ∧ a' ≤ 20 := by
        have h1 := tdiv_abs_le a d
        rw [q1] at h1
        have h2 : a' ≠ 0 := by rintro rfl; omega
        have h3 : 0 ≤ a' := by rw [← q1]; exact Int.tdiv_nonneg (by omega) (by omega)
        omega
      have bb : 1 ≤ b' ∧ b' ≤ 20 := by
        have h1 := tdiv_abs_le b d
        rw [q2] at h1
        have h2 : b' ≠ 0 := by rintro rfl; omega
        have h3 : 0 ≤ b' := by rw [← q2]; exact Int.tdiv_nonneg (by omega) (by omega)
        omega
      have hru := ru_eq ba bb i.toNat n.toNat (by omega)
      have hT := ruT_bd ba bb i.toNat n.toNat (by omega) (by omega)
      have hB := ruB_bd ba bb n.toNat (by omega)
      have hB0 := hru.2.2
      have Hru : Hid (∀ W : World, Calls Try.prog 86 #[.int .i64 a', .int .i64 b', .int .i64 i, .int .i64 n] W fun e w' => e = .returned (.tuple #[.int .i64 (ruT a' b' i.toNat n.toNat), .int .i64 (ruB a' b' n.toNat)]) ∧ W = w') := Lib.hid fun W => impl_ruin a' b' i n W ba bb hi hn
      have hrm := fun c t s => rm_impl (c := c) (t := t) (s := s) Hgm.out hab ha' hb' (by omega)
      have Hrm := Lib.hid hrm
      have hab' : b' - a' ≠ 0 := fun e => hab (by rw [ha', hb', show a' = b' by omega])
      clear hru hrm ha' hb'
      generalize ruT a' b' i.toNat n.toNat = top at *
      generalize ruB a' b' n.toNat = bot at *
      have hcp := gcdI_pos (a := top) hB0
      have hcl := gcdI_le_r (a := top) hB0
      obtain ⟨t, ht⟩ := gcdI_dvd_l top bot
      obtain ⟨s, hs⟩ := gcdI_dvd_r top bot
      have t1 := Int.tdiv_eq_ediv_of_dvd (gcdI_dvd_l top bot)
      have t2 := Int.tdiv_eq_ediv_of_dvd (gcdI_dvd_r top bot)
      have t3 : top / gcdI top bot = t := by
        have := Int.mul_ediv_cancel_left t (show gcdI top bot ≠ 0 by omega)
        rwa [← ht] at this
      have t4 : bot / gcdI top bot = s := by
        have := Int.mul_ediv_cancel_left s (show gcdI top bot ≠ 0 by omega)
        rwa [← hs] at this
      rw [t3] at t1
      rw [t4] at t2
      have Hc : Hid (∀ W : World, Calls Try.prog 89 #[.int .i64 top, .int .i64 bot] W fun e w' => e = .returned (.int .i64 (gcdI top bot)) ∧ ∃ n, w' = W.drewN n) := Lib.hid fun W => impl_commonDivisor top bot W (by omega) (by omega)
      clear t3 t4
      generalize gcdI top bot = c at *
      have hs0 : s ≠ 0 := by rintro rfl; omega
      have bt : t.natAbs ≤ top.natAbs ∧ s.natAbs ≤ bot.natAbs := by rw [← t1, ← t2]; exact ⟨tdiv_abs_le _ _, tdiv_abs_le _ _⟩
      have hlow : ∀ (W : World) (T S : Int), rmN a b i n = lowN (mnT a' b' i n T S) (mnB a' b' S) ∧ rmD a b i n = lowD (mnT a' b' i n T S) (mnB a' b' S) ∧ rmB a b i n = lowB (mnT a' b' i n T S) (mnB a' b' S) →
          mnB a' b' S ≠ 0 → (-3932160000000000000 ≤ mnT a' b' i n T S ∧ mnT a' b' i n T S ≤ 3932160000000000000) → (-81920000000000000 ≤ mnB a' b' S ∧ mnB a' b' S ≤ 81920000000000000) →
          Calls Try.prog 85 #[.int .i64 ((a' + b') * (i * S - n * T)), .int .i64 ((b' - a') * S)] W fun e w' => e = .returned (.tuple #[.agg #[.int .i64 (rmN a b i n), .int .i64 (rmD a b i n)], .bool (rmB a b i n)]) ∧ Below W.heap.size W w' := fun W T S h h0 h1 h2 => by
        rw [h.1, h.2.1, h.2.2]
        exact impl_lowest (mnT a' b' i n T S) (mnB a' b' S) W h0 (by omega) (by omega)
      have Hlow := Lib.hid hlow
      clear hlow
      generalize rmN a b i n = rn at *
      generalize rmD a b i n = rd at *
      generalize rmB a b i n = rb at *
      go_enter Try.func42, Try.ntmps42
      go_wp2_with fail
      generalize (w.alloc (.cells #[.int .i64 0, .int .i64 0] 47)) = w2 at *
      refine (impl_isGame _ _ _ _).mono ?_
      rintro e w' ⟨rfl, rfl⟩
      go_wp2_with (go_at_call 49; refine (impl_within _ _ _ _).mono ?_; rintro e w' ⟨rfl, rfl⟩)
      refine (Hg.out _).mono ?_
      rintro e w3 ⟨rfl, n3, rfl⟩
      go_wp2_with fail
      have hP2 := hP.out.drewN n3
      have hb2 := below_drewN hb0 n3
      clear hP hb0
      generalize w2.drewN n3 = w3 at *
      have d0 : ¬ d = 0 := by omega
      have f1 : IntKind.i64.wrap a' = a' := IntWalk.i64_in _ (by omega)
      have f2 : IntKind.i64.wrap b' = b' := IntWalk.i64_in _ (by omega)
      have Ht1 := Lib.hid t1
      have Ht2 := Lib.hid t2
      have Hht := Lib.hid ht
      have Hhs := Lib.hid hs
      have Hhp := Lib.hid hP2
      clear t1 t2 ht hs hP2
      go_quiet (fail)
      have hP4 := Hhp.out.drewN nq
      have hb4 := below_drewN hb2 nq
      clear Hhp hb2 d0 f1 f2 q1 q2
      generalize w3.drewN nq = w4 at *
      have HP4 := Lib.hid hP4
      clear hP4
      go_wp2_with fail
      refine (Hru.out _).mono ?_
      rintro e w' ⟨rfl, rfl⟩
      go_wp2_with fail
      refine (Hc.out _).mono ?_
      rintro e w5 ⟨rfl, n5, rfl⟩
      have hP5 := Lib.hid (HP4.out.drewN n5)
      have hb5 := below_drewN hb4 n5
      clear HP4 hb4
      generalize w4.drewN n5 = w5 at *
      by_cases hc1 : 1 < c
      · go_wp2_with fail
        have d0 : ¬ c = 0 := by omega
        have t1 := Ht1.out
        have t2 := Ht2.out
        have f1 : IntKind.i64.wrap t = t := IntWalk.i64_in _ (by omega)
        have f2 : IntKind.i64.wrap s = s := IntWalk.i64_in _ (by omega)
        go_quiet (fail)
        clear d0 t1 t2 f1 f2
        have hP7 := hP5.out.drewN nq
        have hb6 := below_drewN hb5 nq
        clear hP5 hb5
        generalize w5.drewN nq = w6 at *
        have hbd := mean_bd (a := a') (b := b') (i := i) (n := n) (p := t) (q := s) ba bb (by omega) (by omega) (by omega) (by omega)
        have hiq := hbd.1
        have hnp := hbd.2.1
        have hX : -3932160000000000000 ≤ (a' + b') * (i * s - n * t) ∧ (a' + b') * (i * s - n * t) ≤ 3932160000000000000 := hbd.2.2.1
        have hY : -81920000000000000 ≤ (b' - a') * s ∧ (b' - a') * s ≤ 81920000000000000 := hbd.2.2.2
        have HK := Lib.hid (fun W => Hlow.out W t s (Hrm.out c t s Hht.out Hhs.out (by omega) hs0) (Int.mul_ne_zero hab' hs0) hbd.2.2.1 hbd.2.2.2)
        clear hbd
        go_wp2_with fail
        refine (HK.out _).mono ?_
        rintro e w7 ⟨rfl, hb7⟩
        have p3 := hP7.below hb7
        have k0 := p3.c0
        have k1 := p3.c1
        have k2 := p3.f0
        have k3 := p3.f1
        have hr := p3.set (.int .i64 rn) (.int .i64 rd)
        have hb8 := hb6.trans (hb7.mono hb6.size)
        clear p3 hb7 hP7
        go_wp2_with fail
        exact bodyPost_ret (v := .tuple #[.agg #[.int .i64 rn, .int .i64 rd], .bool rb]) (by simp [results, Try.results42, go_sem, hr.1, hr.2]) rfl ⟨rfl, (hb8.setCell (Nat.le_refl _) _).setCell (Nat.le_refl _) _⟩
      · have hc2 : c = 1 := by omega
        have hht := Hht.out
        have hhs := Hhs.out
        rw [hc2, Int.one_mul] at hht hhs
        subst hht hhs
        clear hc2
        have hP7 := hP5.out
        have hb6 := hb5
        clear hP5 hb5
        have hbd := mean_bd (a := a') (b := b') (i := i) (n := n) (p := top) (q := bot) ba bb (by omega) (by omega) (by omega) (by omega)
        have hiq := hbd.1
        have hnp := hbd.2.1
        have hX : -3932160000000000000 ≤ (a' + b') * (i * bot - n * top) ∧ (a' + b') * (i * bot - n * top) ≤ 3932160000000000000 := hbd.2.2.1
        have hY : -81920000000000000 ≤ (b' - a') * bot ∧ (b' - a') * bot ≤ 81920000000000000 := hbd.2.2.2
        have HK := Lib.hid (fun W => Hlow.out W top bot (Hrm.out 1 top bot (by rw [Int.one_mul]) (by rw [Int.one_mul]) (by omega) hs0) (Int.mul_ne_zero hab' hs0) hbd.2.2.1 hbd.2.2.2)
        clear hbd
        go_wp2_with fail
        refine (HK.out _).mono ?_
        rintro e w7 ⟨rfl, hb7⟩
        have p3 := hP7.below hb7
        have k0 := p3.c0
        have k1 := p3.c1
        have k2 := p3.f0
        have k3 := p3.f1
        have hr := p3.set (.int .i64 rn) (.int .i64 rd)
        have hb8 := hb6.trans (hb7.mono hb6.size)
        clear p3 hb7 hP7
        go_wp2_with fail
        exact bodyPost_ret (v := .tuple #[.agg #[.int .i64 rn, .int .i64 rd], .bool rb]) (by simp [results, Try.results42, go_sem, hr.1, hr.2]) rfl ⟨rfl, (hb8.setCell (Nat.le_refl _) _).setCell (Nat.le_refl _) _⟩
end Go.Proofs.Ytbekfpgpeaoifaa
