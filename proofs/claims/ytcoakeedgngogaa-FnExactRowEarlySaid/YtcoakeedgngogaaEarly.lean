/- Contracts: a row that may be ended early, of the program and of the reference. -/
import Derived.Test.YtcoakeedgngogaaPlEarly
import Derived.Test.YtcoakeedgngogaaRow4
import Derived.Test.YtcoakeedgngogaaKeepB
namespace Go.Proofs.Ytcoakeedgngogaa
open Go.RowKit

/-- Are these the rows of a table? -/
def tabB (n : Nat) (xss : List (List Int)) : Bool := (List.range (n + 1)).all fun t => valsB (row xss t) ((t : Int) + 1)
def reB (n u d : Int) (xss : List (List Int)) : Bool := rowB n u d && ((xss.length : Int) == n + 1 && tabB n.toNat xss)
def reN (n u d : Int) (xss : List (List Int)) : Int := if reB n u d xss then lowN (nth (earlyL u d xss n.toNat n.toNat) 0) (powI (u + d) n.toNat) else 0
def reD (n u d : Int) (xss : List (List Int)) : Int := if reB n u d xss then lowD (nth (earlyL u d xss n.toNat n.toNat) 0) (powI (u + d) n.toNat) else 0
def reO (n u d : Int) (xss : List (List Int)) : Bool := reB n u d xss && lowB (nth (earlyL u d xss n.toNat n.toNat) 0) (powI (u + d) n.toNat)
theorem re_no {n u d : Int} {xss : List (List Int)} (h : reB n u d xss = false) : reN n u d xss = 0 ∧ reD n u d xss = 0 ∧ reO n u d xss = false := by
  unfold reN reD reO; rw [h]; exact ⟨rfl, rfl, rfl⟩
theorem re_yes {n u d : Int} {xss : List (List Int)} (h : reB n u d xss = true) : reN n u d xss = lowN (nth (earlyL u d xss n.toNat n.toNat) 0) (powI (u + d) n.toNat) ∧ reD n u d xss = lowD (nth (earlyL u d xss n.toNat n.toNat) 0) (powI (u + d) n.toNat) ∧ reO n u d xss = lowB (nth (earlyL u d xss n.toNat n.toNat) 0) (powI (u + d) n.toNat) := by
  unfold reN reD reO; rw [h]; exact ⟨rfl, rfl, rfl⟩
theorem re_no1 {n u d : Int} {xss : List (List Int)} (h : rowB n u d = false) : reB n u d xss = false := by rw [reB, h]; rfl
theorem re_no2 {n u d : Int} {xss : List (List Int)} (h : ¬ (xss.length : Int) = n + 1) : reB n u d xss = false := by simp [reB, h]
theorem re_no3 {n u d : Int} {xss : List (List Int)} {t : Nat} (ht : (t : Int) ≤ n) (h : valsB (row xss t) ((t : Int) + 1) = false) : reB n u d xss = false := by
  have : tabB n.toNat xss = false := all_f (i := t) (by omega) h
  rw [reB, this]; simp
theorem re_ok {n u d : Int} {xss : List (List Int)} (h1 : rowB n u d = true) (h2 : (xss.length : Int) = n + 1) (h3 : ∀ t : Nat, (t : Int) ≤ n → valsB (row xss t) ((t : Int) + 1) = true) : reB n u d xss = true := by
  have : tabB n.toNat xss = true := all_t fun t ht => h3 t (by have := rowB_t h1; omega)
  rw [reB, h1, this, h2]; simp
theorem vals_t {xs : List Int} {m : Int} (h : valsB xs m = true) : (xs.length : Int) = m ∧ Abs 999 xs := by
  simp only [valsB, Bool.and_eq_true, beq_iff_eq] at h
  exact ⟨h.2, Abs.of_all (by omega) fun i hi => inB_t (all_get h.1 hi)⟩
set_option maxRecDepth 100000 in
set_option maxHeartbeats 4000000 in
theorem impl_RowEarly (n u d : Int) (ad : Option Addr) (m cap : Nat) (xss : List (List Int)) (w : World) (hm : m ≤ 1048576) (hr0 : ∀ j, j < m → (row xss j).length ≤ 1048576) (h : IntsSS w ad m xss) :
    Calls Try.prog 11 #[.int .i64 n, .int .i64 u, .int .i64 d, .slice ad m cap] w fun e w' =>
      e = .returned (.tuple #[.agg #[.int .i64 (reN n u d xss), .int .i64 (reD n u d xss)], .bool (reO n u d xss)]) ∧ Below w.heap.size w w' := by
  have hP := Lib.hid (Pair.new w (.int .i64 0) (.int .i64 0) 24)
  have hb0 : Below w.heap.size w (w.alloc (.cells #[.int .i64 0, .int .i64 0] 24)) := below_new w _
  have hl := Lib.hid h.1
  have H := Lib.hid h
  have Hr := Lib.hid hr0
  clear h hr0
  cases hg : rowB n u d
  · have Hno := Lib.hid (re_no1 (xss := xss) hg)
    go_enter Try.func11, Try.ntmps11
    go_wp2_with fail
    generalize (w.alloc (.cells #[.int .i64 0, .int .i64 0] 24)) = w2 at *
    refine (impl_isRow _ _ _ _).mono ?_
    rintro e w' ⟨rfl, rfl⟩
    rw [hg]
    have p3 := hP.out
    have q3 := p3.c0
    have q4 := p3.c1
    have q5 := p3.f0
    have q6 := p3.f1
    have hr := p3.set (.int .i64 0) (.int .i64 0)
    clear p3
    go_wp2_with fail
    exact bodyPost_ret (v := .tuple #[.agg #[.int .i64 0, .int .i64 0], .bool false]) (by simp [results, Try.results11, go_sem, hr.1, hr.2]) rfl ⟨by obtain ⟨e1, e2, e3⟩ := re_no Hno.out; rw [e1, e2, e3], (hb0.setCell (Nat.le_refl _) _).setCell (Nat.le_refl _) _⟩
  have hrb := rowB_t hg
  have Hg := Lib.hid hg
  obtain ⟨N, rfl⟩ : ∃ N : Nat, n = N := ⟨n.toNat, by omega⟩
  clear hg
  by_cases hlen : (m : Int) = (N : Int) + 1
  rotate_left
  · have Hno := Lib.hid (re_no2 (u := u) (d := d) (xss := xss) (n := (N : Int)) (by rw [hl.out]; exact hlen))
    have hlb : ((m : Int) != (N : Int) + 1) = true := by rw [bne_iff_ne]; exact hlen
    clear hlen
    go_enter Try.func11, Try.ntmps11
    go_wp2_with fail
    generalize (w.alloc (.cells #[.int .i64 0, .int .i64 0] 24)) = w2 at *
    refine (impl_isRow _ _ _ _).mono ?_
    rintro e w' ⟨rfl, rfl⟩
    rw [Hg.out]
    have p3 := hP.out
    have q3 := p3.c0
    have q4 := p3.c1
    have q5 := p3.f0
    have q6 := p3.f1
    have hr := p3.set (.int .i64 0) (.int .i64 0)
    clear p3
    go_wp2_with fail
    exact bodyPost_ret (v := .tuple #[.agg #[.int .i64 0, .int .i64 0], .bool false]) (by simp [results, Try.results11, go_sem, hr.1, hr.2]) rfl ⟨by obtain ⟨e1, e2, e3⟩ := re_no Hno.out; rw [e1, e2, e3], (hb0.setCell (Nat.le_refl _) _).setCell (Nat.le_refl _) _⟩
  obtain rfl : m = N + 1 := by omega
  clear hlen
  obtain ⟨bo, oo, rfl, hbo, hcell⟩ := H.out.2 (by omega)
  have Hcell := Lib.hid hcell
  clear hcell
  go_enter Try.func11, Try.ntmps11
  go_wp2_with fail
  generalize (w.alloc (.cells #[.int .i64 0, .int .i64 0] 24)) = w2 at *
  refine (impl_isRow _ _ _ _).mono ?_
  rintro e w' ⟨rfl, rfl⟩
  rw [Hg.out]
  have hnb : ((((N + 1 : Nat) : Int)) != (N : Int) + 1) = false := by simp
  go_wp2_with fail
  trace_state
  go_loop [32] (fun v32 => ∃ t : Nat, t ≤ N + 1 ∧ v32 = .int .i64 (t : Int) ∧ ∀ j : Nat, j < t → valsB (row xss j) ((j : Int) + 1) = true) (fun v32 => N + 1 - (intOf v32).toNat)
  case atStart => exact ⟨0, Nat.zero_le _, rfl, fun j hj => by omega⟩
  case round =>
    obtain ⟨t, ht, rfl, hall⟩ := hrel
    have Hall := Lib.hid hall
    clear hall
    by_cases hlt : (t : Int) < (N : Int) + 1
    · obtain ⟨ar, cr, h1, hints⟩ := Hcell.out t (by omega)
      have h1 := (hb0.cell (p := ⟨bo, oo + t, none⟩) hbo).trans h1
      have hrl := Hr.out t (by omega)
      have Hints := Lib.hid (hints.below hb0)
      clear hints
      by_cases hq : ((row xss t).length : Int) = (t : Int) + 1
      rotate_left
      · have Hno := Lib.hid (re_no3 (u := u) (d := d) (n := (N : Int)) (xss := xss) (t := t) (by omega) (by rw [valsB]; simp [hq]))
        have hqb : ((((row xss t).length : Nat) : Int) != (t : Int) + 1) = true := by rw [bne_iff_ne]; exact hq
        clear hq
        have p3 := hP.out
        have q3 := p3.c0
        have q4 := p3.c1
        have q5 := p3.f0
        have q6 := p3.f1
        have hr := p3.set (.int .i64 0) (.int .i64 0)
        clear p3
        go_wp2_with fail
        exact bodyPost_ret (v := .tuple #[.agg #[.int .i64 0, .int .i64 0], .bool false]) (by simp [results, Try.results11, go_sem, hr.1, hr.2]) rfl ⟨by obtain ⟨e1, e2, e3⟩ := re_no Hno.out; rw [e1, e2, e3], (hb0.setCell (Nat.le_refl _) _).setCell (Nat.le_refl _) _⟩
      · have hql : (row xss t).length = t + 1 := by omega
        have hvb : valsB (row xss t) ((t : Int) + 1) = allIn (row xss t) (-999) 999 := by rw [valsB, hql]; simp
        rw [hql] at h1
        have hints := Hints.out
        rw [hql] at hints
        have Hints := Lib.hid hints
        have hqb : ((((t + 1 : Nat) : Int)) != (t : Int) + 1) = false := by simp
        have Hvb := Lib.hid hvb
        clear hints hq hql hvb
        cases hin : allIn (row xss t) (-999) 999
        · have Hno := Lib.hid (re_no3 (u := u) (d := d) (n := (N : Int)) (xss := xss) (t := t) (by omega) (by rw [Hvb.out, hin]))
          have Hin := Lib.hid hin
          clear hin
          have p3 := hP.out
          have q3 := p3.c0
          have q4 := p3.c1
          have q5 := p3.f0
          have q6 := p3.f1
          have hr := p3.set (.int .i64 0) (.int .i64 0)
          clear p3
          go_wp2_with (go_at_call 41; refine (impl_allWithin _ _ _ _ _ (row xss t) _ (by omega) Hints.out).mono ?_; rintro e w' ⟨rfl, rfl⟩; rw [Hin.out])
          exact bodyPost_ret (v := .tuple #[.agg #[.int .i64 0, .int .i64 0], .bool false]) (by simp [results, Try.results11, go_sem, hr.1, hr.2]) rfl ⟨by obtain ⟨e1, e2, e3⟩ := re_no Hno.out; rw [e1, e2, e3], (hb0.setCell (Nat.le_refl _) _).setCell (Nat.le_refl _) _⟩
        · have Hok : Hid (valsB (row xss t) ((t : Int) + 1) = true) := Lib.hid (by rw [Hvb.out, hin])
          have Hin := Lib.hid hin
          clear hin
          go_wp2_with (go_at_call 41; refine (impl_allWithin _ _ _ _ _ (row xss t) _ (by omega) Hints.out).mono ?_; rintro e w' ⟨rfl, rfl⟩; rw [Hin.out])
          go_round
          case rel => exact ⟨t + 1, by omega, by go_num, fun j hj => by
            by_cases e : j = t
            · subst e; exact Hok.out
            · exact Hall.out j (by omega)⟩
          case measure => simp [intOf]; omega
    · obtain rfl : t = N + 1 := by omega
      have hra := fun j hj => vals_t (Hall.out j hj)
      have Hra := Lib.hid hra
      clear hra
      obtain ⟨arN, crN, h1, hints⟩ := Hcell.out N (by omega)
      have hlN : (row xss N).length = N + 1 := by have := (Hra.out N (by omega)).1; omega
      have h1 := (hb0.cell (p := ⟨bo, oo + N, none⟩) hbo).trans h1
      rw [hlN] at h1 hints
      have hintN := hints.below hb0
      obtain ⟨brN, orN, rfl, -, -⟩ := hintN.2 (by omega)
      have HintN := Lib.hid hintN
      clear hints hintN
      have HlN := Lib.hid hlN
      clear hlN
      have n0 : (0 : Int) ≤ (N : Int) := by omega
      have n1 : (N : Int) < ((N + 1 : Nat) : Int) := by omega
      go_wp2_with (go_at_call 42; refine (impl_copied _ _ _ (row xss N) _ (by omega) (fun h => by cases h) HintN.out).mono ?_; rintro e w3 ⟨v3, rfl, ho3, hb3⟩)
      have HP3 := Lib.hid (hP.out.below hb3)
      have hb13 := hb0.trans (hb3.mono hb0.size)
      have HO3 := Lib.hid (ho3.mono (show w.heap.size + 1 ≤ w2.heap.size from hP.out.lt))
      have hg3 : w.heap.size < w3.heap.size := HP3.out.lt
      have hy := re_ok Hg.out (by rw [hl.out]; omega) (fun t ht => Hall.out t (by omega))
      obtain ⟨hyN, hyD, hyO⟩ := re_yes hy
      rw [Int.toNat_natCast] at hyN hyD hyO
      have HyN := Lib.hid hyN
      have HyD := Lib.hid hyD
      have HyO := Lib.hid hyO
      have Hbd : Hid (∀ k, k ≤ N → Abs 104871024 (earlyL u d xss N k)) := Lib.hid fun k hk => early_bd (by omega) (by omega) (fun t ht => (Hra.out t (by omega)).2) hk (by omega)
      have Helen : Hid (∀ k, k ≤ N → (earlyL u d xss N k).length = N + 1 - k) := Lib.hid fun k hk => earlyL_length HlN.out k hk
      have Hpw : Hid (∀ k, k ≤ N → 1 ≤ powI (u + d) k ∧ powI (u + d) k ≤ 104976) := Lib.hid fun k hk => by
        have := pow18 (a := u + d) (by omega) k
        have := pow18_4 (k := k) (by omega)
        omega
      have kud : IntKind.i64.wrap (u + d) = u + d := IntWalk.i64_in _ (by omega)
      clear ho3 hb3 hP hy hyN hyD hyO hnb HintN h1 hb0
      go_wp2_with fail
      go_loopw [12, 13] (fun v12 v13 wr => ∃ k : Nat, k ≤ N ∧ v13 = .int .i64 ((N : Int) - 1 - (k : Int)) ∧ Own wr (w.heap.size + 1) v12 (earlyL u d xss N k) ∧ Pair wr w.heap.size (.int .i64 0) (.int .i64 0) ∧ Below w.heap.size w wr) (fun _ v13 _ => (intOf v13 + 1).toNat)
      case atStart => exact ⟨0, Nat.zero_le _, by simp, HO3.out, HP3.out, hb13⟩
      case round =>
        clear hb13 HO3 HP3 hg3
        obtain ⟨k, hk, rfl, ho, hP, hbel⟩ := hrel
        obtain ⟨wo, rfl⟩ : ∃ wo, wo = wr := ⟨_, rfl⟩
        have HP := Lib.hid hP
        have HO := Lib.hid ho
        have hgw : w.heap.size < wo.heap.size := hP.lt
        clear hP ho
        by_cases hlt : (N : Int) - 1 - (k : Int) ≥ 0
        · obtain ⟨T, hT⟩ : ∃ T : Nat, N = T + 1 + k := ⟨N - 1 - k, by omega⟩
          have hTe : (N : Int) - 1 - (k : Int) = (T : Int) := by omega
          have Hm1 : Hid ((T : Int) - 1 = (N : Int) - 1 - ((k + 1 : Nat) : Int)) := Lib.hid (by omega)
          have hKm : ((T : Int) - 1 + 1).toNat < ((T : Int) + 1).toNat := by omega
          have Hnt : Hid ((N : Int) - (T : Int) = ((k + 1 : Nat) : Int)) := Lib.hid (by omega)
          rw [hTe] at hlt ⊢
          clear hTe
          obtain ⟨arT, crT, h1, hints⟩ := Hcell.out T (by omega)
          have hlT : (row xss T).length = T + 1 := by have := (Hra.out T (by omega)).1; omega
          have h1 := (hbel.cell (p := ⟨bo, oo + T, none⟩) hbo).trans h1
          rw [hlT] at h1 hints
          have hintT := hints.below hbel
          obtain ⟨brT, orT, rfl, -, -⟩ := hintT.2 (by omega)
          have HintT := Lib.hid hintT
          have HlT := Lib.hid hlT
          have HaT := Lib.hid (Hra.out T (by omega)).2
          clear hints hintT hlT
          have t1 : (T : Int) < ((N + 1 : Nat) : Int) := by omega
          have HT := Lib.hid hT
          clear hT
          have hsnil := own_nil0 wo
          have hbn := below_new wo (.cells #[] 3)
          have Hbn := Lib.hid hbn
          have HP' := Lib.hid (HP.out.below hbn)
          have HO' := Lib.hid (HO.out.below hbn)
          have hbel' := hbel.trans (hbn.mono hbel.size)
          have HintT' := Lib.hid (HintT.out.below hbn)
          obtain ⟨av, cv, rfl⟩ := HO.out.shape
          have HE := Lib.hid HO'.out.ints
          have hnl : (earlyL u d xss N k).length = N + 1 - k := Helen.out k hk
          have Hnl := Lib.hid hnl
          have hap : 0 < (earlyL u d xss N k).length → Apart av (Value.slice (some ⟨wo.heap.size, 0, none⟩) 0 0) := fun h0 p hp e => by
            obtain ⟨g, cp, he, hg, _⟩ := HO.out.form h0
            cases he
            cases hp
            simp [Value.ownBlock] at e
            have := (World.ownsRow.lt HO.out g rfl).2
            omega
          have Hap := Lib.hid hap
          have h1n := (hbn.cell (p := ⟨bo, oo + T, none⟩) (World.block_lt_of_cell? wo _ h1)).trans h1
          have Hsn := Lib.hid hsnil
          have Hb' := Lib.hid hbel'
          have hwn : wo.heap.size < (wo.alloc (.cells #[] 3)).heap.size := by simp
          clear h1 hap hsnil hbel' hbn HO HO' HP hnl
          go_upto_region 14 with fail
          generalize wo.alloc (.cells #[] 3) = wn at *
          have Hnx : Hid (∀ i, i < T + 1 → nth (earlyL u d xss N (k + 1)) i = max (nth (row xss T) i * powI (u + d) (k + 1)) (nth (earlyL u d xss N k) (i + 1) * d + nth (earlyL u d xss N k) i * u)) := Lib.hid fun i hi => by
            have hTT := HT.out
            rw [earlyL, nth_map_range (by omega), show N - 1 - k = T by omega]
          have Hnxl : Hid ((earlyL u d xss N (k + 1)).length = T + 1) := Lib.hid (by have := Helen.out (k + 1) (by have := HT.out; omega); have := HT.out; omega)
          have Hbk := Lib.hid (Hbd.out k hk)
          have hk1 : k + 1 ≤ N := by have := HT.out; omega
          have Hpk := Lib.hid (Hpw.out (k + 1) hk1)
          have hne : (earlyL u d xss N k).length = T + 2 := by rw [Hnl.out]; have := HT.out; omega
          generalize hEl : (earlyL u d xss N k).length = ne at *
          clear hEl Hnl
          subst hne
          generalize hE2 : earlyL u d xss N (k + 1) = E2 at *
          have HE2 := Lib.hid hE2
          clear hE2
          generalize earlyL u d xss N k = E at *
          generalize hpwe : powI (u + d) (k + 1) = pw at *
          have Hpwe := Lib.hid hpwe
          clear hpwe
          have hT4 : T + 1 ≤ 4 := by have := HT.out; omega
          go_wp2_with fail
          go_loopw [14, 66] (fun v14 v66 ws => ∃ i : Nat, i ≤ T + 1 ∧ v66 = .int .i64 (i : Int) ∧ Own ws wo.heap.size v14 (E2.take i) ∧ Ints ws av (T + 2) E ∧ (0 < T + 2 → Apart av v14) ∧ Pair ws w.heap.size (.int .i64 0) (.int .i64 0) ∧ Below w.heap.size w ws ∧ wo.heap.size ≤ ws.heap.size ∧ Below wo.heap.size wo ws) (fun _ v66 _ => T + 1 - (intOf v66).toNat)
          case atStart => exact ⟨0, Nat.zero_le _, rfl, by simpa using Hsn.out, HE.out, Hap.out, HP'.out, Hb'.out, by omega, Hbn.out⟩
          case round =>
            clear Hbn Hsn HE Hap HP' Hb' h1n hwn HintT'
            obtain ⟨i, hi, rfl, hon, hE, hap, hP, hbs, hsz, hbsT⟩ := hrel
            have HE := Lib.hid hE
            have Hap := Lib.hid hap
            have HP := Lib.hid hP
            clear hE hap hP
            by_cases hli : (i : Int) < (T : Int) + 1
            · obtain ⟨bT, oT, hpT, hcT⟩ := HintT.out.at (i := i) hbsT (by omega)
              cases hpT
              obtain ⟨bE, oE, rfl, hc0⟩ := HE.out.at (i := i) (Below.refl _ _) (by omega)
              obtain ⟨bE', oE', hpE, hc1⟩ := HE.out.at (i := i + 1) (Below.refl _ _) (by omega)
              cases hpE
              have Hf := Lib.hid (take_succ_nth (xs := E2) (k := i) (by have := Hnxl.out; omega))
              have hnx := Hnx.out i (by omega)
              rw [hnx] at Hf
              have hl2 : (E2.take i).length ≤ 24 := by rw [List.length_take]; omega
              have hq := HaT.out i
              have he0 := Hbk.out i
              have he1 := Hbk.out (i + 1)
              have hpk := Hpk.out
              have hm1 := mul_abs (B := 999) (U := 104976) (x := nth (row xss T) i) (u := pw) hq (by omega) (by omega)
              have hm2 := mul_abs (B := 104871024) (U := 9) (x := nth E (i + 1)) (u := d) he1 (by omega) (by omega)
              have hm3 := mul_abs (B := 104871024) (U := 9) (x := nth E i) (u := u) he0 (by omega) (by omega)
              clear hnx
              generalize (E2.take i) = acc at *
              generalize nth (row xss T) i = q at *
              generalize nth E (i + 1) = e1 at *
              generalize nth E i = e0 at *
              have k1 : IntKind.i64.wrap (q * pw) = q * pw := IntWalk.i64_in _ (by omega)
              have k2 : IntKind.i64.wrap (e1 * d) = e1 * d := IntWalk.i64_in _ (by omega)
              have k3 : IntKind.i64.wrap (e0 * u) = e0 * u := IntWalk.i64_in _ (by omega)
              have k4 : IntKind.i64.wrap (e1 * d + e0 * u) = e1 * d + e0 * u := IntWalk.i64_in _ (by omega)
              have k5 : IntKind.i64.wrap ((N : Int) - (T : Int)) = (N : Int) - (T : Int) := IntWalk.i64_in _ (by omega)
              have k6 : IntKind.i64.wrap ((i : Int) + 1) = (i : Int) + 1 := IntWalk.i64_in _ (by omega)
              have k7 : (0 : Int) ≤ (i : Int) := by omega
              have k8 : (i : Int) < ((T + 2 : Nat) : Int) := by omega
              have k9 : (0 : Int) ≤ (i : Int) + 1 := by omega
              have k10 : (i : Int) + 1 < ((T + 2 : Nat) : Int) := by omega
              have k11 : (i : Int) + 1 < (T : Int) + 2 := by omega
              have k12 : (i : Int) < (T : Int) + 2 := by omega
              have HcPow : Hid (∀ W : World, Calls Try.prog 43 #[.int .i64 (u + d), .int .i64 ((N : Int) - (T : Int))] W fun e w' => e = .returned (.int .i64 pw) ∧ W = w') := Lib.hid fun W => by
                have := impl_power (u + d) ((k + 1 : Nat) : Int) W (by omega) (by omega)
                rw [Int.toNat_natCast, Hpwe.out] at this
                rw [Hnt.out]
                exact this
              have HA0 : Hid (∀ o, Below wo.heap.size wr (wr.alloc o).drew) := Lib.hid fun o => ((Below.refl _ _).alloc hsz o).drew
              have HA0' : Hid (∀ o, Below wr.heap.size wr (wr.alloc o).drew) := Lib.hid fun o => (below_new wr o).drew
              clear hq he0 he1 hpk hm1 hm2 hm3
              obtain ⟨M, hM⟩ : ∃ M : Int, (if q * pw < e1 * d + e0 * u then e1 * d + e0 * u else q * pw) = M := ⟨_, rfl⟩
              have Hv : Hid (max (q * pw) (e1 * d + e0 * u) = M) := Lib.hid (by rw [← hM]; split <;> omega)
              rw [Hv.out] at Hf
              go_upto_region 17 with fail
              go_region_held3 (fun W' => Below wo.heap.size wr W' ∧ W'.cell? ⟨bE, oE + i, none⟩ = some (.int .i64 e0) ∧ W'.cell? ⟨bE, oE + (i + 1), none⟩ = some (.int .i64 e1))
                (first | assumption | exact ⟨(Below.refl _ _).drew, hc0, hc1⟩ | exact ⟨HA0.out _, cell_up (HA0'.out _) hc0, cell_up (HA0'.out _) hc1⟩)
                (first
                  | (go_at_call 43; refine (HcPow.out _).mono ?_; rintro e w' ⟨rfl, rfl⟩)
                  | (refine step_push2 (u := M) rfl _ _ rfl wo.heap.size _ _ (by rfl) hon (by rfl) (by omega) hsz ?_; intro v' w' ho hb hm
                     have x0 := hm.cell hc0 (Hap.out (by omega) ⟨bE, oE, none⟩ rfl)
                     have x1 := hm.cell hc1 (Hap.out (by omega) ⟨bE, oE, none⟩ rfl)
                     have hSS : Below wo.heap.size wr w' ∧ w'.cell? ⟨bE, oE + i, none⟩ = some (.int .i64 e0) ∧ w'.cell? ⟨bE, oE + (i + 1), none⟩ = some (.int .i64 e1) := ⟨hb, x0, x1⟩))
              go_wp2_with fail
              have hE2 := HE.out.moved hm Hap.out
              go_roundw
              case rel => exact ⟨i + 1, by omega, by go_num, by rw [Hf.out]; exact ho, hE2.1, hE2.2, HP.out.up hb (by omega), hbs.trans (hb.mono (by omega)), Nat.le_trans hsz hb.size, hbsT.trans (hb.mono (Nat.le_refl _))⟩
              case measure => simp [intOf]; omega
            · obtain rfl : i = T + 1 := by omega
              have hfin : E2.take (T + 1) = E2 := List.take_of_length_le (by have := Hnxl.out; omega)
              rw [hfin] at hon
              clear hfin
              go_wp2_with fail
              go_roundw
              case rel => exact ⟨k + 1, hk1, by rw [Hm1.out], by rw [HE2.out]; exact hon.mono (by omega), HP.out, hbs⟩
              case measure => exact hKm
        · obtain rfl : k = N := by omega
          have hlow := impl_lowest (nth (earlyL u d xss k k) 0) (powI (u + d) k)
          have hb0' := Hbd.out k (Nat.le_refl _) 0
          have hp0' := Hpw.out k (Nat.le_refl _)
          have Hlow : Hid (∀ W : World, Calls Try.prog 44 #[.int .i64 (nth (earlyL u d xss k k) 0), .int .i64 (powI (u + d) k)] W fun e w' => e = .returned (.tuple #[.agg #[.int .i64 (lowN (nth (earlyL u d xss k k) 0) (powI (u + d) k)), .int .i64 (lowD (nth (earlyL u d xss k k) 0) (powI (u + d) k))], .bool (lowB (nth (earlyL u d xss k k) 0) (powI (u + d) k))]) ∧ Below W.heap.size W w') := Lib.hid fun W => hlow W (by omega) (by omega) (by omega)
          have HcPow : Hid (∀ W : World, Calls Try.prog 43 #[.int .i64 (u + d), .int .i64 (k : Int)] W fun e w' => e = .returned (.int .i64 (powI (u + d) k)) ∧ W = w') := Lib.hid fun W => by
            have := impl_power (u + d) (k : Int) W (by omega) (by omega)
            rw [Int.toNat_natCast] at this
            exact this
          have hne0 : (earlyL u d xss k k).length = 1 := by rw [Helen.out k (Nat.le_refl _)]; omega
          clear hlow hb0' hp0'
          obtain ⟨av, cv, rfl⟩ := HO.out.shape
          have hI := HO.out.ints
          have hap : av.map (fun p => p.block) ≠ some w.heap.size := fun e => by
            obtain ⟨g, cp, he, hg, _⟩ := HO.out.form (by omega)
            cases he
            simp at e
            omega
          rw [hne0] at hI ⊢
          obtain ⟨bE, oE, rfl, hc0⟩ := hI.at (i := 0) (Below.refl _ _) (by omega)
          have hbE : bE ≠ w.heap.size := fun e => hap (by rw [e]; rfl)
          have HyN' := Lib.hid HyN.out
          clear hap hI hne0
          generalize hx : lowN (nth (earlyL u d xss k k) 0) (powI (u + d) k) = x at *
          generalize hy : lowD (nth (earlyL u d xss k k) 0) (powI (u + d) k) = y at *
          generalize hz : lowB (nth (earlyL u d xss k k) 0) (powI (u + d) k) = z at *
          have Hx := Lib.hid hx
          have Hy := Lib.hid hy
          have Hz := Lib.hid hz
          clear hx hy hz
          generalize nth (earlyL u d xss k k) 0 = e0 at *
          generalize powI (u + d) k = pw at *
          rw [Nat.add_zero] at hc0
          go_upto_region 19 with fail
          go_region_held3 (fun w' => KeptP w w.heap.size w' ∧ w'.cell? ⟨bE, oE, none⟩ = some (.int .i64 e0))
            (first | assumption | exact ⟨KeptP.start hbel (Nat.le_refl _) HP.out, hc0⟩ | exact ⟨KeptP.next b9 (by assumption : KeptP _ _ _ ∧ _).1, cell_up b9 (by assumption : KeptP _ _ _ ∧ _).2⟩ | exact ⟨KeptP.store (by assumption : KeptP _ _ _ ∧ _).1 _ _, cell_far (cell_far (by assumption : KeptP _ _ _ ∧ _).2 hbE) hbE⟩)
            (first
              | (go_at_call 43; refine (HcPow.out _).mono ?_; rintro e w' ⟨rfl, rfl⟩)
              | (go_at_call 44; refine (Hlow.out _).mono ?_; rintro e w9 ⟨rfl, b9⟩; have hk9 := KeptP.next b9 (by assumption : KeptP _ _ _ ∧ _).1; have hbl := hk9.1; obtain ⟨x0, y0, hp⟩ := hk9.2.2; have q3 := hp.c0; have q4 := hp.c1; have q5 := hp.f0; have q6 := hp.f1; have hr := hp.set (.int .i64 x) (.int .i64 y); have hkk : KeptP w w.heap.size w9 ∧ w9.cell? ⟨bE, oE, none⟩ = some (.int .i64 e0) := ⟨hk9, cell_up b9 (by assumption : KeptP _ _ _ ∧ _).2⟩))
          go_wp2_with fail
          exact bodyPost_ret (v := .tuple #[.agg #[.int .i64 x, .int .i64 y], .bool z]) (by simp [results, Try.results11, go_sem, hr.1, hr.2]) rfl ⟨by rw [HyN.out, HyD.out, HyO.out], (hbl.setCell (Nat.le_refl _) _).setCell (Nat.le_refl _) _⟩
end Go.Proofs.Ytcoakeedgngogaa
