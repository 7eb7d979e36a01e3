/- Contracts: the value of a row and its holding, of the program and of the reference. -/
import Derived.Test.YtehmaedifbnnhaaRow1
import Derived.RegionTactic
import Derived.Deep.RegionWith
import Derived.Test.YtehmaedifbnnhaaB3
namespace Go.Proofs.Ytehmaedifbnnhaa
open Go.RowKit

def rowOkB (n u d : Int) (xs : List Int) : Bool := rowB n u d && valsB xs (n + 1)
theorem rowOkB_t {n u d : Int} {xs : List Int} (h : rowOkB n u d xs = true) : rowB n u d = true ∧ valsB xs (n + 1) = true ∧ (xs.length : Int) = n + 1 ∧ Abs 999 xs ∧ allIn xs (-999) 999 = true := by
  simp only [rowOkB, Bool.and_eq_true] at h
  have h2 := h.2
  simp only [valsB, Bool.and_eq_true, beq_iff_eq] at h2
  exact ⟨h.1, h.2, h2.2, Abs.of_all (by omega) fun i hi => inB_t (all_get h2.1 hi), h2.1⟩
theorem kept_low {a b : Int} (hb : b ≠ 0) : (if fracB (nm a b) (dn a b) then nm a b else 0) = lowN a b ∧ (if fracB (nm a b) (dn a b) then dn a b else 0) = lowD a b ∧ fracB (nm a b) (dn a b) = lowB a b := by
  rw [fracB_quot _ _ hb]; exact ⟨rfl, rfl, rfl⟩
set_option maxHeartbeats 400000 in
theorem impl_isRowWith (n u d : Int) (a : Option Addr) (m cap : Nat) (xs : List Int) (w : World) (hm : m ≤ 1048576) (h : Ints w a m xs) :
    Calls Try.prog 89 #[.int .i64 n, .int .i64 u, .int .i64 d, .slice a m cap] w fun e w' => e = .returned (.bool (rowOkB n u d xs)) ∧ w = w' := by
  have hl := Lib.hid h.1
  have H := Lib.hid h
  clear h
  cases h1 : rowB n u d
  · have hv : rowOkB n u d xs = false := by rw [rowOkB, h1]; rfl
    rw [hv]
    clear hv
    go_enter Try.func89, Try.ntmps89
    go_wp2_with (go_at_call 95; refine (impl_isRow _ _ _ _).mono ?_; rintro e w' ⟨rfl, rfl⟩)
    go_ret
    exact ⟨rfl, rfl⟩
  · have hb := rowB_t h1
    cases h2 : ((m : Int) == n + 1)
    · have hv : rowOkB n u d xs = false := by rw [rowOkB, valsB, hl.out, h2, Bool.and_false, Bool.and_false]
      rw [hv]
      clear hv
      go_enter Try.func89, Try.ntmps89
      go_wp2_with (go_at_call 95; refine (impl_isRow _ _ _ _).mono ?_; rintro e w' ⟨rfl, rfl⟩; rw [h1])
      go_ret
      exact ⟨rfl, rfl⟩
    · have hv : rowOkB n u d xs = allIn xs (-999) 999 := by rw [rowOkB, valsB, hl.out, h2, h1, Bool.and_true, Bool.true_and]
      rw [hv]
      clear hv
      generalize hA : allIn xs (-999) 999 = A
      have HA := Lib.hid hA
      clear hA
      have hne : ¬ (m : Int) = n + 1 → False := fun h => by simp [h] at h2
      have hme : (m : Int) ≤ n + 1 ∧ n + 1 ≤ m := by simp at h2; omega
      go_enter Try.func89, Try.ntmps89
      go_wp2_with (first | (go_at_call 95; refine (impl_isRow _ _ _ _).mono ?_; rintro e w' ⟨rfl, rfl⟩; rw [h1]) | (go_at_call 76; refine (impl_allWithin _ _ _ _ _ xs _ (by omega) H.out).mono ?_; rintro e w' ⟨rfl, rfl⟩; rw [HA.out]))
      go_ret
      exact ⟨rfl, rfl⟩
set_option maxRecDepth 100000 in
set_option maxHeartbeats 1000000 in
theorem impl_rowValue (u d : Int) (a : Option Addr) (n cap : Nat) (xs : List Int) (w : World) (hu : 1 ≤ u ∧ u ≤ 9) (hd : 1 ≤ d ∧ d ≤ 9) (hn : 1 ≤ n ∧ n ≤ 5) (hc : a = none → cap = 0) (hA : Abs 999 xs) (h : Ints w a n xs) :
    Calls Try.prog 90 #[.int .i64 u, .int .i64 d, .slice a n cap] w fun e w' => e = .returned (.int .i64 (rowV u d xs)) ∧ Below w.heap.size w w' := by
  have hl := Lib.hid h.1
  have H := Lib.hid h
  have HA := Lib.hid hA
  clear h hA
  have hv : rowV u d xs = nth (rowL u d xs (n - 1)) 0 := by rw [rowV, hl.out]
  have Hv := Lib.hid hv
  clear hv
  go_enter Try.func90, Try.ntmps90
  go_wp2_with fail
  refine (impl_copied _ _ _ xs _ (by omega) hc H.out).mono ?_
  rintro e w1 ⟨v, rfl, ho, hb⟩
  go_wp2_with fail
  go_loopw [7] (fun v7 wr => ∃ k : Nat, k + 1 ≤ n ∧ Own wr w.heap.size v7 (rowL u d xs k) ∧ Below w.heap.size w wr) (fun v7 _ => match v7 with | .slice _ m _ => m | _ => 0)
  case atStart => exact ⟨0, hn.1, ho, hb⟩
  case round =>
    obtain ⟨k, hk, hown, hbel⟩ := hrel
    clear ho hb
    obtain ⟨wo, rfl⟩ : ∃ wo : World, wo = wr := ⟨_, rfl⟩
    obtain ⟨g, cp, rfl, hg1, hg2⟩ := hown.form (by rw [rowL_length, hl.out]; omega)
    obtain ⟨L, hL⟩ : ∃ L, L = n - k := ⟨_, rfl⟩
    have hlen : (rowL u d xs k).length = L := by rw [rowL_length, hl.out, hL]
    rw [hlen] at hown ⊢
    have hbd := HA.out.row4 (u := u) (d := d) (by omega) (by omega) k (by omega)
    have hL2 : 1 ≤ L ∧ L ≤ 5 := by omega
    obtain ⟨ys, hys⟩ : ∃ ys, ys = rowL u d xs k := ⟨_, rfl⟩
    have hst : rowL u d xs (k + 1) = stepR u d ys := by rw [hys]; rfl
    rw [← hys] at hown hbd hlen
    have Hown := Lib.hid hown
    have Hlen := Lib.hid hlen
    have Hys := Lib.hid hys
    have Hst := Lib.hid hst
    have Hbd := Lib.hid hbd
    have HL := Lib.hid hL
    clear hown hlen hys hst hbd hL
    by_cases hlt : (L : Int) > 1
    · go_wp2_with fail
      have hnil := own_nil0 wo
      have hb1 := below_new wo (.cells #[] 3)
      generalize (wo.alloc (.cells #[] 3)) = w0 at *
      go_loopw [8, 19] (fun v8 v19 wr => ∃ i : Nat, i + 1 ≤ L ∧ v19 = .int .i64 (i : Int) ∧ Own wr wo.heap.size v8 ((List.range i).map fun i => nth ys (i + 1) * d + nth ys i * u) ∧ Below wo.heap.size wo wr) (fun _ v19 _ => L - (intOf v19).toNat)
      case atStart => exact ⟨0, by omega, rfl, hnil, hb1⟩
      case round =>
        obtain ⟨i, hi, rfl, hownI, hbelI⟩ := hrel
        clear hnil hb1
        by_cases hli : (i : Int) < (L : Int) - 1
        · have c0 := (Hown.out.below hbelI).cell (i := i) (by have := Hlen.out; omega)
          have c1 := (Hown.out.below hbelI).cell (i := i + 1) (by have := Hlen.out; omega)
          have b0 := Hbd.out i
          have b1 := Hbd.out (i + 1)
          have m0 := mul_abs (B := 104871024) (U := 9) b0 (show 0 ≤ u ∧ u ≤ 9 by omega) (by omega)
          have m1 := mul_abs (B := 104871024) (U := 9) b1 (show 0 ≤ d ∧ d ≤ 9 by omega) (by omega)
          have hnx : ((List.range (i + 1)).map fun i => nth ys (i + 1) * d + nth ys i * u) = ((List.range i).map fun i => nth ys (i + 1) * d + nth ys i * u) ++ [nth ys (i + 1) * d + nth ys i * u] := by rw [List.range_succ, List.map_append]; rfl
          generalize nth ys (i + 1) = y at *
          generalize nth ys i = x at *
          have Hnx := Lib.hid hnx
          clear hnx
          have k1 : IntKind.i64.wrap (y * d) = y * d := IntWalk.i64_in _ (by omega)
          have k2 : IntKind.i64.wrap (x * u) = x * u := IntWalk.i64_in _ (by omega)
          have k3 : IntKind.i64.wrap (y * d + x * u) = y * d + x * u := IntWalk.i64_in _ (by omega)
          have k4 : IntKind.i64.wrap ((i : Int) + 1) = (i : Int) + 1 := IntWalk.i64_in _ (by omega)
          have k5 : (0 : Int) ≤ (i : Int) + 1 := by omega
          have k6 : (i : Int) + 1 < (L : Int) := by omega
          have k7 : (0 : Int) ≤ (i : Int) := by omega
          have k8 : (i : Int) < (L : Int) := by omega
          have hle : wo.heap.size ≤ wr.heap.size := hbelI.size
          have HownI := Lib.hid hownI
          have HbelI := Lib.hid hbelI
          clear hownI hbelI b0 b1 m0 m1
          go_wp2_with fail
          go_region_held3 (fun w' => w'.cell? ⟨g, i, none⟩ = some (.int .i64 x) ∧ w'.cell? ⟨g, i + 1, none⟩ = some (.int .i64 y))
            (first | go_keep | (go_split_ands; exact ⟨(hb.cell (p := ⟨g, i, none⟩) (by omega)).trans c0, (hb.cell (p := ⟨g, i + 1, none⟩) (by omega)).trans c1⟩))
            ((refine step_push (by rfl) _ _ (by rfl) wo.heap.size _ _ (by rfl) HownI.out (by rfl) (by simp; omega) hle ?_; intro v' w' ho hb))
          go_wp2_with fail
          go_roundw
          case rel => exact ⟨i + 1, by omega, by go_num, by rw [Hnx.out]; exact ho, HbelI.out.trans hb⟩
          case measure => simp [intOf]; omega
        · have hiv : ((List.range i).map fun i => nth ys (i + 1) * d + nth ys i * u) = rowL u d xs (k + 1) := by
            rw [Hst.out, stepR, Hlen.out, show L - 1 = i by omega]
          rw [hiv] at hownI
          have Hml : Hid ((rowL u d xs (k + 1)).length = L - 1) := Lib.hid (by rw [rowL_length, hl.out]; have := HL.out; omega)
          obtain ⟨aa, cp2, rfl⟩ := hownI.shape
          have HownI := Lib.hid (hownI.mono hbel.size)
          clear hiv hownI
          rw [Hml.out] at HownI ⊢
          have hkl : k + 1 + 1 ≤ n := by have := HL.out; omega
          go_wp2_with fail
          go_roundw
          case rel => exact ⟨k + 1, hkl, HownI.out, hbel.trans (hbelI.mono hbel.size)⟩
          case measure => show L - 1 < L; omega
    · have hL1 : L = 1 := by omega
      have hk1 : n - 1 = k := by have := HL.out; omega
      have c0 := Hown.out.cell (i := 0) (by have := Hlen.out; omega)
      have Hc : Hid (rowV u d xs = nth ys 0) := Lib.hid (by rw [Hv.out, Hys.out, hk1])
      subst hL1
      clear hk1
      go_wp2_with fail
      go_ret
      exact ⟨ri Hc.out.symm, hbel⟩
end Go.Proofs.Ytehmaedifbnnhaa
