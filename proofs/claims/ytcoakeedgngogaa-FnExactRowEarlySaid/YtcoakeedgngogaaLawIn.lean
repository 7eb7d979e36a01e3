/- Contracts of the helpers of the laws on arguments that are slices of slices of ints: their size, a copy of them, comparing them. -/
import Derived.Test.YtcoakeedgngogaaLawSS
import Derived.Test.YtcoakeedgngogaaLawI
namespace Go.Proofs.Ytcoakeedgngogaa
open Go.RowKit

/-- Small enough to be copied and compared. -/
def Mid (xss : List (List Int)) : Prop := xss.length ≤ 4294967296 ∧ ∀ i, i < xss.length → (row xss i).length ≤ 4294967296
set_option maxHeartbeats 1000000 in
theorem laws_eqIntSS_m (a b : Option Addr) (n ca cb : Nat) (xss : List (List Int)) (w : World) (hn : Mid xss) (ha : IntsSS w a n xss) (hb : IntsSS w b n xss) :
    Calls Try.prog 13 #[.slice a n ca, .slice b n cb] w fun e w' => e = .returned (.bool true) ∧ Below w.heap.size w w' := by
  have hlen := ha.1
  have Hlen := Lib.hid hlen
  have hn2 : n ≤ 4294967296 := by rw [← hlen]; exact hn.1
  have Hn := Lib.hid hn
  have Ha := Lib.hid ha
  have Hb := Lib.hid hb
  clear ha hb hlen hn
  go_enter Try.func13, Try.ntmps13
  go_wp2_with fail
  go_loopw [5] (fun v5 wr => ∃ i : Nat, i ≤ n ∧ v5 = .int .i64 i ∧ Below w.heap.size w wr) (fun v5 _ => n - (intOf v5).toNat)
  case atStart => exact ⟨0, Nat.zero_le _, rfl, Below.refl _ _⟩
  case round =>
    obtain ⟨i, hi, rfl, hbel⟩ := hrel
    by_cases hlt : (i : Int) < n
    · obtain ⟨ba, oa, rfl, hba, hca⟩ := (Ha.out.below hbel).2 (by omega)
      obtain ⟨bb, ob, rfl, hbb, hcb⟩ := (Hb.out.below hbel).2 (by omega)
      obtain ⟨a1, c1, h1, i1⟩ := hca i (by omega)
      obtain ⟨a2, c2, h2, i2⟩ := hcb i (by omega)
      have hl := Hn.out.2 i (by have := Hlen.out; omega)
      have Hl := Lib.hid hl
      have I1 := Lib.hid i1
      have I2 := Lib.hid i2
      clear hca hcb i1 i2 hl
      go_wp2_with fail
      go_quiet ((go_at_call 25; exact Calls.quiet_of (laws_eqIntS_q _ _ _ _ _ (row xss i) _ (by have := Hl.out; omega) I1.out I2.out)))
      go_wp2_with fail
      go_roundw
      case rel => exact ⟨i + 1, by omega, by go_num, below_drewN hbel _⟩
      case measure => simp [intOf]; omega
    · go_wp2_with fail
      go_ret
      exact ⟨rfl, hbel⟩
set_option maxHeartbeats 400000 in
theorem laws_szIntSS (ad : Option Addr) (n cap : Nat) (xss : List (List Int)) (w : World) (hn : n ≤ maxLen) (hr : ∀ j, j < n → (row xss j).length ≤ maxLen) (h : IntsSS w ad n xss) :
    Calls Try.prog 8 #[.slice ad n cap, .int .i64 1048576] w fun e w' => IsLeft e 1048576 (n ≤ 1048576 ∧ ∀ j, j < n → (row xss j).length ≤ 1048576) ∧ w = w' := by
  have hm : maxLen = 9223372036854775807 := rfl
  rw [hm] at hn
  have H := Lib.hid h
  have Hr := Lib.hid hr
  clear h hr
  by_cases hneg : (1048576 : Int) - (n : Int) < 0
  · go_enter Try.func8, Try.ntmps8
    go_wp2_with fail
    go_ret
    exact ⟨isLeft_mk rfl (by omega) (by omega) (by omega), rfl⟩
  · go_enter Try.func8, Try.ntmps8
    go_wp2_with fail
    go_loop [1, 5] (fun v1 v5 => ∃ (i : Nat) (z : Int), i ≤ n ∧ v5 = .int .i64 (i : Int) ∧ v1 = .int .i64 z ∧ 0 ≤ z ∧ z ≤ 1048576 ∧ ∀ j, j < i → (row xss j).length ≤ 1048576) (fun _ v5 => n - (intOf v5).toNat)
    case atStart => exact ⟨0, _, Nat.zero_le _, rfl, rfl, by omega, by omega, fun j hj => by omega⟩
    case round =>
      obtain ⟨i, z, hi, rfl, rfl, hz0, hz1, hall⟩ := hrel
      have Hall := Lib.hid hall
      clear hall
      by_cases hlt : (i : Int) < n
      · obtain ⟨bo, oo, rfl, hbo, hcell⟩ := H.out.2 (by omega)
        obtain ⟨ar, cr, h1, hints⟩ := hcell i (by omega)
        clear hcell hints
        go_wp2_with fail
        refine (laws_szIntS _ _ _ z _ (Hr.out i (by omega)) hz0 hz1).mono ?_
        rintro e w1 ⟨⟨z', rfl, hz2, hz3, hz4⟩, rfl⟩
        have Hz2 := Lib.hid hz2
        clear hz2
        by_cases hzn : z' < 0
        · go_wp2_with fail
          go_ret
          exact ⟨isLeft_mk rfl (by omega) (by omega) (by omega), rfl⟩
        · go_wp2_with fail
          go_round
          case rel => exact ⟨i + 1, z', by omega, by go_num, rfl, by omega, by omega, fun j hj => by
            by_cases e : j = i
            · subst e; exact Hz2.out (by omega)
            · exact Hall.out j (by omega)⟩
          case measure => simp [intOf]; omega
      · go_wp2_with fail
        go_ret
        exact ⟨isLeft_mk rfl (fun _ => ⟨by omega, fun j hj => Hall.out j (by omega)⟩) (by omega) (by omega), rfl⟩
def nilv (n : Nat) : Array Value := madeCells #[.slice none 0 0] n
theorem mk_intss (n : Nat) (hn : n ≤ 4294967296) (w : World) :
    (Instr.makeSlice 22 (.int .i64 (n : Int)) (.int .i64 (n : Int))).run Try.prog w = .ok (.slice (some ⟨w.heap.size, 0, none⟩) n n) (w.alloc (.cells (nilv n) 31)) := by
  obtain ⟨i0, hi0, hz0, hz1, hz2⟩ := info_parts info_ints
  have hr := run_make (P := Try.prog) w 22 31 i0 (.slice none 0 0) Try.underlying22 hi0 hz0 .i64 .i64 (n : Int) (n : Int) (by omega) (by omega) (by rw [hz2]; omega) (by omega)
  simp only [Int.toNat_natCast, hz1, Nat.mul_one, Value.cells] at hr
  exact hr
/-- The first i rows, then empty ones. -/
def halfSS (xss : List (List Int)) (i : Nat) : List (List Int) := (List.range xss.length).map fun (j : Nat) => if j < i then row xss j else []
theorem halfSS_length (xss : List (List Int)) (i : Nat) : (halfSS xss i).length = xss.length := by simp [halfSS]
theorem row_halfSS (xss : List (List Int)) (i j : Nat) (h : j < xss.length) : row (halfSS xss i) j = if j < i then row xss j else [] := by unfold halfSS; rw [row_map_range h]
theorem halfSS_all (xss : List (List Int)) : halfSS xss xss.length = xss := ext_row (halfSS_length _ _) fun i hi => by
  rw [halfSS_length] at hi
  rw [row_halfSS _ _ _ hi, if_pos hi]
theorem halfSS_succ (xss : List (List Int)) (i : Nat) (h : i < xss.length) : halfSS xss (i + 1) = (halfSS xss i).set i (row xss i) := ext_row (by simp [halfSS]) fun j hj => by
  rw [halfSS_length] at hj
  rw [row_set (by rw [halfSS_length]; exact h), row_halfSS _ _ _ hj, row_halfSS _ _ _ hj]
  by_cases e : i = j
  · subst e; rw [if_pos (by omega), if_pos rfl]
  · rw [if_neg e]
    by_cases e2 : j < i
    · rw [if_pos e2, if_pos (by omega)]
    · rw [if_neg e2, if_neg (by omega)]
theorem ownSS_nils (w : World) (n : Nat) (hn : n ≤ maxLen) (xss : List (List Int)) (hl : xss.length = n) :
    OwnSS (w.alloc (.cells (nilv n) 31)) w.heap.size (.slice (some ⟨w.heap.size, 0, none⟩) n n) (List.replicate n (.slice none 0 0)) (halfSS xss 0) := by
  refine ⟨by rw [halfSS_length, List.length_replicate, hl], ?_, fun i hi => ?_, fun i j hi hj _ => ?_⟩
  · have := World.ownsRow_lit (size := 1) (e := 31) (base := w.heap.size) w (nilv n) n (Nat.le_refl _) hn (by rw [nilv, size_madeCells]; omega)
    rw [nilv, toList_madeCells_one] at this
    unfold OwnV
    rw [List.length_replicate]
    exact this
  · rw [List.length_replicate] at hi
    rw [row_halfSS _ _ _ (by omega), if_neg (by omega)]
    rw [show vnth (List.replicate n (.slice none 0 0)) i = .slice none 0 0 by simp [vnth, List.getD, hi]]
    exact Own.nil _ _
  · rw [List.length_replicate] at hi
    rw [show vnth (List.replicate n (.slice none 0 0)) i = .slice none 0 0 by simp [vnth, List.getD, hi]]
    exact .inl rfl
set_option maxHeartbeats 400000 in
theorem laws_toIntSS (ad : Option Addr) (n cap : Nat) (xss : List (List Int)) (w : World) (hn : Mid xss) (h : IntsSS w ad n xss) :
    Calls Try.prog 10 #[.slice ad n cap] w fun e w' => ∃ v, e = .returned v ∧ HasSS w' w.heap.size v xss ∧ Below w.heap.size w w' := by
  have hl := h.1
  have hn1 := hn.1
  have hn2 : n ≤ 4294967296 := by omega
  have hmk := mk_intss n (by omega)
  have h0 := Lib.hid (ownSS_nils w n (by have : maxLen = 9223372036854775807 := rfl; omega) xss hl)
  have hb0 : Below w.heap.size w (w.alloc (.cells (nilv n) 31)) := (Below.refl _ _).alloc (Nat.le_refl _) _
  have H := Lib.hid h
  have Hl := Lib.hid hl
  have Hn := Lib.hid hn.2
  clear h hl hn
  go_enter Try.func10, Try.ntmps10
  go_wp2_with fail
  generalize (w.alloc (.cells (nilv n) 31)) = w0 at *
  clear hmk
  go_loopw [4] (fun v4 wr => ∃ (i : Nat) (vs : List Value), i ≤ n ∧ v4 = .int .i64 (i : Int) ∧ OwnSS wr w.heap.size (.slice (some ⟨w.heap.size, 0, none⟩) n n) vs (halfSS xss i) ∧ Below w.heap.size w wr) (fun v4 _ => n - (intOf v4).toNat)
  case atStart => exact ⟨0, _, Nat.zero_le _, rfl, h0.out, hb0⟩
  case round =>
    obtain ⟨i, vs, hi, rfl, hown, hbel⟩ := hrel
    clear h0 hb0
    by_cases hlt : (i : Int) < n
    · obtain ⟨bo, oo, rfl, hbo, hcell⟩ := (H.out.below hbel).2 (by omega)
      obtain ⟨ar, cr, h1, hints⟩ := hcell i (by omega)
      have Hints := Lib.hid hints
      have Hown := Lib.hid hown
      clear hcell hints hown
      obtain ⟨wo, rfl⟩ : ∃ wo : World, wo = wr := ⟨_, rfl⟩
      go_wp2_with fail
      refine (laws_toIntS _ _ _ (row xss i) _ (Hn.out i (by have := Hl.out; omega)) Hints.out).mono ?_
      rintro e w1 ⟨u, rfl, hu, hb1⟩
      obtain ⟨au, cu, rfl⟩ := hu.shape
      have hvl := Hown.out.len
      rw [halfSS_length, Hl.out] at hvl
      have hap : ∀ j, j < vs.length → (Value.slice au (row xss i).length cu).ownBlock = none ∨ (Value.slice au (row xss i).length cu).ownBlock ≠ (vnth vs j).ownBlock := fun j hj => by
        cases hb : (Value.slice au (row xss i).length cu).ownBlock with
        | none => exact .inl rfl
        | some q =>
          refine .inr fun e => ?_
          have h1 := World.ownsRow.lt hu q hb
          have h2 := World.ownsRow.lt (Hown.out.rows j hj) q e.symm
          omega
      have ho1 := Hown.out.below hb1
      have hput := Lib.hid (ho1.put hvl.symm i (by omega) (hu.mono hbel.size) hap)
      have hcw : w1.cell? ⟨w.heap.size, i, none⟩ = some (vnth vs i) := ho1.outer.cell (by omega)
      have hf : w1.frozen? ⟨w.heap.size, i, none⟩ = false := by have := ho1.outer; unfold OwnV at this; rw [hvl] at this; exact World.ownsRow.frozenAt this i
      have Hb1 := Lib.hid (hbel.trans (hb1.mono hbel.size))
      have Hvl := Lib.hid hvl
      clear hap ho1 hb1 hbel hvl hu h1
      go_wp2_with fail
      go_roundw
      case rel => exact ⟨i + 1, _, by omega, by go_num, by rw [halfSS_succ _ _ (by have := Hl.out; omega)]; exact hput.out.1, Hb1.out.grown hput.out.2 Hb1.out.size (fun k hk => by cases hk; exact Nat.le_refl _)⟩
      case measure => simp [intOf]; omega
    · obtain rfl : i = n := by omega
      go_wp2_with fail
      go_ret
      have ha := halfSS_all xss
      rw [Hl.out] at ha
      rw [ha] at hown
      exact ⟨_, rfl, ⟨vs, hown⟩, hbel⟩
end Go.Proofs.Ytcoakeedgngogaa
