/- Contracts: arguments drawn for ruin and for stakes. -/
import Derived.Test.YtbekfpgpeaoifaaCur3
namespace Go.Proofs.Ytbekfpgpeaoifaa
open Go.RowKit

/-- A new cursor. -/
theorem Cur.new {w : World} {a : Option Addr} {n cap : Nat} (t : TypeId) (h : Bytes w a n) : Cur (w.alloc (.cells #[.slice a n cap, .int .i64 0, .int .u64 0] t)) w.heap.size a n cap 0 :=
  ⟨h.below ((Below.refl _ _).alloc (Nat.le_refl _) _), fun hn b off he => by
      obtain ⟨b', off', he', hlt, _⟩ := h.2 hn
      rw [he] at he'
      injection he' with e
      injection e with e1
      omega,
    by rw [World.cell?_alloc_at _ _ _ _ rfl]; rfl, ⟨0, by rw [World.cell?_alloc_at _ _ _ _ rfl]; rfl, by omega, by omega⟩, ⟨0, by rw [World.cell?_alloc_at _ _ _ _ rfl]; rfl⟩, World.frozen?_alloc_at _ _ _ _ rfl, World.frozen?_alloc_at _ _ _ _ rfl⟩
theorem below_cur {w w' : World} {o : Obj} (hg : (w.alloc o).grownBy w' (some w.heap.size)) : Below w.heap.size w w' :=
  ((Below.refl _ _).alloc (Nat.le_refl _) o).grown hg (by simp) fun k hk => by cases hk; exact Nat.le_refl _
theorem Ints.other {w w' : World} {a : Option Addr} {n g : Nat} {xs : List Int} (h : Ints w a n xs) (hg : w.grownBy w' (some g)) (hne : ∀ p, a = some p → p.block ≠ g) : Ints w' a n xs :=
  ⟨h.1, fun hn => by
    obtain ⟨b, off, rfl, hb, hc⟩ := h.2 hn
    exact ⟨b, off, rfl, Nat.lt_of_lt_of_le hb hg.size, fun j hj => (World.cell?_of_block (a := ⟨b, off + j, none⟩) (hg.block b hb (by simpa using hne _ rfl))).trans (hc j hj)⟩⟩
theorem Ints.first {w : World} {a : Option Addr} {n k : Nat} {xs : List Int} (h : Ints w a n xs) (hk : k ≤ n) : Ints w a k (xs.take k) :=
  ⟨by rw [List.length_take, h.1]; omega, fun h0 => by
    obtain ⟨b, off, rfl, hb, hc⟩ := h.2 (by omega)
    exact ⟨b, off, rfl, hb, fun j hj => by rw [hc j (by omega)]; simp [nth, List.getD, hj]⟩⟩
set_option maxHeartbeats 1000000 in
theorem spec_DrawRuinSteps (a : Option Addr) (n cap : Nat) (w : World) (h : Bytes w a n) :
    Calls Try.prog 44 #[.slice a n cap] w fun e w' => (∃ x1 x2 x3 x4 x5 : Int, e = .returned (.tuple #[.int .i64 x1, .int .i64 x2, .int .i64 x3, .int .i64 x4, .int .i64 x5])) ∧ Below w.heap.size w w' := by
  have hc := Lib.hid (Cur.new (w := w) (cap := cap) 61 h)
  have hg := Lib.hid (World.grownBy.refl (w.alloc (.cells #[.slice a n cap, .int .i64 0, .int .u64 0] 61)) (some w.heap.size))
  go_enter Try.func44, Try.ntmps44
  go_wp2_with fail
  generalize hw0 : (w.alloc (.cells #[.slice a n cap, .int .i64 0, .int .u64 0] 61)) = w0 at *
  have Hw0 := Lib.hid hw0
  clear hw0
  refine (spec_odds5 w.heap.size a n cap 0 _ (by omega) hc.out).mono ?_
  rintro e w1 ⟨⟨x1, x2, rfl⟩, c1, g1⟩
  have C1 := Lib.hid c1
  have G1 := Lib.hid g1
  clear c1 g1
  go_wp2_with fail
  refine (spec_goal5 w.heap.size a n cap (0 + 10) _ (by omega) C1.out).mono ?_
  rintro e w2 ⟨⟨x3, x4, rfl⟩, c2, g2⟩
  have C2 := Lib.hid c2
  have G2 := Lib.hid (G1.out.trans g2)
  clear c2 g2
  go_wp2_with fail
  have hi0 := ints_lit w2 [3, 4, 2, 5, 0, 8, 9, -1] #[.int .i64 3, .int .i64 4, .int .i64 2, .int .i64 5, .int .i64 0, .int .i64 8, .int .i64 9, .int .i64 (-1)] 8 rfl rfl
  refine (spec_pick w.heap.size a n cap (0 + 10 + 20) _ _ (by omega) (by omega) (C2.out.lit _)).mono ?_
  rintro e w3 ⟨⟨x, rfl, hx0, hx1⟩, c3, g3⟩
  have hne : w2.heap.size ≠ w.heap.size := by have := C2.out.lt; omega
  have hi3 := hi0.other g3 (fun p hp => by cases hp; exact hne)
  have C3 := Lib.hid c3
  have G3 := Lib.hid ((G2.out.trans (World.grownBy_alloc w2 _ _)).trans g3)
  have Hi := Lib.hid hi3
  clear c3 g3 hi0 hi3
  have hx2 : x < 24 := by omega
  obtain ⟨k, hk, hk6⟩ : ∃ k : Nat, 6 + x / 11 = (k : Int) ∧ (k = 6 ∨ k = 7 ∨ k = 8) := ⟨(6 + x / 11).toNat, by omega, by omega⟩
  have k1 : IntKind.i64.wrap (6 + x / 11) = k := by rw [hk]; exact IntWalk.i64_in _ (by omega)
  go_wp2_with fail
  have hi4 := (Hi.out.first (k := k) (by omega))
  refine (spec_among w.heap.size a n cap (0 + 10 + 20 + 2) _ k 8 _ _ (by omega) (by omega) hi4 (fun p hp => by cases hp; exact hne) C3.out).mono ?_
  rintro e w4 ⟨⟨i, hi, rfl⟩, c4, g4⟩
  generalize nth _ i = x5
  have G4 := Lib.hid (G3.out.trans g4)
  clear c4 g4 hi4
  go_wp2_with fail
  refine bodyPost_ret (v := .tuple #[.int .i64 x1, .int .i64 x2, .int .i64 x3, .int .i64 x4, .int .i64 x5]) (by simp [results, Try.results44, go_sem]) rfl ⟨⟨_, _, _, _, _, rfl⟩, ?_⟩
  have := G4.out
  rw [← Hw0.out] at this
  exact below_cur this
theorem spec_DrawTimidTable (a : Option Addr) (n cap : Nat) (w : World) (h : Bytes w a n) :
    Calls Try.prog 47 #[.slice a n cap] w fun e w' => (∃ x1 x2 x3 x4 : Int, e = .returned (.tuple #[.int .i64 x1, .int .i64 x2, .int .i64 x3, .int .i64 x4])) ∧ Below w.heap.size w w' := by
  go_enter Try.func47, Try.ntmps47
  go_wp2_with fail
  refine (spec_DrawRuinSteps a n cap _ h).mono ?_
  rintro e w1 ⟨⟨x1, x2, x3, x4, x5, rfl⟩, b1⟩
  go_wp2_with fail
  exact bodyPost_ret (v := .tuple #[.int .i64 x1, .int .i64 x2, .int .i64 x4, .int .i64 x5]) (by simp [results, Try.results47, go_sem]) rfl ⟨⟨_, _, _, _, rfl⟩, b1⟩
theorem spec_DrawBestStakeTable (a : Option Addr) (n cap : Nat) (w : World) (h : Bytes w a n) :
    Calls Try.prog 8 #[.slice a n cap] w fun e w' => (∃ x1 x2 x3 x4 : Int, e = .returned (.tuple #[.int .i64 x1, .int .i64 x2, .int .i64 x3, .int .i64 x4])) ∧ Below w.heap.size w w' := by
  go_enter Try.func8, Try.ntmps8
  go_wp2_with fail
  refine (spec_DrawTimidTable a n cap _ h).mono ?_
  rintro e w1 ⟨⟨x1, x2, x3, x4, rfl⟩, b1⟩
  go_wp2_with fail
  exact bodyPost_ret (v := .tuple #[.int .i64 x1, .int .i64 x2, .int .i64 x3, .int .i64 x4]) (by simp [results, Try.results8, go_sem]) rfl ⟨⟨_, _, _, _, rfl⟩, b1⟩
theorem spec_DrawRuinChance (a : Option Addr) (n cap : Nat) (w : World) (h : Bytes w a n) :
    Calls Try.prog 39 #[.slice a n cap] w fun e w' => (∃ x1 x2 x3 x4 : Int, e = .returned (.tuple #[.int .i64 x1, .int .i64 x2, .int .i64 x3, .int .i64 x4])) ∧ Below w.heap.size w w' := by
  have hc := Lib.hid (Cur.new (w := w) (cap := cap) 61 h)
  go_enter Try.func39, Try.ntmps39
  go_wp2_with fail
  generalize hw0 : (w.alloc (.cells #[.slice a n cap, .int .i64 0, .int .u64 0] 61)) = w0 at *
  have Hw0 := Lib.hid hw0
  clear hw0
  refine (spec_odds5 w.heap.size a n cap 0 _ (by omega) hc.out).mono ?_
  rintro e w1 ⟨⟨x1, x2, rfl⟩, c1, g1⟩
  have C1 := Lib.hid c1
  have G1 := Lib.hid g1
  clear c1 g1
  go_wp2_with fail
  refine (spec_goal5 w.heap.size a n cap (0 + 10) _ (by omega) C1.out).mono ?_
  rintro e w2 ⟨⟨x3, x4, rfl⟩, c2, g2⟩
  have G2 := Lib.hid (G1.out.trans g2)
  clear c2 g2
  go_wp2_with fail
  refine bodyPost_ret (v := .tuple #[.int .i64 x1, .int .i64 x2, .int .i64 x3, .int .i64 x4]) (by simp [results, Try.results39, go_sem]) rfl ⟨⟨_, _, _, _, rfl⟩, ?_⟩
  have := G2.out
  rw [← Hw0.out] at this
  exact below_cur this
end Go.Proofs.Ytbekfpgpeaoifaa
