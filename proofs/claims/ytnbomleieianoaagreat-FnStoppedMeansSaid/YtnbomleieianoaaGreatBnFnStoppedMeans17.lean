/- Contracts and plain laws for the statement FnStoppedMeans, part 17. No conditions but those stated in each. -/
import Derived.Test.YtnbomleieianoaaGreatBnFnStoppedMeans1
import Derived.Deep.QuietTactic
import Derived.BigQuiet
import Derived.WalkSmall
import Derived.Deep.Draws
/- Contracts: the cursor that draws choices from bytes. -/
namespace Go.Proofs.YtnbomleieianoaaGreat
open Go.RowKit

/-- The slice (a, n) reads as bytes. -/
def Bytes (w : World) (a : Option Addr) (n : Nat) : Prop :=
  n ≤ 70000 ∧ (0 < n → ∃ b off, a = some ⟨b, off, none⟩ ∧ b < w.heap.size ∧ ∀ j, j < n → ∃ x : Int, w.cell? ⟨b, off + j, none⟩ = some (.int .u8 x) ∧ 0 ≤ x ∧ x ≤ 255)
theorem Bytes.below {w w' : World} {a : Option Addr} {n : Nat} (h : Bytes w a n) (hb : Below w.heap.size w w') : Bytes w' a n :=
  ⟨h.1, fun hn => by
    obtain ⟨b, off, rfl, hlt, hc⟩ := h.2 hn
    exact ⟨b, off, rfl, Nat.lt_of_lt_of_le hlt hb.size, fun j hj => by
      obtain ⟨x, h1, h2⟩ := hc j hj
      exact ⟨x, (hb.cell (p := ⟨b, off + j, none⟩) hlt).trans h1, h2⟩⟩⟩
/-- The block g holds a cursor over the bytes (a, n), that has come no farther than lim. -/
structure Cur (w : World) (g : Nat) (a : Option Addr) (n cap : Nat) (lim : Int) : Prop where
  code : Bytes w a n
  other : 0 < n → ∀ b off, a = some ⟨b, off, none⟩ → b ≠ g
  c0 : w.cell? ⟨g, 0, none⟩ = some (.slice a n cap)
  c1 : ∃ at' : Int, w.cell? ⟨g, 1, none⟩ = some (.int .i64 at') ∧ 0 ≤ at' ∧ at' ≤ lim
  c2 : ∃ s : Int, w.cell? ⟨g, 2, none⟩ = some (.int .u64 s)
  f1 : w.frozen? ⟨g, 1, none⟩ = false
  f2 : w.frozen? ⟨g, 2, none⟩ = false
theorem grown_set (w : World) (b i : Nat) (v : Value) : w.grownBy (w.setCell ⟨b, i, none⟩ v) (some b) :=
  ⟨rfl, rfl, rfl, by simp [World.setCell], fun k _ hk => Below.heap_setCell _ _ _ _ (fun e => hk (by simp [e]))⟩
theorem grown_drewN {w w' : World} {r : Option Nat} (h : w.grownBy w' r) (m : Nat) : w.grownBy (w'.drewN m) r := ⟨h.os, h.tape, h.output, h.size, h.block⟩
theorem Bytes.grown {w w' : World} {a : Option Addr} {n g : Nat} (h : Bytes w a n) (ho : 0 < n → ∀ b off, a = some ⟨b, off, none⟩ → b ≠ g) (hg : w.grownBy w' (some g)) : Bytes w' a n :=
  ⟨h.1, fun hn => by
    obtain ⟨b, off, rfl, hlt, hc⟩ := h.2 hn
    have hne := ho hn b off rfl
    refine ⟨b, off, rfl, Nat.lt_of_lt_of_le hlt hg.size, fun j hj => ?_⟩
    obtain ⟨x, h1, h2⟩ := hc j hj
    exact ⟨x, (World.cell?_of_block (a := ⟨b, off + j, none⟩) (hg.block b hlt (by simpa using hne))).trans h1, h2⟩⟩
theorem and_255 (E : Int) (h0 : 0 ≤ E) (h1 : E ≤ 18446744073709551615) : bits BinOp.and IntKind.u64 E 255 = E % 256 := by
  have h := bits_and_u64_nat E.toNat 255 (by omega) (by omega)
  rw [show (255 : Nat) = 2 ^ 8 - 1 from rfl, Nat.and_two_pow_sub_one_eq_mod, Int.toNat_of_nonneg h0] at h
  have h2 : ((E.toNat % 2 ^ 8 : Nat) : Int) = E % 256 := by omega
  exact h.trans h2
theorem byte_of (E : Int) : 0 ≤ wrap64 (bits BinOp.and IntKind.u64 (IntKind.u64.wrap E / 1099511627776) 255) ∧ wrap64 (bits BinOp.and IntKind.u64 (IntKind.u64.wrap E / 1099511627776) 255) ≤ 255 := by
  have hw : 0 ≤ IntKind.u64.wrap E ∧ IntKind.u64.wrap E ≤ 18446744073709551615 := by
    simp only [IntKind.wrap, IntKind.signed, IntKind.bits]; simp; omega
  rw [and_255 _ (by omega) (by omega)]
  unfold wrap64
  omega
/-- What next leaves. -/
theorem Cur.step {w : World} {g : Nat} {a : Option Addr} {n cap : Nat} {lim k s s' : Int} (m m' : Nat) (hb : Bytes w a n) (ho : 0 < n → ∀ b off, a = some ⟨b, off, none⟩ → b ≠ g)
    (h0 : w.cell? ⟨g, 0, none⟩ = some (.slice a n cap)) (h1 : w.cell? ⟨g, 1, none⟩ = some (.int .i64 k)) (h2 : w.cell? ⟨g, 2, none⟩ = some (.int .u64 s)) (f1 : w.frozen? ⟨g, 1, none⟩ = false) (f2 : w.frozen? ⟨g, 2, none⟩ = false) (hk0 : 0 ≤ k) (hk1 : k ≤ lim) :
    Cur ((((w.drewN m).setCell ⟨g, 1, none⟩ (.int .i64 (k + 1))).setCell ⟨g, 2, none⟩ (.int .u64 s')).drewN m') g a n cap (lim + 1) ∧
    w.grownBy ((((w.drewN m).setCell ⟨g, 1, none⟩ (.int .i64 (k + 1))).setCell ⟨g, 2, none⟩ (.int .u64 s')).drewN m') (some g) := by
  have hg0 : w.grownBy (w.drewN m) (some g) := ⟨rfl, rfl, rfl, Nat.le_refl _, fun _ _ _ => rfl⟩
  have hg := grown_drewN ((hg0.trans (grown_set (w.drewN m) g 1 (.int .i64 (k + 1)))).trans (grown_set _ g 2 (.int .u64 s'))) m'
  refine ⟨⟨hb.grown ho hg, ho, ?_, ⟨k + 1, ?_, by omega, by omega⟩, ⟨s', ?_⟩, ?_, ?_⟩, hg⟩
  · rw [World.cell?_drewN, World.cell?_setCell_other _ _ _ _ (by simp), World.cell?_setCell_other _ _ _ _ (by simp)]; exact h0
  · rw [World.cell?_drewN, World.cell?_setCell_other _ _ _ _ (by simp)]; exact cell_set (w := w.drewN m) h1
  · rw [World.cell?_drewN]; refine cell_set (v := .int .u64 s) ?_; rw [World.cell?_setCell_other _ _ _ _ (by simp)]; exact h2
  · simpa using f1
  · simpa using f2
set_option maxHeartbeats 1000000 in
theorem spec_next (g : Nat) (a : Option Addr) (n cap : Nat) (lim : Int) (w : World) (hl : lim ≤ 1000000) (h : Cur w g a n cap lim) :
    Calls Tryz.prog 148 #[.pointer (some ⟨g, 0, none⟩)] w fun e w' => (∃ x : Int, e = .returned (.int .i64 x) ∧ 0 ≤ x ∧ x ≤ 255) ∧ Cur w' g a n cap (lim + 1) ∧ w.grownBy w' (some g) := by
  obtain ⟨hb, ho, hc0, ⟨k, hc1, hk0, hk1⟩, ⟨s, hc2⟩, hf1, hf2⟩ := h
  have Hb := Lib.hid hb
  have Ho := Lib.hid ho
  clear hb ho
  by_cases hlt : k < (n : Int)
  · go_enter Tryz.func148, Tryz.ntmps148
    obtain ⟨b, off, rfl, hbb, hcc⟩ := Hb.out.2 (by omega)
    obtain ⟨x, hx, hx0, hx1⟩ := hcc k.toNat (by omega)
    clear hcc
    have k1 : (0 : Int) ≤ k := by omega
    have k2 : IntKind.i64.wrap (k + 1) = k + 1 := IntWalk.i64_in _ (by omega)
    go_wp2_with fail
    go_quiet (fail)
    go_wp2_with fail
    go_quiet (fail)
    go_wp2_with fail
    by_cases hle : k + 1 ≤ (n : Int)
    rotate_left
    · omega
    go_quiet (fail)
    go_wp2_with fail
    go_ret
    exact ⟨⟨x, rfl, hx0, hx1⟩, Cur.step _ _ Hb.out Ho.out hc0 hc1 hc2 hf1 hf2 hk0 hk1⟩
  · have k2 : IntKind.i64.wrap (k + 1) = k + 1 := IntWalk.i64_in _ (by omega)
    have hle : ¬ (k + 1 ≤ (n : Int)) := by omega
    go_enter Tryz.func148, Tryz.ntmps148
    go_wp2_with fail
    go_quiet (fail)
    go_wp2_with fail
    go_quiet (fail)
    go_wp2_with fail
    go_ret
    exact ⟨⟨_, rfl, byte_of _⟩, Cur.step _ _ Hb.out Ho.out hc0 hc1 hc2 hf1 hf2 hk0 hk1⟩
end Go.Proofs.YtnbomleieianoaaGreat

/- Contracts: choices drawn by the cursor. -/
namespace Go.Proofs.YtnbomleieianoaaGreat
open Go.RowKit

theorem Cur.mono {w : World} {g : Nat} {a : Option Addr} {n cap : Nat} {lim lim' : Int} (h : Cur w g a n cap lim) (hl : lim ≤ lim') : Cur w g a n cap lim' :=
  ⟨h.code, h.other, h.c0, by obtain ⟨k, h1, h2, h3⟩ := h.c1; exact ⟨k, h1, h2, by omega⟩, h.c2, h.f1, h.f2⟩
theorem Cur.lt {w : World} {g : Nat} {a : Option Addr} {n cap : Nat} {lim : Int} (h : Cur w g a n cap lim) : g < w.heap.size := World.block_lt_of_cell? w _ h.c0
theorem Cur.below {w w' : World} {g : Nat} {a : Option Addr} {n cap : Nat} {lim : Int} (h : Cur w g a n cap lim) (hb : Below w.heap.size w w') : Cur w' g a n cap lim :=
  ⟨h.code.below hb, h.other, (hb.cell (p := ⟨g, 0, none⟩) h.lt).trans h.c0, by obtain ⟨k, h1, h2⟩ := h.c1; exact ⟨k, (hb.cell (p := ⟨g, 1, none⟩) h.lt).trans h1, h2⟩,
    by obtain ⟨s, h1⟩ := h.c2; exact ⟨s, (hb.cell (p := ⟨g, 2, none⟩) h.lt).trans h1⟩, (hb.frozen (p := ⟨g, 1, none⟩) h.lt).trans h.f1, (hb.frozen (p := ⟨g, 2, none⟩) h.lt).trans h.f2⟩
theorem emod_in (x n : Int) (hn : 0 < n) : 0 ≤ x % n ∧ x % n < n := ⟨Int.emod_nonneg _ (by omega), Int.emod_lt_of_pos _ hn⟩
set_option maxHeartbeats 1000000 in
theorem spec_pick (g : Nat) (a : Option Addr) (n cap : Nat) (lim : Int) (m : Int) (w : World) (hl : lim ≤ 900000) (hm : m ≤ 1099511627776) (h : Cur w g a n cap lim) :
    Calls Tryz.prog 107 #[.pointer (some ⟨g, 0, none⟩), .int .i64 m] w fun e w' => (∃ x : Int, e = .returned (.int .i64 x) ∧ 0 ≤ x ∧ (x = 0 ∨ x < m)) ∧ Cur w' g a n cap (lim + 2) ∧ w.grownBy w' (some g) := by
  by_cases h1 : m ≤ 1
  · go_enter Tryz.func107, Tryz.ntmps107
    go_wp2_with fail
    go_ret
    exact ⟨⟨0, rfl, by omega, by omega⟩, h.mono (by omega), World.grownBy.refl _ _⟩
  · have hm0 : ¬ m = 0 := by omega
    by_cases h2 : m > 200
    · have H := Lib.hid h
      clear h
      go_enter Tryz.func107, Tryz.ntmps107
      go_wp2_with fail
      refine (spec_next g a n cap lim _ (by omega) H.out).mono ?_
      rintro e w1 ⟨⟨x, rfl, hx0, hx1⟩, c1, g1⟩
      have C1 := Lib.hid c1
      have G1 := Lib.hid g1
      clear c1 g1
      go_wp2_with fail
      refine (spec_next g a n cap (lim + 1) _ (by omega) C1.out).mono ?_
      rintro e w2 ⟨⟨y, rfl, hy0, hy1⟩, c2, g2⟩
      go_wp2_with fail
      go_ret
      have ht := emod_in (x * 256 + y) m (by omega)
      exact ⟨⟨_, rfl, ht.1, .inr ht.2⟩, c2.mono (by omega), G1.out.trans g2⟩
    · have H := Lib.hid h
      clear h
      go_enter Tryz.func107, Tryz.ntmps107
      go_wp2_with fail
      refine (spec_next g a n cap lim _ (by omega) H.out).mono ?_
      rintro e w1 ⟨⟨x, rfl, hx0, hx1⟩, c1, g1⟩
      go_wp2_with fail
      go_ret
      have ht := emod_in x m (by omega)
      exact ⟨⟨_, rfl, ht.1, .inr ht.2⟩, c1.mono (by omega), g1⟩
theorem spec_one (g : Nat) (a : Option Addr) (n cap : Nat) (lim : Int) (m : Int) (w : World) (hl : lim ≤ 900000) (hm : m ≤ 1099511627776) (h : Cur w g a n cap lim) :
    Calls Tryz.prog 87 #[.pointer (some ⟨g, 0, none⟩), .int .i64 m] w fun e w' => (∃ x : Bool, e = .returned (.bool x)) ∧ Cur w' g a n cap (lim + 2) ∧ w.grownBy w' (some g) := by
  go_enter Tryz.func87, Tryz.ntmps87
  go_wp2_with fail
  refine (spec_pick g a n cap lim m _ hl hm h).mono ?_
  rintro e w1 ⟨⟨x, rfl, hx0, hx1⟩, c1, g1⟩
  go_wp2_with fail
  go_ret
  exact ⟨⟨_, rfl⟩, c1, g1⟩
theorem spec_among (g : Nat) (a : Option Addr) (n cap : Nat) (lim : Int) (b : Option Addr) (k c : Nat) (xs : List Int) (w : World) (hl : lim ≤ 900000) (hk : 1 ≤ k ∧ k ≤ 1000) (hx : Ints w b k xs) (hne : ∀ p, b = some p → p.block ≠ g) (h : Cur w g a n cap lim) :
    Calls Tryz.prog 108 #[.pointer (some ⟨g, 0, none⟩), .slice b k c] w fun e w' => (∃ i : Nat, i < k ∧ e = .returned (.int .i64 (nth xs i))) ∧ Cur w' g a n cap (lim + 2) ∧ w.grownBy w' (some g) := by
  obtain ⟨bb, off, rfl, hlt, hc⟩ := hx.2 (by omega)
  have Hc := Lib.hid hc
  have hbg : bb ≠ g := hne _ rfl
  clear hc hx hne
  go_enter Tryz.func108, Tryz.ntmps108
  go_wp2_with fail
  refine (spec_pick g a n cap lim _ _ hl (by omega) h).mono ?_
  rintro e w1 ⟨⟨x, rfl, hx0, hx1⟩, c1, g1⟩
  have h1 := (World.cell?_of_block (a := ⟨bb, off + x.toNat, none⟩) (g1.block bb hlt (by simpa using hbg))).trans (Hc.out x.toNat (by omega))
  have C1 := Lib.hid c1
  have G1 := Lib.hid g1
  clear c1 g1
  go_wp2_with fail
  go_ret
  exact ⟨⟨x.toNat, by omega, rfl⟩, C1.out, G1.out⟩
end Go.Proofs.YtnbomleieianoaaGreat

/- Contracts: odds and goals drawn by the cursor. -/
namespace Go.Proofs.YtnbomleieianoaaGreat
open Go.RowKit

theorem ints_lit (w : World) (xs : List Int) (c : Array Value) (n : Nat) (hc : c.toList = cs xs) (hn : n = xs.length) : Ints (w.alloc (.cells c 3)) (some ⟨w.heap.size, 0, none⟩) n xs := by
  subst hn
  refine ⟨rfl, fun _ => ⟨_, _, rfl, by simp, fun j hj => ?_⟩⟩
  rw [World.cell?_alloc_at _ _ _ _ rfl, Nat.zero_add, ← cs_get? _ _ hj, ← hc]
  simp
theorem Cur.lit {w : World} {g : Nat} {a : Option Addr} {n cap : Nat} {lim : Int} (h : Cur w g a n cap lim) (o : Obj) : Cur (w.alloc o) g a n cap lim := h.below ((Below.refl _ _).alloc (Nat.le_refl _) o)
theorem Cur.ne {w : World} {g : Nat} {a : Option Addr} {n cap : Nat} {lim : Int} (h : Cur w g a n cap lim) : ∀ p, (some ⟨w.heap.size, 0, none⟩ : Option Addr) = some p → p.block ≠ g := by
  intro p hp
  cases hp
  have := h.lt
  show w.heap.size ≠ g
  omega
theorem among_lit (g : Nat) (a : Option Addr) (n cap : Nat) (lim : Int) (xs : List Int) (c : Array Value) (k : Nat) (w : World) (hl : lim ≤ 900000) (hc : c.toList = cs xs) (hk : k = xs.length) (hk1 : 1 ≤ k ∧ k ≤ 1000) (h : Cur w g a n cap lim) :
    Calls Tryz.prog 108 #[.pointer (some ⟨g, 0, none⟩), .slice (some ⟨w.heap.size, 0, none⟩) k k] (w.alloc (.cells c 3)) fun e w' => (∃ i : Nat, i < k ∧ e = .returned (.int .i64 (nth xs i))) ∧ Cur w' g a n cap (lim + 2) ∧ w.grownBy w' (some g) :=
  (spec_among g a n cap lim _ _ _ xs _ hl hk1 (ints_lit w xs c k hc hk) h.ne (h.lit _)).mono fun _ _ ⟨h1, h2, h3⟩ => ⟨h1, h2, (World.grownBy_alloc w _ _).trans h3⟩
end Go.Proofs.YtnbomleieianoaaGreat

/- Contracts: arguments drawn for ruin and for stakes. -/
namespace Go.Proofs.YtnbomleieianoaaGreat
open Go.RowKit

/-- A new cursor. -/
theorem Cur.new {w : World} {a : Option Addr} {n cap : Nat} (t : TypeId) (h : Bytes w a n) : Cur (w.alloc (.cells #[.slice a n cap, .int .i64 0, .int .u64 0] t)) w.heap.size a n cap 0 :=
  ⟨h.below ((Below.refl _ _).alloc (Nat.le_refl _) _), fun hn b off he => by
      obtain ⟨b', off', he', hlt, _⟩ := h.2 hn
      rw [he] at he'
      injection he' with e
      injection e with e1
      omega,
    by rw [World.cell?_alloc_at _ _ _ _ rfl]; rfl, ⟨0, by rw [World.cell?_alloc_at _ _ _ _ rfl]; rfl, by omega, by omega⟩, ⟨0, by rw [World.cell?_alloc_at _ _ _ _ rfl]; rfl⟩, World.frozen?_alloc_at _ _ _ _ rfl, World.frozen?_alloc_at _ _ _ _ rfl⟩
theorem below_cur {w w' : World} {o : Obj} (hg : (w.alloc o).grownBy w' (some w.heap.size)) : Below w.heap.size w w' :=
  ((Below.refl _ _).alloc (Nat.le_refl _) o).grown hg (by simp) fun k hk => by cases hk; exact Nat.le_refl _
theorem Ints.other {w w' : World} {a : Option Addr} {n g : Nat} {xs : List Int} (h : Ints w a n xs) (hg : w.grownBy w' (some g)) (hne : ∀ p, a = some p → p.block ≠ g) : Ints w' a n xs :=
  ⟨h.1, fun hn => by
    obtain ⟨b, off, rfl, hb, hc⟩ := h.2 hn
    exact ⟨b, off, rfl, Nat.lt_of_lt_of_le hb hg.size, fun j hj => (World.cell?_of_block (a := ⟨b, off + j, none⟩) (hg.block b hb (by simpa using hne _ rfl))).trans (hc j hj)⟩⟩
theorem Ints.first {w : World} {a : Option Addr} {n k : Nat} {xs : List Int} (h : Ints w a n xs) (hk : k ≤ n) : Ints w a k (xs.take k) :=
  ⟨by rw [List.length_take, h.1]; omega, fun h0 => by
    obtain ⟨b, off, rfl, hb, hc⟩ := h.2 (by omega)
    exact ⟨b, off, rfl, hb, fun j hj => by rw [hc j (by omega)]; simp [nth, List.getD, hj]⟩⟩
end Go.Proofs.YtnbomleieianoaaGreat
