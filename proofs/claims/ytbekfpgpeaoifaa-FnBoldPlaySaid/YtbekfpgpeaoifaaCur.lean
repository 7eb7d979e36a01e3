/- Contracts: the cursor that draws choices from bytes. -/
import Derived.Test.YtbekfpgpeaoifaaNum
import Derived.Deep.QuietTactic
import Derived.BigQuiet
import Derived.WalkSmall
import Derived.Deep.Draws
namespace Go.Proofs.Ytbekfpgpeaoifaa
open Go.RowKit

/-- The slice (a, n) reads as bytes. -/
def Bytes (w : World) (a : Option Addr) (n : Nat) : Prop :=
  n ≤ 70000 ∧ (0 < n → ∃ b off, a = some ⟨b, off, none⟩ ∧ b < w.heap.size ∧ ∀ j, j < n → ∃ x : Int, w.cell? ⟨b, off + j, none⟩ = some (.int .u8 x) ∧ 0 ≤ x ∧ x ≤ 255)
theorem Bytes.below {w w' : World} {a : Option Addr} {n : Nat} (h : Bytes w a n) (hb : Below w.heap.size w w') : Bytes w' a n :=
  ⟨h.1, fun hn => by
    obtain ⟨b, off, rfl, hlt, hc⟩ := h.2 hn
    exact ⟨b, off, rfl, Nat.lt_of_lt_of_le hlt hb.size, fun j hj => by
      obtain ⟨x, h1, h2⟩ := hc j hj
      exact ⟨x, (hb.cell (p := ⟨b, off + j, none⟩) hlt).trans h1, h2⟩⟩⟩
/-- The block g holds a cursor over the bytes (a, n), that has come no farther than lim. -/
structure Cur (w : World) (g : Nat) (a : Option Addr) (n cap : Nat) (lim : Int) : Prop where
  code : Bytes w a n
  other : 0 < n → ∀ b off, a = some ⟨b, off, none⟩ → b ≠ g
  c0 : w.cell? ⟨g, 0, none⟩ = some (.slice a n cap)
  c1 : ∃ at' : Int, w.cell? ⟨g, 1, none⟩ = some (.int .i64 at') ∧ 0 ≤ at' ∧ at' ≤ lim
  c2 : ∃ s : Int, w.cell? ⟨g, 2, none⟩ = some (.int .u64 s)
  f1 : w.frozen? ⟨g, 1, none⟩ = false
  f2 : w.frozen? ⟨g, 2, none⟩ = false
theorem grown_set (w : World) (b i : Nat) (v : Value) : w.grownBy (w.setCell ⟨b, i, none⟩ v) (some b) :=
  ⟨rfl, rfl, rfl, by simp [World.setCell], fun k _ hk => Below.heap_setCell _ _ _ _ (fun e => hk (by simp [e]))⟩
theorem grown_drewN {w w' : World} {r : Option Nat} (h : w.grownBy w' r) (m : Nat) : w.grownBy (w'.drewN m) r := ⟨h.os, h.tape, h.output, h.size, h.block⟩
theorem Bytes.grown {w w' : World} {a : Option Addr} {n g : Nat} (h : Bytes w a n) (ho : 0 < n → ∀ b off, a = some ⟨b, off, none⟩ → b ≠ g) (hg : w.grownBy w' (some g)) : Bytes w' a n :=
  ⟨h.1, fun hn => by
    obtain ⟨b, off, rfl, hlt, hc⟩ := h.2 hn
    have hne := ho hn b off rfl
    refine ⟨b, off, rfl, Nat.lt_of_lt_of_le hlt hg.size, fun j hj => ?_⟩
    obtain ⟨x, h1, h2⟩ := hc j hj
    exact ⟨x, (World.cell?_of_block (a := ⟨b, off + j, none⟩) (hg.block b hlt (by simpa using hne))).trans h1, h2⟩⟩
theorem and_255 (E : Int) (h0 : 0 ≤ E) (h1 : E ≤ 18446744073709551615) : bits BinOp.and IntKind.u64 E 255 = E % 256 := by
  have h := bits_and_u64_nat E.toNat 255 (by omega) (by omega)
  rw [show (255 : Nat) = 2 ^ 8 - 1 from rfl, Nat.and_two_pow_sub_one_eq_mod, Int.toNat_of_nonneg h0] at h
  have h2 : ((E.toNat % 2 ^ 8 : Nat) : Int) = E % 256 := by omega
  exact h.trans h2
theorem byte_of (E : Int) : 0 ≤ wrap64 (bits BinOp.and IntKind.u64 (IntKind.u64.wrap E / 1099511627776) 255) ∧ wrap64 (bits BinOp.and IntKind.u64 (IntKind.u64.wrap E / 1099511627776) 255) ≤ 255 := by
  have hw : 0 ≤ IntKind.u64.wrap E ∧ IntKind.u64.wrap E ≤ 18446744073709551615 := by
    simp only [IntKind.wrap, IntKind.signed, IntKind.bits]; simp; omega
  rw [and_255 _ (by omega) (by omega)]
  unfold wrap64
  omega
/-- What next leaves. -/
theorem Cur.step {w : World} {g : Nat} {a : Option Addr} {n cap : Nat} {lim k s s' : Int} (m m' : Nat) (hb : Bytes w a n) (ho : 0 < n → ∀ b off, a = some ⟨b, off, none⟩ → b ≠ g)
    (h0 : w.cell? ⟨g, 0, none⟩ = some (.slice a n cap)) (h1 : w.cell? ⟨g, 1, none⟩ = some (.int .i64 k)) (h2 : w.cell? ⟨g, 2, none⟩ = some (.int .u64 s)) (f1 : w.frozen? ⟨g, 1, none⟩ = false) (f2 : w.frozen? ⟨g, 2, none⟩ = false) (hk0 : 0 ≤ k) (hk1 : k ≤ lim) :
    Cur ((((w.drewN m).setCell ⟨g, 1, none⟩ (.int .i64 (k + 1))).setCell ⟨g, 2, none⟩ (.int .u64 s')).drewN m') g a n cap (lim + 1) ∧
    w.grownBy ((((w.drewN m).setCell ⟨g, 1, none⟩ (.int .i64 (k + 1))).setCell ⟨g, 2, none⟩ (.int .u64 s')).drewN m') (some g) := by
  have hg0 : w.grownBy (w.drewN m) (some g) := ⟨rfl, rfl, rfl, Nat.le_refl _, fun _ _ _ => rfl⟩
  have hg := grown_drewN ((hg0.trans (grown_set (w.drewN m) g 1 (.int .i64 (k + 1)))).trans (grown_set _ g 2 (.int .u64 s'))) m'
  refine ⟨⟨hb.grown ho hg, ho, ?_, ⟨k + 1, ?_, by omega, by omega⟩, ⟨s', ?_⟩, ?_, ?_⟩, hg⟩
  · rw [World.cell?_drewN, World.cell?_setCell_other _ _ _ _ (by simp), World.cell?_setCell_other _ _ _ _ (by simp)]; exact h0
  · rw [World.cell?_drewN, World.cell?_setCell_other _ _ _ _ (by simp)]; exact cell_set (w := w.drewN m) h1
  · rw [World.cell?_drewN]; refine cell_set (v := .int .u64 s) ?_; rw [World.cell?_setCell_other _ _ _ _ (by simp)]; exact h2
  · simpa using f1
  · simpa using f2
set_option maxHeartbeats 1000000 in
theorem spec_next (g : Nat) (a : Option Addr) (n cap : Nat) (lim : Int) (w : World) (hl : lim ≤ 1000000) (h : Cur w g a n cap lim) :
    Calls Try.prog 93 #[.pointer (some ⟨g, 0, none⟩)] w fun e w' => (∃ x : Int, e = .returned (.int .i64 x) ∧ 0 ≤ x ∧ x ≤ 255) ∧ Cur w' g a n cap (lim + 1) ∧ w.grownBy w' (some g) := by
  obtain ⟨hb, ho, hc0, ⟨k, hc1, hk0, hk1⟩, ⟨s, hc2⟩, hf1, hf2⟩ := h
  have Hb := Lib.hid hb
  have Ho := Lib.hid ho
  clear hb ho
  by_cases hlt : k < (n : Int)
  · go_enter Try.func93, Try.ntmps93
    obtain ⟨b, off, rfl, hbb, hcc⟩ := Hb.out.2 (by omega)
    obtain ⟨x, hx, hx0, hx1⟩ := hcc k.toNat (by omega)
    clear hcc
    have k1 : (0 : Int) ≤ k := by omega
    have k2 : IntKind.i64.wrap (k + 1) = k + 1 := IntWalk.i64_in _ (by omega)
    go_wp2_with fail
    go_quiet (fail)
    go_wp2_with fail
    go_quiet (fail)
    go_wp2_with fail
    by_cases hle : k + 1 ≤ (n : Int)
    rotate_left
    · omega
    go_quiet (fail)
    go_wp2_with fail
    go_ret
    exact ⟨⟨x, rfl, hx0, hx1⟩, Cur.step _ _ Hb.out Ho.out hc0 hc1 hc2 hf1 hf2 hk0 hk1⟩
  · have k2 : IntKind.i64.wrap (k + 1) = k + 1 := IntWalk.i64_in _ (by omega)
    have hle : ¬ (k + 1 ≤ (n : Int)) := by omega
    go_enter Try.func93, Try.ntmps93
    go_wp2_with fail
    go_quiet (fail)
    go_wp2_with fail
    go_quiet (fail)
    go_wp2_with fail
    go_ret
    exact ⟨⟨_, rfl, byte_of _⟩, Cur.step _ _ Hb.out Ho.out hc0 hc1 hc2 hf1 hf2 hk0 hk1⟩
end Go.Proofs.Ytbekfpgpeaoifaa
