/- Contracts: walks by their returns (under way). -/
import Derived.Test.YtbekfpgpeaoifaaLead
import Derived.Test.YtbekfpgpeaoifaaTally
import Derived.Test.YtbekfpgpeaoifaaTabW
namespace Go.Proofs.Ytbekfpgpeaoifaa
open Go.RowKit

theorem hasV_empty (w : World) (base : Nat) (hb : base ≤ w.heap.size) : OwnSS (w.alloc (.cells #[] 35)) base (.slice (some ⟨w.heap.size, 0, none⟩) 0 0) [] [] :=
  ⟨rfl, World.ownsRow_lit (size := 1) (e := 35) w #[] 0 hb (by simp [maxLen]) (by simp), fun i hi => by simp at hi, fun i j hi => by simp at hi⟩
theorem tab_zero_succ (a nc : Nat) : tabF (a + 1) nc (fun _ _ => 0) = tabF a nc (fun _ _ => 0) ++ [List.replicate nc 0] := by
  unfold tabF
  rw [List.range_succ, List.map_append]
  simp [List.map_const']
set_option maxRecDepth 100000 in
set_option maxHeartbeats 1000000 in
theorem spec_l5Blank (m : Int) (k : Nat) (w : World) (hk : k ≤ 15) (hm : m = 2 * (k : Int)) : Calls Try.prog 81 #[.int .i64 m] w fun e w' => ∃ v, e = .returned v ∧ TabW w' w.heap.size v (4 * k + 1) (k + 2) (fun _ _ => 0) ∧ Below w.heap.size w w' := by
  have hE := hasV_empty w w.heap.size (Nat.le_refl _)
  have hb0 := below_new w (.cells #[] 35)
  have hq : m.tdiv 2 = (k : Int) := by rw [hm, Int.tdiv_eq_ediv_of_nonneg (by omega)]; omega
  have hmk := mk_lit ((k : Int) + 2) (k + 2) rfl (by omega)
  have k0 : ¬ (2 : Int) = 0 := by omega
  have Hm := Lib.hid hm
  have hm0 : 0 ≤ m ∧ m ≤ 30 := by omega
  clear hm
  go_enter Try.func81, Try.ntmps81
  go_wp2_with fail
  generalize (w.alloc (.cells #[] 35)) = w0 at *
  go_loopw [3, 4] (fun v3 v4 wr => ∃ (a : Nat) (vs : List Value), a ≤ 4 * k + 1 ∧ v4 = .int .i64 (a : Int) ∧ OwnSS wr w.heap.size v3 vs (tabF a (k + 2) (fun _ _ => 0)) ∧ Below w.heap.size w wr) (fun _ v4 _ => 4 * k + 1 - (intOf v4).toNat)
  case atStart => exact ⟨0, [], Nat.zero_le _, rfl, hE, hb0⟩
  case round =>
    clear hE hb0
    obtain ⟨a, vs, ha, rfl, hown, hbel⟩ := hrel
    obtain ⟨wo, rfl⟩ : ∃ wo : World, wo = wr := ⟨_, rfl⟩
    have k1 : IntKind.i64.wrap (2 * m) = 2 * m := IntWalk.i64_in _ (by omega)
    by_cases hlt : (a : Int) ≤ 2 * m
    · have hsz := hbel.size
      have hlen := hown.len
      rw [tabF_length] at hlen
      have hz := Own.zeros wo wo.heap.size (k + 2) (Nat.le_refl _) (by simp only [maxLen]; omega)
      have hbz := below_new wo (.cells (zv (k + 2)) 3)
      have hownZ := hown.below hbz
      have hak : a < 4 * k + 1 := by have := Hm.out; omega
      have Hown := Lib.hid hown
      have HownZ := Lib.hid hownZ
      have Hz := Lib.hid hz
      have Hlen := Lib.hid hlen
      clear hown hownZ hz hlen
      have hbz2 := hbz.trans ((below_new (wo.alloc (.cells (zv (k + 2)) 3)) (.cells #[.slice (some ⟨wo.heap.size, 0, none⟩) (k + 2) (k + 2)] 35)).mono hbz.size)
      have ownS := Lib.hid (Hown.out.below hbz2)
      have ownU := Lib.hid (Hz.out.below (below_new (wo.alloc (.cells (zv (k + 2)) 3)) (.cells #[.slice (some ⟨wo.heap.size, 0, none⟩) (k + 2) (k + 2)] 35)))
      have Hcx : Hid (((wo.alloc (.cells (zv (k + 2)) 3)).alloc (.cells #[.slice (some ⟨wo.heap.size, 0, none⟩) (k + 2) (k + 2)] 35)).cell? ⟨wo.heap.size + 1, 0, none⟩ = some (.slice (some ⟨wo.heap.size, 0, none⟩) (k + 2) (k + 2))) := Lib.hid (by rw [World.cell?_alloc_at _ _ _ _ (by simp)]; rfl)
      have hbelZ := hbel.trans (hbz2.mono hsz)
      have hap : Hid (∀ q, q < vs.length → (Value.slice (some ⟨wo.heap.size, 0, none⟩) (k + 2) (k + 2)).ownBlock = none ∨ (Value.slice (some ⟨wo.heap.size, 0, none⟩) (k + 2) (k + 2)).ownBlock ≠ (vnth vs q).ownBlock) := Lib.hid fun q hq => by
        refine .inr fun e => ?_
        have h2 := (World.ownsRow.lt (Hown.out.rows q hq) wo.heap.size (by rw [← e]; rfl)).2
        omega
      clear hbz hbz2
      go_wp2_with (at_builtin; refine wp_appV _ _ rfl rfl w.heap.size _ vs _ rfl rfl ownS.out.outer (wo.heap.size + 1) rfl Hcx.out (by have := Hlen.out; omega) (by simp; omega) ?_; intro v' w' ho hg)
      go_roundw
      case rel =>
        refine ⟨a + 1, vs ++ [.slice (some ⟨wo.heap.size, 0, none⟩) (k + 2) (k + 2)], by omega, by go_num, ?_, ?_⟩
        · rw [tab_zero_succ]
          exact OwnSS.push ownS.out (ownU.out.mono hsz) hap.out ho hg
        · exact hbelZ.grown hg (by simp; omega) (fun kk hk => (World.ownsRow.lt ownS.out.outer kk hk).1)
      case measure => simp [intOf]; omega
    · have hak : a = 4 * k + 1 := by have := Hm.out; omega
      subst hak
      go_wp2_with fail
      go_ret
      exact ⟨_, rfl, ⟨_, hown⟩, hbel⟩
end Go.Proofs.Ytbekfpgpeaoifaa
