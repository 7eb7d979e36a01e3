/- The walk through the law FnBoldPlay: it returns true. No conditions but that the argument can be read. -/
import Derived.Test.YtbekfpgpeaoifaaPlBo
import Derived.Test.YtbekfpgpeaoifaaTabI
import Derived.Test.YtbekfpgpeaoifaaTabS2
import Derived.Test.YtbekfpgpeaoifaaStake1
import Derived.Test.YtbekfpgpeaoifaaStake2
import Derived.Test.YtbekfpgpeaoifaaDrawS
import Derived.Test.YtbekfpgpeaoifaaLawV
import Derived.Test.YtbekfpgpeaoifaaOpenB
import Derived.Test.YtbekfpgpeaoifaaCut
import Derived.Deep.DeepCutAuto
import Derived.Deep.CutRange
import Derived.Deep.QuietTactic
namespace Go.Proofs.Ytbekfpgpeaoifaa.fnBoldPlay
open Go.RowKit
set_option linter.unusedVariables false
theorem ss_at {w wr : World} {a : Option Addr} {n j : Nat} {xss : List (List Int)} (h : IntsSS w a n xss) (hb : Below w.heap.size w wr) (hj : j < n) : ∃ b off a' c', a = some ⟨b, off, none⟩ ∧ wr.cell? ⟨b, off + j, none⟩ = some (.slice a' (row xss j).length c') ∧ Ints wr a' (row xss j).length (row xss j) := by
  obtain ⟨b, off, rfl, _, hc⟩ := (h.below hb).2 (by omega)
  obtain ⟨a', c', h1, h2⟩ := hc j hj
  exact ⟨b, off, a', c', rfl, h1, h2⟩
theorem tab_yes {a b n k : Int} (h : tabOk a b n k = true) : ∃ N K : Nat, n = N ∧ k = K ∧ (1 ≤ a ∧ a ≤ 20) ∧ (1 ≤ b ∧ b ≤ 20) ∧ (1 ≤ N ∧ N ≤ 12) ∧ K ≤ 8 ∧ ∀ st : Nat → Nat → List Int, tabV st a b n k = tabL (st N) a b N K := by
  obtain ⟨h1, h2, h3, h4, h5⟩ := tabOk_t h
  obtain ⟨N, rfl⟩ : ∃ N : Nat, n = N := ⟨n.toNat, by omega⟩
  obtain ⟨K, rfl⟩ : ∃ K : Nat, k = K := ⟨k.toNat, by omega⟩
  exact ⟨N, K, rfl, rfl, h1, h2, by omega, by omega, fun st => by unfold tabV; rw [if_pos h]; simp⟩
theorem tab_mid (st : Nat → Nat → List Int) (a b n k : Int) : Mid (tabV st a b n k) ∧ (tabV st a b n k).length ≤ 9 ∧ ∀ j, (row (tabV st a b n k) j).length ≤ 13 := by
  have key : (tabV st a b n k).length ≤ 9 ∧ ∀ j, (row (tabV st a b n k) j).length ≤ 13 := by
    cases h : tabOk a b n k
    · unfold tabV; rw [h]; exact ⟨by simp, fun j => by simp [row]⟩
    · obtain ⟨N, K, rfl, rfl, -, -, h3, h4, h5⟩ := tab_yes h
      rw [h5]
      refine ⟨by rw [tabL_length]; omega, fun j => ?_⟩
      by_cases hj : j ≤ K
      · rw [row_tabL _ _ _ _ _ _ hj, tabRow_length]; omega
      · have : row (tabL (st N) a b N K) j = [] := by
          unfold row; rw [List.getD_eq_getElem?_getD, List.getElem?_eq_none (by rw [tabL_length]; omega)]; rfl
        rw [this]; simp
  exact ⟨⟨by omega, fun i _ => by have := key.2 i; omega⟩, key⟩
theorem tab_cmp {a b n k : Int} (h : tabOk a b n k = true) : ∃ R L : Nat, R ≤ 9 ∧ L ≤ 13 ∧ (tabV stF a b n k).length = R ∧ (tabV stB a b n k).length = R ∧ (tabV stT a b n k).length = R ∧
    ∀ j, j < R → (row (tabV stF a b n k) j).length = L ∧ (row (tabV stB a b n k) j).length = L ∧ (row (tabV stT a b n k) j).length = L ∧ ∀ i, i < L → nth (row (tabV stB a b n k) j) i ≤ nth (row (tabV stF a b n k) j) i ∧ nth (row (tabV stT a b n k) j) i ≤ nth (row (tabV stF a b n k) j) i ∧ (a ≤ b → nth (row (tabV stB a b n k) j) i = nth (row (tabV stF a b n k) j) i) := by
  obtain ⟨N, K, rfl, rfl, h1, h2, h3, h4, h5⟩ := tab_yes h
  rw [h5, h5, h5]
  refine ⟨K + 1, N + 1, by omega, by omega, tabL_length _ _ _ _ _, tabL_length _ _ _ _ _, tabL_length _ _ _ _ _, fun j hj => ?_⟩
  rw [row_tabL _ _ _ _ _ _ (by omega), row_tabL _ _ _ _ _ _ (by omega), row_tabL _ _ _ _ _ _ (by omega)]
  exact ⟨tabRow_length _ _ _ _ _, tabRow_length _ _ _ _ _, tabRow_length _ _ _ _ _, fun i hi => ⟨bold_le (by omega) (by omega) _ _ _, timid_le (by omega) (by omega) _ _ _, fun hab => bold_eq h1.1 hab h3.1 j (by omega)⟩⟩
theorem tab_self {a b n k : Int} (h : tabOk a b n k = true) : stakeV stF a b n (tabV stF a b n k) = true ∧ game a b n = true := by
  have hg : game a b n = true := by simp only [tabOk, Bool.and_eq_true] at h; exact h.1
  obtain ⟨N, K, rfl, rfl, h1, h2, h3, h4, h5⟩ := tab_yes h
  refine ⟨?_, hg⟩
  rw [stakeV, hg, h5, Int.toNat_natCast]
  exact best_safe (by omega) (by omega) (by omega) N h4
theorem tab_least {x y m : Int} {tss : List (List Int)} (h : stakeV stF x y m tss = true) : (1 ≤ tss.length ∧ tss.length ≤ 9) ∧ tabOk x y m ((tss.length : Int) - 1) = true ∧ (tabV stF x y m ((tss.length : Int) - 1)).length = tss.length ∧ ∃ L : Nat, L ≤ 13 ∧ ∀ j, j < tss.length → (row tss j).length = L ∧ (row (tabV stF x y m ((tss.length : Int) - 1)) j).length = L ∧ ∀ i, nth (row (tabV stF x y m ((tss.length : Int) - 1)) j) i ≤ nth (row tss j) i := by
  rw [stakeV, Bool.and_eq_true] at h
  obtain ⟨hg, hs⟩ := h
  have hg2 := game_t hg
  obtain ⟨M, rfl⟩ : ∃ M : Nat, m = M := ⟨m.toNat, by omega⟩
  rw [Int.toNat_natCast] at hs
  have hs0 := hs
  simp only [stakeOk, Bool.and_eq_true] at hs
  have hl := inB_t hs.1.1
  have hok : tabOk x y M ((tss.length : Int) - 1) = true := by
    unfold tabOk; rw [hg, inB_mk (by omega) (by omega)]; rfl
  obtain ⟨N, K, hN, hK, h1, h2, h3, h4, h5⟩ := tab_yes hok
  obtain rfl : M = N := by omega
  have hKl : K + 1 = tss.length := by omega
  refine ⟨by omega, hok, by rw [h5, tabL_length, hKl], M + 1, by omega, fun j hj => ?_⟩
  rw [h5, row_tabL _ _ _ _ _ _ (by omega)]
  have hr : rowOk M (row tss j) = true := by
    have := hs.1.2
    unfold rowsOk at this
    rw [List.all_eq_true] at this
    exact this j (List.mem_range.mpr hj)
  exact ⟨(rowOk_t hr).1, tabRow_length _ _ _ _ _, fun i => safe_ge (by omega) (by omega) hs0 j hj i⟩
set_option maxRecDepth 100000 in
set_option maxHeartbeats 4000000 in
theorem walk (a : Option Addr) (n c : Nat) (w : World) (hm : n ≤ maxLen) (hc : n ≤ c ∧ c ≤ maxLen ∧ (a = none → c = 0)) (h : Bytes0 w a n) :
    Calls Try.prog 3 #[.slice a n c] w fun e w' => e = .returned (.bool true) ∧ Below w.heap.size w w' := by
  clear hm
  by_cases hbig : (n : Int) > 65536
  · go_enter Try.func3, Try.ntmps3
    go_wp2_with (go_at_call 7; refine (laws_vBig _ _ _ _).mono ?_; rintro e w' ⟨rfl, rfl⟩; rw [decide_eq_true hbig])
    go_ret
    exact ⟨rfl, Below.refl _ _⟩
  · have HB := Lib.hid (h.few (by omega))
    have Hc := Lib.hid hc
    have Hnb := Lib.hid hbig
    clear h hc
    go_enter Try.func3, Try.ntmps3
    go_wp2_with (go_at_call 7; refine (laws_vBig _ _ _ _).mono ?_; rintro e w' ⟨rfl, rfl⟩; rw [decide_eq_false hbig])
    refine (spec_DrawBestStakeTable _ _ _ _ HB.out).mono ?_
    rintro e w1 ⟨⟨ra, rb, rn, rk, rfl⟩, b1⟩
    have HBB := Lib.hid b1
    have HB1 := Lib.hid (HB.out.below b1)
    obtain ⟨ok, hok⟩ : ∃ z, z = tabOk ra rb rn rk := ⟨_, rfl⟩
    obtain ⟨best, hbest⟩ : ∃ z, z = tabV stF ra rb rn rk := ⟨_, rfl⟩
    obtain ⟨bold, hbold⟩ : ∃ z, z = tabV stB ra rb rn rk := ⟨_, rfl⟩
    obtain ⟨timid, htimid⟩ : ∃ z, z = tabV stT ra rb rn rk := ⟨_, rfl⟩
    have E1 : Hid (∀ W, Calls Try.prog 9 #[.int .i64 ra, .int .i64 rb, .int .i64 rn, .int .i64 rk] W fun e w' => ∃ v, e = .returned (.tuple #[v, .bool ok]) ∧ HasSS w' W.heap.size v best ∧ Below W.heap.size W w') := Lib.hid fun W => by rw [hok, hbest]; exact impl_BestStakeTable ra rb rn rk W
    have E2 : Hid (∀ W, Calls Try.prog 10 #[.int .i64 ra, .int .i64 rb, .int .i64 rn, .int .i64 rk] W fun e w' => ∃ v, e = .returned (.tuple #[v, .bool ok]) ∧ HasSS w' W.heap.size v best ∧ Below W.heap.size W w') := Lib.hid fun W => by rw [hok, hbest]; exact spec_BestStakeTable ra rb rn rk W
    have E3 : Hid (∀ W, Calls Try.prog 11 #[.int .i64 ra, .int .i64 rb, .int .i64 rn, .int .i64 rk] W fun e w' => ∃ v, e = .returned (.tuple #[v, .bool ok]) ∧ HasSS w' W.heap.size v bold ∧ Below W.heap.size W w') := Lib.hid fun W => by rw [hok, hbold]; exact impl_BoldTable ra rb rn rk W
    have E4 : Hid (∀ W, Calls Try.prog 12 #[.int .i64 ra, .int .i64 rb, .int .i64 rn, .int .i64 rk] W fun e w' => ∃ v, e = .returned (.tuple #[v, .bool ok]) ∧ HasSS w' W.heap.size v bold ∧ Below W.heap.size W w') := Lib.hid fun W => by rw [hok, hbold]; exact spec_BoldTable ra rb rn rk W
    have E5 : Hid (∀ W, Calls Try.prog 13 #[.int .i64 ra, .int .i64 rb, .int .i64 rn, .int .i64 rk] W fun e w' => ∃ v, e = .returned (.tuple #[v, .bool ok]) ∧ HasSS w' W.heap.size v timid ∧ Below W.heap.size W w') := Lib.hid fun W => by rw [hok, htimid]; exact impl_TimidTable ra rb rn rk W
    have E6 : Hid (∀ W, Calls Try.prog 14 #[.int .i64 ra, .int .i64 rb, .int .i64 rn, .int .i64 rk] W fun e w' => ∃ v, e = .returned (.tuple #[v, .bool ok]) ∧ HasSS w' W.heap.size v timid ∧ Below W.heap.size W w') := Lib.hid fun W => by rw [hok, htimid]; exact spec_TimidTable ra rb rn rk W
    have HM1 := Lib.hid (hbest ▸ tab_mid stF ra rb rn rk : Mid best ∧ best.length ≤ 9 ∧ ∀ j, (row best j).length ≤ 13)
    have HM2 := Lib.hid (hbold ▸ tab_mid stB ra rb rn rk : Mid bold ∧ bold.length ≤ 9 ∧ ∀ j, (row bold j).length ≤ 13)
    have HM3 := Lib.hid (htimid ▸ tab_mid stT ra rb rn rk : Mid timid ∧ timid.length ≤ 9 ∧ ∀ j, (row timid j).length ≤ 13)
    have E7 : Hid (ok = true → ∀ W a0 n0 c0, IntsSS W a0 n0 best → n0 ≤ 1048576 → Calls Try.prog 17 #[.int .i64 ra, .int .i64 rb, .int .i64 rn, .slice a0 n0 c0] W fun e w' => e = .returned (.tuple #[.bool true, .bool true]) ∧ Below W.heap.size W w') := Lib.hid fun h1 W a0 n0 c0 hI hn => by
      have hx := tab_self (hok ▸ h1 : tabOk ra rb rn rk = true)
      have hz := impl_StakeProof ra rb rn a0 n0 c0 best W hn (fun j _ => by have := HM1.out.2.2 j; omega) hI
      rw [← hbest] at hx
      rw [hx.1, hx.2] at hz
      exact hz
    have PF : Hid (ok = true → ∃ R L : Nat, R ≤ 9 ∧ L ≤ 13 ∧ best.length = R ∧ bold.length = R ∧ timid.length = R ∧ ∀ j, j < R → (row best j).length = L ∧ (row bold j).length = L ∧ (row timid j).length = L ∧ ∀ i, i < L → nth (row bold j) i ≤ nth (row best j) i ∧ nth (row timid j) i ≤ nth (row best j) i ∧ (ra ≤ rb → nth (row bold j) i = nth (row best j) i)) := Lib.hid fun h1 => by
      have hx := tab_cmp (hok ▸ h1 : tabOk ra rb rn rk = true)
      rw [← hbest, ← hbold, ← htimid] at hx
      exact hx
    clear hok hbest hbold htimid b1
    go_wp2_with fail
    refine (E1.out _).mono ?_
    rintro e w2 ⟨v2, rfl, o2, b2⟩
    obtain ⟨abe, cbe, rfl⟩ := o2.shape
    have HB1_2 := Lib.hid (HB1.out.below b2)
    have HBB_2 := Lib.hid (HBB.out.trans (b2.mono HBB.out.size))
    clear b2 HB1 HBB
    have XB_2 := Lib.hid (o2)
    clear o2
    go_wp2_with fail
    refine (E2.out _).mono ?_
    rintro e w3 ⟨v3, rfl, o3, b3⟩
    obtain ⟨abe2, cbe2, rfl⟩ := o3.shape
    have HB1_3 := Lib.hid (HB1_2.out.below b3)
    have XB_3 := Lib.hid (XB_2.out.below b3)
    have HBB_3 := Lib.hid (HBB_2.out.trans (b3.mono HBB_2.out.size))
    clear b3 HB1_2 XB_2 HBB_2
    have XB2_3 := Lib.hid (o3)
    clear o3
    go_wp2_with fail
    refine (E3.out _).mono ?_
    rintro e w4 ⟨v4, rfl, o4, b4⟩
    obtain ⟨abo, cbo, rfl⟩ := o4.shape
    have HB1_4 := Lib.hid (HB1_3.out.below b4)
    have XB_4 := Lib.hid (XB_3.out.below b4)
    have XB2_4 := Lib.hid (XB2_3.out.below b4)
    have HBB_4 := Lib.hid (HBB_3.out.trans (b4.mono HBB_3.out.size))
    clear b4 HB1_3 XB_3 XB2_3 HBB_3
    have XO_4 := Lib.hid (o4)
    clear o4
    go_wp2_with fail
    refine (E4.out _).mono ?_
    rintro e w5 ⟨v5, rfl, o5, b5⟩
    obtain ⟨abo2, cbo2, rfl⟩ := o5.shape
    have HB1_5 := Lib.hid (HB1_4.out.below b5)
    have XB_5 := Lib.hid (XB_4.out.below b5)
    have XB2_5 := Lib.hid (XB2_4.out.below b5)
    have XO_5 := Lib.hid (XO_4.out.below b5)
    have HBB_5 := Lib.hid (HBB_4.out.trans (b5.mono HBB_4.out.size))
    clear b5 HB1_4 XB_4 XB2_4 XO_4 HBB_4
    have XO2_5 := Lib.hid (o5)
    clear o5
    go_wp2_with fail
    refine (E5.out _).mono ?_
    rintro e w6 ⟨v6, rfl, o6, b6⟩
    obtain ⟨ati, cti, rfl⟩ := o6.shape
    have HB1_6 := Lib.hid (HB1_5.out.below b6)
    have XB_6 := Lib.hid (XB_5.out.below b6)
    have XB2_6 := Lib.hid (XB2_5.out.below b6)
    have XO_6 := Lib.hid (XO_5.out.below b6)
    have XO2_6 := Lib.hid (XO2_5.out.below b6)
    have HBB_6 := Lib.hid (HBB_5.out.trans (b6.mono HBB_5.out.size))
    clear b6 HB1_5 XB_5 XB2_5 XO_5 XO2_5 HBB_5
    have XI_6 := Lib.hid (o6)
    clear o6
    go_wp2_with fail
    refine (E6.out _).mono ?_
    rintro e w7 ⟨v7, rfl, o7, b7⟩
    obtain ⟨ati2, cti2, rfl⟩ := o7.shape
    have HB1_7 := Lib.hid (HB1_6.out.below b7)
    have XB_7 := Lib.hid (XB_6.out.below b7)
    have XB2_7 := Lib.hid (XB2_6.out.below b7)
    have XO_7 := Lib.hid (XO_6.out.below b7)
    have XO2_7 := Lib.hid (XO2_6.out.below b7)
    have XI_7 := Lib.hid (XI_6.out.below b7)
    have HBB_7 := Lib.hid (HBB_6.out.trans (b7.mono HBB_6.out.size))
    clear b7 HB1_6 XB_6 XB2_6 XO_6 XO2_6 XI_6 HBB_6
    have XI2_7 := Lib.hid (o7)
    clear o7
    go_wp2_with fail
    clear E1 E2 E3 E4 E5 E6
    as_aux_lemma =>
    refine (laws_vCut _ _ _ _ (by have := Hnb.out; omega) Hc.out.1 Hc.out.2.2 HB1_7.out).mono ?_
    rintro e w8 ⟨v8, rfl, ⟨a20, n20, c20, rfl, hy20⟩, b8⟩
    have HY20 := Lib.hid hy20
    clear hy20
    have HB1_8 := Lib.hid (HB1_7.out.below b8)
    have XB_8 := Lib.hid (XB_7.out.below b8)
    have XB2_8 := Lib.hid (XB2_7.out.below b8)
    have XO_8 := Lib.hid (XO_7.out.below b8)
    have XO2_8 := Lib.hid (XO2_7.out.below b8)
    have XI_8 := Lib.hid (XI_7.out.below b8)
    have XI2_8 := Lib.hid (XI2_7.out.below b8)
    have HBB_8 := Lib.hid (HBB_7.out.trans (b8.mono HBB_7.out.size))
    clear b8 HB1_7 XB_7 XB2_7 XO_7 XO2_7 XI_7 XI2_7 HBB_7
    go_wp2_with fail
    refine (spec_DrawStakeProof _ _ _ _ HY20.out).mono ?_
    rintro e w9 ⟨v9, ⟨x, y, m, rfl⟩, ⟨aT, nT, cT, tss, rfl, hIT, hnT, hrT⟩, b9⟩
    have HB1_9 := Lib.hid (HB1_8.out.below b9)
    have XB_9 := Lib.hid (XB_8.out.below b9)
    have XB2_9 := Lib.hid (XB2_8.out.below b9)
    have XO_9 := Lib.hid (XO_8.out.below b9)
    have XO2_9 := Lib.hid (XO2_8.out.below b9)
    have XI_9 := Lib.hid (XI_8.out.below b9)
    have XI2_9 := Lib.hid (XI2_8.out.below b9)
    have HBB_9 := Lib.hid (HBB_8.out.trans (b9.mono HBB_8.out.size))
    clear b9 HB1_8 XB_8 XB2_8 XO_8 XO2_8 XI_8 XI2_8 HBB_8
    have XT_9 := Lib.hid (hIT)
    clear hIT
    obtain ⟨proof, hproof⟩ : ∃ z, z = stakeV stF x y m tss := ⟨_, rfl⟩
    obtain ⟨one, hone⟩ : ∃ z, z = game x y m := ⟨_, rfl⟩
    obtain ⟨least, hleast⟩ : ∃ z, z = tabV stF x y m ((nT : Int) - 1) := ⟨_, rfl⟩
    have HnT := Lib.hid hnT
    have G1 : Hid (∀ W, IntsSS W aT nT tss → Calls Try.prog 17 #[.int .i64 x, .int .i64 y, .int .i64 m, .slice aT nT cT] W fun e w' => e = .returned (.tuple #[.bool proof, .bool one]) ∧ Below W.heap.size W w') := Lib.hid fun W hI => by
      rw [hproof, hone]; exact impl_StakeProof x y m aT nT cT tss W (by omega) (fun j hj => by have := hrT j hj; omega) hI
    have G2 : Hid (∀ W, IntsSS W aT nT tss → Calls Try.prog 18 #[.int .i64 x, .int .i64 y, .int .i64 m, .slice aT nT cT] W fun e w' => e = .returned (.tuple #[.bool proof, .bool one]) ∧ Below W.heap.size W w') := Lib.hid fun W hI => by
      rw [hproof, hone]; exact spec_StakeProof x y m aT nT cT tss W (by omega) hI
    have hlT := XT_9.out.1
    have G3 : Hid (proof = true → ∀ W, Calls Try.prog 9 #[.int .i64 x, .int .i64 y, .int .i64 m, .int .i64 ((nT : Int) - 1)] W fun e w' => ∃ v, e = .returned (.tuple #[v, .bool true]) ∧ HasSS w' W.heap.size v least ∧ Below W.heap.size W w') := Lib.hid fun h1 W => by
      have hx := (tab_least (hproof ▸ h1 : stakeV stF x y m tss = true)).2.1
      have hz := impl_BestStakeTable x y m ((nT : Int) - 1) W
      rw [hlT] at hx
      rw [hx, ← hleast] at hz
      exact hz
    have G4 : Hid (proof = true → (1 ≤ nT ∧ nT ≤ 9) ∧ least.length = nT ∧ ∃ L : Nat, L ≤ 13 ∧ ∀ j, j < nT → (row tss j).length = L ∧ (row least j).length = L ∧ ∀ i, nth (row least j) i ≤ nth (row tss j) i) := Lib.hid fun h1 => by
      have hx := tab_least (hproof ▸ h1 : stakeV stF x y m tss = true)
      rw [hlT, ← hleast] at hx
      exact ⟨hx.1, hx.2.2⟩
    clear hproof hone hleast hlT hnT hrT
    go_wp2_with fail
    refine (G1.out _ XT_9.out).mono ?_
    rintro e w10 ⟨rfl, b10⟩
    have HB1_10 := Lib.hid (HB1_9.out.below b10)
    have XB_10 := Lib.hid (XB_9.out.below b10)
    have XB2_10 := Lib.hid (XB2_9.out.below b10)
    have XO_10 := Lib.hid (XO_9.out.below b10)
    have XO2_10 := Lib.hid (XO2_9.out.below b10)
    have XI_10 := Lib.hid (XI_9.out.below b10)
    have XI2_10 := Lib.hid (XI2_9.out.below b10)
    have XT_10 := Lib.hid (XT_9.out.below b10)
    have HBB_10 := Lib.hid (HBB_9.out.trans (b10.mono HBB_9.out.size))
    clear b10 HB1_9 XB_9 XB2_9 XO_9 XO2_9 XI_9 XI2_9 XT_9 HBB_9
    go_wp2_with fail
    refine (G2.out _ XT_10.out).mono ?_
    rintro e w11 ⟨rfl, b11⟩
    have HB1_11 := Lib.hid (HB1_10.out.below b11)
    have XB_11 := Lib.hid (XB_10.out.below b11)
    have XB2_11 := Lib.hid (XB2_10.out.below b11)
    have XO_11 := Lib.hid (XO_10.out.below b11)
    have XO2_11 := Lib.hid (XO2_10.out.below b11)
    have XI_11 := Lib.hid (XI_10.out.below b11)
    have XI2_11 := Lib.hid (XI2_10.out.below b11)
    have XT_11 := Lib.hid (XT_10.out.below b11)
    have HBB_11 := Lib.hid (HBB_10.out.trans (b11.mono HBB_10.out.size))
    clear b11 HB1_10 XB_10 XB2_10 XO_10 XO2_10 XI_10 XI2_10 XT_10 HBB_10
    go_wp2_with fail
    clear G1 G2
    as_aux_lemma =>
    refine (laws_vTable _ _ _ _ _ best _ HM1.out.1 XB_11.out.ints XB2_11.out.ints).mono ?_
    rintro e w12 ⟨rfl, b12⟩
    have HB1_12 := Lib.hid (HB1_11.out.below b12)
    have XB_12 := Lib.hid (XB_11.out.below b12)
    have XB2_12 := Lib.hid (XB2_11.out.below b12)
    have XO_12 := Lib.hid (XO_11.out.below b12)
    have XO2_12 := Lib.hid (XO2_11.out.below b12)
    have XI_12 := Lib.hid (XI_11.out.below b12)
    have XI2_12 := Lib.hid (XI2_11.out.below b12)
    have XT_12 := Lib.hid (XT_11.out.below b12)
    have HBB_12 := Lib.hid (HBB_11.out.trans (b12.mono HBB_11.out.size))
    clear b12 HB1_11 XB_11 XB2_11 XO_11 XO2_11 XI_11 XI2_11 XT_11 HBB_11
    clear XB2_12
    go_wp2_with fail
    refine (laws_vTable _ _ _ _ _ bold _ HM2.out.1 XO_12.out.ints XO2_12.out.ints).mono ?_
    rintro e w13 ⟨rfl, b13⟩
    have HB1_13 := Lib.hid (HB1_12.out.below b13)
    have XB_13 := Lib.hid (XB_12.out.below b13)
    have XO_13 := Lib.hid (XO_12.out.below b13)
    have XO2_13 := Lib.hid (XO2_12.out.below b13)
    have XI_13 := Lib.hid (XI_12.out.below b13)
    have XI2_13 := Lib.hid (XI2_12.out.below b13)
    have XT_13 := Lib.hid (XT_12.out.below b13)
    have HBB_13 := Lib.hid (HBB_12.out.trans (b13.mono HBB_12.out.size))
    clear b13 HB1_12 XB_12 XO_12 XO2_12 XI_12 XI2_12 XT_12 HBB_12
    clear XO2_13
    go_wp2_with fail
    refine (laws_vTable _ _ _ _ _ timid _ HM3.out.1 XI_13.out.ints XI2_13.out.ints).mono ?_
    rintro e w14 ⟨rfl, b14⟩
    have HB1_14 := Lib.hid (HB1_13.out.below b14)
    have XB_14 := Lib.hid (XB_13.out.below b14)
    have XO_14 := Lib.hid (XO_13.out.below b14)
    have XI_14 := Lib.hid (XI_13.out.below b14)
    have XI2_14 := Lib.hid (XI2_13.out.below b14)
    have XT_14 := Lib.hid (XT_13.out.below b14)
    have HBB_14 := Lib.hid (HBB_13.out.trans (b14.mono HBB_13.out.size))
    clear b14 HB1_13 XB_13 XO_13 XI_13 XI2_13 XT_13 HBB_13
    clear XI2_14
    as_aux_lemma =>
    go_upto_region 15 with fail
    go_cut [170] from 167 to 170 (fun v170 wc => v170 = .bool (one && proof) ∧ Below w14.heap.size w14 wc)
    case first => as_aux_lemma =>
      cases one
      · go_wp2_with fail
        go_meet
        case rel => exact ⟨rfl, Below.refl _ _⟩
      · go_wp2_with fail
        go_meet
        case rel => exact ⟨rfl, Below.refl _ _⟩
    case rest =>
    obtain ⟨rfl, b15⟩ := hcut
    obtain ⟨w15, hwc⟩ : ∃ z, z = wc := ⟨_, rfl⟩
    rw [← hwc] at b15 ⊢
    clear hwc wc
    have HB1_15 := Lib.hid (HB1_14.out.below b15)
    have XB_15 := Lib.hid (XB_14.out.below b15)
    have XO_15 := Lib.hid (XO_14.out.below b15)
    have XI_15 := Lib.hid (XI_14.out.below b15)
    have XT_15 := Lib.hid (XT_14.out.below b15)
    have HBB_15 := Lib.hid (HBB_14.out.trans (b15.mono HBB_14.out.size))
    clear b15 HB1_14 XB_14 XO_14 XI_14 XT_14 HBB_14
    obtain ⟨both, hboth⟩ : ∃ z, z = (one && proof) := ⟨_, rfl⟩
    rw [← hboth]
    have HBO := Lib.hid hboth
    clear hboth
    go_upto_if 170 with fail
    go_cut [8] from 8 to 8 (fun v8 wc => v8 = .bool ok ∧ Below w15.heap.size w15 wc)
    case first => as_aux_lemma =>
      have HS_15 := Lib.hid (Below.refl w15.heap.size w15)
      cases both
      · go_wp2_with fail
        go_meet
        case rel => exact ⟨rfl, Below.refl _ _⟩
      · have hpr : proof = true := by have := HBO.out; cases one <;> cases proof <;> first | rfl | cases this
        have J3 := Lib.hid (G3.out hpr)
        obtain ⟨⟨hnT1, hnT9⟩, hll, L, hL, hrows⟩ := G4.out hpr
        clear hpr
        have Hrows := Lib.hid hrows
        clear hrows G3 G4
        have k1 : IntKind.i64.wrap ((nT : Int) - 1) = (nT : Int) - 1 := IntWalk.i64_in _ (by omega)
        go_wp2_with fail
        clear k1
        refine (J3.out _).mono ?_
        rintro e w16 ⟨v16, rfl, o16, b16⟩
        obtain ⟨aM, cM, rfl⟩ := o16.shape
        rw [hll] at o16 ⊢
        have HB1_16 := Lib.hid (HB1_15.out.below b16)
        have XB_16 := Lib.hid (XB_15.out.below b16)
        have XO_16 := Lib.hid (XO_15.out.below b16)
        have XI_16 := Lib.hid (XI_15.out.below b16)
        have XT_16 := Lib.hid (XT_15.out.below b16)
        have HBB_16 := Lib.hid (HBB_15.out.trans (b16.mono HBB_15.out.size))
        have HS_16 := Lib.hid (HS_15.out.trans (b16.mono HS_15.out.size))
        clear b16 HB1_15 XB_15 XO_15 XI_15 XT_15 HBB_15 HS_15
        have XM_16 := Lib.hid (o16)
        clear o16 J3 hll
        have QT := XT_16.out
        have QM := XM_16.out.ints
        have QS := HS_16.out
        obtain ⟨wo, hwo⟩ : ∃ z, z = w16 := ⟨_, rfl⟩
        rw [← hwo] at QT QM QS ⊢
        have QT := Lib.hid QT
        have QM := Lib.hid QM
        have QS := Lib.hid QS
        clear hwo
        go_wp2_with fail
        go_loopw [29] (fun v29 wr => ∃ r m : Nat, r ≤ nT ∧ v29 = .int .i64 (r : Int) ∧ wr = wo.drewN m) (fun v29 _ => nT - (intOf v29).toNat)
        case atStart => exact ⟨0, 0, Nat.zero_le _, rfl, rfl⟩
        case round =>
          obtain ⟨r, m0, hr, rfl, hwr⟩ := hrel
          have hb0 : Below wo.heap.size wo wr := by rw [hwr]; exact below_drewN (Below.refl _ _) m0
          have Hwp := Lib.hid hwr
          have Hb0 := Lib.hid hb0
          clear hwr hb0
          by_cases hlt : (r : Int) < nT
          · obtain ⟨hlen1, hlen2, hcmp⟩ := Hrows.out r (by omega)
            have Hcmp := Lib.hid hcmp
            have Hlen1 := Lib.hid hlen1
            have Hlen2 := Lib.hid hlen2
            clear hcmp hlen1 hlen2
            obtain ⟨wp, rfl⟩ : ∃ z, z = wr := ⟨_, rfl⟩
            have q1 : (0 : Int) ≤ (r : Int) := by omega
            go_wp2_with fail
            go_loopw [30] (fun v30 wr => ∃ i m : Nat, i ≤ L ∧ v30 = .int .i64 (i : Int) ∧ wr = wp.drewN m) (fun v30 _ => L - (intOf v30).toNat)
            case atStart => exact ⟨0, 0, Nat.zero_le _, rfl, rfl⟩
            case round =>
              obtain ⟨i, m, hi, rfl, hwr⟩ := hrel
              have hb1 : Below wp.heap.size wp wr := by rw [hwr]; exact below_drewN (Below.refl _ _) m
              have hb2 := Hb0.out.trans (hb1.mono Hb0.out.size)
              have Hwr := Lib.hid hwr
              clear hwr
              obtain ⟨bT, oT, aR, cR, rfl, hcT, hiT⟩ := ss_at QT.out hb2 (j := r) (by omega)
              rw [Hlen1.out] at hcT hiT
              by_cases hlt2 : (i : Int) < L
              · obtain ⟨bM, oM, aQ, cQ, rfl, hcM, hiM⟩ := ss_at QM.out hb2 (j := r) (by omega)
                rw [Hlen2.out] at hcM hiM
                obtain ⟨bU, oU, rfl, hcU⟩ := hiT.at (i := i) (Below.refl _ _) (by omega)
                obtain ⟨bV, oV, rfl, hcV⟩ := hiM.at (i := i) (Below.refl _ _) (by omega)
                have hle := Hcmp.out i
                generalize nth (row tss r) i = u at *
                generalize nth (row least r) i = v at *
                have k1 : ¬ u < v := by omega
                have k2 : (0 : Int) ≤ (i : Int) := by omega
                clear hiT hiM hle hb1 hb2
                go_wp2_with fail
                go_quiet (fail)
                go_wp2_with fail
                go_roundw
                case rel => exact ⟨i + 1, _, by omega, by go_num, by rw [Hwr.out, World.drewN_drewN]⟩
                case measure => simp [intOf] <;> omega
              · clear hiT
                go_wp2_with fail
                go_roundw
                case rel => exact ⟨r + 1, _, by omega, by go_num, by rw [Hwr.out, Hwp.out, World.drewN_drewN]⟩
                case measure => simp [intOf] <;> omega
          · obtain rfl : r = nT := by omega
            go_wp2_with fail
            go_meet
            case rel => exact ⟨rfl, QS.out.trans (Hb0.out.mono QS.out.size)⟩
    case rest =>
    obtain ⟨rfl, b16⟩ := hcut
    obtain ⟨w16, hwc⟩ : ∃ z, z = wc := ⟨_, rfl⟩
    rw [← hwc] at b16 ⊢
    clear hwc wc
    have HB1_16 := Lib.hid (HB1_15.out.below b16)
    have XB_16 := Lib.hid (XB_15.out.below b16)
    have XO_16 := Lib.hid (XO_15.out.below b16)
    have XI_16 := Lib.hid (XI_15.out.below b16)
    have XT_16 := Lib.hid (XT_15.out.below b16)
    have HBB_16 := Lib.hid (HBB_15.out.trans (b16.mono HBB_15.out.size))
    clear b16 HB1_15 XB_15 XO_15 XI_15 XT_15 HBB_15
    clear XT_16
    clear G3 G4
    as_aux_lemma =>
    go_upto_if 217 with fail
    cases ok
    · go_wp2_with fail
      go_ret
      exact ⟨rfl, HBB_16.out⟩
    · as_aux_lemma =>
      have J7 := Lib.hid (E7.out rfl)
      obtain ⟨R, L, hR, hL, hl1, hl2, hl3, hrows⟩ := PF.out rfl
      have Hrows := Lib.hid hrows
      clear hrows PF E7 HM1 HM2 HM3
      have QB := XB_16.out.ints
      have QO := XO_16.out.ints
      have QI := XI_16.out.ints
      have QS := HBB_16.out
      rw [hl1] at QB ⊢
      rw [hl2] at QO ⊢
      rw [hl3] at QI ⊢
      obtain ⟨wo, hwo⟩ : ∃ z, z = w16 := ⟨_, rfl⟩
      rw [← hwo] at QB QO QI QS ⊢
      have QB := Lib.hid QB
      have QO := Lib.hid QO
      have QI := Lib.hid QI
      have QS := Lib.hid QS
      clear hwo hl1 hl2 hl3
      go_wp2_with fail
      try simp only [Bool.not_true]
      by_cases hab : ra ≤ rb
      · as_aux_lemma =>
        go_loopw [31] (fun v31 wr => ∃ r m : Nat, r ≤ R ∧ v31 = .int .i64 (r : Int) ∧ wr = wo.drewN m) (fun v31 _ => R - (intOf v31).toNat)
        case atStart => exact ⟨0, 0, Nat.zero_le _, rfl, rfl⟩
        case round =>
          obtain ⟨r, m0, hr, rfl, hwr⟩ := hrel
          have hb0 : Below wo.heap.size wo wr := by rw [hwr]; exact below_drewN (Below.refl _ _) m0
          have Hwp := Lib.hid hwr
          have Hb0 := Lib.hid hb0
          clear hwr hb0
          by_cases hlt : (r : Int) < R
          · obtain ⟨hlen1, hlen2, hlen3, hcmp⟩ := Hrows.out r (by omega)
            have Hcmp := Lib.hid hcmp
            have Hlen1 := Lib.hid hlen1
            have Hlen2 := Lib.hid hlen2
            have Hlen3 := Lib.hid hlen3
            clear hcmp hlen1 hlen2 hlen3
            obtain ⟨wp, rfl⟩ : ∃ z, z = wr := ⟨_, rfl⟩
            have q1 : (0 : Int) ≤ (r : Int) := by omega
            go_wp2_with fail
            go_loopw [32] (fun v32 wr => ∃ i m : Nat, i ≤ L ∧ v32 = .int .i64 (i : Int) ∧ wr = wp.drewN m) (fun v32 _ => L - (intOf v32).toNat)
            case atStart => exact ⟨0, 0, Nat.zero_le _, rfl, rfl⟩
            case round =>
              obtain ⟨i, m, hi, rfl, hwr⟩ := hrel
              have hb1 : Below wp.heap.size wp wr := by rw [hwr]; exact below_drewN (Below.refl _ _) m
              have hb2 := Hb0.out.trans (hb1.mono Hb0.out.size)
              have Hwr := Lib.hid hwr
              clear hwr
              obtain ⟨bT, oT, aR, cR, rfl, hcT, hiT⟩ := ss_at QB.out hb2 (j := r) (by omega)
              rw [Hlen1.out] at hcT hiT
              by_cases hlt2 : (i : Int) < L
              · obtain ⟨bM, oM, aQ, cQ, rfl, hcM, hiM⟩ := ss_at QO.out hb2 (j := r) (by omega)
                rw [Hlen2.out] at hcM hiM
                obtain ⟨bI, oI, aJ, cJ, rfl, hcI, hiI⟩ := ss_at QI.out hb2 (j := r) (by omega)
                rw [Hlen3.out] at hcI hiI
                obtain ⟨bU, oU, rfl, hcU⟩ := hiT.at (i := i) (Below.refl _ _) (by omega)
                obtain ⟨bV, oV, rfl, hcV⟩ := hiM.at (i := i) (Below.refl _ _) (by omega)
                obtain ⟨bW, oW, rfl, hcW⟩ := hiI.at (i := i) (Below.refl _ _) (by omega)
                have hle := Hcmp.out i (by omega)
                have k2 : (0 : Int) ≤ (i : Int) := by omega
                have heq := hle.2.2 hab
                rw [heq] at hcV
                have hle2 := hle.2.1
                clear hle heq
                generalize nth (row best r) i = u at *
                generalize nth (row timid r) i = t at *
                have k1 : ¬ u > u := by omega
                have k3 : ¬ t > u := by omega
                have k4 : (u != u) = false := by simp
                clear hiT hiM hiI hle2 hb1 hb2
                go_wp2_with fail
                go_quiet (fail)
                go_wp2_with fail
                go_roundw
                case rel => exact ⟨i + 1, _, by omega, by go_num, by rw [Hwr.out, World.drewN_drewN]⟩
                case measure => simp [intOf] <;> omega
              · clear hiT
                go_wp2_with fail
                go_roundw
                case rel => exact ⟨r + 1, _, by omega, by go_num, by rw [Hwr.out, Hwp.out, World.drewN_drewN]⟩
                case measure => simp [intOf] <;> omega
          · obtain rfl : r = R := by omega
            go_wp2_with fail
            refine (J7.out _ _ _ _ (QB.out.below Hb0.out) (by omega)).mono ?_
            rintro e wz ⟨rfl, bz⟩
            have hbz := Hb0.out.trans (bz.mono Hb0.out.size)
            have hbq := QS.out.trans (hbz.mono QS.out.size)
            clear bz hbz
            go_wp2_with fail
            go_ret
            exact ⟨rfl, hbq⟩
      · as_aux_lemma =>
        go_loopw [31] (fun v31 wr => ∃ r m : Nat, r ≤ R ∧ v31 = .int .i64 (r : Int) ∧ wr = wo.drewN m) (fun v31 _ => R - (intOf v31).toNat)
        case atStart => exact ⟨0, 0, Nat.zero_le _, rfl, rfl⟩
        case round =>
          obtain ⟨r, m0, hr, rfl, hwr⟩ := hrel
          have hb0 : Below wo.heap.size wo wr := by rw [hwr]; exact below_drewN (Below.refl _ _) m0
          have Hwp := Lib.hid hwr
          have Hb0 := Lib.hid hb0
          clear hwr hb0
          by_cases hlt : (r : Int) < R
          · obtain ⟨hlen1, hlen2, hlen3, hcmp⟩ := Hrows.out r (by omega)
            have Hcmp := Lib.hid hcmp
            have Hlen1 := Lib.hid hlen1
            have Hlen2 := Lib.hid hlen2
            have Hlen3 := Lib.hid hlen3
            clear hcmp hlen1 hlen2 hlen3
            obtain ⟨wp, rfl⟩ : ∃ z, z = wr := ⟨_, rfl⟩
            have q1 : (0 : Int) ≤ (r : Int) := by omega
            go_wp2_with fail
            go_loopw [32] (fun v32 wr => ∃ i m : Nat, i ≤ L ∧ v32 = .int .i64 (i : Int) ∧ wr = wp.drewN m) (fun v32 _ => L - (intOf v32).toNat)
            case atStart => exact ⟨0, 0, Nat.zero_le _, rfl, rfl⟩
            case round =>
              obtain ⟨i, m, hi, rfl, hwr⟩ := hrel
              have hb1 : Below wp.heap.size wp wr := by rw [hwr]; exact below_drewN (Below.refl _ _) m
              have hb2 := Hb0.out.trans (hb1.mono Hb0.out.size)
              have Hwr := Lib.hid hwr
              clear hwr
              obtain ⟨bT, oT, aR, cR, rfl, hcT, hiT⟩ := ss_at QB.out hb2 (j := r) (by omega)
              rw [Hlen1.out] at hcT hiT
              by_cases hlt2 : (i : Int) < L
              · obtain ⟨bM, oM, aQ, cQ, rfl, hcM, hiM⟩ := ss_at QO.out hb2 (j := r) (by omega)
                rw [Hlen2.out] at hcM hiM
                obtain ⟨bI, oI, aJ, cJ, rfl, hcI, hiI⟩ := ss_at QI.out hb2 (j := r) (by omega)
                rw [Hlen3.out] at hcI hiI
                obtain ⟨bU, oU, rfl, hcU⟩ := hiT.at (i := i) (Below.refl _ _) (by omega)
                obtain ⟨bV, oV, rfl, hcV⟩ := hiM.at (i := i) (Below.refl _ _) (by omega)
                obtain ⟨bW, oW, rfl, hcW⟩ := hiI.at (i := i) (Below.refl _ _) (by omega)
                have hle := Hcmp.out i (by omega)
                have k2 : (0 : Int) ≤ (i : Int) := by omega
                have hle1 := hle.1
                have hle2 := hle.2.1
                clear hle
                generalize nth (row best r) i = u at *
                generalize nth (row bold r) i = v at *
                generalize nth (row timid r) i = t at *
                have k1 : ¬ v > u := by omega
                have k3 : ¬ t > u := by omega
                clear hiT hiM hiI hle1 hle2 hb1 hb2
                go_wp2_with fail
                have k5 : ¬ ra ≤ rb := by omega
                refine wp_region_noPanic ?_
                refine wp_region_held_drew (S := (fun W' => ((W'.cell? ⟨bM, oM + r, none⟩ = some (.slice (some ⟨bV, oV, none⟩) L cQ) ∧ W'.cell? ⟨bV, oV + i, none⟩ = some (.int .i64 v)) ∧ W'.cell? ⟨bT, oT + r, none⟩ = some (.slice (some ⟨bU, oU, none⟩) L cR) ∧ W'.cell? ⟨bU, oU + i, none⟩ = some (.int .i64 u)) ∧ W'.cell? ⟨bI, oI + r, none⟩ = some (.slice (some ⟨bW, oW, none⟩) L cJ) ∧ W'.cell? ⟨bW, oW + i, none⟩ = some (.int .i64 t))) (by kernel_rfl) ?_ (fun hHeld0 => ?_)
                · (try dsimp only); exact ⟨⟨⟨hcM, hcV⟩, hcT, hcU⟩, hcI, hcW⟩
                refine takeH (i := 0) (oi := _) (v := ?_) rfl (by kernel_rfl) (by kernel_rfl) (by kernel_rfl) (fun _ _ _ h => h) (Or.inl ⟨by rfl, ?_⟩) (by assumption) ?_
                rotate_left
                · first | (intro w hSw; (try dsimp only at hSw); go_simp; done) | (intro w hSw; (try dsimp only at hSw); go_simp; with_reducible rfl)
                (try simp only [Act.put, List.setIfInBounds_toArray, List.set_cons_zero, List.set_cons_succ])
                refine takeH (i := 1) (oi := _) (v := ?_) rfl (by kernel_rfl) (by kernel_rfl) (by kernel_rfl) (fun _ _ _ h => h) (Or.inl ⟨by rfl, ?_⟩) (by assumption) ?_
                rotate_left
                · first | (intro w hSw; (try dsimp only at hSw); go_simp; done) | (intro w hSw; (try dsimp only at hSw); go_simp; with_reducible rfl)
                (try simp only [Act.put, List.setIfInBounds_toArray, List.set_cons_zero, List.set_cons_succ])
                refine takeH (i := 2) (oi := _) (v := ?_) rfl (by kernel_rfl) (by kernel_rfl) (by kernel_rfl) (fun _ _ _ h => h) (Or.inl ⟨by rfl, ?_⟩) (by assumption) ?_
                rotate_left
                · first | (intro w hSw; (try dsimp only at hSw); go_simp; done) | (intro w hSw; (try dsimp only at hSw); go_simp; with_reducible rfl)
                (try simp only [Act.put, List.setIfInBounds_toArray, List.set_cons_zero, List.set_cons_succ])
                refine takeH (i := 3) (oi := _) (v := ?_) rfl (by kernel_rfl) (by kernel_rfl) (by kernel_rfl) (fun _ _ _ h => h) (Or.inl ⟨by rfl, ?_⟩) (by assumption) ?_
                rotate_left
                · first | (intro w hSw; (try dsimp only at hSw); go_simp; done) | (intro w hSw; (try dsimp only at hSw); go_simp; with_reducible rfl)
                (try simp only [Act.put, List.setIfInBounds_toArray, List.set_cons_zero, List.set_cons_succ])
                refine takeH (i := 4) (oi := _) (v := ?_) rfl (by kernel_rfl) (by kernel_rfl) (by kernel_rfl) (fun _ _ _ h => h) (Or.inl ⟨by rfl, ?_⟩) (by assumption) ?_
                rotate_left
                · first | (intro w hSw; (try dsimp only at hSw); go_simp; done) | (intro w hSw; (try dsimp only at hSw); go_simp; with_reducible rfl)
                (try simp only [Act.put, List.setIfInBounds_toArray, List.set_cons_zero, List.set_cons_succ])
                refine takeH (i := 5) (oi := _) (v := ?_) rfl (by kernel_rfl) (by kernel_rfl) (by kernel_rfl) (fun _ _ _ h => h) (Or.inl ⟨by rfl, ?_⟩) (by assumption) ?_
                rotate_left
                · first | (intro w hSw; (try dsimp only at hSw); go_simp; done) | (intro w hSw; (try dsimp only at hSw); go_simp; with_reducible rfl)
                (try simp only [Act.put, List.setIfInBounds_toArray, List.set_cons_zero, List.set_cons_succ])
                refine takeH (i := 6) (oi := _) (v := ?_) rfl (by kernel_rfl) (by kernel_rfl) (by kernel_rfl) (fun _ _ _ h => h) (Or.inl ⟨by rfl, ?_⟩) (by assumption) ?_
                rotate_left
                · first | (intro w hSw; (try dsimp only at hSw); go_simp; done) | (intro w hSw; (try dsimp only at hSw); go_simp; with_reducible rfl)
                (try simp only [Act.put, List.setIfInBounds_toArray, List.set_cons_zero, List.set_cons_succ])
                refine takeH (i := 7) (oi := _) (v := ?_) rfl (by kernel_rfl) (by kernel_rfl) (by kernel_rfl) (fun _ _ _ h => h) (Or.inl ⟨by rfl, ?_⟩) (by assumption) ?_
                rotate_left
                · first | (intro w hSw; (try dsimp only at hSw); go_simp; done) | (intro w hSw; (try dsimp only at hSw); go_simp; with_reducible rfl)
                (try simp only [Act.put, List.setIfInBounds_toArray, List.set_cons_zero, List.set_cons_succ])
                refine takeH (i := 8) (oi := _) (v := ?_) rfl (by kernel_rfl) (by kernel_rfl) (by kernel_rfl) (fun _ _ _ h => h) (Or.inl ⟨by rfl, ?_⟩) (by assumption) ?_
                rotate_left
                · first | (intro w hSw; (try dsimp only at hSw); go_simp; done) | (intro w hSw; (try dsimp only at hSw); go_simp; with_reducible rfl)
                (try simp only [Act.put, List.setIfInBounds_toArray, List.set_cons_zero, List.set_cons_succ])
                refine takeH (i := 9) (oi := _) (v := ?_) rfl (by kernel_rfl) (by kernel_rfl) (by kernel_rfl) (fun _ _ _ h => h) (Or.inl ⟨by rfl, ?_⟩) (by assumption) ?_
                rotate_left
                · first | (intro w hSw; (try dsimp only at hSw); go_simp; done) | (intro w hSw; (try dsimp only at hSw); go_simp; with_reducible rfl)
                (try simp only [Act.put, List.setIfInBounds_toArray, List.set_cons_zero, List.set_cons_succ])
                refine takeH (i := 10) (oi := _) (v := ?_) rfl (by kernel_rfl) (by kernel_rfl) (by kernel_rfl) (fun _ _ _ h => h) (Or.inl ⟨by rfl, ?_⟩) (by assumption) ?_
                rotate_left
                · first | (intro w hSw; (try dsimp only at hSw); go_simp; done) | (intro w hSw; (try dsimp only at hSw); go_simp; with_reducible rfl)
                (try simp only [Act.put, List.setIfInBounds_toArray, List.set_cons_zero, List.set_cons_succ])
                refine takeH (i := 11) (oi := _) (v := ?_) rfl (by kernel_rfl) (by kernel_rfl) (by kernel_rfl) (fun _ _ _ h => h) (Or.inl ⟨by rfl, ?_⟩) (by assumption) ?_
                rotate_left
                · first | (intro w hSw; (try dsimp only at hSw); go_simp; done) | (intro w hSw; (try dsimp only at hSw); go_simp; with_reducible rfl)
                (try simp only [Act.put, List.setIfInBounds_toArray, List.set_cons_zero, List.set_cons_succ])
                refine takeH (i := 12) (oi := _) (v := ?_) rfl (by kernel_rfl) (by kernel_rfl) (by kernel_rfl) (fun _ _ _ h => h) (Or.inl ⟨by rfl, ?_⟩) (by assumption) ?_
                rotate_left
                · first | (intro w hSw; (try dsimp only at hSw); go_simp; done) | (intro w hSw; (try dsimp only at hSw); go_simp; with_reducible rfl)
                (try simp only [Act.put, List.setIfInBounds_toArray, List.set_cons_zero, List.set_cons_succ])
                refine takeH (i := 13) (oi := _) (v := ?_) rfl (by kernel_rfl) (by kernel_rfl) (by kernel_rfl) (fun _ _ _ h => h) (Or.inl ⟨by rfl, ?_⟩) (by assumption) ?_
                rotate_left
                · first | (intro w hSw; (try dsimp only at hSw); go_simp; done) | (intro w hSw; (try dsimp only at hSw); go_simp; with_reducible rfl)
                (try simp only [Act.put, List.setIfInBounds_toArray, List.set_cons_zero, List.set_cons_succ])
                refine takeH (i := 14) (oi := _) (v := .bool false) rfl (by kernel_rfl) (by kernel_rfl) (by kernel_rfl) (fun _ _ _ h => h) (Or.inl ⟨by rfl, ?_⟩) (by assumption) ?_
                · intro w hSw; (try dsimp only at hSw); go_simp; done
                (try simp only [Act.put, List.setIfInBounds_toArray, List.set_cons_zero, List.set_cons_succ])
                refine takeH (i := 15) (oi := _) (v := ?_) rfl (by kernel_rfl) (by kernel_rfl) (by kernel_rfl) (fun _ _ _ h => h) (Or.inl ⟨by rfl, ?_⟩) (by assumption) ?_
                rotate_left
                · first | (intro w hSw; (try dsimp only at hSw); go_simp; done) | (intro w hSw; (try dsimp only at hSw); go_simp; with_reducible rfl)
                (try simp only [Act.put, List.setIfInBounds_toArray, List.set_cons_zero, List.set_cons_succ])
                refine takeH (i := 16) (oi := _) (v := ?_) rfl (by kernel_rfl) (by kernel_rfl) (by kernel_rfl) (fun _ _ _ h => h) (Or.inl ⟨by rfl, ?_⟩) (by assumption) ?_
                rotate_left
                · first | (intro w hSw; (try dsimp only at hSw); go_simp; done) | (intro w hSw; (try dsimp only at hSw); go_simp; with_reducible rfl)
                (try simp only [Act.put, List.setIfInBounds_toArray, List.set_cons_zero, List.set_cons_succ])
                refine takeH (i := 17) (oi := _) (v := ?_) rfl (by kernel_rfl) (by kernel_rfl) (by kernel_rfl) (fun _ _ _ h => h) (Or.inl ⟨by rfl, ?_⟩) (by assumption) ?_
                rotate_left
                · first | (intro w hSw; (try dsimp only at hSw); go_simp; done) | (intro w hSw; (try dsimp only at hSw); go_simp; with_reducible rfl)
                (try simp only [Act.put, List.setIfInBounds_toArray, List.set_cons_zero, List.set_cons_succ])
                refine takeH (i := 18) (oi := _) (v := ?_) rfl (by kernel_rfl) (by kernel_rfl) (by kernel_rfl) (fun _ _ _ h => h) (Or.inl ⟨by rfl, ?_⟩) (by assumption) ?_
                rotate_left
                · first | (intro w hSw; (try dsimp only at hSw); go_simp; done) | (intro w hSw; (try dsimp only at hSw); go_simp; with_reducible rfl)
                (try simp only [Act.put, List.setIfInBounds_toArray, List.set_cons_zero, List.set_cons_succ])
                refine takeH (i := 19) (oi := _) (v := ?_) rfl (by kernel_rfl) (by kernel_rfl) (by kernel_rfl) (fun _ _ _ h => h) (Or.inl ⟨by rfl, ?_⟩) (by assumption) ?_
                rotate_left
                · first | (intro w hSw; (try dsimp only at hSw); go_simp; done) | (intro w hSw; (try dsimp only at hSw); go_simp; with_reducible rfl)
                (try simp only [Act.put, List.setIfInBounds_toArray, List.set_cons_zero, List.set_cons_succ])
                refine takeH (i := 20) (oi := _) (v := ?_) rfl (by kernel_rfl) (by kernel_rfl) (by kernel_rfl) (fun _ _ _ h => h) (Or.inl ⟨by rfl, ?_⟩) (by assumption) ?_
                rotate_left
                · first | (intro w hSw; (try dsimp only at hSw); go_simp; done) | (intro w hSw; (try dsimp only at hSw); go_simp; with_reducible rfl)
                (try simp only [Act.put, List.setIfInBounds_toArray, List.set_cons_zero, List.set_cons_succ])
                refine takeH (i := 21) (oi := _) (v := ?_) rfl (by kernel_rfl) (by kernel_rfl) (by kernel_rfl) (fun _ _ _ h => h) (Or.inl ⟨by rfl, ?_⟩) (by assumption) ?_
                rotate_left
                · first | (intro w hSw; (try dsimp only at hSw); go_simp; done) | (intro w hSw; (try dsimp only at hSw); go_simp; with_reducible rfl)
                (try simp only [Act.put, List.setIfInBounds_toArray, List.set_cons_zero, List.set_cons_succ])
                refine takeH (i := 22) (oi := _) (v := ?_) rfl (by kernel_rfl) (by kernel_rfl) (by kernel_rfl) (fun _ _ _ h => h) (Or.inl ⟨by rfl, ?_⟩) (by assumption) ?_
                rotate_left
                · first | (intro w hSw; (try dsimp only at hSw); go_simp; done) | (intro w hSw; (try dsimp only at hSw); go_simp; with_reducible rfl)
                (try simp only [Act.put, List.setIfInBounds_toArray, List.set_cons_zero, List.set_cons_succ])
                refine takeH (i := 23) (oi := _) (v := ?_) rfl (by kernel_rfl) (by kernel_rfl) (by kernel_rfl) (fun _ _ _ h => h) (Or.inl ⟨by rfl, ?_⟩) (by assumption) ?_
                rotate_left
                · first | (intro w hSw; (try dsimp only at hSw); go_simp; done) | (intro w hSw; (try dsimp only at hSw); go_simp; with_reducible rfl)
                (try simp only [Act.put, List.setIfInBounds_toArray, List.set_cons_zero, List.set_cons_succ])
                refine takeH (i := 24) (oi := _) (v := ?_) rfl (by kernel_rfl) (by kernel_rfl) (by kernel_rfl) (fun _ _ _ h => h) (Or.inl ⟨by rfl, ?_⟩) (by assumption) ?_
                rotate_left
                · first | (intro w hSw; (try dsimp only at hSw); go_simp; done) | (intro w hSw; (try dsimp only at hSw); go_simp; with_reducible rfl)
                (try simp only [Act.put, List.setIfInBounds_toArray, List.set_cons_zero, List.set_cons_succ])
                refine takeH (i := 25) (oi := _) (v := ?_) rfl (by kernel_rfl) (by kernel_rfl) (by kernel_rfl) (fun _ _ _ h => h) (Or.inl ⟨by rfl, ?_⟩) (by assumption) ?_
                rotate_left
                · first | (intro w hSw; (try dsimp only at hSw); go_simp; done) | (intro w hSw; (try dsimp only at hSw); go_simp; with_reducible rfl)
                (try simp only [Act.put, List.setIfInBounds_toArray, List.set_cons_zero, List.set_cons_succ])
                refine takeH (i := 26) (oi := _) (v := ?_) rfl (by kernel_rfl) (by kernel_rfl) (by kernel_rfl) (fun _ _ _ h => h) (Or.inl ⟨by rfl, ?_⟩) (by assumption) ?_
                rotate_left
                · first | (intro w hSw; (try dsimp only at hSw); go_simp; done) | (intro w hSw; (try dsimp only at hSw); go_simp; with_reducible rfl)
                (try simp only [Act.put, List.setIfInBounds_toArray, List.set_cons_zero, List.set_cons_succ])
                refine takeH (i := 27) (oi := _) (v := ?_) rfl (by kernel_rfl) (by kernel_rfl) (by kernel_rfl) (fun _ _ _ h => h) (Or.inl ⟨by rfl, ?_⟩) (by assumption) ?_
                rotate_left
                · first | (intro w hSw; (try dsimp only at hSw); go_simp; done) | (intro w hSw; (try dsimp only at hSw); go_simp; with_reducible rfl)
                (try simp only [Act.put, List.setIfInBounds_toArray, List.set_cons_zero, List.set_cons_succ])
                refine takeH (i := 28) (oi := _) (v := ?_) rfl (by kernel_rfl) (by kernel_rfl) (by kernel_rfl) (fun _ _ _ h => h) (Or.inl ⟨by rfl, ?_⟩) (by assumption) ?_
                rotate_left
                · first | (intro w hSw; (try dsimp only at hSw); go_simp; done) | (intro w hSw; (try dsimp only at hSw); go_simp; with_reducible rfl)
                (try simp only [Act.put, List.setIfInBounds_toArray, List.set_cons_zero, List.set_cons_succ])
                refine takeH (i := 29) (oi := _) (v := ?_) rfl (by kernel_rfl) (by kernel_rfl) (by kernel_rfl) (fun _ _ _ h => h) (Or.inl ⟨by rfl, ?_⟩) (by assumption) ?_
                rotate_left
                · first | (intro w hSw; (try dsimp only at hSw); go_simp; done) | (intro w hSw; (try dsimp only at hSw); go_simp; with_reducible rfl)
                (try simp only [Act.put, List.setIfInBounds_toArray, List.set_cons_zero, List.set_cons_succ])
                refine takeH (i := 30) (oi := _) (v := .bool false) rfl (by kernel_rfl) (by kernel_rfl) (by kernel_rfl) (fun _ _ _ h => h) (Or.inl ⟨by rfl, ?_⟩) (by assumption) ?_
                · intro w hSw; (try dsimp only at hSw); go_simp; done
                (try simp only [Act.put, List.setIfInBounds_toArray, List.set_cons_zero, List.set_cons_succ])
                refine takeH (i := 31) (oi := _) (v := .bool false) rfl (by kernel_rfl) (by kernel_rfl) (by kernel_rfl) (fun _ _ _ h => h) (Or.inl ⟨by rfl, ?_⟩) (by assumption) ?_
                · intro w hSw; (try dsimp only at hSw); go_simp; done
                (try simp only [Act.put, List.setIfInBounds_toArray, List.set_cons_zero, List.set_cons_succ])
                refine takeH (i := 32) (oi := _) (v := ?_) rfl (by kernel_rfl) (by kernel_rfl) (by kernel_rfl) (fun _ _ _ h => h) (Or.inl ⟨by rfl, ?_⟩) (by assumption) ?_
                rotate_left
                · first | (intro w hSw; (try dsimp only at hSw); go_simp; done) | (intro w hSw; (try dsimp only at hSw); go_simp; with_reducible rfl)
                (try simp only [Act.put, List.setIfInBounds_toArray, List.set_cons_zero, List.set_cons_succ])
                refine takeH (i := 33) (oi := _) (v := ?_) rfl (by kernel_rfl) (by kernel_rfl) (by kernel_rfl) (fun _ _ _ h => h) (Or.inl ⟨by rfl, ?_⟩) (by assumption) ?_
                rotate_left
                · first | (intro w hSw; (try dsimp only at hSw); go_simp; done) | (intro w hSw; (try dsimp only at hSw); go_simp; with_reducible rfl)
                (try simp only [Act.put, List.setIfInBounds_toArray, List.set_cons_zero, List.set_cons_succ])
                refine takeH (i := 34) (oi := _) (v := ?_) rfl (by kernel_rfl) (by kernel_rfl) (by kernel_rfl) (fun _ _ _ h => h) (Or.inl ⟨by rfl, ?_⟩) (by assumption) ?_
                rotate_left
                · first | (intro w hSw; (try dsimp only at hSw); go_simp; done) | (intro w hSw; (try dsimp only at hSw); go_simp; with_reducible rfl)
                (try simp only [Act.put, List.setIfInBounds_toArray, List.set_cons_zero, List.set_cons_succ])
                refine takeH (i := 35) (oi := _) (v := .bool false) rfl (by kernel_rfl) (by kernel_rfl) (by kernel_rfl) (fun _ _ _ h => h) (Or.inl ⟨by rfl, ?_⟩) (by assumption) ?_
                · intro w hSw; (try dsimp only at hSw); go_simp; done
                (try simp only [Act.put, List.setIfInBounds_toArray, List.set_cons_zero, List.set_cons_succ])
                refine takeH (i := 36) (oi := _) (v := ?_) rfl (by kernel_rfl) (by kernel_rfl) (by kernel_rfl) (fun _ _ _ h => h) (Or.inl ⟨by rfl, ?_⟩) (by assumption) ?_
                rotate_left
                · first | (intro w hSw; (try dsimp only at hSw); go_simp; done) | (intro w hSw; (try dsimp only at hSw); go_simp; with_reducible rfl)
                (try simp only [Act.put, List.setIfInBounds_toArray, List.set_cons_zero, List.set_cons_succ])
                refine takeH (i := 37) (oi := _) (v := undef) rfl (by kernel_rfl) (by kernel_rfl) (by kernel_rfl) (fun _ _ _ h => h) (Or.inr ⟨by rfl, rfl⟩) (by assumption) ?_
                (try simp only [Act.put, List.setIfInBounds_toArray, List.set_cons_zero, List.set_cons_succ])
                refine takeH (i := 38) (oi := _) (v := undef) rfl (by kernel_rfl) (by kernel_rfl) (by kernel_rfl) (fun _ _ _ h => h) (Or.inr ⟨by rfl, rfl⟩) (by assumption) ?_
                (try simp only [Act.put, List.setIfInBounds_toArray, List.set_cons_zero, List.set_cons_succ])
                refine takeH (i := 39) (oi := _) (v := undef) rfl (by kernel_rfl) (by kernel_rfl) (by kernel_rfl) (fun _ _ _ h => h) (Or.inr ⟨by rfl, rfl⟩) (by assumption) ?_
                (try simp only [Act.put, List.setIfInBounds_toArray, List.set_cons_zero, List.set_cons_succ])
                refine takeH (i := 40) (oi := _) (v := undef) rfl (by kernel_rfl) (by kernel_rfl) (by kernel_rfl) (fun _ _ _ h => h) (Or.inr ⟨by rfl, rfl⟩) (by assumption) ?_
                (try simp only [Act.put, List.setIfInBounds_toArray, List.set_cons_zero, List.set_cons_succ])
                refine takeH (i := 41) (oi := _) (v := undef) rfl (by kernel_rfl) (by kernel_rfl) (by kernel_rfl) (fun _ _ _ h => h) (Or.inr ⟨by rfl, rfl⟩) (by assumption) ?_
                (try simp only [Act.put, List.setIfInBounds_toArray, List.set_cons_zero, List.set_cons_succ])
                refine takeH (i := 42) (oi := _) (v := undef) rfl (by kernel_rfl) (by kernel_rfl) (by kernel_rfl) (fun _ _ _ h => h) (Or.inr ⟨by rfl, rfl⟩) (by assumption) ?_
                (try simp only [Act.put, List.setIfInBounds_toArray, List.set_cons_zero, List.set_cons_succ])
                refine takeH (i := 43) (oi := _) (v := undef) rfl (by kernel_rfl) (by kernel_rfl) (by kernel_rfl) (fun _ _ _ h => h) (Or.inr ⟨by rfl, rfl⟩) (by assumption) ?_
                (try simp only [Act.put, List.setIfInBounds_toArray, List.set_cons_zero, List.set_cons_succ])
                refine takeH (i := 44) (oi := _) (v := undef) rfl (by kernel_rfl) (by kernel_rfl) (by kernel_rfl) (fun _ _ _ h => h) (Or.inr ⟨by rfl, rfl⟩) (by assumption) ?_
                (try simp only [Act.put, List.setIfInBounds_toArray, List.set_cons_zero, List.set_cons_succ])
                refine takeH (i := 45) (oi := _) (v := undef) rfl (by kernel_rfl) (by kernel_rfl) (by kernel_rfl) (fun _ _ _ h => h) (Or.inr ⟨by rfl, rfl⟩) (by assumption) ?_
                (try simp only [Act.put, List.setIfInBounds_toArray, List.set_cons_zero, List.set_cons_succ])
                refine takeH (i := 46) (oi := _) (v := undef) rfl (by kernel_rfl) (by kernel_rfl) (by kernel_rfl) (fun _ _ _ h => h) (Or.inr ⟨by rfl, rfl⟩) (by assumption) ?_
                (try simp only [Act.put, List.setIfInBounds_toArray, List.set_cons_zero, List.set_cons_succ])
                refine takeH (i := 47) (oi := _) (v := undef) rfl (by kernel_rfl) (by kernel_rfl) (by kernel_rfl) (fun _ _ _ h => h) (Or.inr ⟨by rfl, rfl⟩) (by assumption) ?_
                (try simp only [Act.put, List.setIfInBounds_toArray, List.set_cons_zero, List.set_cons_succ])
                refine takeH (i := 48) (oi := _) (v := undef) rfl (by kernel_rfl) (by kernel_rfl) (by kernel_rfl) (fun _ _ _ h => h) (Or.inr ⟨by rfl, rfl⟩) (by assumption) ?_
                (try simp only [Act.put, List.setIfInBounds_toArray, List.set_cons_zero, List.set_cons_succ])
                refine takeH (i := 49) (oi := _) (v := undef) rfl (by kernel_rfl) (by kernel_rfl) (by kernel_rfl) (fun _ _ _ h => h) (Or.inr ⟨by rfl, rfl⟩) (by assumption) ?_
                (try simp only [Act.put, List.setIfInBounds_toArray, List.set_cons_zero, List.set_cons_succ])
                refine takeH (i := 50) (oi := _) (v := undef) rfl (by kernel_rfl) (by kernel_rfl) (by kernel_rfl) (fun _ _ _ h => h) (Or.inr ⟨by rfl, rfl⟩) (by assumption) ?_
                (try simp only [Act.put, List.setIfInBounds_toArray, List.set_cons_zero, List.set_cons_succ])
                refine takeH (i := 51) (oi := _) (v := undef) rfl (by kernel_rfl) (by kernel_rfl) (by kernel_rfl) (fun _ _ _ h => h) (Or.inr ⟨by rfl, rfl⟩) (by assumption) ?_
                (try simp only [Act.put, List.setIfInBounds_toArray, List.set_cons_zero, List.set_cons_succ])
                refine takeH (i := 52) (oi := _) (v := .bool false) rfl (by kernel_rfl) (by kernel_rfl) (by kernel_rfl) (fun _ _ _ h => h) (Or.inl ⟨by rfl, ?_⟩) (by assumption) ?_
                · intro w hSw; (try dsimp only at hSw); go_simp; done
                (try simp only [Act.put, List.setIfInBounds_toArray, List.set_cons_zero, List.set_cons_succ])
                refine takeH (i := 53) (oi := _) (v := .bool false) rfl (by kernel_rfl) (by kernel_rfl) (by kernel_rfl) (fun _ _ _ h => h) (Or.inl ⟨by rfl, ?_⟩) (by assumption) ?_
                · intro w hSw; (try dsimp only at hSw); go_simp; done
                (try simp only [Act.put, List.setIfInBounds_toArray, List.set_cons_zero, List.set_cons_succ])
                refine wpAnyH_done (by kernel_rfl) ?_ _
                refine NoPanic.normal ?_
                go_wp2_with fail
                go_roundw
                case rel => exact ⟨i + 1, _, by omega, by go_num, by rw [Hwr.out]; exact World.drewN_drewN wp m 1⟩
                case measure => simp [intOf] <;> omega
              · clear hiT
                go_wp2_with fail
                go_roundw
                case rel => exact ⟨r + 1, _, by omega, by go_num, by rw [Hwr.out, Hwp.out, World.drewN_drewN]⟩
                case measure => simp [intOf] <;> omega
          · obtain rfl : r = R := by omega
            go_wp2_with fail
            refine (J7.out _ _ _ _ (QB.out.below Hb0.out) (by omega)).mono ?_
            rintro e wz ⟨rfl, bz⟩
            have hbz := Hb0.out.trans (bz.mono Hb0.out.size)
            have hbq := QS.out.trans (hbz.mono QS.out.size)
            clear bz hbz
            go_wp2_with fail
            go_ret
            exact ⟨rfl, hbq⟩
end Go.Proofs.Ytbekfpgpeaoifaa.fnBoldPlay
