/- Contract: a part of a code and a byte more. -/
import Derived.Test.YtbekfpgpeaoifaaDrawR
import Derived.Laws.AppendOwnNone
namespace Go.Proofs.Ytbekfpgpeaoifaa
open Go.RowKit

/-- The call owns the slice v of bytes. -/
def OwnB (w : World) (base : Nat) (v : Value) (xs : List Int) : Prop := w.ownsRow base 5 1 v xs.length (xs.map (Value.int .u8)) ∧ ∀ x ∈ xs, 0 ≤ x ∧ x ≤ 255
theorem info_byte : (Try.prog.info? 5).map (fun i => (i.zero, i.size, i.bytes)) = some (some (.int .u8 0), 1, 1) := by kernel_rfl
theorem OwnB.bytes {w : World} {base : Nat} {v : Value} {xs : List Int} (h : OwnB w base v xs) (hl : xs.length ≤ 70000) : ∃ a c, v = .slice a xs.length c ∧ Bytes w a xs.length := by
  rcases Joins.ownsRow_forms h.1 with ⟨rfl, hn⟩ | ⟨g, cap, rfl⟩
  · exact ⟨none, 0, by rw [hn], hl, fun h0 => by omega⟩
  · refine ⟨_, _, rfl, hl, fun h0 => ⟨g, 0, rfl, (World.ownsRow.lt h.1 g rfl).2, fun j hj => ⟨xs.getD j 0, ?_, ?_⟩⟩⟩
    · rw [Nat.zero_add, World.ownsRow.cellAt h.1 j (by omega)]
      simp [List.getD, hj]
    · have : xs.getD j 0 ∈ xs := by simp [List.getD, hj]
      exact h.2 _ this
theorem choose_bytes {P : Nat → Int → Prop} : ∀ (m : Nat), (∀ j, j < m → ∃ x, P j x) → ∃ ys : List Int, ys.length = m ∧ ∀ j, j < m → P j (ys.getD j 0)
  | 0, _ => ⟨[], rfl, fun j hj => by omega⟩
  | m + 1, h => by
    obtain ⟨ys, hl, hy⟩ := choose_bytes m fun j hj => h j (by omega)
    obtain ⟨x, hx⟩ := h m (by omega)
    refine ⟨ys ++ [x], by simp [hl], fun j hj => ?_⟩
    by_cases e : j = m
    · subst e; simpa [List.getD, ← hl] using hx
    · have := hy j (by omega)
      simpa [List.getD, List.getElem?_append, show j < ys.length by omega] using this
theorem wp_appB {ops : Array Oper} {rest : List Oper} {o : Oper} {a : Act} {Q : Exit → Act → World → Prop} {w : World} (s x : Operand)
    (hgd : o.guard = none) (ho : o.op = .call { callee := .builtin .append, args := #[s, x], argTypes := #[22, 22] })
    (base : Nat) (v : Value) (xs : List Int) (hs : a.eval s = v) (hown : OwnB w base v xs) (ad : Option Addr) (m c : Nat) (hx : a.eval x = .slice ad m c) (hc : ad = none → c = 0) (hb : Bytes w ad m) (hl : xs.length ≤ 70000) (hbase : base ≤ w.heap.size)
    (h : ∀ v' w' (ys : List Int), ys.length = m → OwnB w' base v' (xs ++ ys) → w.grownBy w' v.ownBlock → wpList Try.prog ops Q rest (a.put o.dst v') w') : wpList Try.prog ops Q (o :: rest) a w := by
  obtain ⟨i0, hi0, hz0, hz1, hz2⟩ := info_parts info_byte
  have hm := hb.1
  cases ad with
  | none =>
    obtain rfl : m = 0 := by
      cases m with
      | zero => rfl
      | succ m => obtain ⟨b, off, he, _⟩ := hb.2 (by omega); cases he
    obtain rfl := hc rfl
    refine wpList_append_own_none hgd s x 22 ho base 5 i0 1 Try.underlying22 hi0 v _ _ hs hown.1 hx ?_
    exact h v w [] rfl (by rw [List.append_nil]; exact hown) (World.grownBy.refl _ _)
  | some p =>
    obtain ⟨ys, hyl, hy⟩ : ∃ ys : List Int, ys.length = m ∧ ∀ j, j < m → w.cell? (p.add j) = some (.int .u8 (ys.getD j 0)) ∧ 0 ≤ ys.getD j 0 ∧ ys.getD j 0 ≤ 255 := by
      refine choose_bytes (P := fun j x => w.cell? (p.add j) = some (.int .u8 x) ∧ 0 ≤ x ∧ x ≤ 255) m fun j hj => ?_
      obtain ⟨b, off, he, _, hcell⟩ := hb.2 (by omega)
      cases he
      obtain ⟨x, h1, h2⟩ := hcell j hj
      exact ⟨x, by rw [show (⟨b, off, none⟩ : Addr).add j = ⟨b, off + j, none⟩ by unfold Addr.add; split <;> simp_all]; exact h1, h2⟩
    refine wpList_append_own w hgd s x 22 ho base 5 i0 (.int .u8 0) 1 1 Try.underlying22 hi0 hz0 hz1 hz2 rfl (by decide) v xs.length (xs.map (Value.int .u8)) hs hown.1 p m c (ys.map (Value.int .u8)) hx (by simp [hyl]) ?_ ?_ ?_ ?_ hbase ?_
    · intro j u hu
      have hj : j < m := by
        rw [List.getElem?_map] at hu
        cases hq : ys[j]? with
        | none => rw [hq] at hu; cases hu
        | some y => have := (List.getElem?_eq_some_iff.1 hq).1; omega
      rw [(hy j hj).1]
      rw [List.getElem?_map, List.getElem?_eq_getElem (by omega)] at hu
      rw [← hu]
      simp [List.getD, show j < ys.length by omega]
    · intro u hu
      obtain ⟨y, _, rfl⟩ := List.mem_map.1 hu
      rfl
    · simp only [maxLen]; omega
    · omega
    · intro v' w' h1 h2 _
      refine h v' w' ys hyl ⟨?_, ?_⟩ h2
      · rw [List.length_append, List.map_append, hyl]; exact h1
      · intro y hy'
        rcases List.mem_append.1 hy' with hy' | hy'
        · exact hown.2 y hy'
        · obtain ⟨j, hj, rfl⟩ := List.mem_iff_getElem.1 hy'
          have := (hy j (by omega)).2
          simpa [List.getD, hj] using this
theorem ownB_empty (w : World) : OwnB (w.alloc (.cells #[] 5)) w.heap.size (.slice (some ⟨w.heap.size, 0, none⟩) 0 0) [] :=
  ⟨World.ownsRow_lit (size := 1) (e := 5) w #[] 0 (Nat.le_refl _) (by simp [maxLen]) (by simp), fun x hx => by cases hx⟩
theorem bytes_one (w : World) (x : Int) (h : 0 ≤ x ∧ x ≤ 255) : Bytes (w.alloc (.cells #[.int .u8 x] 5)) (some ⟨w.heap.size, 0, none⟩) 1 :=
  ⟨by omega, fun _ => ⟨_, _, rfl, by simp, fun j hj => ⟨x, by
    obtain rfl : j = 0 := by omega
    rw [World.cell?_alloc_at _ _ _ _ rfl]; rfl, h⟩⟩⟩
theorem OwnB.below {w w' : World} {base : Nat} {v : Value} {xs : List Int} (h : OwnB w base v xs) (hb : Below w.heap.size w w') : OwnB w' base v xs :=
  ⟨World.ownsRow.kept (row := none) h.1 ⟨hb.os, hb.tape, hb.output, hb.size, fun k hk _ => hb.block k hk⟩ (by cases v.ownBlock <;> simp), h.2⟩
/-- A slice of bytes. -/
def BytesV (w : World) (v : Value) : Prop := ∃ (a : Option Addr) (n c : Nat), v = .slice a n c ∧ Bytes w a n
theorem cut_end {w w' w2 : World} {v' v2 : Value} {x : Int} {ys ys2 : List Int} (ho : OwnB w' w.heap.size v' ([] ++ ys)) (hg : (w.alloc (.cells #[] 5)).grownBy w' (Value.slice (some ⟨w.heap.size, 0, none⟩) 0 0).ownBlock)
    (ho2 : OwnB w2 w.heap.size v2 (([] ++ ys) ++ ys2)) (hg2 : (w'.alloc (.cells #[.int .u8 x] 5)).grownBy w2 v'.ownBlock) (hy : ys.length ≤ 65536) (hy2 : ys2.length = 1) : BytesV w2 v2 ∧ Below w.heap.size w w2 := by
  obtain ⟨a, c, he, hb⟩ := ho2.bytes (by simp; omega)
  refine ⟨⟨_, _, _, he, hb⟩, ?_⟩
  have h0 := ((Below.refl w.heap.size w).alloc (Nat.le_refl _) (.cells #[] 5)).grown hg (by simp) fun k hk => by simp [Value.ownBlock] at hk; omega
  exact ((h0.alloc h0.size _).grown hg2 (by have := h0.size; simp; omega) fun k hk => (World.ownsRow.lt ho.1 k hk).1)
set_option maxHeartbeats 400000 in
/-- The part of the code behind its first byte, as the call's own. -/
theorem laws_vCut (a : Option Addr) (n cap : Nat) (w : World) (hn : n ≤ 65536) (hcap : n ≤ cap) (hc0 : a = none → cap = 0) (h : Bytes w a n) :
    Calls Try.prog 16 #[.slice a n cap, .int .i64 1] w fun e w' => ∃ v, e = .returned v ∧ BytesV w' v ∧ Below w.heap.size w w' := by
  have H := Lib.hid h
  have hcap2 : (n : Int) ≤ cap := by omega
  have He := Lib.hid (ownB_empty w)
  clear h
  by_cases h1 : (1 : Int) > n
  · obtain rfl : n = 0 := by omega
    cases a with
    | none =>
      obtain rfl := hc0 rfl
      go_enter Try.func16, Try.ntmps16
      go_wp2_with (first | (at_builtin; refine wp_appB (.tmp 11) (.tmp 14) rfl rfl w.heap.size _ [] rfl He.out _ _ _ rfl (fun _ => rfl) (H.out.below ((Below.refl _ _).alloc (Nat.le_refl _) _)) (by simp) (by simp) ?_; intro v' w' ys hyl ho hg) | (at_builtin; refine wp_appB (.tmp 15) (.tmp 18) rfl rfl w.heap.size _ _ rfl (ho.below ((Below.refl _ _).alloc (Nat.le_refl _) _)) _ 1 1 rfl (fun h => by cases h) (bytes_one w' 0 (by omega)) (by simp; omega) (by have := hg.size; simp at this ⊢; omega) ?_; intro v2 w2 ys2 hyl2 ho2 hg2))
      go_ret
      exact ⟨_, rfl, cut_end ho hg ho2 hg2 (by omega) hyl2⟩
    | some p =>
      go_enter Try.func16, Try.ntmps16
      go_wp2_with (first | (at_builtin; refine wp_appB (.tmp 11) (.tmp 14) rfl rfl w.heap.size _ [] rfl He.out _ _ _ rfl (fun h => by cases h) (H.out.below ((Below.refl _ _).alloc (Nat.le_refl _) _)) (by simp) (by simp) ?_; intro v' w' ys hyl ho hg) | (at_builtin; refine wp_appB (.tmp 15) (.tmp 18) rfl rfl w.heap.size _ _ rfl (ho.below ((Below.refl _ _).alloc (Nat.le_refl _) _)) _ 1 1 rfl (fun h => by cases h) (bytes_one w' 0 (by omega)) (by simp; omega) (by have := hg.size; simp at this ⊢; omega) ?_; intro v2 w2 ys2 hyl2 ho2 hg2))
      go_ret
      exact ⟨_, rfl, cut_end ho hg ho2 hg2 (by omega) hyl2⟩
  · obtain ⟨b, off, rfl, hbb, hcc⟩ := H.out.2 (by omega)
    have hb1 : ∀ o : Nat, o = off + 1 → Bytes w (some ⟨b, o, none⟩) (n - 1) := fun o ho => ⟨by omega, fun h0 => ⟨b, o, rfl, hbb, fun j hj => by
      obtain ⟨x, hx⟩ := hcc (j + 1) (by omega)
      exact ⟨x, by rw [ho, Nat.add_assoc, Nat.add_comm 1 j]; exact hx⟩⟩⟩
    have hb2 : n = 1 → Bytes w (some ⟨b, off, none⟩) 0 := fun _ => ⟨by omega, fun h0 => by omega⟩
    have Hb1 := Lib.hid hb1
    clear hcc hb1
    by_cases hcap1 : cap = 1
    · obtain rfl : n = 1 := by omega
      subst hcap1
      go_enter Try.func16, Try.ntmps16
      go_wp2_with (first | (at_builtin; refine wp_appB (.tmp 11) (.tmp 14) rfl rfl w.heap.size _ [] rfl He.out _ _ _ rfl (fun h => by cases h) ((hb2 rfl).below ((Below.refl _ _).alloc (Nat.le_refl _) _)) (by simp) (by simp) ?_; intro v' w' ys hyl ho hg) | (at_builtin; refine wp_appB (.tmp 15) (.tmp 18) rfl rfl w.heap.size _ _ rfl (ho.below ((Below.refl _ _).alloc (Nat.le_refl _) _)) _ 1 1 rfl (fun h => by cases h) (bytes_one w' 1 (by omega)) (by simp; omega) (by have := hg.size; simp at this ⊢; omega) ?_; intro v2 w2 ys2 hyl2 ho2 hg2))
      go_ret
      exact ⟨_, rfl, cut_end ho hg ho2 hg2 (by omega) hyl2⟩
    · go_enter Try.func16, Try.ntmps16
      go_wp2_with (first | (at_builtin; refine wp_appB (.tmp 11) (.tmp 14) rfl rfl w.heap.size _ [] rfl He.out _ _ _ rfl (fun h => by cases h) ((Hb1.out _ rfl).below ((Below.refl _ _).alloc (Nat.le_refl _) _)) (by simp) (by simp) ?_; intro v' w' ys hyl ho hg) | (at_builtin; refine wp_appB (.tmp 15) (.tmp 18) rfl rfl w.heap.size _ _ rfl (ho.below ((Below.refl _ _).alloc (Nat.le_refl _) _)) _ 1 1 rfl (fun h => by cases h) (bytes_one w' 1 (by omega)) (by simp; omega) (by have := hg.size; simp at this ⊢; omega) ?_; intro v2 w2 ys2 hyl2 ho2 hg2))
      go_ret
      exact ⟨_, rfl, cut_end ho hg ho2 hg2 (by omega) hyl2⟩
end Go.Proofs.Ytbekfpgpeaoifaa
