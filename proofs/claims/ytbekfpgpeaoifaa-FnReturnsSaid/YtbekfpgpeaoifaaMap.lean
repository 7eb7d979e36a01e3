/- Words for a map from pairs of ints to ints: what it holds, an entry that is grown, a walk over all entries. No conditions but those stated. -/
import Derived.Test.YtbekfpgpeaoifaaBase
import Derived.Maps.RangeWalk
import Derived.Maps.OwnOps
import Derived.Maps.Views
import Derived.WideKeyEntry
import Derived.DeepKeys4
import Derived.MapViews
namespace Go.Proofs.Ytbekfpgpeaoifaa
open Go.RowKit
open Go.ChangeMaps (setBlock heap_setBlock_same heap_setBlock_other)
open Go.WideElems (Fit rd rg pl rd_val findIdx_born findIdx_arr modify_last set_self)

theorem mp_laid : laidOutB Try.prog = true := by kernel_rfl
theorem mp_row : (85 : TypeId) < Try.prog.types.size := of_decide_eq_true (by kernel_rfl)
theorem mp_deep2 : Try.prog.keyTypeAt 2 85 = true := by kernel_rfl
theorem mp_deep : Try.prog.keyTypeAt (Try.prog.types.size + 1) 85 = true := by kernel_rfl
theorem mp_wide : (match Try.prog.underlying 85 with | some (.array _ _) | some (.struct _) => true | _ => false) = true := by kernel_rfl
theorem mp_law : Maps.Keyed Try.prog 85 := Maps.Keyed.of_law (deep_law_laid mp_laid (m := 2) (by omega) mp_row mp_deep2 mp_wide)
theorem mp_ut : Try.prog.underlying 86 = some (.map 85 3) := by kernel_rfl
theorem mp_ue : Try.prog.underlying 3 = some (.int .i64) := by kernel_rfl
theorem mp_zero (w : World) : (zeroValue 3).run Try.prog w = .ok (.int .i64 0) w := by kernel_rfl
/-- The key of a place and a tally. -/
def kV (x t : Int) : Value := .agg #[.int .i64 x, .int .i64 t]
noncomputable def kL (x t : Int) : Lit := .string (keyBytes [.int .i64 x, .int .i64 t])
def wfI (x : Int) : Bool := (Lit.int .i64 x).wf
theorem wfI_of {x : Int} (h : -1000000000000000 ≤ x ∧ x ≤ 1000000000000000) : wfI x = true := by
  have h1 : IntKind.i64.min = -9223372036854775808 := rfl
  have h2 : IntKind.i64.max = 9223372036854775807 := rfl
  show (decide (IntKind.i64.min ≤ x) && decide (x ≤ IntKind.i64.max)) = true
  rw [h1, h2]
  simp only [Bool.and_eq_true, decide_eq_true_eq]
  omega
theorem mp_fields0 : (match Try.prog.underlying 85 with | some (.struct fs) => (fs.toList.map fun f => (f.type, f.offset, f.name != "_")) == [(3, 0, true), (3, 1, true)] | _ => false) = true := by kernel_rfl
theorem mp_fields : ∃ fs, Try.prog.underlying 85 = some (.struct fs) ∧ ∃ f1 f2, fs = #[f1, f2] ∧ f1.type = 3 ∧ f1.offset = 0 ∧ (f1.name != "_") = true ∧ f2.type = 3 ∧ f2.offset = 1 ∧ (f2.name != "_") = true := by
  have h := mp_fields0
  split at h
  · rename_i fs hu
    refine ⟨fs, hu, ?_⟩
    have h := beq_iff_eq.1 h
    obtain ⟨l⟩ := fs
    match l, h with
    | [f1, f2], h =>
      simp at h
      exact ⟨f1, f2, rfl, h.1.1, h.1.2.1, by simpa using h.1.2.2, h.2.1, h.2.2.1, by simpa using h.2.2.2⟩
  · cases h
theorem mp_lit1 (n : Nat) (c : Value) : Try.prog.keyLits (n + 1) 3 [c] = (match c with | .int .i64 x => if wfI x = true then some [.int .i64 x] else none | _ => none) := by
  unfold Program.keyLits
  simp only [mp_ue]
  cases c <;> try rfl
  rename_i k x
  cases k <;> simp
  cases hx : wfI x <;> (unfold wfI at hx; simp [hx])
theorem mp_lits (c0 c1 : Value) : Try.prog.keyLits (Try.prog.types.size + 1) 85 [c0, c1] = (match c0, c1 with | .int .i64 x, .int .i64 t => if wfI x = true ∧ wfI t = true then some [.int .i64 x, .int .i64 t] else none | _, _ => none) := by
  have hs : ∃ n, Try.prog.types.size + 1 = n + 2 := by
    have h0 : (0 : Nat) < Try.prog.types.size := of_decide_eq_true (by kernel_rfl)
    generalize Try.prog.types.size = n at h0
    exact ⟨n - 1, by omega⟩
  obtain ⟨n, hn⟩ := hs
  rw [hn]
  have h2 : Try.prog.cellsOf 85 = 2 := by kernel_rfl
  have h1 : Try.prog.cellsOf 3 = 1 := by kernel_rfl
  obtain ⟨fs, hu, f1, f2, rfl, a1, a2, a3, b1, b2, b3⟩ := mp_fields
  unfold Program.keyLits
  simp only [hu, h2]
  simp [a1, a2, a3, b1, b2, b3, h1, mp_lit1]
  cases c0 <;> try rfl
  rename_i k0 x
  cases k0 <;> try rfl
  cases hx : wfI x
  · cases c1 with
    | int k1 t => cases k1 <;> simp [hx]
    | _ => simp [hx]
  · cases c1 with
    | int k1 t =>
      cases k1 with
      | i64 => cases ht : wfI t <;> simp [hx, ht]
      | _ => simp [hx]
    | _ => simp [hx]
theorem kL_eq {x t : Int} (hx : wfI x = true) (ht : wfI t = true) : keyOf Try.prog 85 (kV x t) = some (kL x t) := by
  obtain ⟨fs, hu, _⟩ := mp_fields
  unfold keyOf
  rw [hu]
  have h1 : Try.prog.keyType 85 = true := mp_deep
  have h2 : (kV x t).formed Try.prog 85 = true := by
    have h3 : Try.prog.cellsOf 85 = 2 := by kernel_rfl
    simp [kV, Value.formed, hu, h3]
  simp only [h1, h2]
  rw [show (kV x t).cells.toList = [.int .i64 x, .int .i64 t] from rfl, mp_lits]
  simp [hx, ht, kL]
theorem kL_inv {key : Value} {kl : Lit} (h : keyOf Try.prog 85 key = some kl) : ∃ x t, key = kV x t ∧ wfI x = true ∧ wfI t = true ∧ kl = kL x t := by
  obtain ⟨fs, hu, _⟩ := mp_fields
  have h3 : Try.prog.cellsOf 85 = 2 := by kernel_rfl
  have h' := h
  unfold keyOf at h
  rw [hu] at h
  simp only [] at h
  split at h
  · rename_i hc
    simp only [Bool.and_eq_true] at hc
    have hf := hc.2
    cases key <;> simp [Value.formed, hu] at hf
    rename_i cs
    rw [h3] at hf
    obtain ⟨l⟩ := cs
    match l, hf with
    | [c0, c1], _ =>
      rw [show (Value.agg #[c0, c1]).cells.toList = [c0, c1] from rfl, mp_lits] at h
      cases c0 with
      | int k0 x =>
        cases k0 with
        | i64 =>
          cases c1 with
          | int k1 t =>
            cases k1 with
            | i64 =>
              cases hx : wfI x
              · simp [hx] at h
              cases ht : wfI t
              · simp [hx, ht] at h
              refine ⟨x, t, rfl, hx, ht, ?_⟩
              simp [hx, ht] at h
              exact h.symm
            | _ => simp at h
          | _ => simp at h
        | _ => simp at h
      | _ => simp at h
  · cases h
theorem kL_inj {x t x' t' : Int} (hx : wfI x = true) (ht : wfI t = true) (hx' : wfI x' = true) (ht' : wfI t' = true) (h : kL x t = kL x' t') : x = x' ∧ t = t' := by
  have h1 := kL_eq hx ht
  have h2 := kL_eq hx' ht'
  rw [h] at h1
  have := mp_law.inj h1 h2
  simp [kV] at this
  exact this
theorem kL_key {x t : Int} (hx : wfI x = true) (ht : wfI t = true) : WideAt.IsKeyLit (kL x t) := mp_law.key (kL_eq hx ht)
/-- The map b holds F at every place and tally; its keys lie within k. -/
def Mp (w : World) (b n : Nat) (k : Int) (F : Int → Int → Int) : Prop :=
  ∃ D : DataW Unit, w.ownsMap Try.prog 85 (plainElem Try.prog 3) b n D ∧ (∀ x t, wfI x = true → wfI t = true → D.atKey (kL x t) (.lit (.int .i64 0)) = .lit (.int .i64 (F x t))) ∧
    (∀ x t, wfI x = true → wfI t = true → Maps.has D (kL x t) = true → -k ≤ x ∧ x ≤ k ∧ 0 ≤ t ∧ t ≤ k)
def mpu (F : Int → Int → Int) (x t c : Int) : Int → Int → Int := fun x' t' => if x' = x ∧ t' = t then c else F x' t'
theorem Mp.lt {w : World} {b n : Nat} {k : Int} {F : Int → Int → Int} (h : Mp w b n k F) : b < w.heap.size := by
  obtain ⟨D, h1, _⟩ := h
  exact h1.lt
theorem Mp.mono {w : World} {b n n' : Nat} {k k' : Int} {F : Int → Int → Int} (h : Mp w b n k F) (hn : n ≤ n') (hk : k ≤ k') : Mp w b n' k' F := by
  obtain ⟨D, h1, h2, h3⟩ := h
  refine ⟨D, h1.mono hn, h2, fun x t hx ht hh => ?_⟩
  have := h3 x t hx ht hh
  omega
theorem Mp.same {w : World} {b n : Nat} {k : Int} {F G : Int → Int → Int} (h : Mp w b n k F) (hG : ∀ x t, G x t = F x t) : Mp w b n k G := by
  have : G = F := funext fun x => funext fun t => hG x t
  rw [this]; exact h
theorem own_at {w w' : World} {b n : Nat} {D : DataW Unit} (h : w.ownsMap Try.prog 85 (plainElem Try.prog 3) b n D) (he : w'.heap[b]? = w.heap[b]?) : w'.ownsMap Try.prog 85 (plainElem Try.prog 3) b n D := by
  obtain ⟨es, clock, hb, rest⟩ := h
  exact ⟨es, clock, he.trans hb, rest⟩
theorem Mp.at {w w' : World} {b n : Nat} {k : Int} {F : Int → Int → Int} (h : Mp w b n k F) (he : w'.heap[b]? = w.heap[b]?) : Mp w' b n k F := by
  obtain ⟨D, h1, h2⟩ := h
  exact ⟨D, own_at h1 he, h2⟩
theorem Mp.kept {w w' : World} {b n : Nat} {k : Int} {F : Int → Int → Int} {row : Option Nat} (h : Mp w b n k F) (hg : w.grownBy w' row) (hr : some b ≠ row) : Mp w' b n k F := h.at (hg.block b h.lt hr)
theorem Mp.below {w w' : World} {b n : Nat} {k : Int} {F : Int → Int → Int} (h : Mp w b n k F) (hb : Below w.heap.size w w') : Mp w' b n k F := h.at (hb.block b h.lt)
theorem Mp.alloc {w : World} {b n : Nat} {k : Int} {F : Int → Int → Int} (h : Mp w b n k F) (o : Obj) : Mp (w.alloc o) b n k F := h.kept (World.grownBy_alloc w o none) (by simp)
theorem Mp.cell {w : World} {b n g i : Nat} {k : Int} {F : Int → Int → Int} (h : Mp w b n k F) (hg : b ≠ g) (u : Value) : Mp (w.setCell ⟨g, i, none⟩ u) b n k F := h.at (Below.heap_setCell w _ u b hg)
theorem Mp.made (w : World) (k : Int) : Mp (w.alloc (.map #[] 0)) w.heap.size 0 k fun _ _ => 0 :=
  ⟨.map [], World.ownsMap_made w _ _ _, fun _ _ _ _ => rfl, fun _ _ _ _ h => by cases h⟩
theorem own_isMap {w : World} {b n : Nat} {D : DataW Unit} (h : w.ownsMap Try.prog 85 (plainElem Try.prog 3) b n D) : Maps.IsMap D := by
  obtain ⟨es, he, _⟩ := h.entries mp_law
  exact ⟨es, he⟩
theorem put_mp {w : World} {b n : Nat} {k : Int} {F : Int → Int → Int} {D : DataW Unit} {x t c : Int} (hm : Maps.IsMap D) (hx : wfI x = true) (ht : wfI t = true) (hr : -k ≤ x ∧ x ≤ k ∧ 0 ≤ t ∧ t ≤ k)
    (h1 : w.ownsMap Try.prog 85 (plainElem Try.prog 3) b n (D.put (kL x t) (.lit (.int .i64 c))))
    (h2 : ∀ x t, wfI x = true → wfI t = true → D.atKey (kL x t) (.lit (.int .i64 0)) = .lit (.int .i64 (F x t)))
    (h3 : ∀ x t, wfI x = true → wfI t = true → Maps.has D (kL x t) = true → -k ≤ x ∧ x ≤ k ∧ 0 ≤ t ∧ t ≤ k) : Mp w b n k (mpu F x t c) := by
  refine ⟨_, h1, fun x' t' hx' ht' => ?_, fun x' t' hx' ht' hh => ?_⟩
  · unfold mpu
    by_cases e : x' = x ∧ t' = t
    · rw [if_pos e, e.1, e.2, Maps.atKey_put_same hm (kL_key hx ht)]
    · rw [if_neg e, Maps.atKey_put_other (fun e1 => e (kL_inj hx' ht' hx ht e1)), h2 x' t' hx' ht']
  · by_cases e : x' = x ∧ t' = t
    · rw [e.1, e.2]; exact hr
    · rw [Maps.has_put_other (fun e1 => e (kL_inj hx' ht' hx ht e1))] at hh
      exact h3 x' t' hx' ht' hh
theorem Mp.wf {w : World} {b n : Nat} {k : Int} {F : Int → Int → Int} (h : Mp w b n k F) {x t : Int} (hx : wfI x = true) (ht : wfI t = true) : wfI (F x t) = true := by
  obtain ⟨D, h1, h2, h3⟩ := h
  obtain ⟨c, _, hc, hw⟩ := h1.lookup_int mp_law mp_ut mp_ue (mp_zero w) (kL_eq hx ht)
  rw [h2 x t hx ht] at hc
  cases hc
  exact hw
theorem Mp.look {w : World} {b n : Nat} {k : Int} {F : Int → Int → Int} (h : Mp w b n k F) {x t : Int} (hx : wfI x = true) (ht : wfI t = true) : (Instr.lookup 86 (.map (some b)) (kV x t) false).run Try.prog w = .ok (.int .i64 (F x t)) w := by
  obtain ⟨D, h1, h2, h3⟩ := h
  obtain ⟨c, hr, hc, hw⟩ := h1.lookup_int mp_law mp_ut mp_ue (mp_zero w) (kL_eq hx ht)
  rw [h2 x t hx ht] at hc
  cases hc
  exact hr
theorem Mp.put {w : World} {b n : Nat} {k : Int} {F : Int → Int → Int} (h : Mp w b n k F) (hn : n < maxLen) {x t c : Int} (hx : wfI x = true) (ht : wfI t = true) (hc : wfI c = true) (hr : -k ≤ x ∧ x ≤ k ∧ 0 ≤ t ∧ t ≤ k) :
    ∃ w', (Instr.mapUpdate 86 (.map (some b)) (kV x t) (.int .i64 c)).run Try.prog w = .ok () w' ∧ Mp w' b (n + 1) k (mpu F x t c) ∧ w.grownBy w' (some b) := by
  obtain ⟨D, h1, h2, h3⟩ := h
  obtain ⟨w', a1, a2, a3⟩ := h1.update mp_law mp_ut hn (kL_eq hx ht) (plainElem_int mp_ue hc)
  exact ⟨w', a1, put_mp (own_isMap h1) hx ht hr a2 h2 h3, a3⟩
/-- An entry is found or made, and then stored to: as one store. -/
theorem entry_store {H : Type} {P : Program} {w : World} {t k e : TypeId} {R : Value → Option (DataW H × List MemPlace)} {b : Nat} {es : Array MapEntry} {clock : Nat} (K : Maps.Keyed P k) (ht : P.underlying t = some (.map k e)) {z : Value} (hz : ∀ u : World, (zeroValue e).run P u = .ok z u) (hb : w.heap[b]? = some (.map es clock)) (F : Fit P k R es clock)
    {key : Value} {kl : Lit} (hkey : keyOf P k key = some kl) :
    ∃ (v0 : Value) (st : Nat) (es1 : Array MapEntry) (clock1 : Nat), (Instr.mapEntry t (.map (some b)) key).run P w = .ok (.tuple #[v0, goInt st]) (setBlock w b (.map es1 clock1)) ∧
      (Instr.lookup t (.map (some b)) key false).run P w = .ok v0 w ∧ (Instr.mapUpdate t (.map (some b)) key v0).run P w = .ok () (setBlock w b (.map es1 clock1)) ∧
      ∀ (w2 : World) (val : Value), w2.heap[b]? = some (.map es1 clock1) → ∃ es' clock', (Instr.entryStore t (.map (some b)) (goInt st) val).run P w2 = .ok () (setBlock w2 b (.map es' clock')) ∧
        (Instr.mapUpdate t (.map (some b)) key val).run P w = .ok () (setBlock w b (.map es' clock')) := by
  obtain ⟨s1, s2, _⟩ := F.stamped
  rcases K.find w hkey es.toList F.keys with ⟨h1, h2⟩ | ⟨j, e0, h1, h2, h3⟩
  · refine ⟨z, clock, es.push ⟨key, z, clock⟩, clock + 1, ?_, ?_, ?_, fun w2 val hw2 => ⟨es.push ⟨key, val, clock⟩, clock + 1, ?_, ?_⟩⟩
    · simp [Instr.mapEntry, run_underlying ht, MapKept.run_getObj_map hb, K.check w false hkey, h1, hz, MapKept.run_setObj_map _ hb, Result.andThen, setBlock]
    · simp [Instr.lookup, run_underlying ht, MapKept.run_getObj_map hb, K.check w _ hkey, h1, hz, Result.andThen]
    · simp [Instr.mapUpdate, run_underlying ht, MapKept.run_getObj_map hb, K.check w false hkey, h1, MapKept.run_setObj_map _ hb, Result.andThen, setBlock]
    · have hidx : (es.push ⟨key, z, clock⟩).findIdx? (fun e => ((e.born : Nat) : Int) == ((clock : Nat) : Int)) = some es.size := by
        rw [findIdx_arr]
        have := findIdx_born (l := (es.push ⟨key, z, clock⟩).toList) (j := es.size) (e0 := ⟨key, z, clock⟩) (by
          simp only [Array.toList_push, List.map_append, List.map_cons, List.map_nil]
          refine List.nodup_append.2 ⟨s2, by simp, fun a ha c hc e1 => ?_⟩
          simp only [List.mem_singleton] at hc
          obtain ⟨x, hx, rfl⟩ := List.mem_map.1 ha
          have := s1 x hx
          omega) (by simp)
        exact this
      have hmod : (es.push ⟨key, z, clock⟩).modify es.size (fun e => { e with val := val }) = es.push ⟨key, val, clock⟩ := by
        apply Array.ext'
        rw [Array.toList_modify, Array.toList_push, Array.toList_push, ← Array.length_toList, modify_last]
      simp [Instr.entryStore, MapKept.run_getObj_map hw2, asInt, asIntOf, goInt, hidx, hmod, MapKept.run_setObj_map _ hw2, Result.andThen, setBlock]
    · simp [Instr.mapUpdate, run_underlying ht, MapKept.run_getObj_map hb, K.check w false hkey, h1, MapKept.run_setObj_map _ hb, Result.andThen, setBlock]
  · have hj : es[j]? = some e0 := by simpa using h2
    have hsame : es.modify j (fun e => { e with key := key }) = es := by
      apply Array.ext'
      rw [Array.toList_modify, ChangeMaps.modify_eq_set _ _ _ _ h2]
      have : ({ e0 with key := key } : MapEntry) = e0 := by rw [← h3]
      rw [this]
      exact set_self _ _ _ h2
    have hsame2 : es.modify j (fun e => { e with key := key, val := e0.val }) = es := by
      apply Array.ext'
      rw [Array.toList_modify, ChangeMaps.modify_eq_set _ _ _ _ h2]
      have : ({ e0 with key := key, val := e0.val } : MapEntry) = e0 := by rw [← h3]
      rw [this]
      exact set_self _ _ _ h2
    refine ⟨e0.val, e0.born, es, clock, ?_, ?_, ?_, fun w2 val hw2 => ⟨es.modify j (fun e' => { e' with key := key, val := val }), clock, ?_, ?_⟩⟩
    · simp [Instr.mapEntry, run_underlying ht, MapKept.run_getObj_map hb, K.check w false hkey, h1, hj, h3, K.stays w hkey, hsame, MapKept.run_setObj_map _ hb, Result.andThen, setBlock]
    · simp [Instr.lookup, run_underlying ht, MapKept.run_getObj_map hb, K.check w _ hkey, h1, Result.andThen]
    · simp [Instr.mapUpdate, run_underlying ht, MapKept.run_getObj_map hb, K.check w false hkey, h1, hj, h3, K.stays w hkey, hsame2, MapKept.run_setObj_map _ hb, Result.andThen, setBlock]
    · have hidx : es.findIdx? (fun e => ((e.born : Nat) : Int) == ((e0.born : Nat) : Int)) = some j := by
        rw [findIdx_arr]
        exact findIdx_born s2 h2
      have hmod : es.modify j (fun e => { e with val := val }) = es.modify j (fun e' => { e' with key := key, val := val }) := by
        apply Array.ext'
        rw [Array.toList_modify, Array.toList_modify, ChangeMaps.modify_eq_set _ _ _ _ h2, ChangeMaps.modify_eq_set _ _ _ _ h2, ← h3]
      simp [Instr.entryStore, MapKept.run_getObj_map hw2, asInt, asIntOf, goInt, hidx, hmod, MapKept.run_setObj_map _ hw2, Result.andThen, setBlock]
    · simp [Instr.mapUpdate, run_underlying ht, MapKept.run_getObj_map hb, K.check w false hkey, h1, hj, h3, K.stays w hkey, MapKept.run_setObj_map _ hb, Result.andThen, setBlock]
/-- The entry with the stamp st, behind 'mapEntry': a store to it is a store at its key. -/
def Ent (w : World) (b : Nat) (st : Int) (n : Nat) (k : Int) (F : Int → Int → Int) (x t : Int) : Prop :=
  ∃ es1 clock1, w.heap[b]? = some (.map es1 clock1) ∧ ∀ (w2 : World) (c : Int), w2.heap[b]? = some (.map es1 clock1) → wfI c = true →
    ∃ w3, (Instr.entryStore 86 (.map (some b)) (.int .i64 st) (.int .i64 c)).run Try.prog w2 = .ok () w3 ∧ Mp w3 b (n + 1) k (mpu F x t c) ∧ w2.grownBy w3 (some b)
theorem grown_setBlock {w : World} {b : Nat} {es : Array MapEntry} {cl : Nat} {o' : Obj} (hb : w.heap[b]? = some (.map es cl)) : w.grownBy (setBlock w b o') (some b) :=
  ⟨rfl, rfl, rfl, by simp [setBlock], fun i _ hi => heap_setBlock_other hb _ (fun e => hi (by rw [e]))⟩
theorem goInt_eq (st : Nat) : goInt st = .int .i64 (st : Int) := rfl
theorem Mp.entry {w : World} {b n : Nat} {k : Int} {F : Int → Int → Int} (h : Mp w b n k F) (hn : n < maxLen) {x t : Int} (hx : wfI x = true) (ht : wfI t = true) (hr : -k ≤ x ∧ x ≤ k ∧ 0 ≤ t ∧ t ≤ k) :
    ∃ (st : Int) (w1 : World), (Instr.mapEntry 86 (.map (some b)) (kV x t)).run Try.prog w = .ok (.tuple #[.int .i64 (F x t), .int .i64 st]) w1 ∧ Mp w1 b (n + 1) k F ∧ Ent w1 b st n k F x t ∧ w.grownBy w1 (some b) := by
  have hwf := h.wf hx ht
  have hlook := h.look hx ht
  obtain ⟨D, h1, h2, h3⟩ := h
  have hm := own_isMap h1
  have hown := h1
  obtain ⟨es, clock, hb, hFit, hs, hD⟩ := h1
  obtain ⟨v0, st, es1, clock1, a1, a2, a3, a4⟩ := entry_store mp_law mp_ut mp_zero hb hFit (kL_eq hx ht)
  have hv0 : v0 = .int .i64 (F x t) := by
    rw [hlook] at a2
    simpa using a2.symm
  subst hv0
  have hsame := heap_setBlock_same hb (Obj.map es1 clock1)
  refine ⟨(st : Int), _, a1, ?_, ⟨es1, clock1, hsame, fun w2 c hw2 hc => ?_⟩, grown_setBlock hb⟩
  · obtain ⟨w', b1, b2, b3⟩ := hown.update mp_law mp_ut hn (kL_eq hx ht) (plainElem_int mp_ue hwf)
    rw [a3] at b1
    have hw' : setBlock w b (.map es1 clock1) = w' := by simpa using b1
    subst hw'
    refine (put_mp hm hx ht hr b2 h2 h3).same fun x' t' => ?_
    unfold mpu
    split
    · rename_i e; rw [e.1, e.2]
    · rfl
  · obtain ⟨es', clock', c1, c2⟩ := a4 w2 (.int .i64 c) hw2
    obtain ⟨w', b1, b2, b3⟩ := hown.update mp_law mp_ut hn (kL_eq hx ht) (plainElem_int mp_ue hc)
    rw [c2] at b1
    have hw' : setBlock w b (.map es' clock') = w' := by simpa using b1
    subst hw'
    have e1 := heap_setBlock_same hb (Obj.map es' clock')
    have e2 := heap_setBlock_same hw2 (Obj.map es' clock')
    exact ⟨_, c1, put_mp hm hx ht hr (own_at b2 (e2.trans e1.symm)) h2 h3, grown_setBlock hw2⟩
theorem Ent.lt {w : World} {b : Nat} {st : Int} {n : Nat} {k : Int} {F : Int → Int → Int} {x t : Int} (h : Ent w b st n k F x t) : b < w.heap.size := by
  obtain ⟨es, c, h1, _⟩ := h
  exact (Array.getElem?_eq_some_iff.1 h1).1
theorem Ent.at {w w' : World} {b : Nat} {st : Int} {n : Nat} {k : Int} {F : Int → Int → Int} {x t : Int} (h : Ent w b st n k F x t) (he : w'.heap[b]? = w.heap[b]?) : Ent w' b st n k F x t := by
  obtain ⟨es, c, h1, h2⟩ := h
  exact ⟨es, c, he.trans h1, h2⟩
theorem Ent.store {w : World} {b : Nat} {st : Int} {n : Nat} {k : Int} {F : Int → Int → Int} {x t : Int} (h : Ent w b st n k F x t) {c : Int} (hc : wfI c = true) :
    ∃ w3, (Instr.entryStore 86 (.map (some b)) (.int .i64 st) (.int .i64 c)).run Try.prog w = .ok () w3 ∧ Mp w3 b (n + 1) k (mpu F x t c) ∧ w.grownBy w3 (some b) := by
  obtain ⟨es, cl, h1, h2⟩ := h
  exact h2 w c h1 hc
/-- 'for s, c := range m' under way: left says which places and tallies are still to come. -/
def Rg (w : World) (b r n : Nat) (k : Int) (F : Int → Int → Int) (left : Int → Int → Bool) (cnt : Nat) : Prop :=
  ∃ (D : DataW Unit) (L : Lit → Bool), w.ranges Try.prog 85 (plainElem Try.prog 3) b r n D L cnt ∧ (∀ x t, wfI x = true → wfI t = true → D.atKey (kL x t) (.lit (.int .i64 0)) = .lit (.int .i64 (F x t))) ∧
    (∀ x t, wfI x = true → wfI t = true → Maps.has D (kL x t) = true → -k ≤ x ∧ x ≤ k ∧ 0 ≤ t ∧ t ≤ k) ∧ (∀ kl, L kl = true → Maps.has D kl = true) ∧ (∀ x t, left x t = (wfI x && wfI t && L (kL x t)))
theorem Rg.mp {w : World} {b r n : Nat} {k : Int} {F : Int → Int → Int} {left : Int → Int → Bool} {cnt : Nat} (h : Rg w b r n k F left cnt) : Mp w b n k F := by
  obtain ⟨D, L, h1, h2, h3, _⟩ := h
  exact ⟨D, h1.owns, h2, h3⟩
theorem Rg.left_eq {w : World} {b r n : Nat} {k : Int} {F : Int → Int → Int} {left : Int → Int → Bool} {cnt : Nat} (h : Rg w b r n k F left cnt) : w.rangeLeft b r = cnt := by
  obtain ⟨D, L, h1, _⟩ := h
  exact h1.left_eq
theorem Rg.lt {w : World} {b r n : Nat} {k : Int} {F : Int → Int → Int} {left : Int → Int → Bool} {cnt : Nat} (h : Rg w b r n k F left cnt) : b < w.heap.size ∧ r < w.heap.size ∧ r ≠ b := by
  obtain ⟨D, L, h1, _⟩ := h
  exact ⟨h1.owns.lt, h1.lt, h1.ne⟩
theorem Rg.at {w w' : World} {b r n : Nat} {k : Int} {F : Int → Int → Int} {left : Int → Int → Bool} {cnt : Nat} (h : Rg w b r n k F left cnt) (hb : w'.heap[b]? = w.heap[b]?) (hr : w'.heap[r]? = w.heap[r]?) : Rg w' b r n k F left cnt := by
  obtain ⟨D, L, h1, h2⟩ := h
  obtain ⟨es, clock, since, seen, c0, a1, a2, a3, a4, a5, a6⟩ := h1
  exact ⟨D, L, ⟨es, clock, since, seen, c0, hb.trans a1, a2, a3, a4, hr.trans a5, a6⟩, h2⟩
theorem own_size {w : World} {b n : Nat} {D : DataW Unit} (h : w.ownsMap Try.prog 85 (plainElem Try.prog 3) b n D) : Maps.size D ≤ n := by
  obtain ⟨es, clock, hb, F, hs, rfl⟩ := h
  simp only [Maps.size, length_sorted, List.length_map, Array.length_toList]
  exact hs
section
variable (w : World) {ops : Array Oper} {rest : List Oper} {o : Oper} {a : Act} {Q : Exit → Act → World → Prop}
theorem wp_range (hg : o.guard = none) (m : Operand) (hop : o.op = Op.range 86 m) {b n : Nat} {k : Int} {F : Int → Int → Int} (hm : a.eval m = .map (some b)) (h : Mp w b n k F) (hF : ∀ x t, ¬ (-k ≤ x ∧ x ≤ k ∧ 0 ≤ t ∧ t ≤ k) → F x t = 0) (hk : k ≤ 1000)
    (hK : ∀ (w' : World) (left : Int → Int → Bool) (cnt : Nat), Rg w' b w.heap.size n k F left cnt → (∀ x t, left x t = false → F x t = 0) → cnt ≤ n → w.grownBy w' none → w'.heap.size = w.heap.size + 1 → wpList Try.prog ops Q rest (a.put o.dst (.pointer (some ⟨w.heap.size, 0, none⟩))) w') :
    wpList Try.prog ops Q (o :: rest) a w := by
  obtain ⟨D, h1, h2, h3⟩ := h
  refine wpList_range_own w hg m _ hop _ _ mp_law mp_ut _ b n D hm h1 fun w' hr hgr hsz => ?_
  refine hK w' (fun x t => wfI x && wfI t && Maps.has D (kL x t)) (Maps.size D) ⟨D, Maps.has D, hr, h2, h3, fun _ h => h, fun _ _ => rfl⟩ (fun x t hl => ?_) (own_size h1) hgr hsz
  by_cases hin : -k ≤ x ∧ x ≤ k ∧ 0 ≤ t ∧ t ≤ k
  · have hx : wfI x = true := wfI_of (by omega)
    have ht : wfI t = true := wfI_of (by omega)
    simp only [hx, ht, Bool.true_and] at hl
    have := h2 x t hx ht
    rw [Maps.atKey_of_not_has hl] at this
    simpa using this.symm
  · exact hF x t hin
theorem wp_next (hg : o.guard = none) (it : Operand) (hop : o.op = Op.next it false) {b r n : Nat} {k : Int} {F : Int → Int → Int} {left : Int → Int → Bool} {cnt : Nat} (hit : a.eval it = .pointer (some ⟨r, 0, none⟩)) (h : Rg w b r n k F left cnt) (hk : k ≤ 1000)
    (hDone : (∀ x t, left x t = false) → wpList Try.prog ops Q rest (a.put o.dst (.tuple #[.bool false])) w)
    (hMore : ∀ (x t : Int) (w' : World) (cnt' : Nat), left x t = true → (-k ≤ x ∧ x ≤ k ∧ 0 ≤ t ∧ t ≤ k) → Rg w' b r n k F (fun p q => left p q && !(decide (p = x) && decide (q = t))) cnt' → cnt' < cnt → w.grownBy w' (some r) → w'.heap.size = w.heap.size →
      (Instr.entry (.pointer (some ⟨r, 0, none⟩))).run Try.prog w' = .ok (.tuple #[.agg #[.int .i64 x, .int .i64 t], .int .i64 (F x t)]) w' → wpList Try.prog ops Q rest (a.put o.dst (.tuple #[.bool true, .agg #[.int .i64 x, .int .i64 t], .int .i64 (F x t)])) w') :
    wpList Try.prog ops Q (o :: rest) a w := by
  obtain ⟨D, L, h1, h2, h3, h4, h5⟩ := h
  refine wpList_next_ranges (α := { p : Int × Int // wfI p.1 = true ∧ wfI p.2 = true }) (β := Int) w hg it hop _ mp_law _ (fun p => kV p.1.1 p.1.2) (Value.int .i64)
    (fun key kl hkey => by obtain ⟨x, t, rfl, hx, ht, _⟩ := kL_inv hkey; exact ⟨⟨(x, t), hx, ht⟩, rfl⟩) (fun v y hv => by obtain ⟨c, rfl, _⟩ := plainElem_int_inv mp_ue hv; exact ⟨c, rfl⟩) b r n D L cnt hit h1 (fun _ hl => hDone fun x t => by rw [h5, hl]; simp) ?_
  rintro ⟨⟨x, t⟩, hx, ht⟩ c kl y w' cnt' hkey hl hR hat hr' hlt hgr hsz hen
  dsimp only at hx ht hkey hen
  rw [kL_eq hx ht] at hkey
  cases hkey
  obtain ⟨c', hc, rfl, hcw⟩ := plainElem_int_inv mp_ue hR
  cases hc
  have e1 := h2 x t hx ht
  rw [hat] at e1
  simp only [DataW.lit.injEq, Lit.int.injEq, true_and] at e1
  subst e1
  refine hMore x t w' cnt' (by rw [h5, hx, ht, hl]; rfl) (h3 x t hx ht (h4 _ hl)) ⟨D, _, hr', h2, h3, fun kl' hkl' => ?_, fun p q => ?_⟩ hlt hgr hsz hen
  · simp only [Bool.and_eq_true] at hkl'
    exact h4 _ hkl'.1
  · show (left p q && _) = _
    rw [h5]
    cases hp : wfI p
    · simp
    cases hq : wfI q
    · simp
    simp only [Bool.true_and]
    congr 1
    by_cases e : p = x ∧ q = t
    · rw [e.1, e.2, WideAt.sameKey_self (kL_key hx ht)]; simp
    · rw [Maps.sameKey_ne (fun e' => e (kL_inj hp hq hx ht e'))]
      have e3 : (decide (p = x) && decide (q = t)) = false := by
        cases h : (decide (p = x) && decide (q = t))
        · rfl
        · simp only [Bool.and_eq_true, decide_eq_true_eq] at h; exact absurd h e
      rw [e3]
theorem wp_put (hg : o.guard = none) (m x v : Operand) (hop : o.op = Op.insert 86 m x v) {b n : Nat} {k : Int} {F : Int → Int → Int} (hm : a.eval m = .map (some b)) (h : Mp w b n k F) (hn : n < maxLen) {p t c : Int} (hx : a.eval x = .agg #[.int .i64 p, .int .i64 t]) (hv : a.eval v = .int .i64 c)
    (hr : -k ≤ p ∧ p ≤ k ∧ 0 ≤ t ∧ t ≤ k) (hk : k ≤ 1000) (hc : wfI c = true)
    (hK : ∀ w', Mp w' b (n + 1) k (mpu F p t c) → w.grownBy w' (some b) → wpList Try.prog ops Q rest (a.put o.dst undef) w') :
    wpList Try.prog ops Q (o :: rest) a w := by
  refine wpList_plain hg fun K' hK' => ?_
  obtain ⟨w', hrun, r1, r2⟩ := h.put hn (wfI_of (x := p) (by omega)) (wfI_of (x := t) (by omega)) hc hr
  unfold Oper.wp
  rw [show (kV p t) = .agg #[.int .i64 p, .int .i64 t] from rfl] at hrun
  simp [execOp, hop, hm, hx, hv, hrun, Result.andThen]
  exact hK' _ _ (hK w' r1 r2)
end
/-- The same at operations of a region that draws its order. -/
theorem st_look {ops : Array Oper} {o : Oper} {a : Act} {K : Act → World → Prop} {Q : Exit → Act → World → Prop} {E : Prop} {w : World} (hgd : o.guard = none) (m x : Operand) (hop : o.op = Op.lookup 86 m x false) {b n : Nat} {k : Int} {F : Int → Int → Int} {p t : Int}
    (hm : a.eval m = .map (some b)) (h : Mp w b n k F) (hx : a.eval x = .agg #[.int .i64 p, .int .i64 t]) (hr : -k ≤ p ∧ p ≤ k ∧ 0 ≤ t ∧ t ≤ k) (hk : k ≤ 1000) (hK : K (a.put o.dst (.int .i64 (F p t))) w) :
    if Region.wanted o (yielded ops a.tmps) = true then Oper.wp Try.prog o a w K Q else E := by
  have hw : Region.wanted o (yielded ops a.tmps) = true := by simp [Region.wanted, hgd]
  rw [if_pos hw]
  have hrun := h.look (x := p) (t := t) (wfI_of (by omega)) (wfI_of (by omega))
  rw [show (kV p t) = .agg #[.int .i64 p, .int .i64 t] from rfl] at hrun
  unfold Oper.wp
  simp [execOp, hop, hm, hx, hrun, Result.andThen]
  exact hK
theorem st_entry {ops : Array Oper} {o : Oper} {a : Act} {K : Act → World → Prop} {Q : Exit → Act → World → Prop} {E : Prop} {w : World} (hgd : o.guard = none) (m x : Operand) (hop : o.op = Op.mapEntry 86 m x) {b n : Nat} {k : Int} {F : Int → Int → Int} {p t : Int}
    (hm : a.eval m = .map (some b)) (h : Mp w b n k F) (hn : n < maxLen) (hx : a.eval x = .agg #[.int .i64 p, .int .i64 t]) (hr : -k ≤ p ∧ p ≤ k ∧ 0 ≤ t ∧ t ≤ k) (hk : k ≤ 1000)
    (hK : ∀ (st : Int) (w1 : World), Mp w1 b (n + 1) k F → Ent w1 b st n k F p t → w.grownBy w1 (some b) → K (a.put o.dst (.tuple #[.int .i64 (F p t), .int .i64 st])) w1) :
    if Region.wanted o (yielded ops a.tmps) = true then Oper.wp Try.prog o a w K Q else E := by
  have hw : Region.wanted o (yielded ops a.tmps) = true := by simp [Region.wanted, hgd]
  rw [if_pos hw]
  obtain ⟨st, w1, hrun, r1, r2, r3⟩ := h.entry hn (x := p) (t := t) (wfI_of (by omega)) (wfI_of (by omega)) hr
  rw [show (kV p t) = .agg #[.int .i64 p, .int .i64 t] from rfl] at hrun
  unfold Oper.wp
  simp [execOp, hop, hm, hx, hrun, Result.andThen]
  exact hK st w1 r1 r2 r3
theorem st_store {ops : Array Oper} {o : Oper} {a : Act} {K : Act → World → Prop} {Q : Exit → Act → World → Prop} {E : Prop} {w : World} (hgd : o.guard = none) (m s v : Operand) (hop : o.op = Op.entryStore 86 m s v) {b n : Nat} {k : Int} {F : Int → Int → Int} {p t st c : Int}
    (hm : a.eval m = .map (some b)) (h : Ent w b st n k F p t) (hs : a.eval s = .int .i64 st) (hv : a.eval v = .int .i64 c) (hc : wfI c = true)
    (hK : ∀ (w1 : World), Mp w1 b (n + 1) k (mpu F p t c) → w.grownBy w1 (some b) → K (a.put o.dst undef) w1) :
    if Region.wanted o (yielded ops a.tmps) = true then Oper.wp Try.prog o a w K Q else E := by
  have hw : Region.wanted o (yielded ops a.tmps) = true := by simp [Region.wanted, hgd]
  rw [if_pos hw]
  obtain ⟨w1, hrun, r1, r2⟩ := h.store hc
  unfold Oper.wp
  simp [execOp, hop, hm, hs, hv, hrun, Result.andThen]
  exact hK w1 r1 r2
end Go.Proofs.Ytbekfpgpeaoifaa
