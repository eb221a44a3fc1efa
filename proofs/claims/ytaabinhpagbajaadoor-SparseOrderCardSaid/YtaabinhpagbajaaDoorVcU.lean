/- Maps whose keys are two numbers, and whose values are bytes. -/
import Derived.Test.YtaabinhpagbajaaDoorVcT
import Derived.Maps.RangeRun
set_option linter.unusedSimpArgs false
set_option linter.unusedVariables false
namespace Go.Vc
open Go Go.Sha
/-- An entry. -/
structure MpE where
  k : Nat
  i : Nat
  h : List Nat
  born : Nat
def mkey (k i : Nat) : Value := .agg #[.int .i64 k, .int .i64 i]
def MpE.e (x : MpE) : MapEntry := ⟨mkey x.k x.i, .agg (u8s x.h).toArray, x.born⟩
def mpO (es : List MpE) (clock : Nat) : Obj := .map (es.map MpE.e).toArray clock
/-- What a map holds of a key, and where. -/
def mpAt (k i : Nat) : List MpE → Nat → Option (Nat × MpE)
  | [], _ => none
  | x :: es, j => if x.k = k ∧ x.i = i then some (j, x) else mpAt k i es (j + 1)
/-- A map's type: keys of two numbers. -/
structure MapTy (P : Program) (t kt et : TypeId) (z : Value) : Prop where
  hu : P.underlying t = some (.map kt et)
  ck : ∀ (w : World) (em : Bool) (k i : Nat), (Instr.checkKey em 10000 kt (mkey k i)).run P w = .ok () w
  ks : ∃ fs, P.underlying kt = some (.struct fs)
  hk : kindsOf P 8 kt = some [.i64, .i64]
  hz : ∀ w : World, (zeroValue et).run P w = .ok z w
section
variable {P : Program} {t kt et : TypeId} {z : Value}
theorem run_checkKey_two {f0 f1 : Field} (hu : P.underlying kt = some (.struct #[f0, f1])) (n0 : f0.name ≠ "_") (n1 : f1.name ≠ "_") (h0 : P.underlying f0.type = some (.int .i64)) (h1 : P.underlying f1.type = some (.int .i64)) (o0 : f0.offset = 0) (o1 : f1.offset = 1) (m : Nat) (w : World) (em : Bool) (k i : Nat) :
    (Instr.checkKey em (m + 2) kt (mkey k i)).run P w = .ok () w := by
  have e0 : (Instr.checkKey em (m + 1) f0.type (.int .i64 k)).run P w = .ok () w := by simp [Instr.checkKey, run_underlying h0]
  have e1 : (Instr.checkKey em (m + 1) f1.type (.int .i64 i)).run P w = .ok () w := by simp [Instr.checkKey, run_underlying h1]
  have p0 : (part f0.type #[.int .i64 k, .int .i64 i] 0).run P w = .ok (.int .i64 k) w := by simp [part, isAgg, run_underlying h0]
  have p1 : (part f1.type #[.int .i64 k, .int .i64 i] 1).run P w = .ok (.int .i64 i) w := by simp [part, isAgg, run_underlying h1]
  unfold Instr.checkKey mkey
  simp only [Sem.run_bind, run_underlying hu, Result.andThen_ok]
  simp [n0, n1, o0, o1, p0, p1, e0, e1]
theorem run_equal_key (T : MapTy P t kt et z) (k i k' i' : Nat) (w : World) : (Op.equal kt (mkey k i) (mkey k' i')).run P w = .ok (decide (k' = k ∧ i' = i)) w := by
  obtain ⟨fs, hs⟩ := T.ks
  have sh : ∀ a b : Nat, Sh P kt [.i64, .i64] (mkey a b) := fun a b => ⟨.cons _ _ (.cons _ _ .nil), by rw [hs]; exact ⟨_, rfl⟩⟩
  obtain ⟨r, hr, hi⟩ := run_equal_C T.hk (sh k i) (sh k' i') w
  have : r = decide (k' = k ∧ i' = i) := by
    rw [Bool.eq_iff_iff, hi, decide_eq_true_iff]
    simp only [mkey, Value.cells, List.cons.injEq, Value.int.injEq, and_true, true_and]
    constructor
    · rintro ⟨h1, h2⟩; exact ⟨(Int.ofNat.inj h1).symm, (Int.ofNat.inj h2).symm⟩
    · rintro ⟨rfl, rfl⟩; exact ⟨rfl, rfl⟩
  rw [hr, this]
theorem run_findAsking (T : MapTy P t kt et z) (k i : Nat) (w : World) : ∀ (es : List MpE) (j : Nat), (Instr.findAsking kt (mkey k i) (es.map MpE.e) j).run P w = .ok ((mpAt k i es j).map fun p => (p.1, .agg (u8s p.2.h).toArray)) w
  | [], j => by simp [Instr.findAsking, mpAt]
  | x :: es, j => by
    have h := run_equal_key T k i x.k x.i w
    rw [List.map_cons]
    unfold Instr.findAsking mpAt
    simp only [MpE.e, Sem.run_bind, h, Result.andThen_ok]
    by_cases hx : x.k = k ∧ x.i = i
    · simp [hx]
    · simp only [hx, decide_false, Bool.false_eq_true, if_false]
      exact run_findAsking T k i w es (j + 1)
theorem run_findKey_two (T : MapTy P t kt et z) (k i : Nat) (w : World) (es : List MpE) : (Instr.findKey kt (mkey k i) (es.map MpE.e)).run P w = .ok ((mpAt k i es 0).map fun p => (p.1, .agg (u8s p.2.h).toArray)) w := by
  obtain ⟨fs, hs⟩ := T.ks
  cases es with
  | nil => simp [Instr.findKey, run_underlying hs, Instr.findNow, mpAt]
  | cons x es =>
    have hn : Instr.findNow (.struct fs) (mkey k i) ((x :: es).map MpE.e) 0 = none := by
      rw [List.map_cons]
      simp [Instr.findNow, Instr.sameNow]
    have ha := run_findAsking T k i w (x :: es) 0
    simp only [Instr.findKey, Sem.run_bind, run_underlying hs, Result.andThen_ok, hn]
    exact ha

def mpGet (k i : Nat) (es : List MpE) : List Nat := match mpAt k i es 0 with
  | some p => p.2.h
  | none => List.replicate 8 0
def mpUpd (k i : Nat) (h : List Nat) (es : List MpE) (clock : Nat) : List MpE × Nat := match mpAt k i es 0 with
  | some p => (es.set p.1 { p.2 with h := h }, clock)
  | none => (es ++ [⟨k, i, h, clock⟩], clock + 1)
def mpDel (k i : Nat) (es : List MpE) : List MpE := match mpAt k i es 0 with
  | some p => es.eraseIdx p.1
  | none => es
theorem mpAt_some {k i : Nat} : ∀ {es : List MpE} {j j' : Nat} {x : MpE}, mpAt k i es j = some (j', x) → j ≤ j' ∧ es[j' - j]? = some x ∧ x.k = k ∧ x.i = i
  | [], _, _, _, h => by cases h
  | y :: es, j, j', x, h => by
    unfold mpAt at h
    split at h
    · rename_i hy
      cases h
      exact ⟨Nat.le_refl _, by simp, hy⟩
    · obtain ⟨h1, h2, h3⟩ := mpAt_some h
      refine ⟨by omega, ?_, h3⟩
      rw [show j' - j = (j' - (j + 1)) + 1 by omega, List.getElem?_cons_succ]
      exact h2
theorem run_lookup_two (T : MapTy P t kt et (.agg (u8s (List.replicate 8 0)).toArray)) (k i : Nat) {w : World} {b clock : Nat} {es : List MpE} (hb : w.heap[b]? = some (mpO es clock)) :
    (Instr.lookup t (.map (some b)) (mkey k i) false).run P w = .ok (.agg (u8s (mpGet k i es)).toArray) w := by
  have hf := run_findKey_two T k i w es
  unfold mpGet
  unfold mpO at hb
  cases hm : mpAt k i es 0 with
  | none =>
    rw [hm] at hf
    simp [Instr.lookup, run_underlying T.hu, MapKept.run_getObj_map hb, T.ck, hf, T.hz]
  | some p =>
    rw [hm] at hf
    simp [Instr.lookup, run_underlying T.hu, MapKept.run_getObj_map hb, T.ck, hf]
theorem run_stays (k i : Nat) (w : World) : (Instr.keyThatStays (mkey k i) (mkey k i)).run P w = .ok (mkey k i) w := by
  simp [Instr.keyThatStays, mkey, Instr.sameBits]
theorem set_map_e (es : List MpE) (j : Nat) (x y : MpE) (f : MapEntry → MapEntry) (hx : es[j]? = some x) (hf : f x.e = y.e) : (es.map MpE.e).toArray.modify j f = ((es.set j y).map MpE.e).toArray := by
  apply Array.ext'
  rw [Array.toList_modify]
  simp only [List.map_set]
  obtain ⟨hj, hxx⟩ := List.getElem?_eq_some_iff.1 hx
  apply List.ext_getElem?
  intro n
  rw [List.getElem?_modify, List.getElem?_set, List.getElem?_map]
  by_cases hn : j = n
  · subst hn
    simp [hj, hxx, hf]
  · simp [hn]
theorem run_update_two (T : MapTy P t kt et z) (k i : Nat) (h : List Nat) {w : World} {b clock : Nat} {es : List MpE} (hb : w.heap[b]? = some (mpO es clock)) :
    (Instr.mapUpdate t (.map (some b)) (mkey k i) (.agg (u8s h).toArray)).run P w = .ok () (Go.ChangeMaps.setBlock w b (mpO (mpUpd k i h es clock).1 (mpUpd k i h es clock).2)) := by
  have hf := run_findKey_two T k i w es
  unfold mpUpd
  unfold mpO at hb ⊢
  cases hm : mpAt k i es 0 with
  | none =>
    rw [hm] at hf
    have e : (es.map MpE.e).toArray.push ⟨mkey k i, .agg (u8s h).toArray, clock⟩ = ((es ++ [(⟨k, i, h, clock⟩ : MpE)]).map MpE.e).toArray := by
      apply Array.ext'; simp [MpE.e]
    simp only [Option.map_none] at hf
    simp [Instr.mapUpdate, run_underlying T.hu, MapKept.run_getObj_map hb, T.ck, hf, MapKept.run_setObj_map _ hb, Go.ChangeMaps.setBlock, MpE.e]
  | some p =>
    obtain ⟨j, x⟩ := p
    obtain ⟨-, hx, hk, hi⟩ := mpAt_some hm
    rw [Nat.sub_zero] at hx
    have hg : ((es.map MpE.e).toArray[j]?).map (·.key) = some (mkey k i) := by
      rw [List.getElem?_toArray, List.getElem?_map, hx]
      simp [MpE.e, hk, hi]
    rw [hm] at hf
    simp only [Option.map_some] at hf
    have hkx : x.e.key = mkey k i := by simp [MpE.e, hk, hi]
    have e := set_map_e es j x { x with h := h } (fun e => { e with key := mkey k i, val := .agg (u8s h).toArray }) hx (by simp [MpE.e, hk, hi])
    simp [Instr.mapUpdate, run_underlying T.hu, MapKept.run_getObj_map hb, T.ck, hf, MapKept.run_setObj_map _ hb, Go.ChangeMaps.setBlock, hx, hkx, run_stays]
    simp at e
    rw [e]
theorem run_delete_two (T : MapTy P t kt et z) (k i : Nat) {w : World} {b clock : Nat} {es : List MpE} (hb : w.heap[b]? = some (mpO es clock)) (ty : TypeId) :
    (Builtin.delete_ #[t, kt] ty #[.map (some b), mkey k i]).run P w = .ok (.tuple #[]) (Go.ChangeMaps.setBlock w b (mpO (mpDel k i es) clock)) := by
  have hf := run_findKey_two T k i w es
  unfold mpDel
  unfold mpO at hb ⊢
  cases hm : mpAt k i es 0 with
  | none =>
    rw [hm] at hf
    simp [Builtin.delete_, run_underlying T.hu, MapKept.run_getObj_map hb, T.ck, hf, MapKept.run_setObj_map _ hb, Go.ChangeMaps.setBlock]
  | some p =>
    rw [hm] at hf
    have e : (es.map MpE.e).toArray.eraseIdxIfInBounds p.1 = ((es.eraseIdx p.1).map MpE.e).toArray := by
      apply Array.ext'
      obtain ⟨-, hx, _⟩ := mpAt_some (x := p.2) (j' := p.1) hm
      rw [Nat.sub_zero] at hx
      have hj := (List.getElem?_eq_some_iff.1 hx).1
      simp [Array.eraseIdxIfInBounds, hj, Go.ChangeMaps.map_eraseIdx]
    simp [Builtin.delete_, run_underlying T.hu, MapKept.run_getObj_map hb, T.ck, hf, MapKept.run_setObj_map _ hb, e, Go.ChangeMaps.setBlock, Go.ChangeMaps.map_eraseIdx]
end
end Go.Vc
