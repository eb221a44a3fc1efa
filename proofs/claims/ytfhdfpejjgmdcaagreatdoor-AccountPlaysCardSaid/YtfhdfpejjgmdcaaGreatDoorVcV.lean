import Derived.Test.YtfhdfpejjgmdcaaGreatDoorVcT
import Derived.Maps.RangeRun
set_option linter.unusedSimpArgs false
set_option linter.unusedVariables false
/- Maps whose keys are two numbers, and whose values are bytes. -/
namespace Go.Vc
open Go Go.Sha
/-- An entry. -/
structure MpE where
  k : Nat
  i : Nat
  h : List Nat
  born : Nat
def mkey (k i : Nat) : Value := .agg #[.int .i64 k, .int .i64 i]
def MpE.e (x : MpE) : MapEntry := ⟨mkey x.k x.i, .agg (u8s x.h).toArray, x.born⟩
def mpO (es : List MpE) (clock : Nat) : Obj := .map (es.map MpE.e).toArray clock
/-- What a map holds of a key, and where. -/
def mpAt (k i : Nat) : List MpE → Nat → Option (Nat × MpE)
  | [], _ => none
  | x :: es, j => if x.k = k ∧ x.i = i then some (j, x) else mpAt k i es (j + 1)
/-- A map's type: keys of two numbers. -/
structure MapTy (P : Program) (t kt et : TypeId) (z : Value) : Prop where
  hu : P.underlying t = some (.map kt et)
  ck : ∀ (w : World) (em : Bool) (k i : Nat), (Instr.checkKey em 10000 kt (mkey k i)).run P w = .ok () w
  ks : ∃ fs, P.underlying kt = some (.struct fs)
  hk : kindsOf P 8 kt = some [.i64, .i64]
  hz : ∀ w : World, (zeroValue et).run P w = .ok z w
section
variable {P : Program} {t kt et : TypeId} {z : Value}
theorem run_checkKey_two {f0 f1 : Field} (hu : P.underlying kt = some (.struct #[f0, f1])) (n0 : f0.name ≠ "_") (n1 : f1.name ≠ "_") (h0 : P.underlying f0.type = some (.int .i64)) (h1 : P.underlying f1.type = some (.int .i64)) (o0 : f0.offset = 0) (o1 : f1.offset = 1) (m : Nat) (w : World) (em : Bool) (k i : Nat) :
    (Instr.checkKey em (m + 2) kt (mkey k i)).run P w = .ok () w := by
  have e0 : (Instr.checkKey em (m + 1) f0.type (.int .i64 k)).run P w = .ok () w := by simp [Instr.checkKey, run_underlying h0]
  have e1 : (Instr.checkKey em (m + 1) f1.type (.int .i64 i)).run P w = .ok () w := by simp [Instr.checkKey, run_underlying h1]
  have p0 : (part f0.type #[.int .i64 k, .int .i64 i] 0).run P w = .ok (.int .i64 k) w := by simp [part, isAgg, run_underlying h0]
  have p1 : (part f1.type #[.int .i64 k, .int .i64 i] 1).run P w = .ok (.int .i64 i) w := by simp [part, isAgg, run_underlying h1]
  unfold Instr.checkKey mkey
  simp only [Sem.run_bind, run_underlying hu, Result.andThen_ok]
  simp [n0, n1, o0, o1, p0, p1, e0, e1]
theorem run_equal_key (T : MapTy P t kt et z) (k i k' i' : Nat) (w : World) : (Op.equal kt (mkey k i) (mkey k' i')).run P w = .ok (decide (k' = k ∧ i' = i)) w := by
  obtain ⟨fs, hs⟩ := T.ks
  have sh : ∀ a b : Nat, Sh P kt [.i64, .i64] (mkey a b) := fun a b => ⟨.cons _ _ (.cons _ _ .nil), by rw [hs]; exact ⟨_, rfl⟩⟩
  obtain ⟨r, hr, hi⟩ := run_equal_C T.hk (sh k i) (sh k' i') w
  have : r = decide (k' = k ∧ i' = i) := by
    rw [Bool.eq_iff_iff, hi, decide_eq_true_iff]
    simp only [mkey, Value.cells, List.cons.injEq, Value.int.injEq, and_true, true_and]
    constructor
    · rintro ⟨h1, h2⟩; exact ⟨(Int.ofNat.inj h1).symm, (Int.ofNat.inj h2).symm⟩
    · rintro ⟨rfl, rfl⟩; exact ⟨rfl, rfl⟩
  rw [hr, this]
theorem run_findAsking (T : MapTy P t kt et z) (k i : Nat) (w : World) : ∀ (es : List MpE) (j : Nat), (Instr.findAsking kt (mkey k i) (es.map MpE.e) j).run P w = .ok ((mpAt k i es j).map fun p => (p.1, .agg (u8s p.2.h).toArray)) w
  | [], j => by simp [Instr.findAsking, mpAt]
  | x :: es, j => by
    have h := run_equal_key T k i x.k x.i w
    rw [List.map_cons]
    unfold Instr.findAsking mpAt
    simp only [MpE.e, Sem.run_bind, h, Result.andThen_ok]
    by_cases hx : x.k = k ∧ x.i = i
    · simp [hx]
    · simp only [hx, decide_false, Bool.false_eq_true, if_false]
      exact run_findAsking T k i w es (j + 1)
theorem run_findKey_two (T : MapTy P t kt et z) (k i : Nat) (w : World) (es : List MpE) : (Instr.findKey kt (mkey k i) (es.map MpE.e)).run P w = .ok ((mpAt k i es 0).map fun p => (p.1, .agg (u8s p.2.h).toArray)) w := by
  obtain ⟨fs, hs⟩ := T.ks
  cases es with
  | nil => simp [Instr.findKey, run_underlying hs, Instr.findNow, mpAt]
  | cons x es =>
    have hn : Instr.findNow (.struct fs) (mkey k i) ((x :: es).map MpE.e) 0 = none := by
      rw [List.map_cons]
      simp [Instr.findNow, Instr.sameNow]
    have ha := run_findAsking T k i w (x :: es) 0
    simp only [Instr.findKey, Sem.run_bind, run_underlying hs, Result.andThen_ok, hn]
    exact ha

def mpGet (k i : Nat) (es : List MpE) : List Nat := match mpAt k i es 0 with
  | some p => p.2.h
  | none => List.replicate 8 0
def mpUpd (k i : Nat) (h : List Nat) (es : List MpE) (clock : Nat) : List MpE × Nat := match mpAt k i es 0 with
  | some p => (es.set p.1 { p.2 with h := h }, clock)
  | none => (es ++ [⟨k, i, h, clock⟩], clock + 1)
def mpDel (k i : Nat) (es : List MpE) : List MpE := match mpAt k i es 0 with
  | some p => es.eraseIdx p.1
  | none => es
theorem mpAt_some {k i : Nat} : ∀ {es : List MpE} {j j' : Nat} {x : MpE}, mpAt k i es j = some (j', x) → j ≤ j' ∧ es[j' - j]? = some x ∧ x.k = k ∧ x.i = i
  | [], _, _, _, h => by cases h
  | y :: es, j, j', x, h => by
    unfold mpAt at h
    split at h
    · rename_i hy
      cases h
      exact ⟨Nat.le_refl _, by simp, hy⟩
    · obtain ⟨h1, h2, h3⟩ := mpAt_some h
      refine ⟨by omega, ?_, h3⟩
      rw [show j' - j = (j' - (j + 1)) + 1 by omega, List.getElem?_cons_succ]
      exact h2
theorem run_lookup_two (T : MapTy P t kt et (.agg (u8s (List.replicate 8 0)).toArray)) (k i : Nat) {w : World} {b clock : Nat} {es : List MpE} (hb : w.heap[b]? = some (mpO es clock)) :
    (Instr.lookup t (.map (some b)) (mkey k i) false).run P w = .ok (.agg (u8s (mpGet k i es)).toArray) w := by
  have hf := run_findKey_two T k i w es
  unfold mpGet
  unfold mpO at hb
  cases hm : mpAt k i es 0 with
  | none =>
    rw [hm] at hf
    simp [Instr.lookup, run_underlying T.hu, MapKept.run_getObj_map hb, T.ck, hf, T.hz]
  | some p =>
    rw [hm] at hf
    simp [Instr.lookup, run_underlying T.hu, MapKept.run_getObj_map hb, T.ck, hf]
theorem run_stays (k i : Nat) (w : World) : (Instr.keyThatStays (mkey k i) (mkey k i)).run P w = .ok (mkey k i) w := by
  simp [Instr.keyThatStays, mkey, Instr.sameBits]
theorem set_map_e (es : List MpE) (j : Nat) (x y : MpE) (f : MapEntry → MapEntry) (hx : es[j]? = some x) (hf : f x.e = y.e) : (es.map MpE.e).toArray.modify j f = ((es.set j y).map MpE.e).toArray := by
  apply Array.ext'
  rw [Array.toList_modify]
  simp only [List.map_set]
  obtain ⟨hj, hxx⟩ := List.getElem?_eq_some_iff.1 hx
  apply List.ext_getElem?
  intro n
  rw [List.getElem?_modify, List.getElem?_set, List.getElem?_map]
  by_cases hn : j = n
  · subst hn
    simp [hj, hxx, hf]
  · simp [hn]
theorem run_update_two (T : MapTy P t kt et z) (k i : Nat) (h : List Nat) {w : World} {b clock : Nat} {es : List MpE} (hb : w.heap[b]? = some (mpO es clock)) :
    (Instr.mapUpdate t (.map (some b)) (mkey k i) (.agg (u8s h).toArray)).run P w = .ok () (Go.ChangeMaps.setBlock w b (mpO (mpUpd k i h es clock).1 (mpUpd k i h es clock).2)) := by
  have hf := run_findKey_two T k i w es
  unfold mpUpd
  unfold mpO at hb ⊢
  cases hm : mpAt k i es 0 with
  | none =>
    rw [hm] at hf
    have e : (es.map MpE.e).toArray.push ⟨mkey k i, .agg (u8s h).toArray, clock⟩ = ((es ++ [(⟨k, i, h, clock⟩ : MpE)]).map MpE.e).toArray := by
      apply Array.ext'; simp [MpE.e]
    simp only [Option.map_none] at hf
    simp [Instr.mapUpdate, run_underlying T.hu, MapKept.run_getObj_map hb, T.ck, hf, MapKept.run_setObj_map _ hb, Go.ChangeMaps.setBlock, MpE.e]
  | some p =>
    obtain ⟨j, x⟩ := p
    obtain ⟨-, hx, hk, hi⟩ := mpAt_some hm
    rw [Nat.sub_zero] at hx
    have hg : ((es.map MpE.e).toArray[j]?).map (·.key) = some (mkey k i) := by
      rw [List.getElem?_toArray, List.getElem?_map, hx]
      simp [MpE.e, hk, hi]
    rw [hm] at hf
    simp only [Option.map_some] at hf
    have hkx : x.e.key = mkey k i := by simp [MpE.e, hk, hi]
    have e := set_map_e es j x { x with h := h } (fun e => { e with key := mkey k i, val := .agg (u8s h).toArray }) hx (by simp [MpE.e, hk, hi])
    simp [Instr.mapUpdate, run_underlying T.hu, MapKept.run_getObj_map hb, T.ck, hf, MapKept.run_setObj_map _ hb, Go.ChangeMaps.setBlock, hx, hkx, run_stays]
    simp at e
    rw [e]
theorem run_delete_two (T : MapTy P t kt et z) (k i : Nat) {w : World} {b clock : Nat} {es : List MpE} (hb : w.heap[b]? = some (mpO es clock)) (ty : TypeId) :
    (Builtin.delete_ #[t, kt] ty #[.map (some b), mkey k i]).run P w = .ok (.tuple #[]) (Go.ChangeMaps.setBlock w b (mpO (mpDel k i es) clock)) := by
  have hf := run_findKey_two T k i w es
  unfold mpDel
  unfold mpO at hb ⊢
  cases hm : mpAt k i es 0 with
  | none =>
    rw [hm] at hf
    simp [Builtin.delete_, run_underlying T.hu, MapKept.run_getObj_map hb, T.ck, hf, MapKept.run_setObj_map _ hb, Go.ChangeMaps.setBlock]
  | some p =>
    rw [hm] at hf
    have e : (es.map MpE.e).toArray.eraseIdxIfInBounds p.1 = ((es.eraseIdx p.1).map MpE.e).toArray := by
      apply Array.ext'
      obtain ⟨-, hx, _⟩ := mpAt_some (x := p.2) (j' := p.1) hm
      rw [Nat.sub_zero] at hx
      have hj := (List.getElem?_eq_some_iff.1 hx).1
      simp [Array.eraseIdxIfInBounds, hj, Go.ChangeMaps.map_eraseIdx]
    simp [Builtin.delete_, run_underlying T.hu, MapKept.run_getObj_map hb, T.ck, hf, MapKept.run_setObj_map _ hb, e, Go.ChangeMaps.setBlock, Go.ChangeMaps.map_eraseIdx]
end
end Go.Vc

/- Maps: the rules. -/
namespace Go.Vc
open Go Go.Sha
theorem Fr.setBlock (w : World) (b : Nat) (o : Obj) : Fr [b] w (Go.ChangeMaps.setBlock w b o) :=
  ⟨rfl, rfl, rfl, by simp [Go.ChangeMaps.setBlock], fun k _ hk => by
    have : b ≠ k := fun e => hk (by rw [e]; exact List.mem_singleton.2 rfl)
    simp [Go.ChangeMaps.setBlock, Array.getElem?_setIfInBounds, this]⟩
theorem RQ.upS {n : Nat} {w0 : World} {S0 : List Nat} {Q : Exit → Act → World → Prop} {E : Env} {L : Hp} {D : Type} {N : Nat} {R : Nat → D → Prop} {Ei : Nat → D → Env} {Li : Nat → D → Hp} {i : Nat} (j : Nat) (d : D) (hij : i < j) (hj : j ≤ N) (hR : R j d) (hE : Env.le (Ei j d) E) {L1 : Hp} (hp : L.Perm L1) (hL : (Li j d).Sublist L1) :
    RQ n w0 S0 .normal (Exit.then (Up n w0 S0 N R Ei Li i) Q) E L :=
  fun _ _ hs hm => ⟨j, d, hij, hj, hR, hs.weak hE, (hm.perm hp).sublist hL⟩
theorem Mem.part {w0 w' : World} {S0 : List Nat} {L A B : Hp} (hm : Mem w0 S0 L w') (hp : L.Perm (A ++ B)) : Has A w' ∧ (A.map (·.1)).Nodup :=
  ⟨fun q hq => (hm.perm hp).has q (List.mem_append_left _ hq), by have := (hm.perm hp).nd; rw [List.map_append] at this; exact (List.nodup_append.1 this).1⟩
theorem RQ.endN {P : Program} {n : Nat} {w0 : World} {S0 : List Nat} {E : Env} {L : Hp} {fn : Func} {R : Ending → World → Prop} (hr : fn.results = #[]) (h : ∀ w, Mem w0 S0 L w → R (.returned (.tuple #[])) w) : RQ n w0 S0 .normal (bodyPost P fn R) E L := by
  intro a w hs hm
  refine ⟨hs.defers, .tuple #[], ?_, h w hm⟩
  rw [results_eq, hr]; simp
section
variable {P : Program} {n : Nat} {w0 : World} {S0 : List Nat} {Q : Exit → Act → World → Prop} {E : Env} {L : Hp} {o : Oper} {d : Nat} {TT : List (Nat × TI)} {t kt et : TypeId} {z : Value} {ti : TI}
theorem New.makeMap2 (ho : o.op = .makeMap t none) : New P n w0 S0 E L o (fun b => .map (some b)) (mpO [] 0) := by
  intro a w hs _
  refine ⟨w, Fr.refl _ _, rfl, ?_⟩
  simp [execOp, ho, Instr.makeMap, mpO]
theorem Val.lookup2 (T : MapTy P t kt et (.agg (u8s (List.replicate 8 0)).toArray)) {x y : Operand} {b clock k i : Nat} {es : List MpE} (ho : o.op = .lookup t x y false) (hx : lk E x = some (.map (some b))) (hy : lk E y = some (mkey k i)) (hm : (b, mpO es clock) ∈ L) :
    Val P n w0 S0 E L o (.agg (u8s (mpGet k i es)).toArray) := by
  intro a w hs hmem
  have := run_lookup_two T k i (hmem.has _ hm)
  simp [execOp, ho, hs.eval hx, hs.eval hy, this]
/-- .. of a map that stood at the beginning. -/
theorem Val.lookupOld (T : MapTy P t kt et (.agg (u8s (List.replicate 8 0)).toArray)) {x y : Operand} {b clock k i : Nat} {es : List MpE} (ho : o.op = .lookup t x y false) (hx : lk E x = some (.map (some b))) (hy : lk E y = some (mkey k i)) (hm : w0.heap[b]? = some (mpO es clock)) (hS : b ∉ S0) :
    Val P n w0 S0 E L o (.agg (u8s (mpGet k i es)).toArray) := by
  intro a w hs hmem
  have := run_lookup_two T k i (w := w) ((hmem.fr.block b (Array.getElem?_eq_some_iff.1 hm).1 hS).trans hm)
  simp [execOp, ho, hs.eval hx, hs.eval hy, this]
theorem OpTo.mapUpd (T : MapTy P t kt et z) {x y v : Operand} {b clock k i : Nat} {h : List Nat} {es : List MpE} {L' : Hp} (ho : o.op = .mapUpdate t x y v) (hd : o.dst = none) (hx : lk E x = some (.map (some b))) (hy : lk E y = some (mkey k i)) (hv : lk E v = some (.agg (u8s h).toArray)) (hL : L.Perm ((b, mpO es clock) :: L')) :
    OpTo P n w0 S0 Q E L o (Y := Unit) (fun _ => E) (fun _ => (b, mpO (mpUpd k i h es clock).1 (mpUpd k i h es clock).2) :: L') := by
  intro a w hs hm K hK
  have hm' := hm.perm hL
  have hb := hm'.has _ (List.mem_cons_self)
  have hr := run_update_two T k i h hb
  have hr' : (execOp a.eval o).run P w = .ok .skip (Go.ChangeMaps.setBlock w b (mpO (mpUpd k i h es clock).1 (mpUpd k i h es clock).2)) := by
    simp [execOp, ho, hs.eval hx, hs.eval hy, hs.eval hv, hr]
  simp only [Oper.wp, hr', Oper.upon_skip, hd]
  exact hK () _ _ hs (hm'.write (Fr.setBlock w b _) (Go.ChangeMaps.heap_setBlock_same hb _))
theorem OpTo.mapDel (T : MapTy P t kt et z) {x y : Operand} {b clock k i : Nat} {es : List MpE} {L' : Hp} (ho : o.op = .call { callee := .builtin .delete, args := #[x, y], argTypes := #[t, kt] }) (hd : o.dst = none) (hx : lk E x = some (.map (some b))) (hy : lk E y = some (mkey k i)) (hL : L.Perm ((b, mpO es clock) :: L')) :
    OpTo P n w0 S0 Q E L o (Y := Unit) (fun _ => E) (fun _ => (b, mpO (mpDel k i es) clock) :: L') := by
  intro a w hs hm K hK
  have hm' := hm.perm hL
  have hb := hm'.has _ (List.mem_cons_self)
  have hr := run_delete_two T k i hb o.type
  have hr' : (execOp a.eval o).run P w = .ok (.value (.tuple #[])) (Go.ChangeMaps.setBlock w b (mpO (mpDel k i es) clock)) := by
    simp [execOp, ho, hs.eval hx, hs.eval hy, resolve, invoke, builtin, hr]
  simp only [Oper.wp, hr', Oper.upon_value, hd]
  exact hK () _ _ hs (hm'.write (Fr.setBlock w b _) (Go.ChangeMaps.heap_setBlock_same hb _))
theorem run_equalIn_map (dd : Nat) {t k e : TypeId} (h : P.underlying t = some (.map k e)) (b : Nat) (w : World) : (Op.equalIn (dd + 1) t (.map (some b)) (.map none)).run P w = .ok false w := by
  simp [Op.equalIn, run_underlying h]
theorem Val.mapNil {k e : TypeId} (hu : P.underlying t = some (.map k e)) {x y : Operand} {b t2 : Nat} (ho : o.op = .binOp .eql t x y t2) (hx : lk E x = some (.map (some b))) (hy : lk E y = some (.map none)) : Val P n w0 S0 E L o (.bool false) := by
  intro ac w hs _
  have hg : (eqGuard .eql t x y (.map (some b)) (.map none)).run P w = .ok () w := by simp [eqGuard]
  have he : (Op.equal t (.map (some b)) (.map none)).run P w = .ok false w := run_equalIn_map 9999 hu b w
  simp [execOp, ho, hs.eval hx, hs.eval hy, hg, binOp, he]
theorem New.range2 (T : MapTy P t kt et z) {x : Operand} {mb clock : Nat} {es : List MpE} (ho : o.op = .range t x) (hx : lk E x = some (.map (some mb))) (hm : ∀ w, Mem w0 S0 L w → w.heap[mb]? = some (mpO es clock)) : New P n w0 S0 E L o (fun b => .pointer (some ⟨b, 0, none⟩)) (.mapIter (some mb) clock #[] clock) := by
  intro a w hs hmem
  refine ⟨w, Fr.refl _ _, rfl, ?_⟩
  have := run_range_map (P := P) w t kt et mb _ clock T.hu (hm w hmem)
  simp [execOp, ho, hs.eval hx, this]
/-- One step of a range: nothing is left, or an entry that was not yet seen. -/
theorem OpTo.next2 {x : Operand} {mb b clock : Nat} {es : List MpE} {seen : Array Nat} {L' : Hp} (ho : o.op = .next x false) (hd : o.dst = some d) (hn : Nat.blt d n = true) (hx : lk E x = some (.pointer (some ⟨b, 0, none⟩))) (hL : L.Perm ((b, .mapIter (some mb) clock seen clock) :: L')) (hm : ∀ w, Mem w0 S0 L w → w.heap[mb]? = some (mpO es clock)) (hb : ∀ x ∈ es, x.born < clock) :
    OpTo P n w0 S0 Q E L o (Y := {y : Option MpE // match y with | none => ∀ x ∈ es, seen.contains x.born = true | some x => x ∈ es ∧ seen.contains x.born = false}) (fun y => (d, match y.1 with | none => .tuple #[.bool false] | some x => .tuple #[.bool true, mkey x.k x.i, .agg (u8s x.h).toArray]) :: E) (fun y => (b, match y.1 with | none => .mapIter (some mb) clock seen clock | some x => .mapIter (some mb) clock (seen.push x.born) clock) :: L') := by
  intro a w hs hmem K hK
  have hm' := hmem.perm hL
  have hr := hm'.has _ (List.mem_cons_self)
  have hmb := hm w hmem
  unfold mpO at hmb
  rcases run_next_at (P := P) w o.type b mb clock clock seen _ clock hr hmb (by
    intro x hx
    rw [List.toList_toArray] at hx
    obtain ⟨y, hy, rfl⟩ := List.mem_map.1 hx
    exact hb y hy) (Nat.le_refl _) with ⟨h0, hrun⟩ | ⟨e, he, w1, hw1, hrun⟩
  · have hr' : (execOp a.eval o).run P w = .ok (.value (.tuple #[.bool false])) w := by simp [execOp, ho, hs.eval hx, hrun]
    simp only [Oper.wp, hr', Oper.upon_value, hd]
    refine hK ⟨none, fun x hx => ?_⟩ _ _ (hs.put hn _) hm'
    exact all_seen _ seen h0 x.e (by rw [List.toList_toArray]; exact List.mem_map_of_mem hx)
  · obtain ⟨hem, hes⟩ := mem_left he
    rw [List.toList_toArray] at hem
    obtain ⟨y, hy, rfl⟩ := List.mem_map.1 hem
    have hr' : (execOp a.eval o).run P w = .ok (.value (.tuple #[.bool true, mkey y.k y.i, .agg (u8s y.h).toArray])) (Go.ChangeMaps.setBlock w1 b (.mapIter (some mb) clock (seen.push y.born) clock)) := by
      simp only [MpE.e] at hrun
      simp [execOp, ho, hs.eval hx, hrun]
    simp only [Oper.wp, hr', Oper.upon_value, hd]
    have hf1 : Fr [] w w1 := by
      rcases hw1 with rfl | rfl
      · exact Fr.refl _ _
      · exact Fr.drew w
    have hm1 := hm'.ext hf1
    have hlt := hm1.lt List.mem_cons_self
    refine hK ⟨some y, hy, hes⟩ _ _ (hs.put hn _) (hm1.write (Fr.setBlock w1 b _) ?_)
    simp only [Go.ChangeMaps.setBlock]
    rw [Array.getElem?_setIfInBounds_self_of_lt hlt]
theorem Val.entry2 {x : Operand} {mb b clock : Nat} {es : List MpE} {seen : Array Nat} {y : MpE} (ho : o.op = .entry x) (hx : lk E x = some (.pointer (some ⟨b, 0, none⟩))) (hi : (b, .mapIter (some mb) clock (seen.push y.born) clock) ∈ L) (hm : ∀ w, Mem w0 S0 L w → w.heap[mb]? = some (mpO es clock)) (hy : y ∈ es) (hnd : (es.map (·.born)).Nodup) :
    Val P n w0 S0 E L o (.tuple #[mkey y.k y.i, .agg (u8s y.h).toArray]) := by
  intro a w hs hmem
  have hr := run_entry_at (P := P) w b mb clock seen _ clock y.e (hmem.has _ hi) (hm w hmem) (by rw [List.toList_toArray]; exact List.mem_map_of_mem hy) (by rw [List.toList_toArray, List.map_map]; exact hnd)
  simp only [MpE.e] at hr
  simp [execOp, ho, hs.eval hx, hr]
theorem Val.mkIm {k e : TypeId} (hu : P.underlying t = some (.map k e)) {x : Operand} {v : Value} (ho : o.op = .makeInterface t x) (hx : lk E x = some v) : Val P n w0 S0 E L o (.iface t v) := by
  intro a w hs _
  simp [execOp, ho, hs.eval hx, Instr.makeInterface, run_underlying hu]
theorem Val.assertM {k e : TypeId} (hu : P.underlying t = some (.map k e)) {x : Operand} {xt : TypeId} {v : Value} (ho : o.op = .typeAssert x xt t false) (hx : lk E x = some (.iface t v)) : Val P n w0 S0 E L o v := by
  intro a w hs _
  simp [execOp, ho, hs.eval hx, Instr.typeAssert, run_underlying hu]
/-- maps.clone. -/
theorem New.clone {f : FuncId} {x : Operand} {ts : Array TypeId} {fn : Func} {mb clock : Nat} {es : List MpE} (hf : P.funcs[f]? = some fn) (ho : o.op = .call { callee := .value (.func f), args := #[x], argTypes := ts }) (hnm : (fn.name == "runtime.NumGoroutine") = false) (hb : fn.body.isNone = true) (hn : Extern.findNext fn = none) (he : Extern.find fn = some Extern.MapsClone.clone)
    (hx : lk E x = some (.iface t (.map (some mb)))) (hm : ∀ w, Mem w0 S0 L w → w.heap[mb]? = some (mpO es clock)) : New P n w0 S0 E L o (fun b => .iface t (.map (some b))) (mpO es clock) := by
  intro a w hs hmem
  refine ⟨w, Fr.refl _ _, rfl, ?_⟩
  have hc := run_callFunc_extern hf hnm hb hn he #[.iface t (.map (some mb))] w
  have hmb := hm w hmem
  have hcl : (Extern.MapsClone.clone #[.iface t (.map (some mb))]).run P w = .ok (.iface t (.map (some w.heap.size))) (w.alloc (mpO es clock)) := by
    unfold mpO at hmb ⊢
    have e : Extern.MapsClone.clone #[.iface t (.map (some mb))] = (getObj mb >>= fun o => match o with
      | .map entries clock => do pure (.iface t (.map (some (← newObj (.map entries clock)))))
      | _ => stuck "maps.clone: a map expected") := rfl
    rw [e]
    simp [MapKept.run_getObj_map hmb]
  rw [hcl] at hc
  have hv := hs.eval hx
  rw [← hv] at hc
  simp [execOp, ho, resolve, Act.eval, Deferred.ofValue, invoke]
  simpa [Act.eval] using hc
end
end Go.Vc
