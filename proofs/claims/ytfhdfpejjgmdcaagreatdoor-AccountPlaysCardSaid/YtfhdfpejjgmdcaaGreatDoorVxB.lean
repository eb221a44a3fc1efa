import Derived.Test.YtfhdfpejjgmdcaaGreatDoorVcT
import Derived.Maps.RangeRun
set_option linter.unusedSimpArgs false
set_option linter.unusedVariables false
/- Maps of any values, with keys of any kind that is told apart by its cells. -/
namespace Go.Vc
open Go Go.Sha
/-- An entry. -/
structure MxE (κ : Type) where
  k : κ
  v : Value
  born : Nat
section
variable {κ : Type} [DecidableEq κ] {kv : κ → Value}
def MxE.e (kv : κ → Value) (x : MxE κ) : MapEntry := ⟨kv x.k, x.v, x.born⟩
def mxO (kv : κ → Value) (es : List (MxE κ)) (clock : Nat) : Obj := .map (es.map (MxE.e kv)).toArray clock
/-- What a map holds of a key, and where. -/
def mxAt (k : κ) : List (MxE κ) → Nat → Option (Nat × MxE κ)
  | [], _ => none
  | x :: es, j => if x.k = k then some (j, x) else mxAt k es (j + 1)
/-- A map's type. -/
structure MxTy (P : Program) (t kt et : TypeId) (kv : κ → Value) (z : Value) : Prop where
  hu : P.underlying t = some (.map kt et)
  ck : ∀ (w : World) (em : Bool) (k : κ), (Instr.checkKey em 10000 kt (kv k)).run P w = .ok () w
  fk : ∀ (w : World) (k : κ) (es : List (MxE κ)), (Instr.findKey kt (kv k) (es.map (MxE.e kv))).run P w = .ok ((mxAt k es 0).map fun p => (p.1, p.2.v)) w
  sb : ∀ k : κ, Instr.sameBits 10000 (kv k) (kv k) = true
  hz : ∀ w : World, (zeroValue et).run P w = .ok z w
theorem findNowX (k : Int) : ∀ (es : List (MxE Int)) (j : Nat), Instr.findNow (.int .i64) (.int .i64 k) (es.map (MxE.e (Value.int .i64))) j = some ((mxAt k es j).map fun p => (p.1, p.2.v))
  | [], j => rfl
  | x :: es, j => by
    have ih := findNowX k es (j + 1)
    rw [List.map_cons]
    unfold Instr.findNow mxAt
    by_cases h : x.k = k
    · simp [MxE.e, Instr.sameNow, h]
    · have h' : ¬ k = x.k := fun e => h e.symm
      have hb : (k == x.k) = false := beq_eq_false_iff_ne.2 h'
      simp only [MxE.e, Instr.sameNow, if_true, hb, h, if_false]
      exact ih
theorem sameBits_int (j : IntKind) (a : Int) : ∀ n, Instr.sameBits n (.int j a) (.int j a) = true
  | 0 => by simp [Instr.sameBits]
  | n + 1 => by simp [Instr.sameBits]
theorem run_checkKey_int {P : Program} {kt : TypeId} (hk : P.underlying kt = some (.int .i64)) (m : Nat) (w : World) (em : Bool) (k : Int) : (Instr.checkKey em (m + 1) kt (.int .i64 k)).run P w = .ok () w := by simp [Instr.checkKey, run_underlying hk]
/-- .. of whole numbers. -/
theorem mxTy_int {P : Program} {t kt et : TypeId} {z : Value} (hu : P.underlying t = some (.map kt et)) (hk : P.underlying kt = some (.int .i64)) (hz : ∀ w : World, (zeroValue et).run P w = .ok z w) : MxTy P t kt et (Value.int .i64) z where
  hu := hu
  ck := fun w em k => run_checkKey_int hk 9999 w em k
  fk := fun w k es => by simp [Instr.findKey, run_underlying hk, findNowX]
  sb := fun k => sameBits_int _ _ _
  hz := hz
variable {P : Program} {t kt et : TypeId} {z : Value}
def mxGet (k : κ) (es : List (MxE κ)) : Option Value := (mxAt k es 0).map (·.2.v)
def mxUpd (k : κ) (v : Value) (es : List (MxE κ)) (clock : Nat) : List (MxE κ) × Nat := match mxAt k es 0 with
  | some p => (es.set p.1 { p.2 with v := v }, clock)
  | none => (es ++ [⟨k, v, clock⟩], clock + 1)
def mxDel (k : κ) (es : List (MxE κ)) : List (MxE κ) := match mxAt k es 0 with
  | some p => es.eraseIdx p.1
  | none => es
theorem mxAt_some {k : κ} : ∀ {es : List (MxE κ)} {j j' : Nat} {x : MxE κ}, mxAt k es j = some (j', x) → j ≤ j' ∧ es[j' - j]? = some x ∧ x.k = k
  | [], _, _, _, h => by cases h
  | y :: es, j, j', x, h => by
    unfold mxAt at h
    split at h
    · rename_i hy
      cases h
      exact ⟨Nat.le_refl _, by simp, hy⟩
    · obtain ⟨h1, h2, h3⟩ := mxAt_some h
      refine ⟨by omega, ?_, h3⟩
      rw [show j' - j = (j' - (j + 1)) + 1 by omega, List.getElem?_cons_succ]
      exact h2
theorem run_lookupX (T : MxTy P t kt et kv z) (k : κ) {w : World} {b clock : Nat} {es : List (MxE κ)} (hb : w.heap[b]? = some (mxO kv es clock)) (ok : Bool) :
    (Instr.lookup t (.map (some b)) (kv k) ok).run P w = .ok (if ok then .tuple #[(mxGet k es).getD z, .bool (mxGet k es).isSome] else (mxGet k es).getD z) w := by
  have hf := T.fk w k es
  unfold mxGet
  unfold mxO at hb
  cases hm : mxAt k es 0 with
  | none =>
    rw [hm] at hf
    simp [Instr.lookup, run_underlying T.hu, MapKept.run_getObj_map hb, T.ck, hf, T.hz]
  | some p =>
    rw [hm] at hf
    simp [Instr.lookup, run_underlying T.hu, MapKept.run_getObj_map hb, T.ck, hf]
omit [DecidableEq κ] in
theorem setX_map_e (es : List (MxE κ)) (j : Nat) (x y : MxE κ) (f : MapEntry → MapEntry) (hx : es[j]? = some x) (hf : f (x.e kv) = y.e kv) : (es.map (MxE.e kv)).toArray.modify j f = ((es.set j y).map (MxE.e kv)).toArray := by
  apply Array.ext'
  rw [Array.toList_modify]
  simp only [List.map_set]
  obtain ⟨hj, hxx⟩ := List.getElem?_eq_some_iff.1 hx
  apply List.ext_getElem?
  intro n
  rw [List.getElem?_modify, List.getElem?_set, List.getElem?_map]
  by_cases hn : j = n
  · subst hn
    simp [hj, hxx, hf]
  · simp [hn]
theorem run_updateX (T : MxTy P t kt et kv z) (k : κ) (v : Value) {w : World} {b clock : Nat} {es : List (MxE κ)} (hb : w.heap[b]? = some (mxO kv es clock)) :
    (Instr.mapUpdate t (.map (some b)) (kv k) v).run P w = .ok () (Go.ChangeMaps.setBlock w b (mxO kv (mxUpd k v es clock).1 (mxUpd k v es clock).2)) := by
  have hf := T.fk w k es
  unfold mxUpd
  unfold mxO at hb ⊢
  cases hm : mxAt k es 0 with
  | none =>
    rw [hm] at hf
    simp only [Option.map_none] at hf
    simp [Instr.mapUpdate, run_underlying T.hu, MapKept.run_getObj_map hb, T.ck, hf, MapKept.run_setObj_map _ hb, Go.ChangeMaps.setBlock, MxE.e]
  | some p =>
    obtain ⟨j, x⟩ := p
    obtain ⟨-, hx, hk⟩ := mxAt_some hm
    rw [Nat.sub_zero] at hx
    rw [hm] at hf
    simp only [Option.map_some] at hf
    have hkx : (x.e kv).key = kv k := by simp [MxE.e, hk]
    have hst : (Instr.keyThatStays (kv k) (kv k)).run P w = .ok (kv k) w := by simp [Instr.keyThatStays, T.sb]
    have e := setX_map_e (kv := kv) es j x { x with v := v } (fun e => { e with key := kv k, val := v }) hx (by simp [MxE.e, hk])
    simp [Instr.mapUpdate, run_underlying T.hu, MapKept.run_getObj_map hb, T.ck, hf, MapKept.run_setObj_map _ hb, Go.ChangeMaps.setBlock, hx, hkx, hst]
    simp at e
    rw [e]
theorem run_deleteX (T : MxTy P t kt et kv z) (k : κ) {w : World} {b clock : Nat} {es : List (MxE κ)} (hb : w.heap[b]? = some (mxO kv es clock)) (ty : TypeId) :
    (Builtin.delete_ #[t, kt] ty #[.map (some b), kv k]).run P w = .ok (.tuple #[]) (Go.ChangeMaps.setBlock w b (mxO kv (mxDel k es) clock)) := by
  have hf := T.fk w k es
  unfold mxDel
  unfold mxO at hb ⊢
  cases hm : mxAt k es 0 with
  | none =>
    rw [hm] at hf
    simp [Builtin.delete_, run_underlying T.hu, MapKept.run_getObj_map hb, T.ck, hf, MapKept.run_setObj_map _ hb, Go.ChangeMaps.setBlock]
  | some p =>
    rw [hm] at hf
    have e : (es.map (MxE.e kv)).toArray.eraseIdxIfInBounds p.1 = ((es.eraseIdx p.1).map (MxE.e kv)).toArray := by
      apply Array.ext'
      obtain ⟨-, hx, _⟩ := mxAt_some (x := p.2) (j' := p.1) hm
      rw [Nat.sub_zero] at hx
      have hj := (List.getElem?_eq_some_iff.1 hx).1
      simp [Array.eraseIdxIfInBounds, hj, Go.ChangeMaps.map_eraseIdx]
    simp [Builtin.delete_, run_underlying T.hu, MapKept.run_getObj_map hb, T.ck, hf, MapKept.run_setObj_map _ hb, e, Go.ChangeMaps.setBlock, Go.ChangeMaps.map_eraseIdx]
end
end Go.Vc

/- Maps of any values: the rules of the operations; the plain law. -/
namespace Go.Vc
open Go Go.Sha
section
variable {κ : Type} [DecidableEq κ] {kv : κ → Value}
variable {P : Program} {n : Nat} {w0 : World} {S0 : List Nat} {Q : Exit → Act → World → Prop} {E : Env} {L : Hp} {o : Oper} {d : Nat} {t kt et : TypeId} {z : Value}
theorem FrX.setBlock (w : World) (b : Nat) (o : Obj) : Fr [b] w (Go.ChangeMaps.setBlock w b o) :=
  ⟨rfl, rfl, rfl, by simp [Go.ChangeMaps.setBlock], fun k _ hk => by
    have : b ≠ k := fun e => hk (by rw [e]; exact List.mem_singleton.2 rfl)
    simp [Go.ChangeMaps.setBlock, Array.getElem?_setIfInBounds, this]⟩
omit [DecidableEq κ] in
theorem New.makeMapX (kv : κ → Value) (ho : o.op = .makeMap t none) : New P n w0 S0 E L o (fun b => .map (some b)) (mxO kv ([] : List (MxE κ)) 0) := by
  intro a w hs _
  refine ⟨w, Fr.refl _ _, rfl, ?_⟩
  simp [execOp, ho, Instr.makeMap, mxO]
/-- A look into a map that is read in every world that may be. -/
theorem Val.lookupX (T : MxTy P t kt et kv z) {x y : Operand} {b clock : Nat} {k : κ} {es : List (MxE κ)} {ok : Bool} (ho : o.op = .lookup t x y ok) (hx : lk E x = some (.map (some b))) (hy : lk E y = some (kv k)) (hm : ∀ w, Mem w0 S0 L w → w.heap[b]? = some (mxO kv es clock)) :
    Val P n w0 S0 E L o (if ok then .tuple #[(mxGet k es).getD z, .bool (mxGet k es).isSome] else (mxGet k es).getD z) := by
  intro a w hs hmem
  have := run_lookupX T k (hm w hmem) ok
  simp only [execOp, ho, hs.eval hx, hs.eval hy]
  simp [this]
theorem OpTo.mapUpdX (T : MxTy P t kt et kv z) {x y v : Operand} {b clock : Nat} {k : κ} {u : Value} {es : List (MxE κ)} {L' : Hp} (ho : o.op = .mapUpdate t x y v) (hd : o.dst = none) (hx : lk E x = some (.map (some b))) (hy : lk E y = some (kv k)) (hv : lk E v = some u) (hL : L.Perm ((b, mxO kv es clock) :: L')) :
    OpTo P n w0 S0 Q E L o (Y := Unit) (fun _ => E) (fun _ => (b, mxO kv (mxUpd k u es clock).1 (mxUpd k u es clock).2) :: L') := by
  intro a w hs hm K hK
  have hm' := hm.perm hL
  have hb := hm'.has _ (List.mem_cons_self)
  have hr := run_updateX T k u hb
  have hr' : (execOp a.eval o).run P w = .ok .skip (Go.ChangeMaps.setBlock w b (mxO kv (mxUpd k u es clock).1 (mxUpd k u es clock).2)) := by
    simp [execOp, ho, hs.eval hx, hs.eval hy, hs.eval hv, hr]
  simp only [Oper.wp, hr', Oper.upon_skip, hd]
  exact hK () _ _ hs (hm'.write (FrX.setBlock w b _) (Go.ChangeMaps.heap_setBlock_same hb _))
theorem OpTo.mapDelX (T : MxTy P t kt et kv z) {x y : Operand} {b clock : Nat} {k : κ} {es : List (MxE κ)} {L' : Hp} (ho : o.op = .call { callee := .builtin .delete, args := #[x, y], argTypes := #[t, kt] }) (hd : o.dst = none) (hx : lk E x = some (.map (some b))) (hy : lk E y = some (kv k)) (hL : L.Perm ((b, mxO kv es clock) :: L')) :
    OpTo P n w0 S0 Q E L o (Y := Unit) (fun _ => E) (fun _ => (b, mxO kv (mxDel k es) clock) :: L') := by
  intro a w hs hm K hK
  have hm' := hm.perm hL
  have hb := hm'.has _ (List.mem_cons_self)
  have hr := run_deleteX T k hb o.type
  have hr' : (execOp a.eval o).run P w = .ok (.value (.tuple #[])) (Go.ChangeMaps.setBlock w b (mxO kv (mxDel k es) clock)) := by
    simp [execOp, ho, hs.eval hx, hs.eval hy, resolve, invoke, builtin, hr]
  simp only [Oper.wp, hr', Oper.upon_value, hd]
  exact hK () _ _ hs (hm'.write (FrX.setBlock w b _) (Go.ChangeMaps.heap_setBlock_same hb _))
omit [DecidableEq κ] in
theorem New.rangeX (T : P.underlying t = some (.map kt et)) {x : Operand} {mb clock : Nat} {es : List (MxE κ)} (ho : o.op = .range t x) (hx : lk E x = some (.map (some mb))) (hm : ∀ w, Mem w0 S0 L w → w.heap[mb]? = some (mxO kv es clock)) : New P n w0 S0 E L o (fun b => .pointer (some ⟨b, 0, none⟩)) (.mapIter (some mb) clock #[] clock) := by
  intro a w hs hmem
  refine ⟨w, Fr.refl _ _, rfl, ?_⟩
  have := run_range_map (P := P) w t kt et mb _ clock T (hm w hmem)
  simp [execOp, ho, hs.eval hx, this]
omit [DecidableEq κ] in
/-- One step of a range: nothing is left, or an entry that was not yet seen. -/
theorem OpTo.nextX {x : Operand} {mb b clock : Nat} {es : List (MxE κ)} {seen : Array Nat} {L' : Hp} (ho : o.op = .next x false) (hd : o.dst = some d) (hn : Nat.blt d n = true) (hx : lk E x = some (.pointer (some ⟨b, 0, none⟩))) (hL : L.Perm ((b, .mapIter (some mb) clock seen clock) :: L')) (hm : ∀ w, Mem w0 S0 L w → w.heap[mb]? = some (mxO kv es clock)) (hb : ∀ x ∈ es, x.born < clock) :
    OpTo P n w0 S0 Q E L o (Y := {y : Option (MxE κ) // match y with | none => ∀ x ∈ es, seen.contains x.born = true | some x => x ∈ es ∧ seen.contains x.born = false}) (fun y => (d, match y.1 with | none => .tuple #[.bool false] | some x => .tuple #[.bool true, kv x.k, x.v]) :: E) (fun y => (b, match y.1 with | none => .mapIter (some mb) clock seen clock | some x => .mapIter (some mb) clock (seen.push x.born) clock) :: L') := by
  intro a w hs hmem K hK
  have hm' := hmem.perm hL
  have hr := hm'.has _ (List.mem_cons_self)
  have hmb := hm w hmem
  unfold mxO at hmb
  rcases run_next_at (P := P) w o.type b mb clock clock seen _ clock hr hmb (by
    intro x hx
    rw [List.toList_toArray] at hx
    obtain ⟨y, hy, rfl⟩ := List.mem_map.1 hx
    exact hb y hy) (Nat.le_refl _) with ⟨h0, hrun⟩ | ⟨e, he, w1, hw1, hrun⟩
  · have hr' : (execOp a.eval o).run P w = .ok (.value (.tuple #[.bool false])) w := by simp [execOp, ho, hs.eval hx, hrun]
    simp only [Oper.wp, hr', Oper.upon_value, hd]
    refine hK ⟨none, fun x hx => ?_⟩ _ _ (hs.put hn _) hm'
    exact all_seen _ seen h0 (x.e kv) (by rw [List.toList_toArray]; exact List.mem_map_of_mem hx)
  · obtain ⟨hem, hes⟩ := mem_left he
    rw [List.toList_toArray] at hem
    obtain ⟨y, hy, rfl⟩ := List.mem_map.1 hem
    have hr' : (execOp a.eval o).run P w = .ok (.value (.tuple #[.bool true, kv y.k, y.v])) (Go.ChangeMaps.setBlock w1 b (.mapIter (some mb) clock (seen.push y.born) clock)) := by
      simp only [MxE.e] at hrun
      simp [execOp, ho, hs.eval hx, hrun]
    simp only [Oper.wp, hr', Oper.upon_value, hd]
    have hf1 : Fr [] w w1 := by
      rcases hw1 with rfl | rfl
      · exact Fr.refl _ _
      · exact Fr.drew w
    have hm1 := hm'.ext hf1
    have hlt := hm1.lt List.mem_cons_self
    refine hK ⟨some y, hy, hes⟩ _ _ (hs.put hn _) (hm1.write (FrX.setBlock w1 b _) ?_)
    simp only [Go.ChangeMaps.setBlock]
    rw [Array.getElem?_setIfInBounds_self_of_lt hlt]
omit [DecidableEq κ] in
theorem Val.entryX {x : Operand} {mb b clock : Nat} {es : List (MxE κ)} {seen : Array Nat} {y : MxE κ} (ho : o.op = .entry x) (hx : lk E x = some (.pointer (some ⟨b, 0, none⟩))) (hi : (b, .mapIter (some mb) clock (seen.push y.born) clock) ∈ L) (hm : ∀ w, Mem w0 S0 L w → w.heap[mb]? = some (mxO kv es clock)) (hy : y ∈ es) (hnd : (es.map (·.born)).Nodup) :
    Val P n w0 S0 E L o (.tuple #[kv y.k, y.v]) := by
  intro a w hs hmem
  have hr := run_entry_at (P := P) w b mb clock seen _ clock (y.e kv) (hmem.has _ hi) (hm w hmem) (by rw [List.toList_toArray]; exact List.mem_map_of_mem hy) (by rw [List.toList_toArray, List.map_map]; exact hnd)
  simp only [MxE.e] at hr
  simp [execOp, ho, hs.eval hx, hr]
omit [DecidableEq κ] in
/-- maps.clone. -/
theorem New.cloneX {f : FuncId} {x : Operand} {ts : Array TypeId} {fn : Func} {mb clock : Nat} {es : List (MxE κ)} (hf : P.funcs[f]? = some fn) (ho : o.op = .call { callee := .value (.func f), args := #[x], argTypes := ts }) (hnm : (fn.name == "runtime.NumGoroutine") = false) (hb : fn.body.isNone = true) (hn : Extern.findNext fn = none) (he : Extern.find fn = some Extern.MapsClone.clone)
    (hx : lk E x = some (.iface t (.map (some mb)))) (hm : ∀ w, Mem w0 S0 L w → w.heap[mb]? = some (mxO kv es clock)) : New P n w0 S0 E L o (fun b => .iface t (.map (some b))) (mxO kv es clock) := by
  intro a w hs hmem
  refine ⟨w, Fr.refl _ _, rfl, ?_⟩
  have hc := run_callFunc_extern hf hnm hb hn he #[.iface t (.map (some mb))] w
  have hmb := hm w hmem
  have hcl : (Extern.MapsClone.clone #[.iface t (.map (some mb))]).run P w = .ok (.iface t (.map (some w.heap.size))) (w.alloc (mxO kv es clock)) := by
    unfold mxO at hmb ⊢
    have e : Extern.MapsClone.clone #[.iface t (.map (some mb))] = (getObj mb >>= fun o => match o with
      | .map entries clock => do pure (.iface t (.map (some (← newObj (.map entries clock)))))
      | _ => stuck "maps.clone: a map expected") := rfl
    rw [e]
    simp [MapKept.run_getObj_map hmb]
  rw [hcl] at hc
  have hv := hs.eval hx
  rw [← hv] at hc
  simp [execOp, ho, resolve, Act.eval, Deferred.ofValue, invoke]
  simpa [Act.eval] using hc
end
section
variable {κ : Type} [DecidableEq κ]
/-- A map that holds nothing twice. -/
structure MxOk (es : List (MxE κ)) (clock : Nat) : Prop where
  nd : (es.map (·.k)).Nodup
  bn : ∀ x ∈ es, x.born < clock
  bd : (es.map (·.born)).Nodup
omit [DecidableEq κ] in
theorem mxOk_nil : MxOk ([] : List (MxE κ)) 0 where
  nd := List.nodup_nil
  bn := fun _ h => by cases h
  bd := List.nodup_nil
theorem mxAt_none {k : κ} : ∀ {es : List (MxE κ)} {j : Nat}, mxAt k es j = none → ∀ x ∈ es, x.k ≠ k
  | [], _, _, x, hx => by cases hx
  | y :: es, j, h, x, hx => by
    unfold mxAt at h
    split at h
    · cases h
    · rename_i hy
      rcases List.mem_cons.1 hx with rfl | hx
      · exact hy
      · exact mxAt_none h x hx
theorem mxGet_mem {es : List (MxE κ)} (nd : (es.map (·.k)).Nodup) {x : MxE κ} (hx : x ∈ es) : mxGet x.k es = some x.v := by
  unfold mxGet
  cases h : mxAt x.k es 0 with
  | none => exact absurd rfl (mxAt_none h x hx)
  | some p =>
    obtain ⟨_, h2, h3⟩ := mxAt_some (x := p.2) (j' := p.1) h
    rw [Nat.sub_zero] at h2
    obtain ⟨a, ha⟩ := List.mem_iff_getElem?.1 hx
    obtain ⟨l1, e1⟩ := List.getElem?_eq_some_iff.1 ha
    obtain ⟨l2, e2⟩ := List.getElem?_eq_some_iff.1 h2
    have := (List.getElem_inj (h₀ := by simpa using l1) (h₁ := by simpa using l2) nd).1 (by simp [e1, e2, h3])
    subst this
    rw [ha] at h2
    cases h2
    rfl
theorem mxGet_no {k : κ} {es : List (MxE κ)} (h : ∀ x ∈ es, x.k ≠ k) : mxGet k es = none := by
  unfold mxGet
  cases hm : mxAt k es 0 with
  | none => rfl
  | some p =>
    obtain ⟨_, h2, h3⟩ := mxAt_some (x := p.2) (j' := p.1) hm
    exact absurd h3 (h _ (List.mem_of_getElem? h2))
theorem mxUpd_ok {k : κ} {v : Value} {es : List (MxE κ)} {clock : Nat} (ok : MxOk es clock) : MxOk (mxUpd k v es clock).1 (mxUpd k v es clock).2 ∧ ∀ k', mxGet k' (mxUpd k v es clock).1 = if k' = k then some v else mxGet k' es := by
  unfold mxUpd
  cases hm : mxAt k es 0 with
  | none =>
    have hno := mxAt_none hm
    dsimp only
    have nd' : ((es ++ [(⟨k, v, clock⟩ : MxE κ)]).map (·.k)).Nodup := by
      rw [List.map_append, List.nodup_append]
      refine ⟨ok.nd, by simp, fun a ha b hb => ?_⟩
      obtain ⟨y, hy, rfl⟩ := List.mem_map.1 ha
      rw [List.map_cons, List.map_nil, List.mem_singleton] at hb
      subst hb
      exact hno y hy
    refine ⟨⟨nd', fun y hy => ?_, ?_⟩, fun k' => ?_⟩
    · rcases List.mem_append.1 hy with hy | hy
      · exact Nat.lt_succ_of_lt (ok.bn y hy)
      · rw [List.mem_singleton] at hy; subst hy; exact Nat.lt_succ_self _
    · rw [List.map_append, List.nodup_append]
      refine ⟨ok.bd, by simp, fun a ha b hb => ?_⟩
      obtain ⟨y, hy, rfl⟩ := List.mem_map.1 ha
      rw [List.map_cons, List.map_nil, List.mem_singleton] at hb
      subst hb
      exact Nat.ne_of_lt (ok.bn y hy)
    · by_cases e : k' = k
      · rw [if_pos e, e]
        exact mxGet_mem nd' (x := ⟨k, v, clock⟩) (List.mem_append_right _ List.mem_cons_self)
      · rw [if_neg e]
        by_cases hx : ∃ x ∈ es, x.k = k'
        · obtain ⟨x, hx, rfl⟩ := hx
          rw [mxGet_mem ok.nd hx, mxGet_mem nd' (List.mem_append_left _ hx)]
        · rw [mxGet_no fun x hx' hk => hx ⟨x, hx', hk⟩]
          refine mxGet_no fun x hx' hk => ?_
          rcases List.mem_append.1 hx' with h | h
          · exact hx ⟨x, h, hk⟩
          · rw [List.mem_singleton] at h; subst h; exact e hk.symm
  | some p =>
    obtain ⟨j, x⟩ := p
    obtain ⟨_, hx, hk⟩ := mxAt_some hm
    rw [Nat.sub_zero] at hx
    obtain ⟨hj, hxe⟩ := List.getElem?_eq_some_iff.1 hx
    have hxm := List.mem_of_getElem? hx
    dsimp only
    have ek : (es.set j { x with v := v }).map (·.k) = es.map (·.k) := by
      rw [List.map_set]
      apply List.ext_getElem?
      intro m
      rw [List.getElem?_set]
      split
      · rename_i e; subst e; simp [hj, hxe]
      · rfl
    have eb : (es.set j { x with v := v }).map (·.born) = es.map (·.born) := by
      rw [List.map_set]
      apply List.ext_getElem?
      intro m
      rw [List.getElem?_set]
      split
      · rename_i e; subst e; simp [hj, hxe]
      · rfl
    have nd' : ((es.set j { x with v := v }).map (·.k)).Nodup := by rw [ek]; exact ok.nd
    have hnew : ({ x with v := v } : MxE κ) ∈ es.set j { x with v := v } := List.mem_iff_getElem?.2 ⟨j, by rw [List.getElem?_set_self hj]⟩
    refine ⟨⟨nd', fun y hy => ?_, by rw [eb]; exact ok.bd⟩, fun k' => ?_⟩
    · rcases List.mem_or_eq_of_mem_set hy with hy | rfl
      · exact ok.bn y hy
      · exact ok.bn x hxm
    · by_cases e : k' = k
      · rw [if_pos e, e, ← hk]
        exact mxGet_mem nd' hnew
      · rw [if_neg e]
        by_cases hy : ∃ y ∈ es, y.k = k'
        · obtain ⟨y, hy, rfl⟩ := hy
          obtain ⟨a, ha⟩ := List.mem_iff_getElem?.1 hy
          have hne : j ≠ a := by
            rintro rfl
            rw [hx] at ha
            cases ha
            exact e hk
          rw [mxGet_mem ok.nd hy, mxGet_mem nd' (List.mem_iff_getElem?.2 ⟨a, by rw [List.getElem?_set_ne hne]; exact ha⟩)]
        · rw [mxGet_no fun y hy' hk' => hy ⟨y, hy', hk'⟩]
          refine mxGet_no fun y hy' hk' => ?_
          rcases List.mem_or_eq_of_mem_set hy' with h | rfl
          · exact hy ⟨y, h, hk'⟩
          · exact e (hk'.symm.trans hk)
end
end Go.Vc
