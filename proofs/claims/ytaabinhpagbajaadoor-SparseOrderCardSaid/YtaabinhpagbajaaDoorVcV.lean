/- Maps: the rules. -/
import Derived.Test.YtaabinhpagbajaaDoorVcU
set_option linter.unusedSimpArgs false
set_option linter.unusedVariables false
namespace Go.Vc
open Go Go.Sha
theorem Fr.setBlock (w : World) (b : Nat) (o : Obj) : Fr [b] w (Go.ChangeMaps.setBlock w b o) :=
  ⟨rfl, rfl, rfl, by simp [Go.ChangeMaps.setBlock], fun k _ hk => by
    have : b ≠ k := fun e => hk (by rw [e]; exact List.mem_singleton.2 rfl)
    simp [Go.ChangeMaps.setBlock, Array.getElem?_setIfInBounds, this]⟩
theorem RQ.upS {n : Nat} {w0 : World} {S0 : List Nat} {Q : Exit → Act → World → Prop} {E : Env} {L : Hp} {D : Type} {N : Nat} {R : Nat → D → Prop} {Ei : Nat → D → Env} {Li : Nat → D → Hp} {i : Nat} (j : Nat) (d : D) (hij : i < j) (hj : j ≤ N) (hR : R j d) (hE : Env.le (Ei j d) E) {L1 : Hp} (hp : L.Perm L1) (hL : (Li j d).Sublist L1) :
    RQ n w0 S0 .normal (Exit.then (Up n w0 S0 N R Ei Li i) Q) E L :=
  fun _ _ hs hm => ⟨j, d, hij, hj, hR, hs.weak hE, (hm.perm hp).sublist hL⟩
theorem Mem.part {w0 w' : World} {S0 : List Nat} {L A B : Hp} (hm : Mem w0 S0 L w') (hp : L.Perm (A ++ B)) : Has A w' ∧ (A.map (·.1)).Nodup :=
  ⟨fun q hq => (hm.perm hp).has q (List.mem_append_left _ hq), by have := (hm.perm hp).nd; rw [List.map_append] at this; exact (List.nodup_append.1 this).1⟩
theorem RQ.endN {P : Program} {n : Nat} {w0 : World} {S0 : List Nat} {E : Env} {L : Hp} {fn : Func} {R : Ending → World → Prop} (hr : fn.results = #[]) (h : ∀ w, Mem w0 S0 L w → R (.returned (.tuple #[])) w) : RQ n w0 S0 .normal (bodyPost P fn R) E L := by
  intro a w hs hm
  refine ⟨hs.defers, .tuple #[], ?_, h w hm⟩
  rw [results_eq, hr]; simp
section
variable {P : Program} {n : Nat} {w0 : World} {S0 : List Nat} {Q : Exit → Act → World → Prop} {E : Env} {L : Hp} {o : Oper} {d : Nat} {TT : List (Nat × TI)} {t kt et : TypeId} {z : Value} {ti : TI}
theorem New.makeMap2 (ho : o.op = .makeMap t none) : New P n w0 S0 E L o (fun b => .map (some b)) (mpO [] 0) := by
  intro a w hs _
  refine ⟨w, Fr.refl _ _, rfl, ?_⟩
  simp [execOp, ho, Instr.makeMap, mpO]
theorem Val.lookup2 (T : MapTy P t kt et (.agg (u8s (List.replicate 8 0)).toArray)) {x y : Operand} {b clock k i : Nat} {es : List MpE} (ho : o.op = .lookup t x y false) (hx : lk E x = some (.map (some b))) (hy : lk E y = some (mkey k i)) (hm : (b, mpO es clock) ∈ L) :
    Val P n w0 S0 E L o (.agg (u8s (mpGet k i es)).toArray) := by
  intro a w hs hmem
  have := run_lookup_two T k i (hmem.has _ hm)
  simp [execOp, ho, hs.eval hx, hs.eval hy, this]
/-- .. of a map that stood at the beginning. -/
theorem Val.lookupOld (T : MapTy P t kt et (.agg (u8s (List.replicate 8 0)).toArray)) {x y : Operand} {b clock k i : Nat} {es : List MpE} (ho : o.op = .lookup t x y false) (hx : lk E x = some (.map (some b))) (hy : lk E y = some (mkey k i)) (hm : w0.heap[b]? = some (mpO es clock)) (hS : b ∉ S0) :
    Val P n w0 S0 E L o (.agg (u8s (mpGet k i es)).toArray) := by
  intro a w hs hmem
  have := run_lookup_two T k i (w := w) ((hmem.fr.block b (Array.getElem?_eq_some_iff.1 hm).1 hS).trans hm)
  simp [execOp, ho, hs.eval hx, hs.eval hy, this]
theorem OpTo.mapUpd (T : MapTy P t kt et z) {x y v : Operand} {b clock k i : Nat} {h : List Nat} {es : List MpE} {L' : Hp} (ho : o.op = .mapUpdate t x y v) (hd : o.dst = none) (hx : lk E x = some (.map (some b))) (hy : lk E y = some (mkey k i)) (hv : lk E v = some (.agg (u8s h).toArray)) (hL : L.Perm ((b, mpO es clock) :: L')) :
    OpTo P n w0 S0 Q E L o (Y := Unit) (fun _ => E) (fun _ => (b, mpO (mpUpd k i h es clock).1 (mpUpd k i h es clock).2) :: L') := by
  intro a w hs hm K hK
  have hm' := hm.perm hL
  have hb := hm'.has _ (List.mem_cons_self)
  have hr := run_update_two T k i h hb
  have hr' : (execOp a.eval o).run P w = .ok .skip (Go.ChangeMaps.setBlock w b (mpO (mpUpd k i h es clock).1 (mpUpd k i h es clock).2)) := by
    simp [execOp, ho, hs.eval hx, hs.eval hy, hs.eval hv, hr]
  simp only [Oper.wp, hr', Oper.upon_skip, hd]
  exact hK () _ _ hs (hm'.write (Fr.setBlock w b _) (Go.ChangeMaps.heap_setBlock_same hb _))
theorem OpTo.mapDel (T : MapTy P t kt et z) {x y : Operand} {b clock k i : Nat} {es : List MpE} {L' : Hp} (ho : o.op = .call { callee := .builtin .delete, args := #[x, y], argTypes := #[t, kt] }) (hd : o.dst = none) (hx : lk E x = some (.map (some b))) (hy : lk E y = some (mkey k i)) (hL : L.Perm ((b, mpO es clock) :: L')) :
    OpTo P n w0 S0 Q E L o (Y := Unit) (fun _ => E) (fun _ => (b, mpO (mpDel k i es) clock) :: L') := by
  intro a w hs hm K hK
  have hm' := hm.perm hL
  have hb := hm'.has _ (List.mem_cons_self)
  have hr := run_delete_two T k i hb o.type
  have hr' : (execOp a.eval o).run P w = .ok (.value (.tuple #[])) (Go.ChangeMaps.setBlock w b (mpO (mpDel k i es) clock)) := by
    simp [execOp, ho, hs.eval hx, hs.eval hy, resolve, invoke, builtin, hr]
  simp only [Oper.wp, hr', Oper.upon_value, hd]
  exact hK () _ _ hs (hm'.write (Fr.setBlock w b _) (Go.ChangeMaps.heap_setBlock_same hb _))
theorem run_equalIn_map (dd : Nat) {t k e : TypeId} (h : P.underlying t = some (.map k e)) (b : Nat) (w : World) : (Op.equalIn (dd + 1) t (.map (some b)) (.map none)).run P w = .ok false w := by
  simp [Op.equalIn, run_underlying h]
theorem Val.mapNil {k e : TypeId} (hu : P.underlying t = some (.map k e)) {x y : Operand} {b t2 : Nat} (ho : o.op = .binOp .eql t x y t2) (hx : lk E x = some (.map (some b))) (hy : lk E y = some (.map none)) : Val P n w0 S0 E L o (.bool false) := by
  intro ac w hs _
  have hg : (eqGuard .eql t x y (.map (some b)) (.map none)).run P w = .ok () w := by simp [eqGuard]
  have he : (Op.equal t (.map (some b)) (.map none)).run P w = .ok false w := run_equalIn_map 9999 hu b w
  simp [execOp, ho, hs.eval hx, hs.eval hy, hg, binOp, he]
theorem New.range2 (T : MapTy P t kt et z) {x : Operand} {mb clock : Nat} {es : List MpE} (ho : o.op = .range t x) (hx : lk E x = some (.map (some mb))) (hm : ∀ w, Mem w0 S0 L w → w.heap[mb]? = some (mpO es clock)) : New P n w0 S0 E L o (fun b => .pointer (some ⟨b, 0, none⟩)) (.mapIter (some mb) clock #[] clock) := by
  intro a w hs hmem
  refine ⟨w, Fr.refl _ _, rfl, ?_⟩
  have := run_range_map (P := P) w t kt et mb _ clock T.hu (hm w hmem)
  simp [execOp, ho, hs.eval hx, this]
/-- One step of a range: nothing is left, or an entry that was not yet seen. -/
theorem OpTo.next2 {x : Operand} {mb b clock : Nat} {es : List MpE} {seen : Array Nat} {L' : Hp} (ho : o.op = .next x false) (hd : o.dst = some d) (hn : Nat.blt d n = true) (hx : lk E x = some (.pointer (some ⟨b, 0, none⟩))) (hL : L.Perm ((b, .mapIter (some mb) clock seen clock) :: L')) (hm : ∀ w, Mem w0 S0 L w → w.heap[mb]? = some (mpO es clock)) (hb : ∀ x ∈ es, x.born < clock) :
    OpTo P n w0 S0 Q E L o (Y := {y : Option MpE // match y with | none => ∀ x ∈ es, seen.contains x.born = true | some x => x ∈ es ∧ seen.contains x.born = false}) (fun y => (d, match y.1 with | none => .tuple #[.bool false] | some x => .tuple #[.bool true, mkey x.k x.i, .agg (u8s x.h).toArray]) :: E) (fun y => (b, match y.1 with | none => .mapIter (some mb) clock seen clock | some x => .mapIter (some mb) clock (seen.push x.born) clock) :: L') := by
  intro a w hs hmem K hK
  have hm' := hmem.perm hL
  have hr := hm'.has _ (List.mem_cons_self)
  have hmb := hm w hmem
  unfold mpO at hmb
  rcases run_next_at (P := P) w o.type b mb clock clock seen _ clock hr hmb (by
    intro x hx
    rw [List.toList_toArray] at hx
    obtain ⟨y, hy, rfl⟩ := List.mem_map.1 hx
    exact hb y hy) (Nat.le_refl _) with ⟨h0, hrun⟩ | ⟨e, he, w1, hw1, hrun⟩
  · have hr' : (execOp a.eval o).run P w = .ok (.value (.tuple #[.bool false])) w := by simp [execOp, ho, hs.eval hx, hrun]
    simp only [Oper.wp, hr', Oper.upon_value, hd]
    refine hK ⟨none, fun x hx => ?_⟩ _ _ (hs.put hn _) hm'
    exact all_seen _ seen h0 x.e (by rw [List.toList_toArray]; exact List.mem_map_of_mem hx)
  · obtain ⟨hem, hes⟩ := mem_left he
    rw [List.toList_toArray] at hem
    obtain ⟨y, hy, rfl⟩ := List.mem_map.1 hem
    have hr' : (execOp a.eval o).run P w = .ok (.value (.tuple #[.bool true, mkey y.k y.i, .agg (u8s y.h).toArray])) (Go.ChangeMaps.setBlock w1 b (.mapIter (some mb) clock (seen.push y.born) clock)) := by
      simp only [MpE.e] at hrun
      simp [execOp, ho, hs.eval hx, hrun]
    simp only [Oper.wp, hr', Oper.upon_value, hd]
    have hf1 : Fr [] w w1 := by
      rcases hw1 with rfl | rfl
      · exact Fr.refl _ _
      · exact Fr.drew w
    have hm1 := hm'.ext hf1
    have hlt := hm1.lt List.mem_cons_self
    refine hK ⟨some y, hy, hes⟩ _ _ (hs.put hn _) (hm1.write (Fr.setBlock w1 b _) ?_)
    simp only [Go.ChangeMaps.setBlock]
    rw [Array.getElem?_setIfInBounds_self_of_lt hlt]
theorem Val.entry2 {x : Operand} {mb b clock : Nat} {es : List MpE} {seen : Array Nat} {y : MpE} (ho : o.op = .entry x) (hx : lk E x = some (.pointer (some ⟨b, 0, none⟩))) (hi : (b, .mapIter (some mb) clock (seen.push y.born) clock) ∈ L) (hm : ∀ w, Mem w0 S0 L w → w.heap[mb]? = some (mpO es clock)) (hy : y ∈ es) (hnd : (es.map (·.born)).Nodup) :
    Val P n w0 S0 E L o (.tuple #[mkey y.k y.i, .agg (u8s y.h).toArray]) := by
  intro a w hs hmem
  have hr := run_entry_at (P := P) w b mb clock seen _ clock y.e (hmem.has _ hi) (hm w hmem) (by rw [List.toList_toArray]; exact List.mem_map_of_mem hy) (by rw [List.toList_toArray, List.map_map]; exact hnd)
  simp only [MpE.e] at hr
  simp [execOp, ho, hs.eval hx, hr]
theorem Val.mkIm {k e : TypeId} (hu : P.underlying t = some (.map k e)) {x : Operand} {v : Value} (ho : o.op = .makeInterface t x) (hx : lk E x = some v) : Val P n w0 S0 E L o (.iface t v) := by
  intro a w hs _
  simp [execOp, ho, hs.eval hx, Instr.makeInterface, run_underlying hu]
theorem Val.assertM {k e : TypeId} (hu : P.underlying t = some (.map k e)) {x : Operand} {xt : TypeId} {v : Value} (ho : o.op = .typeAssert x xt t false) (hx : lk E x = some (.iface t v)) : Val P n w0 S0 E L o v := by
  intro a w hs _
  simp [execOp, ho, hs.eval hx, Instr.typeAssert, run_underlying hu]
/-- maps.clone. -/
theorem New.clone {f : FuncId} {x : Operand} {ts : Array TypeId} {fn : Func} {mb clock : Nat} {es : List MpE} (hf : P.funcs[f]? = some fn) (ho : o.op = .call { callee := .value (.func f), args := #[x], argTypes := ts }) (hnm : (fn.name == "runtime.NumGoroutine") = false) (hb : fn.body.isNone = true) (hn : Extern.findNext fn = none) (he : Extern.find fn = some Extern.MapsClone.clone)
    (hx : lk E x = some (.iface t (.map (some mb)))) (hm : ∀ w, Mem w0 S0 L w → w.heap[mb]? = some (mpO es clock)) : New P n w0 S0 E L o (fun b => .iface t (.map (some b))) (mpO es clock) := by
  intro a w hs hmem
  refine ⟨w, Fr.refl _ _, rfl, ?_⟩
  have hc := run_callFunc_extern hf hnm hb hn he #[.iface t (.map (some mb))] w
  have hmb := hm w hmem
  have hcl : (Extern.MapsClone.clone #[.iface t (.map (some mb))]).run P w = .ok (.iface t (.map (some w.heap.size))) (w.alloc (mpO es clock)) := by
    unfold mpO at hmb ⊢
    have e : Extern.MapsClone.clone #[.iface t (.map (some mb))] = (getObj mb >>= fun o => match o with
      | .map entries clock => do pure (.iface t (.map (some (← newObj (.map entries clock)))))
      | _ => stuck "maps.clone: a map expected") := rfl
    rw [e]
    simp [MapKept.run_getObj_map hmb]
  rw [hcl] at hc
  have hv := hs.eval hx
  rw [← hv] at hc
  simp [execOp, ho, resolve, Act.eval, Deferred.ofValue, invoke]
  simpa [Act.eval] using hc
end
end Go.Vc
