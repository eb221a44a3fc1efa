/- Maps whose keys are whole numbers: made, set, counted. -/
import Derived.Test.YtmajfapnbchecaaGreatDoorVcN
import Derived.MapKept
set_option linter.unusedSimpArgs false
set_option linter.unusedVariables false
namespace Go.Vc
open Go Go.Sha
/-- A map of just these keys. -/
def MapI (ks : List Int) (ob : Obj) : Prop := ∃ es c, ob = .map es c ∧ es.toList.map (·.key) = ks.map (Value.int .i64)
theorem MapI.nil : MapI [] (.map #[] 0) := ⟨#[], 0, rfl, rfl⟩
def insI (z : Int) (ks : List Int) : List Int := if z ∈ ks then ks else ks ++ [z]
theorem findNow_int (z : Int) : ∀ (es : List MapEntry) (ks : List Int) (i : Nat), es.map (·.key) = ks.map (Value.int .i64) →
    (z ∈ ks ∧ ∃ j e, Instr.findNow (.int .i64) (.int .i64 z) es i = some (some (i + j, e.val)) ∧ es[j]? = some e ∧ e.key = .int .i64 z) ∨ (z ∉ ks ∧ Instr.findNow (.int .i64) (.int .i64 z) es i = some none)
  | [], [], i, _ => .inr ⟨by simp, rfl⟩
  | e :: es, k :: ks, i, h => by
    simp only [List.map_cons, List.cons.injEq] at h
    by_cases hz : z = k
    · subst hz
      refine .inl ⟨List.mem_cons_self, 0, e, ?_, rfl, h.1⟩
      simp [Instr.findNow, h.1, Instr.sameNow]
    · have hf : Instr.findNow (.int .i64) (.int .i64 z) (e :: es) i = Instr.findNow (.int .i64) (.int .i64 z) es (i + 1) := by
        have hb : (z == k) = false := by simpa using hz
        simp [Instr.findNow, h.1, Instr.sameNow, hb]
      rcases findNow_int z es ks (i + 1) h.2 with ⟨h1, j, e', h2, h3, h4⟩ | ⟨h1, h2⟩
      · refine .inl ⟨List.mem_cons_of_mem _ h1, j + 1, e', ?_, h3, h4⟩
        rw [hf, h2]
        congr 3
        omega
      · refine .inr ⟨?_, by rw [hf, h2]⟩
        simp only [List.mem_cons, not_or]
        exact ⟨hz, h1⟩
  | [], _ :: _, _, h => by simp at h
  | _ :: _, [], _, h => by simp at h
section
variable {P : Program} {n : Nat} {w0 : World} {S0 : List Nat} {Q : Exit → Act → World → Prop} {E : Env} {L : Hp} {o : Oper} {d : Nat} {T : List (Nat × TI)} {t : Nat} {ti : TI}
theorem run_getMap {w : World} {b c : Nat} {es : Array MapEntry} (hb : w.heap[b]? = some (.map es c)) : (getObj b).run P w = .ok (.map es c) w := by simp [getObj, Sem.run, hb]
theorem run_setMap {w : World} {b c : Nat} {es : Array MapEntry} (ob' : Obj) (hb : w.heap[b]? = some (.map es c)) : (setObj b ob').run P w = .ok () { w with heap := w.heap.setIfInBounds b ob' } := by simp [setObj, Sem.run, hb]
theorem run_keyOk {kt : TypeId} {z : Int} {k : IntKind} (h : P.underlying kt = some (.int k)) (e : Bool) (m : Nat) (w : World) : (Instr.checkKey e (m + 1) kt (.int k z)).run P w = .ok () w := by
  unfold Instr.checkKey
  simp [run_underlying h]
theorem New.makeMap (ho : o.op = .makeMap t none) : New P n w0 S0 E L o (fun b => .map (some b)) (.map #[] 0) := by
  intro a w _ _
  refine ⟨w, Fr.refl _ _, rfl, ?_⟩
  simp [execOp, ho, Instr.makeMap, newObj, Sem.run]
theorem Val.lenMap (hT : TabOk P T) {x : Operand} {b kt et : Nat} {ks : List Int} {ob : Obj} (ho : o.op = .call { callee := .builtin .len, args := #[x], argTypes := #[t] }) (ht : tiGet T t = some ti) (hd : ti.desc = .map kt et)
    (hx : lk E x = some (.map (some b))) (hm : (b, ob) ∈ L) (hI : MapI ks ob) : Val P n w0 S0 E L o (.int .i64 ks.length) := by
  obtain ⟨es, c, rfl, he⟩ := hI
  intro a w hs hmem
  have h2 := (hT _ _ ht).1
  rw [hd] at h2
  have h3 := run_getMap (P := P) (hmem.has _ hm)
  have hl : es.size = ks.length := by
    have := congrArg List.length he
    simpa using this
  simp [execOp, ho, hs.eval hx, resolve, invoke, builtin, Builtin.len_, run_underlying h2, goInt, h3, hl]
theorem run_keyStays (z : Int) (w : World) : (Instr.keyThatStays (.int .i64 z) (.int .i64 z)).run P w = .ok (.int .i64 z) w := by
  simp [Instr.keyThatStays, Instr.sameBits]
theorem setHeap_fr (w : World) (b : Nat) (ob : Obj) : Fr [b] w { w with heap := w.heap.setIfInBounds b ob } :=
  ⟨rfl, rfl, rfl, by simp, fun k _ hk => by
    have : k ≠ b := by simpa using hk
    show (w.heap.setIfInBounds b ob)[k]? = w.heap[k]?
    rw [Array.getElem?_setIfInBounds_ne (Ne.symm this)]⟩
theorem setHeap_has {w : World} {b : Nat} {ob ob' : Obj} (h : w.heap[b]? = some ob') : ({ w with heap := w.heap.setIfInBounds b ob } : World).heap[b]? = some ob := by
  have := (Array.getElem?_eq_some_iff.1 h).1
  show (w.heap.setIfInBounds b ob)[b]? = _
  rw [Array.getElem?_setIfInBounds_self_of_lt this]
/-- A key is set: it is there. -/
theorem OpTo.mapInt (hT : TabOk P T) {m k x : Operand} {b kt et : Nat} {ks : List Int} {ob : Obj} {z : Int} {v : Value} {ki : TI} {L' : Hp} (hd : o.dst = none) (ho : o.op = .mapUpdate t m k x) (ht : tiGet T t = some ti) (htd : ti.desc = .map kt et)
    (hk : tiGet T kt = some ki) (hkd : ki.desc = .int .i64) (hm : lk E m = some (.map (some b))) (hz : lk E k = some (.int .i64 z)) (hx : lk E x = some v) (hL : L.Perm ((b, ob) :: L')) (hI : MapI ks ob) :
    OpTo P n w0 S0 Q E L o (Y := {ob' : Obj // MapI (insI z ks) ob'}) (fun _ => E) (fun y => (b, y.1) :: L') := by
  obtain ⟨es, c, rfl, he⟩ := hI
  have h2 := (hT _ _ ht).1
  rw [htd] at h2
  have h3 := (hT _ _ hk).1
  rw [hkd] at h3
  have hck : ∀ w, (Instr.checkKey false 10000 kt (.int .i64 z)).run P w = .ok () w := fun w => run_keyOk h3 false 9999 w
  rcases findNow_int z es.toList ks 0 he with ⟨h1, j, e, hf, hj, hke⟩ | ⟨h1, hf⟩
  · have hp : OpTo P n w0 S0 Q E L o (Y := Unit) (fun _ => E) (fun _ => (b, .map (es.modify j fun e => { e with key := .int .i64 z, val := v }) c) :: L') :=
      OpTo.put hd hL fun a w hst hb => by
        refine ⟨_, ?_, setHeap_fr w b _, setHeap_has hb⟩
        have hg := run_getMap (P := P) hb
        have hse := run_setMap (P := P) (.map (es.modify j fun e => { e with key := .int .i64 z, val := v }) c) hb
        have hjj : (es[j]?).map (·.key) = some (.int .i64 z) := by
          rw [← Array.getElem?_toList, hj, Option.map_some, hke]
        rw [Nat.zero_add] at hf
        simp [execOp, ho, hst.eval hm, hst.eval hz, hst.eval hx, Instr.mapUpdate, run_underlying h2, hg, hck, Instr.findKey, run_underlying h3, hf, hjj, run_keyStays, hse]
    intro a w hs hmem K hK
    refine hp a w hs hmem K fun _ a' w' h1' h2' => hK ⟨_, es.modify j fun e => { e with key := .int .i64 z, val := v }, c, rfl, ?_⟩ a' w' h1' h2'
    rw [insI, if_pos h1, ← he]
    apply List.ext_getElem?
    intro q
    rw [List.getElem?_map, List.getElem?_map, Array.getElem?_toList, Array.getElem?_modify]
    by_cases hq : j = q
    · subst hq
      rw [if_pos rfl, ← Array.getElem?_toList, hj]
      simp [hke]
    · rw [if_neg hq, Array.getElem?_toList]
  · have hp : OpTo P n w0 S0 Q E L o (Y := Unit) (fun _ => E) (fun _ => (b, .map (es.push { key := .int .i64 z, val := v, born := c }) (c + 1)) :: L') :=
      OpTo.put hd hL fun a w hst hb => by
        refine ⟨_, ?_, setHeap_fr w b _, setHeap_has hb⟩
        have hg := run_getMap (P := P) hb
        have hse := run_setMap (P := P) (.map (es.push { key := .int .i64 z, val := v, born := c }) (c + 1)) hb
        simp [execOp, ho, hst.eval hm, hst.eval hz, hst.eval hx, Instr.mapUpdate, run_underlying h2, hg, hck, Instr.findKey, run_underlying h3, hf, hse]
    intro a w hs hmem K hK
    refine hp a w hs hmem K fun _ a' w' h1' h2' => hK ⟨_, es.push { key := .int .i64 z, val := v, born := c }, c + 1, rfl, ?_⟩ a' w' h1' h2'
    rw [insI, if_neg h1]
    simp [he]
end
end Go.Vc
