/- wire: guarded. -/
import Derived.Test.YtgnjdpaenojfhaaWrL
set_option linter.unusedSimpArgs false
set_option linter.unusedVariables false
namespace Go.Vc
open Go
/-- What is known of a frame that has deferred calls. -/
structure SD (n : Nat) (E : Env) (ds : List Deferred) (a : Act) : Prop where
  defers : a.defers = ds
  size : a.tmps.size = n
  env : ∀ t v, E.get t = some v → a.tmps.getD t undef = v
theorem SD.st {n : Nat} {E : Env} {ds : List Deferred} {a : Act} (h : SD n E ds a) : St n E { a with defers := [] } := ⟨rfl, h.size, h.env⟩
theorem St.sd {n : Nat} {E : Env} {a : Act} (h : St n E a) (ds : List Deferred) : SD n E ds { a with defers := ds } := ⟨rfl, h.size, h.env⟩
theorem SD.put {n : Nat} {E : Env} {ds : List Deferred} {a : Act} (h : SD n E ds a) {d : Nat} (hd : Nat.blt d n = true) (v : Value) : SD n ((d, v) :: E) ds (a.put (some d) v) :=
  ⟨h.defers, (h.st.put hd v).size, (h.st.put hd v).env⟩
/-- How a call of a function without results ends: none: it returns; some: it panics with that. -/
def endO : Option (TypeId × Value) → Ending
  | none => .returned (.tuple #[])
  | some p => .panicked [{ v := .iface p.1 p.2, recovered := false }]
/-- It turns the blocks Lst into L', and returns or panics. -/
def TurnsO (P : Program) (f : FuncId) (vs : List Value) (w : World) (Lst : Hp) {Y : Type} (o : Y → Option (TypeId × Value)) (L' : Y → Hp) : Prop :=
  Calls P f vs.toArray w fun e w' => ∃ y, e = endO (o y) ∧ Fr (Lst.map (·.1)) w w' ∧ Has (L' y) w' ∧ (∀ p ∈ L' y, w.heap.size ≤ p.1 ∨ p.1 ∈ Lst.map (·.1)) ∧ ((L' y).map (·.1)).Nodup
theorem TurnsO.of {Y : Type} {o : Y → Option (TypeId × Value)} {L' : Y → Hp} {Lst L1 Lr : Hp} {w0 w : World} (y : Y) {e : Ending} (he : e = endO (o y)) (hm : Mem w0 (Lst.map (·.1)) L1 w) (hp : L1.Perm (L' y ++ Lr)) :
    ∃ y', e = endO (o y') ∧ Fr (Lst.map (·.1)) w0 w ∧ Has (L' y') w ∧ (∀ p ∈ L' y', w0.heap.size ≤ p.1 ∨ p.1 ∈ Lst.map (·.1)) ∧ ((L' y').map (·.1)).Nodup :=
  have h := hm.perm hp
  ⟨y, he, h.fr, fun p hp => h.has p (List.mem_append_left _ hp), fun p hp => h.own p (List.mem_append_left _ hp), by have := h.nd; rw [List.map_append] at this; exact (List.nodup_append.1 this).1⟩
def resO : Option (TypeId × Value) → Array Value
  | none => #[.nilIface, .bool true]
  | some p => #[.iface p.1 p.2, .bool false]
theorem Mem.row {w0 w : World} {S0 : List Nat} {L L' : Hp} {b : Nat} {cs : Array Value} {e : TypeId} (cs' : Array Value) (h : Mem w0 S0 L w) (hL : L.Perm ((b, .cells cs e (0, 0)) :: L')) : Mem w0 S0 ((b, .cells cs' e (0, 0)) :: L') (w.setRow b cs') :=
  have h' := h.perm hL
  h'.write (Fr.setRow w b cs') (setRow_heap w b cs cs' e _ (h'.has _ List.mem_cons_self))
theorem SD.store {P : Program} {n : Nat} {E : Env} {ds : List Deferred} {a : Act} {w : World} {Q : Exit → Act → World → Prop} {o : Oper} {ops : Array Oper} {rest : List Oper} {T : List (Nat × TI)} {t : Nat} {ti : TI} (hs : SD n E ds a) (hT : TabOk P T) {x y : Operand} {b : Nat} {arr : Array Value} {e : TypeId} {v : Value} (cs : Array Value)
    (ho : o.op = .store t x y) (ht : tiGet T t = some ti) (hg : o.guard = none) (hd : o.dst = none) (hx : lk E x = some (.pointer (some ⟨b, 0, none⟩))) (hy : lk E y = some v) (hb : w.heap[b]? = some (.cells arr e (0, 0)))
    (hz : v.cells.size = ti.size) (hf : 0 + ti.size ≤ arr.size) (h1 : ∀ u ∈ v.cells.toList, u.oneCell' = true) (hcs : wrAt arr 0 v.cells.toList = cs) (k : wpList P ops Q rest a (w.setRow b cs)) : wpList P ops Q (o :: rest) a w := by
  refine wpList_plain hg fun K hK => ?_
  have := run_storeVar_at (P := P) (hT _ _ ht) w hb hz hf h1
  have ex : a.eval x = _ := hs.st.eval hx
  have ey : a.eval y = _ := hs.st.eval hy
  have hr : (execOp a.eval o).run P w = .ok .skip (w.setRow b cs) := by rw [hcs] at this; simp [execOp, ho, ex, ey, Instr.storeAt, Instr.sureAddr, this]
  simp only [Oper.wp, hr, Oper.upon_skip, hd]
  exact hK _ _ k
end Go.Vc
namespace Go.Proofs.Ytgnjdpaenojfhaa
open Go Go.Vc Go.Sha
theorem one1 {v : Value} (hv : v.cells = #[v]) (h1 : v.oneCell' = true) : ∀ u ∈ v.cells.toList, u.oneCell' = true := by
  intro u hu
  rw [hv] at hu
  simp only [List.mem_cons, List.not_mem_nil, or_false] at hu
  subst hu
  exact h1
set_option maxRecDepth 10000 in set_option maxHeartbeats 4000000 in
theorem guarded_calls {g : FuncId} {fg : Func} (hg : Try.prog.funcs[g]? = some fg) (hnm : (fg.name == "runtime.NumGoroutine") = false) (hb : fg.body.isNone = false) (cap : List Value) (w : World) (Lst : Hp) (hw : Has Lst w) (hnd : (Lst.map (·.1)).Nodup) {Y : Type} {o : Y → Option (TypeId × Value)} {L' : Y → Hp}
    (hc : ∀ w', Fr [] w w' → TurnsO Try.prog g cap w' Lst o L') :
    Turns Try.prog 29 [.func (.func g) #[] cap.toArray] w Lst (Y := Y) (fun y => .tuple (resO (o y))) L' := by
  refine calls_of_wp_defers Try.func29 rfl ?_
  refine (?_ : RC Try.prog _ w (Lst.map (·.1)) _ _ (argEnv 0 [.func (.func g) #[] cap.toArray]) Lst) _ _ (St.enter [.func (.func g) #[] cap.toArray] _ rfl) (Mem.init hw (fun p hp => List.mem_map_of_mem hp) hnd)
  refine z_ ?_
  refine Run.nw nal ?_
  intro b2
  refine z_ ?_
  refine Run.nw nal ?_
  intro b3
  refine z_ ?_
  intro a1 w1 hs1 hm1
  have hfr1 : Fr [] w w1 := ⟨hm1.fr.os, hm1.fr.tape, hm1.fr.output, hm1.fr.size, fun k hk _ => by
    by_cases hin : k ∈ Lst.map (·.1)
    · obtain ⟨p, hp, rfl⟩ := List.mem_map.1 hin
      rw [hm1.has p (List.mem_cons_of_mem _ (List.mem_cons_of_mem _ hp)), hw p hp]
    · exact hm1.fr.block k hk hin⟩
  apply wpList_plain rfl
  intro K hK
  have hmf : (execOp a1.eval ⟨some 4, .makeFunc (.func 35) #[] #[.tmp 2, .tmp 3], 1, "wire.go:138", #[], none⟩).run Try.prog w1 = .ok (.value (.func (.func 35) #[] #[.pointer (some ⟨b2, 0, none⟩), .pointer (some ⟨b3, 0, none⟩)])) w1 := by
    have e2 := hs1.eval (x := .tmp 2) rfl
    have e3 := hs1.eval (x := .tmp 3) rfl
    simp [execOp, Instr.makeFunc, e2, e3]
  simp only [Oper.wp]
  erw [hmf]
  simp only [Oper.upon_value]
  apply hK
  have hs2 := hs1.put (d := 4) rfl (.func (.func 35) #[] #[.pointer (some ⟨b2, 0, none⟩), .pointer (some ⟨b3, 0, none⟩)])
  generalize Act.put a1 _ _ = a2 at hs2 ⊢
  clear hK K hmf
  apply wpList_plain rfl
  intro K hK
  have hdf : (execOp a2.eval ⟨none, .defer { callee := .value (.tmp 4), args := #[], argTypes := #[] }, 0, "wire.go:138", #[{ on := 0, ground := Ground.data }], none⟩).run Try.prog w1 = .ok (.defer ⟨.fn (.func 35) #[.pointer (some ⟨b2, 0, none⟩), .pointer (some ⟨b3, 0, none⟩)], #[]⟩) w1 := by
    have e4 := hs2.eval (x := .tmp 4) rfl
    simp [execOp, resolve, Deferred.ofValue, e4]
  simp only [Oper.wp]
  erw [hdf]
  simp only [Oper.upon_defer]
  apply hK
  have hs3 := hs2.sd [⟨.fn (.func 35) #[.pointer (some ⟨b2, 0, none⟩), .pointer (some ⟨b3, 0, none⟩)], #[]⟩]
  rw [hs2.defers]
  have he3 : Act.put { a2 with defers := [⟨.fn (.func 35) #[.pointer (some ⟨b2, 0, none⟩), .pointer (some ⟨b3, 0, none⟩)], #[]⟩] } none undef = { a2 with defers := [⟨.fn (.func 35) #[.pointer (some ⟨b2, 0, none⟩), .pointer (some ⟨b3, 0, none⟩)], #[]⟩] } := rfl
  erw [he3]
  generalize ({ a2 with defers := [⟨.fn (.func 35) #[.pointer (some ⟨b2, 0, none⟩), .pointer (some ⟨b3, 0, none⟩)], #[]⟩] } : Act) = a3 at hs3 ⊢
  clear hK K hdf he3 hs2 a2 hs1 a1
  refine (?_ : Code.wp _ (Code.seq _ _) _ a3 w1)
  apply wp_seq
  apply wp_region_lit
  apply wpList_plain rfl
  intro K hK
  have hmv := run_ev (P := Try.prog) (o := ⟨some 5, .move (.tmp 0), 1, "wire.go:143", #[], none⟩) rfl hs3.st w1
  simp only [Oper.wp]
  erw [hmv]
  simp only [Oper.upon_value]
  apply hK
  have hs4 := hs3.put (d := 5) rfl (.func (.func g) #[] cap.toArray)
  generalize Act.put a3 _ _ = a4 at hs4 ⊢
  clear hK K hmv hs3 a3
  apply wpList_plain rfl
  intro K hK
  have hcl := run_callF (P := Try.prog) (o := ⟨some 6, .call { callee := .value (.tmp 5), args := #[], argTypes := #[] }, 0, "wire.go:143", #[{ on := 0, ground := Ground.data }], none⟩) hs4.st rfl (xs := []) rfl hg hnm hb rfl w1
  simp only [Oper.wp]
  erw [hcl]
  simp only [Oper.upon_enter]
  have hec : (#[] ++ ([] : List Value).toArray ++ cap.toArray : Array Value) = cap.toArray := by simp
  rw [hec]
  refine (hc w1 hfr1).mono ?_
  rintro e w2 ⟨y, rfl, hfr, hbl, hnew, hndy⟩
  have hm2 := Turns.join hm1 (Lst := Lst) (Lr := [(b3, Obj.cells #[.bool false] 4 (0, 0)), (b2, Obj.cells #[.nilIface] 20 (0, 0))]) (by show ([(b3, Obj.cells #[.bool false] 4 (0, 0)), (b2, Obj.cells #[.nilIface] 20 (0, 0))] ++ Lst).Perm _; exact (perm_of fun f => by (simp only [List.map_append, List.map_cons, List.map_nil, List.sum_append, List.sum_cons, List.sum_nil] <;> omega))) hfr hbl hnew hndy
  clear hec hcl
  have h32 : b2 ≠ b3 := by
    have h := hm1.nd
    intro e
    subst e
    rw [List.map_cons, List.map_cons, List.nodup_cons] at h
    exact h.1 List.mem_cons_self
  have fin : ∀ (a : Act) (w' : World) (v2 v3 : Value), SD Try.f29.ntmps [(3, .pointer (some ⟨b3, 0, none⟩)), (2, .pointer (some ⟨b2, 0, none⟩))] [] { a with defers := [] } → Mem w (Lst.map (·.1)) (L' y ++ [(b3, Obj.cells #[v3] 4 (0, 0)), (b2, Obj.cells #[v2] 20 (0, 0))]) w' → #[v2, v3] = resO (o y) →
      ∃ v, (results Try.f29 a.tmps).run Try.prog w' = .ok v w' ∧ ∃ y, Ending.returned v = Ending.returned (.tuple (resO (o y))) ∧ Fr (Lst.map (·.1)) w w' ∧ Has (L' y) w' ∧ (∀ p ∈ L' y, w.heap.size ≤ p.1 ∨ p.1 ∈ Lst.map (·.1)) ∧ ((L' y).map (·.1)).Nodup := by
    intro a w' v2 v3 hs hm he
    have h2 := Res.cell (P := Try.prog) (n := Try.f29.ntmps) (w0 := w) (S0 := Lst.map (·.1)) (E := [(3, .pointer (some ⟨b3, 0, none⟩)), (2, .pointer (some ⟨b2, 0, none⟩))]) (L := L' y ++ [(b3, Obj.cells #[v3] 4 (0, 0)), (b2, Obj.cells #[v2] 20 (0, 0))]) tabOk (x := 2) (t := 20) (v := v2) rfl rfl memA1 rfl _ w' hs.st hm
    have h3 := Res.cell (P := Try.prog) (n := Try.f29.ntmps) (w0 := w) (S0 := Lst.map (·.1)) (E := [(3, .pointer (some ⟨b3, 0, none⟩)), (2, .pointer (some ⟨b2, 0, none⟩))]) (L := L' y ++ [(b3, Obj.cells #[v3] 4 (0, 0)), (b2, Obj.cells #[v2] 20 (0, 0))]) tabOk (x := 3) (t := 4) (v := v3) rfl rfl memA rfl _ w' hs.st hm
    refine ⟨.tuple #[v2, v3], ?_, y, by rw [he], hm.fr, fun p hp => hm.has p (List.mem_append_left _ hp), fun p hp => hm.own p (List.mem_append_left _ hp), hndy⟩
    rw [results_eq, show Try.f29.results = #[.cell 2 20, .cell 3 4] from rfl]
    simp only [] at h2 h3
    simp [h2, h3]
  cases ho : o y with
  | none =>
    apply hK
    have hs5 := hs4.put (d := 6) rfl (.tuple #[])
    generalize Act.put a4 _ _ = a5 at hs5 ⊢
    clear hK K hs4 a4
    refine (?_ : Code.wp _ (Code.seq _ _) _ a5 w2)
    apply wp_seq
    apply wp_region_lit
    have hm3 := hm2.row #[.nilIface] (b := b2) (cs := #[.nilIface]) (e := 20) (L' := L' y ++ [(b3, Obj.cells #[.bool false] 4 (0, 0))]) (perm_of fun f => by (simp only [List.map_append, List.map_cons, List.map_nil, List.sum_append, List.sum_cons, List.sum_nil] <;> omega))
    have hm4 := hm3.row #[.bool true] (b := b3) (cs := #[.bool false]) (e := 4) (L' := (b2, Obj.cells #[.nilIface] 20 (0, 0)) :: L' y) (perm_of fun f => by (simp only [List.map_append, List.map_cons, List.map_nil, List.sum_append, List.sum_cons, List.sum_nil] <;> omega))
    refine hs5.store tabOk (b := b2) #[.nilIface] rfl (show tiGet tab 20 = some _ from rfl) rfl rfl rfl rfl (hm2.has (b2, _) memA1) rfl (Nat.le_of_ble_eq_true rfl) (one1 rfl rfl) rfl ?_
    refine hs5.store tabOk (b := b3) #[.bool true] rfl (show tiGet tab 4 = some _ from rfl) rfl rfl rfl rfl (hm3.has (b3, _) (by repeat (first | exact List.mem_cons_self | apply List.mem_cons_of_mem | apply List.mem_append_right))) rfl (Nat.le_of_ble_eq_true rfl) (one1 rfl rfl) rfl ?_
    refine (?_ : Code.wp _ Code.ret _ a5 _)
    apply wp_ret
    show Leaves _ _ _ _ a5.defers .returning _
    rw [hs5.defers]
    refine leaves_cons (f := 35) (args := #[.pointer (some ⟨b2, 0, none⟩), .pointer (some ⟨b3, 0, none⟩)]) (by simp) (by simp [go_sem]) ?_
    refine (catch_idle b2 b3 _).mono ?_
    rintro e u' w'' ⟨rfl, rfl, rfl⟩
    exact fin a5 _ .nilIface (.bool true) ⟨rfl, hs5.size, fun t v h => hs5.env t v (Env.le_get (E' := [(3, .pointer (some ⟨b3, 0, none⟩)), (2, .pointer (some ⟨b2, 0, none⟩))]) ⟨rfl, rfl, trivial⟩ t v h)⟩ (hm4.perm (perm_of fun f => by (simp only [List.map_append, List.map_cons, List.map_nil, List.sum_append, List.sum_cons, List.sum_nil] <;> omega))) (by rw [ho]; rfl)
  | some p =>
    have hm3 := hm2.row #[.iface p.1 p.2] (b := b2) (cs := #[.nilIface]) (e := 20) (L' := L' y ++ [(b3, Obj.cells #[.bool false] 4 (0, 0))]) (perm_of fun f => by (simp only [List.map_append, List.map_cons, List.map_nil, List.sum_append, List.sum_cons, List.sum_nil] <;> omega))
    have hm4 := hm3.row #[.bool false] (b := b3) (cs := #[.bool false]) (e := 4) (L' := (b2, Obj.cells #[.iface p.1 p.2] 20 (0, 0)) :: L' y) (perm_of fun f => by (simp only [List.map_append, List.map_cons, List.map_nil, List.sum_append, List.sum_cons, List.sum_nil] <;> omega))
    show Leaves _ _ _ _ a4.defers (.panicking [{ v := .iface p.1 p.2, recovered := false }]) w2
    rw [hs4.defers]
    refine leaves_cons (f := 35) (args := #[.pointer (some ⟨b2, 0, none⟩), .pointer (some ⟨b3, 0, none⟩)]) (by simp) (by simp [go_sem]) ?_
    refine (catch_panicking b2 b3 h32 .nilIface (.bool false) p.1 p.2 [] w2 (hm2.has (b2, _) memA1) (hm2.has (b3, _) memA)).mono ?_
    rintro e u' w'' ⟨rfl, rfl, rfl⟩
    exact fin a4 _ (.iface p.1 p.2) (.bool false) ⟨rfl, hs4.size, fun t v h => hs4.env t v (Env.le_get (E' := [(3, .pointer (some ⟨b3, 0, none⟩)), (2, .pointer (some ⟨b2, 0, none⟩))]) ⟨rfl, rfl, trivial⟩ t v h)⟩ (hm4.perm (perm_of fun f => by (simp only [List.map_append, List.map_cons, List.map_nil, List.sum_append, List.sum_cons, List.sum_nil] <;> omega))) (by rw [ho]; rfl)
end Go.Proofs.Ytgnjdpaenojfhaa
