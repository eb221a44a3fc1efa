/- Lemmas. -/
import Derived.OrdersHeld
import Derived.Test.YtfoeakgnkfcbjaaGreatDoorPt01
set_option linter.unusedSimpArgs false
set_option linter.unusedVariables false
section
/- Entering a function and leaving it. -/
namespace Go.Vc
open Go

def argEnv : Nat → List Value → Env
  | _, [] => []
  | i, v :: r => (i, v) :: argEnv (i + 1) r

theorem argEnv_get : ∀ (vs : List Value) (i t : Nat) (v : Value), (argEnv i vs).get t = some v → i ≤ t ∧ vs[t - i]? = some v
  | [], _, _, _, h => by simp [argEnv, Env.get] at h
  | u :: r, i, t, v, h => by
    simp only [argEnv] at h
    rw [Env.get_cons] at h
    by_cases e : i = t
    · rw [if_pos e] at h; cases h; subst e; simp
    · rw [if_neg e] at h
      obtain ⟨h1, h2⟩ := argEnv_get r (i + 1) t v h
      refine ⟨by omega, ?_⟩
      rw [show t - i = (t - (i + 1)) + 1 by omega]
      simpa using h2

theorem St.enter (vs : List Value) (n : Nat) (hn : Nat.ble vs.length n = true) :
    St n (argEnv 0 vs) { tmps := vs.toArray ++ Array.replicate (n - vs.toArray.size) undef, defers := [] } := by
  have hn' : vs.length ≤ n := Nat.le_of_ble_eq_true hn
  refine ⟨rfl, by simp; omega, fun t v h => ?_⟩
  obtain ⟨_, h2⟩ := argEnv_get vs 0 t v h
  simp only [Nat.sub_zero] at h2
  have ht : t < vs.length := by
    rcases Nat.lt_or_ge t vs.length with h | h
    · exact h
    · rw [List.getElem?_eq_none h] at h2; cases h2
  simp only [Array.getD_eq_getD_getElem?]
  rw [Array.getElem?_append_left (by simpa using ht)]
  simp [h2]

theorem Mem.init {w : World} {S0 : List Nat} {L : Hp} (h : ∀ p ∈ L, w.heap[p.1]? = some p.2) (hs : ∀ p ∈ L, p.1 ∈ S0) (hd : (L.map (·.1)).Nodup) : Mem w S0 L w :=
  ⟨Fr.refl _ _, h, fun p hp => .inr (hs p hp), hd⟩

theorem enter {P : Program} {f : FuncId} {fn : Func} {c : Code} {vs : List Value} {w : World} {R : Ending → World → Prop} {S0 : List Nat} {L : Hp}
    (hf : P.funcs[f]? = some fn) (hb : fn.body = some c) (hm : Mem w S0 L w) (hn : Nat.ble vs.length fn.ntmps = true)
    (h : RC P fn.ntmps w S0 c (bodyPost P fn R) (argEnv 0 vs) L) : Calls P f vs.toArray w R :=
  calls_of_wp hf hb (h _ _ (St.enter vs _ hn) hm)

section
variable (P : Program) (n : Nat) (w0 : World) (S0 : List Nat) (E : Env) (L : Hp)
def resOf (tmps : Array Value) : ResultVar → Sem Value
  | .tmp t => pure (tmps.getD t undef)
  | .cell a t => do loadVar t (← asAddr (tmps.getD a undef))
def Res (r : ResultVar) (v : Value) : Prop := ∀ a w, St n E a → Mem w0 S0 L w → (resOf a.tmps r).run P w = .ok v w
end

section
variable {P : Program} {n : Nat} {w0 : World} {S0 : List Nat} {E : Env} {L : Hp} {fn : Func} {R : Ending → World → Prop} {T : List (Nat × TI)}
theorem Res.tmp {t : Nat} {v : Value} (h : E.get t = some v) : Res P n w0 S0 E L (.tmp t) v := fun a w hs _ => by
  simp only [resOf, hs.env t v h]; rfl
theorem Res.cellAll (hT : TabOk P T) {x t b : Nat} {ti : TI} {arr : Array Value} {e : TypeId} {fz : Nat × Nat} (ht : tiGet T t = some ti) (h : E.get x = some (.pointer (some ⟨b, 0, none⟩)))
    (ha : TypeDesc.agg ti.desc = true) (hm : (b, .cells arr e fz) ∈ L) (hs : arr.size = ti.size) : Res P n w0 S0 E L (.cell x t) (.agg arr) := fun a w hst hmem => by
  simp [resOf, hst.env x _ h, asAddr, run_loadVar_all (P := P) (hT _ _ ht) ha w (hmem.has _ hm) hs]
theorem Res.cell (hT : TabOk P T) {x t b off : Nat} {ti : TI} {arr : Array Value} {e : TypeId} {fz : Nat × Nat} {v : Value} (ht : tiGet T t = some ti) (h : E.get x = some (.pointer (some ⟨b, off, none⟩)))
    (hm : (b, .cells arr e fz) ∈ L) (hv : rdAt ti arr off = some v) : Res P n w0 S0 E L (.cell x t) v := fun a w hst hmem => by
  simp [resOf, hst.env x _ h, asAddr, run_loadVar_at (P := P) (hT _ _ ht) w (hmem.has _ hm) hv]

theorem results_eq (tmps : Array Value) : results fn tmps = (do
    let vs ← fn.results.mapM (resOf tmps)
    pure (if h : vs.size = 1 then vs[0] else .tuple vs)) := by
  unfold results
  congr 1

theorem RQ.ret0 (hr : fn.results = #[]) (h : ∀ w, Mem w0 S0 L w → R (.returned (.tuple #[])) w) : RQ n w0 S0 .ret (bodyPost P fn R) E L := by
  intro a w hs hm
  refine ⟨hs.defers, .tuple #[], ?_, h w hm⟩
  rw [results_eq, hr]; simp
theorem RQ.ret1 {r : ResultVar} {v : Value} (hr : fn.results = #[r]) (h1 : Res P n w0 S0 E L r v) (h : ∀ w, Mem w0 S0 L w → R (.returned v) w) : RQ n w0 S0 .ret (bodyPost P fn R) E L := by
  intro a w hs hm
  refine ⟨hs.defers, v, ?_, h w hm⟩
  rw [results_eq, hr]; simp [h1 a w hs hm]
theorem RQ.ret2 {r s : ResultVar} {u v : Value} (hr : fn.results = #[r, s]) (h1 : Res P n w0 S0 E L r u) (h2 : Res P n w0 S0 E L s v) (h : ∀ w, Mem w0 S0 L w → R (.returned (.tuple #[u, v])) w) : RQ n w0 S0 .ret (bodyPost P fn R) E L := by
  intro a w hs hm
  refine ⟨hs.defers, .tuple #[u, v], ?_, h w hm⟩
  rw [results_eq, hr]; simp [h1 a w hs hm, h2 a w hs hm]
theorem RQ.normal (h : RQ n w0 S0 .ret (bodyPost P fn R) E L) : RQ n w0 S0 .normal (bodyPost P fn R) E L := h
end
end Go.Vc

/- Effects, and regions that draw their order: what only reads is taken first; what is left comes up in whatever order. -/
namespace Go.Vc
open Go

/-- Q does not ask, of a panic, what the slots hold. -/
class QP (Q : Exit → Act → World → Prop) : Prop where
  pan : ∀ c a d v w, Q (.panic c) (Act.put a d v) w → Q (.panic c) a w
instance {K : Act → World → Prop} {Q : Exit → Act → World → Prop} [h : QP Q] : QP (Exit.then K Q) := ⟨fun c a d v w => h.pan c a d v w⟩
instance {id : Nat} {Q : Exit → Act → World → Prop} [h : QP Q] : QP (Exit.inBlock id Q) := ⟨fun c a d v w => h.pan c a d v w⟩
instance {P : Program} {fn : Func} {R : Ending → World → Prop} : QP (bodyPost P fn R) := ⟨fun c a d v w => by
  cases d <;> exact id⟩

/-- m waits for k. -/
def edgeB (ops : Array Oper) (m k : Nat) : Bool := ((ops[m]?).map fun o => o.after.toList.any fun e => Region.binds .any e && Nat.beq e.on k).getD false
/-- A copy: what it leaves hangs on no memory. -/
def npB (ops : Array Oper) (k : Nat) : Bool := match ops[k]? with
  | some o => (match o.op with | .move _ => true | .binOp .add _ _ _ _ => true | .binOp .sub _ _ _ _ => true | .binOp .mul _ _ _ _ => true | _ => false)
  | none => false
inductive Rch (ops : Array Oper) (j : Nat) : Nat → Prop
  | one {k : Nat} (h : edgeB ops j k = true) : Rch ops j k
  | more {m k : Nat} (r : Rch ops j m) (h : edgeB ops m k = true) : Rch ops j k
/-- Number j waits for all that has come up and looks at memory. -/
def Tight (ops : Array Oper) (listed : Array Bool) (j : Nat) : Prop := ∀ k, listed.getD k false = true → npB ops k = false → Rch ops j k
def tightGo (ops : Array Oper) (listed : Array Bool) : Nat → List Nat → Bool
  | 0, _ => true
  | k + 1, C => bif listed.getD k false then (bif C.any fun m => edgeB ops m k then tightGo ops listed k (k :: C) else npB ops k && tightGo ops listed k C) else tightGo ops listed k C
def tightB (ops : Array Oper) (listed : Array Bool) (j : Nat) : Bool := tightGo ops listed listed.size [j]
theorem tightGo_spec {ops : Array Oper} {listed : Array Bool} {j : Nat} :
    ∀ (n : Nat) (C : List Nat), (∀ c ∈ C, c = j ∨ Rch ops j c) → tightGo ops listed n C = true → ∀ k, k < n → listed.getD k false = true → npB ops k = false → Rch ops j k
  | 0, _, _, _, k, hk, _, _ => absurd hk (Nat.not_lt_zero k)
  | n + 1, C, hC, h, k, hk, hl, hp => by
    unfold tightGo at h
    cases hn : listed.getD n false with
    | false =>
      simp only [hn, cond_false] at h
      have : k ≠ n := fun e => by rw [e, hn] at hl; cases hl
      exact tightGo_spec n C hC h k (by omega) hl hp
    | true =>
      cases ha : C.any fun m => edgeB ops m n with
      | false =>
        simp only [hn, ha, cond_true, cond_false, Bool.and_eq_true] at h
        have : k ≠ n := fun e => by rw [e, h.1] at hp; cases hp
        exact tightGo_spec n C hC h.2 k (by omega) hl hp
      | true =>
        simp only [hn, ha, cond_true] at h
        rw [List.any_eq_true] at ha
        obtain ⟨m, hm, he⟩ := ha
        have hR : Rch ops j n := by
          rcases hC m hm with rfl | hm
          · exact .one he
          · exact .more hm he
        by_cases e : k = n
        · exact e ▸ hR
        · exact tightGo_spec n (n :: C) (fun c hc => by
            rcases List.mem_cons.1 hc with rfl | hc
            · exact .inr hR
            · exact hC c hc) h k (by omega) hl hp
theorem tightB_spec {ops : Array Oper} {listed : Array Bool} {j : Nat} (h : tightB ops listed j = true) : Tight ops listed j := fun k hk hp =>
  tightGo_spec _ _ (fun c hc => .inl (List.mem_singleton.1 hc)) h k (by
    rcases Nat.lt_or_ge k listed.size with h' | h'
    · exact h'
    · simp [Array.getElem?_eq_none h'] at hk) hk hp
theorem edgeB_spec {ops : Array Oper} {m k : Nat} (h : edgeB ops m k = true) : ∃ o, ops[m]? = some o ∧ ∃ e ∈ o.after, Region.binds .any e = true ∧ e.on = k := by
  unfold edgeB at h
  cases ho : ops[m]? with
  | none => rw [ho] at h; cases h
  | some o =>
    rw [ho] at h
    simp only [Option.map_some, Option.getD_some, List.any_eq_true, Bool.and_eq_true] at h
    obtain ⟨e, he, hb, hi⟩ := h
    exact ⟨o, rfl, e, by simpa using he, hb, Nat.eq_of_beq_eq_true hi⟩
/-- What has come up has come up behind what it waits for. -/
def Closed (ops : Array Oper) (listed : Array Bool) : Prop := ∀ m k, listed.getD m false = true → edgeB ops m k = true → listed.getD k false = true
def closedB (ops : Array Oper) (listed : Array Bool) : Bool :=
  ops.toList.zipIdx.all fun (o, m) => !listed.getD m false || o.after.toList.all fun e => !Region.binds .any e || listed.getD e.on false
theorem closedB_spec {ops : Array Oper} {listed : Array Bool} (h : closedB ops listed = true) : Closed ops listed := by
  intro m k hm he
  obtain ⟨o, ho, e, hmem, hb, rfl⟩ := edgeB_spec he
  unfold closedB at h
  rw [List.all_eq_true] at h
  have := h (o, m) (by rw [List.mem_zipIdx_iff_getElem?]; simpa using ho)
  simp only [hm, Bool.not_true, Bool.false_or, List.all_eq_true] at this
  have := this e (by simpa using hmem)
  simpa [hb] using this

/-- Whatever order is picked from here on; S holds till an operation comes up that waits for all that came up before it. -/
def wpAnyK (P : Program) (ops : Array Oper) (Q : Exit → Act → World → Prop) (S : World → Prop) : Nat → Array Bool → Act → World → Prop
  | 0, listed, a, w => Region.ready .any ops listed = [] ∧ Q .normal a w
  | fuel + 1, listed, a, w =>
    (Region.ready .any ops listed = [] → Q .normal a w) ∧
    ∀ i ∈ Region.ready .any ops listed, wpOp P ops Q i (fun a' w' => (S w → S w' ∨ Tight ops listed i) ∧ wpAnyK P ops Q S fuel (listed.setIfInBounds i true) a' w') a w
section
variable {P : Program} {ops : Array Oper} {Q : Exit → Act → World → Prop} {S : World → Prop}
theorem wpAny_of_K : ∀ (fuel : Nat) (listed : Array Bool) (a : Act) (w : World), wpAnyK P ops Q S fuel listed a w → wpAny P .any ops Q fuel listed a w
  | 0, _, _, _, h => h
  | fuel + 1, _, _, _, h => ⟨h.1, fun i hi => wpOp_mono (fun a' w' h' => wpAny_of_K fuel _ a' w' h'.2) (h.2 i hi)⟩

theorem first_not {ops : Array Oper} {listed : Array Bool} {i j : Nat} (hr : i ∈ Region.ready .any ops listed) (hj : j ∈ Region.ready .any ops listed) : ∀ oj, ops[j]? = some oj → ∀ e ∈ oj.after, Region.binds .any e = true → e.on ≠ i := fun oj hoj e he hb heq => by
  obtain ⟨_, oj', hoj', hall⟩ := mem_ready.1 hj
  rw [hoj] at hoj'
  cases hoj'
  have hiun := (mem_ready.1 hr).1
  have h1 := hall e he hb
  rw [heq] at h1
  rcases Nat.lt_or_ge i listed.size with h' | h'
  · simp [h'] at hiun h1; rw [hiun] at h1; cases h1
  · simp [Array.getElem?_eq_none h'] at h1
theorem first_free {ops : Array Oper} {listed : Array Bool} {i j : Nat} {oi : Oper} (hfree : ∀ j oj, ops[j]? = some oj → j ≠ i → listed.getD j true = false → (∀ e ∈ oj.after, Region.binds .any e = true → e.on ≠ i) → oi.apart ops oj = true) (hj : j ∈ Region.ready .any ops listed) (hji : ¬ j = i) :
    ∀ k ok, ops[k]? = some ok → k ≠ i → (listed.setIfInBounds j true).getD k true = false → (∀ e ∈ ok.after, Region.binds .any e = true → e.on ≠ i) → oi.apart ops ok = true := fun k ok hk hki hun hno => by
  refine hfree k ok hk hki ?_ hno
  by_cases hjk : j = k
  · subst hjk; exact (mem_ready.1 hj).1
  · rw [getD_set_ne true hjk] at hun; exact hun
theorem first_closed {ops : Array Oper} {listed : Array Bool} {j : Nat} (hcl : Closed ops listed) (hj : j ∈ Region.ready .any ops listed) : Closed ops (listed.setIfInBounds j true) := by
  obtain ⟨_, oj, hoj, hall⟩ := mem_ready.1 hj
  intro m k hm he
  by_cases hmj : j = m
  · subst hmj
    obtain ⟨o', ho', e, hmem, hb, rfl⟩ := edgeB_spec he
    rw [hoj] at ho'
    cases ho'
    exact getD_set_true (hall e hmem hb)
  · rw [getD_set_ne false hmj] at hm
    exact getD_set_true (hcl m k hm he)
theorem wpAnyK_first {i : Nat} {oi : Oper} {v : Value} (hi : ops[i]? = some oi) (hnp : npB ops i = false) (hsel : ∀ (j : Nat) (o : Oper) cs b, ops[j]? = some o → o.op ≠ .select cs b)
    (hQ : ∀ c a w, Q (.panic c) (a.put oi.dst v) w → Q (.panic c) a w) : ∀ (fuel : Nat) (listed : Array Bool) (a : Act) (w : World),
      (∀ j oj, ops[j]? = some oj → j ≠ i → listed.getD j true = false → (∀ e ∈ oj.after, Region.binds .any e = true → e.on ≠ i) → oi.apart ops oj = true) →
      i ∈ Region.ready .any ops listed → Closed ops listed → YieldsIf P ops S oi v a → S w →
      wpAnyK P ops Q S fuel (listed.setIfInBounds i true) (a.put oi.dst v) w → wpAnyK P ops Q S (fuel + 1) listed a w := by
  intro fuel
  induction fuel with
  | zero =>
    intro listed a w _ hr _ hy hS H
    refine ⟨fun h => (by rw [h] at hr; cases hr), fun j hj => ?_⟩
    by_cases hji : j = i
    · subst hji; exact hy.wpOp hi hS ⟨fun h => .inl h, H⟩
    · have := ready_mono hj hji
      rw [H.1] at this
      cases this
  | succ fuel ih =>
    intro listed a w hfree hr hcl hy hS H
    refine ⟨fun h => (by rw [h] at hr; cases hr), fun j hj => ?_⟩
    by_cases hji : j = i
    · subst hji; exact hy.wpOp hi hS ⟨fun h => .inl h, H⟩
    · have h1 := H.2 j (ready_mono hj hji)
      obtain ⟨hjun, oj, hoj, hall⟩ := mem_ready.1 hj
      obtain ⟨hiun, oi', hoi', halli⟩ := mem_ready.1 hr
      have hnot := first_not hr hj
      have h2 := wpOp_putIf (S := S) hoj (hfree j oj hoj hji hjun (hnot oj hoj)) (fun cs b => hsel i oi cs b hi) (fun cs b => hsel j oj cs b hoj) hQ hy h1
      refine wpOp_mono (fun a' w' h3 => ?_) h2
      obtain ⟨hy', hS', h4⟩ := h3
      -- i is left and does not wait for j: so S holds behind j
      have hSw : S w' := by
        rcases hS' hS with h | h
        · exact h
        · exfalso
          have hin : (listed.setIfInBounds i true).getD i false = true := by
            have : i < listed.size := by
              rcases Nat.lt_or_ge i listed.size with h' | h'
              · exact h'
              · simp [Array.getElem?_eq_none h'] at hiun
            simp [this]
          have hc : ∀ k, Rch ops j k → listed.getD k false = true := fun k r => by
            induction r with
            | one he =>
              obtain ⟨o', ho', e, hmem, hb, rfl⟩ := edgeB_spec he
              rw [hoj] at ho'
              cases ho'
              exact hall e hmem hb
            | more _ he ih => exact hcl _ _ ih he
          have := hc i (h i hin hnp)
          rcases Nat.lt_or_ge i listed.size with h' | h'
          · simp [h'] at hiun this; rw [hiun] at this; cases this
          · simp [Array.getElem?_eq_none h'] at this
      exact ⟨fun _ => .inl hSw, ih (listed.setIfInBounds j true) a' w' (first_free hfree hj hji) (ready_mono hr (Ne.symm hji)) (first_closed hcl hj) hy' hSw (by rw [Array.setIfInBounds_comm _ _ hji]; exact h4)⟩
/-- .. and a copy at any time. -/
theorem wpAnyK_firstP {i : Nat} {oi : Oper} {v : Value} (hi : ops[i]? = some oi) (hsel : ∀ (j : Nat) (o : Oper) cs b, ops[j]? = some o → o.op ≠ .select cs b)
    (hQ : ∀ c a w, Q (.panic c) (a.put oi.dst v) w → Q (.panic c) a w) : ∀ (fuel : Nat) (listed : Array Bool) (a : Act) (w : World),
      (∀ j oj, ops[j]? = some oj → j ≠ i → listed.getD j true = false → (∀ e ∈ oj.after, Region.binds .any e = true → e.on ≠ i) → oi.apart ops oj = true) →
      i ∈ Region.ready .any ops listed → YieldsIf P ops (fun _ => True) oi v a →
      wpAnyK P ops Q S fuel (listed.setIfInBounds i true) (a.put oi.dst v) w → wpAnyK P ops Q S (fuel + 1) listed a w := by
  intro fuel
  induction fuel with
  | zero =>
    intro listed a w _ hr hy H
    refine ⟨fun h => (by rw [h] at hr; cases hr), fun j hj => ?_⟩
    by_cases hji : j = i
    · subst hji; exact hy.wpOp hi trivial ⟨fun h => .inl h, H⟩
    · have := ready_mono hj hji
      rw [H.1] at this
      cases this
  | succ fuel ih =>
    intro listed a w hfree hr hy H
    refine ⟨fun h => (by rw [h] at hr; cases hr), fun j hj => ?_⟩
    by_cases hji : j = i
    · subst hji; exact hy.wpOp hi trivial ⟨fun h => .inl h, H⟩
    · have h1 := H.2 j (ready_mono hj hji)
      obtain ⟨hjun, oj, hoj, hall⟩ := mem_ready.1 hj
      have hnot := first_not hr hj
      have h2 := wpOp_putIf (S := fun _ => True) hoj (hfree j oj hoj hji hjun (hnot oj hoj)) (fun cs b => hsel i oi cs b hi) (fun cs b => hsel j oj cs b hoj) hQ hy h1
      refine wpOp_mono (fun a' w' h3 => ?_) h2
      obtain ⟨hy', hS', h4⟩ := h3
      refine ⟨fun h => (hS' h).imp id fun ht k hk hp => ht k (getD_set_true hk) hp, ih (listed.setIfInBounds j true) a' w' (first_free hfree hj hji) (ready_mono hr (Ne.symm hji)) hy' (by rw [Array.setIfInBounds_comm _ _ hji]; exact h4)⟩
end

section
variable (P : Program) (n : Nat) (w0 : World) (S0 : List Nat)
/-- What an operation with an effect comes to: some y, and what is then known. -/
def OpTo (Q : Exit → Act → World → Prop) (E : Env) (L : Hp) (o : Oper) {Y : Type} (Ey : Y → Env) (Ly : Y → Hp) : Prop :=
  ∀ a w, St n E a → Mem w0 S0 L w → ∀ K : Act → World → Prop, (∀ y a' w', St n (Ey y) a' → Mem w0 S0 (Ly y) w' → K a' w') → o.wp P a w K Q
def DR (ops : Array Oper) (Q : Exit → Act → World → Prop) (Lr : Hp) (fuel : Nat) (listed : Array Bool) (E : Env) (L : Hp) : Prop :=
  ∀ a w, St n E a → Mem w0 S0 L w → wpAnyK P ops Q (Mem w0 S0 Lr) fuel listed a w
def Wanted (ops : Array Oper) (E : Env) (o : Oper) (b : Bool) : Prop := ∀ a, St n E a → Region.wanted o (yielded ops a.tmps) = b
end

section
variable {P : Program} {n : Nat} {w0 : World} {S0 : List Nat} {Q : Exit → Act → World → Prop} {E : Env} {L Lr : Hp} {ops : Array Oper} {o : Oper} {d : Nat} {fuel : Nat} {listed : Array Bool} {T : List (Nat × TI)} {t : Nat} {ti : TI}

theorem Wanted.plain (hg : o.guard = none) : Wanted n ops E o true := fun a _ => by simp [Region.wanted, hg]
theorem St.slot {a : Act} (h : St n E a) {j : Nat} {v : Value} (he : E.get j = some v) (hu : ∀ cs, v ≠ .tuple cs) : a.tmps[j]? = some v := by
  have := h.env j v he
  rw [Array.getD_eq_getD_getElem?] at this
  cases hj : a.tmps[j]? with
  | none => rw [hj] at this; exact absurd this.symm (hu #[])
  | some u => rw [hj] at this; simpa using this
theorem Wanted.guard {j dj : Nat} {want t b : Bool} (hg : o.guard = some (j, want)) (hj : (ops[j]?).bind (·.dst) = some dj) (he : E.get dj = some (.bool t)) (ht : (t == want) = b) : Wanted n ops E o b := fun a hs => by
  have := hs.slot he (fun _ h => by cases h)
  simp only [Region.wanted, hg, yielded, hj, Option.bind_some, this]
  cases t <;> cases want <;> simp_all
theorem Wanted.undef {j dj : Nat} {want : Bool} (hg : o.guard = some (j, want)) (hj : (ops[j]?).bind (·.dst) = some dj) (he : E.get dj = some Go.undef) : Wanted n ops E o false := fun a hs => by
  have := hs.env dj _ he
  rw [Array.getD_eq_getD_getElem?] at this
  simp only [Region.wanted, hg, yielded, hj, Option.bind_some]
  cases hx : a.tmps[dj]? with
  | none => simp
  | some u =>
    rw [hx] at this
    simp only [Option.getD_some] at this
    subst this
    simp [Go.undef]

theorem RC.draw {id N : Nat} (Lr : Hp) (hm : P.follows .mixedOrders = true) (hN : ops.size = N) (h : DR P n w0 S0 ops Q Lr N (Array.replicate N false) E L) : RC P n w0 S0 (.region id ops true) Q E L :=
  fun a w hs hmem => wp_region_any hm (wpAny_of_K (S := Mem w0 S0 Lr) _ _ _ _ (by rw [hN]; exact h a _ hs (hmem.ext (Fr.drew w))))

theorem RC.drawS {id N : Nat} (hm : P.follows .mixedOrders = true) (hN : ops.size = N) (h : DR P n w0 S0 ops Q L N (Array.replicate N false) E L) : RC P n w0 S0 (.region id ops true) Q E L := RC.draw L hm hN h

theorem DR.take (i : Nat) (hi : ops[i]? = some o) (hl : Lr.Sublist L) (hq : QP Q) (hsel : Region.noSelect ops = true) (hf : Region.free .any ops listed i = true) (hr : (Region.ready .any ops listed).contains i = true) (hcl : closedB ops listed = true)
    (hd : o.dst = some d) (hn : Nat.blt d n = true) (hw : Wanted n ops E o true) {v : Value} (hpu : npB ops i = false ∨ ∃ v', ev E o.op = some v') (hv : Val P n w0 S0 E Lr o v)
    (k : DR P n w0 S0 ops Q Lr fuel (listed.setIfInBounds i true) ((d, v) :: E) L) : DR P n w0 S0 ops Q Lr (fuel + 1) listed E L := by
  intro a w hs hm
  have hk : wpAnyK P ops Q (Mem w0 S0 Lr) fuel (listed.setIfInBounds i true) (a.put o.dst v) w := by rw [hd]; exact k _ _ (hs.put hn v) hm
  cases hnp : npB ops i with
  | false => exact wpAnyK_first (v := v) hi hnp (Region.noSelect_spec hsel) (fun c a w h => hq.pan c a o.dst v w h) _ _ _ _ (Region.free_spec hi hf) (by simpa using hr) (closedB_spec hcl) (.inl ⟨hw a hs, fun w hw => hv a w hs hw⟩) (hm.sublist hl) hk
  | true =>
    obtain ⟨v', he⟩ := hpu.resolve_left (by rw [hnp]; exact Bool.noConfusion)
    have hvv : v' = v := by
      have h1 := run_ev (P := P) he hs w
      rw [hv a w hs (hm.sublist hl)] at h1
      simpa using h1.symm
    exact wpAnyK_firstP (v := v) hi (Region.noSelect_spec hsel) (fun c a w h => hq.pan c a o.dst v w h) _ _ _ _ (Region.free_spec hi hf) (by simpa using hr) (.inl ⟨hw a hs, fun w' _ => hvv ▸ run_ev (P := P) he hs w'⟩) hk
theorem DR.pass (i : Nat) (hi : ops[i]? = some o) (hl : Lr.Sublist L) (hq : QP Q) (hsel : Region.noSelect ops = true) (hf : Region.free .any ops listed i = true) (hr : (Region.ready .any ops listed).contains i = true) (hcl : closedB ops listed = true)
    (hd : o.dst = some d) (hn : Nat.blt d n = true) (hw : Wanted n ops E o false)
    (k : DR P n w0 S0 ops Q Lr fuel (listed.setIfInBounds i true) ((d, Go.undef) :: E) L) : DR P n w0 S0 ops Q Lr (fuel + 1) listed E L := by
  intro a w hs hm
  refine wpAnyK_firstP (v := Go.undef) hi (Region.noSelect_spec hsel) (fun c a w h => hq.pan c a o.dst _ w h) _ _ _ _ (Region.free_spec hi hf) (by simpa using hr) (.inr ⟨hw a hs, rfl⟩) ?_
  rw [hd]
  exact k _ _ (hs.put hn _) hm

/-- Number i comes up now. -/
def DOp (P : Program) (n : Nat) (w0 : World) (S0 : List Nat) (ops : Array Oper) (Q : Exit → Act → World → Prop) (Lr : Hp) (fuel : Nat) (listed : Array Bool) (E : Env) (L : Hp) (i : Nat) : Prop :=
  ∀ a w, St n E a → Mem w0 S0 L w → wpOp P ops Q i (fun a' w' => (Mem w0 S0 Lr w → Mem w0 S0 Lr w' ∨ Tight ops listed i) ∧ wpAnyK P ops Q (Mem w0 S0 Lr) fuel (listed.setIfInBounds i true) a' w') a w
theorem DR.all {rs : List Nat} (hr : Region.ready .any ops listed = rs) (hne : rs ≠ []) (h : ∀ i ∈ rs, DOp P n w0 S0 ops Q Lr fuel listed E L i) : DR P n w0 S0 ops Q Lr (fuel + 1) listed E L :=
  fun a w hs hm => ⟨fun h0 => absurd (hr ▸ h0) hne, hr ▸ fun i hi => h i hi a w hs hm⟩
theorem DR.one {i : Nat} (hr : Region.ready .any ops listed = [i]) (h : DOp P n w0 S0 ops Q Lr fuel listed E L i) : DR P n w0 S0 ops Q Lr (fuel + 1) listed E L :=
  DR.all hr (by simp) (by simpa using h)
theorem DR.done (hr : Region.ready .any ops listed = []) (h : RQ n w0 S0 .normal Q E L) : DR P n w0 S0 ops Q Lr fuel listed E L :=
  fun a w hs hm => by
    cases fuel with
    | zero => exact ⟨hr, h a w hs hm⟩
    | succ fuel => exact ⟨fun _ => h a w hs hm, by rw [hr]; simp⟩
theorem DOp.op {i : Nat} (hi : ops[i]? = some o) (hw : Wanted n ops E o true) {Y : Type} {Ey : Y → Env} {Ly : Y → Hp} (h : OpTo P n w0 S0 Q E L o Ey Ly) (hl : (∀ y, Lr.Sublist (Ly y)) ∨ tightB ops listed i = true)
    (k : ∀ y, DR P n w0 S0 ops Q Lr fuel (listed.setIfInBounds i true) (Ey y) (Ly y)) : DOp P n w0 S0 ops Q Lr fuel listed E L i := by
  intro a w hs hm
  unfold wpOp
  simp only [hi, hw a hs, if_true]
  exact .inl (h a w hs hm _ fun y a' w' hs' hm' => ⟨fun _ => hl.imp (fun hl => hm'.sublist (hl y)) tightB_spec, k y a' w' hs' hm'⟩)
theorem DOp.val {i : Nat} (hi : ops[i]? = some o) (hl : Lr.Sublist L ∨ tightB ops listed i = true) (hd : o.dst = some d) (hn : Nat.blt d n = true) (hw : Wanted n ops E o true) {v : Value} (hv : Val P n w0 S0 E L o v)
    (k : DR P n w0 S0 ops Q Lr fuel (listed.setIfInBounds i true) ((d, v) :: E) L) : DOp P n w0 S0 ops Q Lr fuel listed E L i := by
  refine DOp.op hi hw (Y := Unit) (Ey := fun _ => (d, v) :: E) (Ly := fun _ => L) ?_ (hl.imp (fun hl _ => hl) id) (fun _ => k)
  intro a w hs hm K hK
  simp only [Oper.wp, hv a w hs hm, Oper.upon_value, hd]
  exact hK () _ _ (hs.put hn v) hm
theorem DOp.pass {i : Nat} (hi : ops[i]? = some o) (hl : Lr.Sublist L ∨ tightB ops listed i = true) (hd : o.dst = some d) (hn : Nat.blt d n = true) (hw : Wanted n ops E o false)
    (k : DR P n w0 S0 ops Q Lr fuel (listed.setIfInBounds i true) ((d, Go.undef) :: E) L) : DOp P n w0 S0 ops Q Lr fuel listed E L i := by
  intro a w hs hm
  unfold wpOp
  simp only [hi, hw a hs, Bool.false_eq_true, if_false]
  rw [hd]
  exact ⟨fun _ => hl.imp (fun hl => hm.sublist hl) tightB_spec, k _ _ (hs.put hn _) hm⟩

theorem Run.op {l rest : List Oper} (hg : o.guard = none) {Y : Type} {Ey : Y → Env} {Ly : Y → Hp} (h : OpTo P n w0 S0 Q E L o Ey Ly)
    (k : ∀ y, Run P n w0 S0 l.toArray Q rest (Ey y) (Ly y)) : Run P n w0 S0 l.toArray Q (o :: rest) E L :=
  fun a w hs hm => wpList_plain hg fun K hK => h a w hs hm K fun y a' w' hs' hm' => hK _ _ (k y a' w' hs' hm')

theorem OpTo.val (hd : o.dst = some d) (hn : Nat.blt d n = true) {v : Value} (hv : Val P n w0 S0 E L o v) : OpTo P n w0 S0 Q E L o (Y := Unit) (fun _ => (d, v) :: E) (fun _ => L) := by
  intro a w hs hm K hK
  simp only [Oper.wp, hv a w hs hm, Oper.upon_value, hd]
  exact hK () _ _ (hs.put hn v) hm
theorem OpTo.new (hd : o.dst = some d) (hn : Nat.blt d n = true) {V : Nat → Value} {ob : Obj} (h : New P n w0 S0 E L o V ob) : OpTo P n w0 S0 Q E L o (fun b : Nat => (d, V b) :: E) (fun b => (b, ob) :: L) := by
  intro a w hs hm K hK
  obtain ⟨w1, hf, hz, hr⟩ := h a w hs hm
  simp only [Oper.wp, hr, Oper.upon_value, hd]
  have := (hm.ext hf).alloc ob
  rw [hz] at this
  exact hK _ _ _ (hs.put hn _) this
theorem OpTo.call {f : FuncId} {xs : List Operand} {ts : Array TypeId} {fn : Func} {vs : List Value} (hf : P.funcs[f]? = some fn) (hd : o.dst = some d) (hn : Nat.blt d n = true)
    (ho : o.op = .call { callee := .value (.func f), args := xs.toArray, argTypes := ts }) (hnm : (fn.name == "runtime.NumGoroutine") = false) (hb : fn.body.isNone = false)
    (hx : lkAll E xs = some vs) {Y : Type} {V : Y → Value} {L' : Y → Hp}
    (hc : ∀ w, Mem w0 S0 L w → Calls P f vs.toArray w fun e w' => ∃ y, e = .returned (V y) ∧ Mem w0 S0 (L' y) w') : OpTo P n w0 S0 Q E L o (fun y => (d, V y) :: E) L' := by
  intro a w hs hm K hK
  simp only [Oper.wp, run_call hs ho hf hnm hb hx, Oper.upon_enter]
  refine (hc w hm).mono ?_
  rintro e w' ⟨y, rfl, hm'⟩
  simp only [hd]
  exact hK y _ _ (hs.put hn _) hm'
theorem OpTo.callV {f : FuncId} {xs : List Operand} {ts : Array TypeId} {fn : Func} {vs : List Value} {v : Value} (hf : P.funcs[f]? = some fn) (hd : o.dst = some d) (hn : Nat.blt d n = true)
    (ho : o.op = .call { callee := .value (.func f), args := xs.toArray, argTypes := ts }) (hnm : (fn.name == "runtime.NumGoroutine") = false) (hb : fn.body.isNone = false)
    (hx : lkAll E xs = some vs) (hc : ∀ w, Mem w0 S0 L w → Gives P f vs v w) : OpTo P n w0 S0 Q E L o (Y := Unit) (fun _ => (d, v) :: E) (fun _ => L) :=
  OpTo.call (V := fun _ => v) hf hd hn ho hnm hb hx (fun w hm => (hc w hm).mono (by rintro e w' ⟨rfl, hfr⟩; exact ⟨(), rfl, hm.ext hfr⟩))
/-- An operation that leaves nothing and writes the block b. -/
theorem OpTo.put (hd : o.dst = none) {b : Nat} {ob ob' : Obj} {L' : Hp} (hL : L.Perm ((b, ob) :: L'))
    (hr : ∀ a w, St n E a → w.heap[b]? = some ob → ∃ w', (execOp a.eval o).run P w = .ok .skip w' ∧ Fr [b] w w' ∧ w'.heap[b]? = some ob') :
    OpTo P n w0 S0 Q E L o (Y := Unit) (fun _ => E) (fun _ => (b, ob') :: L') := by
  intro a w hs hm K hK
  have hm' := hm.perm hL
  obtain ⟨w', hr, hf, hb⟩ := hr a w hs (hm'.has _ (List.mem_cons_self))
  simp only [Oper.wp, hr, Oper.upon_skip, hd]
  exact hK () _ _ hs (hm'.write hf hb)
theorem OpTo.store (hT : TabOk P T) (hd : o.dst = none) {x y : Operand} {b off : Nat} {arr : Array Value} {e : TypeId} {v : Value} {L' : Hp} (ho : o.op = .store t x y) (ht : tiGet T t = some ti)
    (hx : lk E x = some (.pointer (some ⟨b, off, none⟩))) (hy : lk E y = some v) (hL : L.Perm ((b, .cells arr e (0, 0)) :: L'))
    (hs : v.cells.size = ti.size) (hf : off + ti.size ≤ arr.size) (h1 : ∀ u ∈ v.cells.toList, u.oneCell' = true) :
    OpTo P n w0 S0 Q E L o (Y := Unit) (fun _ => E) (fun _ => (b, .cells (wrAt arr off v.cells.toList) e (0, 0)) :: L') :=
  OpTo.put hd hL (fun a w hst hb => by
    refine ⟨w.setRow b (wrAt arr off v.cells.toList), ?_, Fr.setRow _ _ _, setRow_heap w b arr _ e _ hb⟩
    have := run_storeVar_at (P := P) (hT _ _ ht) w hb hs hf h1
    simp [execOp, ho, hst.eval hx, hst.eval hy, Instr.storeAt, Instr.sureAddr, this])
end
end Go.Vc

/- Slices: a row of the call's own that is appended to, what is read out of a slice, copies. -/
namespace Go.Vc
open Go

section
variable {P : Program} {n : Nat} {w0 : World} {S0 : List Nat} {Q : Exit → Act → World → Prop} {E : Env} {L : Hp} {o : Oper} {d : Nat} {T : List (Nat × TI)} {t : Nat} {ti : TI} {ops : Array Oper}

/-- From a place on these cells can be read, in every world of which so much is known. -/
def Rd (w0 : World) (S0 : List Nat) (L : Hp) (a : Addr) (cs : List Value) : Prop := ∀ w, Mem w0 S0 L w → ∀ j u, cs[j]? = some u → w.cell? (a.add j) = some u
theorem Rd.old {a : Addr} {cs : List Value} (hS : a.block ∉ S0) (hc : ∀ j u, cs[j]? = some u → w0.cell? (a.add j) = some u) : Rd w0 S0 L a cs := fun _ hm j u hj =>
  hm.fr.cell (by rw [show (a.add j).block = a.block by unfold Addr.add; split <;> rfl]; exact hS) (hc j u hj)
theorem Rd.row {b off : Nat} {arr : Array Value} {e : TypeId} {fz : Nat × Nat} {cs : List Value} (hm : (b, .cells arr e fz) ∈ L) (hc : ∀ j u, cs[j]? = some u → arr[off + j]? = some u) : Rd w0 S0 L ⟨b, off, none⟩ cs := fun w hmem j u hj => by
  rw [add_lit, cell_of_row w b (off + j) arr e fz (hmem.has _ hm)]; exact hc j u hj
theorem Rd.rowAll {b : Nat} {arr : Array Value} {e : TypeId} {fz : Nat × Nat} (hm : (b, .cells arr e fz) ∈ L) : Rd w0 S0 L ⟨b, 0, none⟩ arr.toList :=
  Rd.row hm (fun j u hj => by simpa using hj)
theorem Rd.take {a : Addr} {cs : List Value} (h : Rd w0 S0 L a cs) (k : Nat) : Rd w0 S0 L a (cs.take k) := fun w hm j u hj => h w hm j u (by
  rw [List.getElem?_take] at hj; split at hj; exact hj; cases hj)
/-- A slice value of m elements that reads as these cells. -/
inductive Src (w0 : World) (S0 : List Nat) (L : Hp) (sz : Nat) : Value → Nat → List Value → Prop
  | nil : Src w0 S0 L sz (.slice none 0 0) 0 []
  | at (a : Addr) (m c : Nat) (cs : List Value) (hl : cs.length = m * sz) (hr : Rd w0 S0 L a cs) : Src w0 S0 L sz (.slice (some a) m c) m cs

/-- A slice of n elements whose cells are the call's own, from the beginning of a block. -/
inductive Own (e : TypeId) (sz : Nat) : Value → Nat → List Value → Hp → Prop
  | nil : Own e sz (.slice none 0 0) 0 [] []
  | row (b n cap : Nat) (cs rest : List Value) (h1 : cs.length = n * sz) (h2 : (cs ++ rest).length = cap * sz) (hn : n ≤ cap) (hc : cap ≤ maxLen) : Own e sz (.slice (some ⟨b, 0, none⟩) n cap) n cs [(b, .cells (cs ++ rest).toArray e (0, 0))]

theorem Own.src {e : TypeId} {sz : Nat} {v : Value} {m : Nat} {cs : List Value} {bl : Hp} (h : Own e sz v m cs bl) (hb : ∀ p ∈ bl, p ∈ L) : Src w0 S0 L sz v m cs := by
  cases h with
  | nil => exact .nil
  | row b _ cap _ rest h1 h2 _ _ =>
    refine .at _ _ _ _ h1 (Rd.row (hb _ (List.mem_singleton.2 rfl)) fun j u hj => ?_)
    rw [Nat.zero_add, List.getElem?_toArray, List.getElem?_append_left]
    · exact hj
    · exact (List.getElem?_eq_some_iff.1 hj).1

theorem run_append {P : Program} {w : World} {t e : TypeId} {ei : TI} {ty : TypeId} (ht : P.underlying t = some (.slice e)) (he : Ty P e ei) (hz : ei.zero.cells.size = ei.size)
    {v x : Value} {m k : Nat} {cs news : List Value} {bl : Hp} (hown : Own e ei.size v m cs bl) (hbl : ∀ p ∈ bl, w.heap[p.1]? = some p.2)
    (hx : (x = .slice none 0 0 ∧ k = 0 ∧ news = []) ∨ (∃ a c, x = .slice (some a) k c ∧ news.length = k * ei.size ∧ ∀ j u, news[j]? = some u → w.cell? (a.add j) = some u))
    (h1 : ∀ u ∈ news, u.oneCell' = true) (h63 : m + k ≤ maxLen) (hby : (m + k) * ei.bytes ≤ 140737488355328) :
    ∃ v' bl' w', (Builtin.append_ #[t, t] ty #[v, x]).run P w = .ok v' w' ∧ Own e ei.size v' (m + k) (cs ++ news) bl' ∧
      ((∃ b ob ob', bl = [(b, ob)] ∧ bl' = [(b, ob')] ∧ Fr [b] w w' ∧ w'.heap[b]? = some ob') ∨
       (Fr [] w w' ∧ (∀ p ∈ bl', w'.heap[p.1]? = some p.2 ∧ w.heap.size ≤ p.1) ∧ (bl'.map (·.1)).Nodup)) := by
  obtain ⟨-, i, hi, hs, hb, hzz⟩ := he
  rcases hx with ⟨rfl, rfl, rfl⟩ | ⟨a, c, rfl, hl, hrd⟩
  · -- nothing is appended
    refine ⟨v, bl, w, ?_, by simpa using hown, ?_⟩
    · cases hown with
      | nil => simp [Builtin.append_, run_underlying ht, sizeOf, typeInfo, hi, Builtin.lenOf, Builtin.firstCells]
      | row b _ cap _ rest h1 h2 hn hc => simp [Builtin.append_, run_underlying ht, sizeOf, typeInfo, hi, Builtin.lenOf, Builtin.firstCells, hn, storeCells]
    · cases hown with
      | nil => exact .inr ⟨Fr.refl _ _, by simp, by simp⟩
      | row b _ cap _ rest h1 h2 hn hc => exact .inl ⟨b, _, _, rfl, rfl, Fr.refl _ _, hbl _ (List.mem_singleton.2 rfl)⟩
  · rw [← hs] at hl
    cases hown with
    | nil =>
      by_cases hk : k = 0
      · subst hk
        have hn : news = [] := List.eq_nil_of_length_eq_zero (by simpa using hl)
        subst hn
        refine ⟨.slice none 0 0, [], w, ?_, by simpa using Own.nil, .inr ⟨Fr.refl _ _, by simp, by simp⟩⟩
        simp [Builtin.append_, run_underlying ht, sizeOf, typeInfo, hi, Builtin.lenOf, Builtin.firstCells, loadCells, loadCellsFrom]
      · have hr := run_append_nil (P := P) w t ty e i ei.zero ht hi hzz a k c news hl hrd (by omega) (by simp only [maxLen] at h63; omega) (by rw [hb]; simp only [Nat.zero_add] at hby; omega)
        refine ⟨_, [(w.heap.size, .cells (news.toArray ++ Builtin.zeroCells ei.zero.cells (grownCap w k 0 e - k)) e)], _, hr, ?_, .inr ⟨(Fr.drew w).trans (Fr.alloc _ _), ?_, by simp⟩⟩
        · have h0 := grownCap_ge w k 0 e
          have h9 := grownCap_le_maxLen w k 0 e (by omega)
          have := Own.row (e := e) (sz := ei.size) w.heap.size k (grownCap w k 0 e) news (Builtin.zeroCells ei.zero.cells (grownCap w k 0 e - k)).toList (by rw [hl, hs])
            (by rw [List.length_append, hl, hs, Array.length_toList, size_zeroCells, hz, ← Nat.add_mul]; congr 1; omega) h0 h9
          have e9 : ∀ (A : List Value) (B : Array Value), (A ++ B.toList).toArray = A.toArray ++ B := fun A B => by apply Array.ext'; simp
          rw [e9] at this
          simpa using this
        · intro p hp
          rw [List.mem_singleton] at hp; subst hp
          exact ⟨heap_alloc_new w.drew _, Nat.le_refl _⟩
    | row b _ cap _ rest h1' h2 hn hc =>
      have hg := hbl _ (List.mem_singleton.2 rfl)
      by_cases hroom : m + k ≤ cap
      · have hr := run_append_room (P := P) w t ty e i ht hi b m cap _ hg a k c news hl hrd h1 hroom (by
          rw [hl, hs, List.size_toArray, h2, ← Nat.add_mul]; exact Nat.mul_le_mul_right _ hroom)
        refine ⟨_, [(b, .cells ((cs ++ rest).toArray.toList.take (m * i.size) ++ news ++ (cs ++ rest).toArray.toList.drop (m * i.size + news.length)).toArray e)], _, hr, ?_, .inl ⟨b, _, _, rfl, rfl, Fr.setRow _ _ _, setRow_heap w b _ _ e _ hg⟩⟩
        have e1 : (cs ++ rest).toArray.toList.take (m * i.size) = cs := by
          rw [hs, ← h1']; exact List.take_left
        have e2 : ((cs ++ rest).toArray.toList.drop (m * i.size + news.length)) = rest.drop news.length := by
          rw [hs, ← h1']
          show (cs ++ rest).drop (cs.length + news.length) = _
          rw [List.drop_append]; simp
        have := Own.row (e := e) (sz := ei.size) b (m + k) cap (cs ++ news) (rest.drop news.length) (by rw [List.length_append, h1', hl, hs, Nat.add_mul])
          (by
            rw [List.length_append, List.length_append, List.length_drop, hl, hs, h1']
            rw [List.length_append, h1'] at h2
            have : m * ei.size + k * ei.size ≤ cap * ei.size := by rw [← Nat.add_mul]; exact Nat.mul_le_mul_right _ hroom
            omega) hroom hc
        rw [e1, e2]
        exact this
      · have hr := run_append_grow (P := P) w t ty e i ei.zero ht hi hzz ⟨b, 0, none⟩ m cap cs (by rw [h1', hs]) (fun j u hj => by
            rw [add_lit, cell_of_row w b (0 + j) _ e _ hg, Nat.zero_add, List.getElem?_toArray, List.getElem?_append_left]
            · exact hj
            · exact (List.getElem?_eq_some_iff.1 hj).1) a k c news hl hrd (by omega) (by simp only [maxLen] at h63; omega) (growslice_fits (by omega) (by rw [hb]; exact hby))
        refine ⟨_, [(w.heap.size, .cells (cs.toArray ++ news.toArray ++ Builtin.zeroCells ei.zero.cells (grownCap w (m + k) cap e - (m + k))) e)], _, hr, ?_, .inr ⟨(Fr.drew w).trans (Fr.alloc _ _), ?_, by simp⟩⟩
        · have h0 := grownCap_ge w (m + k) cap e
          have h9 := grownCap_le_maxLen w (m + k) cap e h63
          have := Own.row (e := e) (sz := ei.size) w.heap.size (m + k) (grownCap w (m + k) cap e) (cs ++ news) (Builtin.zeroCells ei.zero.cells (grownCap w (m + k) cap e - (m + k))).toList
            (by rw [List.length_append, h1', hl, hs, Nat.add_mul])
            (by rw [List.length_append, List.length_append, h1', hl, hs, Array.length_toList, size_zeroCells, hz, ← Nat.add_mul, ← Nat.add_mul]; congr 1; omega) h0 h9
          have e9 : ∀ (A C : List Value) (B : Array Value), (A ++ C ++ B.toList).toArray = A.toArray ++ C.toArray ++ B := fun A C B => by apply Array.ext'; simp
          rw [e9] at this
          exact this
        · intro p hp
          rw [List.mem_singleton] at hp; subst hp
          exact ⟨heap_alloc_new w.drew _, Nat.le_refl _⟩

/-- s = append(s, x...) -/
theorem OpTo.append (hT : TabOk P T) {s x : Operand} {e : TypeId} {ei : TI} {v u : Value} {m k : Nat} {cs news : List Value} {bl L1 : Hp} (hown : Own e ei.size v m cs bl) (hsrc : Src w0 S0 L ei.size u k news)
    (hd : o.dst = some d) (hn : Nat.blt d n = true)
    (ho : o.op = .call { callee := .builtin .append, args := #[s, x], argTypes := #[t, t] }) (ht : tiGet T t = some ti) (htd : ti.desc = .slice e) (he : tiGet T e = some ei) (hz : ei.zero.cells.size = ei.size)
    (hs : lk E s = some v) (hx : lk E x = some u) (hL : L.Perm (bl ++ L1)) (h1 : ∀ u ∈ news, u.oneCell' = true) (h63 : m + k ≤ maxLen) (hby : (m + k) * ei.bytes ≤ 140737488355328) :
    OpTo P n w0 S0 Q E L o (Y := {p : Value × Hp // Own e ei.size p.1 (m + k) (cs ++ news) p.2}) (fun y => (d, y.1.1) :: E) (fun y => y.1.2 ++ L1) := by
  intro a w hst hm K hK
  have hu := (hT _ _ ht).1
  rw [htd] at hu
  have hm' := hm.perm hL
  obtain ⟨v', bl', w', hr, hown', hcase⟩ := run_append (P := P) (w := w) (ty := o.type) (x := u) hu (hT _ _ he) hz hown (fun p hp => hm'.has p (List.mem_append_left _ hp))
    (by cases hsrc with
        | nil => exact .inl ⟨rfl, rfl, rfl⟩
        | «at» a m c cs hl hr => exact .inr ⟨a, c, rfl, hl, hr w hm⟩) h1 h63 hby
  have hex : (execOp a.eval o).run P w = .ok (.value v') w' := by
    simp [execOp, ho, resolve, invoke, builtin, hst.eval hs, hst.eval hx, hr]
  simp only [Oper.wp, hex, Oper.upon_value, hd]
  refine hK ⟨(v', bl'), hown'⟩ _ _ (hst.put hn v') ?_
  rcases hcase with ⟨b, ob, ob', rfl, rfl, hf, hb⟩ | ⟨hf, hb, hnd⟩
  · exact (Mem.write (L := L1) hm' hf hb)
  · have := hm'.sublist (List.sublist_append_right bl L1)
    exact this.add hf (fun p hp => (hb p hp).1) (fun p hp => (hb p hp).2) hnd

/-- A new slice with its elements written out. -/
def fillS (sz len : Nat) (zero : Array Value) (parts : Array (Nat × Value)) : Option (Array Value) :=
  Instr.fill (fun i => some (i * sz, sz)) ((Array.range (len * sz)).map (zero[· % zero.size]!)) parts.toList
theorem New.buildSlice (hT : TabOk P T) {len : Nat} {parts : List (Nat × Operand)} {vs : List Value} {e : TypeId} {ei : TI} {cells : Array Value} (ho : o.op = .buildSlice t len parts.toArray) (ht : tiGet T t = some ti) (hd : ti.desc = .slice e) (he : tiGet T e = some ei)
    (hx : lkAll E (parts.map (·.2)) = some vs) (hsm : Nat.ble (len * ei.size) 16777216 = true) (hf : fillS ei.size len ei.zero.cells ((parts.map (·.1)).zip vs).toArray = some cells) :
    New P n w0 S0 E L o (fun b => .slice (some ⟨b, 0, none⟩) len len) (.cells cells e) := by
  intro a w hs _
  have h2 := (hT _ _ ht).1
  rw [hd] at h2
  have hv := hs.evalAll hx
  have hz := (hT _ _ he).zero w
  have hsz := (hT _ _ he).size w
  have hpv : (parts.toArray.map fun (i, x) => (i, a.eval x)) = ((parts.map (·.1)).zip vs).toArray := by
    rw [← hv]
    simp [List.zip_map', Function.comp_def]
  have hsm' : ¬ (16777216 < len * ei.size) := by have := Nat.le_of_ble_eq_true hsm; omega
  refine ⟨w, Fr.refl _ _, rfl, ?_⟩
  simp only [execOp, ho]
  rw [hpv]
  have r0 : Array.range 0 = #[] := by apply Array.ext' ; simp
  have hlast : (Instr.buildSlice t len ((parts.map (·.1)).zip vs).toArray).run P w = .ok (.slice (some ⟨w.heap.size, 0, none⟩) len len) (w.alloc (.cells cells e)) := by
    by_cases h0 : len * ei.size = 0
    · have hf' : Instr.fill (fun i => some (i * ei.size, ei.size)) #[] ((parts.map (·.1)).zip vs) = some cells := by
        simpa [fillS, h0, r0] using hf
      simp [Instr.buildSlice, run_underlying h2, hsz, h0, hf', newRow, r0]
    · have hf' : Instr.fill (fun i => some (i * ei.size, ei.size)) ((Array.range (len * ei.size)).map (ei.zero.cells[· % ei.zero.cells.size]!)) ((parts.map (·.1)).zip vs) = some cells := by
        simpa [fillS] using hf
      simp [Instr.buildSlice, run_underlying h2, hsz, h0, hsm', hz, newRow]
      rw [hf']
      simp
  simp [hlast]
end
end Go.Vc

/- Values of arrays and structs; slices of slices; copies; guards; cuts. -/
namespace Go.Vc
open Go

section
variable {P : Program} {n : Nat} {w0 : World} {S0 : List Nat} {Q : Exit → Act → World → Prop} {E : Env} {L : Hp} {o : Oper} {d : Nat} {T : List (Nat × TI)} {t : Nat} {ti : TI} {ops : Array Oper} {l rest : List Oper}

/-- a part of an array or a struct -/
def partOf (ei : TI) (cs : Array Value) (off : Nat) : Option Value :=
  bif TypeDesc.agg ei.desc then some (.agg (cs.extract off (off + ei.size))) else cs[off]?
theorem run_part {P : Program} {e : Nat} {ei : TI} (he : Ty P e ei) {cs : Array Value} {off : Nat} {v : Value} (h : partOf ei cs off = some v) (w : World) : (part e cs off).run P w = .ok v w := by
  unfold partOf at h
  cases ha : TypeDesc.agg ei.desc with
  | true =>
    simp only [ha, cond_true, Option.some.injEq] at h
    subst h
    simp [part, he.isAgg, ha, he.size]
  | false =>
    simp only [ha, cond_false] at h
    simp [part, he.isAgg, ha, h]
theorem Val.index (hT : TabOk P T) {x y : Operand} {len el : Nat} {k : IntKind} {z : Int} {ei : TI} {cs : Array Value} {v : Value} (ho : o.op = .index t x y) (ht : tiGet T t = some ti) (hd : ti.desc = .array len el) (he : tiGet T el = some ei)
    (hx : lk E x = some (.agg cs)) (hy : lk E y = some (.int k z)) (h0 : 0 ≤ z) (h1 : z < len) (hv : partOf ei cs (z.toNat * ei.size) = some v) : Val P n w0 S0 E L o v := by
  intro a w hs _
  have h2 := (hT _ _ ht).1
  rw [hd] at h2
  simp [execOp, ho, hs.eval hx, hs.eval hy, Instr.index, asIntOf, run_underlying h2, h0, h1, (hT _ _ he).size, run_part (hT _ _ he) hv]
theorem Val.fieldAddr (hT : TabOk P T) {x : Operand} {b off i el : Nat} {fs : Array Field} {f : Field} {ei : TI} (ho : o.op = .fieldAddr t x i) (ht : tiGet T t = some ti) (hd : ti.desc = .struct fs) (hf : fs[i]? = some f) (hft : f.type = el) (he : tiGet T el = some ei)
    (hz : Nat.beq ei.size 0 = false) (hx : lk E x = some (.pointer (some ⟨b, off, none⟩))) : Val P n w0 S0 E L o (.pointer (some ⟨b, off + f.offset, none⟩)) := by
  intro a w hs _
  have h2 := (hT _ _ ht).1
  rw [hd] at h2
  subst hft
  have hz' : ¬ ei.size = 0 := by intro e; rw [e] at hz; cases hz
  simp [execOp, ho, hs.eval hx, Instr.fieldAt, run_underlying h2, hf, Instr.sureAddr, fieldPlace, (hT _ _ he).size, hz', add_lit]
/-- the same at a place that is known by its address alone -/
theorem Val.fieldAddrA (hT : TabOk P T) {x : Operand} {ad : Addr} {i el : Nat} {fs : Array Field} {f : Field} {ei : TI} (ho : o.op = .fieldAddr t x i) (ht : tiGet T t = some ti) (hd : ti.desc = .struct fs) (hf : fs[i]? = some f) (hft : f.type = el) (he : tiGet T el = some ei)
    (hz : Nat.beq ei.size 0 = false) (hx : lk E x = some (.pointer (some ad))) : Val P n w0 S0 E L o (.pointer (some (ad.add f.offset))) := by
  intro a w hs _
  have h2 := (hT _ _ ht).1
  rw [hd] at h2
  subst hft
  have hz' : ¬ ei.size = 0 := by intro e; rw [e] at hz; cases hz
  simp [execOp, ho, hs.eval hx, Instr.fieldAt, run_underlying h2, hf, Instr.sureAddr, fieldPlace, (hT _ _ he).size, hz']

/-- An array with its elements written out. -/
theorem Val.buildA (hT : TabOk P T) {parts : List (Nat × Operand)} {vs : List Value} {len e : TypeId} {ei : TI} {cells : Array Value} (ho : o.op = .build t parts.toArray) (ht : tiGet T t = some ti) (hd : ti.desc = .array len e) (he : tiGet T e = some ei)
    (hx : lkAll E (parts.map (·.2)) = some vs) (hf : Instr.fill (fun i => some (i * ei.size, ei.size)) ti.zero.cells ((parts.map (·.1)).zip vs) = some cells) :
    Val P n w0 S0 E L o (.agg cells) := by
  intro a w hs _
  have h2 := (hT _ _ ht).1
  rw [hd] at h2
  have hv := hs.evalAll hx
  have hpv : (parts.toArray.map fun (i, x) => (i, a.eval x)) = ((parts.map (·.1)).zip vs).toArray := by
    rw [← hv]
    simp [List.zip_map', Function.comp_def]
  simp only [execOp, ho]
  rw [hpv]
  simp [Instr.build, (hT _ _ ht).zero, run_underlying h2, (hT _ _ he).size, hf]

def placesOf (T : List (Nat × TI)) : List Field → Option (List (Nat × Nat))
  | [] => some []
  | f :: r => match tiGet T f.type, placesOf T r with
    | some ti, some ps => some ((f.offset, ti.size) :: ps)
    | _, _ => none
theorem run_places (hT : TabOk P T) (w : World) : ∀ (fs : List Field) (ps : List (Nat × Nat)), placesOf T fs = some ps →
    (fs.mapM fun f => do pure (f.offset, ← sizeOf f.type) : Sem (List (Nat × Nat))).run P w = .ok ps w
  | [], ps, h => by cases h; simp
  | f :: r, ps, h => by
    simp only [placesOf] at h
    split at h
    · rename_i ti ps' h1 h2
      cases h
      have := run_places hT w r ps' h2
      simp only [List.mapM_cons, Sem.run_bind, (hT _ _ h1).size, Result.andThen_ok, Sem.run_pure, this]
    · cases h
theorem Val.buildS (hT : TabOk P T) {parts : List (Nat × Operand)} {vs : List Value} {fs : List Field} {ps : List (Nat × Nat)} {cells : Array Value} (ho : o.op = .build t parts.toArray) (ht : tiGet T t = some ti) (hd : ti.desc = .struct fs.toArray) (hp : placesOf T fs = some ps)
    (hx : lkAll E (parts.map (·.2)) = some vs) (hf : Instr.fill (fun i => ps[i]?) ti.zero.cells ((parts.map (·.1)).zip vs) = some cells) :
    Val P n w0 S0 E L o (.agg cells) := by
  intro a w hs _
  have h2 := (hT _ _ ht).1
  rw [hd] at h2
  have hv := hs.evalAll hx
  have hpv : (parts.toArray.map fun (i, x) => (i, a.eval x)) = ((parts.map (·.1)).zip vs).toArray := by
    rw [← hv]
    simp [List.zip_map', Function.comp_def]
  have hpl := run_places hT w fs ps hp
  have hpl' : (fs.toArray.mapM fun f => do pure (f.offset, ← sizeOf f.type) : Sem (Array (Nat × Nat))).run P w = .ok ps.toArray w := by
    rw [List.mapM_toArray, Sem.run_map, hpl]
    rfl
  have hfill : Instr.fill (fun i => ps.toArray[i]?) ti.zero.cells ((parts.map (·.1)).zip vs) = some cells := by
    have : (fun i : Nat => ps.toArray[i]?) = fun i : Nat => ps[i]? := by funext i; simp
    rw [this]; exact hf
  have hlast : (Instr.build t ((parts.map (·.1)).zip vs).toArray).run P w = .ok (.agg cells) w := by
    unfold Instr.build
    rw [Sem.run_bind, (hT _ _ ht).zero]
    show Sem.run P (underlying t >>= _) w = _
    rw [Sem.run_bind, run_underlying h2]
    show Sem.run P (Array.mapM _ fs.toArray >>= _) w = _
    rw [Sem.run_bind, hpl']
    show Sem.run P (match Instr.fill (fun i => ps.toArray[i]?) ti.zero.cells ((parts.map (·.1)).zip vs) with | some cells => _ | _ => _) w = _
    rw [hfill]
    rfl
  simp only [execOp, ho]
  rw [hpv]
  simp [hlast]

/-- x[l:h] of a slice -/
theorem Val.sliceS (hT : TabOk P T) {x : Operand} {ad : Addr} {len cap el : Nat} {ei : TI} {lo hi : Option Operand} {zl zh : Nat} (ho : o.op = .slice t x lo hi none) (ht : tiGet T t = some ti) (hd : ti.desc = .slice el) (he : tiGet T el = some ei)
    (hx : lk E x = some (.slice (some ad) len cap)) (hl : (lo = none ∧ zl = 0) ∨ ∃ y, lo = some y ∧ lk E y = some (.int .i64 zl)) (hh : (hi = none ∧ zh = len) ∨ ∃ y, hi = some y ∧ lk E y = some (.int .i64 zh))
    (h1 : zl ≤ zh) (h2 : zh ≤ cap) : Val P n w0 S0 E L o (.slice (some (if cap = zl then ad else ad.add (zl * ei.size))) (zh - zl) (cap - zl)) := by
  intro a w hs _
  have hu := (hT _ _ ht).1
  rw [hd] at hu
  have b1 := run_sliceBound (P := P) w .i64 zh cap .sliceAcap (by omega) (by omega)
  have b2 := run_sliceBound (P := P) w .i64 zl zh .sliceB (by omega) (by omega)
  have b3 := run_sliceBound (P := P) w .i64 zl len .sliceB (by omega)
  rcases hl with ⟨rfl, rfl⟩ | ⟨y, rfl, hy⟩ <;> rcases hh with ⟨rfl, rfl⟩ | ⟨y', rfl, hy'⟩
  · simp [execOp, ho, hs.eval hx, Instr.sliceAt, Instr.slice, run_underlying hu, Instr.sliceBounds, (hT _ _ he).size]
    split <;> rfl
  · simp [execOp, ho, hs.eval hx, hs.eval hy', Instr.sliceAt, Instr.slice, run_underlying hu, Instr.sliceBounds, (hT _ _ he).size, b1]
    split <;> rfl
  · have b3 := b3 (by omega)
    simp [execOp, ho, hs.eval hx, hs.eval hy, Instr.sliceAt, Instr.slice, run_underlying hu, Instr.sliceBounds, (hT _ _ he).size, b3]
    split <;> rfl
  · simp [execOp, ho, hs.eval hx, hs.eval hy, hs.eval hy', Instr.sliceAt, Instr.slice, run_underlying hu, Instr.sliceBounds, (hT _ _ he).size, b1, b2]
    split <;> rfl

theorem Val.sliceS' (hT : TabOk P T) {x : Operand} {ad : Addr} {len cap el : Nat} {ei : TI} {lo hi : Option Operand} (zl zh : Nat) {m : Nat} (ho : o.op = .slice t x lo hi none) (ht : tiGet T t = some ti) (hd : ti.desc = .slice el) (he : tiGet T el = some ei)
    (hx : lk E x = some (.slice (some ad) len cap)) (hl : (lo = none ∧ zl = 0) ∨ ∃ y, lo = some y ∧ lk E y = some (.int .i64 zl)) (hh : (hi = none ∧ zh = len) ∨ ∃ y, hi = some y ∧ lk E y = some (.int .i64 zh))
    (h1 : zl ≤ zh) (h2 : zh ≤ cap) (h3 : zl < cap) (hm : zh - zl = m) : Val P n w0 S0 E L o (.slice (some (ad.add (zl * ei.size))) m (cap - zl)) := by
  have := Val.sliceS (P := P) (n := n) (w0 := w0) (S0 := S0) (L := L) hT ho ht hd he hx hl hh h1 h2
  rwa [if_neg (by omega), hm] at this
theorem Run.storeTo (hT : TabOk P T) {x y : Operand} {b off : Nat} {arr : Array Value} {e : TypeId} {v : Value} {L' : Hp} {arr' : Array Value} (he : wrAt arr off v.cells.toList = arr') (hg : o.guard = none) (hd : o.dst = none) (ho : o.op = .store t x y) (ht : tiGet T t = some ti)
    (hx : lk E x = some (.pointer (some ⟨b, off, none⟩))) (hy : lk E y = some v) (hL : L.Perm ((b, .cells arr e (0, 0)) :: L'))
    (hs : v.cells.size = ti.size) (hf : off + ti.size ≤ arr.size) (h1 : ∀ u ∈ v.cells.toList, u.oneCell' = true)
    (k : Run P n w0 S0 l.toArray Q rest E ((b, .cells arr' e (0, 0)) :: L')) : Run P n w0 S0 l.toArray Q (o :: rest) E L := by
  subst he
  exact Run.store hT hg hd ho ht hx hy hL hs hf h1 k
theorem OpTo.storeTo (hT : TabOk P T) {x y : Operand} {b off : Nat} {arr : Array Value} {e : TypeId} {v : Value} {L' : Hp} {arr' : Array Value} (he : wrAt arr off v.cells.toList = arr') (hd : o.dst = none) (ho : o.op = .store t x y) (ht : tiGet T t = some ti)
    (hx : lk E x = some (.pointer (some ⟨b, off, none⟩))) (hy : lk E y = some v) (hL : L.Perm ((b, .cells arr e (0, 0)) :: L'))
    (hs : v.cells.size = ti.size) (hf : off + ti.size ≤ arr.size) (h1 : ∀ u ∈ v.cells.toList, u.oneCell' = true) :
    OpTo P n w0 S0 Q E L o (Y := Unit) (fun _ => E) (fun _ => (b, .cells arr' e (0, 0)) :: L') := by
  subst he
  exact OpTo.store hT hd ho ht hx hy hL hs hf h1

theorem wrAt_all (arr : Array Value) (cs : List Value) (h : cs.length = arr.size) : wrAt arr 0 cs = cs.toArray := by
  unfold wrAt
  simp [h]
/-- A variable that is written whole. -/
theorem Run.storeAll (hT : TabOk P T) {x y : Operand} {b : Nat} {arr : Array Value} {e : TypeId} {v : Value} {L' : Hp} (hg : o.guard = none) (hd : o.dst = none) (ho : o.op = .store t x y) (ht : tiGet T t = some ti)
    (hx : lk E x = some (.pointer (some ⟨b, 0, none⟩))) (hy : lk E y = some v) (hL : L.Perm ((b, .cells arr e (0, 0)) :: L'))
    (hs : v.cells.size = ti.size) (hf : ti.size = arr.size) (h1 : ∀ u ∈ v.cells.toList, u.oneCell' = true)
    (k : Run P n w0 S0 l.toArray Q rest E ((b, .cells v.cells e (0, 0)) :: L')) : Run P n w0 S0 l.toArray Q (o :: rest) E L :=
  Run.storeTo hT (by rw [wrAt_all _ _ (by simp; omega)]) hg hd ho ht hx hy hL hs (by omega) h1 k
theorem OpTo.storeAll (hT : TabOk P T) {x y : Operand} {b : Nat} {arr : Array Value} {e : TypeId} {v : Value} {L' : Hp} (hd : o.dst = none) (ho : o.op = .store t x y) (ht : tiGet T t = some ti)
    (hx : lk E x = some (.pointer (some ⟨b, 0, none⟩))) (hy : lk E y = some v) (hL : L.Perm ((b, .cells arr e (0, 0)) :: L'))
    (hs : v.cells.size = ti.size) (hf : ti.size = arr.size) (h1 : ∀ u ∈ v.cells.toList, u.oneCell' = true) :
    OpTo P n w0 S0 Q E L o (Y := Unit) (fun _ => E) (fun _ => (b, .cells v.cells e (0, 0)) :: L') :=
  OpTo.storeTo hT (by rw [wrAt_all _ _ (by simp; omega)]) hd ho ht hx hy hL hs (by omega) h1

/-- The address of the element j of an array. -/
theorem Val.ix (hT : TabOk P T) (j : Nat) {off' : Nat} {x y : Operand} {b off len el : Nat} {k : IntKind} {z : Int} {ei : TI} (ho : o.op = .indexAddr t x y) (ht : tiGet T t = some ti) (hd : ti.desc = .array len el) (he : tiGet T el = some ei)
    (hx : lk E x = some (.pointer (some ⟨b, off, none⟩))) (hy : lk E y = some (.int k z)) (hz : z = j) (hj : j < len) (ho' : off + j * ei.size = off') :
    Val P n w0 S0 E L o (.pointer (some ⟨b, off', none⟩)) := by
  subst hz
  subst ho'
  have := Val.idxA (P := P) (n := n) (w0 := w0) (S0 := S0) (L := L) hT ho ht hd he hx hy (by omega) (by omega)
  simpa using this
/-- The address of the element j of a slice. -/
theorem Val.ixS (hT : TabOk P T) (j : Nat) {ad' : Addr} {x y : Operand} {ad : Addr} {len cap el : Nat} {k : IntKind} {z : Int} {ei : TI} (ho : o.op = .indexAddr t x y) (ht : tiGet T t = some ti) (hd : ti.desc = .slice el) (he : tiGet T el = some ei)
    (hx : lk E x = some (.slice (some ad) len cap)) (hy : lk E y = some (.int k z)) (hz : z = j) (hj : j < len) (ha : ad.add (j * ei.size) = ad') :
    Val P n w0 S0 E L o (.pointer (some ad')) := by
  subst hz
  subst ha
  have := Val.idxS (P := P) (n := n) (w0 := w0) (S0 := S0) (L := L) hT ho ht hd he hx hy (by omega) (by omega)
  simpa using this

/-- copy into a row that is listed -/
theorem run_copy_gen (w : World) (dT sT ty elem : TypeId) {ei : TI} (g o dLen dCap : Nat) (a : Addr) (sLen sCap : Nat) (cur : Array Value) (e : TypeId) (cs : List Value)
    (hu : P.underlying dT = some (.slice elem)) (he : Ty P elem ei) (hg : w.heap[g]? = some (.cells cur e (0, 0))) (hn : cs.length = Nat.min sLen dLen * ei.size)
    (hsrc : ∀ j v, cs[j]? = some v → w.cell? (a.add j) = some v) (hfit : o + cs.length ≤ cur.size) (h1 : ∀ v ∈ cs, v.oneCell' = true) :
    (Builtin.copy_ #[dT, sT] ty #[.slice (some ⟨g, o, none⟩) dLen dCap, .slice (some a) sLen sCap]).run P w = .ok (goInt (Nat.min sLen dLen)) (w.setRow g (wrAt cur o cs)) := by
  have hl := run_loadCells_list (P := P) w a cs hsrc
  have hst := run_storeCells_at P g o e cs 0 cur w hg (by simpa using hfit) h1
  simp only [Nat.add_zero] at hst
  simp only [Builtin.copy_]
  simp [run_underlying hu, Builtin.lenOf, Builtin.firstCells, he.size, ← hn, hl, hst, wrAt]

theorem OpTo.copy (hT : TabOk P T) {x y : Operand} {t2 el : TypeId} {ei : TI} {b off dLen dCap sLen sCap : Nat} {ad : Addr} {arr : Array Value} {e : TypeId} {cs : List Value} {L' : Hp} (hsrc : Rd w0 S0 L ad cs)
    (hd : o.dst = some d) (hn : Nat.blt d n = true) (ho : o.op = .call { callee := .builtin .copy, args := #[x, y], argTypes := #[t, t2] }) (ht : tiGet T t = some ti) (htd : ti.desc = .slice el) (he : tiGet T el = some ei)
    (hx : lk E x = some (.slice (some ⟨b, off, none⟩) dLen dCap)) (hy : lk E y = some (.slice (some ad) sLen sCap)) (hL : L.Perm ((b, .cells arr e (0, 0)) :: L')) (hl : cs.length = Nat.min sLen dLen * ei.size) (hf : off + cs.length ≤ arr.size) (h1 : ∀ v ∈ cs, v.oneCell' = true) :
    OpTo P n w0 S0 Q E L o (Y := Unit) (fun _ => (d, .int .i64 (Nat.min sLen dLen)) :: E) (fun _ => (b, .cells (wrAt arr off cs) e (0, 0)) :: L') := by
  intro a w hs hm K hK
  have hu := (hT _ _ ht).1
  rw [htd] at hu
  have hm' := hm.perm hL
  have hb := hm'.has _ List.mem_cons_self
  have hr := run_copy_gen (P := P) w t t2 o.type el b off dLen dCap ad sLen sCap arr e cs hu (hT _ _ he) hb hl (hsrc w hm) hf h1
  have hex : (execOp a.eval o).run P w = .ok (.value (.int .i64 (Nat.min sLen dLen))) (w.setRow b (wrAt arr off cs)) := by
    simp [execOp, ho, hs.eval hx, hs.eval hy, resolve, invoke, builtin, hr, goInt]
  simp only [Oper.wp, hex, Oper.upon_value, hd]
  exact hK () _ _ (hs.put hn _) (hm'.write (Fr.setRow _ _ _) (setRow_heap w b arr _ e _ hb))

theorem OpTo.copyTo (hT : TabOk P T) {x y : Operand} {t2 el : TypeId} {ei : TI} {b off dLen dCap sLen sCap : Nat} {ad : Addr} {arr : Array Value} {e : TypeId} {cs : List Value} {L' : Hp} {arr' : Array Value} {m : Nat} (hsrc : Rd w0 S0 L ad cs) (he' : wrAt arr off cs = arr')
    (hd : o.dst = some d) (hn : Nat.blt d n = true) (ho : o.op = .call { callee := .builtin .copy, args := #[x, y], argTypes := #[t, t2] }) (ht : tiGet T t = some ti) (htd : ti.desc = .slice el) (he : tiGet T el = some ei)
    (hx : lk E x = some (.slice (some ⟨b, off, none⟩) dLen dCap)) (hy : lk E y = some (.slice (some ad) sLen sCap)) (hL : L.Perm ((b, .cells arr e (0, 0)) :: L')) (hl : cs.length = m * ei.size) (hmn : Nat.min sLen dLen = m) (hf : off + cs.length ≤ arr.size) (h1 : ∀ v ∈ cs, v.oneCell' = true) :
    OpTo P n w0 S0 Q E L o (Y := Unit) (fun _ => (d, .int .i64 m) :: E) (fun _ => (b, .cells arr' e (0, 0)) :: L') := by
  subst he'
  subst hmn
  exact OpTo.copy hT hsrc hd hn ho ht htd he hx hy hL hl hf h1
theorem Val.indexN (hT : TabOk P T) (j : Nat) {x y : Operand} {len el : Nat} {k : IntKind} {z : Int} {ei : TI} {cs : Array Value} {v : Value} (ho : o.op = .index t x y) (ht : tiGet T t = some ti) (hd : ti.desc = .array len el) (he : tiGet T el = some ei)
    (hx : lk E x = some (.agg cs)) (hy : lk E y = some (.int k z)) (hz : z = j) (h1 : j < len) (hv : partOf ei cs (j * ei.size) = some v) : Val P n w0 S0 E L o v := by
  subst hz
  exact Val.index hT ho ht hd he hx hy (by omega) (by omega) (by simpa using hv)

/-- What ends a piece: so much is known. -/
def To (n : Nat) (w0 : World) (S0 : List Nat) {Y : Type} (Ey : Y → Env) (Ly : Y → Hp) : Exit → Act → World → Prop
  | .normal, a, w => ∃ y, St n (Ey y) a ∧ Mem w0 S0 (Ly y) w
  | _, _, _ => False
theorem RC.seqCut {x y : Code} {Y : Type} (Ey : Y → Env) (Ly : Y → Hp) (h : RC P n w0 S0 x (To n w0 S0 Ey Ly) E L) (k : ∀ i, RC P n w0 S0 y Q (Ey i) (Ly i)) : RC P n w0 S0 (.seq x y) Q E L :=
  fun a w hs hm => wp_seq (wp_mono (h a w hs hm) fun e a w q => by
    cases e with
    | normal => obtain ⟨i, h1, h2⟩ := q; exact k i a w h1 h2
    | _ => exact q.elim)
theorem RQ.to {Y : Type} {Ey : Y → Env} {Ly : Y → Hp} (y : Y) (he : Env.le (Ey y) E) (hl : (Ly y).Sublist L) : RQ n w0 S0 .normal (To n w0 S0 Ey Ly) E L :=
  fun _ _ hs hm => ⟨y, hs.weak he, hm.sublist hl⟩
instance {Y : Type} {Ey : Y → Env} {Ly : Y → Hp} : QP (To n w0 S0 Ey Ly) := ⟨fun _ _ _ _ _ h => h.elim⟩

/-- The head of a loop: go on, or leave the block. -/
theorem RC.while {c : Operand} {id : Nat} {y : Code} {t : Bool} (hc : lk E c = some (.bool t)) (ht : t = true → RC P n w0 S0 y Q E L) (hf : t = false → RQ n w0 S0 (.exit id) Q E L) : RC P n w0 S0 (.seq (.cond c .skip (.exit id)) y) Q E L :=
  RC.seq (RC.cond hc (fun h => RC.skip (RQ.next (ht h))) (fun h => RC.exit (RQ.thenExit (hf h))))

theorem RC.wh {c : Operand} {id : Nat} {t : Bool} (hc : lk E c = some (.bool t)) (ht : t = true → RQ n w0 S0 .normal Q E L) (hf : t = false → RQ n w0 S0 (.exit id) Q E L) : RC P n w0 S0 (.cond c .skip (.exit id)) Q E L :=
  RC.cond hc (fun h => RC.skip (ht h)) (fun h => RC.exit (hf h))

/-- A bool in a slot: both ways. -/
theorem Run.split (j : Nat) {b : Bool} (he : E.get j = some (.bool b)) (ht : b = true → Run P n w0 S0 l.toArray Q rest ((j, .bool true) :: E) L) (hf : b = false → Run P n w0 S0 l.toArray Q rest ((j, .bool false) :: E) L) :
    Run P n w0 S0 l.toArray Q rest E L := by
  intro a w hs hm
  have hz : ∀ c, b = c → St n ((j, .bool c) :: E) a := fun c hc => ⟨hs.defers, hs.size, fun t v h => by
    rw [Env.get_cons] at h
    by_cases e : j = t
    · rw [if_pos e] at h; cases h; subst e; subst hc; exact hs.env _ _ he
    · rw [if_neg e] at h; exact hs.env _ _ h⟩
  cases b with
  | true => exact ht rfl a w (hz true rfl) hm
  | false => exact hf rfl a w (hz false rfl) hm
theorem Run.opG (hw : Wanted n l.toArray E o true) {Y : Type} {Ey : Y → Env} {Ly : Y → Hp} (h : OpTo P n w0 S0 Q E L o Ey Ly)
    (k : ∀ y, Run P n w0 S0 l.toArray Q rest (Ey y) (Ly y)) : Run P n w0 S0 l.toArray Q (o :: rest) E L := fun a w hs hm => by
  unfold wpList
  rw [if_pos (hw a hs)]
  exact .inl (h a w hs hm _ fun y a' w' hs' hm' => k y a' w' hs' hm')
theorem Run.vG (hw : Wanted n l.toArray E o true) (hd : o.dst = some d) (hn : Nat.blt d n = true) {v : Value} (h : Val P n w0 S0 E L o v)
    (k : Run P n w0 S0 l.toArray Q rest ((d, v) :: E) L) : Run P n w0 S0 l.toArray Q (o :: rest) E L :=
  Run.opG hw (OpTo.val hd hn h) (fun _ => k)
theorem Run.skipG (hw : Wanted n l.toArray E o false) (hd : o.dst = some d) (hn : Nat.blt d n = true)
    (k : Run P n w0 S0 l.toArray Q rest ((d, Go.undef) :: E) L) : Run P n w0 S0 l.toArray Q (o :: rest) E L := fun a w hs hm => by
  unfold wpList
  rw [if_neg (by rw [hw a hs]; simp), hd]
  exact k _ _ (hs.put hn _) hm
end
end Go.Vc

/- Short forms: what is the same in each use is found by itself. -/
namespace Go.Vc
open Go
theorem pin0 {α : Type} {x : α} {bl r : List α} : (bl ++ x :: r).Perm (x :: (bl ++ r)) := List.perm_middle
theorem pin1 {α : Type} {x a : α} {bl r : List α} : (bl ++ a :: x :: r).Perm (x :: (bl ++ a :: r)) := (List.Perm.append_left bl (List.Perm.swap x a r)).trans List.perm_middle
theorem pin2 {α : Type} {x a b : α} {bl r : List α} : (bl ++ a :: b :: x :: r).Perm (x :: (bl ++ a :: b :: r)) := (List.Perm.append_left bl ((List.Perm.cons a (List.Perm.swap x b r)).trans (List.Perm.swap x a (b :: r)))).trans List.perm_middle
theorem subApp {α : Type} {a b c : List α} (h : a.Sublist c) : a.Sublist (b ++ c) := h.trans (List.sublist_append_right _ _)
section
variable {P : Program} {n : Nat} {w0 : World} {S0 : List Nat} {Q : Exit → Act → World → Prop} {E : Env} {L Lr : Hp} {o : Oper} {d fuel : Nat} {l rest : List Oper} {ops : Array Oper} {listed : Array Bool} {v : Value}
theorem Run.a (h : Val P n w0 S0 E L o v) (k : Run P n w0 S0 l.toArray Q rest ((d, v) :: E) L)
    (hw : Wanted n l.toArray E o true := by first | exact Wanted.plain rfl | exact Wanted.guard rfl rfl rfl rfl) (hd : o.dst = some d := by exact rfl) (hn : Nat.blt d n = true := by exact rfl) :
    Run P n w0 S0 l.toArray Q (o :: rest) E L := Run.vG hw hd hn h k
theorem Run.sk {j dj : Nat} {want t : Bool} (k : Run P n w0 S0 l.toArray Q rest ((d, Go.undef) :: E) L)
    (hg : o.guard = some (j, want) := by exact rfl) (hj : (l.toArray[j]?).bind (·.dst) = some dj := by exact rfl) (he : E.get dj = some (.bool t) := by exact rfl) (ht : (t == want) = false := by exact rfl) (hd : o.dst = some d := by exact rfl) (hn : Nat.blt d n = true := by exact rfl) :
    Run P n w0 S0 l.toArray Q (o :: rest) E L := Run.skipG (Wanted.guard hg hj he ht) hd hn k
theorem Run.sku {j dj : Nat} {want : Bool} (k : Run P n w0 S0 l.toArray Q rest ((d, Go.undef) :: E) L)
    (hg : o.guard = some (j, want) := by exact rfl) (hj : (l.toArray[j]?).bind (·.dst) = some dj := by exact rfl) (he : E.get dj = some Go.undef := by exact rfl) (hd : o.dst = some d := by exact rfl) (hn : Nat.blt d n = true := by exact rfl) :
    Run P n w0 S0 l.toArray Q (o :: rest) E L := Run.skipG (Wanted.undef hg hj he) hd hn k
theorem Run.op1 {Y : Type} {Ey : Y → Env} {Ly : Y → Hp} (h : OpTo P n w0 S0 Q E L o Ey Ly) (k : ∀ y, Run P n w0 S0 l.toArray Q rest (Ey y) (Ly y))
    (hw : Wanted n l.toArray E o true := by first | exact Wanted.plain rfl | exact Wanted.guard rfl rfl rfl rfl) : Run P n w0 S0 l.toArray Q (o :: rest) E L := Run.opG hw h k
theorem Run.nw {V : Nat → Value} {ob : Obj} (h : New P n w0 S0 E L o V ob) (k : ∀ b, Run P n w0 S0 l.toArray Q rest ((d, V b) :: E) ((b, ob) :: L))
    (hw : Wanted n l.toArray E o true := by first | exact Wanted.plain rfl | exact Wanted.guard rfl rfl rfl rfl) (hd : o.dst = some d := by exact rfl) (hn : Nat.blt d n = true := by exact rfl) :
    Run P n w0 S0 l.toArray Q (o :: rest) E L := Run.opG hw (OpTo.new hd hn h) k
theorem DR.t (i : Nat) (hi : ops[i]? = some o) (hv : Val P n w0 S0 E Lr o v) (k : DR P n w0 S0 ops Q Lr fuel (listed.setIfInBounds i true) ((d, v) :: E) L)
    (hl : Lr.Sublist L := by first | exact List.Sublist.refl _ | exact List.nil_sublist _ | (repeat (first | exact List.nil_sublist _ | exact List.Sublist.refl _ | apply List.Sublist.cons_cons | apply List.Sublist.cons | apply Go.Vc.subApp)))
    (hw : Wanted n ops E o true := by first | exact Wanted.plain rfl | exact Wanted.guard rfl rfl rfl rfl) (hq : QP Q := by exact inferInstance) (hsel : Region.noSelect ops = true := by kernel_rfl) (hf : Region.free .any ops listed i = true := by kernel_rfl) (hr : (Region.ready .any ops listed).contains i = true := by kernel_rfl) (hcl : closedB ops listed = true := by kernel_rfl)
    (hd : o.dst = some d := by exact rfl) (hn : Nat.blt d n = true := by exact rfl) (hpu : npB ops i = false ∨ ∃ v', ev E o.op = some v' := by first | exact .inr ⟨_, rfl⟩ | exact .inl (by kernel_rfl)) : DR P n w0 S0 ops Q Lr (fuel + 1) listed E L := DR.take i hi hl hq hsel hf hr hcl hd hn hw hpu hv k
theorem DR.p (i : Nat) (hi : ops[i]? = some o) (k : DR P n w0 S0 ops Q Lr fuel (listed.setIfInBounds i true) ((d, Go.undef) :: E) L)
    (hl : Lr.Sublist L := by first | exact List.Sublist.refl _ | exact List.nil_sublist _ | (repeat (first | exact List.nil_sublist _ | exact List.Sublist.refl _ | apply List.Sublist.cons_cons | apply List.Sublist.cons | apply Go.Vc.subApp)))
    (hw : Wanted n ops E o false := by first | exact Wanted.guard rfl rfl rfl rfl | exact Wanted.undef rfl rfl rfl) (hq : QP Q := by exact inferInstance) (hsel : Region.noSelect ops = true := by kernel_rfl) (hf : Region.free .any ops listed i = true := by kernel_rfl) (hr : (Region.ready .any ops listed).contains i = true := by kernel_rfl) (hcl : closedB ops listed = true := by kernel_rfl)
    (hd : o.dst = some d := by exact rfl) (hn : Nat.blt d n = true := by exact rfl) : DR P n w0 S0 ops Q Lr (fuel + 1) listed E L := DR.pass i hi hl hq hsel hf hr hcl hd hn hw k
theorem DR.cp (i : Nat) (hi : ops[i]? = some o) (k : DR P n w0 S0 ops Q Lr fuel (listed.setIfInBounds i true) ((d, Go.undef) :: E) L)
    (hr : Region.ready .any ops listed = [i] := by kernel_rfl) (hw : Wanted n ops E o false := by first | exact Wanted.guard rfl rfl rfl rfl | exact Wanted.undef rfl rfl rfl)
    (hl : Lr.Sublist L ∨ tightB ops listed i = true := by first | exact .inl (List.Sublist.refl _) | exact .inl (List.nil_sublist _) | (refine .inl ?_; (repeat (first | exact List.nil_sublist _ | exact List.Sublist.refl _ | apply List.Sublist.cons_cons | apply List.Sublist.cons | apply Go.Vc.subApp)); done) | exact .inr (by kernel_rfl))
    (hd : o.dst = some d := by exact rfl) (hn : Nat.blt d n = true := by exact rfl) : DR P n w0 S0 ops Q Lr (fuel + 1) listed E L := DR.one hr (DOp.pass hi hl hd hn hw k)
theorem DR.c (i : Nat) (h : DOp P n w0 S0 ops Q Lr fuel listed E L i) (hr : Region.ready .any ops listed = [i] := by kernel_rfl) : DR P n w0 S0 ops Q Lr (fuel + 1) listed E L := DR.one hr h
theorem DOp.op1 {i : Nat} (hi : ops[i]? = some o) {Y : Type} {Ey : Y → Env} {Ly : Y → Hp} (h : OpTo P n w0 S0 Q E L o Ey Ly) (k : ∀ y, DR P n w0 S0 ops Q Lr fuel (listed.setIfInBounds i true) (Ey y) (Ly y))
    (hw : Wanted n ops E o true := by first | exact Wanted.plain rfl | exact Wanted.guard rfl rfl rfl rfl)
    (hl : (∀ y, Lr.Sublist (Ly y)) ∨ tightB ops listed i = true := by first | (refine .inl fun _ => ?_; (repeat (first | exact List.nil_sublist _ | exact List.Sublist.refl _ | apply List.Sublist.cons_cons | apply List.Sublist.cons | apply Go.Vc.subApp)); done) | exact .inr (by kernel_rfl)) :
    DOp P n w0 S0 ops Q Lr fuel listed E L i := DOp.op hi hw h hl k
theorem DOp.vl {i : Nat} (hi : ops[i]? = some o) (hv : Val P n w0 S0 E L o v) (k : DR P n w0 S0 ops Q Lr fuel (listed.setIfInBounds i true) ((d, v) :: E) L)
    (hw : Wanted n ops E o true := by first | exact Wanted.plain rfl | exact Wanted.guard rfl rfl rfl rfl)
    (hl : Lr.Sublist L ∨ tightB ops listed i = true := by first | exact .inl (List.Sublist.refl _) | exact .inl (List.nil_sublist _) | (refine .inl ?_; (repeat (first | exact List.nil_sublist _ | exact List.Sublist.refl _ | apply List.Sublist.cons_cons | apply List.Sublist.cons | apply Go.Vc.subApp)); done) | exact .inr (by kernel_rfl))
    (hd : o.dst = some d := by exact rfl) (hn : Nat.blt d n = true := by exact rfl) : DOp P n w0 S0 ops Q Lr fuel listed E L i := DOp.val hi hl hd hn hw hv k
theorem Val.ra {op : BinOp} {t1 t2 : Nat} {x y : Operand} {u v : Value} {k : IntKind} {z : Int} (ho : o.op = .binOp op t1 x y t2 := by exact rfl) (hx : lk E x = some u := by exact rfl) (hy : lk E y = some v := by exact rfl)
    (he : evAr op u v = some (k, z) := by exact rfl) (hz : inK k z := by dsimp only [inK]; omega) : Val P n w0 S0 E L o (.int k z) := Val.ar ho hx hy he hz
end
end Go.Vc
end
