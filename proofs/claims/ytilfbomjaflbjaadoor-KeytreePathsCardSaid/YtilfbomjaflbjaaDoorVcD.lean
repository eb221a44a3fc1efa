/- Effects, and regions that draw their order: what only reads is taken first; what is left comes up in whatever order. -/
import Derived.Test.YtilfbomjaflbjaaDoorVcE
import Derived.OrdersHeld
namespace Go.Vc
open Go

/-- Q does not ask, of a panic, what the slots hold. -/
class QP (Q : Exit → Act → World → Prop) : Prop where
  pan : ∀ c a d v w, Q (.panic c) (Act.put a d v) w → Q (.panic c) a w
instance {K : Act → World → Prop} {Q : Exit → Act → World → Prop} [h : QP Q] : QP (Exit.then K Q) := ⟨fun c a d v w => h.pan c a d v w⟩
instance {id : Nat} {Q : Exit → Act → World → Prop} [h : QP Q] : QP (Exit.inBlock id Q) := ⟨fun c a d v w => h.pan c a d v w⟩
instance {P : Program} {fn : Func} {R : Ending → World → Prop} : QP (bodyPost P fn R) := ⟨fun c a d v w => by
  cases d <;> exact id⟩

/-- m waits for k. -/
def edgeB (ops : Array Oper) (m k : Nat) : Bool := ((ops[m]?).map fun o => o.after.toList.any fun e => Region.binds .any e && Nat.beq e.on k).getD false
def tightGo (ops : Array Oper) (listed : Array Bool) : Nat → List Nat → Bool
  | 0, _ => true
  | k + 1, C => bif listed.getD k false then (C.any fun m => edgeB ops m k) && tightGo ops listed k (k :: C) else tightGo ops listed k C
/-- Number j waits for all that has come up, or for what waits for it. -/
def tightB (ops : Array Oper) (listed : Array Bool) (j : Nat) : Bool := tightGo ops listed listed.size [j]
theorem tightGo_spec {ops : Array Oper} {listed : Array Bool} {j : Nat} {R : Nat → Prop} (h0 : ∀ m, edgeB ops j m = true → R m) (h1 : ∀ m k, R m → edgeB ops m k = true → R k) :
    ∀ (n : Nat) (C : List Nat), (∀ c ∈ C, c = j ∨ R c) → tightGo ops listed n C = true → ∀ k, k < n → listed.getD k false = true → R k
  | 0, _, _, _, k, hk, _ => absurd hk (Nat.not_lt_zero k)
  | n + 1, C, hC, h, k, hk, hl => by
    unfold tightGo at h
    cases hn : listed.getD n false with
    | false =>
      simp only [hn, cond_false] at h
      have : k ≠ n := fun e => by rw [e, hn] at hl; cases hl
      exact tightGo_spec h0 h1 n C hC h k (by omega) hl
    | true =>
      simp only [hn, cond_true, Bool.and_eq_true, List.any_eq_true] at h
      obtain ⟨⟨m, hm, he⟩, h⟩ := h
      have hR : R n := by
        rcases hC m hm with rfl | hm
        · exact h0 n he
        · exact h1 m n hm he
      by_cases e : k = n
      · exact e ▸ hR
      · exact tightGo_spec h0 h1 n (n :: C) (fun c hc => by
          rcases List.mem_cons.1 hc with rfl | hc
          · exact .inr hR
          · exact hC c hc) h k (by omega) hl
theorem edgeB_spec {ops : Array Oper} {m k : Nat} (h : edgeB ops m k = true) : ∃ o, ops[m]? = some o ∧ ∃ e ∈ o.after, Region.binds .any e = true ∧ e.on = k := by
  unfold edgeB at h
  cases ho : ops[m]? with
  | none => rw [ho] at h; cases h
  | some o =>
    rw [ho] at h
    simp only [Option.map_some, Option.getD_some, List.any_eq_true, Bool.and_eq_true] at h
    obtain ⟨e, he, hb, hi⟩ := h
    exact ⟨o, rfl, e, by simpa using he, hb, Nat.eq_of_beq_eq_true hi⟩
/-- What has come up has come up behind what it waits for. -/
def Closed (ops : Array Oper) (listed : Array Bool) : Prop := ∀ m k, listed.getD m false = true → edgeB ops m k = true → listed.getD k false = true
def closedB (ops : Array Oper) (listed : Array Bool) : Bool :=
  ops.toList.zipIdx.all fun (o, m) => !listed.getD m false || o.after.toList.all fun e => !Region.binds .any e || listed.getD e.on false
theorem closedB_spec {ops : Array Oper} {listed : Array Bool} (h : closedB ops listed = true) : Closed ops listed := by
  intro m k hm he
  obtain ⟨o, ho, e, hmem, hb, rfl⟩ := edgeB_spec he
  unfold closedB at h
  rw [List.all_eq_true] at h
  have := h (o, m) (by rw [List.mem_zipIdx_iff_getElem?]; simpa using ho)
  simp only [hm, Bool.not_true, Bool.false_or, List.all_eq_true] at this
  have := this e (by simpa using hmem)
  simpa [hb] using this

/-- Whatever order is picked from here on; S holds till an operation comes up that waits for all that came up before it. -/
def wpAnyK (P : Program) (ops : Array Oper) (Q : Exit → Act → World → Prop) (S : World → Prop) : Nat → Array Bool → Act → World → Prop
  | 0, listed, a, w => Region.ready .any ops listed = [] ∧ Q .normal a w
  | fuel + 1, listed, a, w =>
    (Region.ready .any ops listed = [] → Q .normal a w) ∧
    ∀ i ∈ Region.ready .any ops listed, wpOp P ops Q i (fun a' w' => (S w' ∨ tightB ops listed i = true) ∧ wpAnyK P ops Q S fuel (listed.setIfInBounds i true) a' w') a w
section
variable {P : Program} {ops : Array Oper} {Q : Exit → Act → World → Prop} {S : World → Prop}
theorem wpAny_of_K : ∀ (fuel : Nat) (listed : Array Bool) (a : Act) (w : World), wpAnyK P ops Q S fuel listed a w → wpAny P .any ops Q fuel listed a w
  | 0, _, _, _, h => h
  | fuel + 1, _, _, _, h => ⟨h.1, fun i hi => wpOp_mono (fun a' w' h' => wpAny_of_K fuel _ a' w' h'.2) (h.2 i hi)⟩

theorem wpAnyK_first {i : Nat} {oi : Oper} {v : Value} (hi : ops[i]? = some oi) (hsel : ∀ (j : Nat) (o : Oper) cs b, ops[j]? = some o → o.op ≠ .select cs b)
    (hQ : ∀ c a w, Q (.panic c) (a.put oi.dst v) w → Q (.panic c) a w) : ∀ (fuel : Nat) (listed : Array Bool) (a : Act) (w : World),
      (∀ j oj, ops[j]? = some oj → j ≠ i → listed.getD j true = false → (∀ e ∈ oj.after, Region.binds .any e = true → e.on ≠ i) → oi.apart ops oj = true) →
      i ∈ Region.ready .any ops listed → Closed ops listed → YieldsIf P ops S oi v a → S w →
      wpAnyK P ops Q S fuel (listed.setIfInBounds i true) (a.put oi.dst v) w → wpAnyK P ops Q S (fuel + 1) listed a w := by
  intro fuel
  induction fuel with
  | zero =>
    intro listed a w _ hr _ hy hS H
    refine ⟨fun h => (by rw [h] at hr; cases hr), fun j hj => ?_⟩
    by_cases hji : j = i
    · subst hji; exact hy.wpOp hi hS ⟨.inl hS, H⟩
    · have := ready_mono hj hji
      rw [H.1] at this
      cases this
  | succ fuel ih =>
    intro listed a w hfree hr hcl hy hS H
    refine ⟨fun h => (by rw [h] at hr; cases hr), fun j hj => ?_⟩
    by_cases hji : j = i
    · subst hji; exact hy.wpOp hi hS ⟨.inl hS, H⟩
    · have h1 := H.2 j (ready_mono hj hji)
      obtain ⟨hjun, oj, hoj, hall⟩ := mem_ready.1 hj
      obtain ⟨hiun, oi', hoi', halli⟩ := mem_ready.1 hr
      have hnot : ∀ e ∈ oj.after, Region.binds .any e = true → e.on ≠ i := fun e he hb heq => by
        have h1 := hall e he hb
        rw [heq] at h1
        rcases Nat.lt_or_ge i listed.size with h' | h'
        · simp [h'] at hiun h1; rw [hiun] at h1; cases h1
        · simp [Array.getElem?_eq_none h'] at h1
      have h2 := wpOp_putIf (S := S) hoj (hfree j oj hoj hji hjun hnot) (fun cs b => hsel i oi cs b hi) (fun cs b => hsel j oj cs b hoj) hQ hy h1
      have hfree' : ∀ k ok, ops[k]? = some ok → k ≠ i → (listed.setIfInBounds j true).getD k true = false →
          (∀ e ∈ ok.after, Region.binds .any e = true → e.on ≠ i) → oi.apart ops ok = true := fun k ok hk hki hun hno => by
        refine hfree k ok hk hki ?_ hno
        by_cases hjk : j = k
        · subst hjk; exact hjun
        · rw [getD_set_ne true hjk] at hun; exact hun
      refine wpOp_mono (fun a' w' h3 => ?_) h2
      obtain ⟨hy', hS', h4⟩ := h3
      -- i is left and does not wait for j: so S holds behind j
      have hSw : S w' := by
        rcases hS' with h | h
        · exact h
        · exfalso
          have hin : (listed.setIfInBounds i true).getD i false = true := by
            have : i < listed.size := by
              rcases Nat.lt_or_ge i listed.size with h' | h'
              · exact h'
              · simp [Array.getElem?_eq_none h'] at hiun
            simp [this]
          have hsz : i < (listed.setIfInBounds i true).size := by
            rcases Nat.lt_or_ge i (listed.setIfInBounds i true).size with h' | h'
            · exact h'
            · simp [Array.getElem?_eq_none h'] at hin
          have := tightGo_spec (R := fun m => listed.getD m false = true) (fun m he => by
              obtain ⟨o', ho', e, hmem, hb, rfl⟩ := edgeB_spec he
              rw [hoj] at ho'
              cases ho'
              exact hall e hmem hb) (fun m k hm he => hcl m k hm he) _ [j] (fun c hc => .inl (List.mem_singleton.1 hc)) h i hsz hin
          rcases Nat.lt_or_ge i listed.size with h' | h'
          · simp [h'] at hiun this; rw [hiun] at this; cases this
          · simp [Array.getElem?_eq_none h'] at this
      have hcl' : Closed ops (listed.setIfInBounds j true) := by
        intro m k hm he
        by_cases hmj : j = m
        · subst hmj
          obtain ⟨o', ho', e, hmem, hb, rfl⟩ := edgeB_spec he
          rw [hoj] at ho'
          cases ho'
          exact getD_set_true (hall e hmem hb)
        · rw [getD_set_ne false hmj] at hm
          exact getD_set_true (hcl m k hm he)
      exact ⟨.inl hSw, ih (listed.setIfInBounds j true) a' w' hfree' (ready_mono hr (Ne.symm hji)) hcl' hy' hSw (by rw [Array.setIfInBounds_comm _ _ hji]; exact h4)⟩
end

section
variable (P : Program) (n : Nat) (w0 : World) (S0 : List Nat)
/-- What an operation with an effect comes to: some y, and what is then known. -/
def OpTo (Q : Exit → Act → World → Prop) (E : Env) (L : Hp) (o : Oper) {Y : Type} (Ey : Y → Env) (Ly : Y → Hp) : Prop :=
  ∀ a w, St n E a → Mem w0 S0 L w → ∀ K : Act → World → Prop, (∀ y a' w', St n (Ey y) a' → Mem w0 S0 (Ly y) w' → K a' w') → o.wp P a w K Q
def DR (ops : Array Oper) (Q : Exit → Act → World → Prop) (Lr : Hp) (fuel : Nat) (listed : Array Bool) (E : Env) (L : Hp) : Prop :=
  ∀ a w, St n E a → Mem w0 S0 L w → wpAnyK P ops Q (Mem w0 S0 Lr) fuel listed a w
def Wanted (ops : Array Oper) (E : Env) (o : Oper) (b : Bool) : Prop := ∀ a, St n E a → Region.wanted o (yielded ops a.tmps) = b
end

section
variable {P : Program} {n : Nat} {w0 : World} {S0 : List Nat} {Q : Exit → Act → World → Prop} {E : Env} {L Lr : Hp} {ops : Array Oper} {o : Oper} {d : Nat} {fuel : Nat} {listed : Array Bool} {T : List (Nat × TI)} {t : Nat} {ti : TI}

theorem Wanted.plain (hg : o.guard = none) : Wanted n ops E o true := fun a _ => by simp [Region.wanted, hg]
theorem St.slot {a : Act} (h : St n E a) {j : Nat} {v : Value} (he : E.get j = some v) (hu : ∀ cs, v ≠ .tuple cs) : a.tmps[j]? = some v := by
  have := h.env j v he
  rw [Array.getD_eq_getD_getElem?] at this
  cases hj : a.tmps[j]? with
  | none => rw [hj] at this; exact absurd this.symm (hu #[])
  | some u => rw [hj] at this; simpa using this
theorem Wanted.guard {j dj : Nat} {want t b : Bool} (hg : o.guard = some (j, want)) (hj : (ops[j]?).bind (·.dst) = some dj) (he : E.get dj = some (.bool t)) (ht : (t == want) = b) : Wanted n ops E o b := fun a hs => by
  have := hs.slot he (fun _ h => by cases h)
  simp only [Region.wanted, hg, yielded, hj, Option.bind_some, this]
  cases t <;> cases want <;> simp_all
theorem Wanted.undef {j dj : Nat} {want : Bool} (hg : o.guard = some (j, want)) (hj : (ops[j]?).bind (·.dst) = some dj) (he : E.get dj = some Go.undef) : Wanted n ops E o false := fun a hs => by
  have := hs.env dj _ he
  rw [Array.getD_eq_getD_getElem?] at this
  simp only [Region.wanted, hg, yielded, hj, Option.bind_some]
  cases hx : a.tmps[dj]? with
  | none => simp
  | some u =>
    rw [hx] at this
    simp only [Option.getD_some] at this
    subst this
    simp [Go.undef]

theorem RC.draw {id N : Nat} (Lr : Hp) (hm : P.follows .mixedOrders = true) (hN : ops.size = N) (h : DR P n w0 S0 ops Q Lr N (Array.replicate N false) E L) : RC P n w0 S0 (.region id ops true) Q E L :=
  fun a w hs hmem => wp_region_any hm (wpAny_of_K (S := Mem w0 S0 Lr) _ _ _ _ (by rw [hN]; exact h a _ hs (hmem.ext (Fr.drew w))))

theorem RC.drawS {id N : Nat} (hm : P.follows .mixedOrders = true) (hN : ops.size = N) (h : DR P n w0 S0 ops Q L N (Array.replicate N false) E L) : RC P n w0 S0 (.region id ops true) Q E L := RC.draw L hm hN h

theorem DR.take (i : Nat) (hi : ops[i]? = some o) (hl : Lr.Sublist L) (hq : QP Q) (hsel : Region.noSelect ops = true) (hf : Region.free .any ops listed i = true) (hr : (Region.ready .any ops listed).contains i = true) (hcl : closedB ops listed = true)
    (hd : o.dst = some d) (hn : Nat.blt d n = true) (hw : Wanted n ops E o true) {v : Value} (hv : Val P n w0 S0 E Lr o v)
    (k : DR P n w0 S0 ops Q Lr fuel (listed.setIfInBounds i true) ((d, v) :: E) L) : DR P n w0 S0 ops Q Lr (fuel + 1) listed E L := by
  intro a w hs hm
  refine wpAnyK_first (v := v) hi (Region.noSelect_spec hsel) (fun c a w h => hq.pan c a o.dst v w h) _ _ _ _ (Region.free_spec hi hf) (by simpa using hr) (closedB_spec hcl) (.inl ⟨hw a hs, fun w hw => hv a w hs hw⟩) (hm.sublist hl) ?_
  rw [hd]
  exact k _ _ (hs.put hn v) hm
theorem DR.pass (i : Nat) (hi : ops[i]? = some o) (hl : Lr.Sublist L) (hq : QP Q) (hsel : Region.noSelect ops = true) (hf : Region.free .any ops listed i = true) (hr : (Region.ready .any ops listed).contains i = true) (hcl : closedB ops listed = true)
    (hd : o.dst = some d) (hn : Nat.blt d n = true) (hw : Wanted n ops E o false)
    (k : DR P n w0 S0 ops Q Lr fuel (listed.setIfInBounds i true) ((d, Go.undef) :: E) L) : DR P n w0 S0 ops Q Lr (fuel + 1) listed E L := by
  intro a w hs hm
  refine wpAnyK_first (v := Go.undef) hi (Region.noSelect_spec hsel) (fun c a w h => hq.pan c a o.dst _ w h) _ _ _ _ (Region.free_spec hi hf) (by simpa using hr) (closedB_spec hcl) (.inr ⟨hw a hs, rfl⟩) (hm.sublist hl) ?_
  rw [hd]
  exact k _ _ (hs.put hn _) hm

/-- Number i comes up now. -/
def DOp (P : Program) (n : Nat) (w0 : World) (S0 : List Nat) (ops : Array Oper) (Q : Exit → Act → World → Prop) (Lr : Hp) (fuel : Nat) (listed : Array Bool) (E : Env) (L : Hp) (i : Nat) : Prop :=
  ∀ a w, St n E a → Mem w0 S0 L w → wpOp P ops Q i (fun a' w' => (Mem w0 S0 Lr w' ∨ tightB ops listed i = true) ∧ wpAnyK P ops Q (Mem w0 S0 Lr) fuel (listed.setIfInBounds i true) a' w') a w
theorem DR.all {rs : List Nat} (hr : Region.ready .any ops listed = rs) (hne : rs ≠ []) (h : ∀ i ∈ rs, DOp P n w0 S0 ops Q Lr fuel listed E L i) : DR P n w0 S0 ops Q Lr (fuel + 1) listed E L :=
  fun a w hs hm => ⟨fun h0 => absurd (hr ▸ h0) hne, hr ▸ fun i hi => h i hi a w hs hm⟩
theorem DR.one {i : Nat} (hr : Region.ready .any ops listed = [i]) (h : DOp P n w0 S0 ops Q Lr fuel listed E L i) : DR P n w0 S0 ops Q Lr (fuel + 1) listed E L :=
  DR.all hr (by simp) (by simpa using h)
theorem DR.done (hr : Region.ready .any ops listed = []) (h : RQ n w0 S0 .normal Q E L) : DR P n w0 S0 ops Q Lr fuel listed E L :=
  fun a w hs hm => by
    cases fuel with
    | zero => exact ⟨hr, h a w hs hm⟩
    | succ fuel => exact ⟨fun _ => h a w hs hm, by rw [hr]; simp⟩
theorem DOp.op {i : Nat} (hi : ops[i]? = some o) (hw : Wanted n ops E o true) {Y : Type} {Ey : Y → Env} {Ly : Y → Hp} (h : OpTo P n w0 S0 Q E L o Ey Ly) (hl : (∀ y, Lr.Sublist (Ly y)) ∨ tightB ops listed i = true)
    (k : ∀ y, DR P n w0 S0 ops Q Lr fuel (listed.setIfInBounds i true) (Ey y) (Ly y)) : DOp P n w0 S0 ops Q Lr fuel listed E L i := by
  intro a w hs hm
  unfold wpOp
  simp only [hi, hw a hs, if_true]
  exact .inl (h a w hs hm _ fun y a' w' hs' hm' => ⟨hl.imp (fun hl => hm'.sublist (hl y)) id, k y a' w' hs' hm'⟩)
theorem DOp.val {i : Nat} (hi : ops[i]? = some o) (hl : Lr.Sublist L ∨ tightB ops listed i = true) (hd : o.dst = some d) (hn : Nat.blt d n = true) (hw : Wanted n ops E o true) {v : Value} (hv : Val P n w0 S0 E L o v)
    (k : DR P n w0 S0 ops Q Lr fuel (listed.setIfInBounds i true) ((d, v) :: E) L) : DOp P n w0 S0 ops Q Lr fuel listed E L i := by
  refine DOp.op hi hw (Y := Unit) (Ey := fun _ => (d, v) :: E) (Ly := fun _ => L) ?_ (hl.imp (fun hl _ => hl) id) (fun _ => k)
  intro a w hs hm K hK
  simp only [Oper.wp, hv a w hs hm, Oper.upon_value, hd]
  exact hK () _ _ (hs.put hn v) hm
theorem DOp.pass {i : Nat} (hi : ops[i]? = some o) (hl : Lr.Sublist L ∨ tightB ops listed i = true) (hd : o.dst = some d) (hn : Nat.blt d n = true) (hw : Wanted n ops E o false)
    (k : DR P n w0 S0 ops Q Lr fuel (listed.setIfInBounds i true) ((d, Go.undef) :: E) L) : DOp P n w0 S0 ops Q Lr fuel listed E L i := by
  intro a w hs hm
  unfold wpOp
  simp only [hi, hw a hs, Bool.false_eq_true, if_false]
  rw [hd]
  exact ⟨hl.imp (fun hl => hm.sublist hl) id, k _ _ (hs.put hn _) hm⟩

theorem Run.op {l rest : List Oper} (hg : o.guard = none) {Y : Type} {Ey : Y → Env} {Ly : Y → Hp} (h : OpTo P n w0 S0 Q E L o Ey Ly)
    (k : ∀ y, Run P n w0 S0 l.toArray Q rest (Ey y) (Ly y)) : Run P n w0 S0 l.toArray Q (o :: rest) E L :=
  fun a w hs hm => wpList_plain hg fun K hK => h a w hs hm K fun y a' w' hs' hm' => hK _ _ (k y a' w' hs' hm')

theorem OpTo.val (hd : o.dst = some d) (hn : Nat.blt d n = true) {v : Value} (hv : Val P n w0 S0 E L o v) : OpTo P n w0 S0 Q E L o (Y := Unit) (fun _ => (d, v) :: E) (fun _ => L) := by
  intro a w hs hm K hK
  simp only [Oper.wp, hv a w hs hm, Oper.upon_value, hd]
  exact hK () _ _ (hs.put hn v) hm
theorem OpTo.new (hd : o.dst = some d) (hn : Nat.blt d n = true) {V : Nat → Value} {ob : Obj} (h : New P n w0 S0 E L o V ob) : OpTo P n w0 S0 Q E L o (fun b : Nat => (d, V b) :: E) (fun b => (b, ob) :: L) := by
  intro a w hs hm K hK
  obtain ⟨w1, hf, hz, hr⟩ := h a w hs hm
  simp only [Oper.wp, hr, Oper.upon_value, hd]
  have := (hm.ext hf).alloc ob
  rw [hz] at this
  exact hK _ _ _ (hs.put hn _) this
theorem OpTo.call {f : FuncId} {xs : List Operand} {ts : Array TypeId} {fn : Func} {vs : List Value} (hf : P.funcs[f]? = some fn) (hd : o.dst = some d) (hn : Nat.blt d n = true)
    (ho : o.op = .call { callee := .value (.func f), args := xs.toArray, argTypes := ts }) (hnm : (fn.name == "runtime.NumGoroutine") = false) (hb : fn.body.isNone = false)
    (hx : lkAll E xs = some vs) {Y : Type} {V : Y → Value} {L' : Y → Hp}
    (hc : ∀ w, Mem w0 S0 L w → Calls P f vs.toArray w fun e w' => ∃ y, e = .returned (V y) ∧ Mem w0 S0 (L' y) w') : OpTo P n w0 S0 Q E L o (fun y => (d, V y) :: E) L' := by
  intro a w hs hm K hK
  simp only [Oper.wp, run_call hs ho hf hnm hb hx, Oper.upon_enter]
  refine (hc w hm).mono ?_
  rintro e w' ⟨y, rfl, hm'⟩
  simp only [hd]
  exact hK y _ _ (hs.put hn _) hm'
theorem OpTo.callV {f : FuncId} {xs : List Operand} {ts : Array TypeId} {fn : Func} {vs : List Value} {v : Value} (hf : P.funcs[f]? = some fn) (hd : o.dst = some d) (hn : Nat.blt d n = true)
    (ho : o.op = .call { callee := .value (.func f), args := xs.toArray, argTypes := ts }) (hnm : (fn.name == "runtime.NumGoroutine") = false) (hb : fn.body.isNone = false)
    (hx : lkAll E xs = some vs) (hc : ∀ w, Mem w0 S0 L w → Gives P f vs v w) : OpTo P n w0 S0 Q E L o (Y := Unit) (fun _ => (d, v) :: E) (fun _ => L) :=
  OpTo.call (V := fun _ => v) hf hd hn ho hnm hb hx (fun w hm => (hc w hm).mono (by rintro e w' ⟨rfl, hfr⟩; exact ⟨(), rfl, hm.ext hfr⟩))
/-- An operation that leaves nothing and writes the block b. -/
theorem OpTo.put (hd : o.dst = none) {b : Nat} {ob ob' : Obj} {L' : Hp} (hL : L.Perm ((b, ob) :: L'))
    (hr : ∀ a w, St n E a → w.heap[b]? = some ob → ∃ w', (execOp a.eval o).run P w = .ok .skip w' ∧ Fr [b] w w' ∧ w'.heap[b]? = some ob') :
    OpTo P n w0 S0 Q E L o (Y := Unit) (fun _ => E) (fun _ => (b, ob') :: L') := by
  intro a w hs hm K hK
  have hm' := hm.perm hL
  obtain ⟨w', hr, hf, hb⟩ := hr a w hs (hm'.has _ (List.mem_cons_self))
  simp only [Oper.wp, hr, Oper.upon_skip, hd]
  exact hK () _ _ hs (hm'.write hf hb)
theorem OpTo.store (hT : TabOk P T) (hd : o.dst = none) {x y : Operand} {b off : Nat} {arr : Array Value} {e : TypeId} {v : Value} {L' : Hp} (ho : o.op = .store t x y) (ht : tiGet T t = some ti)
    (hx : lk E x = some (.pointer (some ⟨b, off, none⟩))) (hy : lk E y = some v) (hL : L.Perm ((b, .cells arr e (0, 0)) :: L'))
    (hs : v.cells.size = ti.size) (hf : off + ti.size ≤ arr.size) (h1 : ∀ u ∈ v.cells.toList, u.oneCell' = true) :
    OpTo P n w0 S0 Q E L o (Y := Unit) (fun _ => E) (fun _ => (b, .cells (wrAt arr off v.cells.toList) e (0, 0)) :: L') :=
  OpTo.put hd hL (fun a w hst hb => by
    refine ⟨w.setRow b (wrAt arr off v.cells.toList), ?_, Fr.setRow _ _ _, setRow_heap w b arr _ e _ hb⟩
    have := run_storeVar_at (P := P) (hT _ _ ht) w hb hs hf h1
    simp [execOp, ho, hst.eval hx, hst.eval hy, Instr.storeAt, Instr.sureAddr, this])
end
end Go.Vc
