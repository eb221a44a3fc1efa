/- Lemmas. -/
import Derived.Lib.SliceRun
import Derived.Test.YtfoeakgnkfcbjaaGreatDoorPt05
set_option linter.unusedSimpArgs false
set_option linter.unusedVariables false
section
/- Steps that find their rule by themselves; values that hang on blocks of their own; calls that turn blocks. -/
namespace Go.Sha
theorem len8 {l : List Nat} (h : l.length = 8) : ∃ a b c d e f g i, l = [a, b, c, d, e, f, g, i] := by
  match l, h with
  | [a, b, c, d, e, f, g, i], _ => exact ⟨a, b, c, d, e, f, g, i, rfl⟩
/-- Rows of records. -/
def rws {α : Type} (c : α → List Go.Value) (l : List α) : List Go.Value := (l.map c).flatten
section
variable {α : Type} {c : α → List Go.Value} {sz : Nat}
theorem rws_app (a b : List α) : rws c (a ++ b) = rws c a ++ rws c b := by simp [rws]
theorem rws_one (a : α) : rws c [a] = c a := by simp [rws]
theorem rws_len (hc : ∀ a, (c a).length = sz) : ∀ (l : List α), (rws c l).length = l.length * sz
  | [] => by simp [rws]
  | s :: l => by
    have := rws_len hc l
    unfold rws at this ⊢
    rw [List.map_cons, List.flatten_cons, List.length_append, this, hc, List.length_cons, Nat.add_mul]
    omega
theorem rws_split (hc : ∀ a, (c a).length = sz) {l : List α} {i : Nat} {s : α} (h : l[i]? = some s) : rws c l = rws c (l.take i) ++ c s ++ rws c (l.drop (i + 1)) ∧ (rws c (l.take i)).length = i * sz := by
  have hi := (List.getElem?_eq_some_iff.1 h).1
  have h2 := (List.getElem?_eq_some_iff.1 h).2
  refine ⟨?_, by rw [rws_len hc, List.length_take, Nat.min_eq_left (by omega)]⟩
  conv => lhs; rw [← List.take_append_drop i l, List.drop_eq_getElem_cons hi, h2]
  rw [show l.take i ++ s :: l.drop (i + 1) = l.take i ++ [s] ++ l.drop (i + 1) from by simp, rws_app, rws_app, rws_one]
theorem rws_at (hc : ∀ a, (c a).length = sz) {l : List α} {i : Nat} {s : α} (h : l[i]? = some s) : ∀ j u, (c s)[j]? = some u → (rws c l)[i * sz + j]? = some u := by
  intro j u hj
  obtain ⟨e, hl⟩ := rws_split hc h
  have hjl := (List.getElem?_eq_some_iff.1 hj).1
  rw [e, List.append_assoc, List.getElem?_append_right (by omega), hl, Nat.add_sub_cancel_left, List.getElem?_append_left hjl]
  exact hj
end
end Go.Sha
namespace Go.Vc
open Go
theorem wr_mid' (pre old new post : List Value) (h : old.length = new.length) (off : Nat) (ho : off = pre.length) : wrAt (pre ++ old ++ post).toArray off new = (pre ++ new ++ post).toArray := by
  subst ho
  unfold wrAt
  have e1 : (pre ++ old ++ post).toArray.toList = pre ++ (old ++ post) := by simp
  rw [e1, List.take_left, ← List.drop_drop, List.drop_left, ← h, List.drop_left]
theorem perm_of {α : Type} {a b : List α} (h : ∀ f : α → Nat, (a.map f).sum = (b.map f).sum) : a.Perm b := by
  classical
  rw [List.perm_iff_count]
  intro x
  have h1 := h (fun y => if y == x then 1 else 0)
  have e : ∀ l : List α, (l.map fun y => if y == x then 1 else 0).sum = l.count x := by
    intro l
    induction l with
    | nil => rfl
    | cons y l ih => rw [List.map_cons, List.sum_cons, List.count_cons, ih, Nat.add_comm]
  rw [e, e] at h1
  exact h1
def Has (bl : Hp) (w : World) : Prop := ∀ p ∈ bl, w.heap[p.1]? = some p.2
theorem Has.left {a b : Hp} {w : World} (h : Has (a ++ b) w) : Has a w := fun p hp => h p (List.mem_append_left _ hp)
theorem Has.right {a b : Hp} {w : World} (h : Has (a ++ b) w) : Has b w := fun p hp => h p (List.mem_append_right _ hp)
theorem Has.sub {a b : Hp} {w : World} (h : Has b w) (k : ∀ p ∈ a, p ∈ b) : Has a w := fun p hp => h p (k p hp)
theorem Has.fr {a : Hp} {w w' : World} (h : Has a w) (hf : Fr [] w w') : Has a w' := fun p hp => (hf.block p.1 (Array.getElem?_eq_some_iff.1 (h p hp)).1 (by simp)).trans (h p hp)
theorem SrcW.one {w : World} {sz : Nat} {v : Value} {n : Nat} {cs : List Value} (h : SrcW w sz v n cs) : v.oneCell' = true := by cases h <;> rfl

/-- It turns the blocks Lst into L'. -/
def Turns (P : Program) (f : FuncId) (vs : List Value) (w : World) (Lst : Hp) {Y : Type} (V : Y → Value) (L' : Y → Hp) : Prop :=
  Calls P f vs.toArray w fun e w' => ∃ y, e = .returned (V y) ∧ Fr (Lst.map (·.1)) w w' ∧ Has (L' y) w' ∧ (∀ p ∈ L' y, w.heap.size ≤ p.1 ∨ p.1 ∈ Lst.map (·.1)) ∧ ((L' y).map (·.1)).Nodup
section
variable {P : Program} {n : Nat} {w0 : World} {S0 : List Nat} {Q : Exit → Act → World → Prop} {E : Env} {L : Hp} {o : Oper} {d : Nat} {T : List (Nat × TI)} {t : Nat} {ti : TI} {ops : Array Oper} {l rest : List Oper}
theorem Turns.join {w w' : World} {Lst Lr L1 : Hp} (hm : Mem w0 S0 L w) (hL : L.Perm (Lst ++ Lr)) (hfr : Fr (Lst.map (·.1)) w w') (hbl : Has L1 w') (hnew : ∀ p ∈ L1, w.heap.size ≤ p.1 ∨ p.1 ∈ Lst.map (·.1)) (hnd : (L1.map (·.1)).Nodup) : Mem w0 S0 (L1 ++ Lr) w' := by
  have hm' := hm.perm hL
  have hnd' := hm'.nd
  rw [List.map_append] at hnd'
  have hdis := (List.nodup_append.1 hnd').2.2
  have hown : ∀ p ∈ Lst, w0.heap.size ≤ p.1 ∨ p.1 ∈ S0 := fun p hp => hm'.own p (List.mem_append_left _ hp)
  have hlr : ∀ p ∈ Lr, p.1 ∉ Lst.map (·.1) := fun p hp hin => hdis p.1 hin p.1 (List.mem_map_of_mem hp) rfl
  refine ⟨⟨hfr.os.trans hm.fr.os, hfr.tape.trans hm.fr.tape, hfr.output.trans hm.fr.output, Nat.le_trans hm.fr.size hfr.size, ?_⟩, ?_, ?_, ?_⟩
  · intro k hk hs
    refine (hfr.block k (Nat.lt_of_lt_of_le hk hm.fr.size) ?_).trans (hm.fr.block k hk hs)
    intro hin
    obtain ⟨p, hp, rfl⟩ := List.mem_map.1 hin
    rcases hown p hp with h | h
    · omega
    · exact hs h
  · intro p hp
    rcases List.mem_append.1 hp with hp | hp
    · exact hbl p hp
    · exact (hfr.block p.1 (hm'.lt (List.mem_append_right _ hp)) (hlr p hp)).trans (hm'.has p (List.mem_append_right _ hp))
  · intro p hp
    rcases List.mem_append.1 hp with hp | hp
    · rcases hnew p hp with h | h
      · exact .inl (Nat.le_trans hm.fr.size h)
      · obtain ⟨q, hq, hqe⟩ := List.mem_map.1 h
        rw [← hqe]; exact hown q hq
    · exact hm'.own p (List.mem_append_right _ hp)
  · rw [List.map_append]
    refine List.nodup_append.2 ⟨hnd, (List.nodup_append.1 hnd').2.1, ?_⟩
    intro a ha b hb e
    obtain ⟨p, hp, rfl⟩ := List.mem_map.1 ha
    obtain ⟨q, hq, rfl⟩ := List.mem_map.1 hb
    rcases hnew p hp with h | h
    · have := hm'.lt (List.mem_append_right _ hq)
      omega
    · exact hlr q hq (e ▸ h)
theorem OpTo.callT {f : FuncId} {xs : List Operand} {ts : Array TypeId} {fn : Func} {vs : List Value} {Lst Lr : Hp} (hf : P.funcs[f]? = some fn) {Y : Type} {V : Y → Value} {L' : Y → Hp} (hL : L.Perm (Lst ++ Lr))
    (hc : ∀ w, Mem w0 S0 L w → Turns P f vs w Lst V L')
    (hd : o.dst = some d := by exact rfl) (hn : Nat.blt d n = true := by exact rfl)
    (ho : o.op = .call { callee := .value (.func f), args := xs.toArray, argTypes := ts } := by exact rfl) (hnm : (fn.name == "runtime.NumGoroutine") = false := by exact rfl) (hb : fn.body.isNone = false := by exact rfl)
    (hx : lkAll E xs = some vs := by exact rfl) : OpTo P n w0 S0 Q E L o (fun y => (d, V y) :: E) (fun y => L' y ++ Lr) :=
  OpTo.call (V := V) (L' := fun y => L' y ++ Lr) hf hd hn ho hnm hb hx (fun w hm => (hc w hm).mono (by
    rintro e' w' ⟨y, rfl, hfr, hbl, hnew, hnd⟩
    exact ⟨y, rfl, Turns.join hm hL hfr hbl hnew hnd⟩))
/-- What is turned lies among the blocks at the end. -/
theorem Turns.of {Y : Type} {V : Y → Value} {L' : Y → Hp} {Lst L1 Lr : Hp} {w : World} (y : Y) (hm : Mem w0 (Lst.map (·.1)) L1 w) (hp : L1.Perm (L' y ++ Lr)) :
    ∃ y', Ending.returned (V y) = .returned (V y') ∧ Fr (Lst.map (·.1)) w0 w ∧ Has (L' y') w ∧ (∀ p ∈ L' y', w0.heap.size ≤ p.1 ∨ p.1 ∈ Lst.map (·.1)) ∧ ((L' y').map (·.1)).Nodup :=
  have h := hm.perm hp
  ⟨y, rfl, h.fr, fun p hp => h.has p (List.mem_append_left _ hp), fun p hp => h.own p (List.mem_append_left _ hp), by have := h.nd; rw [List.map_append] at this; exact (List.nodup_append.1 this).1⟩
theorem Run.lit {j dj : Nat} {want b : Bool} (k : Run P n w0 S0 l.toArray Q (o :: rest) E L) (_hg : o.guard = some (j, want) := by exact rfl) (_hj : (l.toArray[j]?).bind (·.dst) = some dj := by exact rfl) (_he : E.get dj = some (.bool b) := by exact rfl) (_hb : b = true ∨ b = false := by first | exact .inl rfl | exact .inr rfl) :
    Run P n w0 S0 l.toArray Q (o :: rest) E L := k
/-- The flag of a guard, where it is known what it is. -/
theorem Run.gT {j dj : Nat} {want b : Bool} (k : Run P n w0 S0 l.toArray Q (o :: rest) ((dj, .bool true) :: E) L) (hg : o.guard = some (j, want) := by exact rfl) (hj : (l.toArray[j]?).bind (·.dst) = some dj := by exact rfl) (he : E.get dj = some (.bool b) := by exact rfl) (hb : b = true := by (first | assumption | exact decide_eq_true (by omega) | (simp only [cond_true, cond_false, Bool.not_eq_true', Bool.not_eq_false', Bool.not_true, Bool.not_false, decide_eq_true_eq, decide_eq_false_iff_not, Bool.true_and, Bool.and_true, Bool.or_false, Bool.false_or]; first | assumption | omega))) :
    Run P n w0 S0 l.toArray Q (o :: rest) E L := Run.split dj he (fun _ => k) (fun h => by rw [hb] at h; cases h)
theorem Run.gF {j dj : Nat} {want b : Bool} (k : Run P n w0 S0 l.toArray Q (o :: rest) ((dj, .bool false) :: E) L) (hg : o.guard = some (j, want) := by exact rfl) (hj : (l.toArray[j]?).bind (·.dst) = some dj := by exact rfl) (he : E.get dj = some (.bool b) := by exact rfl) (hb : b = false := by (first | assumption | exact decide_eq_false (by omega) | (simp only [cond_true, cond_false, Bool.not_eq_true', Bool.not_eq_false', Bool.not_true, Bool.not_false, decide_eq_true_eq, decide_eq_false_iff_not, Bool.true_and, Bool.and_true, Bool.or_false, Bool.false_or]; first | assumption | omega))) :
    Run P n w0 S0 l.toArray Q (o :: rest) E L := Run.split dj he (fun h => by rw [hb] at h; cases h) (fun _ => k)
theorem RC.cT {c : Operand} {x y : Code} {t : Bool} (k : RC P n w0 S0 x Q E L) (hc : lk E c = some (.bool t) := by exact rfl) (hb : t = true := by (first | assumption | exact decide_eq_true (by omega) | (simp only [cond_true, cond_false, Bool.not_eq_true', Bool.not_eq_false', Bool.not_true, Bool.not_false, decide_eq_true_eq, decide_eq_false_iff_not, Bool.true_and, Bool.and_true, Bool.or_false, Bool.false_or]; first | assumption | omega))) : RC P n w0 S0 (.cond c x y) Q E L := RC.condT hc hb k
theorem RC.cF {c : Operand} {x y : Code} {t : Bool} (k : RC P n w0 S0 y Q E L) (hc : lk E c = some (.bool t) := by exact rfl) (hb : t = false := by (first | assumption | exact decide_eq_false (by omega) | (simp only [cond_true, cond_false, Bool.not_eq_true', Bool.not_eq_false', Bool.not_true, Bool.not_false, decide_eq_true_eq, decide_eq_false_iff_not, Bool.true_and, Bool.and_true, Bool.or_false, Bool.false_or]; first | assumption | omega))) : RC P n w0 S0 (.cond c x y) Q E L := RC.condF hc hb k
theorem Val.rmn {t1 t2 : Nat} {x y : Operand} {k k2 : IntKind} {a m : Nat} (ho : o.op = .binOp .rem t1 x y t2 := by exact rfl) (hx : lk E x = some (.int k (a : Int)) := by exact rfl) (hy : lk E y = some (.int k2 (m : Int)) := by exact rfl) (hk : k = k2 := by exact rfl) (hm : 0 < m := by first | decide | omega) : Val P n w0 S0 E L o (.int k ((a % m : Nat) : Int)) := Val.remN ho hx hy hk hm
theorem Val.qun {t1 t2 : Nat} {x y : Operand} {k k2 : IntKind} {a m : Nat} (ho : o.op = .binOp .quo t1 x y t2 := by exact rfl) (hx : lk E x = some (.int k (a : Int)) := by exact rfl) (hy : lk E y = some (.int k2 (m : Int)) := by exact rfl) (hk : k = k2 := by exact rfl) (hm : 0 < m := by first | decide | omega) (hz : inK k (a : Int) := by dsimp only [inK]; omega) : Val P n w0 S0 E L o (.int k ((a / m : Nat) : Int)) := Val.quoN ho hx hy hk hm hz
/-- Numbers that are known to be the same. -/
theorem Val.nes {t1 t2 : Nat} {x y : Operand} {k : IntKind} {a b : Int} (ho : o.op = .binOp .neq t1 x y t2 := by exact rfl) (hx : lk E x = some (.int k a) := by exact rfl) (hy : lk E y = some (.int k b) := by exact rfl) (hab : a = b := by first | exact rfl | omega) : Val P n w0 S0 E L o (.bool false) := by
  subst hab
  refine Val.of ?_
  rw [ho]
  simp [ev, hx, hy, evBin]
theorem Val.eqs {t1 t2 : Nat} {x y : Operand} {k : IntKind} {a b : Int} (ho : o.op = .binOp .eql t1 x y t2 := by exact rfl) (hx : lk E x = some (.int k a) := by exact rfl) (hy : lk E y = some (.int k b) := by exact rfl) (hab : a = b := by first | exact rfl | omega) : Val P n w0 S0 E L o (.bool true) := by
  subst hab
  refine Val.of ?_
  rw [ho]
  simp [ev, hx, hy, evBin]
/-- Numbers that are known to differ. -/
theorem Val.eqf {t1 t2 : Nat} {x y : Operand} {k : IntKind} {a b : Int} (ho : o.op = .binOp .eql t1 x y t2 := by exact rfl) (hx : lk E x = some (.int k a) := by exact rfl) (hy : lk E y = some (.int k b) := by exact rfl) (hab : a ≠ b := by first | decide | omega) : Val P n w0 S0 E L o (.bool false) := by
  refine Val.of ?_
  rw [ho]
  simp [ev, hx, hy, evBin, hab]
theorem Val.nef {t1 t2 : Nat} {x y : Operand} {k : IntKind} {a b : Int} (ho : o.op = .binOp .neq t1 x y t2 := by exact rfl) (hx : lk E x = some (.int k a) := by exact rfl) (hy : lk E y = some (.int k b) := by exact rfl) (hab : a ≠ b := by first | decide | omega) : Val P n w0 S0 E L o (.bool true) := by
  refine Val.of ?_
  rw [ho]
  simp [ev, hx, hy, evBin, hab]
/-- A call with known value. -/
theorem OpTo.cv {f : FuncId} {xs : List Operand} {ts : Array TypeId} {fn : Func} {vs : List Value} {v : Value} (hf : P.funcs[f]? = some fn) (hc : ∀ w, Mem w0 S0 L w → Gives P f vs v w)
    (hd : o.dst = some d := by exact rfl) (hn : Nat.blt d n = true := by exact rfl)
    (ho : o.op = .call { callee := .value (.func f), args := xs.toArray, argTypes := ts } := by exact rfl) (hnm : (fn.name == "runtime.NumGoroutine") = false := by exact rfl) (hb : fn.body.isNone = false := by exact rfl)
    (hx : lkAll E xs = some vs := by exact rfl) : OpTo P n w0 S0 Q E L o (Y := Unit) (fun _ => (d, v) :: E) (fun _ => L) := OpTo.callV hf hd hn ho hnm hb hx hc
theorem fillS_1 (sz : Nat) (z : Array Value) (cs : List Value) (h : cs.length = sz) : fillS sz 1 z #[(0, .agg cs.toArray)] = some cs.toArray := by
  have := fillS_full sz 1 z [.agg cs.toArray] rfl (fun v hv => by rw [List.mem_singleton] at hv; subst hv; simpa [Value.cells] using h)
  simpa [List.flatMap, Value.cells] using this
theorem memA {α : Type} {x : α} {bl r : List α} : x ∈ bl ++ x :: r := List.mem_append_right _ List.mem_cons_self
theorem memA1 {α : Type} {x a : α} {bl r : List α} : x ∈ bl ++ a :: x :: r := List.mem_append_right _ (List.mem_cons_of_mem _ List.mem_cons_self)
theorem memB {α : Type} {x : α} {a bl r : List α} : x ∈ a ++ (bl ++ x :: r) := List.mem_append_right _ memA
end
end Go.Vc
namespace Go.Proofs.YtfoeakgnkfcbjaaGreatDoor
open Go Go.Vc Go.Sha
section
variable {n : Nat} {w0 : World} {S0 : List Nat} {Q : Exit → Act → World → Prop} {E : Env} {L : Hp} {o : Oper} {d t : Nat} {ti : TI}
theorem vf {x : Operand} {b off i el off' bo : Nat} {em : Bool} {nm tg pp : String} {fs : Array Field} {ei : TI} (ho : o.op = .fieldAddr t x i := by exact rfl) (ht : tiGet tab t = some ti := by exact rfl) (hd : ti.desc = .struct fs := by exact rfl) (hf : fs[i]? = some ⟨nm, el, off', em, tg, pp, bo⟩ := by exact rfl) (he : tiGet tab el = some ei := by exact rfl)
    (hz : Nat.beq ei.size 0 = false := by exact rfl) (hx : lk E x = some (.pointer (some ⟨b, off, none⟩)) := by exact rfl) : Val Tryz.prog n w0 S0 E L o (.pointer (some ⟨b, off + off', none⟩)) := Val.fieldAddr tabOk ho ht hd hf rfl he hz hx
theorem vf0 {x : Operand} {b i el off' bo : Nat} {em : Bool} {nm tg pp : String} {fs : Array Field} {ei : TI} (ho : o.op = .fieldAddr t x i := by exact rfl) (hx : lk E x = some (.pointer (some ⟨b, 0, none⟩)) := by exact rfl) (ht : tiGet tab t = some ti := by exact rfl) (hd : ti.desc = .struct fs := by exact rfl) (hf : fs[i]? = some ⟨nm, el, off', em, tg, pp, bo⟩ := by exact rfl) (he : tiGet tab el = some ei := by exact rfl)
    (hz : Nat.beq ei.size 0 = false := by exact rfl) : Val Tryz.prog n w0 S0 E L o (.pointer (some ⟨b, off', none⟩)) := by
  have := Val.fieldAddr (P := Tryz.prog) (n := n) (w0 := w0) (S0 := S0) (L := L) tabOk ho ht hd hf rfl he hz hx
  rwa [Nat.zero_add] at this
theorem vl {x : Operand} {b off : Nat} {arr : Array Value} {e : TypeId} {fz : Nat × Nat} (v : Value) (ho : o.op = .load t x := by exact rfl)
    (ht : tiGet tab t = some ti := by exact rfl) (hx : lk E x = some (.pointer (some ⟨b, off, none⟩)) := by exact rfl) (hm : (b, .cells arr e fz) ∈ L := by first | exact m0 | exact m1 | exact m2 | exact m3 | exact m4 | exact memA | exact memA1 | exact m5 | exact m6 | exact memB | (repeat (first | exact List.mem_cons_self | apply List.mem_cons_of_mem | apply List.mem_append_right))) (hv : rdAt ti arr off = some v := by exact rfl) : Val Tryz.prog n w0 S0 E L o v := Val.load tabOk ho ht hx hm hv
theorem vlo {x : Operand} {ad : Addr} {v : Value} (hc : w0.cell? ad = some v) (ho : o.op = .load t x := by exact rfl) (ht : tiGet tab t = some ti := by exact rfl) (ha : TypeDesc.agg ti.desc = false := by exact rfl) (hx : lk E x = some (.pointer (some ad)) := by exact rfl) (hS : ad.block ∉ S0 := by first | exact List.not_mem_nil | simp) : Val Tryz.prog n w0 S0 E L o v := Val.loadOld1 tabOk ho ht hx ha hS hc
theorem vloA {x : Operand} {ad : Addr} {cs : List Value} (hc : ∀ j v, cs[j]? = some v → w0.cell? (ad.add j) = some v) (hl : cs.length = ti.size) (ho : o.op = .load t x := by exact rfl) (ht : tiGet tab t = some ti := by exact rfl) (ha : TypeDesc.agg ti.desc = true := by exact rfl) (hx : lk E x = some (.pointer (some ad)) := by exact rfl) (hS : ad.block ∉ S0 := by first | exact List.not_mem_nil | simp) : Val Tryz.prog n w0 S0 E L o (.agg cs.toArray) := Val.loadOld tabOk ho ht hx ha hS hl hc
theorem vix {x y : Operand} {ad : Addr} {len cap el : Nat} {k : IntKind} {z : Int} {ei : TI} (j : Nat) (hj : j < len) (ad' : Addr) (ho : o.op = .indexAddr t x y := by exact rfl) (ht : tiGet tab t = some ti := by exact rfl) (hd : ti.desc = .slice el := by exact rfl) (he : tiGet tab el = some ei := by exact rfl) (hx : lk E x = some (.slice (some ad) len cap) := by exact rfl) (hy : lk E y = some (.int k z) := by exact rfl) (hz : z = j := by first | exact rfl | omega) (ha : ad.add (j * ei.size) = ad' := by first | exact rfl | exact add_lit _ _ _ | (rw [add_lit, Nat.zero_add]; exact rfl)) :
    Val Tryz.prog n w0 S0 E L o (.pointer (some ad')) := Val.ixS tabOk j ho ht hd he hx hy hz hj ha
theorem via {x y : Operand} {b off len el : Nat} {k : IntKind} {z : Int} {ei : TI} (j : Nat) (off' : Nat) (ho : o.op = .indexAddr t x y := by exact rfl) (ht : tiGet tab t = some ti := by exact rfl) (hd : ti.desc = .array len el := by exact rfl) (he : tiGet tab el = some ei := by exact rfl) (hx : lk E x = some (.pointer (some ⟨b, off, none⟩)) := by exact rfl) (hy : lk E y = some (.int k z) := by exact rfl) (hz : z = j := by first | exact rfl | omega) (ha : off + j * ei.size = off' := by first | exact rfl | omega) (hj : j < len := by first | decide | omega) :
    Val Tryz.prog n w0 S0 E L o (.pointer (some ⟨b, off', none⟩)) := Val.ix tabOk j ho ht hd he hx hy hz hj ha
theorem vbs {parts : List (Nat × Operand)} {vs : List Value} {fs : List Field} {ps : List (Nat × Nat)} (cells : Array Value) (ho : o.op = .build t parts.toArray := by exact rfl) (ht : tiGet tab t = some ti := by exact rfl) (hd : ti.desc = .struct fs.toArray := by exact rfl) (hp : placesOf tab fs = some ps := by exact rfl)
    (hx : lkAll E (parts.map (·.2)) = some vs := by exact rfl) (hf : Instr.fill (fun i => ps[i]?) ti.zero.cells ((parts.map (·.1)).zip vs) = some cells := by kernel_rfl) : Val Tryz.prog n w0 S0 E L o (.agg cells) := Val.buildS tabOk ho ht hd hp hx hf
theorem vba {parts : List (Nat × Operand)} {vs : List Value} {len e : TypeId} {ei : TI} (cells : Array Value) (ho : o.op = .build t parts.toArray := by exact rfl) (ht : tiGet tab t = some ti := by exact rfl) (hd : ti.desc = .array len e := by exact rfl) (he : tiGet tab e = some ei := by exact rfl)
    (hx : lkAll E (parts.map (·.2)) = some vs := by exact rfl) (hf : Instr.fill (fun i => some (i * ei.size, ei.size)) ti.zero.cells ((parts.map (·.1)).zip vs) = some cells := by kernel_rfl) : Val Tryz.prog n w0 S0 E L o (.agg cells) := Val.buildA tabOk ho ht hd he hx hf
theorem nbsl {len : Nat} {parts : List (Nat × Operand)} {vs : List Value} {e : TypeId} {ei : TI} (cells : Array Value) (hf : fillS ei.size len ei.zero.cells ((parts.map (·.1)).zip vs).toArray = some cells) (ho : o.op = .buildSlice t len parts.toArray := by exact rfl) (ht : tiGet tab t = some ti := by exact rfl) (hd : ti.desc = .slice e := by exact rfl) (he : tiGet tab e = some ei := by exact rfl)
    (hx : lkAll E (parts.map (·.2)) = some vs := by exact rfl) (hsm : Nat.ble (len * ei.size) 16777216 = true := by exact rfl) : New Tryz.prog n w0 S0 E L o (fun b => .slice (some ⟨b, 0, none⟩) len len) (.cells cells e) := New.buildSlice tabOk ho ht hd he hx hsm hf
theorem vla {x : Operand} {b : Nat} {arr : Array Value} {e : TypeId} {fz : Nat × Nat} (ho : o.op = .load t x := by exact rfl)
    (ht : tiGet tab t = some ti := by exact rfl) (ha : TypeDesc.agg ti.desc = true := by exact rfl) (hx : lk E x = some (.pointer (some ⟨b, 0, none⟩)) := by exact rfl) (hm : (b, .cells arr e fz) ∈ L := by first | exact m0 | exact m1 | exact m2 | exact m3 | exact m4 | exact memA | exact memA1 | exact m5 | exact m6 | exact memB | (repeat (first | exact List.mem_cons_self | apply List.mem_cons_of_mem | apply List.mem_append_right))) (hv : arr.size = ti.size := by first | exact rfl | simp only [List.size_toArray, u8s_len]; omega) : Val Tryz.prog n w0 S0 E L o (.agg arr) := Val.loadAll tabOk ho ht hx ha hm hv
theorem vlen {x : Operand} {ad : Option Addr} {len cap el : Nat} (ho : o.op = .call { callee := .builtin .len, args := #[x], argTypes := #[t] } := by exact rfl) (ht : tiGet tab t = some ti := by exact rfl) (hd : ti.desc = .slice el := by exact rfl) (hx : lk E x = some (.slice ad len cap) := by exact rfl) :
    Val Tryz.prog n w0 S0 E L o (.int .i64 len) := Val.len tabOk ho ht hd hx
theorem vcv {s c : Nat} {x : Operand} {k k' : IntKind} {z : Int} {si : TI} (ho : o.op = .convert s c x := by exact rfl) (hs : tiGet tab s = some si := by exact rfl) (hsd : si.desc = .int k' := by exact rfl)
    (ht : tiGet tab c = some ti := by exact rfl) (hd : ti.desc = .int k := by exact rfl) (hx : lk E x = some (.int k' z) := by exact rfl) : Val Tryz.prog n w0 S0 E L o (.int k (k.wrap z)) := Val.conv tabOk ho hs hsd ht hd hx
theorem vpn {x y : Operand} {a : Addr} {el t2 : Nat} (ho : o.op = .binOp .eql t x y t2 := by exact rfl) (ht : tiGet tab t = some ti := by exact rfl) (hd : ti.desc = .pointer el := by exact rfl) (hx : lk E x = some (.pointer (some a)) := by exact rfl) (hy : lk E y = some (.pointer none) := by exact rfl) :
    Val Tryz.prog n w0 S0 E L o (.bool false) := Val.ptrNil tabOk ho ht hd hx hy
theorem nbx {x : Operand} {arr : Array Value} (ho : o.op = .box t x := by exact rfl) (hx : lk E x = some (.agg arr) := by exact rfl) : New Tryz.prog n w0 S0 E L o (fun b => .pointer (some ⟨b, 0, none⟩)) (.cells arr t) := New.boxA ho hx
theorem nbs {x : Operand} {v : Value} (ho : o.op = .box t x := by exact rfl) (hx : lk E x = some v := by exact rfl) : New Tryz.prog n w0 S0 E L o (fun b => .pointer (some ⟨b, 0, none⟩)) (.cells v.cells t) := New.box ho hx
theorem nal {cs : Array Value} (ho : o.op = .alloc t := by exact rfl) (ht : tiGet tab t = some ti := by exact rfl) (hz : ti.zero.cells = cs := by exact rfl) : New Tryz.prog n w0 S0 E L o (fun b => .pointer (some ⟨b, 0, none⟩)) (.cells cs t) := New.allocTo tabOk ho ht hz
end
theorem vci {n : Nat} {w0 : World} {S0 : List Nat} {E : Env} {L : Hp} {o : Oper} {ti : TI} {s c : Nat} {x : Operand} {k k' : IntKind} {z : Int} {si : TI} (ho : o.op = .convert s c x := by exact rfl) (hs : tiGet tab s = some si := by exact rfl) (hsd : si.desc = .int k' := by exact rfl)
    (ht : tiGet tab c = some ti := by exact rfl) (hd : ti.desc = .int k := by exact rfl) (hx : lk E x = some (.int k' z) := by exact rfl) (hz : inK k z := by dsimp only [inK]; omega) : Val Tryz.prog n w0 S0 E L o (.int k z) := Val.convIn tabOk ho hs hsd ht hd hx hz
/-- A row of a region that draws, taken early. -/
theorem dt {n : Nat} {w0 : World} {S0 : List Nat} {Q : Exit → Act → World → Prop} {E : Env} {L Lr : Hp} {o : Oper} {d fuel : Nat} {ops : Array Oper} {listed : Array Bool} {v : Value} (i : Nat) (k : DR Tryz.prog n w0 S0 ops Q Lr fuel (listed.setIfInBounds i true) ((d, v) :: E) L)
    (hi : ops[i]? = some o := by exact rfl) (hv : Val Tryz.prog n w0 S0 E Lr o v := by first | exact Val.ra | exact Val.nes | exact Val.eqs | exact Val.eqf | exact Val.nef | exact Val.rmn | exact Val.qun | exact Val.of rfl | exact vf0 | exact vf | exact vpn | exact vl (.int _ _) | exact vl (.bool _) | exact vl (.slice _ _ _) | exact vl (.pointer _) | exact vla | exact vl _ | exact vlen | exact vci | exact vcv)
    (hl : Lr.Sublist L := by first | exact List.Sublist.refl _ | exact List.nil_sublist _ | (repeat (first | exact List.nil_sublist _ | exact List.Sublist.refl _ | apply List.Sublist.cons_cons | apply List.Sublist.cons | apply Go.Vc.subApp)))
    (hw : Wanted n ops E o true := by first | exact Wanted.plain rfl | exact Wanted.guard rfl rfl rfl rfl) (hq : QP Q := by exact inferInstance) (hsel : Region.noSelect ops = true := by kernel_rfl) (hf : Region.free .any ops listed i = true := by kernel_rfl) (hr : (Region.ready .any ops listed).contains i = true := by kernel_rfl) (hcl : closedB ops listed = true := by kernel_rfl)
    (hd : o.dst = some d := by exact rfl) (hn : Nat.blt d n = true := by exact rfl) (hpu : npB ops i = false ∨ ∃ v', ev E o.op = some v' := by first | exact .inr ⟨_, rfl⟩ | exact .inl (by kernel_rfl)) : DR Tryz.prog n w0 S0 ops Q Lr (fuel + 1) listed E L := DR.take i hi hl hq hsel hf hr hcl hd hn hw hpu hv k
/-- A variable is written whole. -/
theorem osa {n : Nat} {w0 : World} {S0 : List Nat} {Q : Exit → Act → World → Prop} {E : Env} {L L' : Hp} {o : Oper} {t : Nat} {ti : TI} {x y : Operand} {b : Nat} {arr : Array Value} {e : TypeId} (cs : Array Value) (h1 : ∀ u ∈ cs.toList, u.oneCell' = true) (hd : o.dst = none := by exact rfl) (ho : o.op = .store t x y := by exact rfl) (ht : tiGet tab t = some ti := by exact rfl) (hx : lk E x = some (.pointer (some ⟨b, 0, none⟩)) := by exact rfl) (hy : lk E y = some (.agg cs) := by exact rfl)
    (hL : L.Perm ((b, .cells arr e (0, 0)) :: L') := by first | exact List.Perm.refl _ | exact p1 | exact p2 | exact p3 | exact p4 | exact p5 | exact pin0 | exact pin1 | exact pin2) (hs : cs.size = ti.size := by first | exact rfl | simp only [List.size_toArray, u8s_len]; omega) (hf : ti.size = arr.size := by first | exact rfl | simp only [List.size_toArray, u8s_len]; omega) : OpTo Tryz.prog n w0 S0 Q E L o (Y := Unit) (fun _ => E) (fun _ => (b, .cells cs e (0, 0)) :: L') := OpTo.storeAll tabOk (v := .agg cs) hd ho ht hx hy hL hs hf h1
/-- A place is written: the row that is then there is named. -/
theorem ost {n : Nat} {w0 : World} {S0 : List Nat} {Q : Exit → Act → World → Prop} {E : Env} {L L' : Hp} {o : Oper} {t : Nat} {ti : TI} {x y : Operand} {b off : Nat} {arr : Array Value} {e : TypeId} {v : Value} (arr' : Array Value) (he : wrAt arr off v.cells.toList = arr') (hf : off + ti.size ≤ arr.size) (h1 : ∀ u ∈ v.cells.toList, u.oneCell' = true) (hd : o.dst = none := by exact rfl) (ho : o.op = .store t x y := by exact rfl)
    (ht : tiGet tab t = some ti := by exact rfl) (hx : lk E x = some (.pointer (some ⟨b, off, none⟩)) := by exact rfl) (hy : lk E y = some v := by exact rfl) (hL : L.Perm ((b, .cells arr e (0, 0)) :: L') := by first | exact List.Perm.refl _ | exact p1 | exact p2 | exact p3 | exact p4 | exact p5 | exact pin0 | exact pin1 | exact pin2)
    (hs : v.cells.size = ti.size := by first | exact rfl | simp only [Value.cells, List.size_toArray, u8s_len]; omega) : OpTo Tryz.prog n w0 S0 Q E L o (Y := Unit) (fun _ => E) (fun _ => (b, .cells arr' e (0, 0)) :: L') := OpTo.storeTo tabOk he hd ho ht hx hy hL hs hf h1
/-- One cell of a variable is written. -/
theorem os1 {n : Nat} {w0 : World} {S0 : List Nat} {Q : Exit → Act → World → Prop} {E : Env} {L L' : Hp} {o : Oper} {t : Nat} {ti : TI} {x y : Operand} {b off : Nat} {arr : Array Value} {e : TypeId} {v : Value} (arr' : Array Value) (hd : o.dst = none := by exact rfl) (ho : o.op = .store t x y := by exact rfl)
    (ht : tiGet tab t = some ti := by exact rfl) (hx : lk E x = some (.pointer (some ⟨b, off, none⟩)) := by exact rfl) (hy : lk E y = some v := by exact rfl) (hL : L.Perm ((b, .cells arr e (0, 0)) :: L') := by first | exact List.Perm.refl _ | exact p1 | exact p2 | exact p3 | exact p4 | exact p5 | exact pin0 | exact pin1 | exact pin2)
    (he : wrAt arr off v.cells.toList = arr' := by exact rfl) (hs : v.cells.size = ti.size := by exact rfl) (hf : off + ti.size ≤ arr.size := by first | exact Nat.le_of_ble_eq_true rfl | decide)
    (h1 : ∀ u ∈ v.cells.toList, u.oneCell' = true := by (intro u hu; simp only [Value.cells, List.mem_cons, List.not_mem_nil, or_false] at hu; subst hu; rfl)) : OpTo Tryz.prog n w0 S0 Q E L o (Y := Unit) (fun _ => E) (fun _ => (b, .cells arr' e (0, 0)) :: L') := OpTo.storeTo tabOk he hd ho ht hx hy hL hs hf h1
theorem nbsk {n : Nat} {w0 : World} {S0 : List Nat} {E : Env} {L : Hp} {o : Oper} {t : Nat} {ti : TI} {len : Nat} {parts : List (Nat × Operand)} {vs : List Value} {e : TypeId} {ei : TI} (cells : Array Value) (ho : o.op = .buildSlice t len parts.toArray := by exact rfl) (ht : tiGet tab t = some ti := by exact rfl) (hd : ti.desc = .slice e := by exact rfl) (he : tiGet tab e = some ei := by exact rfl)
    (hx : lkAll E (parts.map (·.2)) = some vs := by exact rfl) (hsm : Nat.ble (len * ei.size) 16777216 = true := by exact rfl) (hf : fillS ei.size len ei.zero.cells ((parts.map (·.1)).zip vs).toArray = some cells := by kernel_rfl) : New Tryz.prog n w0 S0 E L o (fun b => .slice (some ⟨b, 0, none⟩) len len) (.cells cells e) := New.buildSlice tabOk ho ht hd he hx hsm hf
attribute [local irreducible] Run RC RQ DR DOp
/-- What goes by itself. -/
structure Hd (A : Prop) : Prop where
  h : A
theorem z_ {A B : Prop} (k : A) (f : Hd A → B := by (intro h; (repeat (first
  | (refine (?_ : Run _ _ _ _ _ _ _ _ _); first | refine Run.nil ?_ | refine Run.sk ?_ | refine Run.a Val.ra ?_ | refine Run.a Val.nes ?_ | refine Run.a Val.eqs ?_ | refine Run.a Val.eqf ?_ | refine Run.a Val.nef ?_ | refine Run.a Val.rmn ?_ | refine Run.a Val.qun ?_ | refine Run.a (Val.of rfl) ?_ | refine Run.a vf0 ?_ | refine Run.a (vl (.int _ _)) ?_ | refine Run.a vla ?_ | refine Run.a (vl (.bool _)) ?_ | refine Run.a (vl (.slice _ _ _)) ?_ | refine Run.a (vl (.pointer _)) ?_ | refine Run.a vf ?_ | refine Run.a vpn ?_ | refine Run.a vlen ?_ | refine Run.a vci ?_ | refine Run.a vcv ?_ | refine Run.a (vl _) ?_ | refine Run.sku ?_ | ((fail_if_success (refine Run.lit ?_)); first | refine Run.gT ?_ | refine Run.gF ?_))
  | (refine (?_ : RC _ _ _ _ _ _ _ _); first | refine RC.seq ?_ | refine RC.region ?_ | refine RC.condT rfl rfl ?_ | refine RC.condF rfl rfl ?_ | refine RC.ret ?_ | refine RC.skip ?_ | refine RC.block ?_ | refine RC.exit ?_ | refine RC.cT ?_ | refine RC.cF ?_)
  | (refine (?_ : RQ _ _ _ _ _ _ _); first | refine RQ.next ?_ | refine RQ.thenRet ?_ | refine RQ.blockRet ?_ | refine RQ.blockNormal ?_ | refine RQ.thenExit ?_ | refine RQ.blockHere ?_ | refine RQ.blockPast rfl ?_))); exact h.h)) : B := f ⟨k⟩
end Go.Proofs.YtfoeakgnkfcbjaaGreatDoor
end
section
/- make([]T, n); rows of numbers. -/
namespace Go.Vc
open Go
section
variable {P : Program} {n : Nat} {w0 : World} {S0 : List Nat} {Q : Exit → Act → World → Prop} {E : Env} {L : Hp} {o : Oper} {d : Nat} {T : List (Nat × TI)} {t : Nat} {ti : TI}
/-- make([]T, m), where an element is one cell. -/
theorem New.make1 (hT : TabOk P T) {x y : Operand} {e m : Nat} {ei : TI} (z : Value) (ho : o.op = .makeSlice t x y) (ht : tiGet T t = some ti) (hd : ti.desc = .slice e) (he : tiGet T e = some ei) (hz1 : ei.size = 1) (hz : ei.zero.cells = #[z])
    (hx : lk E x = some (.int .i64 m)) (hy : lk E y = some (.int .i64 m)) (hm : m ≤ 9223372036854775807) (hb : ei.bytes * m ≤ 281474976710656) : New P n w0 S0 E L o (fun b => .slice (some ⟨b, 0, none⟩) m m) (.cells (List.replicate m z).toArray e) := by
  intro a w hs _
  have h2 := (hT _ _ ht).1
  rw [hd] at h2
  have hw : IntKind.i64.wrap (m : Int) = m := wrap_in (by dsimp only [inK]; omega)
  obtain ⟨-, i, hi, hsz, hby, hzz⟩ := hT _ _ he
  have hb' : ¬ (281474976710656 : Int) < (i.bytes : Int) * (m : Int) := by rw [hby, ← Int.natCast_mul]; omega
  have hr : (Array.range m).map (fun j => ei.zero.cells[j % ei.zero.cells.size]!) = (List.replicate m z).toArray := by
    rw [hz]
    apply Array.ext
    · simp
    · intro j h1 h3
      simp [Nat.mod_one]
  refine ⟨w, Fr.refl _ _, rfl, ?_⟩
  have r0 : Array.range 0 = #[] := by apply Array.ext'; simp
  have hw0 : IntKind.i64.wrap 0 = 0 := by decide
  by_cases h0 : m = 0
  · subst h0
    simp [execOp, ho, hs.eval hx, hs.eval hy, Instr.makeSlice, run_underlying h2, asInt, asIntOf, typeInfo, hi, hw0, sizeOf, hsz, hz1, newRow, r0]
  · simp [execOp, ho, hs.eval hx, hs.eval hy, Instr.makeSlice, run_underlying h2, asInt, asIntOf, typeInfo, hi, hw, sizeOf, hsz, hz1, newRow, h0, zeroValue, hzz, hb', hr]
    intro h9
    omega
end
end Go.Vc
namespace Go.Proofs.YtfoeakgnkfcbjaaGreatDoor
open Go Go.Vc Go.Sha
theorem nmk {n : Nat} {w0 : World} {S0 : List Nat} {E : Env} {L : Hp} {o : Oper} {t : Nat} {ti : TI} {x y : Operand} {e m : Nat} {ei : TI} (z : Value) (ho : o.op = .makeSlice t x y := by exact rfl) (ht : tiGet tab t = some ti := by exact rfl) (hd : ti.desc = .slice e := by exact rfl) (he : tiGet tab e = some ei := by exact rfl) (hz1 : ei.size = 1 := by exact rfl) (hz : ei.zero.cells = #[z] := by exact rfl)
    (hx : lk E x = some (.int .i64 m) := by exact rfl) (hy : lk E y = some (.int .i64 m) := by exact rfl) (hm : m ≤ 9223372036854775807 := by omega) (hb : ei.bytes * m ≤ 281474976710656 := by omega) : New Tryz.prog n w0 S0 E L o (fun b => .slice (some ⟨b, 0, none⟩) m m) (.cells (List.replicate m z).toArray e) :=
  New.make1 tabOk z ho ht hd he hz1 hz hx hy hm hb
end Go.Proofs.YtfoeakgnkfcbjaaGreatDoor
namespace Go.Sha
end Go.Sha
namespace Go.Proofs.YtfoeakgnkfcbjaaGreatDoor
open Go Go.Vc Go.Sha
end Go.Proofs.YtfoeakgnkfcbjaaGreatDoor
end
section
/- Calls of function values; panics. -/
namespace Go.Vc
open Go
section
variable {P : Program} {n : Nat} {w0 : World} {S0 : List Nat} {Q : Exit → Act → World → Prop} {E : Env} {L : Hp} {o : Oper} {d : Nat} {T : List (Nat × TI)} {t : Nat} {ti : TI} {ops : Array Oper} {l rest : List Oper}
theorem run_callF {a : Act} {f : FuncId} {x : Operand} {first cap : Array Value} {xs : List Operand} {ts : Array TypeId} {fn : Func} {vs : List Value} (hs : St n E a) (hfv : lk E x = some (.func (.func f) first cap))
    (ho : o.op = .call { callee := .value x, args := xs.toArray, argTypes := ts }) (hf : P.funcs[f]? = some fn) (hnm : (fn.name == "runtime.NumGoroutine") = false) (hb : fn.body.isNone = false)
    (hx : lkAll E xs = some vs) (w : World) : (execOp a.eval o).run P w = .ok (.enter f (first ++ vs.toArray ++ cap)) w := by
  have hv := hs.evalAll hx
  have hn' : ¬ fn.name = "runtime.NumGoroutine" := by simpa using hnm
  have hb' : ¬ fn.body = none := by intro h; rw [h] at hb; cases hb
  simp [execOp, ho, resolve, hs.eval hfv, Deferred.ofValue, invoke, callFunc, hf, hn', hb', ← hv]
/-- What a call comes to that may panic. -/
def Ends (P : Program) (f : FuncId) (args : Array Value) (w0 : World) (S0 : List Nat) (w : World) {Y Z : Type} (V : Y → Value) (L' : Y → Hp) (C : Z → List PanicEntry) (Lp : Z → Hp) : Prop :=
  Calls P f args w fun e w' => (∃ y, e = .returned (V y) ∧ Mem w0 S0 (L' y) w') ∨ (∃ z, e = .panicked (C z) ∧ Mem w0 S0 (Lp z) w')
/-- A call of a function value, which may panic. -/
theorem OpTo.callF {f : FuncId} {x : Operand} {first cap : Array Value} {xs : List Operand} {ts : Array TypeId} {fn : Func} {vs : List Value} (hf : P.funcs[f]? = some fn) {Y Z : Type} {V : Y → Value} {L' : Y → Hp} {C : Z → List PanicEntry} {Lp : Z → Hp}
    (hc : ∀ w, Mem w0 S0 L w → Ends P f (first ++ vs.toArray ++ cap) w0 S0 w V L' C Lp) (hp : ∀ z, RQ n w0 S0 (.panic (C z)) Q E (Lp z))
    (hd : o.dst = some d := by exact rfl) (hn : Nat.blt d n = true := by exact rfl)
    (ho : o.op = .call { callee := .value x, args := xs.toArray, argTypes := ts } := by exact rfl) (hfv : lk E x = some (.func (.func f) first cap) := by exact rfl) (hnm : (fn.name == "runtime.NumGoroutine") = false := by exact rfl) (hb : fn.body.isNone = false := by exact rfl)
    (hx : lkAll E xs = some vs := by exact rfl) : OpTo P n w0 S0 Q E L o (fun y => (d, V y) :: E) L' := by
  intro a w hs hm K hK
  simp only [Oper.wp, run_callF hs hfv ho hf hnm hb hx, Oper.upon_enter]
  refine (hc w hm).mono ?_
  rintro e w' (⟨y, rfl, hm'⟩ | ⟨z, rfl, hm'⟩)
  · simp only [hd]
    exact hK y _ _ (hs.put hn _) hm'
  · exact hp z a w' hs hm'
/-- A call by name that may panic. -/
theorem OpTo.callP {f : FuncId} {xs : List Operand} {ts : Array TypeId} {fn : Func} {vs : List Value} (hf : P.funcs[f]? = some fn) {Y Z : Type} {V : Y → Value} {L' : Y → Hp} {C : Z → List PanicEntry} {Lp : Z → Hp}
    (hc : ∀ w, Mem w0 S0 L w → Ends P f vs.toArray w0 S0 w V L' C Lp) (hp : ∀ z, RQ n w0 S0 (.panic (C z)) Q E (Lp z))
    (hd : o.dst = some d := by exact rfl) (hn : Nat.blt d n = true := by exact rfl)
    (ho : o.op = .call { callee := .value (.func f), args := xs.toArray, argTypes := ts } := by exact rfl) (hnm : (fn.name == "runtime.NumGoroutine") = false := by exact rfl) (hb : fn.body.isNone = false := by exact rfl)
    (hx : lkAll E xs = some vs := by exact rfl) : OpTo P n w0 S0 Q E L o (fun y => (d, V y) :: E) L' := by
  intro a w hs hm K hK
  simp only [Oper.wp, run_call hs ho hf hnm hb hx, Oper.upon_enter]
  refine (hc w hm).mono ?_
  rintro e w' (⟨y, rfl, hm'⟩ | ⟨z, rfl, hm'⟩)
  · simp only [hd]
    exact hK y _ _ (hs.put hn _) hm'
  · exact hp z a w' hs hm'
theorem Run.panic {x : Operand} {pt : TypeId} {v : Value} (h : RQ n w0 S0 (.panic [{ v := .iface pt v, recovered := false }]) Q E L) (ho : o.op = .panic x := by exact rfl) (hx : lk E x = some (.iface pt v) := by exact rfl) (hg : o.guard = none := by exact rfl) : Run P n w0 S0 l.toArray Q (o :: rest) E L := by
  intro a w hs hm
  refine wpList_plain hg fun K hK => ?_
  have hr : (execOp a.eval o).run P w = .halt (.panic (.iface pt v)) w := by simp [execOp, ho, hs.eval hx, Instr.panic, goPanic]
  simp only [Oper.wp, hr, Oper.upon_panic]
  exact h a w hs hm
theorem RQ.thenPanic {K : Act → World → Prop} {c : List PanicEntry} (h : RQ n w0 S0 (.panic c) Q E L) : RQ n w0 S0 (.panic c) (Exit.then K Q) E L := h
theorem RQ.blockPanic {id : Nat} {c : List PanicEntry} (h : RQ n w0 S0 (.panic c) Q E L) : RQ n w0 S0 (.panic c) (Exit.inBlock id Q) E L := h
theorem RQ.panic {fn : Func} {R : Ending → World → Prop} {c : List PanicEntry} (h : ∀ w, Mem w0 S0 L w → R (.panicked c) w) : RQ n w0 S0 (.panic c) (bodyPost P fn R) E L := fun a w hs hm => ⟨hs.defers, h w hm⟩
end
end Go.Vc
end
