/- merkle.Prove, turns, Check. -/
import Derived.Test.YtilfbomjaflbjaaDoorMer1
namespace Go.Vc
open Go
section
variable {P : Program} {n : Nat} {w0 : World} {S0 : List Nat} {Q : Exit → Act → World → Prop} {E : Env} {L : Hp} {o : Oper} {d : Nat}
theorem fillS_one (sz : Nat) (z : Array Value) (dg : List Nat) (h : dg.length = sz) : fillS sz 1 z ((List.range 1).zip [Value.agg (Sha.u8s dg).toArray]).toArray = some (Sha.u8s dg).toArray := by
  rw [fillS_full sz 1 z _ rfl (fun v hv => by rw [List.mem_singleton] at hv; subst hv; simp [Value.cells, Sha.u8s_len, h])]
  simp [Value.cells]
/-- It makes a slice of its own, and tells whether. -/
def Makes2 (P : Program) (f : FuncId) (vs : List Value) (w : World) (e : TypeId) (sz m : Nat) (cs : List Value) (b : Bool) : Prop :=
  Calls P f vs.toArray w fun e' w' => ∃ v bl, e' = .returned (.tuple #[v, .bool b]) ∧ Own e sz v m cs bl ∧ Fr [] w w' ∧ (∀ p ∈ bl, w'.heap[p.1]? = some p.2 ∧ w.heap.size ≤ p.1) ∧ (bl.map (·.1)).Nodup
theorem OpTo.callMk2 {f : FuncId} {xs : List Operand} {ts : Array TypeId} {fn : Func} {vs : List Value} {e : TypeId} {sz m : Nat} {cs : List Value} {b : Bool} (hf : P.funcs[f]? = some fn) (hd : o.dst = some d) (hn : Nat.blt d n = true)
    (ho : o.op = .call { callee := .value (.func f), args := xs.toArray, argTypes := ts }) (hnm : (fn.name == "runtime.NumGoroutine") = false) (hb : fn.body.isNone = false)
    (hx : lkAll E xs = some vs) (hc : ∀ w, Mem w0 S0 L w → Makes2 P f vs w e sz m cs b) : OpTo P n w0 S0 Q E L o (Y := {p : Value × Hp // Own e sz p.1 m cs p.2}) (fun y => (d, .tuple #[y.1.1, .bool b]) :: E) (fun y => y.1.2 ++ L) :=
  OpTo.call (Y := {p : Value × Hp // Own e sz p.1 m cs p.2}) (V := fun y => .tuple #[y.1.1, .bool b]) (L' := fun y => y.1.2 ++ L) hf hd hn ho hnm hb hx (fun w hm => (hc w hm).mono (by
    rintro e' w' ⟨v, bl, rfl, hown, hfr, hbl, hnd⟩
    exact ⟨⟨(v, bl), hown⟩, rfl, hm.add hfr (fun p hp => (hbl p hp).1) (fun p hp => (hbl p hp).2) hnd⟩))
theorem Makes2.of {e : TypeId} {sz m : Nat} {cs : List Value} {v : Value} {bl L' : Hp} {w : World} {b : Bool} (hown : Own e sz v m cs bl) (hm : Mem w0 [] (bl ++ L') w) :
    ∃ v' bl', Ending.returned (.tuple #[v, .bool b]) = .returned (.tuple #[v', .bool b]) ∧ Own e sz v' m cs bl' ∧ Fr [] w0 w ∧ (∀ p ∈ bl', w.heap[p.1]? = some p.2 ∧ w0.heap.size ≤ p.1) ∧ (bl'.map (·.1)).Nodup :=
  ⟨v, bl, rfl, hown, hm.fr, fun p hp => ⟨hm.has p (List.mem_append_left _ hp), (hm.own p (List.mem_append_left _ hp)).resolve_right (by simp)⟩,
   (by have := hm.nd; rw [List.map_append] at this; exact (List.nodup_append.1 this).1)⟩
theorem Makes2.nil {e : TypeId} {sz : Nat} {w : World} {b : Bool} (hm : Mem w0 [] L w) :
    ∃ v' bl', Ending.returned (.tuple #[.slice none 0 0, .bool b]) = .returned (.tuple #[v', .bool b]) ∧ Own e sz v' 0 [] bl' ∧ Fr [] w0 w ∧ (∀ p ∈ bl', w.heap[p.1]? = some p.2 ∧ w0.heap.size ≤ p.1) ∧ (bl'.map (·.1)).Nodup :=
  ⟨_, [], rfl, .nil, hm.fr, (fun p hp => by cases hp), List.nodup_nil⟩
end
end Go.Vc
namespace Go.Sha
/-- What a proof is, for any number. -/
def provB (l : List (List Nat)) (z : Int) : Bool := decide (0 ≤ z ∧ z < l.length ∧ l.length ≤ 65536)
def provN (l : List (List Nat)) (z : Int) : List (List Nat) := if provB l z = true then mprove l z.toNat else []
theorem prov_bad {l : List (List Nat)} {z : Int} (h : z < 0 ∨ (l.length : Int) ≤ z ∨ 65536 < l.length) : provN l z = [] ∧ provB l z = false := by
  have e : provB l z = false := decide_eq_false (by omega)
  exact ⟨by unfold provN; rw [e]; rfl, e⟩
theorem prov_good {l : List (List Nat)} {i : Nat} (h : i < l.length) (hl : l.length ≤ 65536) : provN l (i : Int) = mprove l i ∧ provB l (i : Int) = true := by
  have e : provB l (i : Int) = true := decide_eq_true (by omega)
  exact ⟨by unfold provN; rw [e]; rfl, e⟩
theorem turnsN_le : ∀ (N i n : Nat), n = N → (turnsN i n).length ≤ n := by
  intro N
  induction N using Nat.strongRecOn with
  | _ N ih =>
    intro i n hn
    by_cases h : n ≤ 1
    · rw [turnsN_small h]; simp
    · have hc := cut_lt (n := n) (by omega)
      have hp := cut_pos n
      by_cases hk : i < cut n
      · rw [turnsN_left (by omega) hk, List.length_append]
        have := ih (cut n) (by omega) i (cut n) rfl
        simp only [List.length_cons, List.length_nil]
        omega
      · rw [turnsN_right (by omega) (by omega), List.length_append]
        have := ih (n - cut n) (by omega) (i - cut n) (n - cut n) rfl
        simp only [List.length_cons, List.length_nil]
        omega
end Go.Sha
namespace Go.Proofs.YtilfbomjaflbjaaDoor
open Go Go.Vc Go.Sha

set_option maxRecDepth 10000 in
theorem Prove_calls : ∀ (n : Nat) (l : List (List Nat)), l.length = n → HL l → ∀ (z : Int) (v : Value) (w : World), SrcW w 8 v l.length (u8s l.flatten) → Laid w →
    Makes2 Tryd.prog 34 [v, .int .i64 z] w 23 8 (provN l z).length (u8s (provN l z).flatten) (provB l z) := by
  intro n
  induction n using Nat.strongRecOn with
  | _ n ih =>
  intro l hl hH z v w hs hK
  obtain ⟨a, c, hv, hac⟩ := hs.shape
  by_cases hA : z < 0
  · obtain ⟨e1, e2⟩ := prov_bad (l := l) (z := z) (.inl hA)
    rw [e1, e2]
    subst hv
    refine enter Tryd.func34 rfl (Mem.nil w []) rfl ?_
    (repeat refine RC.seq ?_); refine RC.region ?_
    refine Run.v rfl rfl rfl (Val.of rfl) ?_
    refine Run.v rfl rfl rfl (Val.of rfl) ?_
    refine Run.nil (RQ.next ?_)
    (repeat refine RC.seq ?_); refine RC.region ?_
    refine Run.v rfl rfl rfl (Val.of rfl) ?_
    refine Run.v rfl rfl rfl (Val.eq (Val.of rfl) (show _ = Value.bool true from congrArg Value.bool (decide_eq_true (by omega)))) ?_
    refine Run.v rfl rfl rfl (Val.of rfl) ?_
    refine Run.skipG (Wanted.guard rfl rfl rfl rfl) rfl rfl ?_
    refine Run.skipG (Wanted.guard rfl rfl rfl rfl) rfl rfl ?_
    refine Run.skipG (Wanted.guard rfl rfl rfl rfl) rfl rfl ?_
    refine Run.skipG (Wanted.guard rfl rfl rfl rfl) rfl rfl ?_
    refine Run.v rfl rfl rfl (Val.of rfl) ?_
    refine Run.v rfl rfl rfl (Val.of rfl) ?_
    refine Run.skipG (Wanted.guard rfl rfl rfl rfl) rfl rfl ?_
    refine Run.skipG (Wanted.guard rfl rfl rfl rfl) rfl rfl ?_
    refine Run.skipG (Wanted.guard rfl rfl rfl rfl) rfl rfl ?_
    refine Run.v rfl rfl rfl (Val.of rfl) ?_
    refine Run.nil (RQ.next ?_)
    (repeat refine RC.seq ?_); refine RC.condT rfl rfl ?_
    (repeat refine RC.seq ?_); refine RC.region ?_
    refine Run.v rfl rfl rfl (Val.of rfl) ?_
    refine Run.v rfl rfl rfl (Val.of rfl) ?_
    refine Run.nil (RQ.next ?_)
    refine RC.ret ?_; (repeat first | refine RQ.thenRet ?_ | refine RQ.blockRet ?_)
    exact RQ.ret2 rfl (Res.tmp rfl) (Res.tmp rfl) fun w' hm => Makes2.nil hm
  by_cases hB : (l.length : Int) ≤ z
  · obtain ⟨e1, e2⟩ := prov_bad (l := l) (z := z) (.inr (.inl hB))
    rw [e1, e2]
    subst hv
    refine enter Tryd.func34 rfl (Mem.nil w []) rfl ?_
    (repeat refine RC.seq ?_); refine RC.region ?_
    refine Run.v rfl rfl rfl (Val.of rfl) ?_
    refine Run.v rfl rfl rfl (Val.of rfl) ?_
    refine Run.nil (RQ.next ?_)
    (repeat refine RC.seq ?_); refine RC.region ?_
    refine Run.v rfl rfl rfl (Val.of rfl) ?_
    refine Run.v rfl rfl rfl (Val.eq (Val.of rfl) (show _ = Value.bool false from congrArg Value.bool (decide_eq_false (by omega)))) ?_
    refine Run.v rfl rfl rfl (Val.of rfl) ?_
    refine Run.vG (Wanted.guard rfl rfl rfl rfl) rfl rfl (Val.of rfl) ?_
    refine Run.vG (Wanted.guard rfl rfl rfl rfl) rfl rfl (Val.of rfl) ?_
    refine Run.vG (Wanted.guard rfl rfl rfl rfl) rfl rfl (Val.len (len := l.length) tabOk rfl rfl rfl rfl) ?_
    refine Run.vG (Wanted.guard rfl rfl rfl rfl) rfl rfl (Val.eq (Val.of rfl) (show _ = Value.bool true from congrArg Value.bool (decide_eq_true (by omega)))) ?_
    refine Run.v rfl rfl rfl (Val.of rfl) ?_
    refine Run.v rfl rfl rfl (Val.of rfl) ?_
    refine Run.skipG (Wanted.guard rfl rfl rfl rfl) rfl rfl ?_
    refine Run.skipG (Wanted.guard rfl rfl rfl rfl) rfl rfl ?_
    refine Run.skipG (Wanted.guard rfl rfl rfl rfl) rfl rfl ?_
    refine Run.v rfl rfl rfl (Val.of rfl) ?_
    refine Run.nil (RQ.next ?_)
    (repeat refine RC.seq ?_); refine RC.condT rfl rfl ?_
    (repeat refine RC.seq ?_); refine RC.region ?_
    refine Run.v rfl rfl rfl (Val.of rfl) ?_
    refine Run.v rfl rfl rfl (Val.of rfl) ?_
    refine Run.nil (RQ.next ?_)
    refine RC.ret ?_; (repeat first | refine RQ.thenRet ?_ | refine RQ.blockRet ?_)
    exact RQ.ret2 rfl (Res.tmp rfl) (Res.tmp rfl) fun w' hm => Makes2.nil hm
  by_cases hC : 65536 < l.length
  · obtain ⟨e1, e2⟩ := prov_bad (l := l) (z := z) (.inr (.inr hC))
    rw [e1, e2]
    subst hv
    refine enter Tryd.func34 rfl (Mem.nil w []) rfl ?_
    (repeat refine RC.seq ?_); refine RC.region ?_
    refine Run.v rfl rfl rfl (Val.of rfl) ?_
    refine Run.v rfl rfl rfl (Val.of rfl) ?_
    refine Run.nil (RQ.next ?_)
    (repeat refine RC.seq ?_); refine RC.region ?_
    refine Run.v rfl rfl rfl (Val.of rfl) ?_
    refine Run.v rfl rfl rfl (Val.eq (Val.of rfl) (show _ = Value.bool false from congrArg Value.bool (decide_eq_false (by omega)))) ?_
    refine Run.v rfl rfl rfl (Val.of rfl) ?_
    refine Run.vG (Wanted.guard rfl rfl rfl rfl) rfl rfl (Val.of rfl) ?_
    refine Run.vG (Wanted.guard rfl rfl rfl rfl) rfl rfl (Val.of rfl) ?_
    refine Run.vG (Wanted.guard rfl rfl rfl rfl) rfl rfl (Val.len (len := l.length) tabOk rfl rfl rfl rfl) ?_
    refine Run.vG (Wanted.guard rfl rfl rfl rfl) rfl rfl (Val.eq (Val.of rfl) (show _ = Value.bool false from congrArg Value.bool (decide_eq_false (by omega)))) ?_
    refine Run.v rfl rfl rfl (Val.of rfl) ?_
    refine Run.v rfl rfl rfl (Val.of rfl) ?_
    refine Run.vG (Wanted.guard rfl rfl rfl rfl) rfl rfl (Val.of rfl) ?_
    refine Run.vG (Wanted.guard rfl rfl rfl rfl) rfl rfl (Val.len (len := l.length) tabOk rfl rfl rfl rfl) ?_
    refine Run.vG (Wanted.guard rfl rfl rfl rfl) rfl rfl (Val.eq (Val.of rfl) (show _ = Value.bool true from congrArg Value.bool (decide_eq_true (by omega)))) ?_
    refine Run.v rfl rfl rfl (Val.of rfl) ?_
    refine Run.nil (RQ.next ?_)
    (repeat refine RC.seq ?_); refine RC.condT rfl rfl ?_
    (repeat refine RC.seq ?_); refine RC.region ?_
    refine Run.v rfl rfl rfl (Val.of rfl) ?_
    refine Run.v rfl rfl rfl (Val.of rfl) ?_
    refine Run.nil (RQ.next ?_)
    refine RC.ret ?_; (repeat first | refine RQ.thenRet ?_ | refine RQ.blockRet ?_)
    exact RQ.ret2 rfl (Res.tmp rfl) (Res.tmp rfl) fun w' hm => Makes2.nil hm
  obtain ⟨i, rfl⟩ := Int.eq_ofNat_of_zero_le (show 0 ≤ z by omega)
  have hi : i < l.length := by omega
  obtain ⟨e1, e2⟩ := prov_good (l := l) (i := i) hi (by omega)
  rw [e1, e2]
  clear hv hac
  obtain ⟨ad, c, rfl, hc, hcl, hr⟩ := hs.pos (by omega)
  refine enter Tryd.func34 rfl (Mem.nil w []) rfl ?_
  (repeat refine RC.seq ?_); refine RC.region ?_
  refine Run.v rfl rfl rfl (Val.of rfl) ?_
  refine Run.v rfl rfl rfl (Val.of rfl) ?_
  refine Run.nil (RQ.next ?_)
  (repeat refine RC.seq ?_); refine RC.region ?_
  refine Run.v rfl rfl rfl (Val.of rfl) ?_
  refine Run.v rfl rfl rfl (Val.eq (Val.of rfl) (show _ = Value.bool false from congrArg Value.bool (decide_eq_false (by omega)))) ?_
  refine Run.v rfl rfl rfl (Val.of rfl) ?_
  refine Run.vG (Wanted.guard rfl rfl rfl rfl) rfl rfl (Val.of rfl) ?_
  refine Run.vG (Wanted.guard rfl rfl rfl rfl) rfl rfl (Val.of rfl) ?_
  refine Run.vG (Wanted.guard rfl rfl rfl rfl) rfl rfl (Val.len (len := l.length) tabOk rfl rfl rfl rfl) ?_
  refine Run.vG (Wanted.guard rfl rfl rfl rfl) rfl rfl (Val.eq (Val.of rfl) (show _ = Value.bool false from congrArg Value.bool (decide_eq_false (by omega)))) ?_
  refine Run.v rfl rfl rfl (Val.of rfl) ?_
  refine Run.v rfl rfl rfl (Val.of rfl) ?_
  refine Run.vG (Wanted.guard rfl rfl rfl rfl) rfl rfl (Val.of rfl) ?_
  refine Run.vG (Wanted.guard rfl rfl rfl rfl) rfl rfl (Val.len (len := l.length) tabOk rfl rfl rfl rfl) ?_
  refine Run.vG (Wanted.guard rfl rfl rfl rfl) rfl rfl (Val.eq (Val.of rfl) (show _ = Value.bool false from congrArg Value.bool (decide_eq_false (by omega)))) ?_
  refine Run.v rfl rfl rfl (Val.of rfl) ?_
  refine Run.nil (RQ.next ?_)
  (repeat refine RC.seq ?_); refine RC.condF rfl rfl (RC.skip (RQ.next ?_))
  (repeat refine RC.seq ?_); refine RC.region ?_
  refine Run.v rfl rfl rfl (Val.of rfl) ?_
  refine Run.v rfl rfl rfl (Val.len (len := l.length) tabOk rfl rfl rfl rfl) ?_
  refine Run.v rfl rfl rfl (Val.eq (Val.of rfl) (show _ = Value.bool (decide (l.length = 1)) from congrArg Value.bool (by rw [Bool.eq_iff_iff, beq_iff_eq, decide_eq_true_iff]; omega))) ?_
  refine Run.nil (RQ.next ?_)
  (repeat refine RC.seq ?_); refine RC.cond rfl (fun h => ?_) (fun h => ?_)
  · have h1 := of_decide_eq_true h
    rw [mprove_small (by omega)]
    (repeat refine RC.seq ?_); refine RC.region ?_
    refine Run.v rfl rfl rfl (Val.of rfl) ?_
    refine Run.v rfl rfl rfl (Val.of rfl) ?_
    refine Run.nil (RQ.next ?_)
    refine RC.ret ?_; (repeat first | refine RQ.thenRet ?_ | refine RQ.blockRet ?_)
    exact RQ.ret2 rfl (Res.tmp rfl) (Res.tmp rfl) fun w' hm => Makes2.nil hm
  have h2 := of_decide_eq_false h
  clear h
  refine RC.skip (RQ.next ?_)
  have hlt := cut_lt (n := l.length) (by omega)
  have hps := cut_pos l.length
  have hge := cut_ge (n := l.length)
  have ht : SrcW w 8 (.slice (some ad) (cut l.length) c) (l.take (cut l.length)).length (u8s (l.take (cut l.length)).flatten) := by
    rw [List.length_take, Nat.min_eq_left (by omega), flatten_take _ hH, u8s_take]
    exact SrcW.takeN hcl hr (by omega) hc
  have hdp : SrcW w 8 (.slice (some (ad.add (cut l.length * 8))) (l.length - cut l.length) (c - cut l.length)) (l.drop (cut l.length)).length (u8s (l.drop (cut l.length)).flatten) := by
    rw [List.length_drop, flatten_drop _ hH, u8s_drop]
    exact SrcW.dropN hcl hr hc
  have ih1 := ih (cut l.length) (by omega) (l.take (cut l.length)) (by rw [List.length_take]; omega) (hH.take _)
  have ih2 := ih (l.length - cut l.length) (by omega) (l.drop (cut l.length)) (by rw [List.length_drop]) (hH.drop _)
  have hR1 := Root_calls _ (l.take (cut l.length)) rfl (hH.take _)
  have hR2 := Root_calls _ (l.drop (cut l.length)) rfl (hH.drop _)
  have r1 : rootOf (l.take (cut l.length)) = mroot (l.take (cut l.length)) := by unfold rootOf; rw [if_pos (by rw [List.length_take]; omega)]
  have r2 : rootOf (l.drop (cut l.length)) = mroot (l.drop (cut l.length)) := by unfold rootOf; rw [if_pos (by rw [List.length_drop]; omega)]
  have s1 := mroot_len (l.take (cut l.length))
  have s2 := mroot_len (l.drop (cut l.length))
  have lt1 : (l.take (cut l.length)).length = cut l.length := by rw [List.length_take]; omega
  have lt2 : (l.drop (cut l.length)).length = l.length - cut l.length := by rw [List.length_drop]
  (repeat refine RC.seq ?_); refine RC.region ?_
  refine Run.v rfl rfl rfl (Val.of rfl) ?_
  refine Run.v rfl rfl rfl (Val.len (len := l.length) tabOk rfl rfl rfl rfl) ?_
  refine Run.callV Tryd.func57 rfl rfl rfl rfl rfl rfl rfl (fun w' _ => half_calls l.length (by omega) (by omega) w') ?_
  refine Run.v rfl rfl rfl (Val.of rfl) ?_
  refine Run.nil (RQ.next ?_)
  (repeat refine RC.seq ?_); refine RC.drawS mixed (N := 8) rfl ?_
  refine DR.take 0 rfl (by repeat (first | exact List.nil_sublist _ | exact List.Sublist.refl _ | apply List.Sublist.cons_cons | apply List.Sublist.cons)) inferInstance (by kernel_rfl) (by kernel_rfl) (by kernel_rfl) (by kernel_rfl) rfl rfl (Wanted.plain rfl) (Val.of rfl) ?_
  refine DR.take 1 rfl (by repeat (first | exact List.nil_sublist _ | exact List.Sublist.refl _ | apply List.Sublist.cons_cons | apply List.Sublist.cons)) inferInstance (by kernel_rfl) (by kernel_rfl) (by kernel_rfl) (by kernel_rfl) rfl rfl (Wanted.plain rfl) (Val.of rfl) ?_
  refine DR.take 2 rfl (by repeat (first | exact List.nil_sublist _ | exact List.Sublist.refl _ | apply List.Sublist.cons_cons | apply List.Sublist.cons)) inferInstance (by kernel_rfl) (by kernel_rfl) (by kernel_rfl) (by kernel_rfl) rfl rfl (Wanted.plain rfl) (Val.eq (Val.sliceS' tabOk 0 (cut l.length) rfl rfl rfl rfl rfl (.inl ⟨rfl, rfl⟩) (.inr ⟨_, rfl, rfl⟩) (by omega) (by omega) (by omega) rfl) (show _ = Value.slice (some ad) (cut l.length) c from by rw [Nat.zero_mul, add_zero_, Nat.sub_zero, Nat.sub_zero])) ?_
  refine DR.take 3 rfl (by repeat (first | exact List.nil_sublist _ | exact List.Sublist.refl _ | apply List.Sublist.cons_cons | apply List.Sublist.cons)) inferInstance (by kernel_rfl) (by kernel_rfl) (by kernel_rfl) (by kernel_rfl) rfl rfl (Wanted.plain rfl) (Val.of rfl) ?_
  refine DR.take 4 rfl (by repeat (first | exact List.nil_sublist _ | exact List.Sublist.refl _ | apply List.Sublist.cons_cons | apply List.Sublist.cons)) inferInstance (by kernel_rfl) (by kernel_rfl) (by kernel_rfl) (by kernel_rfl) rfl rfl (Wanted.plain rfl) (Val.of rfl) ?_
  refine DR.take 5 rfl (by repeat (first | exact List.nil_sublist _ | exact List.Sublist.refl _ | apply List.Sublist.cons_cons | apply List.Sublist.cons)) inferInstance (by kernel_rfl) (by kernel_rfl) (by kernel_rfl) (by kernel_rfl) rfl rfl (Wanted.plain rfl) (Val.sliceS' tabOk (cut l.length) l.length rfl rfl rfl rfl rfl (.inr ⟨_, rfl, rfl⟩) (.inl ⟨rfl, rfl⟩) (by omega) (by omega) (by omega) rfl) ?_
  refine DR.take 6 rfl (by repeat (first | exact List.nil_sublist _ | exact List.Sublist.refl _ | apply List.Sublist.cons_cons | apply List.Sublist.cons)) inferInstance (by kernel_rfl) (by kernel_rfl) (by kernel_rfl) (by kernel_rfl) rfl rfl (Wanted.plain rfl) (Val.of rfl) ?_
  refine DR.take 7 rfl (by repeat (first | exact List.nil_sublist _ | exact List.Sublist.refl _ | apply List.Sublist.cons_cons | apply List.Sublist.cons)) inferInstance (by kernel_rfl) (by kernel_rfl) (by kernel_rfl) (by kernel_rfl) rfl rfl (Wanted.plain rfl) (Val.of rfl) ?_
  refine DR.done (by kernel_rfl) (RQ.next ?_)
  (repeat refine RC.seq ?_); refine RC.region ?_
  refine Run.v rfl rfl rfl (Val.of rfl) ?_
  refine Run.v rfl rfl rfl (Val.of rfl) ?_
  refine Run.v rfl rfl rfl (Val.eq (Val.of rfl) (show _ = Value.bool (decide (cut l.length ≤ i)) from congrArg Value.bool (by rw [decide_eq_decide]; omega))) ?_
  refine Run.nil (RQ.next ?_)
  (repeat refine RC.seq ?_); refine RC.cond rfl (fun h => ?_) (fun h => ?_)
  · have hk := of_decide_eq_true h
    clear h
    obtain ⟨f1, f2⟩ := prov_good (l := l.drop (cut l.length)) (i := i - cut l.length) (by omega) (by omega)
    have ihh := ih2 ((i - cut l.length : Nat) : Int)
    rw [f1, f2] at ihh
    rw [mprove_right (by omega) hk]
    have hml := mprove_len _ (l.drop (cut l.length)) (i - cut l.length) rfl (by omega)
    have hmb := turnsN_le _ (i - cut l.length) (l.length - cut l.length) rfl
    rw [lt2] at hml
    (repeat refine RC.seq ?_); refine RC.region ?_
    refine Run.v rfl rfl rfl (Val.of rfl) ?_
    refine Run.v rfl rfl rfl (Val.of rfl) ?_
    refine Run.v rfl rfl rfl (Val.of rfl) ?_
    refine Run.v rfl rfl rfl (Val.of rfl) ?_
    refine Run.v rfl rfl rfl (Val.eq (Val.ar rfl rfl rfl rfl (by dsimp only [inK]; omega)) (show _ = Value.int .i64 ((i - cut l.length : Nat) : Int) from by congr 1; omega)) ?_
    refine Run.v rfl rfl rfl (Val.of rfl) ?_
    refine Run.v rfl rfl rfl (Val.of rfl) ?_
    refine Run.v rfl rfl rfl (Val.of rfl) ?_
    refine Run.nil (RQ.next ?_)
    (repeat refine RC.seq ?_); refine RC.region ?_
    refine Run.v rfl rfl rfl (Val.of rfl) ?_
    refine Run.v rfl rfl rfl (Val.of rfl) ?_
    refine Run.op rfl (OpTo.callMk2 Tryd.func34 rfl rfl rfl rfl rfl rfl (fun w' hm => ihh _ w' (hdp.mem hm) (hK.fr hm.fr (by simp)))) ?_
    rintro ⟨⟨vp, blp⟩, hownp⟩
    dsimp only at hownp ⊢
    refine Run.v rfl rfl rfl (Val.of rfl) ?_
    refine Run.v rfl rfl rfl (Val.of rfl) ?_
    refine Run.v rfl rfl rfl (Val.of rfl) ?_
    refine Run.v rfl rfl rfl (Val.of rfl) ?_
    refine Run.v rfl rfl rfl (Val.of rfl) ?_
    refine Run.nil (RQ.next ?_)
    (repeat refine RC.seq ?_); refine RC.region ?_
    refine Run.v rfl rfl rfl (Val.of rfl) ?_
    refine Run.v rfl rfl rfl (Val.of rfl) ?_
    refine Run.callV Tryd.func38 rfl rfl rfl rfl rfl rfl rfl (fun w' hm => hR1 _ w' (ht.mem hm) (hK.fr hm.fr (by simp))) ?_
    rw [r1]
    generalize mroot (l.take (cut l.length)) = dg at *
    refine Run.mk rfl rfl rfl (New.buildSlice tabOk (parts := [(0, .tmp 52)]) (cells := (u8s dg).toArray) rfl rfl rfl rfl rfl rfl (fillS_one _ _ dg s1)) ?_
    intro bb
    refine Run.op rfl (OpTo.append tabOk hownp (Src.at ⟨bb, 0, none⟩ 1 1 (u8s dg) (by rw [u8s_len, s1]; rfl) (Rd.rowAll m0)) rfl rfl rfl rfl rfl rfl rfl rfl rfl (List.perm_middle.symm) (u8s_one _) (by unfold maxLen; omega) (by simp only [ti23]; omega)) ?_
    rintro ⟨⟨vq, blq⟩, hownq⟩
    refine Run.v rfl rfl rfl (Val.of rfl) ?_
    refine Run.v rfl rfl rfl (Val.of rfl) ?_
    refine Run.v rfl rfl rfl (Val.of rfl) ?_
    refine Run.nil (RQ.next ?_)
    refine RC.ret ?_; (repeat first | refine RQ.thenRet ?_ | refine RQ.blockRet ?_)
    exact RQ.ret2 rfl (Res.tmp rfl) (Res.tmp rfl) fun w' hm => Makes2.of (by have h9 : Own 23 8 vq _ _ blq := hownq; rw [← u8s_app] at h9; simpa [List.flatten_append] using h9) hm
  · have hk : i < cut l.length := by have := of_decide_eq_false h; omega
    clear h
    obtain ⟨f1, f2⟩ := prov_good (l := l.take (cut l.length)) (i := i) (by omega) (by omega)
    have ihh := ih1 (i : Int)
    rw [f1, f2] at ihh
    rw [mprove_left (by omega) hk]
    have hml := mprove_len _ (l.take (cut l.length)) i rfl (by omega)
    have hmb := turnsN_le _ i (cut l.length) rfl
    rw [lt1] at hml
    refine RC.skip (RQ.next ?_)
    (repeat refine RC.seq ?_); refine RC.region ?_
    refine Run.v rfl rfl rfl (Val.of rfl) ?_
    refine Run.v rfl rfl rfl (Val.of rfl) ?_
    refine Run.op rfl (OpTo.callMk2 Tryd.func34 rfl rfl rfl rfl rfl rfl (fun w' hm => ihh _ w' (ht.mem hm) (hK.fr hm.fr (by simp)))) ?_
    rintro ⟨⟨vp, blp⟩, hownp⟩
    dsimp only at hownp ⊢
    refine Run.v rfl rfl rfl (Val.of rfl) ?_
    refine Run.v rfl rfl rfl (Val.of rfl) ?_
    refine Run.v rfl rfl rfl (Val.of rfl) ?_
    refine Run.v rfl rfl rfl (Val.of rfl) ?_
    refine Run.v rfl rfl rfl (Val.of rfl) ?_
    refine Run.nil (RQ.next ?_)
    (repeat refine RC.seq ?_); refine RC.region ?_
    refine Run.v rfl rfl rfl (Val.of rfl) ?_
    refine Run.v rfl rfl rfl (Val.of rfl) ?_
    refine Run.callV Tryd.func38 rfl rfl rfl rfl rfl rfl rfl (fun w' hm => hR2 _ w' (hdp.mem hm) (hK.fr hm.fr (by simp))) ?_
    rw [r2]
    generalize mroot (l.drop (cut l.length)) = dg at *
    refine Run.mk rfl rfl rfl (New.buildSlice tabOk (parts := [(0, .tmp 52)]) (cells := (u8s dg).toArray) rfl rfl rfl rfl rfl rfl (fillS_one _ _ dg s2)) ?_
    intro bb
    refine Run.op rfl (OpTo.append tabOk hownp (Src.at ⟨bb, 0, none⟩ 1 1 (u8s dg) (by rw [u8s_len, s2]; rfl) (Rd.rowAll m0)) rfl rfl rfl rfl rfl rfl rfl rfl rfl (List.perm_middle.symm) (u8s_one _) (by unfold maxLen; omega) (by simp only [ti23]; omega)) ?_
    rintro ⟨⟨vq, blq⟩, hownq⟩
    refine Run.v rfl rfl rfl (Val.of rfl) ?_
    refine Run.v rfl rfl rfl (Val.of rfl) ?_
    refine Run.v rfl rfl rfl (Val.of rfl) ?_
    refine Run.nil (RQ.next ?_)
    refine RC.ret ?_; (repeat first | refine RQ.thenRet ?_ | refine RQ.blockRet ?_)
    exact RQ.ret2 rfl (Res.tmp rfl) (Res.tmp rfl) fun w' hm => Makes2.of (by have h9 : Own 23 8 vq _ _ blq := hownq; rw [← u8s_app] at h9; simpa [List.flatten_append] using h9) hm
end Go.Proofs.YtilfbomjaflbjaaDoor
