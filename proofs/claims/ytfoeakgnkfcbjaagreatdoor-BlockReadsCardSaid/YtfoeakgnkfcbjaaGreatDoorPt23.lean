/- Lemmas. -/
import Derived.Test.YtfoeakgnkfcbjaaGreatDoorPt22
set_option linter.unusedSimpArgs false
set_option linter.unusedVariables false
section
/- tx: readers: what a reader's call comes to; Num, Hash, row. -/
namespace Go.Proofs.YtfoeakgnkfcbjaaGreatDoor
open Go Go.Vc Go.Sha
/-- The bytes that are read, beside these blocks. -/
structure InB (w : World) (X : List Nat) (a : Option Addr) (l : List Nat) : Prop where
  len : l.length ≤ 131072
  bt : Bt l
  src : SrcW w 1 (.slice a l.length l.length) l.length (u8s l)
  away : 0 < l.length → ∀ ad, a = some ad → ad.block ∉ X
theorem SrcW.zero {w w' : World} {sz : Nat} {v : Value} {cs : List Value} (h : SrcW w sz v 0 cs) : SrcW w' sz v 0 cs := by
  cases h with
  | nil => exact .nil
  | «at» ad _ _ _ hl hc hr => exact .at ad _ _ _ hl hc fun j u hj => absurd (List.getElem?_eq_some_iff.1 hj).1 (by omega)
theorem InB.sub {w w' : World} {S0 X : List Nat} {L : Hp} {a : Option Addr} {l : List Nat} (h : InB w S0 a l) (hm : Mem w S0 L w') (hX : ∀ b ∈ X, b ∈ L.map (·.1)) : InB w' X a l := by
  by_cases h0 : 0 < l.length
  · obtain ⟨ad, c, hv, hc, hcl, hr⟩ := h.src.pos h0
    cases hv
    have hS := h.away h0 ad rfl
    have hlt : ad.block < w.heap.size := by
      have h1 := World.block_lt_of_cell? w _ (hr 0 _ (List.getElem?_eq_getElem (by rw [hcl]; omega)))
      rwa [add_block] at h1
    refine ⟨h.len, h.bt, .at ad _ _ _ hcl hc fun j u hj => hm.fr.cell (by rw [add_block]; exact hS) (hr j u hj), fun _ ad' he hin => ?_⟩
    cases he
    obtain ⟨p, hp, e⟩ := List.mem_map.1 (hX _ hin)
    rcases hm.own p hp with ho | ho
    · omega
    · exact hS (e ▸ ho)
  · have hz : l.length = 0 := by omega
    have hsz : SrcW w' 1 (.slice a l.length l.length) l.length (u8s l) := by
      have := h.src
      rw [hz] at this ⊢
      exact SrcW.zero this
    exact ⟨h.len, h.bt, hsz, fun h' => absurd h' h0⟩
/-- The reader, with so much left. -/
abbrev RdS (a : Option Addr) (l r : List Nat) : Obj := RdC a l.length (l.length - r.length)
/-- How a reading call ends: with what is read, or short. -/
def RdsQ (w : World) (rb : Nat) (a : Option Addr) (l : List Nat) (Ex : Hp) {α : Type} (res : Option (α × List Nat)) (Y : α → Type) (V : (x : α) → Y x → Value) (L' : (x : α) → Y x → Hp) (e : Ending) (w' : World) : Prop :=
  match res with
  | some (x, r') => ∃ y : Y x, e = .returned (V x y) ∧ Fr (rb :: Ex.map (·.1)) w w' ∧ Has ((rb, RdS a l r') :: L' x y) w' ∧ (∀ p ∈ (rb, RdS a l r') :: L' x y, w.heap.size ≤ p.1 ∨ p.1 ∈ rb :: Ex.map (·.1)) ∧ (((rb, RdS a l r') :: L' x y).map (·.1)).Nodup
  | none => ∃ k, k ≤ l.length ∧ e = .panicked shortP ∧ Fr (rb :: Ex.map (·.1)) w w' ∧ w'.heap[rb]? = some (RdC a l.length k)
/-- A function that reads. -/
def RdsC (f : FuncId) (vs : List Value) (rb : Nat) (a : Option Addr) (l r : List Nat) (Ex : Hp) {α : Type} (res : Option (α × List Nat)) (Y : α → Type) (V : (x : α) → Y x → Value) (L' : (x : α) → Y x → Hp) : Prop :=
  ∀ w, InB w (rb :: Ex.map (·.1)) a l → Has ((rb, RdS a l r) :: Ex) w → (((rb, RdS a l r) :: Ex).map (·.1)).Nodup → Calls Tryz.prog f vs.toArray w (RdsQ w rb a l Ex res Y V L')
section
variable {rb : Nat} {a : Option Addr} {l r r' : List Nat} {Ex : Hp} {α : Type} {res : Option (α × List Nat)} {Y : α → Type} {V : (x : α) → Y x → Value} {L' : (x : α) → Y x → Hp}
theorem RdsQ.fin {w w' : World} {L1 Lr : Hp} {x : α} (h : res = some (x, r')) (y : Y x) (hm : Mem w (rb :: Ex.map (·.1)) L1 w') (hp : L1.Perm (((rb, RdS a l r') :: L' x y) ++ Lr)) : RdsQ w rb a l Ex res Y V L' (.returned (V x y)) w' := by
  subst h
  have hm' := hm.perm hp
  refine ⟨y, rfl, hm.fr, fun p hp => hm'.has p (List.mem_append_left _ hp), fun p hp => hm'.own p (List.mem_append_left _ hp), ?_⟩
  have := hm'.nd
  rw [List.map_append] at this
  exact (List.nodup_append.1 this).1
theorem RdsQ.pan {w w' : World} {L1 Lr : Hp} (h : res = none) {k : Nat} (hk : k ≤ l.length) (hm : Mem w (rb :: Ex.map (·.1)) ((rb, RdC a l.length k) :: Lr) w') : RdsQ w rb a l Ex res Y V L' (.panicked shortP) w' := by
  subst h
  exact ⟨k, hk, rfl, hm.fr, hm.has _ List.mem_cons_self⟩
theorem RQ.panR {n : Nat} {w : World} {E : Env} {Lr : Hp} {fn : Func} (h : res = none) {k : Nat} (hk : k ≤ l.length) : RQ n w (rb :: Ex.map (·.1)) (.panic shortP) (bodyPost Tryz.prog fn (RdsQ w rb a l Ex res Y V L')) E ((rb, RdC a l.length k) :: Lr) :=
  RQ.panic fun w' hm => RdsQ.pan (L1 := []) h hk hm
section
variable {n : Nat} {w0 : World} {S0 : List Nat} {Q : Exit → Act → World → Prop} {E : Env} {L Lr : Hp} {o : Oper} {d : Nat}
theorem RdsC.at {f : FuncId} {vs : List Value} (hC : RdsC f vs rb a l r Ex res Y V L') (hI : InB w0 S0 a l) (hL : L.Perm (((rb, RdS a l r) :: Ex) ++ Lr)) {w : World} (hm : Mem w0 S0 L w) : Calls Tryz.prog f vs.toArray w (RdsQ w rb a l Ex res Y V L') := by
  obtain ⟨h1, h2⟩ := hasFs hL hm
  refine hC w (hI.sub (hm.perm hL) fun b hb => ?_) h1 h2
  rw [List.map_append]
  exact List.mem_append_left _ hb
theorem RdsQ.yes {w w' : World} {x : α} (h : res = some (x, r')) (hL : L.Perm (((rb, RdS a l r) :: Ex) ++ Lr)) (hm : Mem w0 S0 L w) {e : Ending} (hq : RdsQ w rb a l Ex res Y V L' e w') : ∃ y : Y x, e = .returned (V x y) ∧ Mem w0 S0 (((rb, RdS a l r') :: L' x y) ++ Lr) w' := by
  subst h
  obtain ⟨y, rfl, hfr, hbl, hnew, hnd⟩ := hq
  exact ⟨y, rfl, Turns.join hm hL hfr hbl hnew hnd⟩
theorem RdsQ.no {w w' : World} (h : res = none) (hL : L.Perm (((rb, RdS a l r) :: Ex) ++ Lr)) (hm : Mem w0 S0 L w) {e : Ending} (hq : RdsQ w rb a l Ex res Y V L' e w') : ∃ z : {k : Nat // k ≤ l.length}, e = .panicked shortP ∧ Mem w0 S0 ((rb, RdC a l.length z.1) :: Lr) w' := by
  subst h
  obtain ⟨k, hk, rfl, hfr, hb⟩ := hq
  exact ⟨⟨k, hk⟩, rfl, Turns.join (L1 := [(rb, RdC a l.length k)]) hm hL hfr (fun p hp => by rw [List.mem_singleton] at hp; subst hp; exact hb) (fun p hp => by rw [List.mem_singleton] at hp; subst hp; exact .inr List.mem_cons_self) (by simp)⟩
/-- A call that reads. -/
theorem callRs {f : FuncId} {xs : List Operand} {ts : Array TypeId} {fn : Func} {vs : List Value} {x : α} (hf : Tryz.prog.funcs[f]? = some fn) (hC : RdsC f vs rb a l r Ex res Y V L') (hI : InB w0 S0 a l) (hL : L.Perm (((rb, RdS a l r) :: Ex) ++ Lr)) (h : res = some (x, r'))
    (hd : o.dst = some d := by exact rfl) (hn : Nat.blt d n = true := by exact rfl) (ho : o.op = .call { callee := .value (.func f), args := xs.toArray, argTypes := ts } := by exact rfl) (hnm : (fn.name == "runtime.NumGoroutine") = false := by exact rfl) (hb : fn.body.isNone = false := by exact rfl)
    (hx : lkAll E xs = some vs := by exact rfl) : OpTo Tryz.prog n w0 S0 Q E L o (Y := Y x) (fun y => (d, V x y) :: E) (fun y => ((rb, RdS a l r') :: L' x y) ++ Lr) :=
  OpTo.callP (Y := Y x) (Z := Empty) (V := V x) (L' := fun y => ((rb, RdS a l r') :: L' x y) ++ Lr) (C := fun z => z.elim) (Lp := fun z => z.elim) hf (fun w hm => (hC.at hI hL hm).mono fun e w' hq => .inl (hq.yes h hL hm)) (fun z => z.elim) hd hn ho hnm hb hx
/-- A call that reads, and ends short. -/
theorem callRn {f : FuncId} {xs : List Operand} {ts : Array TypeId} {fn : Func} {vs : List Value} (hf : Tryz.prog.funcs[f]? = some fn) (hC : RdsC f vs rb a l r Ex res Y V L') (hI : InB w0 S0 a l) (hL : L.Perm (((rb, RdS a l r) :: Ex) ++ Lr)) (h : res = none)
    (hp : ∀ k, k ≤ l.length → RQ n w0 S0 (.panic shortP) Q E ((rb, RdC a l.length k) :: Lr))
    (hd : o.dst = some d := by exact rfl) (hn : Nat.blt d n = true := by exact rfl) (ho : o.op = .call { callee := .value (.func f), args := xs.toArray, argTypes := ts } := by exact rfl) (hnm : (fn.name == "runtime.NumGoroutine") = false := by exact rfl) (hb : fn.body.isNone = false := by exact rfl)
    (hx : lkAll E xs = some vs := by exact rfl) : OpTo Tryz.prog n w0 S0 Q E L o (Y := Empty) (fun y => y.elim) (fun y => y.elim) := by
  have h1 := OpTo.callP (P := Tryz.prog) (Q := Q) (Y := Empty) (Z := {k : Nat // k ≤ l.length}) (V := fun y => y.elim) (L' := fun y => y.elim) (C := fun _ => shortP) (Lp := fun z => (rb, RdC a l.length z.1) :: Lr) hf (fun w hm => (hC.at hI hL hm).mono fun e w' hq => .inr (hq.no h hL hm)) (fun z => hp z.1 z.2) hd hn ho hnm hb hx
  intro ac w hs hm K hK
  exact h1 ac w hs hm K (fun y => y.elim)
/-- The same, of a function value. -/
theorem callFs {f : FuncId} {x : Operand} {xs : List Operand} {ts : Array TypeId} {fn : Func} {vs first cap : List Value} {z : α} (all : List Value) (hf : Tryz.prog.funcs[f]? = some fn) (hC : RdsC f all rb a l r Ex res Y V L') (hI : InB w0 S0 a l) (hL : L.Perm (((rb, RdS a l r) :: Ex) ++ Lr)) (h : res = some (z, r'))
    (hd : o.dst = some d := by exact rfl) (hn : Nat.blt d n = true := by exact rfl) (ho : o.op = .call { callee := .value x, args := xs.toArray, argTypes := ts } := by exact rfl) (hfv : lk E x = some (.func (.func f) first.toArray cap.toArray) := by exact rfl) (hnm : (fn.name == "runtime.NumGoroutine") = false := by exact rfl) (hb : fn.body.isNone = false := by exact rfl)
    (hx : lkAll E xs = some vs := by exact rfl) (hall : first.toArray ++ vs.toArray ++ cap.toArray = all.toArray := by exact rfl) : OpTo Tryz.prog n w0 S0 Q E L o (Y := Y z) (fun y => (d, V z y) :: E) (fun y => ((rb, RdS a l r') :: L' z y) ++ Lr) := by
  refine OpTo.callF (Y := Y z) (Z := Empty) (V := V z) (L' := fun y => ((rb, RdS a l r') :: L' z y) ++ Lr) (C := fun z => z.elim) (Lp := fun z => z.elim) hf (fun w hm => ?_) (fun z => z.elim) hd hn ho hfv hnm hb hx
  unfold Go.Vc.Ends
  rw [hall]
  exact (hC.at hI hL hm).mono fun e w' hq => .inl (hq.yes h hL hm)
theorem callFn {f : FuncId} {x : Operand} {xs : List Operand} {ts : Array TypeId} {fn : Func} {vs first cap : List Value} (all : List Value) (hf : Tryz.prog.funcs[f]? = some fn) (hC : RdsC f all rb a l r Ex res Y V L') (hI : InB w0 S0 a l) (hL : L.Perm (((rb, RdS a l r) :: Ex) ++ Lr)) (h : res = none)
    (hp : ∀ k, k ≤ l.length → RQ n w0 S0 (.panic shortP) Q E ((rb, RdC a l.length k) :: Lr))
    (hd : o.dst = some d := by exact rfl) (hn : Nat.blt d n = true := by exact rfl) (ho : o.op = .call { callee := .value x, args := xs.toArray, argTypes := ts } := by exact rfl) (hfv : lk E x = some (.func (.func f) first.toArray cap.toArray) := by exact rfl) (hnm : (fn.name == "runtime.NumGoroutine") = false := by exact rfl) (hb : fn.body.isNone = false := by exact rfl)
    (hx : lkAll E xs = some vs := by exact rfl) (hall : first.toArray ++ vs.toArray ++ cap.toArray = all.toArray := by exact rfl) : OpTo Tryz.prog n w0 S0 Q E L o (Y := Empty) (fun y => y.elim) (fun y => y.elim) := by
  have h1 := OpTo.callF (P := Tryz.prog) (Q := Q) (Y := Empty) (Z := {k : Nat // k ≤ l.length}) (V := fun y => y.elim) (L' := fun y => y.elim) (C := fun _ => shortP) (Lp := fun z => (rb, RdC a l.length z.1) :: Lr) hf (fun w hm => by
    unfold Go.Vc.Ends
    rw [hall]
    exact (hC.at hI hL hm).mono fun e w' hq => .inr (hq.no h hL hm)) (fun z => hp z.1 z.2) hd hn ho hfv hnm hb hx
  intro ac w hs hm K hK
  exact h1 ac w hs hm K (fun y => y.elim)
end
end
theorem Good.sfx {α : Type} {P : Ps α} {E : α → List Nat} {R : α → Prop} (g : Good P E R) {l r r' : List Nat} {x : α} (hl : Bt l) (hr : r <:+ l) (h : P r = some (x, r')) : r' <:+ l := by
  have hb : Bt r := fun y hy => hl y (hr.mem hy)
  rw [(g.b r x r' hb h).1] at hr
  exact (List.suffix_append _ _).trans hr
/-- Numbers. -/
theorem rdNum (k : Nat) (hk : 1 ≤ k ∧ k ≤ 7) (rb : Nat) (a : Option Addr) (l r : List Nat) (hr : r <:+ l) : RdsC 44 [.pointer (some ⟨rb, 0, none⟩), .int .i64 k] rb a l r [] (pN k r) (fun _ => Unit) (fun x _ => .int .i64 x) (fun _ _ => []) := by
  intro w hI hw hnd
  have hrl := hr.length_le
  have hlen := hI.len
  have hs := hw (rb, RdS a l r) List.mem_cons_self
  by_cases h : k ≤ r.length
  · obtain ⟨ad, c, hv, hc, hcl, hrd⟩ := hI.src.pos (by omega)
    cases hv
    have hne : ad.block ≠ rb := fun e => hI.away (by omega) ad rfl (by rw [e]; exact List.mem_cons_self)
    have hpre : r = l.drop (l.length - r.length) := by
      obtain ⟨p, rfl⟩ := hr
      rw [List.length_append, Nat.add_sub_cancel, List.drop_left]
    have hN := RNum_ok rb l.length (l.length - r.length) k ad hne (by omega) hk (by omega) (r.take k) (by rw [List.length_take]; omega) (fun x hx => hI.bt x (hr.mem (List.mem_of_mem_take hx))) w hs (fun j u hj => hrd _ u (by
      rw [u8s_take, List.getElem?_take] at hj
      split at hj
      · rw [hpre, u8s_drop, List.getElem?_drop] at hj; exact hj
      · cases hj))
    refine hN.mono ?_
    rintro e w' ⟨_, rfl, hfr, hbl, hnew, hn⟩
    have e1 : pN k r = some ((num8 (r.take k) : Int), r.drop k) := if_pos h
    rw [e1]
    have e2 : l.length - r.length + k = l.length - (r.drop k).length := by rw [List.length_drop]; omega
    rw [e2] at hbl hnew hn
    exact ⟨(), rfl, hfr, hbl, hnew, hn⟩
  · have hN := RNum_short rb l.length l.length (l.length - r.length) k a (by omega) (by omega) hk (by omega) w hs
    refine hN.mono ?_
    rintro e w' ⟨rfl, hfr⟩
    rw [show pN k r = none from if_neg h]
    exact ⟨l.length - r.length, by omega, rfl, hfr.any _, (hfr.block rb (Array.getElem?_eq_some_iff.1 hs).1 (by simp)).trans hs⟩
/-- Hashes. -/
theorem pB_some {k : Nat} {r : List Nat} (h : k ≤ r.length) (hb : Bt r) : ∃ p, pB k r = some (⟨r.take k, p⟩, r.drop k) := by
  have p : (r.take k).length = k ∧ ∀ x ∈ r.take k, x < 256 := ⟨by rw [List.length_take]; omega, hb.take k⟩
  exact ⟨p, dif_pos p⟩
theorem pB_none {k : Nat} {r : List Nat} (h : r.length < k) : pB k r = none := dif_neg fun p => by
  have := p.1
  rw [List.length_take] at this
  omega
theorem rdHash (rb : Nat) (a : Option Addr) (l r : List Nat) (hr : r <:+ l) : RdsC 42 [.pointer (some ⟨rb, 0, none⟩)] rb a l r [] (pB 8 r) (fun _ => Unit) (fun x _ => .agg (u8s x.1).toArray) (fun _ _ => []) := by
  intro w hI hw hnd
  have hrl := hr.length_le
  have hlen := hI.len
  have hs := hw (rb, RdS a l r) List.mem_cons_self
  by_cases h : 8 ≤ r.length
  · obtain ⟨ad, c, hv, hc, hcl, hrd⟩ := hI.src.pos (by omega)
    cases hv
    have hne : ad.block ≠ rb := fun e => hI.away (by omega) ad rfl (by rw [e]; exact List.mem_cons_self)
    have hpre : r = l.drop (l.length - r.length) := by
      obtain ⟨p, rfl⟩ := hr
      rw [List.length_append, Nat.add_sub_cancel, List.drop_left]
    have hN := RHash_ok rb l.length (l.length - r.length) ad hne (by omega) (by omega) (r.take 8) (by rw [List.length_take]; omega) w hs (fun j u hj => hrd _ u (by
      rw [u8s_take, List.getElem?_take] at hj
      split at hj
      · rw [hpre, u8s_drop, List.getElem?_drop] at hj; exact hj
      · cases hj))
    refine hN.mono ?_
    rintro e w' ⟨_, rfl, hfr, hbl, hnew, hn⟩
    obtain ⟨p, e1⟩ := pB_some h (fun x hx => hI.bt x (hr.mem hx))
    rw [e1]
    have e2 : l.length - r.length + 8 = l.length - (r.drop 8).length := by rw [List.length_drop]; omega
    rw [e2] at hbl hnew hn
    exact ⟨(), rfl, hfr, hbl, hnew, hn⟩
  · have hN := RHash_short rb l.length l.length (l.length - r.length) a (by omega) (by omega) (by omega) w hs
    refine hN.mono ?_
    rintro e w' ⟨rfl, hfr⟩
    rw [pB_none (by omega)]
    exact ⟨l.length - r.length, by omega, rfl, hfr.any _, (hfr.block rb (Array.getElem?_eq_some_iff.1 hs).1 (by simp)).trans hs⟩
end Go.Proofs.YtfoeakgnkfcbjaaGreatDoor

/- tx: the reader: row, and what has no lists (gen_txz.py prints it). -/
namespace Go.Vc
open Go Go.Sha
theorem fill_first {place : Nat → Option (Nat × Nat)} {z : Array Value} {u : Value} {F : List Value} {a : Nat} (h0 : place 0 = some (0, a)) (hu : u.cells.size = a) (hz : a ≤ z.size) (hF : u.cells.toList ++ z.toList.drop a = F) : Instr.fill place z [(0, u)] = some F.toArray := by
  have e0 : wrAt z 0 u.cells.toList = (u.cells.toList ++ z.toList.drop a).toArray := by
    unfold wrAt
    simp [hu]
  rw [fill_step (off := 0) (by rw [h0, hu]) (by omega), e0, hF]
  rfl
theorem wr_at' {F F' pre old new post : List Value} {off : Nat} (e : F = pre ++ (old ++ post)) (e' : F' = pre ++ (new ++ post)) (hl : old.length = new.length) (ho : pre.length = off) : wrAt F.toArray off new = F'.toArray := by
  rw [e, e', ← List.append_assoc, ← List.append_assoc]
  exact wr_mid' pre old new post hl off ho.symm
end Go.Vc
namespace Go.Proofs.YtfoeakgnkfcbjaaGreatDoor
attribute [local irreducible] Go.Vc.Run Go.Vc.RC Go.Vc.RQ Go.Vc.DR Go.Vc.DOp Go.Vc.Knows Go.Vc.At
set_option maxHeartbeats 400000
set_option maxRecDepth 10000
open Go Go.Vc Go.Sha
theorem pB_split {k : Nat} {r : List Nat} {x : By k} {r' : List Nat} (h : pB k r = some (x, r')) : k ≤ r.length ∧ x.1 = r.take k ∧ r' = r.drop k := by
  unfold pB at h
  split at h
  · rename_i p
    have h1 := p.1
    rw [List.length_take] at h1
    simp only [Option.some.injEq, Prod.mk.injEq] at h
    exact ⟨by omega, by rw [← h.1], h.2.symm⟩
  · cases h
/-- Hashes, one behind the other. -/
theorem rdRow (m : Nat) (hm1 : m ≤ 1000) (pre old post : List Value) (hold : old.length = m * 8) (b : Nat) (e : TypeId) (rb : Nat) (a : Option Addr) (l r : List Nat) (hr : r <:+ l) : RdsC 154 [.agg #[.pointer (some ⟨rb, 0, none⟩)], .slice (some ⟨b, pre.length, none⟩) m m] rb a l r [(b, Obj.cells (pre ++ (old ++ post)).toArray e (0, 0))] (pB (m * 8) r) (fun _ => Unit) (fun _ _ => .tuple #[]) (fun x _ => [(b, Obj.cells (pre ++ (u8s x.1 ++ post)).toArray e (0, 0))]) := by
  intro w hI hw hnd
  refine enter Tryz.func154 rfl (Mem.init (S0 := rb :: ([(b, Obj.cells (pre ++ (old ++ post)).toArray e (0, 0))] : Hp).map (·.1)) hw (fun p hp => List.mem_map_of_mem hp) hnd) rfl ?_
  have hbl := hI.bt
  have hbr : Bt r := fun x hx => hbl x (hr.mem hx)
  have hrl := hr.length_le
  refine z_ ?_
  refine Run.nw nbx ?_
  intro b2
  refine x_ ?_
  refine RC.up m (D := Unit) (fun k _ => k * 8 ≤ r.length) (fun k _ => [(7, .int .i64 k), (6, .int .i64 m), (2, .pointer (some ⟨b2, 0, none⟩)), (1, .slice (some ⟨b, pre.length, none⟩) m m)]) (fun k _ => [(b2, Obj.cells #[.pointer (some ⟨rb, 0, none⟩)] 131 (0, 0)), (rb, RdS a l (r.drop (k * 8))), (b, Obj.cells (pre ++ ((u8s (r.take (k * 8)) ++ old.drop (k * 8)) ++ post)).toArray e (0, 0))]) 0 () (Nat.zero_le _) (by omega) ⟨rfl, rfl, rfl, rfl, trivial⟩ (by rw [Nat.zero_mul, List.drop_zero, List.take_zero, List.drop_zero]; exact List.Sublist.refl _) ?_
  intro k _ hk hkr
  refine x_ ?_
  (repeat refine RC.seq ?_); refine RC.wh rfl (fun h => RQ.next ?_) (fun h => ?_)
  · have hk' : k < m := by have := of_decide_eq_true h; omega
    clear h
    have hrk : r.drop (k * 8) <:+ l := (List.drop_suffix _ _).trans hr
    refine x_ ?_
    have hp1 : ([(b2, Obj.cells #[.pointer (some ⟨rb, 0, none⟩)] 131 (0, 0)), (rb, RdS a l (r.drop (k * 8))), (b, Obj.cells (pre ++ ((u8s (r.take (k * 8)) ++ old.drop (k * 8)) ++ post)).toArray e (0, 0))] : Hp).Perm (((rb, RdS a l (r.drop (k * 8))) :: []) ++ [(b2, Obj.cells #[.pointer (some ⟨rb, 0, none⟩)] 131 (0, 0)), (b, Obj.cells (pre ++ ((u8s (r.take (k * 8)) ++ old.drop (k * 8)) ++ post)).toArray e (0, 0))]) := (perm_of fun f => by (simp only [List.map_append, List.map_cons, List.map_nil, List.sum_append, List.sum_cons, List.sum_nil] <;> omega))
    by_cases h8 : 8 ≤ (r.drop (k * 8)).length
    rotate_left
    · refine Run.op1 (callRn Tryz.func42 (rdHash rb a l (r.drop (k * 8)) hrk) hI hp1 (pB_none (by omega)) (fun k' hk' => ?_)) (fun y => y.elim)
      repeat first | refine RQ.thenPanic ?_ | refine RQ.blockPanic ?_
      exact RQ.panR (pB_none (by rw [List.length_drop] at h8; omega)) hk'
    obtain ⟨p, hq⟩ := pB_some h8 (hbr.drop _)
    refine Run.op1 (callRs Tryz.func42 (rdHash rb a l (r.drop (k * 8)) hrk) hI hp1 hq) (fun _ => ?_)
    rw [List.length_drop] at h8
    have hd : (r.drop (k * 8)).drop 8 = r.drop ((k + 1) * 8) := by rw [List.drop_drop, Nat.add_mul, Nat.one_mul]
    rw [hd]
    dsimp only [List.append_nil, List.cons_append, List.nil_append]
    generalize hh : (r.drop (k * 8)).take 8 = h at p
    have h8l : (u8s h).length = 8 := by rw [u8s_len, p.1]
    have hl1 : (u8s (r.take (k * 8))).length = k * 8 := by rw [u8s_len, List.length_take]; omega
    have hm8 : k * 8 + 8 ≤ m * 8 := by omega
    have hW : wrAt (pre ++ ((u8s (r.take (k * 8)) ++ old.drop (k * 8)) ++ post)).toArray (pre.length + k * 8) (u8s h) = (pre ++ ((u8s (r.take ((k + 1) * 8)) ++ old.drop ((k + 1) * 8)) ++ post)).toArray := by
      refine wr_at' (pre := pre ++ u8s (r.take (k * 8))) (old := (old.drop (k * 8)).take 8) (new := u8s h) (post := old.drop ((k + 1) * 8) ++ post) ?_ ?_ (by rw [List.length_take, List.length_drop, h8l, hold]; omega) (by rw [List.length_append, hl1])
      · rw [show old.drop ((k + 1) * 8) = (old.drop (k * 8)).drop 8 from by rw [List.drop_drop, Nat.add_mul, Nat.one_mul]]
        rw [← List.append_assoc ((old.drop (k * 8)).take 8), List.take_append_drop]
        simp only [List.append_assoc]
      · rw [← take_step, hh, u8s_app]
        simp only [List.append_assoc]
    have hF : pre.length + k * 8 + 8 ≤ (pre ++ ((u8s (r.take (k * 8)) ++ old.drop (k * 8)) ++ post)).toArray.size := by
      simp only [List.size_toArray, List.length_append, hl1, List.length_drop, hold]; omega
    have hS : (u8s h).toArray.size = 8 := by rw [List.size_toArray, h8l]
    refine Run.a (vix k hk' ⟨b, pre.length + k * 8, none⟩) ?_
    refine Run.op1 (ostE (arr := (pre ++ ((u8s (r.take (k * 8)) ++ old.drop (k * 8)) ++ post)).toArray) (e := e) (L' := [(rb, RdS a l (r.drop ((k + 1) * 8))), (b2, Obj.cells #[.pointer (some ⟨rb, 0, none⟩)] 131 (0, 0))]) (pre ++ ((u8s (r.take ((k + 1) * 8)) ++ old.drop ((k + 1) * 8)) ++ post)).toArray (hL := (perm_of fun f => by (simp only [List.map_append, List.map_cons, List.map_nil, List.sum_append, List.sum_cons, List.sum_nil] <;> omega))) (hs := by exact hS) (he := by exact hW) (hf := by exact hF) (h1 := by exact u8s_one h)) (fun _ => ?_)
    refine x_ ?_
    exact RQ.upP (k + 1) () (Nat.lt_succ_self _) hk' (by omega) ⟨rfl, rfl, rfl, rfl, trivial⟩ (L1 := [(b2, Obj.cells #[.pointer (some ⟨rb, 0, none⟩)] 131 (0, 0)), (rb, RdS a l (r.drop ((k + 1) * 8))), (b, Obj.cells (pre ++ ((u8s (r.take ((k + 1) * 8)) ++ old.drop ((k + 1) * 8)) ++ post)).toArray e (0, 0))]) (perm_of fun f => by (simp only [List.map_append, List.map_cons, List.map_nil, List.sum_append, List.sum_cons, List.sum_nil] <;> omega)) (List.Sublist.refl _)
  · have hk' : k = m := by have := of_decide_eq_false h; omega
    clear h
    subst hk'
    rw [List.drop_of_length_le (l := old) (by omega), List.append_nil]
    (repeat refine RQ.thenExit ?_); refine RQ.blockHere ?_
    obtain ⟨p, hq⟩ := pB_some hkr hbr
    exact RQ.end0 rfl fun w' hm => RdsQ.fin (V := fun _ _ => .tuple #[]) (L' := fun x _ => [(b, Obj.cells (pre ++ (u8s x.1 ++ post)).toArray e (0, 0))]) hq () hm (Lr := [(b2, Obj.cells #[.pointer (some ⟨rb, 0, none⟩)] 131 (0, 0))]) (by dsimp only; exact (perm_of fun f => by (simp only [List.map_append, List.map_cons, List.map_nil, List.sum_append, List.sum_cons, List.sum_nil] <;> omega)))
end Go.Proofs.YtfoeakgnkfcbjaaGreatDoor
end
