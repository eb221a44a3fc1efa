/- Lemmas. -/
import Derived.Laws.Cover3
import Derived.Laws.Externs
import Derived.Laws.BytesArg
import Derived.ChangeKeysEq
import Derived.Laws.Small
import Derived.DeepKeys
import Derived.Test.YtfoeakgnkfcbjaaGreatDoorPt02
set_option linter.unusedSimpArgs false
set_option linter.unusedVariables false
section
/- Numbers as cells. -/
namespace Go.Sha
open Go Go.Vc

def u32s (l : List Nat) : List Value := l.map fun n : Nat => Value.int .u32 (n : Int)
def u8s (l : List Nat) : List Value := l.map fun n : Nat => Value.int .u8 (n : Int)
theorem u32s_len (l : List Nat) : (u32s l).length = l.length := by simp [u32s]
theorem u8s_len (l : List Nat) : (u8s l).length = l.length := by simp [u8s]
theorem u32s_at (l : List Nat) (i : Nat) (h : i < l.length) : (u32s l).toArray[i]? = some (.int .u32 (l.getD i 0)) := by
  simp [u32s, List.getD_eq_getElem?_getD, h]
theorem u8s_at (l : List Nat) (i : Nat) (h : i < l.length) : (u8s l)[i]? = some (.int .u8 (l.getD i 0)) := by
  simp [u8s, List.getD_eq_getElem?_getD, h]
theorem u32s_set (l : List Nat) (i x : Nat) (h : i < l.length) : wrAt (u32s l).toArray i [.int .u32 x] = (u32s (l.set i x)).toArray := by
  unfold wrAt
  congr 1
  rw [List.set_eq_take_append_cons_drop, if_pos h]
  simp [u32s]
theorem u32s_one (l : List Nat) : ∀ u ∈ u32s l, u.oneCell' = true := by
  intro u hu
  simp only [u32s, List.mem_map] at hu
  obtain ⟨n, _, rfl⟩ := hu
  rfl
theorem u8s_one (l : List Nat) : ∀ u ∈ u8s l, u.oneCell' = true := by
  intro u hu
  simp only [u8s, List.mem_map] at hu
  obtain ⟨n, _, rfl⟩ := hu
  rfl

theorem u8s_app (a b : List Nat) : u8s (a ++ b) = u8s a ++ u8s b := by simp [u8s]
theorem u8s_take (l : List Nat) (k : Nat) : u8s (l.take k) = (u8s l).take k := by simp [u8s, List.map_take]
theorem u8s_drop (l : List Nat) (k : Nat) : u8s (l.drop k) = (u8s l).drop k := by simp [u8s, List.map_drop]
theorem u8s_set (l : List Nat) (i x : Nat) (h : i < l.length) : wrAt (u8s l).toArray i [.int .u8 x] = (u8s (l.set i x)).toArray := by
  unfold wrAt
  congr 1
  rw [List.set_eq_take_append_cons_drop, if_pos h]
  simp [u8s]
end Go.Sha

/- Slices as arguments and results of calls. -/
namespace Go.Vc
open Go

/-- A slice value of m elements that reads as these cells, in this world. -/
inductive SrcW (w : World) (sz : Nat) : Value → Nat → List Value → Prop
  | nil : SrcW w sz (.slice none 0 0) 0 []
  | at (a : Addr) (m c : Nat) (cs : List Value) (hl : cs.length = m * sz) (hm : m ≤ c) (hr : ∀ j u, cs[j]? = some u → w.cell? (a.add j) = some u) : SrcW w sz (.slice (some a) m c) m cs

theorem SrcW.len {w : World} {sz m : Nat} {v : Value} {cs : List Value} (h : SrcW w sz v m cs) : cs.length = m * sz := by
  cases h with
  | nil => simp
  | «at» _ _ _ _ hl => exact hl
theorem SrcW.shape {w : World} {sz m : Nat} {v : Value} {cs : List Value} (h : SrcW w sz v m cs) : ∃ a c, v = .slice a m c ∧ m ≤ c := by
  cases h with
  | nil => exact ⟨none, 0, rfl, Nat.le_refl _⟩
  | «at» a m c _ _ hm => exact ⟨some a, c, rfl, hm⟩
theorem SrcW.fr {w w' : World} {sz m : Nat} {v : Value} {cs : List Value} (h : SrcW w sz v m cs) (hf : Fr [] w w') : SrcW w' sz v m cs := by
  cases h with
  | nil => exact .nil
  | «at» a m c cs hl hm hr => exact .at a m c cs hl hm (fun j u hj => hf.cell (by simp) (hr j u hj))
section
variable {P : Program} {n : Nat} {w0 : World} {S0 : List Nat} {Q : Exit → Act → World → Prop} {E : Env} {L : Hp} {o : Oper} {d : Nat} {T : List (Nat × TI)} {t : Nat} {ti : TI} {ops : Array Oper} {l rest : List Oper}

theorem SrcW.src {sz m : Nat} {v : Value} {cs : List Value} (h : SrcW w0 sz v m cs) : Src w0 [] L sz v m cs := by
  cases h with
  | nil => exact .nil
  | «at» a m c cs hl hm hr => exact .at a m c cs hl (Rd.old (by simp) hr)
theorem SrcW.mem {sz m : Nat} {v : Value} {cs : List Value} (h : SrcW w0 sz v m cs) {w : World} (hm : Mem w0 [] L w) : SrcW w sz v m cs := h.fr hm.fr
theorem Own.srcW {e : TypeId} {sz : Nat} {v : Value} {m : Nat} {cs : List Value} {bl : Hp} (h : Own e sz v m cs bl) {w : World} (hb : ∀ p ∈ bl, w.heap[p.1]? = some p.2) : SrcW w sz v m cs := by
  cases h with
  | nil => exact .nil
  | row b _ cap _ rest h1 h2 hn _ =>
    refine .at _ _ _ _ h1 hn (fun j u hj => ?_)
    rw [add_lit, cell_of_row w b (0 + j) _ e _ (hb _ (List.mem_singleton.2 rfl)), Nat.zero_add, List.getElem?_toArray, List.getElem?_append_left]
    · exact hj
    · exact (List.getElem?_eq_some_iff.1 hj).1
theorem Own.shape {e : TypeId} {sz : Nat} {v : Value} {m : Nat} {cs : List Value} {bl : Hp} (h : Own e sz v m cs bl) : ∃ a c, v = .slice a m c ∧ m ≤ c := by
  cases h with
  | nil => exact ⟨none, 0, rfl, Nat.le_refl _⟩
  | row b _ cap _ _ _ _ hn _ => exact ⟨_, cap, rfl, hn⟩

/-- It makes a slice of its own. -/
def Makes (P : Program) (f : FuncId) (vs : List Value) (w : World) (e : TypeId) (sz m : Nat) (cs : List Value) : Prop :=
  Calls P f vs.toArray w fun e' w' => ∃ v bl, e' = .returned v ∧ Own e sz v m cs bl ∧ Fr [] w w' ∧ (∀ p ∈ bl, w'.heap[p.1]? = some p.2 ∧ w.heap.size ≤ p.1) ∧ (bl.map (·.1)).Nodup

theorem OpTo.callMk {f : FuncId} {xs : List Operand} {ts : Array TypeId} {fn : Func} {vs : List Value} {e : TypeId} {sz m : Nat} {cs : List Value} (hf : P.funcs[f]? = some fn) (hd : o.dst = some d) (hn : Nat.blt d n = true)
    (ho : o.op = .call { callee := .value (.func f), args := xs.toArray, argTypes := ts }) (hnm : (fn.name == "runtime.NumGoroutine") = false) (hb : fn.body.isNone = false)
    (hx : lkAll E xs = some vs) (hc : ∀ w, Mem w0 S0 L w → Makes P f vs w e sz m cs) : OpTo P n w0 S0 Q E L o (Y := {p : Value × Hp // Own e sz p.1 m cs p.2}) (fun y => (d, y.1.1) :: E) (fun y => y.1.2 ++ L) :=
  OpTo.call (Y := {p : Value × Hp // Own e sz p.1 m cs p.2}) (V := fun y => y.1.1) (L' := fun y => y.1.2 ++ L) hf hd hn ho hnm hb hx (fun w hm => (hc w hm).mono (by
    rintro e' w' ⟨v, bl, rfl, hown, hfr, hbl, hnd⟩
    exact ⟨⟨(v, bl), hown⟩, rfl, hm.add hfr (fun p hp => (hbl p hp).1) (fun p hp => (hbl p hp).2) hnd⟩))

/-- What is handed back of the call's own. -/
theorem Makes.of {e : TypeId} {sz m : Nat} {cs : List Value} {v : Value} {bl L' : Hp} {w : World} (hown : Own e sz v m cs bl) (hm : Mem w0 [] (bl ++ L') w) :
    ∃ v' bl', Ending.returned v = .returned v' ∧ Own e sz v' m cs bl' ∧ Fr [] w0 w ∧ (∀ p ∈ bl', w.heap[p.1]? = some p.2 ∧ w0.heap.size ≤ p.1) ∧ (bl'.map (·.1)).Nodup :=
  ⟨v, bl, rfl, hown, hm.fr, fun p hp => ⟨hm.has p (List.mem_append_left _ hp), (hm.own p (List.mem_append_left _ hp)).resolve_right (by simp)⟩,
   (by have := hm.nd; rw [List.map_append] at this; exact (List.nodup_append.1 this).1)⟩

theorem fillS_nil (sz : Nat) (z : Array Value) : fillS sz 0 z #[] = some #[] := by
  have r0 : Array.range 0 = #[] := by apply Array.ext'; simp
  unfold fillS
  rw [Nat.zero_mul, r0]
  simp [Instr.fill]

theorem foldl_set (off : Nat) : ∀ (l : List Value) (k : Nat) (b : Array Value), off + k + l.length ≤ b.size →
    (l.zipIdx k).foldl (fun cs (x : Value × Nat) => cs.setIfInBounds (off + x.2) x.1) b = wrAt b (off + k) l
  | [], k, b, _ => by simp [wrAt]
  | v :: r, k, b, h => by
    simp only [List.length_cons] at h
    rw [List.zipIdx_cons, List.foldl_cons, foldl_set off r (k + 1) _ (by simp; omega)]
    unfold wrAt
    congr 1
    have hk : off + k < b.toList.length := by simp; omega
    rw [Array.toList_setIfInBounds, List.set_eq_take_append_cons_drop, if_pos hk]
    have h1 : (b.toList.take (off + k)).length = off + k := by simp; omega
    have e1 : List.take (off + (k + 1)) (b.toList.take (off + k) ++ v :: b.toList.drop (off + k + 1)) = b.toList.take (off + k) ++ [v] := by
      rw [List.take_append, h1, show off + (k + 1) - (off + k) = 1 by omega, List.take_of_length_le (by rw [h1]; omega)]
      rfl
    have e2 : List.drop (off + (k + 1) + r.length) (b.toList.take (off + k) ++ v :: b.toList.drop (off + k + 1)) = b.toList.drop (off + k + (v :: r).length) := by
      rw [List.drop_append, h1, List.drop_of_length_le (by rw [h1]; omega), List.nil_append, show off + (k + 1) + r.length - (off + k) = r.length + 1 by omega, List.drop_succ_cons, List.drop_drop]
      congr 1
      simp only [List.length_cons]
      omega
    rw [e1, e2]
    simp
theorem fill_step {place : Nat → Option (Nat × Nat)} {cells : Array Value} {i off : Nat} {v : Value} {rest : List (Nat × Value)} (hp : place i = some (off, v.cells.size)) (hf : off + v.cells.size ≤ cells.size) :
    Instr.fill place cells ((i, v) :: rest) = Instr.fill place (wrAt cells off v.cells.toList) rest := by
  have e : v.cells.zipIdx.foldl (fun cs (x : Value × Nat) => cs.setIfInBounds (off + x.2) x.1) cells = wrAt cells off v.cells.toList := by
    have := foldl_set off v.cells.toList 0 cells (by simp; omega)
    rw [Nat.add_zero] at this
    rw [← this, ← Array.foldl_toList]
    simp
  simp only [Instr.fill, hp]
  rw [if_neg (by simp; omega)]
  exact congrArg (fun c => Instr.fill place c rest) e
theorem fill_full (sz : Nat) : ∀ (vs : List Value) (k : Nat) (b : Array Value), b.size = (k + vs.length) * sz → (∀ v ∈ vs, v.cells.size = sz) →
    Instr.fill (fun i => some (i * sz, sz)) b ((List.range' k vs.length).zip vs) = some (b.toList.take (k * sz) ++ vs.flatMap (·.cells.toList)).toArray
  | [], k, b, hb, _ => by
    have : b.toList.take (k * sz) = b.toList := List.take_of_length_le (by simp [hb])
    simp [Instr.fill, this]
  | v :: r, k, b, hb, hv => by
    have h1 := hv v List.mem_cons_self
    have hsz : k * sz + sz ≤ b.size := by rw [hb, List.length_cons, ← Nat.add_assoc, Nat.add_right_comm, Nat.add_mul, Nat.add_mul]; omega
    rw [List.length_cons, List.range'_succ, List.zip_cons_cons, fill_step (off := k * sz) (by rw [h1]) (by rw [h1]; exact hsz)]
    have hlen : (wrAt b (k * sz) v.cells.toList).size = b.size := by
      unfold wrAt
      simp only [List.size_toArray, List.length_append, List.length_take, List.length_drop, Array.length_toList, h1]
      omega
    rw [fill_full sz r (k + 1) _ (by rw [hlen, hb, List.length_cons]; congr 1; omega) (fun u hu => hv u (List.mem_cons_of_mem _ hu))]
    congr 2
    unfold wrAt
    have h2 : (b.toList.take (k * sz)).length = k * sz := by simp; omega
    have h3 : (b.toList.take (k * sz) ++ v.cells.toList).length = (k + 1) * sz := by rw [List.length_append, h2, Array.length_toList, h1, Nat.add_mul, Nat.one_mul]
    show List.take ((k + 1) * sz) (b.toList.take (k * sz) ++ v.cells.toList ++ _) ++ _ = _
    rw [← h3, List.take_left, List.flatMap_cons, List.append_assoc]
theorem fillS_full (sz len : Nat) (z : Array Value) (vs : List Value) (hl : vs.length = len) (hv : ∀ v ∈ vs, v.cells.size = sz) : fillS sz len z ((List.range len).zip vs).toArray = some (vs.flatMap (·.cells.toList)).toArray := by
  unfold fillS
  have := fill_full sz vs 0 ((Array.range (len * sz)).map (z[· % z.size]!)) (by simp [hl]) hv
  rw [List.range_eq_range', ← hl]
  rw [hl] at this ⊢
  simpa using this

/-- s == nil -/
theorem Val.eqNil (hT : TabOk P T) {x y : Operand} {a : Option Addr} {m c el : Nat} {t2 : Nat} (ho : o.op = .binOp .eql t x y t2) (ht : tiGet T t = some ti) (hd : ti.desc = .slice el) (hx : lk E x = some (.slice a m c)) (hy : lk E y = some (.slice none 0 0)) :
    Val P n w0 S0 E L o (.bool a.isNone) := by
  intro ac w hs _
  have h2 := (hT _ _ ht).1
  rw [hd] at h2
  have h := run_equal_slice_nil (P := P) (w := w) t el a m c h2
  have hg : (eqGuard .eql t x y (.slice a m c) (.slice none 0 0)).run P w = .ok () w := by simp [eqGuard]
  simp [execOp, ho, hs.eval hx, hs.eval hy, hg, binOp, h]
end
end Go.Vc

/- Loops by a number and what hangs on it; what is old and new. -/
namespace Go.Vc
open Go
section
variable {P : Program} {n : Nat} {w0 : World} {S0 : List Nat} {Q : Exit → Act → World → Prop} {E : Env} {L : Hp} {o : Oper} {d : Nat} {T : List (Nat × TI)} {t : Nat} {ti : TI} {ops : Array Oper} {l rest : List Oper}

/-- What holds after a round. -/
def Up (n : Nat) (w0 : World) (S0 : List Nat) {D : Type} (N : Nat) (R : Nat → D → Prop) (Ei : Nat → D → Env) (Li : Nat → D → Hp) (i : Nat) : Act → World → Prop :=
  fun a w => ∃ j d, i < j ∧ j ≤ N ∧ R j d ∧ St n (Ei j d) a ∧ Mem w0 S0 (Li j d) w

/-- A loop whose rounds are numbered, up to N at most. -/
theorem RC.up {c : Code} (N : Nat) {D : Type} (R : Nat → D → Prop) (Ei : Nat → D → Env) (Li : Nat → D → Hp) (i0 : Nat) (d0 : D) (hi0 : i0 ≤ N) (h0 : R i0 d0) (hE : Env.le (Ei i0 d0) E) (hL : (Li i0 d0).Sublist L)
    (step : ∀ i d, i ≤ N → R i d → RC P n w0 S0 c (Exit.then (Up n w0 S0 N R Ei Li i) Q) (Ei i d) (Li i d)) : RC P n w0 S0 (.loop c) Q E L := by
  intro a w hs hm
  refine RC.loop (P := P) (Q := Q) (ι := {x : Nat × D // x.1 ≤ N ∧ R x.1 x.2}) (E := E) (L := Li i0 d0) (fun x => Ei x.1.1 x.1.2) (fun x => Li x.1.1 x.1.2) (fun _ => True) (fun x => N - x.1.1) ⟨(i0, d0), hi0, h0⟩ trivial hE (List.Perm.refl _) ?_ a w hs (hm.sublist hL)
  rintro ⟨⟨i, d⟩, hi, hR⟩ _
  intro a w hs hm
  refine wp_mono (step i d hi hR a w hs hm) ?_
  intro e a w h
  cases e with
  | normal =>
    obtain ⟨j, d', hij, hj, hR', hs, hm⟩ := h
    exact ⟨⟨(j, d'), hj, hR'⟩, trivial, by show N - j < N - i; omega, hs, hm⟩
  | _ => exact h

theorem RQ.up {D : Type} {N : Nat} {R : Nat → D → Prop} {Ei : Nat → D → Env} {Li : Nat → D → Hp} {i : Nat} (j : Nat) (d : D) (hij : i < j) (hj : j ≤ N) (hR : R j d) (hE : Env.le (Ei j d) E) (hL : (Li j d).Sublist L) :
    RQ n w0 S0 .normal (Exit.then (Up n w0 S0 N R Ei Li i) Q) E L :=
  fun _ _ hs hm => ⟨j, d, hij, hj, hR, hs.weak hE, hm.sublist hL⟩

theorem SrcW.pos {w : World} {sz m : Nat} {v : Value} {cs : List Value} (h : SrcW w sz v m cs) (hm : 0 < m) :
    ∃ a c, v = .slice (some a) m c ∧ m ≤ c ∧ cs.length = m * sz ∧ ∀ j u, cs[j]? = some u → w.cell? (a.add j) = some u := by
  cases h with
  | nil => cases hm
  | «at» a m c cs hl hm hr => exact ⟨a, c, rfl, hm, hl, hr⟩
theorem Rd.rowTake {b : Nat} {cs : List Value} {e : TypeId} {fz : Nat × Nat} (hm : (b, .cells cs.toArray e fz) ∈ L) (k : Nat) : Rd w0 S0 L ⟨b, 0, none⟩ (cs.take k) :=
  Rd.take (Rd.rowAll hm) k
theorem m0 {α : Type} {x : α} {l : List α} : x ∈ x :: l := List.mem_cons_self
theorem m1 {α : Type} {x a : α} {l : List α} : x ∈ a :: x :: l := List.mem_cons_of_mem _ m0
theorem m2 {α : Type} {x a b : α} {l : List α} : x ∈ a :: b :: x :: l := List.mem_cons_of_mem _ m1
theorem m3 {α : Type} {x a b c : α} {l : List α} : x ∈ a :: b :: c :: x :: l := List.mem_cons_of_mem _ m2
theorem m4 {α : Type} {x a b c d : α} {l : List α} : x ∈ a :: b :: c :: d :: x :: l := List.mem_cons_of_mem _ m3
theorem m5 {α : Type} {x a b c d e : α} {l : List α} : x ∈ a :: b :: c :: d :: e :: x :: l := List.mem_cons_of_mem _ m4
theorem m6 {α : Type} {x a b c d e f : α} {l : List α} : x ∈ a :: b :: c :: d :: e :: f :: x :: l := List.mem_cons_of_mem _ m5
/-- The k-th block ahead of the others. -/
theorem p1 {α : Type} {x a : α} {l : List α} : (a :: x :: l).Perm (x :: a :: l) := List.Perm.swap _ _ _
theorem p2 {α : Type} {x a b : α} {l : List α} : (a :: b :: x :: l).Perm (x :: a :: b :: l) := (List.Perm.cons _ p1).trans p1
theorem p3 {α : Type} {x a b c : α} {l : List α} : (a :: b :: c :: x :: l).Perm (x :: a :: b :: c :: l) := (List.Perm.cons _ p2).trans p1
theorem p4 {α : Type} {x a b c d : α} {l : List α} : (a :: b :: c :: d :: x :: l).Perm (x :: a :: b :: c :: d :: l) := (List.Perm.cons _ p3).trans p1
theorem p5 {α : Type} {x a b c d e : α} {l : List α} : (a :: b :: c :: d :: e :: x :: l).Perm (x :: a :: b :: c :: d :: e :: l) := (List.Perm.cons _ p4).trans p1
theorem SrcW.row {b sz m c : Nat} {cs : List Value} {e : TypeId} {fz : Nat × Nat} {w : World} (hm : Mem w0 S0 L w) (h : (b, .cells cs.toArray e fz) ∈ L) (hl : cs.length = m * sz) (hc : m ≤ c) : SrcW w sz (.slice (some ⟨b, 0, none⟩) m c) m cs :=
  .at _ _ _ _ hl hc fun j u hj => Rd.rowAll h w hm j u hj
theorem New.boxA {x : Operand} {arr : Array Value} (ho : o.op = .box t x) (hx : lk E x = some (.agg arr)) : New P n w0 S0 E L o (fun b => .pointer (some ⟨b, 0, none⟩)) (.cells arr t) := New.box ho hx
end
end Go.Vc

/- Bytes: rows of them, strings, what compares them. -/
namespace Go.Vc
open Go Go.Sha

/-- These bytes, as a string. -/
def bs (l : List Nat) : ByteArray := ⟨(l.map fun n => n.toUInt8).toArray⟩
theorem bs_size (l : List Nat) : (bs l).size = l.length := by simp [bs, ByteArray.size]
theorem toUInt8_inj {a b : Nat} (ha : a < 256) (hb : b < 256) (h : a.toUInt8 = b.toUInt8) : a = b := by
  have := congrArg UInt8.toNat h
  simpa [Nat.toUInt8, UInt8.toNat_ofNat', Nat.mod_eq_of_lt ha, Nat.mod_eq_of_lt hb] using this
theorem toUInt8_toNat {a : Nat} (ha : a < 256) : a.toUInt8.toNat = a := by simp [Nat.toUInt8, Nat.mod_eq_of_lt ha]
theorem bs_inj {a b : List Nat} (ha : ∀ x ∈ a, x < 256) (hb : ∀ x ∈ b, x < 256) (h : bs a = bs b) : a = b := by
  have h2 : a.map (fun n => n.toUInt8) = b.map fun n => n.toUInt8 := by
    have := congrArg (fun x => x.data.toList) h
    simpa [bs] using this
  clear h
  induction a generalizing b with
  | nil => cases b with
    | nil => rfl
    | cons y b => cases h2
  | cons x a ih => cases b with
    | nil => cases h2
    | cons y b =>
      simp only [List.map_cons, List.cons.injEq] at h2
      rw [toUInt8_inj (ha x (by simp)) (hb y (by simp)) h2.1, ih (fun z hz => ha z (by simp [hz])) (fun z hz => hb z (by simp [hz])) h2.2]
/-- Arrays of bytes, one by one. -/
theorem run_eqItems_u8 {P : Program} (d : Nat) {e : TypeId} (he : P.plainKey e = true) (hu : P.underlying e = some (.int .u8)) (hc : P.cellsOf e = 1) (a b : List Nat) (w : World) (hl : a.length = b.length) :
    ∀ is : List Nat, (∀ i ∈ is, i < a.length) → ∃ r : Bool, (Op.eqItems (d + 1) e (P.cellsOf e) (u8s a).toArray (u8s b).toArray is).run P w = .ok r w ∧ (r = true ↔ ∀ i ∈ is, a[i]? = b[i]?)
  | [], _ => ⟨true, by simp [Op.eqItems], by simp⟩
  | i :: is, h => by
    have hi := h i (by simp)
    obtain ⟨r, hr, hiff⟩ := run_eqItems_u8 d he hu hc a b w hl is (fun j hj => h j (by simp [hj]))
    have g1 : (u8s a).toArray[i * P.cellsOf e]? = some (.int .u8 (a[i]'hi)) := by simp [u8s, hc, hi]
    have g2 : (u8s b).toArray[i * P.cellsOf e]? = some (.int .u8 (b[i]'(hl ▸ hi))) := by simp [u8s, hc, hl ▸ hi]
    have e1 : (Op.equalIn (d + 1) e (.int .u8 (a[i]'hi)) (.int .u8 (b[i]'(hl ▸ hi)))).run P w = .ok ((a[i]'hi : Int) == (b[i]'(hl ▸ hi) : Int)) w := by
      simp [Op.equalIn, run_underlying hu]
    simp only [Op.eqItems, Sem.run_bind, run_part_plain w he g1, run_part_plain w he g2, e1, Result.andThen_ok]
    have hab : ((a[i]'hi : Int) == (b[i]'(hl ▸ hi) : Int)) = true ↔ a[i]? = b[i]? := by
      rw [List.getElem?_eq_getElem hi, List.getElem?_eq_getElem (hl ▸ hi)]
      simp
      omega
    cases hq : ((a[i]'hi : Int) == (b[i]'(hl ▸ hi) : Int)) with
    | false =>
      refine ⟨false, by simp, ?_⟩
      rw [hq] at hab
      simp at hab
      simp
      intro h1
      exact absurd h1 hab
    | true =>
      refine ⟨r, by simpa using hr, ?_⟩
      rw [hiff]
      simp [hab.1 hq]

section
variable {P : Program} {n : Nat} {w0 : World} {S0 : List Nat} {Q : Exit → Act → World → Prop} {E : Env} {L : Hp} {o : Oper} {d : Nat} {T : List (Nat × TI)} {t : Nat} {ti : TI} {ops : Array Oper} {l rest : List Oper}

theorem run_equal_u8s {e len : Nat} {i : TypeInfo} (hu : P.underlying t = some (.array len e)) (hi : P.info? e = some i) (hk : P.underlying e = some (.int .u8)) (hc : P.cellsOf e = 1) (a b : List Nat) (ha : a.length = len) (hb : b.length = len) (w : World) :
    (Op.equal t (.agg (u8s a).toArray) (.agg (u8s b).toArray)).run P w = .ok (decide (a = b)) w := by
  have hp : P.plainKey e = true := by simp [Program.plainKey, hk]
  obtain ⟨r, hr, hiff⟩ := run_eqItems_u8 (P := P) 9998 hp hk hc a b w (ha.trans hb.symm) (List.range len) (fun i hi => by rw [ha]; exact List.mem_range.1 hi)
  have h := run_equalIn_array w 9999 (u8s a).toArray (u8s b).toArray hu hi
  have e1 : r = decide (a = b) := by
    rw [Bool.eq_iff_iff, hiff, decide_eq_true_iff]
    constructor
    · intro h
      apply List.ext_getElem?
      intro i
      by_cases hi : i < len
      · exact h i (List.mem_range.2 hi)
      · rw [List.getElem?_eq_none (by omega), List.getElem?_eq_none (by omega)]
    · rintro rfl
      simp
  show (Op.equalIn 10000 t _ _).run P w = _
  rw [h, hr, e1]

theorem eqGuard_agg {op : BinOp} (hq : P.eqGuardType P.depth t = false) (x y : Operand) (a b : Array Value) (w : World) :
    (eqGuard op t x y (.agg a) (.agg b)).run P w = .ok () w := by
  unfold eqGuard
  cases op <;> simp [hq]

/-- Arrays of bytes: whether they are the same. -/
theorem Val.eqArr (hT : TabOk P T) {x y : Operand} {len e t2 : Nat} {a b : List Nat} {ei : TI} (ho : o.op = .binOp .eql t x y t2) (ht : tiGet T t = some ti) (hd : ti.desc = .array len e) (he : tiGet T e = some ei) (hed : ei.desc = .int .u8)
    (hq : P.eqGuardType P.depth t = false) (hi : (P.info? e).isSome = true) (hc : P.cellsOf e = 1) (hx : lk E x = some (.agg (u8s a).toArray)) (hy : lk E y = some (.agg (u8s b).toArray)) (ha : a.length = len) (hb : b.length = len) :
    Val P n w0 S0 E L o (.bool (decide (a = b))) := by
  intro ac w hs _
  have hu := (hT _ _ ht).1
  rw [hd] at hu
  have hk := (hT _ _ he).1
  rw [hed] at hk
  obtain ⟨i, hi⟩ := Option.isSome_iff_exists.1 hi
  simp [execOp, ho, hs.eval hx, hs.eval hy, binOp, run_equal_u8s hu hi hk hc a b ha hb, eqGuard_agg hq]

theorem Val.neBool (hT : TabOk P T) {x y : Operand} {t2 : Nat} {a b : Bool} (ho : o.op = .binOp .neq t x y t2) (ht : tiGet T t = some ti) (hd : ti.desc = .bool) (hx : lk E x = some (.bool a)) (hy : lk E y = some (.bool b)) :
    Val P n w0 S0 E L o (.bool (a != b)) := by
  intro ac w hs _
  have hu := (hT _ _ ht).1
  rw [hd] at hu
  simp [execOp, ho, hs.eval hx, hs.eval hy, binOp, run_equal_bool w t a b hu, eqGuard]
  cases a <;> cases b <;> rfl
end
end Go.Vc

/- Strings; what has no body. -/
namespace Go.Vc
open Go Go.Sha

section
variable {P : Program} {n : Nat} {w0 : World} {S0 : List Nat} {Q : Exit → Act → World → Prop} {E : Env} {L : Hp} {o : Oper} {d : Nat} {T : List (Nat × TI)} {t : Nat} {ti : TI} {ops : Array Oper} {l rest : List Oper}

theorem Val.eqStr {x y : Operand} {t2 : Nat} {a b : List Nat} (ho : o.op = .binOp .eql t x y t2) (hx : lk E x = some (.string (bs a))) (hy : lk E y = some (.string (bs b))) (ha : ∀ x ∈ a, x < 256) (hb : ∀ x ∈ b, x < 256) :
    Val P n w0 S0 E L o (.bool (decide (a = b))) := by
  intro ac w hs _
  have : ((bs a).toList == (bs b).toList) = decide (a = b) := by
    rw [Bool.eq_iff_iff, beq_iff_eq, decide_eq_true_iff]
    refine ⟨fun h => bs_inj ha hb ?_, fun h => by rw [h]⟩
    rw [ByteArray.toList_eq, ByteArray.toList_eq] at h
    exact ByteArray.ext (Array.toList_inj.1 h)
  simp [execOp, ho, hs.eval hx, hs.eval hy, binOp, Op.stringOp, this, eqGuard]
theorem Val.ixStr (hT : TabOk P T) (j : Nat) {x y : Operand} {a : List Nat} {k : IntKind} {z : Int} (ho : o.op = .index t x y) (ht : tiGet T t = some ti) (hd : ti.desc = .string) (hx : lk E x = some (.string (bs a))) (hy : lk E y = some (.int k z)) (hz : z = j) (hj : j < a.length) (ha : ∀ x ∈ a, x < 256) :
    Val P n w0 S0 E L o (.int .u8 (a.getD j 0 : Nat)) := by
  intro ac w hs _
  subst hz
  have hu := (hT _ _ ht).1
  rw [hd] at hu
  have hg : (bs a)[j]? = some (a[j]'hj).toUInt8 := by
    have hi : j < (bs a).size := by rw [bs_size]; exact hj
    rw [getElem?_pos (bs a) j hi]
    show some ((bs a).data[j]) = _
    simp [bs]
  have h2 : (a[j]'hj).toUInt8.toNat = a[j]'hj := toUInt8_toNat (ha _ (List.getElem_mem hj))
  simp [execOp, ho, hs.eval hx, hs.eval hy, Instr.index, asIntOf, run_underlying hu, hg, List.getD_eq_getElem?_getD, hj]
  have := ha _ (List.getElem_mem hj)
  omega
/-- The bytes that a slice holds, as a string. -/
theorem Val.bytesStr (hT : TabOk P T) {s c : Nat} {x : Operand} {v : Value} {m : Nat} {a : List Nat} {el : Nat} {si ei : TI} (ho : o.op = .convert s c x) (hs : tiGet T s = some si) (hsd : si.desc = .slice el) (he : tiGet T el = some ei) (hed : ei.desc = .int .u8) (hc : tiGet T c = some ti) (hcd : ti.desc = .string)
    (hx : lk E x = some v) (hsrc : Src w0 S0 L 1 v m (u8s a)) : Val P n w0 S0 E L o (.string (bs a)) := by
  intro ac w hst hm
  have h1 := (hT _ _ hs).1
  rw [hsd] at h1
  have h2 := (hT _ _ he).1
  rw [hed] at h2
  have h3 := (hT _ _ hc).1
  rw [hcd] at h3
  generalize hcs : u8s a = cs at hsrc
  cases hsrc with
  | nil =>
    have : a = [] := by cases a with
      | nil => rfl
      | cons => cases hcs
    subst this
    simp [execOp, ho, hst.eval hx, run_convert_bytes_string w s c el none 0 0 h1 h2 h3, Conv.bytesToString]
    rfl
  | «at» ad m cap cs hl hr =>
    subst hcs
    have hml : a.length = m := by rw [u8s_len, Nat.mul_one] at hl; exact hl
    have hld : (loadCells ad m).run P w = .ok ((a.map fun n : Nat => (n : Int)).map (Value.int .u8)).toArray w := by
      have := run_loadCells_list (P := P) w ad (u8s a) (hr w hm)
      rw [u8s_len, hml] at this
      rw [this]
      simp [u8s, Function.comp_def]
    simp [execOp, ho, hst.eval hx, run_convert_bytes_string w s c el (some ad) m cap h1 h2 h3, run_bytesToString w ad m cap _ hld, foldl_push_bytes]
    exact ByteArray.ext (by simp [bs, Function.comp_def])
end
end Go.Vc
namespace Go.Vc
open Go Go.Sha
section
variable {P : Program} {n : Nat} {w0 : World} {S0 : List Nat} {Q : Exit → Act → World → Prop} {E : Env} {L : Hp} {o : Oper} {d : Nat} {T : List (Nat × TI)} {t : Nat} {ti : TI} {ops : Array Oper} {l rest : List Oper}
end
end Go.Vc

/- []byte of a []byte: the row is marked. -/
namespace Go.Vc
open Go Go.Sha
section
variable {P : Program} {n : Nat} {w0 : World} {S0 : List Nat} {Q : Exit → Act → World → Prop} {E : Env} {L : Hp} {o : Oper} {d : Nat} {T : List (Nat × TI)} {t : Nat} {ti : TI} {ops : Array Oper} {l rest : List Oper}

end
end Go.Vc

/- Arrays and structs of numbers: whether two are the same. -/
namespace Go.Vc
open Go Go.Sha

/-- The kinds of a type's cells, where all of them are numbers. -/
def kindsF (P : Program) (g : Nat → Option (List IntKind)) : List Field → Nat → Option (List IntKind)
  | [], _ => some []
  | f :: fs, off => match g f.type with
    | some ks => bif f.name != "_" && (Nat.beq f.offset off && Nat.beq ks.length (P.cellsOf f.type)) then (kindsF P g fs (off + ks.length)).map (ks ++ ·) else none
    | none => none
def kindsOf (P : Program) : Nat → Nat → Option (List IntKind)
  | 0, _ => none
  | m + 1, t => match P.underlying t with
    | some (.int k) => some [k]
    | some (.array n e) => match kindsOf P m e with
      | some ks => bif Nat.beq ks.length (P.cellsOf e) then some (List.replicate n ks).flatten else none
      | none => none
    | some (.struct fs) => bif P.stoodInHeld t then none else kindsF P (kindsOf P m) fs.toList 0
    | _ => none

/-- Cells of these kinds. -/
inductive HasK : List IntKind → List Value → Prop
  | nil : HasK [] []
  | cons (k : IntKind) (z : Int) {ks : List IntKind} {vs : List Value} : HasK ks vs → HasK (k :: ks) (.int k z :: vs)
theorem HasK.len : ∀ {ks : List IntKind} {vs : List Value}, HasK ks vs → ks.length = vs.length
  | _, _, .nil => rfl
  | _, _, .cons _ _ h => by simp [h.len]
theorem HasK.append : ∀ {ks : List IntKind} {vs : List Value} {ks' : List IntKind} {vs' : List Value}, HasK ks vs → HasK ks' vs' → HasK (ks ++ ks') (vs ++ vs')
  | _, _, _, _, .nil, h => h
  | _, _, _, _, .cons k z h, h' => .cons k z (h.append h')
theorem HasK.split : ∀ {ks ks' : List IntKind} {vs : List Value}, HasK (ks ++ ks') vs → HasK ks (vs.take ks.length) ∧ HasK ks' (vs.drop ks.length)
  | [], _, _, h => ⟨by simpa using HasK.nil, by simpa using h⟩
  | k :: ks, ks', _, .cons _ z h => by
    have := h.split
    exact ⟨.cons _ z this.1, this.2⟩
theorem HasK.u8s : ∀ (l : List Nat), HasK (List.replicate l.length .u8) (u8s l)
  | [] => .nil
  | x :: l => .cons .u8 x (HasK.u8s l)
theorem HasK.u8n {l : List Nat} {n : Nat} (h : l.length = n) : HasK (List.replicate n .u8) (Go.Sha.u8s l) := h ▸ HasK.u8s l

/-- A value of the type, of such cells. -/
def Sh (P : Program) (t : Nat) (ks : List IntKind) (v : Value) : Prop :=
  HasK ks v.cells.toList ∧ match P.underlying t with
    | some (.array _ _) => ∃ arr, v = .agg arr
    | some (.struct _) => ∃ arr, v = .agg arr
    | _ => ∃ k z, v = .int k z

section
variable {P : Program}
theorem run_part_sh {e : Nat} {m : Nat} {ks : List IntKind} (hk : kindsOf P m e = some ks) (hc : ks.length = P.cellsOf e) (xs : Array Value) (off : Nat) (h : HasK ks ((xs.toList.drop off).take ks.length)) (w : World) :
    ∃ v, (part e xs off).run P w = .ok v w ∧ Sh P e ks v ∧ v.cells.toList = (xs.toList.drop off).take ks.length := by
  cases m with
  | zero => cases hk
  | succ m =>
    unfold kindsOf at hk
    have agg : ∀ d, P.underlying e = some d → TypeDesc.agg d = true → ∃ v, (part e xs off).run P w = .ok v w ∧ v = .agg (xs.extract off (off + P.cellsOf e)) := by
      intro d hu hd
      obtain ⟨i, hi⟩ := info_of_underlying hu
      refine ⟨_, ?_, rfl⟩
      cases d <;> first | (cases hd; done) | simp [part, isAgg, run_underlying hu, run_sizeOf w hi]
    have hex : (xs.extract off (off + P.cellsOf e)).toList = (xs.toList.drop off).take ks.length := by
      rw [Array.toList_extract, hc]; simp [List.extract]
    cases hu : P.underlying e with
    | none => rw [hu] at hk; cases hk
    | some d =>
      rw [hu] at hk
      cases d <;> simp only at hk <;> (try (cases hk; done))
      · cases hk
        rename_i k
        have hx : ∃ z, (xs.toList.drop off).take 1 = [.int k z] := by
          generalize hcs : (xs.toList.drop off).take [k].length = cs at h
          cases h with
          | cons _ z h => cases h; exact ⟨z, rfl⟩
        obtain ⟨z, hz⟩ := hx
        have hat : xs[off]? = some (.int k z) := by
          have : (xs.toList.drop off)[0]? = some (.int k z) := by
            have h1 := congrArg (fun l : List Value => l[0]?) hz
            simpa using h1
          simpa using this
        refine ⟨.int k z, ?_, ⟨?_, ?_⟩, ?_⟩
        · simp [part, isAgg, run_underlying hu, hat]
        · exact .cons k z .nil
        · rw [hu]; exact ⟨k, z, rfl⟩
        · show [_] = _; exact hz.symm
      · obtain ⟨v, hv, rfl⟩ := agg _ hu rfl
        exact ⟨_, hv, ⟨by show HasK ks (xs.extract off (off + P.cellsOf e)).toList; rw [hex]; exact h, by rw [hu]; exact ⟨_, rfl⟩⟩, hex⟩
      · obtain ⟨v, hv, rfl⟩ := agg _ hu rfl
        exact ⟨_, hv, ⟨by show HasK ks (xs.extract off (off + P.cellsOf e)).toList; rw [hex]; exact h, by rw [hu]; exact ⟨_, rfl⟩⟩, hex⟩

/-- Values of the type are compared cell by cell. -/
def EqC (P : Program) (dd : Nat) (t : Nat) (ks : List IntKind) : Prop :=
  ∀ (w : World) (a b : Value), Sh P t ks a → Sh P t ks b → ∃ r : Bool, (Op.equalIn dd t a b).run P w = .ok r w ∧ (r = true ↔ a.cells.toList = b.cells.toList)

theorem run_eqItems_C {dd : Nat} {e m : Nat} {ks : List IntKind} (hk : kindsOf P m e = some ks) (hc : ks.length = P.cellsOf e) (IH : EqC P dd e ks) (xs ys : Array Value) (w : World) : ∀ (j i : Nat),
    HasK (List.replicate j ks).flatten (xs.toList.drop (i * P.cellsOf e)) → HasK (List.replicate j ks).flatten (ys.toList.drop (i * P.cellsOf e)) →
    ∃ r : Bool, (Op.eqItems dd e (P.cellsOf e) xs ys (List.range' i j)).run P w = .ok r w ∧ (r = true ↔ xs.toList.drop (i * P.cellsOf e) = ys.toList.drop (i * P.cellsOf e))
  | 0, i, hx, hy => by
    refine ⟨true, by simp [Op.eqItems], ?_⟩
    have h1 := hx.len
    have h2 := hy.len
    simp only [List.replicate_zero, List.flatten_nil, List.length_nil] at h1 h2
    rw [List.eq_nil_of_length_eq_zero h1.symm, List.eq_nil_of_length_eq_zero h2.symm]
    simp
  | j + 1, i, hx, hy => by
    have hlx := hx.len
    have hly := hy.len
    rw [List.replicate_succ, List.flatten_cons] at hx hy
    obtain ⟨hx1, hx2⟩ := hx.split
    obtain ⟨hy1, hy2⟩ := hy.split
    obtain ⟨a, pa, sa, ca⟩ := run_part_sh hk hc xs (i * P.cellsOf e) hx1 w
    obtain ⟨b, pb, sb, cb⟩ := run_part_sh hk hc ys (i * P.cellsOf e) hy1 w
    obtain ⟨r, hr, hiff⟩ := IH w a b sa sb
    rw [List.drop_drop, hc, ← Nat.succ_mul] at hx2 hy2
    obtain ⟨r', hr', hiff'⟩ := run_eqItems_C hk hc IH xs ys w j (i + 1) hx2 hy2
    rw [List.range'_succ]
    simp only [Op.eqItems, Sem.run_bind, pa, pb, hr, Result.andThen_ok]
    have hsplit : xs.toList.drop (i * P.cellsOf e) = ys.toList.drop (i * P.cellsOf e) ↔ a.cells.toList = b.cells.toList ∧ xs.toList.drop ((i + 1) * P.cellsOf e) = ys.toList.drop ((i + 1) * P.cellsOf e) := by
      rw [ca, cb, Nat.succ_mul, ← hc]
      constructor
      · intro h
        exact ⟨by rw [h], by rw [← List.drop_drop, h, List.drop_drop]⟩
      · rintro ⟨h1, h2⟩
        rw [← List.take_append_drop ks.length (xs.toList.drop _), ← List.take_append_drop ks.length (ys.toList.drop _), h1, List.drop_drop, List.drop_drop, h2]
    rw [hsplit]
    cases r
    · exact ⟨false, by simp, ⟨fun h => (by cases h), fun h => absurd (hiff.2 h.1) (by simp)⟩⟩
    · exact ⟨r', by simpa using hr', by rw [hiff']; simp [hiff.1 rfl]⟩

theorem run_eqFields_C {dd m : Nat} (IH : ∀ t ks, kindsOf P m t = some ks → EqC P dd t ks) (xs ys : Array Value) (w : World) : ∀ (fs : List Field) (off : Nat) (ks : List IntKind), kindsF P (kindsOf P m) fs off = some ks →
    HasK ks (xs.toList.drop off) → HasK ks (ys.toList.drop off) →
    ∃ r : Bool, (Op.eqFields dd xs ys fs).run P w = .ok r w ∧ (r = true ↔ xs.toList.drop off = ys.toList.drop off)
  | [], off, ks, hk, hx, hy => by
    cases hk
    refine ⟨true, by simp [Op.eqFields], ?_⟩
    have h1 := hx.len
    have h2 := hy.len
    simp only [List.length_nil] at h1 h2
    rw [List.eq_nil_of_length_eq_zero h1.symm, List.eq_nil_of_length_eq_zero h2.symm]
    simp
  | f :: fs, off, ks, hk, hx, hy => by
    simp only [kindsF] at hk
    cases hg : kindsOf P m f.type with
    | none => rw [hg] at hk; cases hk
    | some k1 =>
      rw [hg] at hk
      simp only at hk
      cases hcond : (f.name != "_" && (Nat.beq f.offset off && Nat.beq k1.length (P.cellsOf f.type))) with
      | false => rw [hcond] at hk; cases hk
      | true =>
        rw [hcond] at hk
        simp only [Bool.and_eq_true, bne_iff_ne, ne_eq] at hcond
        obtain ⟨hn, ho, hc⟩ := hcond
        have ho := Nat.eq_of_beq_eq_true ho
        have hc := Nat.eq_of_beq_eq_true hc
        simp only [cond_true, Option.map_eq_some_iff] at hk
        obtain ⟨k2, hk2, rfl⟩ := hk
        obtain ⟨hx1, hx2⟩ := hx.split
        obtain ⟨hy1, hy2⟩ := hy.split
        obtain ⟨a, pa, sa, ca⟩ := run_part_sh hg hc xs off hx1 w
        obtain ⟨b, pb, sb, cb⟩ := run_part_sh hg hc ys off hy1 w
        obtain ⟨r, hr, hiff⟩ := IH _ _ hg w a b sa sb
        rw [List.drop_drop] at hx2 hy2
        obtain ⟨r', hr', hiff'⟩ := run_eqFields_C IH xs ys w fs (off + k1.length) k2 hk2 hx2 hy2
        simp only [Op.eqFields, hn, ne_eq, not_false_eq_true, if_true, Sem.run_bind, ho, pa, pb, hr, Result.andThen_ok]
        have hsplit : xs.toList.drop off = ys.toList.drop off ↔ a.cells.toList = b.cells.toList ∧ xs.toList.drop (off + k1.length) = ys.toList.drop (off + k1.length) := by
          rw [ca, cb]
          constructor
          · intro h
            exact ⟨by rw [h], by rw [← List.drop_drop, h, List.drop_drop]⟩
          · rintro ⟨h1, h2⟩
            rw [← List.take_append_drop k1.length (xs.toList.drop _), ← List.take_append_drop k1.length (ys.toList.drop _), h1, List.drop_drop, List.drop_drop, h2]
        rw [hsplit]
        cases r
        · exact ⟨false, by simp, ⟨fun h => (by cases h), fun h => absurd (hiff.2 h.1) (by simp)⟩⟩
        · exact ⟨r', by simpa using hr', by rw [hiff']; simp [hiff.1 rfl]⟩

theorem run_equalIn_C (d : Nat) : ∀ (m t : Nat) (ks : List IntKind), kindsOf P m t = some ks → EqC P (d + m) t ks
  | 0, _, _, h => by cases h
  | m + 1, t, ks, hk => by
    intro w a b sa sb
    unfold kindsOf at hk
    obtain ⟨ha, fa⟩ := sa
    obtain ⟨hb, fb⟩ := sb
    cases hu : P.underlying t with
    | none => rw [hu] at hk; cases hk
    | some ds =>
      rw [hu] at hk fa fb
      cases ds <;> simp only at hk fa fb <;> (try (cases hk; done))
      · rename_i k
        cases hk
        obtain ⟨k1, z1, rfl⟩ := fa
        obtain ⟨k2, z2, rfl⟩ := fb
        have e1 : k1 = k := by cases ha; rfl
        have e2 : k2 = k := by cases hb; rfl
        subst e1; subst e2
        refine ⟨z1 == z2, by rw [show d + (m + 1) = (d + m) + 1 from rfl]; exact run_equalIn_int w (d + m) t _ _ z1 z2 hu, ?_⟩
        simp [Value.cells]
      · rename_i n e
        cases hke : kindsOf P m e with
        | none => rw [hke] at hk; cases hk
        | some k1 =>
          rw [hke] at hk
          simp only at hk
          cases hc : Nat.beq k1.length (P.cellsOf e) with
          | false => rw [hc] at hk; cases hk
          | true =>
            rw [hc] at hk
            cases hk
            have hc := Nat.eq_of_beq_eq_true hc
            obtain ⟨xs, rfl⟩ := fa
            obtain ⟨ys, rfl⟩ := fb
            have hpe : ∃ i, P.info? e = some i := by
              cases m with
              | zero => cases hke
              | succ m' =>
                unfold kindsOf at hke
                cases hue : P.underlying e with
                | none => rw [hue] at hke; cases hke
                | some _ => exact info_of_underlying hue
            obtain ⟨i, hi⟩ := hpe
            obtain ⟨r, hr, hiff⟩ := run_eqItems_C hke hc (run_equalIn_C d m e k1 hke) xs ys w n 0 (by simpa [Value.cells] using ha) (by simpa [Value.cells] using hb)
            refine ⟨r, ?_, by simpa [Value.cells] using hiff⟩
            rw [show d + (m + 1) = (d + m) + 1 from rfl, run_equalIn_array w (d + m) xs ys hu hi, List.range_eq_range']
            exact hr
      · rename_i fs
        cases hst : P.stoodInHeld t with
        | true => rw [hst] at hk; cases hk
        | false =>
          rw [hst] at hk
          simp only [cond_false] at hk
          obtain ⟨xs, rfl⟩ := fa
          obtain ⟨ys, rfl⟩ := fb
          have hfs : P.fieldsOf t = fs := by simp [Program.fieldsOf, hu]
          obtain ⟨r, hr, hiff⟩ := run_eqFields_C (run_equalIn_C d m) xs ys w fs.toList 0 ks hk (by simpa [Value.cells] using ha) (by simpa [Value.cells] using hb)
          refine ⟨r, ?_, by simpa [Value.cells] using hiff⟩
          rw [show d + (m + 1) = (d + m) + 1 from rfl, run_equalIn_struct w (d + m) t xs ys (by rw [hfs]; exact hu) hst, hfs]
          exact hr
end

section
variable {P : Program} {n : Nat} {w0 : World} {S0 : List Nat} {E : Env} {L : Hp} {o : Oper} {T : List (Nat × TI)} {t : Nat} {ti : TI}
theorem run_equal_C {ks : List IntKind} (hk : kindsOf P 8 t = some ks) {a b : Value} (ha : Sh P t ks a) (hb : Sh P t ks b) (w : World) : ∃ r : Bool, (Op.equal t a b).run P w = .ok r w ∧ (r = true ↔ a.cells.toList = b.cells.toList) := by
  obtain ⟨r, hr, hi⟩ := run_equalIn_C 9992 8 t ks hk w a b ha hb
  exact ⟨r, hr, hi⟩

/-- Whether two arrays or structs of numbers are the same: by their cells. -/
theorem Val.eqC (hT : TabOk P T) {x y : Operand} {t2 : Nat} {a b : Array Value} {ks : List IntKind} {p : Bool} (ho : o.op = .binOp .eql t x y t2) (ht : tiGet T t = some ti) (hd : TypeDesc.agg ti.desc = true)
    (hq : P.eqGuardType P.depth t = false) (hk : kindsOf P 8 t = some ks) (hx : lk E x = some (.agg a)) (hy : lk E y = some (.agg b)) (ha : HasK ks a.toList) (hb : HasK ks b.toList) (hp : p = true ↔ a.toList = b.toList) :
    Val P n w0 S0 E L o (.bool p) := by
  intro ac w hs _
  have hu := (hT _ _ ht).1
  have sh : ∀ c : Array Value, HasK ks c.toList → Sh P t ks (.agg c) := fun c hc => ⟨hc, by
    rw [hu]; cases hdd : ti.desc <;> simp only <;> first | exact ⟨_, rfl⟩ | (rw [hdd] at hd; cases hd)⟩
  obtain ⟨r, hr, hi⟩ := run_equal_C hk (sh a ha) (sh b hb) w
  have : r = p := by rw [Bool.eq_iff_iff, hi, hp]; exact Iff.rfl
  subst this
  simp [execOp, ho, hs.eval hx, hs.eval hy, binOp, hr, eqGuard_agg hq]
theorem Val.neC (hT : TabOk P T) {x y : Operand} {t2 : Nat} {a b : Array Value} {ks : List IntKind} {p : Bool} (ho : o.op = .binOp .neq t x y t2) (ht : tiGet T t = some ti) (hd : TypeDesc.agg ti.desc = true)
    (hq : P.eqGuardType P.depth t = false) (hk : kindsOf P 8 t = some ks) (hx : lk E x = some (.agg a)) (hy : lk E y = some (.agg b)) (ha : HasK ks a.toList) (hb : HasK ks b.toList) (hp : p = true ↔ a.toList = b.toList) :
    Val P n w0 S0 E L o (.bool !p) := by
  intro ac w hs _
  have hu := (hT _ _ ht).1
  have sh : ∀ c : Array Value, HasK ks c.toList → Sh P t ks (.agg c) := fun c hc => ⟨hc, by
    rw [hu]; cases hdd : ti.desc <;> simp only <;> first | exact ⟨_, rfl⟩ | (rw [hdd] at hd; cases hd)⟩
  obtain ⟨r, hr, hi⟩ := run_equal_C hk (sh a ha) (sh b hb) w
  have : r = p := by rw [Bool.eq_iff_iff, hi, hp]; exact Iff.rfl
  subst this
  simp [execOp, ho, hs.eval hx, hs.eval hy, binOp, hr, eqGuard_agg hq]
theorem u8s_inj {a b : List Nat} : u8s a = u8s b ↔ a = b := by
  constructor
  · intro h
    induction a generalizing b with
    | nil => cases b with
      | nil => rfl
      | cons => cases h
    | cons x a ih => cases b with
      | nil => cases h
      | cons y b =>
        simp only [u8s, List.map_cons, List.cons.injEq, Value.int.injEq, true_and] at h
        rw [Int.ofNat.inj h.1, ih h.2]
  · rintro rfl; rfl
/-- .. of bytes. -/
theorem Val.eqU (hT : TabOk P T) {x y : Operand} {t2 m : Nat} {a b : List Nat} (ho : o.op = .binOp .eql t x y t2) (ht : tiGet T t = some ti) (hd : TypeDesc.agg ti.desc = true)
    (hq : P.eqGuardType P.depth t = false) (hk : kindsOf P 8 t = some (List.replicate m .u8)) (hx : lk E x = some (.agg (u8s a).toArray)) (hy : lk E y = some (.agg (u8s b).toArray)) (ha : a.length = m) (hb : b.length = m) :
    Val P n w0 S0 E L o (.bool (decide (a = b))) :=
  Val.eqC hT ho ht hd hq hk hx hy (HasK.u8n ha) (HasK.u8n hb) (by rw [decide_eq_true_iff]; exact u8s_inj.symm)
theorem Val.neU (hT : TabOk P T) {x y : Operand} {t2 m : Nat} {a b : List Nat} (ho : o.op = .binOp .neq t x y t2) (ht : tiGet T t = some ti) (hd : TypeDesc.agg ti.desc = true)
    (hq : P.eqGuardType P.depth t = false) (hk : kindsOf P 8 t = some (List.replicate m .u8)) (hx : lk E x = some (.agg (u8s a).toArray)) (hy : lk E y = some (.agg (u8s b).toArray)) (ha : a.length = m) (hb : b.length = m) :
    Val P n w0 S0 E L o (.bool !(decide (a = b))) :=
  Val.neC hT ho ht hd hq hk hx hy (HasK.u8n ha) (HasK.u8n hb) (by rw [decide_eq_true_iff]; exact u8s_inj.symm)
end
section
variable {P : Program} {n : Nat} {w0 : World} {S0 : List Nat} {Q : Exit → Act → World → Prop} {E : Env} {L : Hp} {o : Oper} {d : Nat} {T : List (Nat × TI)} {t : Nat} {ti : TI} {ops : Array Oper} {Lr : Hp} {fuel : Nat} {listed : Array Bool}
theorem DR.two {i j : Nat} (hr : Region.ready .any ops listed = [i, j]) (h1 : DOp P n w0 S0 ops Q Lr fuel listed E L i) (h2 : DOp P n w0 S0 ops Q Lr fuel listed E L j) : DR P n w0 S0 ops Q Lr (fuel + 1) listed E L :=
  DR.all hr (by simp) (by simpa using ⟨h1, h2⟩)
theorem DR.three {i j k : Nat} (hr : Region.ready .any ops listed = [i, j, k]) (h1 : DOp P n w0 S0 ops Q Lr fuel listed E L i) (h2 : DOp P n w0 S0 ops Q Lr fuel listed E L j) (h3 : DOp P n w0 S0 ops Q Lr fuel listed E L k) : DR P n w0 S0 ops Q Lr (fuel + 1) listed E L :=
  DR.all hr (by simp) (by simpa using ⟨h1, h2, h3⟩)
theorem RQ.toP {Y : Type} {Ey : Y → Env} {Ly : Y → Hp} (y : Y) {L1 : Hp} (he : Env.le (Ey y) E) (hp : L.Perm L1) (hl : (Ly y).Sublist L1) : RQ n w0 S0 .normal (To n w0 S0 Ey Ly) E L :=
  fun _ _ hs hm => ⟨y, hs.weak he, (hm.perm hp).sublist hl⟩
theorem New.allocTo (hT : TabOk P T) {cs : Array Value} (ho : o.op = .alloc t) (ht : tiGet T t = some ti) (hz : ti.zero.cells = cs) : New P n w0 S0 E L o (fun b => .pointer (some ⟨b, 0, none⟩)) (.cells cs t) := by
  subst hz
  exact New.alloc hT ho ht
/-- Bytes that are loaded whole. -/
theorem Val.loadU (hT : TabOk P T) {x : Operand} {b : Nat} {l : List Nat} {e : TypeId} {fz : Nat × Nat} (ho : o.op = .load t x) (ht : tiGet T t = some ti)
    (hx : lk E x = some (.pointer (some ⟨b, 0, none⟩))) (ha : TypeDesc.agg ti.desc = true) (hm : (b, .cells (u8s l).toArray e fz) ∈ L) (hl : l.length = ti.size) : Val P n w0 S0 E L o (.agg (u8s l).toArray) :=
  Val.loadAll hT ho ht hx ha hm (by simp [u8s_len, hl])
/-- .. all of them. -/
theorem OpTo.setAll (hT : TabOk P T) {x y : Operand} {b : Nat} {arr : Array Value} {l : List Nat} {e : TypeId} {L' : Hp} (hd : o.dst = none) (ho : o.op = .store t x y) (ht : tiGet T t = some ti)
    (hx : lk E x = some (.pointer (some ⟨b, 0, none⟩))) (hy : lk E y = some (.agg (u8s l).toArray)) (hL : L.Perm ((b, .cells arr e (0, 0)) :: L')) (hs : l.length = ti.size) (hf : ti.size = arr.size) :
    OpTo P n w0 S0 Q E L o (Y := Unit) (fun _ => E) (fun _ => (b, .cells (u8s l).toArray e (0, 0)) :: L') :=
  OpTo.storeAll hT hd ho ht hx hy hL (by simp [Value.cells, u8s_len, hs]) hf (fun u hu => u8s_one l u (by simpa [Value.cells] using hu))
theorem Res.cellU {fz : Nat × Nat} (hT : TabOk P T) {x t b : Nat} {ti : TI} {l : List Nat} {e : TypeId} (ht : tiGet T t = some ti) (h : E.get x = some (.pointer (some ⟨b, 0, none⟩)))
    (ha : TypeDesc.agg ti.desc = true) (hm : (b, .cells (u8s l).toArray e fz) ∈ L) (hs : l.length = ti.size) : Res P n w0 S0 E L (.cell x t) (.agg (u8s l).toArray) :=
  Res.cellAll hT ht h ha hm (by simp [u8s_len, hs])
theorem Val.quoN {t1 t2 : Nat} {x y : Operand} {k k2 : IntKind} {a m : Nat} (ho : o.op = .binOp .quo t1 x y t2) (hx : lk E x = some (.int k a)) (hy : lk E y = some (.int k2 m)) (hk : k = k2) (hm : 0 < m) (hz : inK k (a : Int)) :
    Val P n w0 S0 E L o (.int k ((a / m : Nat) : Int)) := by
  refine Val.of ?_
  subst hk
  have h1 : ¬ (m : Int) = 0 := by omega
  have h2 : inK k ((a / m : Nat) : Int) := by
    have := Nat.div_le_self a m
    generalize a / m = q at *
    cases k <;> simp only [inK] at hz ⊢ <;> omega
  rw [ho]
  simp only [ev, hx, hy, evBin, if_true, if_neg h1, ← Int.ofNat_tdiv, wrap_in h2]
theorem Val.remN {t1 t2 : Nat} {x y : Operand} {k k2 : IntKind} {a m : Nat} (ho : o.op = .binOp .rem t1 x y t2) (hx : lk E x = some (.int k a)) (hy : lk E y = some (.int k2 m)) (hk : k = k2) (hm : 0 < m) :
    Val P n w0 S0 E L o (.int k ((a % m : Nat) : Int)) := by
  refine Val.of ?_
  subst hk
  have h1 : ¬ (m : Int) = 0 := by omega
  rw [ho]
  simp only [ev, hx, hy, evBin, if_true, if_neg h1, ← Int.ofNat_tmod]
end
end Go.Vc
end
