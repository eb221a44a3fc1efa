/- Lemmas. -/
import Derived.WalkKit
import Derived.Laws.OwnMore
import Derived.Laws.CopyOwn
import Derived.Laws.StructEq
import Derived.Test.YtfoeakgnkfcbjaaGreatDoorPt00
set_option linter.unusedSimpArgs false
set_option linter.unusedVariables false
section
/- The stepping engine: what a frame and memory are known to hold, and one rule for each kind of operation. -/
namespace Go.Vc
open Go

abbrev Env := List (Nat × Value)
abbrev Hp := List (Nat × Obj)

def Env.get : Env → Nat → Option Value
  | [], _ => none
  | (i, v) :: r, t => bif Nat.beq i t then some v else Env.get r t

def lk (E : Env) : Operand → Option Value
  | .tmp t => E.get t
  | .const v => some v
  | .global g => some (.pointer (some ⟨g, 0, none⟩))
  | .func f => some (.func (.func f) #[] #[])

/-- What is known of a frame: its size, no defers, and some slots. -/
structure St (n : Nat) (E : Env) (a : Act) : Prop where
  defers : a.defers = []
  size : a.tmps.size = n
  env : ∀ t v, E.get t = some v → a.tmps.getD t undef = v

theorem St.eval {n : Nat} {E : Env} {a : Act} (h : St n E a) {x : Operand} {v : Value} (hl : lk E x = some v) : a.eval x = v := by
  cases x with
  | tmp t => exact h.env t v hl
  | const u => simpa [lk, Act.eval] using hl
  | global g => simpa [lk, Act.eval] using hl
  | func f => simpa [lk, Act.eval] using hl

theorem Env.get_cons (i t : Nat) (v : Value) (E : Env) : Env.get ((i, v) :: E) t = if i = t then some v else E.get t := by
  simp only [Env.get]
  by_cases h : i = t
  · subst h; simp
  · rw [if_neg h]
    have : Nat.beq i t = false := by rw [Bool.eq_false_iff]; intro h'; exact h (Nat.eq_of_beq_eq_true h')
    rw [this]; rfl

theorem St.put {n : Nat} {E : Env} {a : Act} (h : St n E a) {d : Nat} (hd : Nat.blt d n = true) (v : Value) : St n ((d, v) :: E) (a.put (some d) v) := by
  have hd' : d < n := by simpa using hd
  refine ⟨h.defers, by simp [Act.put, h.size], fun t u hu => ?_⟩
  rw [Env.get_cons] at hu
  by_cases e : d = t
  · subst e
    rw [if_pos rfl] at hu
    cases hu
    simp [Act.put, h.size, hd']
  · rw [if_neg e] at hu
    have := h.env t u hu
    simp only [Act.put]
    rw [← this]
    simp [Array.getD_eq_getD_getElem?, e]

/-- E' says no more than E. -/
def Env.le : Env → Env → Prop
  | [], _ => True
  | (t, v) :: r, E => E.get t = some v ∧ Env.le r E

theorem Env.le_get : ∀ {E' E : Env}, Env.le E' E → ∀ t v, E'.get t = some v → E.get t = some v
  | [], _, _, _, _, h => by simp [Env.get] at h
  | (i, u) :: r, E, hl, t, v, h => by
    rw [Env.get_cons] at h
    by_cases e : i = t
    · rw [if_pos e] at h; cases h; exact e ▸ hl.1
    · rw [if_neg e] at h; exact Env.le_get hl.2 t v h

theorem St.weak {n : Nat} {E E' : Env} {a : Act} (h : St n E a) (hl : Env.le E' E) : St n E' a :=
  ⟨h.defers, h.size, fun t v ht => h.env t v (Env.le_get hl t v ht)⟩

/-- Of what was there nothing has turned, but for the blocks in S. -/
structure Fr (S : List Nat) (w w' : World) : Prop where
  os : w'.os = w.os
  tape : w'.tape = w.tape
  output : w'.output = w.output
  size : w.heap.size ≤ w'.heap.size
  block : ∀ k, k < w.heap.size → k ∉ S → w'.heap[k]? = w.heap[k]?

theorem Fr.refl (S : List Nat) (w : World) : Fr S w w := ⟨rfl, rfl, rfl, Nat.le_refl _, fun _ _ _ => rfl⟩
theorem Fr.trans {S : List Nat} {a b c : World} (h : Fr S a b) (k : Fr S b c) : Fr S a c :=
  ⟨k.os.trans h.os, k.tape.trans h.tape, k.output.trans h.output, Nat.le_trans h.size k.size,
   fun i hi hs => (k.block i (Nat.lt_of_lt_of_le hi h.size) hs).trans (h.block i hi hs)⟩
theorem Fr.mono {S S' : List Nat} {a b : World} (h : Fr S a b) (hs : ∀ k ∈ S, k ∈ S') : Fr S' a b :=
  ⟨h.os, h.tape, h.output, h.size, fun i hi hn => h.block i hi fun hk => hn (hs i hk)⟩
theorem Fr.any {a b : World} (h : Fr [] a b) (S : List Nat) : Fr S a b := h.mono (fun _ h => by cases h)
theorem Fr.cell {S : List Nat} {w w' : World} (h : Fr S w w') {p : Addr} (hp : p.block ∉ S) {v : Value} (hc : w.cell? p = some v) : w'.cell? p = some v := by
  have hb := World.block_lt_of_cell? w p hc
  have := h.block p.block hb hp
  simpa [World.cell?, this] using hc
theorem Fr.alloc (w : World) (o : Obj) : Fr [] w (w.alloc o) := ⟨rfl, rfl, rfl, by simp, fun k hk _ => Go.RowKit.Below.heap_alloc w o k hk⟩
theorem Fr.drew (w : World) : Fr [] w w.drew := ⟨rfl, rfl, rfl, Nat.le_refl _, fun _ _ _ => rfl⟩
theorem Fr.below {w w' : World} (h : Fr [] w w') : Go.RowKit.Below w.heap.size w w' := ⟨h.os, h.tape, h.output, h.size, fun k hk => h.block k hk (by simp)⟩
/-- Memory: since w0 nothing old has turned but S0; the listed blocks hold what is listed, and they are the call's own (or of S0). -/
structure Mem (w0 : World) (S0 : List Nat) (L : Hp) (w : World) : Prop where
  fr : Fr S0 w0 w
  has : ∀ p ∈ L, w.heap[p.1]? = some p.2
  own : ∀ p ∈ L, w0.heap.size ≤ p.1 ∨ p.1 ∈ S0
  nd : (L.map (·.1)).Nodup

theorem Mem.nil (w : World) (S0 : List Nat) : Mem w S0 [] w := ⟨Fr.refl _ _, (fun _ h => by cases h), (fun _ h => by cases h), List.nodup_nil⟩

theorem Mem.lt {w0 w : World} {S0 : List Nat} {L : Hp} (h : Mem w0 S0 L w) {p : Nat × Obj} (hp : p ∈ L) : p.1 < w.heap.size :=
  (Array.getElem?_eq_some_iff.1 (h.has p hp)).1

/-- A call that turns nothing old: all that is listed stays. -/
theorem Mem.ext {w0 w w' : World} {S0 : List Nat} {L : Hp} (h : Mem w0 S0 L w) (hf : Fr [] w w') : Mem w0 S0 L w' :=
  ⟨h.fr.trans (hf.any S0), fun p hp => (hf.block p.1 (h.lt hp) (by simp)).trans (h.has p hp), h.own, h.nd⟩

/-- New blocks beside those that are listed. -/
theorem Mem.add {w0 w w' : World} {S0 : List Nat} {L N : Hp} (h : Mem w0 S0 L w) (hf : Fr [] w w') (hn : ∀ p ∈ N, w'.heap[p.1]? = some p.2)
    (hs : ∀ p ∈ N, w.heap.size ≤ p.1) (hd : (N.map (·.1)).Nodup) : Mem w0 S0 (N ++ L) w' := by
  have h' := h.ext hf
  refine ⟨h'.fr, ?_, ?_, ?_⟩
  · intro p hp
    rcases List.mem_append.1 hp with hp | hp
    · exact hn p hp
    · exact h'.has p hp
  · intro p hp
    rcases List.mem_append.1 hp with hp | hp
    · exact .inl (Nat.le_trans h.fr.size (hs p hp))
    · exact h.own p hp
  · rw [List.map_append]
    refine List.nodup_append.2 ⟨hd, h.nd, ?_⟩
    intro a ha b hb e
    obtain ⟨p, hp, rfl⟩ := List.mem_map.1 ha
    obtain ⟨q, hq, hqe⟩ := List.mem_map.1 hb
    have h1 := hs p hp
    have h2 := h.lt hq
    omega

theorem Mem.alloc {w0 w : World} {S0 : List Nat} {L : Hp} (h : Mem w0 S0 L w) (o : Obj) : Mem w0 S0 ((w.heap.size, o) :: L) (w.alloc o) :=
  h.add (N := [(w.heap.size, o)]) (Fr.alloc w o) (fun p hp => by rw [List.mem_singleton] at hp; subst hp; exact heap_alloc_new w o) (by simp) (by simp)

/-- A part of what is listed, in another order. -/
theorem Mem.sub {w0 w : World} {S0 : List Nat} {L L' : Hp} (h : Mem w0 S0 L w) (hs : ∀ p ∈ L', p ∈ L) (hd : (L'.map (·.1)).Nodup) : Mem w0 S0 L' w :=
  ⟨h.fr, fun p hp => h.has p (hs p hp), fun p hp => h.own p (hs p hp), hd⟩

theorem Mem.sublist {w0 w : World} {S0 : List Nat} {L L' : Hp} (h : Mem w0 S0 L w) (hs : L'.Sublist L) : Mem w0 S0 L' w :=
  h.sub (fun _ hp => hs.subset hp) (h.nd.sublist (hs.map _))

theorem Mem.perm {w0 w : World} {S0 : List Nat} {L L' : Hp} (h : Mem w0 S0 L w) (hs : L.Perm L') : Mem w0 S0 L' w :=
  h.sub (fun _ hp => hs.mem_iff.2 hp) ((hs.map _).nodup_iff.1 h.nd)

/-- The first block that is listed is written anew. -/
theorem Mem.write {w0 w w' : World} {S0 : List Nat} {L : Hp} {b : Nat} {o o' : Obj} (h : Mem w0 S0 ((b, o) :: L) w) (hf : Fr [b] w w')
    (hb : w'.heap[b]? = some o') : Mem w0 S0 ((b, o') :: L) w' := by
  have hnd := h.nd
  simp only [List.map_cons, List.nodup_cons] at hnd
  refine ⟨⟨hf.os.trans h.fr.os, hf.tape.trans h.fr.tape, hf.output.trans h.fr.output, Nat.le_trans h.fr.size hf.size, ?_⟩, ?_, ?_, ?_⟩
  · intro k hk hs
    refine (hf.block k (Nat.lt_of_lt_of_le hk h.fr.size) ?_).trans (h.fr.block k hk hs)
    intro hm
    simp only [List.mem_singleton] at hm
    subst hm
    rcases h.own _ (List.mem_cons_self) with ho | ho
    · exact absurd hk (by simp only at ho; omega)
    · exact hs ho
  · intro p hp
    rcases List.mem_cons.1 hp with rfl | hp
    · exact hb
    · refine (hf.block p.1 (h.lt (List.mem_cons_of_mem _ hp)) ?_).trans (h.has p (List.mem_cons_of_mem _ hp))
      simp only [List.mem_singleton]
      intro e
      exact hnd.1 (e ▸ List.mem_map_of_mem hp)
  · intro p hp
    rcases List.mem_cons.1 hp with rfl | hp
    · exact h.own (b, o) (List.mem_cons_self)
    · exact h.own p (List.mem_cons_of_mem _ hp)
  · simpa using h.nd

section
variable (P : Program) (n : Nat) (w0 : World) (S0 : List Nat)

/-- From every frame and world of which so much is known, the operations that are left come to Q. -/
def Run (ops : Array Oper) (Q : Exit → Act → World → Prop) (rest : List Oper) (E : Env) (L : Hp) : Prop :=
  ∀ a w, St n E a → Mem w0 S0 L w → wpList P ops Q rest a w
def RC (c : Code) (Q : Exit → Act → World → Prop) (E : Env) (L : Hp) : Prop :=
  ∀ a w, St n E a → Mem w0 S0 L w → c.wp P Q a w
def RQ (e : Exit) (Q : Exit → Act → World → Prop) (E : Env) (L : Hp) : Prop :=
  ∀ a w, St n E a → Mem w0 S0 L w → Q e a w
end

section
variable {P : Program} {n : Nat} {w0 : World} {S0 : List Nat} {Q : Exit → Act → World → Prop} {E : Env} {L : Hp}

theorem RC.region {id : Nat} {l : List Oper} (h : Run P n w0 S0 l.toArray Q l E L) : RC P n w0 S0 (.region id l.toArray false) Q E L :=
  fun a w hs hm => wp_region_lit (h a w hs hm)
theorem RC.seq {x y : Code} (h : RC P n w0 S0 x (Exit.then (y.wp P Q) Q) E L) : RC P n w0 S0 (.seq x y) Q E L :=
  fun a w hs hm => wp_seq (h a w hs hm)
theorem RC.skip (h : RQ n w0 S0 .normal Q E L) : RC P n w0 S0 .skip Q E L := fun a w hs hm => wp_skip (h a w hs hm)
theorem RC.ret (h : RQ n w0 S0 .ret Q E L) : RC P n w0 S0 .ret Q E L := fun a w hs hm => wp_ret (h a w hs hm)
theorem RC.exit {id : Nat} (h : RQ n w0 S0 (.exit id) Q E L) : RC P n w0 S0 (.exit id) Q E L := fun a w hs hm => wp_exit (h a w hs hm)
theorem RC.block {id : Nat} {c : Code} (h : RC P n w0 S0 c (Exit.inBlock id Q) E L) : RC P n w0 S0 (.block id c) Q E L :=
  fun a w hs hm => wp_block (h a w hs hm)
theorem RC.cond {c : Operand} {x y : Code} {t : Bool} (hc : lk E c = some (.bool t)) (ht : t = true → RC P n w0 S0 x Q E L)
    (hf : t = false → RC P n w0 S0 y Q E L) : RC P n w0 S0 (.cond c x y) Q E L :=
  fun a w hs hm => wp_cond_split (hs.eval hc) (fun e => ht e a w hs hm) (fun e => hf e a w hs hm)
theorem RC.condT {c : Operand} {x y : Code} {t : Bool} (hc : lk E c = some (.bool t)) (e : t = true) (h : RC P n w0 S0 x Q E L) :
    RC P n w0 S0 (.cond c x y) Q E L := RC.cond hc (fun _ => h) (fun e' => by rw [e] at e'; cases e')
theorem RC.condF {c : Operand} {x y : Code} {t : Bool} (hc : lk E c = some (.bool t)) (e : t = false) (h : RC P n w0 S0 y Q E L) :
    RC P n w0 S0 (.cond c x y) Q E L := RC.cond hc (fun e' => by rw [e] at e'; cases e') (fun _ => h)
theorem RC.weak {c : Code} {E' : Env} {L' : Hp} (he : Env.le E' E) (hl : L'.Sublist L) (h : RC P n w0 S0 c Q E' L') : RC P n w0 S0 c Q E L :=
  fun a w hs hm => h a w (hs.weak he) (hm.sublist hl)
theorem RC.perm {c : Code} {L' : Hp} (hl : L.Perm L') (h : RC P n w0 S0 c Q E L') : RC P n w0 S0 c Q E L :=
  fun a w hs hm => h a w hs (hm.perm hl)

/-- Where a statement ends and the next one stands behind it. -/
theorem RQ.next {y : Code} {Q' : Exit → Act → World → Prop} (h : RC P n w0 S0 y Q E L) : RQ n w0 S0 .normal (Exit.then (y.wp P Q) Q') E L := h
theorem RQ.thenRet {K : Act → World → Prop} (h : RQ n w0 S0 .ret Q E L) : RQ n w0 S0 .ret (Exit.then K Q) E L := h
theorem RQ.thenExit {K : Act → World → Prop} {id : Nat} (h : RQ n w0 S0 (.exit id) Q E L) : RQ n w0 S0 (.exit id) (Exit.then K Q) E L := h
theorem RQ.blockRet {id : Nat} (h : RQ n w0 S0 .ret Q E L) : RQ n w0 S0 .ret (Exit.inBlock id Q) E L := h
theorem RQ.blockNormal {id : Nat} (h : RQ n w0 S0 .normal Q E L) : RQ n w0 S0 .normal (Exit.inBlock id Q) E L := h
theorem RQ.blockHere {id : Nat} (h : RQ n w0 S0 .normal Q E L) : RQ n w0 S0 (.exit id) (Exit.inBlock id Q) E L :=
  fun a w hs hm => by show (if id = id then Q .normal a w else _); rw [if_pos rfl]; exact h a w hs hm
theorem RQ.blockPast {id id' : Nat} (hne : Nat.beq id' id = false) (h : RQ n w0 S0 (.exit id') Q E L) : RQ n w0 S0 (.exit id') (Exit.inBlock id Q) E L :=
  fun a w hs hm => by
    show (if id' = id then Q .normal a w else Q (.exit id') a w)
    rw [if_neg (fun e => by subst e; simp at hne)]; exact h a w hs hm
/-- A loop: what holds at the head of each round, by an index. -/
theorem RC.loop {c : Code} {ι : Type} (Ei : ι → Env) (Li : ι → Hp) (Inv : ι → Prop) (μ : ι → Nat) (i0 : ι) (h0 : Inv i0) (hE : Env.le (Ei i0) E) (hL : (Li i0).Perm L)
    (round : ∀ i, Inv i → RC P n w0 S0 c (Exit.then (fun a w => ∃ j, Inv j ∧ μ j < μ i ∧ St n (Ei j) a ∧ Mem w0 S0 (Li j) w) Q) (Ei i) (Li i)) :
    RC P n w0 S0 (.loop c) Q E L := by
  intro a w hs hm b k cs
  have key : ∀ m i, μ i = m → Inv i → ∀ a w, St n (Ei i) a → Mem w0 S0 (Li i) w →
      ∃ e a' w', Q e a' w' ∧ Arrives P (lone (b.at a (.code c :: .inLoop c :: k)) cs w) b k cs e a' w' := by
    intro m
    induction m using Nat.strongRecOn with
    | _ m ih =>
      intro i hmi hi a w hsi hmem
      obtain ⟨e, a₁, w₁, hq, harr⟩ := round i hi a w hsi hmem b (.inLoop c :: k) cs
      cases e with
      | normal =>
        obtain ⟨j, hj, hlt, hsj, hmj⟩ := hq
        obtain ⟨e₂, a₂, w₂, hq₂, harr₂⟩ := ih (μ j) (hmi ▸ hlt) j rfl hj a₁ w₁ hsj hmj
        exact ⟨e₂, a₂, w₂, hq₂, .of_steps (Steps.trans harr (.one step_inLoop)) harr₂⟩
      | exit id => exact ⟨_, a₁, w₁, hq, .pass (x := .inLoop c) rfl (fun _ _ => .inl (by simp)) harr⟩
      | goto l => exact ⟨_, a₁, w₁, hq, .pass (x := .inLoop c) rfl (fun _ _ => .inl (by simp)) harr⟩
      | ret => exact ⟨_, a₁, w₁, hq, .pass (x := .inLoop c) rfl (fun _ _ => .inl (by simp)) harr⟩
      | panic ch => exact ⟨_, a₁, w₁, hq, .pass (x := .inLoop c) rfl (fun _ _ => .inl (by simp)) harr⟩
      | outgrown => exact ⟨_, a₁, w₁, hq, .pass (x := .inLoop c) rfl (fun _ _ => .inl (by simp)) harr⟩
  obtain ⟨e, a', w', hq, harr⟩ := key (μ i0) i0 rfl h0 a w (hs.weak hE) (hm.perm hL.symm)
  exact ⟨e, a', w', hq, .of_steps (.one step_loop) harr⟩

theorem RQ.round {ι : Type} {Ei : ι → Env} {Li : ι → Hp} {Inv : ι → Prop} {μ : ι → Nat} {i : ι} (j : ι) (hj : Inv j) (hμ : μ j < μ i) (hE : Env.le (Ei j) E) (hL : (Li j).Sublist L) :
    RQ n w0 S0 .normal (Exit.then (fun a w => ∃ j, Inv j ∧ μ j < μ i ∧ St n (Ei j) a ∧ Mem w0 S0 (Li j) w) Q) E L :=
  fun _ _ hs hm => ⟨j, hj, hμ, hs.weak hE, hm.sublist hL⟩
end
end Go.Vc

/- Rules for the operations that compute, load, store and make memory. -/
namespace Go.Vc
open Go

def evBin (op : BinOp) : Value → Value → Option Value
  | .int k a, .int k' b =>
    match op with
    | .shl => if b < 0 then none else some (.int k (k.wrap (a * 2 ^ min b.toNat k.bits)))
    | .shr => if b < 0 then none else some (.int k (a.fdiv (2 ^ min b.toNat k.bits)))
    | .add => if k = k' then some (.int k (k.wrap (a + b))) else none
    | .sub => if k = k' then some (.int k (k.wrap (a - b))) else none
    | .mul => if k = k' then some (.int k (k.wrap (a * b))) else none
    | .quo => if k = k' then (if b = 0 then none else some (.int k (k.wrap (a.tdiv b)))) else none
    | .rem => if k = k' then (if b = 0 then none else some (.int k (a.tmod b))) else none
    | .and => if k = k' then some (.int k (k.wrap (BitVec.ofInt k.bits a &&& BitVec.ofInt k.bits b).toNat)) else none
    | .or => if k = k' then some (.int k (k.wrap (BitVec.ofInt k.bits a ||| BitVec.ofInt k.bits b).toNat)) else none
    | .xor => if k = k' then some (.int k (k.wrap (BitVec.ofInt k.bits a ^^^ BitVec.ofInt k.bits b).toNat)) else none
    | .andNot => if k = k' then some (.int k (k.wrap (BitVec.ofInt k.bits a &&& ~~~BitVec.ofInt k.bits b).toNat)) else none
    | .eql => if k = k' then some (.bool (a == b)) else none
    | .neq => if k = k' then some (.bool (a != b)) else none
    | .lss => if k = k' then some (.bool (a < b)) else none
    | .leq => if k = k' then some (.bool (a ≤ b)) else none
    | .gtr => if k = k' then some (.bool (a > b)) else none
    | .geq => if k = k' then some (.bool (a ≥ b)) else none
  | _, _ => none

def ev (E : Env) : Op → Option Value
  | .move x | .assign x => lk E x
  | .pick c a b => match lk E c, lk E a, lk E b with
    | some (.bool t), some x, some y => some (bif t then x else y)
    | _, _, _ => none
  | .nilCheck x => match lk E x with
    | some (.pointer (some a)) => some (.pointer (some a))
    | _ => none
  | .binOp op _ x y _ => match lk E x, lk E y with
    | some u, some v => evBin op u v
    | _, _ => none
  | .unOp .not _ x => match lk E x with
    | some (.bool b) => some (.bool !b)
    | _ => none
  | .unOp .neg _ x => match lk E x with
    | some (.int k n) => some (.int k (k.wrap (0 - n)))
    | _ => none
  | .unOp .xor _ x => match lk E x with
    | some (.int k n) => some (.int k (k.wrap (BitVec.ofInt k.bits (if k.signed then -1 else k.max) ^^^ BitVec.ofInt k.bits n).toNat))
    | _ => none
  | .extract t i => match lk E t with
    | some (.tuple vs) => vs[i]?
    | _ => none
  | _ => none

theorem run_evBin {P : Program} {op : BinOp} {t : TypeId} {u v x : Value} (h : evBin op u v = some x) (w : World) :
    (binOp op t u v).run P w = .ok x w := by
  unfold evBin at h
  split at h
  · split at h
    all_goals (repeat' split at h)
    all_goals first | cases h; done | skip
    all_goals cases h
    all_goals simp_all [binOp, Op.shift, Op.intArith, Op.intDiv, Op.intBits, Op.intCmp]
    all_goals omega
  · cases h

theorem eqGuard_int {P : Program} (op : BinOp) (t : TypeId) (x y : Operand) (k k' : IntKind) (a b : Int) (w : World) :
    (eqGuard op t x y (.int k a) (.int k' b)).run P w = .ok () w := by
  cases op <;> simp [eqGuard]

theorem run_ev {P : Program} {n : Nat} {E : Env} {o : Oper} {v : Value} (h : ev E o.op = some v) {a : Act} (hs : St n E a) (w : World) :
    (execOp a.eval o).run P w = .ok (.value v) w := by
  unfold execOp
  generalize ho : o.op = op at h ⊢
  cases op
  case move x => simp [hs.eval h]
  case assign x => simp [hs.eval h]
  case pick c x y =>
    simp only [ev] at h
    split at h
    · rename_i t x' y' hc hx hy
      cases h
      cases t <;> simp [hs.eval hc, hs.eval hx, hs.eval hy, asBool]
    · cases h
  case nilCheck x =>
    simp only [ev] at h
    split at h
    · rename_i ad hx; cases h; simp [hs.eval hx]
    · cases h
  case binOp op t x y ty =>
    simp only [ev] at h
    split at h
    · rename_i u v' hx hy
      have hr := run_evBin (P := P) (t := t) h w
      have hg : (eqGuard op t x y u v').run P w = .ok () w := by
        unfold evBin at h
        split at h
        · exact eqGuard_int ..
        · cases h
      simp [hs.eval hx, hs.eval hy, hr, hg]
    · cases h
  case unOp op t x =>
    cases op <;> simp only [ev] at h <;> (try (cases h; done)) <;> split at h <;> (try (cases h; done))
    all_goals rename_i hx; cases h
    all_goals simp [hs.eval hx, Op.unary, Op.intArith, Op.intBits]
  case extract t i =>
    simp only [ev] at h
    split at h
    · rename_i vs hx; simp [hs.eval hx, Instr.extract, h]
    · cases h
  all_goals simp [ev] at h

section
variable {P : Program} {n : Nat} {w0 : World} {S0 : List Nat} {Q : Exit → Act → World → Prop} {E : Env} {L : Hp} {ops rest : List Oper} {o : Oper} {d : Nat}

theorem Run.nil (h : RQ n w0 S0 .normal Q E L) : Run P n w0 S0 ops.toArray Q [] E L := fun a w hs hm => h a w hs hm

/-- An operation that leaves a value and the world as it is. -/
theorem Run.val (hg : o.guard = none) (hd : o.dst = some d) (hn : Nat.blt d n = true) {v : Value}
    (hr : ∀ a w, St n E a → Mem w0 S0 L w → (execOp a.eval o).run P w = .ok (.value v) w)
    (k : Run P n w0 S0 ops.toArray Q rest ((d, v) :: E) L) : Run P n w0 S0 ops.toArray Q (o :: rest) E L := by
  intro a w hs hm
  refine wpList_plain hg fun K hK => ?_
  simp only [Oper.wp, hr a w hs hm, Oper.upon_value, hd]
  exact hK _ _ (k _ _ (hs.put hn v) hm)

/-- An operation that leaves nothing and writes the first block that is listed. -/
theorem Run.put (hg : o.guard = none) (hd : o.dst = none) {b : Nat} {ob ob' : Obj} {L' : Hp}
    (hL : L.Perm ((b, ob) :: L'))
    (hr : ∀ a w, St n E a → w.heap[b]? = some ob → ∃ w', (execOp a.eval o).run P w = .ok .skip w' ∧ Fr [b] w w' ∧ w'.heap[b]? = some ob')
    (k : Run P n w0 S0 ops.toArray Q rest E ((b, ob') :: L')) : Run P n w0 S0 ops.toArray Q (o :: rest) E L := by
  intro a w hs hm
  have hm' := hm.perm hL
  obtain ⟨w', hr, hf, hb⟩ := hr a w hs (hm'.has _ (List.mem_cons_self))
  refine wpList_plain hg fun K hK => ?_
  simp only [Oper.wp, hr, Oper.upon_skip, hd]
  exact hK _ _ (k _ _ hs (hm'.write hf hb))


def lkAll (E : Env) : List Operand → Option (List Value)
  | [] => some []
  | x :: r => match lk E x, lkAll E r with
    | some v, some vs => some (v :: vs)
    | _, _ => none

theorem St.evalAll {E : Env} {a : Act} (h : St n E a) : ∀ {xs : List Operand} {vs : List Value}, lkAll E xs = some vs → xs.map a.eval = vs
  | [], _, hl => by cases hl; rfl
  | x :: r, _, hl => by
    simp only [lkAll] at hl
    split at hl
    · rename_i v vs hx hr
      cases hl
      simp [h.eval hx, St.evalAll h hr]
    · cases hl

/-- What a call of a function by its name enters. -/
theorem run_call {a : Act} {f : FuncId} {xs : List Operand} {ts : Array TypeId} {fn : Func} {vs : List Value} (hs : St n E a)
    (ho : o.op = .call { callee := .value (.func f), args := xs.toArray, argTypes := ts }) (hf : P.funcs[f]? = some fn) (hnm : (fn.name == "runtime.NumGoroutine") = false) (hb : fn.body.isNone = false)
    (hx : lkAll E xs = some vs) (w : World) : (execOp a.eval o).run P w = .ok (.enter f vs.toArray) w := by
  have hv := hs.evalAll hx
  have hn' : ¬ fn.name = "runtime.NumGoroutine" := by simpa using hnm
  have hb' : ¬ fn.body = none := by intro h; rw [h] at hb; cases hb
  simp [execOp, ho, resolve, Act.eval, Deferred.ofValue, invoke, callFunc, hf, hn', hb', ← hv]

/-- A call: by the callee's contract, from whatever world of which so much is known. -/
theorem Run.call {f : FuncId} {xs : List Operand} {ts : Array TypeId} {fn : Func} {vs : List Value} (hf : P.funcs[f]? = some fn) (hg : o.guard = none) (hd : o.dst = some d) (hn : Nat.blt d n = true)
    (ho : o.op = .call { callee := .value (.func f), args := xs.toArray, argTypes := ts }) (hnm : (fn.name == "runtime.NumGoroutine") = false) (hb : fn.body.isNone = false)
    (hx : lkAll E xs = some vs) {Y : Type} {V : Y → Value} {L' : Y → Hp}
    (hc : ∀ w, Mem w0 S0 L w → Calls P f vs.toArray w fun e w' => ∃ y, e = .returned (V y) ∧ Mem w0 S0 (L' y) w')
    (k : ∀ y, Run P n w0 S0 ops.toArray Q rest ((d, V y) :: E) (L' y)) : Run P n w0 S0 ops.toArray Q (o :: rest) E L := by
  intro a w hs hm
  refine wpList_plain hg fun K hK => ?_
  simp only [Oper.wp, run_call hs ho hf hnm hb hx, Oper.upon_enter]
  refine (hc w hm).mono ?_
  rintro e w' ⟨y, rfl, hm'⟩
  simp only [hd]
  exact hK _ _ (k y _ _ (hs.put hn _) hm')

/-- It gives v, and turns nothing old. -/
def Gives (P : Program) (f : FuncId) (vs : List Value) (v : Value) (w : World) : Prop :=
  Calls P f vs.toArray w fun e w' => e = .returned v ∧ Fr [] w w'

/-- A call whose value is known, and that turns nothing old. -/
theorem Run.callV {f : FuncId} {xs : List Operand} {ts : Array TypeId} {fn : Func} {vs : List Value} {v : Value} (hf : P.funcs[f]? = some fn) (hg : o.guard = none) (hd : o.dst = some d) (hn : Nat.blt d n = true)
    (ho : o.op = .call { callee := .value (.func f), args := xs.toArray, argTypes := ts }) (hnm : (fn.name == "runtime.NumGoroutine") = false) (hb : fn.body.isNone = false)
    (hx : lkAll E xs = some vs) (hc : ∀ w, Mem w0 S0 L w → Gives P f vs v w)
    (k : Run P n w0 S0 ops.toArray Q rest ((d, v) :: E) L) : Run P n w0 S0 ops.toArray Q (o :: rest) E L :=
  Run.call hf hg hd hn ho hnm hb hx (Y := Unit) (V := fun _ => v) (L' := fun _ => L)
    (fun w hm => (hc w hm).mono (by rintro e w' ⟨rfl, hfr⟩; exact ⟨(), rfl, hm.ext hfr⟩)) (fun _ => k)
end
end Go.Vc

/- Values of operations that hang on types; loads, stores, new memory. -/
namespace Go.Vc
open Go

structure TI where
  desc : TypeDesc
  size : Nat
  bytes : Nat
  zero : Value

def tiGet : List (Nat × TI) → Nat → Option TI
  | [], _ => none
  | (i, v) :: r, t => bif Nat.beq i t then some v else tiGet r t

/-- The table's rows are the program's. -/
def Ty (P : Program) (t : Nat) (ti : TI) : Prop :=
  P.underlying t = some ti.desc ∧ ∃ i, P.info? t = some i ∧ i.size = ti.size ∧ i.bytes = ti.bytes ∧ i.zero = some ti.zero
def TabOk (P : Program) (T : List (Nat × TI)) : Prop := ∀ t ti, tiGet T t = some ti → Ty P t ti

theorem TabOk.nil {P : Program} : TabOk P [] := fun _ _ h => by cases h
theorem TabOk.cons {P : Program} {t : Nat} {ti : TI} {T : List (Nat × TI)} (h : Ty P t ti) (k : TabOk P T) : TabOk P ((t, ti) :: T) := by
  intro u ui hu
  simp only [tiGet] at hu
  by_cases e : t = u
  · subst e; simp at hu; subst hu; exact h
  · have : Nat.beq t u = false := by rw [Bool.eq_false_iff]; intro h'; exact e (Nat.eq_of_beq_eq_true h')
    rw [this] at hu; exact k u ui hu

theorem Ty.mk' {P : Program} {t : Nat} {ti : TI} (h : P.underlying t = some ti.desc) (k : (P.info? t).map (fun i => (i.size, i.bytes, i.zero)) = some (ti.size, ti.bytes, some ti.zero)) : Ty P t ti := by
  refine ⟨h, ?_⟩
  cases hi : P.info? t with
  | none => rw [hi] at k; cases k
  | some i => rw [hi] at k; simp only [Option.map_some, Option.some.injEq, Prod.mk.injEq] at k; exact ⟨i, rfl, k.1, k.2.1, k.2.2⟩

def TypeDesc.agg : TypeDesc → Bool
  | .struct _ | .array _ _ => true
  | _ => false

section
variable {P : Program} {t : Nat} {ti : TI}
theorem Ty.size (h : Ty P t ti) (w : World) : (sizeOf t).run P w = .ok ti.size w := by
  obtain ⟨_, i, hi, hs, _, _⟩ := h
  simp [Go.sizeOf, typeInfo, hi, hs]
theorem Ty.zero (h : Ty P t ti) (w : World) : (zeroValue t).run P w = .ok ti.zero w := by
  obtain ⟨_, i, hi, _, _, hz⟩ := h
  simp [zeroValue, typeInfo, hi, hz]
theorem Ty.isAgg (h : Ty P t ti) (w : World) : (isAgg t).run P w = .ok (TypeDesc.agg ti.desc) w := by
  unfold Go.isAgg
  rw [Sem.run_bind, run_underlying h.1 w]
  cases ti.desc <;> simp [TypeDesc.agg]

theorem add_add (a : Addr) (i j : Nat) : (a.add i).add j = a.add (i + j) := by
  unfold Addr.add
  by_cases hi : i = 0 <;> by_cases hj : j = 0 <;> simp [hi, hj, Nat.add_assoc]
theorem add_lit (b o j : Nat) : (⟨b, o, none⟩ : Addr).add j = ⟨b, o + j, none⟩ := by
  unfold Addr.add
  by_cases hj : j = 0 <;> simp [hj]

theorem run_loadVar_agg (h : Ty P t ti) (ha : TypeDesc.agg ti.desc = true) (w : World) (a : Addr) (cs : List Value) (hl : cs.length = ti.size)
    (hc : ∀ j v, cs[j]? = some v → w.cell? (a.add j) = some v) : (loadVar t a).run P w = .ok (.agg cs.toArray) w := by
  have hr := run_loadCells_list (P := P) w a cs hc
  rw [hl] at hr
  simp [loadVar, h.isAgg, ha, h.size, hr]
theorem run_loadVar_one (h : Ty P t ti) (ha : TypeDesc.agg ti.desc = false) (w : World) (a : Addr) (v : Value)
    (hc : w.cell? a = some v) : (loadVar t a).run P w = .ok v w := by
  simp [loadVar, h.isAgg, ha, load, Sem.run, hc]

/-- What a variable of the type holds that begins at a place of a row. -/
def rdAt (ti : TI) (arr : Array Value) (off : Nat) : Option Value :=
  bif TypeDesc.agg ti.desc then (bif Nat.ble (off + ti.size) arr.size then some (.agg (arr.extract off (off + ti.size))) else none) else arr[off]?

theorem run_loadVar_at (h : Ty P t ti) (w : World) {b off : Nat} {arr : Array Value} {e : TypeId} {fz : Nat × Nat} {v : Value} (hb : w.heap[b]? = some (.cells arr e fz))
    (hv : rdAt ti arr off = some v) : (loadVar t ⟨b, off, none⟩).run P w = .ok v w := by
  unfold rdAt at hv
  cases ha : TypeDesc.agg ti.desc with
  | false =>
    simp only [ha, cond_false] at hv
    exact run_loadVar_one h ha w _ v (by rw [cell_of_row w b off arr e fz hb]; exact hv)
  | true =>
    simp only [ha, cond_true] at hv
    cases hf : Nat.ble (off + ti.size) arr.size with
    | false => simp [hf] at hv
    | true =>
      have hf' : off + ti.size ≤ arr.size := Nat.le_of_ble_eq_true hf
      simp only [hf, cond_true, Option.some.injEq] at hv
      subst hv
      have := run_loadVar_agg (P := P) h ha w ⟨b, off, none⟩ (arr.extract off (off + ti.size)).toList (by simp; omega) (fun j v hj => by
        rw [add_lit, cell_of_row w b (off + j) arr e fz hb]
        rw [Array.getElem?_toList, Array.getElem?_extract] at hj
        split at hj
        · exact hj
        · cases hj)
      rw [Array.toArray_toList] at this
      exact this

theorem run_loadVar_all (h : Ty P t ti) (ha : TypeDesc.agg ti.desc = true) (w : World) {b : Nat} {arr : Array Value} {e : TypeId} {fz : Nat × Nat} (hb : w.heap[b]? = some (.cells arr e fz))
    (hs : arr.size = ti.size) : (loadVar t ⟨b, 0, none⟩).run P w = .ok (.agg arr) w := by
  have := run_loadVar_agg (P := P) h ha w ⟨b, 0, none⟩ arr.toList (by simpa using hs) (fun j v hj => by
        rw [add_lit, cell_of_row w b (0 + j) arr e fz hb]
        simpa using hj)
  simpa using this

/-- The row behind a store of cells at a place. -/
def wrAt (arr : Array Value) (off : Nat) (cs : List Value) : Array Value := (arr.toList.take off ++ cs ++ arr.toList.drop (off + cs.length)).toArray

theorem Fr.setRow (w : World) (g : Nat) (cs : Array Value) : Fr [g] w (w.setRow g cs) :=
  ⟨rfl, rfl, rfl, by simp, fun k _ hk => setRow_other w g k cs (by simpa using hk)⟩

theorem run_storeVar_at (h : Ty P t ti) (w : World) {b off : Nat} {arr : Array Value} {e : TypeId} {v : Value} (hb : w.heap[b]? = some (.cells arr e (0, 0)))
    (hs : v.cells.size = ti.size) (hf : off + ti.size ≤ arr.size) (h1 : ∀ u ∈ v.cells.toList, u.oneCell' = true) :
    (storeVar t ⟨b, off, none⟩ v).run P w = .ok () (w.setRow b (wrAt arr off v.cells.toList)) := by
  have hst := run_storeCells_at P b off e v.cells.toList 0 arr w hb (by simp; omega) h1
  simp only [Nat.add_zero] at hst
  simp only [storeVar, Sem.run_bind, h.size, Result.andThen_ok, hs, ne_eq, not_true_eq_false, if_false]
  exact hst
end

section
variable (P : Program) (n : Nat) (w0 : World) (S0 : List Nat) (E : Env) (L : Hp)
/-- The operation leaves v, and the world as it is. -/
def Val (o : Oper) (v : Value) : Prop := ∀ a w, St n E a → Mem w0 S0 L w → (execOp a.eval o).run P w = .ok (.value v) w
/-- The operation leaves a value that hangs on one new block, and makes it. -/
def New (o : Oper) (V : Nat → Value) (ob : Obj) : Prop := ∀ a w, St n E a → Mem w0 S0 L w → ∃ w1, Fr [] w w1 ∧ w1.heap.size = w.heap.size ∧ (execOp a.eval o).run P w = .ok (.value (V w.heap.size)) (w1.alloc ob)
end

section
variable {P : Program} {n : Nat} {w0 : World} {S0 : List Nat} {Q : Exit → Act → World → Prop} {E : Env} {L : Hp} {ops rest : List Oper} {o : Oper} {d : Nat} {T : List (Nat × TI)} {t : Nat} {ti : TI}

theorem Val.eq {v v' : Value} (h : Val P n w0 S0 E L o v) (e : v = v') : Val P n w0 S0 E L o v' := e ▸ h
theorem Val.of {v : Value} (he : ev E o.op = some v) : Val P n w0 S0 E L o v := fun _ w hs _ => run_ev he hs w

theorem Run.v (hg : o.guard = none) (hd : o.dst = some d) (hn : Nat.blt d n = true) {v : Value} (h : Val P n w0 S0 E L o v)
    (k : Run P n w0 S0 ops.toArray Q rest ((d, v) :: E) L) : Run P n w0 S0 ops.toArray Q (o :: rest) E L := Run.val hg hd hn h k
/-- Numbers that do not leave their kind: what is reckoned stands bare. -/
def inK : IntKind → Int → Prop
  | .i64, z => -9223372036854775808 ≤ z ∧ z ≤ 9223372036854775807
  | .i32, z => -2147483648 ≤ z ∧ z ≤ 2147483647
  | .i16, z => -32768 ≤ z ∧ z ≤ 32767
  | .i8, z => -128 ≤ z ∧ z ≤ 127
  | .u64, z => 0 ≤ z ∧ z ≤ 18446744073709551615
  | .u32, z => 0 ≤ z ∧ z ≤ 4294967295
  | .u16, z => 0 ≤ z ∧ z ≤ 65535
  | .u8, z => 0 ≤ z ∧ z ≤ 255
theorem wrap_in {k : IntKind} {z : Int} (h : inK k z) : k.wrap z = z := by
  cases k <;> simp only [inK] at h <;> simp [IntKind.wrap, IntKind.bits, IntKind.signed] <;> omega

def evAr (op : BinOp) (u v : Value) : Option (IntKind × Int) :=
  match op, u, v with
  | .add, .int k a, .int k' b => if k = k' then some (k, a + b) else none
  | .sub, .int k a, .int k' b => if k = k' then some (k, a - b) else none
  | .mul, .int k a, .int k' b => if k = k' then some (k, a * b) else none
  | .shl, .int k a, .int _ b => if b < 0 then none else some (k, a * 2 ^ min b.toNat k.bits)
  | _, _, _ => none
theorem Val.ar {op : BinOp} {t1 t2 : Nat} {x y : Operand} {u v : Value} {k : IntKind} {z : Int} (ho : o.op = .binOp op t1 x y t2) (hx : lk E x = some u) (hy : lk E y = some v)
    (he : evAr op u v = some (k, z)) (hz : inK k z) : Val P n w0 S0 E L o (.int k z) := by
  refine Val.of ?_
  have : evBin op u v = some (.int k (k.wrap z)) := by
    unfold evAr at he
    split at he
    all_goals first | (cases he; done) | skip
    all_goals split at he
    all_goals first | (cases he; done) | skip
    all_goals cases he
    all_goals simp_all [evBin]
  rw [ho]
  simp [ev, hx, hy, this, wrap_in hz]

theorem Val.shl {t1 t2 : Nat} {x y : Operand} {k k2 : IntKind} {a m : Nat} (ho : o.op = .binOp .shl t1 x y t2) (hx : lk E x = some (.int k a)) (hy : lk E y = some (.int k2 m)) (hm : m ≤ k.bits) :
    Val P n w0 S0 E L o (.int k (k.wrap ((a * 2 ^ m : Nat) : Int))) := by
  refine Val.of ?_
  have h1 : ¬ (m : Int) < 0 := by omega
  have h2 : min ((m : Int)).toNat k.bits = m := by simp; omega
  rw [ho]
  simp only [ev, hx, hy, evBin, h1, if_false, h2]
  rfl
theorem Val.shr {t1 t2 : Nat} {x y : Operand} {k k2 : IntKind} {a m : Nat} (ho : o.op = .binOp .shr t1 x y t2) (hx : lk E x = some (.int k a)) (hy : lk E y = some (.int k2 m)) (hm : m ≤ k.bits) :
    Val P n w0 S0 E L o (.int k ((a / 2 ^ m : Nat) : Int)) := by
  refine Val.of ?_
  have h1 : ¬ (m : Int) < 0 := by omega
  have h2 : min ((m : Int)).toNat k.bits = m := by simp; omega
  rw [ho]
  simp only [ev, hx, hy, evBin, h1, if_false, h2]
  congr 2
  rw [Int.fdiv_eq_ediv_of_nonneg _ (Int.le_of_lt (Int.pow_pos (by decide)))]
  rfl

theorem Val.conv (hT : TabOk P T) {s c : Nat} {x : Operand} {k k' : IntKind} {z : Int} {si : TI} (ho : o.op = .convert s c x) (hs : tiGet T s = some si) (hsd : si.desc = .int k')
    (ht : tiGet T c = some ti) (hd : ti.desc = .int k) (hx : lk E x = some (.int k' z)) : Val P n w0 S0 E L o (.int k (k.wrap z)) := by
  intro a w hst _
  have h1 := (hT _ _ hs).1
  have h2 := (hT _ _ ht).1
  rw [hsd] at h1
  rw [hd] at h2
  simp [execOp, ho, hst.eval hx, convert, run_underlying h1, run_underlying h2, Conv.intToInt]
theorem Val.convIn (hT : TabOk P T) {s c : Nat} {x : Operand} {k k' : IntKind} {z : Int} {si : TI} (ho : o.op = .convert s c x) (hs : tiGet T s = some si) (hsd : si.desc = .int k')
    (ht : tiGet T c = some ti) (hd : ti.desc = .int k) (hx : lk E x = some (.int k' z)) (hz : inK k z) : Val P n w0 S0 E L o (.int k z) := by
  have := Val.conv (P := P) (n := n) (w0 := w0) (S0 := S0) (L := L) hT ho hs hsd ht hd hx
  rwa [wrap_in hz] at this

theorem Val.load (hT : TabOk P T) {x : Operand} {b off : Nat} {arr : Array Value} {e : TypeId} {fz : Nat × Nat} {v : Value} (ho : o.op = .load t x) (ht : tiGet T t = some ti)
    (hx : lk E x = some (.pointer (some ⟨b, off, none⟩))) (hm : (b, .cells arr e fz) ∈ L) (hv : rdAt ti arr off = some v) : Val P n w0 S0 E L o v := by
  intro a w hs hmem
  have := run_loadVar_at (P := P) (hT _ _ ht) w (hmem.has _ hm) hv
  simp [execOp, ho, hs.eval hx, Instr.loadAt, Instr.sureAddr, this]
theorem Val.loadAll (hT : TabOk P T) {x : Operand} {b : Nat} {arr : Array Value} {e : TypeId} {fz : Nat × Nat} (ho : o.op = .load t x) (ht : tiGet T t = some ti)
    (hx : lk E x = some (.pointer (some ⟨b, 0, none⟩))) (ha : TypeDesc.agg ti.desc = true) (hm : (b, .cells arr e fz) ∈ L) (hv : arr.size = ti.size) : Val P n w0 S0 E L o (.agg arr) := by
  intro a w hs hmem
  have := run_loadVar_all (P := P) (hT _ _ ht) ha w (hmem.has _ hm) hv
  simp [execOp, ho, hs.eval hx, Instr.loadAt, Instr.sureAddr, this]
/-- A load from memory that stood at the beginning. -/
theorem Val.loadOld (hT : TabOk P T) {x : Operand} {ad : Addr} {cs : List Value} (ho : o.op = .load t x) (ht : tiGet T t = some ti)
    (hx : lk E x = some (.pointer (some ad))) (ha : TypeDesc.agg ti.desc = true) (hS : ad.block ∉ S0) (hl : cs.length = ti.size) (hc : ∀ j v, cs[j]? = some v → w0.cell? (ad.add j) = some v) :
    Val P n w0 S0 E L o (.agg cs.toArray) := by
  intro a w hs hmem
  have := run_loadVar_agg (P := P) (hT _ _ ht) ha w ad cs hl (fun j v hj => hmem.fr.cell (by rw [show (ad.add j).block = ad.block by unfold Addr.add; split <;> rfl]; exact hS) (hc j v hj))
  simp [execOp, ho, hs.eval hx, Instr.loadAt, Instr.sureAddr, this]
theorem Val.loadOld1 (hT : TabOk P T) {x : Operand} {ad : Addr} {v : Value} (ho : o.op = .load t x) (ht : tiGet T t = some ti)
    (hx : lk E x = some (.pointer (some ad))) (ha : TypeDesc.agg ti.desc = false) (hS : ad.block ∉ S0) (hc : w0.cell? ad = some v) :
    Val P n w0 S0 E L o v := by
  intro a w hs hmem
  have := run_loadVar_one (P := P) (hT _ _ ht) ha w ad v (hmem.fr.cell hS hc)
  simp [execOp, ho, hs.eval hx, Instr.loadAt, Instr.sureAddr, this]

/-- A store into the row that is listed. -/
theorem Run.store (hT : TabOk P T) (hg : o.guard = none) (hd : o.dst = none) {x y : Operand} {b off : Nat} {arr : Array Value} {e : TypeId} {v : Value} {L' : Hp} (ho : o.op = .store t x y) (ht : tiGet T t = some ti)
    (hx : lk E x = some (.pointer (some ⟨b, off, none⟩))) (hy : lk E y = some v) (hL : L.Perm ((b, .cells arr e (0, 0)) :: L'))
    (hs : v.cells.size = ti.size) (hf : off + ti.size ≤ arr.size) (h1 : ∀ u ∈ v.cells.toList, u.oneCell' = true)
    (k : Run P n w0 S0 ops.toArray Q rest E ((b, .cells (wrAt arr off v.cells.toList) e (0, 0)) :: L')) : Run P n w0 S0 ops.toArray Q (o :: rest) E L :=
  Run.put hg hd hL (fun a w hst hb => by
    refine ⟨w.setRow b (wrAt arr off v.cells.toList), ?_, Fr.setRow _ _ _, setRow_heap w b arr _ e _ hb⟩
    have := run_storeVar_at (P := P) (hT _ _ ht) w hb hs hf h1
    simp [execOp, ho, hst.eval hx, hst.eval hy, Instr.storeAt, Instr.sureAddr, this]) k

theorem New.alloc (hT : TabOk P T) (ho : o.op = .alloc t) (ht : tiGet T t = some ti) : New P n w0 S0 E L o (fun b => .pointer (some ⟨b, 0, none⟩)) (.cells ti.zero.cells t) := by
  intro a w _ _
  refine ⟨w, Fr.refl _ _, rfl, ?_⟩
  simp [execOp, ho, Instr.alloc, (hT _ _ ht).zero, newVar, newRow]
theorem New.box {x : Operand} {v : Value} (ho : o.op = .box t x) (hx : lk E x = some v) : New P n w0 S0 E L o (fun b => .pointer (some ⟨b, 0, none⟩)) (.cells v.cells t) := by
  intro a w hs _
  refine ⟨w, Fr.refl _ _, rfl, ?_⟩
  simp [execOp, ho, hs.eval hx, Instr.box, newVar, newRow]

theorem Val.idxA (hT : TabOk P T) {x y : Operand} {b off len el : Nat} {k : IntKind} {z : Int} {ei : TI} (ho : o.op = .indexAddr t x y) (ht : tiGet T t = some ti) (hd : ti.desc = .array len el) (he : tiGet T el = some ei)
    (hx : lk E x = some (.pointer (some ⟨b, off, none⟩))) (hy : lk E y = some (.int k z)) (h0 : 0 ≤ z) (h1 : z < len) :
    Val P n w0 S0 E L o (.pointer (some ⟨b, off + z.toNat * ei.size, none⟩)) := by
  intro a w hs _
  have h2 := (hT _ _ ht).1
  rw [hd] at h2
  simp [execOp, ho, hs.eval hx, hs.eval hy, Instr.indexAt, asIntOf, run_underlying h2, Instr.sureAddr, h0, h1, (hT _ _ he).size, add_lit]
theorem Val.idxS (hT : TabOk P T) {x y : Operand} {len cap el : Nat} {ad : Addr} {k : IntKind} {z : Int} {ei : TI} (ho : o.op = .indexAddr t x y) (ht : tiGet T t = some ti) (hd : ti.desc = .slice el) (he : tiGet T el = some ei)
    (hx : lk E x = some (.slice (some ad) len cap)) (hy : lk E y = some (.int k z)) (h0 : 0 ≤ z) (h1 : z < len) :
    Val P n w0 S0 E L o (.pointer (some (ad.add (z.toNat * ei.size)))) := by
  intro a w hs _
  have h2 := (hT _ _ ht).1
  rw [hd] at h2
  simp [execOp, ho, hs.eval hx, hs.eval hy, Instr.indexAt, asIntOf, run_underlying h2, h0, h1, (hT _ _ he).size]
theorem Val.len {x : Operand} {ad : Option Addr} {len cap : Nat} (hT : TabOk P T) (ho : o.op = .call { callee := .builtin .len, args := #[x], argTypes := #[t] }) (ht : tiGet T t = some ti) {el : Nat} (hd : ti.desc = .slice el)
    (hx : lk E x = some (.slice ad len cap)) : Val P n w0 S0 E L o (.int .i64 len) := by
  intro a w hs _
  have h2 := (hT _ _ ht).1
  rw [hd] at h2
  simp [execOp, ho, hs.eval hx, resolve, invoke, builtin, Builtin.len_, run_underlying h2, goInt]
/-- A slice of an array variable: all of it, to h, from l. -/
theorem Val.sliceA (hT : TabOk P T) {x : Operand} {b off len el : Nat} {ei : TI} (ho : o.op = .slice t x none none none) (ht : tiGet T t = some ti) (hd : ti.desc = .array len el) (he : tiGet T el = some ei)
    (hx : lk E x = some (.pointer (some ⟨b, off, none⟩))) : Val P n w0 S0 E L o (.slice (some ⟨b, off, none⟩) len len) := by
  intro a w hs _
  have h2 := (hT _ _ ht).1
  rw [hd] at h2
  by_cases hl : len = 0 <;> simp [execOp, ho, hs.eval hx, Instr.sliceAt, run_underlying h2, Instr.sureAddr, Instr.sliceBounds, (hT _ _ he).size, hl, Addr.add]
theorem Val.sliceAhi (hT : TabOk P T) {x y : Operand} {b off len el : Nat} {ei : TI} {k : IntKind} {z : Int} (ho : o.op = .slice t x none (some y) none) (ht : tiGet T t = some ti) (hd : ti.desc = .array len el) (he : tiGet T el = some ei)
    (hx : lk E x = some (.pointer (some ⟨b, off, none⟩))) (hy : lk E y = some (.int k z)) (h0 : 0 ≤ z) (h1 : z ≤ len) : Val P n w0 S0 E L o (.slice (some ⟨b, off, none⟩) z.toNat len) := by
  intro a w hs _
  have h2 := (hT _ _ ht).1
  rw [hd] at h2
  have hb := run_sliceBound (P := P) w k z len .sliceAlen h0 h1
  simp [execOp, ho, hs.eval hx, hs.eval hy, Instr.sliceAt, run_underlying h2, Instr.sureAddr, Instr.sliceBounds, hb, (hT _ _ he).size, Addr.add]
theorem Val.sliceAlo (hT : TabOk P T) {x y : Operand} {b off len el : Nat} {ei : TI} {k : IntKind} {z : Int} (ho : o.op = .slice t x (some y) none none) (ht : tiGet T t = some ti) (hd : ti.desc = .array len el) (he : tiGet T el = some ei)
    (hx : lk E x = some (.pointer (some ⟨b, off, none⟩))) (hy : lk E y = some (.int k z)) (h0 : 0 ≤ z) (h1 : z < len) : Val P n w0 S0 E L o (.slice (some ⟨b, off + z.toNat * ei.size, none⟩) (len - z.toNat) (len - z.toNat)) := by
  intro a w hs _
  have h2 := (hT _ _ ht).1
  rw [hd] at h2
  have hne : ¬ len = z.toNat := by omega
  simp [execOp, ho, hs.eval hx, hs.eval hy, Instr.sliceAt, run_underlying h2, Instr.sureAddr, Instr.sliceBounds, run_sliceBound, h0, (by omega : z ≤ len), (hT _ _ he).size, hne, add_lit]
end
end Go.Vc
end
