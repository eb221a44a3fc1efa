/- The stepping engine: what a frame and memory are known to hold, and one rule for each kind of operation. -/
import Derived.WalkKit
import Derived.Laws.OwnMore
import Derived.Laws.CopyOwn
import Derived.Laws.StructEq
namespace Go.Vc
open Go

abbrev Env := List (Nat × Value)
abbrev Hp := List (Nat × Obj)

def Env.get : Env → Nat → Option Value
  | [], _ => none
  | (i, v) :: r, t => bif Nat.beq i t then some v else Env.get r t

def lk (E : Env) : Operand → Option Value
  | .tmp t => E.get t
  | .const v => some v
  | .global g => some (.pointer (some ⟨g, 0, none⟩))
  | .func f => some (.func (.func f) #[] #[])

/-- What is known of a frame: its size, no defers, and some slots. -/
structure St (n : Nat) (E : Env) (a : Act) : Prop where
  defers : a.defers = []
  size : a.tmps.size = n
  env : ∀ t v, E.get t = some v → a.tmps.getD t undef = v

theorem St.eval {n : Nat} {E : Env} {a : Act} (h : St n E a) {x : Operand} {v : Value} (hl : lk E x = some v) : a.eval x = v := by
  cases x with
  | tmp t => exact h.env t v hl
  | const u => simpa [lk, Act.eval] using hl
  | global g => simpa [lk, Act.eval] using hl
  | func f => simpa [lk, Act.eval] using hl

theorem Env.get_cons (i t : Nat) (v : Value) (E : Env) : Env.get ((i, v) :: E) t = if i = t then some v else E.get t := by
  simp only [Env.get]
  by_cases h : i = t
  · subst h; simp
  · rw [if_neg h]
    have : Nat.beq i t = false := by rw [Bool.eq_false_iff]; intro h'; exact h (Nat.eq_of_beq_eq_true h')
    rw [this]; rfl

theorem St.put {n : Nat} {E : Env} {a : Act} (h : St n E a) {d : Nat} (hd : Nat.blt d n = true) (v : Value) : St n ((d, v) :: E) (a.put (some d) v) := by
  have hd' : d < n := by simpa using hd
  refine ⟨h.defers, by simp [Act.put, h.size], fun t u hu => ?_⟩
  rw [Env.get_cons] at hu
  by_cases e : d = t
  · subst e
    rw [if_pos rfl] at hu
    cases hu
    simp [Act.put, h.size, hd']
  · rw [if_neg e] at hu
    have := h.env t u hu
    simp only [Act.put]
    rw [← this]
    simp [Array.getD_eq_getD_getElem?, e]

/-- E' says no more than E. -/
def Env.le : Env → Env → Prop
  | [], _ => True
  | (t, v) :: r, E => E.get t = some v ∧ Env.le r E

theorem Env.le_get : ∀ {E' E : Env}, Env.le E' E → ∀ t v, E'.get t = some v → E.get t = some v
  | [], _, _, _, _, h => by simp [Env.get] at h
  | (i, u) :: r, E, hl, t, v, h => by
    rw [Env.get_cons] at h
    by_cases e : i = t
    · rw [if_pos e] at h; cases h; exact e ▸ hl.1
    · rw [if_neg e] at h; exact Env.le_get hl.2 t v h

theorem St.weak {n : Nat} {E E' : Env} {a : Act} (h : St n E a) (hl : Env.le E' E) : St n E' a :=
  ⟨h.defers, h.size, fun t v ht => h.env t v (Env.le_get hl t v ht)⟩

/-- Of what was there nothing has turned, but for the blocks in S. -/
structure Fr (S : List Nat) (w w' : World) : Prop where
  os : w'.os = w.os
  tape : w'.tape = w.tape
  output : w'.output = w.output
  size : w.heap.size ≤ w'.heap.size
  block : ∀ k, k < w.heap.size → k ∉ S → w'.heap[k]? = w.heap[k]?

theorem Fr.refl (S : List Nat) (w : World) : Fr S w w := ⟨rfl, rfl, rfl, Nat.le_refl _, fun _ _ _ => rfl⟩
theorem Fr.trans {S : List Nat} {a b c : World} (h : Fr S a b) (k : Fr S b c) : Fr S a c :=
  ⟨k.os.trans h.os, k.tape.trans h.tape, k.output.trans h.output, Nat.le_trans h.size k.size,
   fun i hi hs => (k.block i (Nat.lt_of_lt_of_le hi h.size) hs).trans (h.block i hi hs)⟩
theorem Fr.mono {S S' : List Nat} {a b : World} (h : Fr S a b) (hs : ∀ k ∈ S, k ∈ S') : Fr S' a b :=
  ⟨h.os, h.tape, h.output, h.size, fun i hi hn => h.block i hi fun hk => hn (hs i hk)⟩
theorem Fr.any {a b : World} (h : Fr [] a b) (S : List Nat) : Fr S a b := h.mono (fun _ h => by cases h)
theorem Fr.cell {S : List Nat} {w w' : World} (h : Fr S w w') {p : Addr} (hp : p.block ∉ S) {v : Value} (hc : w.cell? p = some v) : w'.cell? p = some v := by
  have hb := World.block_lt_of_cell? w p hc
  have := h.block p.block hb hp
  simpa [World.cell?, this] using hc
theorem Fr.alloc (w : World) (o : Obj) : Fr [] w (w.alloc o) := ⟨rfl, rfl, rfl, by simp, fun k hk _ => Go.RowKit.Below.heap_alloc w o k hk⟩
theorem Fr.drew (w : World) : Fr [] w w.drew := ⟨rfl, rfl, rfl, Nat.le_refl _, fun _ _ _ => rfl⟩
theorem Fr.below {w w' : World} (h : Fr [] w w') : Go.RowKit.Below w.heap.size w w' := ⟨h.os, h.tape, h.output, h.size, fun k hk => h.block k hk (by simp)⟩
theorem Fr.of_below {w w' : World} (h : Go.RowKit.Below w.heap.size w w') : Fr [] w w' := ⟨h.os, h.tape, h.output, h.size, fun k hk _ => h.block k hk⟩

/-- Memory: since w0 nothing old has turned but S0; the listed blocks hold what is listed, and they are the call's own (or of S0). -/
structure Mem (w0 : World) (S0 : List Nat) (L : Hp) (w : World) : Prop where
  fr : Fr S0 w0 w
  has : ∀ p ∈ L, w.heap[p.1]? = some p.2
  own : ∀ p ∈ L, w0.heap.size ≤ p.1 ∨ p.1 ∈ S0
  nd : (L.map (·.1)).Nodup

theorem Mem.nil (w : World) (S0 : List Nat) : Mem w S0 [] w := ⟨Fr.refl _ _, (fun _ h => by cases h), (fun _ h => by cases h), List.nodup_nil⟩

theorem Mem.lt {w0 w : World} {S0 : List Nat} {L : Hp} (h : Mem w0 S0 L w) {p : Nat × Obj} (hp : p ∈ L) : p.1 < w.heap.size :=
  (Array.getElem?_eq_some_iff.1 (h.has p hp)).1

/-- A call that turns nothing old: all that is listed stays. -/
theorem Mem.ext {w0 w w' : World} {S0 : List Nat} {L : Hp} (h : Mem w0 S0 L w) (hf : Fr [] w w') : Mem w0 S0 L w' :=
  ⟨h.fr.trans (hf.any S0), fun p hp => (hf.block p.1 (h.lt hp) (by simp)).trans (h.has p hp), h.own, h.nd⟩

/-- New blocks beside those that are listed. -/
theorem Mem.add {w0 w w' : World} {S0 : List Nat} {L N : Hp} (h : Mem w0 S0 L w) (hf : Fr [] w w') (hn : ∀ p ∈ N, w'.heap[p.1]? = some p.2)
    (hs : ∀ p ∈ N, w.heap.size ≤ p.1) (hd : (N.map (·.1)).Nodup) : Mem w0 S0 (N ++ L) w' := by
  have h' := h.ext hf
  refine ⟨h'.fr, ?_, ?_, ?_⟩
  · intro p hp
    rcases List.mem_append.1 hp with hp | hp
    · exact hn p hp
    · exact h'.has p hp
  · intro p hp
    rcases List.mem_append.1 hp with hp | hp
    · exact .inl (Nat.le_trans h.fr.size (hs p hp))
    · exact h.own p hp
  · rw [List.map_append]
    refine List.nodup_append.2 ⟨hd, h.nd, ?_⟩
    intro a ha b hb e
    obtain ⟨p, hp, rfl⟩ := List.mem_map.1 ha
    obtain ⟨q, hq, hqe⟩ := List.mem_map.1 hb
    have h1 := hs p hp
    have h2 := h.lt hq
    omega

theorem Mem.alloc {w0 w : World} {S0 : List Nat} {L : Hp} (h : Mem w0 S0 L w) (o : Obj) : Mem w0 S0 ((w.heap.size, o) :: L) (w.alloc o) :=
  h.add (N := [(w.heap.size, o)]) (Fr.alloc w o) (fun p hp => by rw [List.mem_singleton] at hp; subst hp; exact heap_alloc_new w o) (by simp) (by simp)

/-- A part of what is listed, in another order. -/
theorem Mem.sub {w0 w : World} {S0 : List Nat} {L L' : Hp} (h : Mem w0 S0 L w) (hs : ∀ p ∈ L', p ∈ L) (hd : (L'.map (·.1)).Nodup) : Mem w0 S0 L' w :=
  ⟨h.fr, fun p hp => h.has p (hs p hp), fun p hp => h.own p (hs p hp), hd⟩

theorem Mem.sublist {w0 w : World} {S0 : List Nat} {L L' : Hp} (h : Mem w0 S0 L w) (hs : L'.Sublist L) : Mem w0 S0 L' w :=
  h.sub (fun _ hp => hs.subset hp) (h.nd.sublist (hs.map _))

theorem Mem.perm {w0 w : World} {S0 : List Nat} {L L' : Hp} (h : Mem w0 S0 L w) (hs : L.Perm L') : Mem w0 S0 L' w :=
  h.sub (fun _ hp => hs.mem_iff.2 hp) ((hs.map _).nodup_iff.1 h.nd)

/-- The first block that is listed is written anew. -/
theorem Mem.write {w0 w w' : World} {S0 : List Nat} {L : Hp} {b : Nat} {o o' : Obj} (h : Mem w0 S0 ((b, o) :: L) w) (hf : Fr [b] w w')
    (hb : w'.heap[b]? = some o') : Mem w0 S0 ((b, o') :: L) w' := by
  have hnd := h.nd
  simp only [List.map_cons, List.nodup_cons] at hnd
  refine ⟨⟨hf.os.trans h.fr.os, hf.tape.trans h.fr.tape, hf.output.trans h.fr.output, Nat.le_trans h.fr.size hf.size, ?_⟩, ?_, ?_, ?_⟩
  · intro k hk hs
    refine (hf.block k (Nat.lt_of_lt_of_le hk h.fr.size) ?_).trans (h.fr.block k hk hs)
    intro hm
    simp only [List.mem_singleton] at hm
    subst hm
    rcases h.own _ (List.mem_cons_self) with ho | ho
    · exact absurd hk (by simp only at ho; omega)
    · exact hs ho
  · intro p hp
    rcases List.mem_cons.1 hp with rfl | hp
    · exact hb
    · refine (hf.block p.1 (h.lt (List.mem_cons_of_mem _ hp)) ?_).trans (h.has p (List.mem_cons_of_mem _ hp))
      simp only [List.mem_singleton]
      intro e
      exact hnd.1 (e ▸ List.mem_map_of_mem hp)
  · intro p hp
    rcases List.mem_cons.1 hp with rfl | hp
    · exact h.own (b, o) (List.mem_cons_self)
    · exact h.own p (List.mem_cons_of_mem _ hp)
  · simpa using h.nd

section
variable (P : Program) (n : Nat) (w0 : World) (S0 : List Nat)

/-- From every frame and world of which so much is known, the operations that are left come to Q. -/
def Run (ops : Array Oper) (Q : Exit → Act → World → Prop) (rest : List Oper) (E : Env) (L : Hp) : Prop :=
  ∀ a w, St n E a → Mem w0 S0 L w → wpList P ops Q rest a w
def RC (c : Code) (Q : Exit → Act → World → Prop) (E : Env) (L : Hp) : Prop :=
  ∀ a w, St n E a → Mem w0 S0 L w → c.wp P Q a w
def RQ (e : Exit) (Q : Exit → Act → World → Prop) (E : Env) (L : Hp) : Prop :=
  ∀ a w, St n E a → Mem w0 S0 L w → Q e a w
end

section
variable {P : Program} {n : Nat} {w0 : World} {S0 : List Nat} {Q : Exit → Act → World → Prop} {E : Env} {L : Hp}

theorem RC.region {id : Nat} {l : List Oper} (h : Run P n w0 S0 l.toArray Q l E L) : RC P n w0 S0 (.region id l.toArray false) Q E L :=
  fun a w hs hm => wp_region_lit (h a w hs hm)
theorem RC.seq {x y : Code} (h : RC P n w0 S0 x (Exit.then (y.wp P Q) Q) E L) : RC P n w0 S0 (.seq x y) Q E L :=
  fun a w hs hm => wp_seq (h a w hs hm)
theorem RC.skip (h : RQ n w0 S0 .normal Q E L) : RC P n w0 S0 .skip Q E L := fun a w hs hm => wp_skip (h a w hs hm)
theorem RC.ret (h : RQ n w0 S0 .ret Q E L) : RC P n w0 S0 .ret Q E L := fun a w hs hm => wp_ret (h a w hs hm)
theorem RC.exit {id : Nat} (h : RQ n w0 S0 (.exit id) Q E L) : RC P n w0 S0 (.exit id) Q E L := fun a w hs hm => wp_exit (h a w hs hm)
theorem RC.block {id : Nat} {c : Code} (h : RC P n w0 S0 c (Exit.inBlock id Q) E L) : RC P n w0 S0 (.block id c) Q E L :=
  fun a w hs hm => wp_block (h a w hs hm)
theorem RC.cond {c : Operand} {x y : Code} {t : Bool} (hc : lk E c = some (.bool t)) (ht : t = true → RC P n w0 S0 x Q E L)
    (hf : t = false → RC P n w0 S0 y Q E L) : RC P n w0 S0 (.cond c x y) Q E L :=
  fun a w hs hm => wp_cond_split (hs.eval hc) (fun e => ht e a w hs hm) (fun e => hf e a w hs hm)
theorem RC.condT {c : Operand} {x y : Code} {t : Bool} (hc : lk E c = some (.bool t)) (e : t = true) (h : RC P n w0 S0 x Q E L) :
    RC P n w0 S0 (.cond c x y) Q E L := RC.cond hc (fun _ => h) (fun e' => by rw [e] at e'; cases e')
theorem RC.condF {c : Operand} {x y : Code} {t : Bool} (hc : lk E c = some (.bool t)) (e : t = false) (h : RC P n w0 S0 y Q E L) :
    RC P n w0 S0 (.cond c x y) Q E L := RC.cond hc (fun e' => by rw [e] at e'; cases e') (fun _ => h)
theorem RC.weak {c : Code} {E' : Env} {L' : Hp} (he : Env.le E' E) (hl : L'.Sublist L) (h : RC P n w0 S0 c Q E' L') : RC P n w0 S0 c Q E L :=
  fun a w hs hm => h a w (hs.weak he) (hm.sublist hl)
theorem RC.perm {c : Code} {L' : Hp} (hl : L.Perm L') (h : RC P n w0 S0 c Q E L') : RC P n w0 S0 c Q E L :=
  fun a w hs hm => h a w hs (hm.perm hl)

/-- Where a statement ends and the next one stands behind it. -/
theorem RQ.next {y : Code} {Q' : Exit → Act → World → Prop} (h : RC P n w0 S0 y Q E L) : RQ n w0 S0 .normal (Exit.then (y.wp P Q) Q') E L := h
theorem RQ.thenRet {K : Act → World → Prop} (h : RQ n w0 S0 .ret Q E L) : RQ n w0 S0 .ret (Exit.then K Q) E L := h
theorem RQ.thenExit {K : Act → World → Prop} {id : Nat} (h : RQ n w0 S0 (.exit id) Q E L) : RQ n w0 S0 (.exit id) (Exit.then K Q) E L := h
theorem RQ.blockRet {id : Nat} (h : RQ n w0 S0 .ret Q E L) : RQ n w0 S0 .ret (Exit.inBlock id Q) E L := h
theorem RQ.blockNormal {id : Nat} (h : RQ n w0 S0 .normal Q E L) : RQ n w0 S0 .normal (Exit.inBlock id Q) E L := h
theorem RQ.blockHere {id : Nat} (h : RQ n w0 S0 .normal Q E L) : RQ n w0 S0 (.exit id) (Exit.inBlock id Q) E L :=
  fun a w hs hm => by show (if id = id then Q .normal a w else _); rw [if_pos rfl]; exact h a w hs hm
theorem RQ.blockPast {id id' : Nat} (hne : Nat.beq id' id = false) (h : RQ n w0 S0 (.exit id') Q E L) : RQ n w0 S0 (.exit id') (Exit.inBlock id Q) E L :=
  fun a w hs hm => by
    show (if id' = id then Q .normal a w else Q (.exit id') a w)
    rw [if_neg (fun e => by subst e; simp at hne)]; exact h a w hs hm
theorem RQ.weak {e : Exit} {E' : Env} {L' : Hp} (he : Env.le E' E) (hl : L'.Sublist L) (h : RQ n w0 S0 e Q E' L') : RQ n w0 S0 e Q E L :=
  fun a w hs hm => h a w (hs.weak he) (hm.sublist hl)

/-- A loop: what holds at the head of each round, by an index. -/
theorem RC.loop {c : Code} {ι : Type} (Ei : ι → Env) (Li : ι → Hp) (Inv : ι → Prop) (μ : ι → Nat) (i0 : ι) (h0 : Inv i0) (hE : Env.le (Ei i0) E) (hL : (Li i0).Perm L)
    (round : ∀ i, Inv i → RC P n w0 S0 c (Exit.then (fun a w => ∃ j, Inv j ∧ μ j < μ i ∧ St n (Ei j) a ∧ Mem w0 S0 (Li j) w) Q) (Ei i) (Li i)) :
    RC P n w0 S0 (.loop c) Q E L := by
  intro a w hs hm b k cs
  have key : ∀ m i, μ i = m → Inv i → ∀ a w, St n (Ei i) a → Mem w0 S0 (Li i) w →
      ∃ e a' w', Q e a' w' ∧ Arrives P (lone (b.at a (.code c :: .inLoop c :: k)) cs w) b k cs e a' w' := by
    intro m
    induction m using Nat.strongRecOn with
    | _ m ih =>
      intro i hmi hi a w hsi hmem
      obtain ⟨e, a₁, w₁, hq, harr⟩ := round i hi a w hsi hmem b (.inLoop c :: k) cs
      cases e with
      | normal =>
        obtain ⟨j, hj, hlt, hsj, hmj⟩ := hq
        obtain ⟨e₂, a₂, w₂, hq₂, harr₂⟩ := ih (μ j) (hmi ▸ hlt) j rfl hj a₁ w₁ hsj hmj
        exact ⟨e₂, a₂, w₂, hq₂, .of_steps (Steps.trans harr (.one step_inLoop)) harr₂⟩
      | exit id => exact ⟨_, a₁, w₁, hq, .pass (x := .inLoop c) rfl (fun _ _ => .inl (by simp)) harr⟩
      | goto l => exact ⟨_, a₁, w₁, hq, .pass (x := .inLoop c) rfl (fun _ _ => .inl (by simp)) harr⟩
      | ret => exact ⟨_, a₁, w₁, hq, .pass (x := .inLoop c) rfl (fun _ _ => .inl (by simp)) harr⟩
      | panic ch => exact ⟨_, a₁, w₁, hq, .pass (x := .inLoop c) rfl (fun _ _ => .inl (by simp)) harr⟩
      | outgrown => exact ⟨_, a₁, w₁, hq, .pass (x := .inLoop c) rfl (fun _ _ => .inl (by simp)) harr⟩
  obtain ⟨e, a', w', hq, harr⟩ := key (μ i0) i0 rfl h0 a w (hs.weak hE) (hm.perm hL.symm)
  exact ⟨e, a', w', hq, .of_steps (.one step_loop) harr⟩

theorem RQ.round {ι : Type} {Ei : ι → Env} {Li : ι → Hp} {Inv : ι → Prop} {μ : ι → Nat} {i : ι} (j : ι) (hj : Inv j) (hμ : μ j < μ i) (hE : Env.le (Ei j) E) (hL : (Li j).Sublist L) :
    RQ n w0 S0 .normal (Exit.then (fun a w => ∃ j, Inv j ∧ μ j < μ i ∧ St n (Ei j) a ∧ Mem w0 S0 (Li j) w) Q) E L :=
  fun _ _ hs hm => ⟨j, hj, hμ, hs.weak hE, hm.sublist hL⟩
end
end Go.Vc
