/- Loops by a number and what hangs on it; what is old and new. -/
import Derived.Test.YtilfbomjaflbjaaDoorVcH
namespace Go.Vc
open Go
section
variable {P : Program} {n : Nat} {w0 : World} {S0 : List Nat} {Q : Exit → Act → World → Prop} {E : Env} {L : Hp} {o : Oper} {d : Nat} {T : List (Nat × TI)} {t : Nat} {ti : TI} {ops : Array Oper} {l rest : List Oper}

/-- What holds after a round. -/
def Up (n : Nat) (w0 : World) (S0 : List Nat) {D : Type} (N : Nat) (R : Nat → D → Prop) (Ei : Nat → D → Env) (Li : Nat → D → Hp) (i : Nat) : Act → World → Prop :=
  fun a w => ∃ j d, i < j ∧ j ≤ N ∧ R j d ∧ St n (Ei j d) a ∧ Mem w0 S0 (Li j d) w

/-- A loop whose rounds are numbered, up to N at most. -/
theorem RC.up {c : Code} (N : Nat) {D : Type} (R : Nat → D → Prop) (Ei : Nat → D → Env) (Li : Nat → D → Hp) (i0 : Nat) (d0 : D) (hi0 : i0 ≤ N) (h0 : R i0 d0) (hE : Env.le (Ei i0 d0) E) (hL : (Li i0 d0).Sublist L)
    (step : ∀ i d, i ≤ N → R i d → RC P n w0 S0 c (Exit.then (Up n w0 S0 N R Ei Li i) Q) (Ei i d) (Li i d)) : RC P n w0 S0 (.loop c) Q E L := by
  intro a w hs hm
  refine RC.loop (P := P) (Q := Q) (ι := {x : Nat × D // x.1 ≤ N ∧ R x.1 x.2}) (E := E) (L := Li i0 d0) (fun x => Ei x.1.1 x.1.2) (fun x => Li x.1.1 x.1.2) (fun _ => True) (fun x => N - x.1.1) ⟨(i0, d0), hi0, h0⟩ trivial hE (List.Perm.refl _) ?_ a w hs (hm.sublist hL)
  rintro ⟨⟨i, d⟩, hi, hR⟩ _
  intro a w hs hm
  refine wp_mono (step i d hi hR a w hs hm) ?_
  intro e a w h
  cases e with
  | normal =>
    obtain ⟨j, d', hij, hj, hR', hs, hm⟩ := h
    exact ⟨⟨(j, d'), hj, hR'⟩, trivial, by show N - j < N - i; omega, hs, hm⟩
  | _ => exact h

theorem RQ.up {D : Type} {N : Nat} {R : Nat → D → Prop} {Ei : Nat → D → Env} {Li : Nat → D → Hp} {i : Nat} (j : Nat) (d : D) (hij : i < j) (hj : j ≤ N) (hR : R j d) (hE : Env.le (Ei j d) E) (hL : (Li j d).Sublist L) :
    RQ n w0 S0 .normal (Exit.then (Up n w0 S0 N R Ei Li i) Q) E L :=
  fun _ _ hs hm => ⟨j, d, hij, hj, hR, hs.weak hE, hm.sublist hL⟩

theorem SrcW.pos {w : World} {sz m : Nat} {v : Value} {cs : List Value} (h : SrcW w sz v m cs) (hm : 0 < m) :
    ∃ a c, v = .slice (some a) m c ∧ m ≤ c ∧ cs.length = m * sz ∧ ∀ j u, cs[j]? = some u → w.cell? (a.add j) = some u := by
  cases h with
  | nil => cases hm
  | «at» a m c cs hl hm hr => exact ⟨a, c, rfl, hm, hl, hr⟩
theorem Own.pos {e : TypeId} {sz : Nat} {v : Value} {m : Nat} {cs : List Value} {bl : Hp} (h : Own e sz v m cs bl) (hm : 0 < m) :
    ∃ b cap rest, v = .slice (some ⟨b, 0, none⟩) m cap ∧ bl = [(b, .cells (cs ++ rest).toArray e (0, 0))] ∧ cs.length = m * sz ∧ m ≤ cap ∧ cap ≤ maxLen ∧ (cs ++ rest).length = cap * sz := by
  cases h with
  | nil => cases hm
  | row b n cap cs rest h1 h2 hn hc => exact ⟨b, cap, rest, rfl, rfl, h1, hn, hc, h2⟩
theorem Rd.rowTake {b : Nat} {cs : List Value} {e : TypeId} {fz : Nat × Nat} (hm : (b, .cells cs.toArray e fz) ∈ L) (k : Nat) : Rd w0 S0 L ⟨b, 0, none⟩ (cs.take k) :=
  Rd.take (Rd.rowAll hm) k
theorem m0 {α : Type} {x : α} {l : List α} : x ∈ x :: l := List.mem_cons_self
theorem m1 {α : Type} {x a : α} {l : List α} : x ∈ a :: x :: l := List.mem_cons_of_mem _ m0
theorem m2 {α : Type} {x a b : α} {l : List α} : x ∈ a :: b :: x :: l := List.mem_cons_of_mem _ m1
theorem m3 {α : Type} {x a b c : α} {l : List α} : x ∈ a :: b :: c :: x :: l := List.mem_cons_of_mem _ m2
theorem m4 {α : Type} {x a b c d : α} {l : List α} : x ∈ a :: b :: c :: d :: x :: l := List.mem_cons_of_mem _ m3
theorem m5 {α : Type} {x a b c d e : α} {l : List α} : x ∈ a :: b :: c :: d :: e :: x :: l := List.mem_cons_of_mem _ m4
theorem m6 {α : Type} {x a b c d e f : α} {l : List α} : x ∈ a :: b :: c :: d :: e :: f :: x :: l := List.mem_cons_of_mem _ m5
/-- The k-th block ahead of the others. -/
theorem p1 {α : Type} {x a : α} {l : List α} : (a :: x :: l).Perm (x :: a :: l) := List.Perm.swap _ _ _
theorem p2 {α : Type} {x a b : α} {l : List α} : (a :: b :: x :: l).Perm (x :: a :: b :: l) := (List.Perm.cons _ p1).trans p1
theorem p3 {α : Type} {x a b c : α} {l : List α} : (a :: b :: c :: x :: l).Perm (x :: a :: b :: c :: l) := (List.Perm.cons _ p2).trans p1
theorem p4 {α : Type} {x a b c d : α} {l : List α} : (a :: b :: c :: d :: x :: l).Perm (x :: a :: b :: c :: d :: l) := (List.Perm.cons _ p3).trans p1
theorem p5 {α : Type} {x a b c d e : α} {l : List α} : (a :: b :: c :: d :: e :: x :: l).Perm (x :: a :: b :: c :: d :: e :: l) := (List.Perm.cons _ p4).trans p1
theorem SrcW.row {b sz m c : Nat} {cs : List Value} {e : TypeId} {fz : Nat × Nat} {w : World} (hm : Mem w0 S0 L w) (h : (b, .cells cs.toArray e fz) ∈ L) (hl : cs.length = m * sz) (hc : m ≤ c) : SrcW w sz (.slice (some ⟨b, 0, none⟩) m c) m cs :=
  .at _ _ _ _ hl hc fun j u hj => Rd.rowAll h w hm j u hj
/-- A load of what can be read from there on. -/
theorem Val.loadR (hT : TabOk P T) {x : Operand} {ad : Addr} {cs : List Value} (ho : o.op = .load t x) (ht : tiGet T t = some ti)
    (hx : lk E x = some (.pointer (some ad))) (ha : TypeDesc.agg ti.desc = true) (hl : cs.length = ti.size) (hr : Rd w0 S0 L ad cs) :
    Val P n w0 S0 E L o (.agg cs.toArray) := by
  intro a w hs hmem
  have := run_loadVar_agg (P := P) (hT _ _ ht) ha w ad cs hl (hr w hmem)
  simp [execOp, ho, hs.eval hx, Instr.loadAt, Instr.sureAddr, this]
theorem New.boxA {x : Operand} {arr : Array Value} (ho : o.op = .box t x) (hx : lk E x = some (.agg arr)) : New P n w0 S0 E L o (fun b => .pointer (some ⟨b, 0, none⟩)) (.cells arr t) := New.box ho hx
end
end Go.Vc
