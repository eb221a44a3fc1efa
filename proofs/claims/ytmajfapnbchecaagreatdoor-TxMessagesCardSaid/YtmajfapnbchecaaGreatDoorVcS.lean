/- make([]T, n); rows of numbers. -/
import Derived.Test.YtmajfapnbchecaaGreatDoorVcR
set_option linter.unusedSimpArgs false
set_option linter.unusedVariables false
namespace Go.Vc
open Go
section
variable {P : Program} {n : Nat} {w0 : World} {S0 : List Nat} {Q : Exit → Act → World → Prop} {E : Env} {L : Hp} {o : Oper} {d : Nat} {T : List (Nat × TI)} {t : Nat} {ti : TI}
/-- make([]T, m), where an element is one cell. -/
theorem New.make1 (hT : TabOk P T) {x y : Operand} {e m : Nat} {ei : TI} (z : Value) (ho : o.op = .makeSlice t x y) (ht : tiGet T t = some ti) (hd : ti.desc = .slice e) (he : tiGet T e = some ei) (hz1 : ei.size = 1) (hz : ei.zero.cells = #[z])
    (hx : lk E x = some (.int .i64 m)) (hy : lk E y = some (.int .i64 m)) (hm : m ≤ 9223372036854775807) (hb : ei.bytes * m ≤ 281474976710656) : New P n w0 S0 E L o (fun b => .slice (some ⟨b, 0, none⟩) m m) (.cells (List.replicate m z).toArray e) := by
  intro a w hs _
  have h2 := (hT _ _ ht).1
  rw [hd] at h2
  have hw : IntKind.i64.wrap (m : Int) = m := wrap_in (by dsimp only [inK]; omega)
  obtain ⟨-, i, hi, hsz, hby, hzz⟩ := hT _ _ he
  have hb' : ¬ (281474976710656 : Int) < (i.bytes : Int) * (m : Int) := by rw [hby, ← Int.natCast_mul]; omega
  have hr : (Array.range m).map (fun j => ei.zero.cells[j % ei.zero.cells.size]!) = (List.replicate m z).toArray := by
    rw [hz]
    apply Array.ext
    · simp
    · intro j h1 h3
      simp [Nat.mod_one]
  refine ⟨w, Fr.refl _ _, rfl, ?_⟩
  have r0 : Array.range 0 = #[] := by apply Array.ext'; simp
  have hw0 : IntKind.i64.wrap 0 = 0 := by decide
  by_cases h0 : m = 0
  · subst h0
    simp [execOp, ho, hs.eval hx, hs.eval hy, Instr.makeSlice, run_underlying h2, asInt, asIntOf, typeInfo, hi, hw0, sizeOf, hsz, hz1, newRow, r0]
  · simp [execOp, ho, hs.eval hx, hs.eval hy, Instr.makeSlice, run_underlying h2, asInt, asIntOf, typeInfo, hi, hw, sizeOf, hsz, hz1, newRow, h0, zeroValue, hzz, hb', hr]
    intro h9
    omega
end
end Go.Vc
namespace Go.Proofs.YtmajfapnbchecaaGreatDoor
open Go Go.Vc Go.Sha
theorem nmk {n : Nat} {w0 : World} {S0 : List Nat} {E : Env} {L : Hp} {o : Oper} {t : Nat} {ti : TI} {x y : Operand} {e m : Nat} {ei : TI} (z : Value) (ho : o.op = .makeSlice t x y := by exact rfl) (ht : tiGet tab t = some ti := by exact rfl) (hd : ti.desc = .slice e := by exact rfl) (he : tiGet tab e = some ei := by exact rfl) (hz1 : ei.size = 1 := by exact rfl) (hz : ei.zero.cells = #[z] := by exact rfl)
    (hx : lk E x = some (.int .i64 m) := by exact rfl) (hy : lk E y = some (.int .i64 m) := by exact rfl) (hm : m ≤ 9223372036854775807 := by omega) (hb : ei.bytes * m ≤ 281474976710656 := by omega) : New Tryz.prog n w0 S0 E L o (fun b => .slice (some ⟨b, 0, none⟩) m m) (.cells (List.replicate m z).toArray e) :=
  New.make1 tabOk z ho ht hd he hz1 hz hx hy hm hb
end Go.Proofs.YtmajfapnbchecaaGreatDoor
namespace Go.Sha
theorem i64L_at {S : List Int} {j : Nat} {x : Int} (h : S[j]? = some x) : (i64L S).toArray[j]? = some (Go.Value.int .i64 x) := by
  rw [List.getElem?_toArray, i64L, List.getElem?_map, h]; rfl
theorem i64L_one (S : List Int) : ∀ u ∈ i64L S, u.oneCell' = true := by
  intro u hu
  unfold i64L at hu
  obtain ⟨z, _, rfl⟩ := List.mem_map.1 hu
  rfl
theorem i64L_len (S : List Int) : (i64L S).length = S.length := by simp [i64L]
theorem i64L_wr {S : List Int} {j : Nat} (x : Int) (h : j < S.length) : Go.Vc.wrAt (i64L S).toArray j [Go.Value.int .i64 x] = (i64L (S.set j x)).toArray := by
  have e : S.set j x = S.take j ++ [x] ++ S.drop (j + 1) := by rw [List.set_eq_take_append_cons_drop, if_pos h]; simp
  have e2 : S = S.take j ++ [S[j]] ++ S.drop (j + 1) := by
    conv => lhs; rw [← List.take_append_drop j S, List.drop_eq_getElem_cons h]
    simp
  have h3 := Go.Vc.wr_mid' ((S.take j).map (Go.Value.int .i64)) [Go.Value.int .i64 S[j]] [Go.Value.int .i64 x] ((S.drop (j + 1)).map (Go.Value.int .i64)) rfl j (by rw [List.length_map, List.length_take, Nat.min_eq_left (by omega)])
  rw [e]
  conv => lhs; rw [e2]
  simpa only [i64L, List.map_append, List.map_cons, List.map_nil] using h3
theorem i64L_rep (k : Nat) (z : Int) : i64L (List.replicate k z) = List.replicate k (Go.Value.int .i64 z) := by simp [i64L]
theorem sum_bound {B : Int} (hB : 0 ≤ B) : ∀ {S : List Int}, (∀ x ∈ S, 0 ≤ x ∧ x ≤ B) → 0 ≤ S.sum ∧ S.sum ≤ S.length * B
  | [], _ => ⟨Int.le_refl _, by simp⟩
  | x :: S, h => by
    have h1 := sum_bound hB (S := S) (fun y hy => h y (List.mem_cons_of_mem _ hy))
    have h2 := h x List.mem_cons_self
    rw [List.sum_cons, List.length_cons, Int.natCast_add, Int.add_mul]
    omega
end Go.Sha
namespace Go.Proofs.YtmajfapnbchecaaGreatDoor
open Go Go.Vc Go.Sha
/-- The address of an element of a row of the call's own, where an element is one cell. -/
theorem vi1 {n : Nat} {w0 : World} {S0 : List Nat} {E : Env} {L : Hp} {o : Oper} {t : Nat} {ti : TI} {x y : Operand} {b off len cap el : Nat} {k : IntKind} {z : Int} {ei : TI} (j : Nat) (hj : j < len) (ho : o.op = .indexAddr t x y := by exact rfl) (ht : tiGet tab t = some ti := by exact rfl) (hd : ti.desc = .slice el := by exact rfl) (he : tiGet tab el = some ei := by exact rfl) (hs : ei.size = 1 := by exact rfl) (hx : lk E x = some (.slice (some ⟨b, off, none⟩) len cap) := by exact rfl) (hy : lk E y = some (.int k z) := by exact rfl) (hz : z = j := by first | exact rfl | omega) :
    Val Tryz.prog n w0 S0 E L o (.pointer (some ⟨b, off + j, none⟩)) := Val.ixS tabOk j ho ht hd he hx hy hz hj (by rw [hs, Nat.mul_one, add_lit])
/-- A number of a row is written. -/
theorem oi1 {n : Nat} {w0 : World} {S0 : List Nat} {Q : Exit → Act → World → Prop} {E : Env} {L L' : Hp} {o : Oper} {t : Nat} {ti : TI} {x y : Operand} {b : Nat} {e : TypeId} {S : List Int} (j : Nat) (v : Int) (hj : j < S.length)
    (hd : o.dst = none := by exact rfl) (ho : o.op = .store t x y := by exact rfl) (ht : tiGet tab t = some ti := by exact rfl) (hz : ti.size = 1 := by exact rfl) (hx : lk E x = some (.pointer (some ⟨b, 0 + j, none⟩)) := by exact rfl) (hy : lk E y = some (.int .i64 v) := by exact rfl)
    (hL : L.Perm ((b, .cells (i64L S).toArray e (0, 0)) :: L') := by first | exact List.Perm.refl _ | exact p1 | exact p2 | exact p3 | exact p4 | exact p5 | exact pin0 | exact pin1 | exact pin2) : OpTo Tryz.prog n w0 S0 Q E L o (Y := Unit) (fun _ => E) (fun _ => (b, .cells (i64L (S.set j v)).toArray e (0, 0)) :: L') := by
  rw [Nat.zero_add] at hx
  refine OpTo.storeTo tabOk (i64L_wr v hj) hd ho ht hx hy hL (by rw [hz]; rfl) ?_ (fun u hu => by simp [Value.cells] at hu; subst hu; rfl)
  rw [hz, List.size_toArray, i64L_len]
  omega
end Go.Proofs.YtmajfapnbchecaaGreatDoor
