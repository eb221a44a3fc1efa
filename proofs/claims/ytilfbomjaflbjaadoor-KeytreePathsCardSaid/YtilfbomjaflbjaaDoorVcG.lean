/- Values of arrays and structs; slices of slices; copies; guards; cuts. -/
import Derived.Test.YtilfbomjaflbjaaDoorVcF
namespace Go.Vc
open Go

section
variable {P : Program} {n : Nat} {w0 : World} {S0 : List Nat} {Q : Exit → Act → World → Prop} {E : Env} {L : Hp} {o : Oper} {d : Nat} {T : List (Nat × TI)} {t : Nat} {ti : TI} {ops : Array Oper} {l rest : List Oper}

/-- a part of an array or a struct -/
def partOf (ei : TI) (cs : Array Value) (off : Nat) : Option Value :=
  bif TypeDesc.agg ei.desc then some (.agg (cs.extract off (off + ei.size))) else cs[off]?
theorem run_part {P : Program} {e : Nat} {ei : TI} (he : Ty P e ei) {cs : Array Value} {off : Nat} {v : Value} (h : partOf ei cs off = some v) (w : World) : (part e cs off).run P w = .ok v w := by
  unfold partOf at h
  cases ha : TypeDesc.agg ei.desc with
  | true =>
    simp only [ha, cond_true, Option.some.injEq] at h
    subst h
    simp [part, he.isAgg, ha, he.size]
  | false =>
    simp only [ha, cond_false] at h
    simp [part, he.isAgg, ha, h]
theorem Val.index (hT : TabOk P T) {x y : Operand} {len el : Nat} {k : IntKind} {z : Int} {ei : TI} {cs : Array Value} {v : Value} (ho : o.op = .index t x y) (ht : tiGet T t = some ti) (hd : ti.desc = .array len el) (he : tiGet T el = some ei)
    (hx : lk E x = some (.agg cs)) (hy : lk E y = some (.int k z)) (h0 : 0 ≤ z) (h1 : z < len) (hv : partOf ei cs (z.toNat * ei.size) = some v) : Val P n w0 S0 E L o v := by
  intro a w hs _
  have h2 := (hT _ _ ht).1
  rw [hd] at h2
  simp [execOp, ho, hs.eval hx, hs.eval hy, Instr.index, asIntOf, run_underlying h2, h0, h1, (hT _ _ he).size, run_part (hT _ _ he) hv]
theorem Val.field (hT : TabOk P T) {x : Operand} {i el : Nat} {fs : Array Field} {f : Field} {ei : TI} {cs : Array Value} {v : Value} (ho : o.op = .field t x i) (ht : tiGet T t = some ti) (hd : ti.desc = .struct fs) (hf : fs[i]? = some f) (hft : f.type = el) (he : tiGet T el = some ei)
    (hx : lk E x = some (.agg cs)) (hv : partOf ei cs f.offset = some v) : Val P n w0 S0 E L o v := by
  intro a w hs _
  have h2 := (hT _ _ ht).1
  rw [hd] at h2
  subst hft
  simp [execOp, ho, hs.eval hx, Instr.field, run_underlying h2, hf, asAgg, run_part (hT _ _ he) hv]
theorem Val.fieldAddr (hT : TabOk P T) {x : Operand} {b off i el : Nat} {fs : Array Field} {f : Field} {ei : TI} (ho : o.op = .fieldAddr t x i) (ht : tiGet T t = some ti) (hd : ti.desc = .struct fs) (hf : fs[i]? = some f) (hft : f.type = el) (he : tiGet T el = some ei)
    (hz : Nat.beq ei.size 0 = false) (hx : lk E x = some (.pointer (some ⟨b, off, none⟩))) : Val P n w0 S0 E L o (.pointer (some ⟨b, off + f.offset, none⟩)) := by
  intro a w hs _
  have h2 := (hT _ _ ht).1
  rw [hd] at h2
  subst hft
  have hz' : ¬ ei.size = 0 := by intro e; rw [e] at hz; cases hz
  simp [execOp, ho, hs.eval hx, Instr.fieldAt, run_underlying h2, hf, Instr.sureAddr, fieldPlace, (hT _ _ he).size, hz', add_lit]
/-- the same at a place that is known by its address alone -/
theorem Val.fieldAddrA (hT : TabOk P T) {x : Operand} {ad : Addr} {i el : Nat} {fs : Array Field} {f : Field} {ei : TI} (ho : o.op = .fieldAddr t x i) (ht : tiGet T t = some ti) (hd : ti.desc = .struct fs) (hf : fs[i]? = some f) (hft : f.type = el) (he : tiGet T el = some ei)
    (hz : Nat.beq ei.size 0 = false) (hx : lk E x = some (.pointer (some ad))) : Val P n w0 S0 E L o (.pointer (some (ad.add f.offset))) := by
  intro a w hs _
  have h2 := (hT _ _ ht).1
  rw [hd] at h2
  subst hft
  have hz' : ¬ ei.size = 0 := by intro e; rw [e] at hz; cases hz
  simp [execOp, ho, hs.eval hx, Instr.fieldAt, run_underlying h2, hf, Instr.sureAddr, fieldPlace, (hT _ _ he).size, hz']

/-- An array with its elements written out. -/
theorem Val.buildA (hT : TabOk P T) {parts : List (Nat × Operand)} {vs : List Value} {len e : TypeId} {ei : TI} {cells : Array Value} (ho : o.op = .build t parts.toArray) (ht : tiGet T t = some ti) (hd : ti.desc = .array len e) (he : tiGet T e = some ei)
    (hx : lkAll E (parts.map (·.2)) = some vs) (hf : Instr.fill (fun i => some (i * ei.size, ei.size)) ti.zero.cells ((parts.map (·.1)).zip vs) = some cells) :
    Val P n w0 S0 E L o (.agg cells) := by
  intro a w hs _
  have h2 := (hT _ _ ht).1
  rw [hd] at h2
  have hv := hs.evalAll hx
  have hpv : (parts.toArray.map fun (i, x) => (i, a.eval x)) = ((parts.map (·.1)).zip vs).toArray := by
    rw [← hv]
    simp [List.zip_map', Function.comp_def]
  simp only [execOp, ho]
  rw [hpv]
  simp [Instr.build, (hT _ _ ht).zero, run_underlying h2, (hT _ _ he).size, hf]

def placesOf (T : List (Nat × TI)) : List Field → Option (List (Nat × Nat))
  | [] => some []
  | f :: r => match tiGet T f.type, placesOf T r with
    | some ti, some ps => some ((f.offset, ti.size) :: ps)
    | _, _ => none
theorem run_places (hT : TabOk P T) (w : World) : ∀ (fs : List Field) (ps : List (Nat × Nat)), placesOf T fs = some ps →
    (fs.mapM fun f => do pure (f.offset, ← sizeOf f.type) : Sem (List (Nat × Nat))).run P w = .ok ps w
  | [], ps, h => by cases h; simp
  | f :: r, ps, h => by
    simp only [placesOf] at h
    split at h
    · rename_i ti ps' h1 h2
      cases h
      have := run_places hT w r ps' h2
      simp only [List.mapM_cons, Sem.run_bind, (hT _ _ h1).size, Result.andThen_ok, Sem.run_pure, this]
    · cases h
theorem Val.buildS (hT : TabOk P T) {parts : List (Nat × Operand)} {vs : List Value} {fs : List Field} {ps : List (Nat × Nat)} {cells : Array Value} (ho : o.op = .build t parts.toArray) (ht : tiGet T t = some ti) (hd : ti.desc = .struct fs.toArray) (hp : placesOf T fs = some ps)
    (hx : lkAll E (parts.map (·.2)) = some vs) (hf : Instr.fill (fun i => ps[i]?) ti.zero.cells ((parts.map (·.1)).zip vs) = some cells) :
    Val P n w0 S0 E L o (.agg cells) := by
  intro a w hs _
  have h2 := (hT _ _ ht).1
  rw [hd] at h2
  have hv := hs.evalAll hx
  have hpv : (parts.toArray.map fun (i, x) => (i, a.eval x)) = ((parts.map (·.1)).zip vs).toArray := by
    rw [← hv]
    simp [List.zip_map', Function.comp_def]
  have hpl := run_places hT w fs ps hp
  have hpl' : (fs.toArray.mapM fun f => do pure (f.offset, ← sizeOf f.type) : Sem (Array (Nat × Nat))).run P w = .ok ps.toArray w := by
    rw [List.mapM_toArray, Sem.run_map, hpl]
    rfl
  have hfill : Instr.fill (fun i => ps.toArray[i]?) ti.zero.cells ((parts.map (·.1)).zip vs) = some cells := by
    have : (fun i : Nat => ps.toArray[i]?) = fun i : Nat => ps[i]? := by funext i; simp
    rw [this]; exact hf
  have hlast : (Instr.build t ((parts.map (·.1)).zip vs).toArray).run P w = .ok (.agg cells) w := by
    unfold Instr.build
    rw [Sem.run_bind, (hT _ _ ht).zero]
    show Sem.run P (underlying t >>= _) w = _
    rw [Sem.run_bind, run_underlying h2]
    show Sem.run P (Array.mapM _ fs.toArray >>= _) w = _
    rw [Sem.run_bind, hpl']
    show Sem.run P (match Instr.fill (fun i => ps.toArray[i]?) ti.zero.cells ((parts.map (·.1)).zip vs) with | some cells => _ | _ => _) w = _
    rw [hfill]
    rfl
  simp only [execOp, ho]
  rw [hpv]
  simp [hlast]

/-- x[l:h] of a slice -/
theorem Val.sliceS (hT : TabOk P T) {x : Operand} {ad : Addr} {len cap el : Nat} {ei : TI} {lo hi : Option Operand} {zl zh : Nat} (ho : o.op = .slice t x lo hi none) (ht : tiGet T t = some ti) (hd : ti.desc = .slice el) (he : tiGet T el = some ei)
    (hx : lk E x = some (.slice (some ad) len cap)) (hl : (lo = none ∧ zl = 0) ∨ ∃ y, lo = some y ∧ lk E y = some (.int .i64 zl)) (hh : (hi = none ∧ zh = len) ∨ ∃ y, hi = some y ∧ lk E y = some (.int .i64 zh))
    (h1 : zl ≤ zh) (h2 : zh ≤ cap) : Val P n w0 S0 E L o (.slice (some (if cap = zl then ad else ad.add (zl * ei.size))) (zh - zl) (cap - zl)) := by
  intro a w hs _
  have hu := (hT _ _ ht).1
  rw [hd] at hu
  have b1 := run_sliceBound (P := P) w .i64 zh cap .sliceAcap (by omega) (by omega)
  have b2 := run_sliceBound (P := P) w .i64 zl zh .sliceB (by omega) (by omega)
  have b3 := run_sliceBound (P := P) w .i64 zl len .sliceB (by omega)
  rcases hl with ⟨rfl, rfl⟩ | ⟨y, rfl, hy⟩ <;> rcases hh with ⟨rfl, rfl⟩ | ⟨y', rfl, hy'⟩
  · simp [execOp, ho, hs.eval hx, Instr.sliceAt, Instr.slice, run_underlying hu, Instr.sliceBounds, (hT _ _ he).size]
    split <;> rfl
  · simp [execOp, ho, hs.eval hx, hs.eval hy', Instr.sliceAt, Instr.slice, run_underlying hu, Instr.sliceBounds, (hT _ _ he).size, b1]
    split <;> rfl
  · have b3 := b3 (by omega)
    simp [execOp, ho, hs.eval hx, hs.eval hy, Instr.sliceAt, Instr.slice, run_underlying hu, Instr.sliceBounds, (hT _ _ he).size, b3]
    split <;> rfl
  · simp [execOp, ho, hs.eval hx, hs.eval hy, hs.eval hy', Instr.sliceAt, Instr.slice, run_underlying hu, Instr.sliceBounds, (hT _ _ he).size, b1, b2]
    split <;> rfl

theorem Val.sliceS' (hT : TabOk P T) {x : Operand} {ad : Addr} {len cap el : Nat} {ei : TI} {lo hi : Option Operand} (zl zh : Nat) {m : Nat} (ho : o.op = .slice t x lo hi none) (ht : tiGet T t = some ti) (hd : ti.desc = .slice el) (he : tiGet T el = some ei)
    (hx : lk E x = some (.slice (some ad) len cap)) (hl : (lo = none ∧ zl = 0) ∨ ∃ y, lo = some y ∧ lk E y = some (.int .i64 zl)) (hh : (hi = none ∧ zh = len) ∨ ∃ y, hi = some y ∧ lk E y = some (.int .i64 zh))
    (h1 : zl ≤ zh) (h2 : zh ≤ cap) (h3 : zl < cap) (hm : zh - zl = m) : Val P n w0 S0 E L o (.slice (some (ad.add (zl * ei.size))) m (cap - zl)) := by
  have := Val.sliceS (P := P) (n := n) (w0 := w0) (S0 := S0) (L := L) hT ho ht hd he hx hl hh h1 h2
  rwa [if_neg (by omega), hm] at this
theorem Run.storeTo (hT : TabOk P T) {x y : Operand} {b off : Nat} {arr : Array Value} {e : TypeId} {v : Value} {L' : Hp} {arr' : Array Value} (he : wrAt arr off v.cells.toList = arr') (hg : o.guard = none) (hd : o.dst = none) (ho : o.op = .store t x y) (ht : tiGet T t = some ti)
    (hx : lk E x = some (.pointer (some ⟨b, off, none⟩))) (hy : lk E y = some v) (hL : L.Perm ((b, .cells arr e (0, 0)) :: L'))
    (hs : v.cells.size = ti.size) (hf : off + ti.size ≤ arr.size) (h1 : ∀ u ∈ v.cells.toList, u.oneCell' = true)
    (k : Run P n w0 S0 l.toArray Q rest E ((b, .cells arr' e (0, 0)) :: L')) : Run P n w0 S0 l.toArray Q (o :: rest) E L := by
  subst he
  exact Run.store hT hg hd ho ht hx hy hL hs hf h1 k
theorem OpTo.storeTo (hT : TabOk P T) {x y : Operand} {b off : Nat} {arr : Array Value} {e : TypeId} {v : Value} {L' : Hp} {arr' : Array Value} (he : wrAt arr off v.cells.toList = arr') (hd : o.dst = none) (ho : o.op = .store t x y) (ht : tiGet T t = some ti)
    (hx : lk E x = some (.pointer (some ⟨b, off, none⟩))) (hy : lk E y = some v) (hL : L.Perm ((b, .cells arr e (0, 0)) :: L'))
    (hs : v.cells.size = ti.size) (hf : off + ti.size ≤ arr.size) (h1 : ∀ u ∈ v.cells.toList, u.oneCell' = true) :
    OpTo P n w0 S0 Q E L o (Y := Unit) (fun _ => E) (fun _ => (b, .cells arr' e (0, 0)) :: L') := by
  subst he
  exact OpTo.store hT hd ho ht hx hy hL hs hf h1

theorem wrAt_all (arr : Array Value) (cs : List Value) (h : cs.length = arr.size) : wrAt arr 0 cs = cs.toArray := by
  unfold wrAt
  simp [h]
/-- A variable that is written whole. -/
theorem Run.storeAll (hT : TabOk P T) {x y : Operand} {b : Nat} {arr : Array Value} {e : TypeId} {v : Value} {L' : Hp} (hg : o.guard = none) (hd : o.dst = none) (ho : o.op = .store t x y) (ht : tiGet T t = some ti)
    (hx : lk E x = some (.pointer (some ⟨b, 0, none⟩))) (hy : lk E y = some v) (hL : L.Perm ((b, .cells arr e (0, 0)) :: L'))
    (hs : v.cells.size = ti.size) (hf : ti.size = arr.size) (h1 : ∀ u ∈ v.cells.toList, u.oneCell' = true)
    (k : Run P n w0 S0 l.toArray Q rest E ((b, .cells v.cells e (0, 0)) :: L')) : Run P n w0 S0 l.toArray Q (o :: rest) E L :=
  Run.storeTo hT (by rw [wrAt_all _ _ (by simp; omega)]) hg hd ho ht hx hy hL hs (by omega) h1 k
theorem OpTo.storeAll (hT : TabOk P T) {x y : Operand} {b : Nat} {arr : Array Value} {e : TypeId} {v : Value} {L' : Hp} (hd : o.dst = none) (ho : o.op = .store t x y) (ht : tiGet T t = some ti)
    (hx : lk E x = some (.pointer (some ⟨b, 0, none⟩))) (hy : lk E y = some v) (hL : L.Perm ((b, .cells arr e (0, 0)) :: L'))
    (hs : v.cells.size = ti.size) (hf : ti.size = arr.size) (h1 : ∀ u ∈ v.cells.toList, u.oneCell' = true) :
    OpTo P n w0 S0 Q E L o (Y := Unit) (fun _ => E) (fun _ => (b, .cells v.cells e (0, 0)) :: L') :=
  OpTo.storeTo hT (by rw [wrAt_all _ _ (by simp; omega)]) hd ho ht hx hy hL hs (by omega) h1

/-- The address of the element j of an array. -/
theorem Val.ix (hT : TabOk P T) (j : Nat) {off' : Nat} {x y : Operand} {b off len el : Nat} {k : IntKind} {z : Int} {ei : TI} (ho : o.op = .indexAddr t x y) (ht : tiGet T t = some ti) (hd : ti.desc = .array len el) (he : tiGet T el = some ei)
    (hx : lk E x = some (.pointer (some ⟨b, off, none⟩))) (hy : lk E y = some (.int k z)) (hz : z = j) (hj : j < len) (ho' : off + j * ei.size = off') :
    Val P n w0 S0 E L o (.pointer (some ⟨b, off', none⟩)) := by
  subst hz
  subst ho'
  have := Val.idxA (P := P) (n := n) (w0 := w0) (S0 := S0) (L := L) hT ho ht hd he hx hy (by omega) (by omega)
  simpa using this
/-- The address of the element j of a slice. -/
theorem Val.ixS (hT : TabOk P T) (j : Nat) {ad' : Addr} {x y : Operand} {ad : Addr} {len cap el : Nat} {k : IntKind} {z : Int} {ei : TI} (ho : o.op = .indexAddr t x y) (ht : tiGet T t = some ti) (hd : ti.desc = .slice el) (he : tiGet T el = some ei)
    (hx : lk E x = some (.slice (some ad) len cap)) (hy : lk E y = some (.int k z)) (hz : z = j) (hj : j < len) (ha : ad.add (j * ei.size) = ad') :
    Val P n w0 S0 E L o (.pointer (some ad')) := by
  subst hz
  subst ha
  have := Val.idxS (P := P) (n := n) (w0 := w0) (S0 := S0) (L := L) hT ho ht hd he hx hy (by omega) (by omega)
  simpa using this

/-- copy into a row that is listed -/
theorem run_copy_gen (w : World) (dT sT ty elem : TypeId) {ei : TI} (g o dLen dCap : Nat) (a : Addr) (sLen sCap : Nat) (cur : Array Value) (e : TypeId) (cs : List Value)
    (hu : P.underlying dT = some (.slice elem)) (he : Ty P elem ei) (hg : w.heap[g]? = some (.cells cur e (0, 0))) (hn : cs.length = Nat.min sLen dLen * ei.size)
    (hsrc : ∀ j v, cs[j]? = some v → w.cell? (a.add j) = some v) (hfit : o + cs.length ≤ cur.size) (h1 : ∀ v ∈ cs, v.oneCell' = true) :
    (Builtin.copy_ #[dT, sT] ty #[.slice (some ⟨g, o, none⟩) dLen dCap, .slice (some a) sLen sCap]).run P w = .ok (goInt (Nat.min sLen dLen)) (w.setRow g (wrAt cur o cs)) := by
  have hl := run_loadCells_list (P := P) w a cs hsrc
  have hst := run_storeCells_at P g o e cs 0 cur w hg (by simpa using hfit) h1
  simp only [Nat.add_zero] at hst
  simp only [Builtin.copy_]
  simp [run_underlying hu, Builtin.lenOf, Builtin.firstCells, he.size, ← hn, hl, hst, wrAt]

theorem OpTo.copy (hT : TabOk P T) {x y : Operand} {t2 el : TypeId} {ei : TI} {b off dLen dCap sLen sCap : Nat} {ad : Addr} {arr : Array Value} {e : TypeId} {cs : List Value} {L' : Hp} (hsrc : Rd w0 S0 L ad cs)
    (hd : o.dst = some d) (hn : Nat.blt d n = true) (ho : o.op = .call { callee := .builtin .copy, args := #[x, y], argTypes := #[t, t2] }) (ht : tiGet T t = some ti) (htd : ti.desc = .slice el) (he : tiGet T el = some ei)
    (hx : lk E x = some (.slice (some ⟨b, off, none⟩) dLen dCap)) (hy : lk E y = some (.slice (some ad) sLen sCap)) (hL : L.Perm ((b, .cells arr e (0, 0)) :: L')) (hl : cs.length = Nat.min sLen dLen * ei.size) (hf : off + cs.length ≤ arr.size) (h1 : ∀ v ∈ cs, v.oneCell' = true) :
    OpTo P n w0 S0 Q E L o (Y := Unit) (fun _ => (d, .int .i64 (Nat.min sLen dLen)) :: E) (fun _ => (b, .cells (wrAt arr off cs) e (0, 0)) :: L') := by
  intro a w hs hm K hK
  have hu := (hT _ _ ht).1
  rw [htd] at hu
  have hm' := hm.perm hL
  have hb := hm'.has _ List.mem_cons_self
  have hr := run_copy_gen (P := P) w t t2 o.type el b off dLen dCap ad sLen sCap arr e cs hu (hT _ _ he) hb hl (hsrc w hm) hf h1
  have hex : (execOp a.eval o).run P w = .ok (.value (.int .i64 (Nat.min sLen dLen))) (w.setRow b (wrAt arr off cs)) := by
    simp [execOp, ho, hs.eval hx, hs.eval hy, resolve, invoke, builtin, hr, goInt]
  simp only [Oper.wp, hex, Oper.upon_value, hd]
  exact hK () _ _ (hs.put hn _) (hm'.write (Fr.setRow _ _ _) (setRow_heap w b arr _ e _ hb))

theorem OpTo.copyTo (hT : TabOk P T) {x y : Operand} {t2 el : TypeId} {ei : TI} {b off dLen dCap sLen sCap : Nat} {ad : Addr} {arr : Array Value} {e : TypeId} {cs : List Value} {L' : Hp} {arr' : Array Value} {m : Nat} (hsrc : Rd w0 S0 L ad cs) (he' : wrAt arr off cs = arr')
    (hd : o.dst = some d) (hn : Nat.blt d n = true) (ho : o.op = .call { callee := .builtin .copy, args := #[x, y], argTypes := #[t, t2] }) (ht : tiGet T t = some ti) (htd : ti.desc = .slice el) (he : tiGet T el = some ei)
    (hx : lk E x = some (.slice (some ⟨b, off, none⟩) dLen dCap)) (hy : lk E y = some (.slice (some ad) sLen sCap)) (hL : L.Perm ((b, .cells arr e (0, 0)) :: L')) (hl : cs.length = m * ei.size) (hmn : Nat.min sLen dLen = m) (hf : off + cs.length ≤ arr.size) (h1 : ∀ v ∈ cs, v.oneCell' = true) :
    OpTo P n w0 S0 Q E L o (Y := Unit) (fun _ => (d, .int .i64 m) :: E) (fun _ => (b, .cells arr' e (0, 0)) :: L') := by
  subst he'
  subst hmn
  exact OpTo.copy hT hsrc hd hn ho ht htd he hx hy hL hl hf h1
theorem Val.indexN (hT : TabOk P T) (j : Nat) {x y : Operand} {len el : Nat} {k : IntKind} {z : Int} {ei : TI} {cs : Array Value} {v : Value} (ho : o.op = .index t x y) (ht : tiGet T t = some ti) (hd : ti.desc = .array len el) (he : tiGet T el = some ei)
    (hx : lk E x = some (.agg cs)) (hy : lk E y = some (.int k z)) (hz : z = j) (h1 : j < len) (hv : partOf ei cs (j * ei.size) = some v) : Val P n w0 S0 E L o v := by
  subst hz
  exact Val.index hT ho ht hd he hx hy (by omega) (by omega) (by simpa using hv)

/-- What ends a piece: so much is known. -/
def To (n : Nat) (w0 : World) (S0 : List Nat) {Y : Type} (Ey : Y → Env) (Ly : Y → Hp) : Exit → Act → World → Prop
  | .normal, a, w => ∃ y, St n (Ey y) a ∧ Mem w0 S0 (Ly y) w
  | _, _, _ => False
theorem RC.seqCut {x y : Code} {Y : Type} (Ey : Y → Env) (Ly : Y → Hp) (h : RC P n w0 S0 x (To n w0 S0 Ey Ly) E L) (k : ∀ i, RC P n w0 S0 y Q (Ey i) (Ly i)) : RC P n w0 S0 (.seq x y) Q E L :=
  fun a w hs hm => wp_seq (wp_mono (h a w hs hm) fun e a w q => by
    cases e with
    | normal => obtain ⟨i, h1, h2⟩ := q; exact k i a w h1 h2
    | _ => exact q.elim)
theorem RQ.to {Y : Type} {Ey : Y → Env} {Ly : Y → Hp} (y : Y) (he : Env.le (Ey y) E) (hl : (Ly y).Sublist L) : RQ n w0 S0 .normal (To n w0 S0 Ey Ly) E L :=
  fun _ _ hs hm => ⟨y, hs.weak he, hm.sublist hl⟩
instance {Y : Type} {Ey : Y → Env} {Ly : Y → Hp} : QP (To n w0 S0 Ey Ly) := ⟨fun _ _ _ _ _ h => h.elim⟩

/-- The head of a loop: go on, or leave the block. -/
theorem RC.while {c : Operand} {id : Nat} {y : Code} {t : Bool} (hc : lk E c = some (.bool t)) (ht : t = true → RC P n w0 S0 y Q E L) (hf : t = false → RQ n w0 S0 (.exit id) Q E L) : RC P n w0 S0 (.seq (.cond c .skip (.exit id)) y) Q E L :=
  RC.seq (RC.cond hc (fun h => RC.skip (RQ.next (ht h))) (fun h => RC.exit (RQ.thenExit (hf h))))

theorem RC.wh {c : Operand} {id : Nat} {t : Bool} (hc : lk E c = some (.bool t)) (ht : t = true → RQ n w0 S0 .normal Q E L) (hf : t = false → RQ n w0 S0 (.exit id) Q E L) : RC P n w0 S0 (.cond c .skip (.exit id)) Q E L :=
  RC.cond hc (fun h => RC.skip (ht h)) (fun h => RC.exit (hf h))

/-- A bool in a slot: both ways. -/
theorem Run.split (j : Nat) {b : Bool} (he : E.get j = some (.bool b)) (ht : b = true → Run P n w0 S0 l.toArray Q rest ((j, .bool true) :: E) L) (hf : b = false → Run P n w0 S0 l.toArray Q rest ((j, .bool false) :: E) L) :
    Run P n w0 S0 l.toArray Q rest E L := by
  intro a w hs hm
  have hz : ∀ c, b = c → St n ((j, .bool c) :: E) a := fun c hc => ⟨hs.defers, hs.size, fun t v h => by
    rw [Env.get_cons] at h
    by_cases e : j = t
    · rw [if_pos e] at h; cases h; subst e; subst hc; exact hs.env _ _ he
    · rw [if_neg e] at h; exact hs.env _ _ h⟩
  cases b with
  | true => exact ht rfl a w (hz true rfl) hm
  | false => exact hf rfl a w (hz false rfl) hm
theorem DR.split {Lr : Hp} {fuel : Nat} {listed : Array Bool} (j : Nat) {b : Bool} (he : E.get j = some (.bool b)) (ht : b = true → DR P n w0 S0 ops Q Lr fuel listed ((j, .bool true) :: E) L) (hf : b = false → DR P n w0 S0 ops Q Lr fuel listed ((j, .bool false) :: E) L) :
    DR P n w0 S0 ops Q Lr fuel listed E L := by
  intro a w hs hm
  have hz : ∀ c, b = c → St n ((j, .bool c) :: E) a := fun c hc => ⟨hs.defers, hs.size, fun t v h => by
    rw [Env.get_cons] at h
    by_cases e : j = t
    · rw [if_pos e] at h; cases h; subst e; subst hc; exact hs.env _ _ he
    · rw [if_neg e] at h; exact hs.env _ _ h⟩
  cases b with
  | true => exact ht rfl a w (hz true rfl) hm
  | false => exact hf rfl a w (hz false rfl) hm
theorem Run.opG (hw : Wanted n l.toArray E o true) {Y : Type} {Ey : Y → Env} {Ly : Y → Hp} (h : OpTo P n w0 S0 Q E L o Ey Ly)
    (k : ∀ y, Run P n w0 S0 l.toArray Q rest (Ey y) (Ly y)) : Run P n w0 S0 l.toArray Q (o :: rest) E L := fun a w hs hm => by
  unfold wpList
  rw [if_pos (hw a hs)]
  exact .inl (h a w hs hm _ fun y a' w' hs' hm' => k y a' w' hs' hm')
theorem Run.vG (hw : Wanted n l.toArray E o true) (hd : o.dst = some d) (hn : Nat.blt d n = true) {v : Value} (h : Val P n w0 S0 E L o v)
    (k : Run P n w0 S0 l.toArray Q rest ((d, v) :: E) L) : Run P n w0 S0 l.toArray Q (o :: rest) E L :=
  Run.opG hw (OpTo.val hd hn h) (fun _ => k)
theorem Run.skipG (hw : Wanted n l.toArray E o false) (hd : o.dst = some d) (hn : Nat.blt d n = true)
    (k : Run P n w0 S0 l.toArray Q rest ((d, Go.undef) :: E) L) : Run P n w0 S0 l.toArray Q (o :: rest) E L := fun a w hs hm => by
  unfold wpList
  rw [if_neg (by rw [hw a hs]; simp), hd]
  exact k _ _ (hs.put hn _) hm
end
end Go.Vc
