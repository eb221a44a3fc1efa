/- Arrays and structs of numbers: whether two are the same. -/
import Derived.Test.YtilfbomjaflbjaaDoorVcL
import Derived.DeepKeys
namespace Go.Vc
open Go Go.Sha

/-- The kinds of a type's cells, where all of them are numbers. -/
def kindsF (P : Program) (g : Nat → Option (List IntKind)) : List Field → Nat → Option (List IntKind)
  | [], _ => some []
  | f :: fs, off => match g f.type with
    | some ks => bif f.name != "_" && (Nat.beq f.offset off && Nat.beq ks.length (P.cellsOf f.type)) then (kindsF P g fs (off + ks.length)).map (ks ++ ·) else none
    | none => none
def kindsOf (P : Program) : Nat → Nat → Option (List IntKind)
  | 0, _ => none
  | m + 1, t => match P.underlying t with
    | some (.int k) => some [k]
    | some (.array n e) => match kindsOf P m e with
      | some ks => bif Nat.beq ks.length (P.cellsOf e) then some (List.replicate n ks).flatten else none
      | none => none
    | some (.struct fs) => bif P.stoodInHeld t then none else kindsF P (kindsOf P m) fs.toList 0
    | _ => none

/-- Cells of these kinds. -/
inductive HasK : List IntKind → List Value → Prop
  | nil : HasK [] []
  | cons (k : IntKind) (z : Int) {ks : List IntKind} {vs : List Value} : HasK ks vs → HasK (k :: ks) (.int k z :: vs)
theorem HasK.len : ∀ {ks : List IntKind} {vs : List Value}, HasK ks vs → ks.length = vs.length
  | _, _, .nil => rfl
  | _, _, .cons _ _ h => by simp [h.len]
theorem HasK.append : ∀ {ks : List IntKind} {vs : List Value} {ks' : List IntKind} {vs' : List Value}, HasK ks vs → HasK ks' vs' → HasK (ks ++ ks') (vs ++ vs')
  | _, _, _, _, .nil, h => h
  | _, _, _, _, .cons k z h, h' => .cons k z (h.append h')
theorem HasK.split : ∀ {ks ks' : List IntKind} {vs : List Value}, HasK (ks ++ ks') vs → HasK ks (vs.take ks.length) ∧ HasK ks' (vs.drop ks.length)
  | [], _, _, h => ⟨by simpa using HasK.nil, by simpa using h⟩
  | k :: ks, ks', _, .cons _ z h => by
    have := h.split
    exact ⟨.cons _ z this.1, this.2⟩
theorem HasK.u8s : ∀ (l : List Nat), HasK (List.replicate l.length .u8) (u8s l)
  | [] => .nil
  | x :: l => .cons .u8 x (HasK.u8s l)
theorem HasK.u8n {l : List Nat} {n : Nat} (h : l.length = n) : HasK (List.replicate n .u8) (Go.Sha.u8s l) := h ▸ HasK.u8s l

/-- A value of the type, of such cells. -/
def Sh (P : Program) (t : Nat) (ks : List IntKind) (v : Value) : Prop :=
  HasK ks v.cells.toList ∧ match P.underlying t with
    | some (.array _ _) => ∃ arr, v = .agg arr
    | some (.struct _) => ∃ arr, v = .agg arr
    | _ => ∃ k z, v = .int k z

section
variable {P : Program}
theorem run_part_sh {e : Nat} {m : Nat} {ks : List IntKind} (hk : kindsOf P m e = some ks) (hc : ks.length = P.cellsOf e) (xs : Array Value) (off : Nat) (h : HasK ks ((xs.toList.drop off).take ks.length)) (w : World) :
    ∃ v, (part e xs off).run P w = .ok v w ∧ Sh P e ks v ∧ v.cells.toList = (xs.toList.drop off).take ks.length := by
  cases m with
  | zero => cases hk
  | succ m =>
    unfold kindsOf at hk
    have agg : ∀ d, P.underlying e = some d → TypeDesc.agg d = true → ∃ v, (part e xs off).run P w = .ok v w ∧ v = .agg (xs.extract off (off + P.cellsOf e)) := by
      intro d hu hd
      obtain ⟨i, hi⟩ := info_of_underlying hu
      refine ⟨_, ?_, rfl⟩
      cases d <;> first | (cases hd; done) | simp [part, isAgg, run_underlying hu, run_sizeOf w hi]
    have hex : (xs.extract off (off + P.cellsOf e)).toList = (xs.toList.drop off).take ks.length := by
      rw [Array.toList_extract, hc]; simp [List.extract]
    cases hu : P.underlying e with
    | none => rw [hu] at hk; cases hk
    | some d =>
      rw [hu] at hk
      cases d <;> simp only at hk <;> (try (cases hk; done))
      · cases hk
        rename_i k
        have hx : ∃ z, (xs.toList.drop off).take 1 = [.int k z] := by
          generalize hcs : (xs.toList.drop off).take [k].length = cs at h
          cases h with
          | cons _ z h => cases h; exact ⟨z, rfl⟩
        obtain ⟨z, hz⟩ := hx
        have hat : xs[off]? = some (.int k z) := by
          have : (xs.toList.drop off)[0]? = some (.int k z) := by
            have h1 := congrArg (fun l : List Value => l[0]?) hz
            simpa using h1
          simpa using this
        refine ⟨.int k z, ?_, ⟨?_, ?_⟩, ?_⟩
        · simp [part, isAgg, run_underlying hu, hat]
        · exact .cons k z .nil
        · rw [hu]; exact ⟨k, z, rfl⟩
        · show [_] = _; exact hz.symm
      · obtain ⟨v, hv, rfl⟩ := agg _ hu rfl
        exact ⟨_, hv, ⟨by show HasK ks (xs.extract off (off + P.cellsOf e)).toList; rw [hex]; exact h, by rw [hu]; exact ⟨_, rfl⟩⟩, hex⟩
      · obtain ⟨v, hv, rfl⟩ := agg _ hu rfl
        exact ⟨_, hv, ⟨by show HasK ks (xs.extract off (off + P.cellsOf e)).toList; rw [hex]; exact h, by rw [hu]; exact ⟨_, rfl⟩⟩, hex⟩

/-- Values of the type are compared cell by cell. -/
def EqC (P : Program) (dd : Nat) (t : Nat) (ks : List IntKind) : Prop :=
  ∀ (w : World) (a b : Value), Sh P t ks a → Sh P t ks b → ∃ r : Bool, (Op.equalIn dd t a b).run P w = .ok r w ∧ (r = true ↔ a.cells.toList = b.cells.toList)

theorem run_eqItems_C {dd : Nat} {e m : Nat} {ks : List IntKind} (hk : kindsOf P m e = some ks) (hc : ks.length = P.cellsOf e) (IH : EqC P dd e ks) (xs ys : Array Value) (w : World) : ∀ (j i : Nat),
    HasK (List.replicate j ks).flatten (xs.toList.drop (i * P.cellsOf e)) → HasK (List.replicate j ks).flatten (ys.toList.drop (i * P.cellsOf e)) →
    ∃ r : Bool, (Op.eqItems dd e (P.cellsOf e) xs ys (List.range' i j)).run P w = .ok r w ∧ (r = true ↔ xs.toList.drop (i * P.cellsOf e) = ys.toList.drop (i * P.cellsOf e))
  | 0, i, hx, hy => by
    refine ⟨true, by simp [Op.eqItems], ?_⟩
    have h1 := hx.len
    have h2 := hy.len
    simp only [List.replicate_zero, List.flatten_nil, List.length_nil] at h1 h2
    rw [List.eq_nil_of_length_eq_zero h1.symm, List.eq_nil_of_length_eq_zero h2.symm]
    simp
  | j + 1, i, hx, hy => by
    have hlx := hx.len
    have hly := hy.len
    rw [List.replicate_succ, List.flatten_cons] at hx hy
    obtain ⟨hx1, hx2⟩ := hx.split
    obtain ⟨hy1, hy2⟩ := hy.split
    obtain ⟨a, pa, sa, ca⟩ := run_part_sh hk hc xs (i * P.cellsOf e) hx1 w
    obtain ⟨b, pb, sb, cb⟩ := run_part_sh hk hc ys (i * P.cellsOf e) hy1 w
    obtain ⟨r, hr, hiff⟩ := IH w a b sa sb
    rw [List.drop_drop, hc, ← Nat.succ_mul] at hx2 hy2
    obtain ⟨r', hr', hiff'⟩ := run_eqItems_C hk hc IH xs ys w j (i + 1) hx2 hy2
    rw [List.range'_succ]
    simp only [Op.eqItems, Sem.run_bind, pa, pb, hr, Result.andThen_ok]
    have hsplit : xs.toList.drop (i * P.cellsOf e) = ys.toList.drop (i * P.cellsOf e) ↔ a.cells.toList = b.cells.toList ∧ xs.toList.drop ((i + 1) * P.cellsOf e) = ys.toList.drop ((i + 1) * P.cellsOf e) := by
      rw [ca, cb, Nat.succ_mul, ← hc]
      constructor
      · intro h
        exact ⟨by rw [h], by rw [← List.drop_drop, h, List.drop_drop]⟩
      · rintro ⟨h1, h2⟩
        rw [← List.take_append_drop ks.length (xs.toList.drop _), ← List.take_append_drop ks.length (ys.toList.drop _), h1, List.drop_drop, List.drop_drop, h2]
    rw [hsplit]
    cases r
    · exact ⟨false, by simp, ⟨fun h => (by cases h), fun h => absurd (hiff.2 h.1) (by simp)⟩⟩
    · exact ⟨r', by simpa using hr', by rw [hiff']; simp [hiff.1 rfl]⟩

theorem run_eqFields_C {dd m : Nat} (IH : ∀ t ks, kindsOf P m t = some ks → EqC P dd t ks) (xs ys : Array Value) (w : World) : ∀ (fs : List Field) (off : Nat) (ks : List IntKind), kindsF P (kindsOf P m) fs off = some ks →
    HasK ks (xs.toList.drop off) → HasK ks (ys.toList.drop off) →
    ∃ r : Bool, (Op.eqFields dd xs ys fs).run P w = .ok r w ∧ (r = true ↔ xs.toList.drop off = ys.toList.drop off)
  | [], off, ks, hk, hx, hy => by
    cases hk
    refine ⟨true, by simp [Op.eqFields], ?_⟩
    have h1 := hx.len
    have h2 := hy.len
    simp only [List.length_nil] at h1 h2
    rw [List.eq_nil_of_length_eq_zero h1.symm, List.eq_nil_of_length_eq_zero h2.symm]
    simp
  | f :: fs, off, ks, hk, hx, hy => by
    simp only [kindsF] at hk
    cases hg : kindsOf P m f.type with
    | none => rw [hg] at hk; cases hk
    | some k1 =>
      rw [hg] at hk
      simp only at hk
      cases hcond : (f.name != "_" && (Nat.beq f.offset off && Nat.beq k1.length (P.cellsOf f.type))) with
      | false => rw [hcond] at hk; cases hk
      | true =>
        rw [hcond] at hk
        simp only [Bool.and_eq_true, bne_iff_ne, ne_eq] at hcond
        obtain ⟨hn, ho, hc⟩ := hcond
        have ho := Nat.eq_of_beq_eq_true ho
        have hc := Nat.eq_of_beq_eq_true hc
        simp only [cond_true, Option.map_eq_some_iff] at hk
        obtain ⟨k2, hk2, rfl⟩ := hk
        obtain ⟨hx1, hx2⟩ := hx.split
        obtain ⟨hy1, hy2⟩ := hy.split
        obtain ⟨a, pa, sa, ca⟩ := run_part_sh hg hc xs off hx1 w
        obtain ⟨b, pb, sb, cb⟩ := run_part_sh hg hc ys off hy1 w
        obtain ⟨r, hr, hiff⟩ := IH _ _ hg w a b sa sb
        rw [List.drop_drop] at hx2 hy2
        obtain ⟨r', hr', hiff'⟩ := run_eqFields_C IH xs ys w fs (off + k1.length) k2 hk2 hx2 hy2
        simp only [Op.eqFields, hn, ne_eq, not_false_eq_true, if_true, Sem.run_bind, ho, pa, pb, hr, Result.andThen_ok]
        have hsplit : xs.toList.drop off = ys.toList.drop off ↔ a.cells.toList = b.cells.toList ∧ xs.toList.drop (off + k1.length) = ys.toList.drop (off + k1.length) := by
          rw [ca, cb]
          constructor
          · intro h
            exact ⟨by rw [h], by rw [← List.drop_drop, h, List.drop_drop]⟩
          · rintro ⟨h1, h2⟩
            rw [← List.take_append_drop k1.length (xs.toList.drop _), ← List.take_append_drop k1.length (ys.toList.drop _), h1, List.drop_drop, List.drop_drop, h2]
        rw [hsplit]
        cases r
        · exact ⟨false, by simp, ⟨fun h => (by cases h), fun h => absurd (hiff.2 h.1) (by simp)⟩⟩
        · exact ⟨r', by simpa using hr', by rw [hiff']; simp [hiff.1 rfl]⟩

theorem run_equalIn_C (d : Nat) : ∀ (m t : Nat) (ks : List IntKind), kindsOf P m t = some ks → EqC P (d + m) t ks
  | 0, _, _, h => by cases h
  | m + 1, t, ks, hk => by
    intro w a b sa sb
    unfold kindsOf at hk
    obtain ⟨ha, fa⟩ := sa
    obtain ⟨hb, fb⟩ := sb
    cases hu : P.underlying t with
    | none => rw [hu] at hk; cases hk
    | some ds =>
      rw [hu] at hk fa fb
      cases ds <;> simp only at hk fa fb <;> (try (cases hk; done))
      · rename_i k
        cases hk
        obtain ⟨k1, z1, rfl⟩ := fa
        obtain ⟨k2, z2, rfl⟩ := fb
        have e1 : k1 = k := by cases ha; rfl
        have e2 : k2 = k := by cases hb; rfl
        subst e1; subst e2
        refine ⟨z1 == z2, by rw [show d + (m + 1) = (d + m) + 1 from rfl]; exact run_equalIn_int w (d + m) t _ _ z1 z2 hu, ?_⟩
        simp [Value.cells]
      · rename_i n e
        cases hke : kindsOf P m e with
        | none => rw [hke] at hk; cases hk
        | some k1 =>
          rw [hke] at hk
          simp only at hk
          cases hc : Nat.beq k1.length (P.cellsOf e) with
          | false => rw [hc] at hk; cases hk
          | true =>
            rw [hc] at hk
            cases hk
            have hc := Nat.eq_of_beq_eq_true hc
            obtain ⟨xs, rfl⟩ := fa
            obtain ⟨ys, rfl⟩ := fb
            have hpe : ∃ i, P.info? e = some i := by
              cases m with
              | zero => cases hke
              | succ m' =>
                unfold kindsOf at hke
                cases hue : P.underlying e with
                | none => rw [hue] at hke; cases hke
                | some _ => exact info_of_underlying hue
            obtain ⟨i, hi⟩ := hpe
            obtain ⟨r, hr, hiff⟩ := run_eqItems_C hke hc (run_equalIn_C d m e k1 hke) xs ys w n 0 (by simpa [Value.cells] using ha) (by simpa [Value.cells] using hb)
            refine ⟨r, ?_, by simpa [Value.cells] using hiff⟩
            rw [show d + (m + 1) = (d + m) + 1 from rfl, run_equalIn_array w (d + m) xs ys hu hi, List.range_eq_range']
            exact hr
      · rename_i fs
        cases hst : P.stoodInHeld t with
        | true => rw [hst] at hk; cases hk
        | false =>
          rw [hst] at hk
          simp only [cond_false] at hk
          obtain ⟨xs, rfl⟩ := fa
          obtain ⟨ys, rfl⟩ := fb
          have hfs : P.fieldsOf t = fs := by simp [Program.fieldsOf, hu]
          obtain ⟨r, hr, hiff⟩ := run_eqFields_C (run_equalIn_C d m) xs ys w fs.toList 0 ks hk (by simpa [Value.cells] using ha) (by simpa [Value.cells] using hb)
          refine ⟨r, ?_, by simpa [Value.cells] using hiff⟩
          rw [show d + (m + 1) = (d + m) + 1 from rfl, run_equalIn_struct w (d + m) t xs ys (by rw [hfs]; exact hu) hst, hfs]
          exact hr
end

section
variable {P : Program} {n : Nat} {w0 : World} {S0 : List Nat} {E : Env} {L : Hp} {o : Oper} {T : List (Nat × TI)} {t : Nat} {ti : TI}
theorem run_equal_C {ks : List IntKind} (hk : kindsOf P 8 t = some ks) {a b : Value} (ha : Sh P t ks a) (hb : Sh P t ks b) (w : World) : ∃ r : Bool, (Op.equal t a b).run P w = .ok r w ∧ (r = true ↔ a.cells.toList = b.cells.toList) := by
  obtain ⟨r, hr, hi⟩ := run_equalIn_C 9992 8 t ks hk w a b ha hb
  exact ⟨r, hr, hi⟩

/-- Whether two arrays or structs of numbers are the same: by their cells. -/
theorem Val.eqC (hT : TabOk P T) {x y : Operand} {t2 : Nat} {a b : Array Value} {ks : List IntKind} {p : Bool} (ho : o.op = .binOp .eql t x y t2) (ht : tiGet T t = some ti) (hd : TypeDesc.agg ti.desc = true)
    (hq : P.eqGuardType P.depth t = false) (hk : kindsOf P 8 t = some ks) (hx : lk E x = some (.agg a)) (hy : lk E y = some (.agg b)) (ha : HasK ks a.toList) (hb : HasK ks b.toList) (hp : p = true ↔ a.toList = b.toList) :
    Val P n w0 S0 E L o (.bool p) := by
  intro ac w hs _
  have hu := (hT _ _ ht).1
  have sh : ∀ c : Array Value, HasK ks c.toList → Sh P t ks (.agg c) := fun c hc => ⟨hc, by
    rw [hu]; cases hdd : ti.desc <;> simp only <;> first | exact ⟨_, rfl⟩ | (rw [hdd] at hd; cases hd)⟩
  obtain ⟨r, hr, hi⟩ := run_equal_C hk (sh a ha) (sh b hb) w
  have : r = p := by rw [Bool.eq_iff_iff, hi, hp]; exact Iff.rfl
  subst this
  simp [execOp, ho, hs.eval hx, hs.eval hy, binOp, hr, eqGuard_agg hq]
theorem Val.neC (hT : TabOk P T) {x y : Operand} {t2 : Nat} {a b : Array Value} {ks : List IntKind} {p : Bool} (ho : o.op = .binOp .neq t x y t2) (ht : tiGet T t = some ti) (hd : TypeDesc.agg ti.desc = true)
    (hq : P.eqGuardType P.depth t = false) (hk : kindsOf P 8 t = some ks) (hx : lk E x = some (.agg a)) (hy : lk E y = some (.agg b)) (ha : HasK ks a.toList) (hb : HasK ks b.toList) (hp : p = true ↔ a.toList = b.toList) :
    Val P n w0 S0 E L o (.bool !p) := by
  intro ac w hs _
  have hu := (hT _ _ ht).1
  have sh : ∀ c : Array Value, HasK ks c.toList → Sh P t ks (.agg c) := fun c hc => ⟨hc, by
    rw [hu]; cases hdd : ti.desc <;> simp only <;> first | exact ⟨_, rfl⟩ | (rw [hdd] at hd; cases hd)⟩
  obtain ⟨r, hr, hi⟩ := run_equal_C hk (sh a ha) (sh b hb) w
  have : r = p := by rw [Bool.eq_iff_iff, hi, hp]; exact Iff.rfl
  subst this
  simp [execOp, ho, hs.eval hx, hs.eval hy, binOp, hr, eqGuard_agg hq]
theorem u8s_inj {a b : List Nat} : u8s a = u8s b ↔ a = b := by
  constructor
  · intro h
    induction a generalizing b with
    | nil => cases b with
      | nil => rfl
      | cons => cases h
    | cons x a ih => cases b with
      | nil => cases h
      | cons y b =>
        simp only [u8s, List.map_cons, List.cons.injEq, Value.int.injEq, true_and] at h
        rw [Int.ofNat.inj h.1, ih h.2]
  · rintro rfl; rfl
/-- .. of bytes. -/
theorem Val.eqU (hT : TabOk P T) {x y : Operand} {t2 m : Nat} {a b : List Nat} (ho : o.op = .binOp .eql t x y t2) (ht : tiGet T t = some ti) (hd : TypeDesc.agg ti.desc = true)
    (hq : P.eqGuardType P.depth t = false) (hk : kindsOf P 8 t = some (List.replicate m .u8)) (hx : lk E x = some (.agg (u8s a).toArray)) (hy : lk E y = some (.agg (u8s b).toArray)) (ha : a.length = m) (hb : b.length = m) :
    Val P n w0 S0 E L o (.bool (decide (a = b))) :=
  Val.eqC hT ho ht hd hq hk hx hy (HasK.u8n ha) (HasK.u8n hb) (by rw [decide_eq_true_iff]; exact u8s_inj.symm)
theorem Val.neU (hT : TabOk P T) {x y : Operand} {t2 m : Nat} {a b : List Nat} (ho : o.op = .binOp .neq t x y t2) (ht : tiGet T t = some ti) (hd : TypeDesc.agg ti.desc = true)
    (hq : P.eqGuardType P.depth t = false) (hk : kindsOf P 8 t = some (List.replicate m .u8)) (hx : lk E x = some (.agg (u8s a).toArray)) (hy : lk E y = some (.agg (u8s b).toArray)) (ha : a.length = m) (hb : b.length = m) :
    Val P n w0 S0 E L o (.bool !(decide (a = b))) :=
  Val.neC hT ho ht hd hq hk hx hy (HasK.u8n ha) (HasK.u8n hb) (by rw [decide_eq_true_iff]; exact u8s_inj.symm)
end
section
variable {P : Program} {n : Nat} {w0 : World} {S0 : List Nat} {Q : Exit → Act → World → Prop} {E : Env} {L : Hp} {o : Oper} {d : Nat} {T : List (Nat × TI)} {t : Nat} {ti : TI} {ops : Array Oper} {Lr : Hp} {fuel : Nat} {listed : Array Bool}
/-- Less is known, in another order. -/
theorem DR.weak {listed' : Array Bool} {E' : Env} {L' : Hp} (hl : listed = listed') (he : Env.le E' E) (hL : L.Perm L') (h : DR P n w0 S0 ops Q Lr fuel listed' E' L') : DR P n w0 S0 ops Q Lr fuel listed E L := by
  subst hl
  exact fun a w hs hm => h a w (hs.weak he) (hm.perm hL)
theorem DR.two {i j : Nat} (hr : Region.ready .any ops listed = [i, j]) (h1 : DOp P n w0 S0 ops Q Lr fuel listed E L i) (h2 : DOp P n w0 S0 ops Q Lr fuel listed E L j) : DR P n w0 S0 ops Q Lr (fuel + 1) listed E L :=
  DR.all hr (by simp) (by simpa using ⟨h1, h2⟩)
theorem DR.three {i j k : Nat} (hr : Region.ready .any ops listed = [i, j, k]) (h1 : DOp P n w0 S0 ops Q Lr fuel listed E L i) (h2 : DOp P n w0 S0 ops Q Lr fuel listed E L j) (h3 : DOp P n w0 S0 ops Q Lr fuel listed E L k) : DR P n w0 S0 ops Q Lr (fuel + 1) listed E L :=
  DR.all hr (by simp) (by simpa using ⟨h1, h2, h3⟩)
theorem RQ.toP {Y : Type} {Ey : Y → Env} {Ly : Y → Hp} (y : Y) {L1 : Hp} (he : Env.le (Ey y) E) (hp : L.Perm L1) (hl : (Ly y).Sublist L1) : RQ n w0 S0 .normal (To n w0 S0 Ey Ly) E L :=
  fun _ _ hs hm => ⟨y, hs.weak he, (hm.perm hp).sublist hl⟩
theorem New.allocTo (hT : TabOk P T) {cs : Array Value} (ho : o.op = .alloc t) (ht : tiGet T t = some ti) (hz : ti.zero.cells = cs) : New P n w0 S0 E L o (fun b => .pointer (some ⟨b, 0, none⟩)) (.cells cs t) := by
  subst hz
  exact New.alloc hT ho ht
/-- Bytes that are loaded whole. -/
theorem Val.loadU (hT : TabOk P T) {x : Operand} {b : Nat} {l : List Nat} {e : TypeId} {fz : Nat × Nat} (ho : o.op = .load t x) (ht : tiGet T t = some ti)
    (hx : lk E x = some (.pointer (some ⟨b, 0, none⟩))) (ha : TypeDesc.agg ti.desc = true) (hm : (b, .cells (u8s l).toArray e fz) ∈ L) (hl : l.length = ti.size) : Val P n w0 S0 E L o (.agg (u8s l).toArray) :=
  Val.loadAll hT ho ht hx ha hm (by simp [u8s_len, hl])
/-- Bytes are stored in the midst of a row of bytes. -/
theorem OpTo.setU (hT : TabOk P T) {x y : Operand} {b off : Nat} (pre old new post : List Nat) {l : List Nat} {e : TypeId} {L' : Hp} (hd : o.dst = none) (ho : o.op = .store t x y) (ht : tiGet T t = some ti)
    (hx : lk E x = some (.pointer (some ⟨b, off, none⟩))) (hy : lk E y = some (.agg (u8s new).toArray)) (hL : L.Perm ((b, .cells (u8s l).toArray e (0, 0)) :: L')) (hl : l = pre ++ old ++ post) (hoff : off = pre.length) (hon : old.length = new.length)
    (hs : new.length = ti.size) : OpTo P n w0 S0 Q E L o (Y := Unit) (fun _ => E) (fun _ => (b, .cells (u8s (pre ++ new ++ post)).toArray e (0, 0)) :: L') := by
  subst hl
  subst hoff
  refine OpTo.storeTo hT ?_ hd ho ht hx hy hL (by simp [Value.cells, u8s_len, hs]) ?_ (fun u hu => u8s_one new u (by simpa [Value.cells] using hu))
  · show wrAt _ _ (u8s new) = _
    unfold wrAt
    congr 1
    show List.take pre.length (u8s (pre ++ old ++ post)) ++ u8s new ++ List.drop (pre.length + (u8s new).length) (u8s (pre ++ old ++ post)) = _
    have e1 : List.take pre.length (pre ++ old ++ post) = pre := by rw [List.append_assoc, List.take_left]
    have e2 : List.drop (pre.length + new.length) (pre ++ old ++ post) = post := by rw [← hon, ← List.length_append, List.drop_left]
    rw [← u8s_take, u8s_len, ← u8s_drop, e1, e2, ← u8s_app, ← u8s_app]
  · simp only [List.size_toArray, u8s_len, List.length_append]
    omega
/-- .. all of them. -/
theorem OpTo.setAll (hT : TabOk P T) {x y : Operand} {b : Nat} {arr : Array Value} {l : List Nat} {e : TypeId} {L' : Hp} (hd : o.dst = none) (ho : o.op = .store t x y) (ht : tiGet T t = some ti)
    (hx : lk E x = some (.pointer (some ⟨b, 0, none⟩))) (hy : lk E y = some (.agg (u8s l).toArray)) (hL : L.Perm ((b, .cells arr e (0, 0)) :: L')) (hs : l.length = ti.size) (hf : ti.size = arr.size) :
    OpTo P n w0 S0 Q E L o (Y := Unit) (fun _ => E) (fun _ => (b, .cells (u8s l).toArray e (0, 0)) :: L') :=
  OpTo.storeAll hT hd ho ht hx hy hL (by simp [Value.cells, u8s_len, hs]) hf (fun u hu => u8s_one l u (by simpa [Value.cells] using hu))
theorem Res.cellU {fz : Nat × Nat} (hT : TabOk P T) {x t b : Nat} {ti : TI} {l : List Nat} {e : TypeId} (ht : tiGet T t = some ti) (h : E.get x = some (.pointer (some ⟨b, 0, none⟩)))
    (ha : TypeDesc.agg ti.desc = true) (hm : (b, .cells (u8s l).toArray e fz) ∈ L) (hs : l.length = ti.size) : Res P n w0 S0 E L (.cell x t) (.agg (u8s l).toArray) :=
  Res.cellAll hT ht h ha hm (by simp [u8s_len, hs])
theorem Val.quoN {t1 t2 : Nat} {x y : Operand} {k k2 : IntKind} {a m : Nat} (ho : o.op = .binOp .quo t1 x y t2) (hx : lk E x = some (.int k a)) (hy : lk E y = some (.int k2 m)) (hk : k = k2) (hm : 0 < m) (hz : inK k (a : Int)) :
    Val P n w0 S0 E L o (.int k ((a / m : Nat) : Int)) := by
  refine Val.of ?_
  subst hk
  have h1 : ¬ (m : Int) = 0 := by omega
  have h2 : inK k ((a / m : Nat) : Int) := by
    have := Nat.div_le_self a m
    generalize a / m = q at *
    cases k <;> simp only [inK] at hz ⊢ <;> omega
  rw [ho]
  simp only [ev, hx, hy, evBin, if_true, if_neg h1, ← Int.ofNat_tdiv, wrap_in h2]
theorem Val.remN {t1 t2 : Nat} {x y : Operand} {k k2 : IntKind} {a m : Nat} (ho : o.op = .binOp .rem t1 x y t2) (hx : lk E x = some (.int k a)) (hy : lk E y = some (.int k2 m)) (hk : k = k2) (hm : 0 < m) :
    Val P n w0 S0 E L o (.int k ((a % m : Nat) : Int)) := by
  refine Val.of ?_
  subst hk
  have h1 : ¬ (m : Int) = 0 := by omega
  rw [ho]
  simp only [ev, hx, hy, evBin, if_true, if_neg h1, ← Int.ofNat_tmod]
theorem Val.and1 {t1 t2 : Nat} {x y : Operand} {k : IntKind} {a : Nat} (ho : o.op = .binOp .and t1 x y t2) (hx : lk E x = some (.int k a)) (hy : lk E y = some (.int k 1)) (ha : a < 256) :
    Val P n w0 S0 E L o (.int k ((a % 2 : Nat) : Int)) := by
  refine Val.of ?_
  have h : ∀ k : IntKind, ∀ a : Fin 256, k.wrap (BitVec.ofInt k.bits (a.val : Int) &&& BitVec.ofInt k.bits 1).toNat = ((a.val % 2 : Nat) : Int) := by
    intro k; cases k <;> decide +kernel
  rw [ho]
  simp only [ev, hx, hy, evBin, if_true]
  exact congrArg (fun z => some (Value.int k z)) (h k ⟨a, ha⟩)
end
end Go.Vc
