/- Slices: a row of the call's own that is appended to, what is read out of a slice, copies. -/
import Derived.Test.YtilfbomjaflbjaaDoorVcD
namespace Go.Vc
open Go

section
variable {P : Program} {n : Nat} {w0 : World} {S0 : List Nat} {Q : Exit → Act → World → Prop} {E : Env} {L : Hp} {o : Oper} {d : Nat} {T : List (Nat × TI)} {t : Nat} {ti : TI} {ops : Array Oper}

/-- From a place on these cells can be read, in every world of which so much is known. -/
def Rd (w0 : World) (S0 : List Nat) (L : Hp) (a : Addr) (cs : List Value) : Prop := ∀ w, Mem w0 S0 L w → ∀ j u, cs[j]? = some u → w.cell? (a.add j) = some u
theorem Rd.old {a : Addr} {cs : List Value} (hS : a.block ∉ S0) (hc : ∀ j u, cs[j]? = some u → w0.cell? (a.add j) = some u) : Rd w0 S0 L a cs := fun _ hm j u hj =>
  hm.fr.cell (by rw [show (a.add j).block = a.block by unfold Addr.add; split <;> rfl]; exact hS) (hc j u hj)
theorem Rd.row {b off : Nat} {arr : Array Value} {e : TypeId} {fz : Nat × Nat} {cs : List Value} (hm : (b, .cells arr e fz) ∈ L) (hc : ∀ j u, cs[j]? = some u → arr[off + j]? = some u) : Rd w0 S0 L ⟨b, off, none⟩ cs := fun w hmem j u hj => by
  rw [add_lit, cell_of_row w b (off + j) arr e fz (hmem.has _ hm)]; exact hc j u hj
theorem Rd.rowAll {b : Nat} {arr : Array Value} {e : TypeId} {fz : Nat × Nat} (hm : (b, .cells arr e fz) ∈ L) : Rd w0 S0 L ⟨b, 0, none⟩ arr.toList :=
  Rd.row hm (fun j u hj => by simpa using hj)
theorem Rd.nil {a : Addr} : Rd w0 S0 L a [] := fun _ _ j u hj => by simp at hj
theorem Rd.take {a : Addr} {cs : List Value} (h : Rd w0 S0 L a cs) (k : Nat) : Rd w0 S0 L a (cs.take k) := fun w hm j u hj => h w hm j u (by
  rw [List.getElem?_take] at hj; split at hj; exact hj; cases hj)
theorem Rd.drop {a : Addr} {cs : List Value} (h : Rd w0 S0 L a cs) (k : Nat) : Rd w0 S0 L (a.add k) (cs.drop k) := fun w hm j u hj => by
  rw [add_add]; rw [List.getElem?_drop] at hj; exact h w hm _ u hj

/-- A slice value of m elements that reads as these cells. -/
inductive Src (w0 : World) (S0 : List Nat) (L : Hp) (sz : Nat) : Value → Nat → List Value → Prop
  | nil : Src w0 S0 L sz (.slice none 0 0) 0 []
  | at (a : Addr) (m c : Nat) (cs : List Value) (hl : cs.length = m * sz) (hr : Rd w0 S0 L a cs) : Src w0 S0 L sz (.slice (some a) m c) m cs

/-- A slice of n elements whose cells are the call's own, from the beginning of a block. -/
inductive Own (e : TypeId) (sz : Nat) : Value → Nat → List Value → Hp → Prop
  | nil : Own e sz (.slice none 0 0) 0 [] []
  | row (b n cap : Nat) (cs rest : List Value) (h1 : cs.length = n * sz) (h2 : (cs ++ rest).length = cap * sz) (hn : n ≤ cap) (hc : cap ≤ maxLen) : Own e sz (.slice (some ⟨b, 0, none⟩) n cap) n cs [(b, .cells (cs ++ rest).toArray e (0, 0))]

theorem Own.len {e : TypeId} {sz : Nat} {v : Value} {m : Nat} {cs : List Value} {bl : Hp} (h : Own e sz v m cs bl) : cs.length = m * sz := by
  cases h with
  | nil => simp
  | row _ _ _ _ _ h1 => exact h1
theorem Own.src {e : TypeId} {sz : Nat} {v : Value} {m : Nat} {cs : List Value} {bl : Hp} (h : Own e sz v m cs bl) (hb : ∀ p ∈ bl, p ∈ L) : Src w0 S0 L sz v m cs := by
  cases h with
  | nil => exact .nil
  | row b _ cap _ rest h1 h2 _ _ =>
    refine .at _ _ _ _ h1 (Rd.row (hb _ (List.mem_singleton.2 rfl)) fun j u hj => ?_)
    rw [Nat.zero_add, List.getElem?_toArray, List.getElem?_append_left]
    · exact hj
    · exact (List.getElem?_eq_some_iff.1 hj).1

theorem run_append {P : Program} {w : World} {t e : TypeId} {ei : TI} {ty : TypeId} (ht : P.underlying t = some (.slice e)) (he : Ty P e ei) (hz : ei.zero.cells.size = ei.size)
    {v x : Value} {m k : Nat} {cs news : List Value} {bl : Hp} (hown : Own e ei.size v m cs bl) (hbl : ∀ p ∈ bl, w.heap[p.1]? = some p.2)
    (hx : (x = .slice none 0 0 ∧ k = 0 ∧ news = []) ∨ (∃ a c, x = .slice (some a) k c ∧ news.length = k * ei.size ∧ ∀ j u, news[j]? = some u → w.cell? (a.add j) = some u))
    (h1 : ∀ u ∈ news, u.oneCell' = true) (h63 : m + k ≤ maxLen) (hby : (m + k) * ei.bytes ≤ 140737488355328) :
    ∃ v' bl' w', (Builtin.append_ #[t, t] ty #[v, x]).run P w = .ok v' w' ∧ Own e ei.size v' (m + k) (cs ++ news) bl' ∧
      ((∃ b ob ob', bl = [(b, ob)] ∧ bl' = [(b, ob')] ∧ Fr [b] w w' ∧ w'.heap[b]? = some ob') ∨
       (Fr [] w w' ∧ (∀ p ∈ bl', w'.heap[p.1]? = some p.2 ∧ w.heap.size ≤ p.1) ∧ (bl'.map (·.1)).Nodup)) := by
  obtain ⟨-, i, hi, hs, hb, hzz⟩ := he
  rcases hx with ⟨rfl, rfl, rfl⟩ | ⟨a, c, rfl, hl, hrd⟩
  · -- nothing is appended
    refine ⟨v, bl, w, ?_, by simpa using hown, ?_⟩
    · cases hown with
      | nil => simp [Builtin.append_, run_underlying ht, sizeOf, typeInfo, hi, Builtin.lenOf, Builtin.firstCells]
      | row b _ cap _ rest h1 h2 hn hc => simp [Builtin.append_, run_underlying ht, sizeOf, typeInfo, hi, Builtin.lenOf, Builtin.firstCells, hn, storeCells]
    · cases hown with
      | nil => exact .inr ⟨Fr.refl _ _, by simp, by simp⟩
      | row b _ cap _ rest h1 h2 hn hc => exact .inl ⟨b, _, _, rfl, rfl, Fr.refl _ _, hbl _ (List.mem_singleton.2 rfl)⟩
  · rw [← hs] at hl
    cases hown with
    | nil =>
      by_cases hk : k = 0
      · subst hk
        have hn : news = [] := List.eq_nil_of_length_eq_zero (by simpa using hl)
        subst hn
        refine ⟨.slice none 0 0, [], w, ?_, by simpa using Own.nil, .inr ⟨Fr.refl _ _, by simp, by simp⟩⟩
        simp [Builtin.append_, run_underlying ht, sizeOf, typeInfo, hi, Builtin.lenOf, Builtin.firstCells, loadCells, loadCellsFrom]
      · have hr := run_append_nil (P := P) w t ty e i ei.zero ht hi hzz a k c news hl hrd (by omega) (by simp only [maxLen] at h63; omega) (by rw [hb]; simp only [Nat.zero_add] at hby; omega)
        refine ⟨_, [(w.heap.size, .cells (news.toArray ++ Builtin.zeroCells ei.zero.cells (grownCap w k 0 e - k)) e)], _, hr, ?_, .inr ⟨(Fr.drew w).trans (Fr.alloc _ _), ?_, by simp⟩⟩
        · have h0 := grownCap_ge w k 0 e
          have h9 := grownCap_le_maxLen w k 0 e (by omega)
          have := Own.row (e := e) (sz := ei.size) w.heap.size k (grownCap w k 0 e) news (Builtin.zeroCells ei.zero.cells (grownCap w k 0 e - k)).toList (by rw [hl, hs])
            (by rw [List.length_append, hl, hs, Array.length_toList, size_zeroCells, hz, ← Nat.add_mul]; congr 1; omega) h0 h9
          have e9 : ∀ (A : List Value) (B : Array Value), (A ++ B.toList).toArray = A.toArray ++ B := fun A B => by apply Array.ext'; simp
          rw [e9] at this
          simpa using this
        · intro p hp
          rw [List.mem_singleton] at hp; subst hp
          exact ⟨heap_alloc_new w.drew _, Nat.le_refl _⟩
    | row b _ cap _ rest h1' h2 hn hc =>
      have hg := hbl _ (List.mem_singleton.2 rfl)
      by_cases hroom : m + k ≤ cap
      · have hr := run_append_room (P := P) w t ty e i ht hi b m cap _ hg a k c news hl hrd h1 hroom (by
          rw [hl, hs, List.size_toArray, h2, ← Nat.add_mul]; exact Nat.mul_le_mul_right _ hroom)
        refine ⟨_, [(b, .cells ((cs ++ rest).toArray.toList.take (m * i.size) ++ news ++ (cs ++ rest).toArray.toList.drop (m * i.size + news.length)).toArray e)], _, hr, ?_, .inl ⟨b, _, _, rfl, rfl, Fr.setRow _ _ _, setRow_heap w b _ _ e _ hg⟩⟩
        have e1 : (cs ++ rest).toArray.toList.take (m * i.size) = cs := by
          rw [hs, ← h1']; exact List.take_left
        have e2 : ((cs ++ rest).toArray.toList.drop (m * i.size + news.length)) = rest.drop news.length := by
          rw [hs, ← h1']
          show (cs ++ rest).drop (cs.length + news.length) = _
          rw [List.drop_append]; simp
        have := Own.row (e := e) (sz := ei.size) b (m + k) cap (cs ++ news) (rest.drop news.length) (by rw [List.length_append, h1', hl, hs, Nat.add_mul])
          (by
            rw [List.length_append, List.length_append, List.length_drop, hl, hs, h1']
            rw [List.length_append, h1'] at h2
            have : m * ei.size + k * ei.size ≤ cap * ei.size := by rw [← Nat.add_mul]; exact Nat.mul_le_mul_right _ hroom
            omega) hroom hc
        rw [e1, e2]
        exact this
      · have hr := run_append_grow (P := P) w t ty e i ei.zero ht hi hzz ⟨b, 0, none⟩ m cap cs (by rw [h1', hs]) (fun j u hj => by
            rw [add_lit, cell_of_row w b (0 + j) _ e _ hg, Nat.zero_add, List.getElem?_toArray, List.getElem?_append_left]
            · exact hj
            · exact (List.getElem?_eq_some_iff.1 hj).1) a k c news hl hrd (by omega) (by simp only [maxLen] at h63; omega) (growslice_fits (by omega) (by rw [hb]; exact hby))
        refine ⟨_, [(w.heap.size, .cells (cs.toArray ++ news.toArray ++ Builtin.zeroCells ei.zero.cells (grownCap w (m + k) cap e - (m + k))) e)], _, hr, ?_, .inr ⟨(Fr.drew w).trans (Fr.alloc _ _), ?_, by simp⟩⟩
        · have h0 := grownCap_ge w (m + k) cap e
          have h9 := grownCap_le_maxLen w (m + k) cap e h63
          have := Own.row (e := e) (sz := ei.size) w.heap.size (m + k) (grownCap w (m + k) cap e) (cs ++ news) (Builtin.zeroCells ei.zero.cells (grownCap w (m + k) cap e - (m + k))).toList
            (by rw [List.length_append, h1', hl, hs, Nat.add_mul])
            (by rw [List.length_append, List.length_append, h1', hl, hs, Array.length_toList, size_zeroCells, hz, ← Nat.add_mul, ← Nat.add_mul]; congr 1; omega) h0 h9
          have e9 : ∀ (A C : List Value) (B : Array Value), (A ++ C ++ B.toList).toArray = A.toArray ++ C.toArray ++ B := fun A C B => by apply Array.ext'; simp
          rw [e9] at this
          exact this
        · intro p hp
          rw [List.mem_singleton] at hp; subst hp
          exact ⟨heap_alloc_new w.drew _, Nat.le_refl _⟩

/-- s = append(s, x...) -/
theorem OpTo.append (hT : TabOk P T) {s x : Operand} {e : TypeId} {ei : TI} {v u : Value} {m k : Nat} {cs news : List Value} {bl L1 : Hp} (hown : Own e ei.size v m cs bl) (hsrc : Src w0 S0 L ei.size u k news)
    (hd : o.dst = some d) (hn : Nat.blt d n = true)
    (ho : o.op = .call { callee := .builtin .append, args := #[s, x], argTypes := #[t, t] }) (ht : tiGet T t = some ti) (htd : ti.desc = .slice e) (he : tiGet T e = some ei) (hz : ei.zero.cells.size = ei.size)
    (hs : lk E s = some v) (hx : lk E x = some u) (hL : L.Perm (bl ++ L1)) (h1 : ∀ u ∈ news, u.oneCell' = true) (h63 : m + k ≤ maxLen) (hby : (m + k) * ei.bytes ≤ 140737488355328) :
    OpTo P n w0 S0 Q E L o (Y := {p : Value × Hp // Own e ei.size p.1 (m + k) (cs ++ news) p.2}) (fun y => (d, y.1.1) :: E) (fun y => y.1.2 ++ L1) := by
  intro a w hst hm K hK
  have hu := (hT _ _ ht).1
  rw [htd] at hu
  have hm' := hm.perm hL
  obtain ⟨v', bl', w', hr, hown', hcase⟩ := run_append (P := P) (w := w) (ty := o.type) (x := u) hu (hT _ _ he) hz hown (fun p hp => hm'.has p (List.mem_append_left _ hp))
    (by cases hsrc with
        | nil => exact .inl ⟨rfl, rfl, rfl⟩
        | «at» a m c cs hl hr => exact .inr ⟨a, c, rfl, hl, hr w hm⟩) h1 h63 hby
  have hex : (execOp a.eval o).run P w = .ok (.value v') w' := by
    simp [execOp, ho, resolve, invoke, builtin, hst.eval hs, hst.eval hx, hr]
  simp only [Oper.wp, hex, Oper.upon_value, hd]
  refine hK ⟨(v', bl'), hown'⟩ _ _ (hst.put hn v') ?_
  rcases hcase with ⟨b, ob, ob', rfl, rfl, hf, hb⟩ | ⟨hf, hb, hnd⟩
  · exact (Mem.write (L := L1) hm' hf hb)
  · have := hm'.sublist (List.sublist_append_right bl L1)
    exact this.add hf (fun p hp => (hb p hp).1) (fun p hp => (hb p hp).2) hnd

/-- A new slice with its elements written out. -/
def fillS (sz len : Nat) (zero : Array Value) (parts : Array (Nat × Value)) : Option (Array Value) :=
  Instr.fill (fun i => some (i * sz, sz)) ((Array.range (len * sz)).map (zero[· % zero.size]!)) parts.toList
theorem New.buildSlice (hT : TabOk P T) {len : Nat} {parts : List (Nat × Operand)} {vs : List Value} {e : TypeId} {ei : TI} {cells : Array Value} (ho : o.op = .buildSlice t len parts.toArray) (ht : tiGet T t = some ti) (hd : ti.desc = .slice e) (he : tiGet T e = some ei)
    (hx : lkAll E (parts.map (·.2)) = some vs) (hsm : Nat.ble (len * ei.size) 16777216 = true) (hf : fillS ei.size len ei.zero.cells ((parts.map (·.1)).zip vs).toArray = some cells) :
    New P n w0 S0 E L o (fun b => .slice (some ⟨b, 0, none⟩) len len) (.cells cells e) := by
  intro a w hs _
  have h2 := (hT _ _ ht).1
  rw [hd] at h2
  have hv := hs.evalAll hx
  have hz := (hT _ _ he).zero w
  have hsz := (hT _ _ he).size w
  have hpv : (parts.toArray.map fun (i, x) => (i, a.eval x)) = ((parts.map (·.1)).zip vs).toArray := by
    rw [← hv]
    simp [List.zip_map', Function.comp_def]
  have hsm' : ¬ (16777216 < len * ei.size) := by have := Nat.le_of_ble_eq_true hsm; omega
  refine ⟨w, Fr.refl _ _, rfl, ?_⟩
  simp only [execOp, ho]
  rw [hpv]
  have r0 : Array.range 0 = #[] := by apply Array.ext' ; simp
  have hlast : (Instr.buildSlice t len ((parts.map (·.1)).zip vs).toArray).run P w = .ok (.slice (some ⟨w.heap.size, 0, none⟩) len len) (w.alloc (.cells cells e)) := by
    by_cases h0 : len * ei.size = 0
    · have hf' : Instr.fill (fun i => some (i * ei.size, ei.size)) #[] ((parts.map (·.1)).zip vs) = some cells := by
        simpa [fillS, h0, r0] using hf
      simp [Instr.buildSlice, run_underlying h2, hsz, h0, hf', newRow, r0]
    · have hf' : Instr.fill (fun i => some (i * ei.size, ei.size)) ((Array.range (len * ei.size)).map (ei.zero.cells[· % ei.zero.cells.size]!)) ((parts.map (·.1)).zip vs) = some cells := by
        simpa [fillS] using hf
      simp [Instr.buildSlice, run_underlying h2, hsz, h0, hsm', hz, newRow]
      rw [hf']
      simp
  simp [hlast]
end
end Go.Vc
