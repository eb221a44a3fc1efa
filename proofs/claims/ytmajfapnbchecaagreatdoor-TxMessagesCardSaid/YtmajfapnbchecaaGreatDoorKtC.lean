import Derived.Test.YtmajfapnbchecaaGreatDoorRefD
import Derived.Test.YtmajfapnbchecaaGreatDoorMerS
import Derived.Test.YtmajfapnbchecaaGreatDoorLam3
set_option linter.unusedSimpArgs false
set_option linter.unusedVariables false
/- Trees of keys: plain, and how they lie in memory. -/
namespace Go.Sha
theorem cut_8 : cut 8 = 4 := by kernel_rfl
theorem cut_4 : cut 4 = 2 := by kernel_rfl
theorem cut_2 : cut 2 = 1 := by kernel_rfl
theorem turns_two (i : Nat) : (turnsN i 2).length = 1 := by
  by_cases h : i < cut 2
  · rw [turnsN_left (by decide) h, cut_2, turnsN_small (by decide)]; rfl
  · rw [turnsN_right (by decide) (by omega), cut_2, turnsN_small (by decide)]; rfl
theorem turns_four (i : Nat) : (turnsN i 4).length = 2 := by
  by_cases h : i < cut 4
  · rw [turnsN_left (by decide) h, cut_4, List.length_append, turns_two]; rfl
  · rw [turnsN_right (by decide) (by omega), cut_4, List.length_append, turns_two]; rfl
theorem turns_eight (i : Nat) : (turnsN i 8).length = 3 := by
  by_cases h : i < cut 8
  · rw [turnsN_left (by decide) h, cut_8, List.length_append, turns_four]; rfl
  · rw [turnsN_right (by decide) (by omega), cut_8, List.length_append, turns_four]; rfl
/-- The way of a key to its tree's root. -/
def wayOf (seed : List Nat) (i : Nat) : List (List Nat) := mprove (pubs seed 8) i
theorem wayOf_len (seed : List Nat) {i : Nat} (h : i < 8) : (wayOf seed i).length = 3 := by
  unfold wayOf
  rw [mprove_len 8 _ i (pubs_len _ _) h, turns_eight]
theorem wayOf_HL (seed : List Nat) (i : Nat) : HL (wayOf seed i) := mprove_mem (fun h => h.length = 8 ∧ ∀ x ∈ h, x < 256) (fun l => ⟨mroot_len l, mroot_lt l⟩) _ _ _ rfl
theorem wayOf_flat (seed : List Nat) {i : Nat} (h : i < 8) : (wayOf seed i).flatten.length = 24 := by rw [(wayOf_HL seed i).len, wayOf_len seed h]
theorem HL.flat_lt {l : List (List Nat)} (h : HL l) : ∀ x ∈ l.flatten, x < 256 := by
  intro x hx
  obtain ⟨y, hy, hx⟩ := List.mem_flatten.1 hx
  exact (h y hy).2 x hx
/-- Three hashes from their bytes. -/
def three (pa : List Nat) : List (List Nat) := [pc 8 pa 0, pc 8 pa 1, pc 8 pa 2]
theorem three_flat {pa : List Nat} (h : pa.length = 24) : (three pa).flatten = pa := by
  have e := rowOf_pc (c := 8) (n := 3) (l := pa) h
  simp only [rowOf, List.nil_append] at e
  unfold three
  simp only [List.flatten_cons, List.flatten_nil, List.append_nil]
  rw [← List.append_assoc]
  exact e
theorem three_HL {pa : List Nat} (h : pa.length = 24) (hlt : ∀ x ∈ pa, x < 256) : HL (three pa) := by
  intro x hx
  simp only [three, List.mem_cons, List.not_mem_nil, or_false] at hx
  rcases hx with rfl | rfl | rfl
  · exact ⟨pc_len (n := 3) h (by decide), pc_lt hlt 0⟩
  · exact ⟨pc_len (n := 3) h (by decide), pc_lt hlt 1⟩
  · exact ⟨pc_len (n := 3) h (by decide), pc_lt hlt 2⟩
theorem three_of {ps : List (List Nat)} (h : HL ps) (hl : ps.length = 3) : three ps.flatten = ps := by
  match ps, hl with
  | [a, b, c], _ =>
    unfold three
    rw [pc_flat (i := 0) (x := a) h rfl, pc_flat (i := 1) (x := b) h rfl, pc_flat (i := 2) (x := c) h rfl]
/-- Whether a root signed so: chapter 8. -/
def checkT (root m : List Nat) (z : Int) (op sh pa : List Nat) : Bool := checkM root (pubBy m op sh) z 8 (three pa)
theorem checkT_bad {root m : List Nat} {z : Int} {op sh pa : List Nat} (h : z < 0 ∨ 8 ≤ z) : checkT root m z op sh pa = false := chk_bad (by omega)
/-- What is signed is right. -/
theorem checkT_signed (seed m : List Nat) {i : Nat} (hi : i < 8) : checkT (treeOf seed) m (i : Int) (rowOf (opened seed i m) 16) (rowOf (shutd seed i m) 16) (wayOf seed i).flatten = true := by
  unfold checkT
  rw [three_of (wayOf_HL seed i) (wayOf_len seed hi), pubBy_signed]
  have h := chk_good (root := treeOf seed) (x := pubKey seed i) (ps := wayOf seed i) (i := i) (n := 8) hi (by decide)
  have h2 := mprove_leads (pubs seed 8) i (pubKey seed i) (pubs_at seed 8 i hi)
  rw [pubs_len] at h2
  exact h.trans h2

/-- A signature, as cells. -/
def sigC (z : Int) (op sh pa : List Nat) : List Go.Value := .int .i64 z :: (u8s op ++ (u8s sh ++ u8s pa))
def sgo (seed : List Nat) (i : Nat) (m : List Nat) : List Go.Value := sigC i (rowOf (opened seed i m) 16) (rowOf (shutd seed i m) 16) (wayOf seed i).flatten
def sgz : List Go.Value := sigC 0 (List.replicate 128 0) (List.replicate 128 0) (List.replicate 24 0)
def sgN (seed : List Nat) (z : Int) (m : List Nat) : List Go.Value := if 0 ≤ z ∧ z < 8 then sgo seed z.toNat m else sgz
def sgB (z : Int) : Bool := decide (0 ≤ z ∧ z < 8)
theorem sg_bad {z : Int} (seed m : List Nat) (h : z < 0 ∨ 8 ≤ z) : sgN seed z m = sgz ∧ sgB z = false := by
  unfold sgN sgB
  rw [if_neg (by omega), decide_eq_false (by omega)]
  exact ⟨rfl, rfl⟩
theorem sg_good {i : Nat} (seed m : List Nat) (h : i < 8) : sgN seed (i : Int) m = sgo seed i m ∧ sgB (i : Int) = true := by
  unfold sgN sgB
  rw [if_pos (by omega), decide_eq_true (by omega)]
  exact ⟨rfl, rfl⟩
theorem sigC_len {z : Int} {op sh pa : List Nat} (h1 : op.length = 128) (h2 : sh.length = 128) (h3 : pa.length = 24) : (sigC z op sh pa).length = 281 := by
  simp [sigC, u8s_len, h1, h2, h3]
theorem sigC_open {z : Int} {op sh pa : List Nat} : ∀ j u, (u8s op)[j]? = some u → (sigC z op sh pa).toArray[1 + j]? = some u := by
  intro j u hj
  rw [List.getElem?_toArray, sigC, Nat.add_comm, List.getElem?_cons_succ, List.getElem?_append_left (List.getElem?_eq_some_iff.1 hj).1]
  exact hj
theorem sigC_shut {z : Int} {op sh pa : List Nat} (h1 : op.length = 128) : ∀ j u, (u8s sh)[j]? = some u → (sigC z op sh pa).toArray[129 + j]? = some u := by
  intro j u hj
  rw [List.getElem?_toArray, sigC, show 129 + j = (128 + j) + 1 by omega, List.getElem?_cons_succ, List.getElem?_append_right (by rw [u8s_len]; omega), u8s_len, h1, show 128 + j - 128 = j by omega,
    List.getElem?_append_left (List.getElem?_eq_some_iff.1 hj).1]
  exact hj
theorem sigC_path {z : Int} {op sh pa : List Nat} (h1 : op.length = 128) (h2 : sh.length = 128) : ∀ j u, (u8s pa)[j]? = some u → (sigC z op sh pa).toArray[257 + j]? = some u := by
  intro j u hj
  rw [List.getElem?_toArray, sigC, show 257 + j = (256 + j) + 1 by omega, List.getElem?_cons_succ, List.getElem?_append_right (by rw [u8s_len]; omega), u8s_len, h1,
    List.getElem?_append_right (by rw [u8s_len]; omega), u8s_len, h2, show 256 + j - 128 - 128 = j by omega]
  exact hj
theorem sigC_one {z : Int} {op sh pa : List Nat} : ∀ u ∈ sigC z op sh pa, u.oneCell' = true := by
  intro u hu
  rcases List.mem_cons.1 hu with rfl | hu
  · rfl
  · rw [← u8s_app, ← u8s_app] at hu
    exact u8s_one _ u hu
theorem sgo_len (seed m : List Nat) {i : Nat} (h : i < 8) : (sgo seed i m).length = 281 := sigC_len (rowOf_len (opened_len _ _ _) 16) (rowOf_len (shutd_len _ _ _) 16) (wayOf_flat seed h)
theorem sgz_len : sgz.length = 281 := sigC_len (by simp) (by simp) (by simp)
theorem sgN_len (seed m : List Nat) (z : Int) : (sgN seed z m).length = 281 := by
  unfold sgN
  split
  · exact sgo_len seed m (by omega)
  · exact sgz_len
end Go.Sha
namespace Go.Vc
open Go Go.Sha
section
variable {P : Program} {n : Nat} {w0 : World} {S0 : List Nat} {Q : Exit → Act → World → Prop} {E : Env} {L : Hp} {o : Oper} {d : Nat} {T : List (Nat × TI)} {t : Nat} {ti : TI}
theorem wr_midV (pre old new post : List Value) (h : old.length = new.length) : wrAt (pre ++ old ++ post).toArray pre.length new = (pre ++ new ++ post).toArray := by
  unfold wrAt
  congr 1
  have e1 : List.take pre.length (pre ++ old ++ post) = pre := by rw [List.append_assoc, List.take_left]
  have e2 : List.drop (pre.length + new.length) (pre ++ old ++ post) = post := by rw [← h, ← List.length_append, List.drop_left]
  show List.take pre.length (pre ++ old ++ post) ++ new ++ List.drop (pre.length + new.length) (pre ++ old ++ post) = _
  rw [e1, e2]
/-- Cells are stored in the midst of a row. -/
theorem OpTo.setV (hT : TabOk P T) {x y : Operand} {b off : Nat} (pre old new post : List Value) {l : List Value} {v : Value} {e : TypeId} {L' : Hp} (hd : o.dst = none) (ho : o.op = .store t x y) (ht : tiGet T t = some ti)
    (hx : lk E x = some (.pointer (some ⟨b, off, none⟩))) (hy : lk E y = some v) (hL : L.Perm ((b, .cells l.toArray e (0, 0)) :: L')) (hv : v.cells.toList = new) (hl : l = pre ++ old ++ post) (hoff : off = pre.length) (hon : old.length = new.length)
    (hs : new.length = ti.size) (h1 : ∀ u ∈ new, u.oneCell' = true) : OpTo P n w0 S0 Q E L o (Y := Unit) (fun _ => E) (fun _ => (b, .cells (pre ++ new ++ post).toArray e (0, 0)) :: L') := by
  subst hl
  subst hoff
  subst hv
  refine OpTo.storeTo hT (wr_midV pre old _ post hon) hd ho ht hx hy hL (by rw [← Array.length_toList, hs]) ?_ h1
  simp only [List.size_toArray, List.length_append]
  omega
end
/-- Such a tree stands there. -/
def TreeW (key tree : TypeId) (w : World) (tb : Nat) (seed : List Nat) : Prop :=
  ∃ ks : List Nat, ks.length = 8 ∧ w.heap[tb]? = some (Obj.cells (ks.map (fun k => Value.pointer (some ⟨k, 0, none⟩)) ++ u8s (pubs seed 8).flatten).toArray tree (0, 0)) ∧
    ∀ i k, ks[i]? = some k → w.heap[k]? = some (Obj.cells (u8s (rowOf (secs seed i) 16)).toArray key (0, 0))
theorem TreeW.fr {key tree : TypeId} {w w' : World} {tb : Nat} {seed : List Nat} (h : TreeW key tree w tb seed) (hf : Fr [] w w') : TreeW key tree w' tb seed := by
  obtain ⟨ks, h1, h2, h3⟩ := h
  exact ⟨ks, h1, hf.old h2, fun i k hk => hf.old (h3 i k hk)⟩
/-- Blocks that are such a tree. -/
def TreeB (key tree : TypeId) (tb : Nat) (bl : Hp) (seed : List Nat) : Prop := ∀ w : World, (∀ p ∈ bl, w.heap[p.1]? = some p.2) → TreeW key tree w tb seed
def MakesT (P : Program) (key tree : TypeId) (f : FuncId) (vs : List Value) (w : World) (seed : List Nat) : Prop :=
  Calls P f vs.toArray w fun e' w' => ∃ tb bl, e' = .returned (.pointer (some ⟨tb, 0, none⟩)) ∧ TreeB key tree tb bl seed ∧ Fr [] w w' ∧ (∀ p ∈ bl, w'.heap[p.1]? = some p.2 ∧ w.heap.size ≤ p.1) ∧ (bl.map (·.1)).Nodup
section
variable {P : Program} {n : Nat} {w0 : World} {S0 : List Nat} {Q : Exit → Act → World → Prop} {E : Env} {L : Hp} {o : Oper} {d : Nat}
theorem OpTo.callTree {key tree : TypeId} {f : FuncId} {xs : List Operand} {ts : Array TypeId} {fn : Func} {vs : List Value} {seed : List Nat} (hf : P.funcs[f]? = some fn) (hd : o.dst = some d) (hn : Nat.blt d n = true)
    (ho : o.op = .call { callee := .value (.func f), args := xs.toArray, argTypes := ts }) (hnm : (fn.name == "runtime.NumGoroutine") = false) (hb : fn.body.isNone = false)
    (hx : lkAll E xs = some vs) (hc : ∀ w, Mem w0 S0 L w → MakesT P key tree f vs w seed) : OpTo P n w0 S0 Q E L o (Y := {p : Nat × Hp // TreeB key tree p.1 p.2 seed}) (fun y => (d, .pointer (some ⟨y.1.1, 0, none⟩)) :: E) (fun y => y.1.2 ++ L) :=
  OpTo.call (Y := {p : Nat × Hp // TreeB key tree p.1 p.2 seed}) (V := fun y => .pointer (some ⟨y.1.1, 0, none⟩)) (L' := fun y => y.1.2 ++ L) hf hd hn ho hnm hb hx (fun w hm => (hc w hm).mono (by
    rintro e' w' ⟨tb, bl, rfl, hown, hfr, hbl, hnd⟩
    exact ⟨⟨(tb, bl), hown⟩, rfl, hm.add hfr (fun p hp => (hbl p hp).1) (fun p hp => (hbl p hp).2) hnd⟩))
end
end Go.Vc

/- keytree: New, Root, Sign. -/
namespace Go.Sha
open Go
/-- A tree's cells while its first i keys are there. -/
def kp (k : Nat) : Value := .pointer (some ⟨k, 0, none⟩)
def tCells (seed : List Nat) (ks : List Nat) (i : Nat) : List Value := ks.map kp ++ (List.replicate (8 - i) (Value.pointer none) ++ (u8s (pubs seed i).flatten ++ u8s (List.replicate ((8 - i) * 8) 0)))
theorem tCells_key (seed ks : List Nat) (i k : Nat) (hi : i < 8) : tCells seed ks i = ks.map kp ++ [Value.pointer none] ++ (List.replicate (8 - (i + 1)) (Value.pointer none) ++ (u8s (pubs seed i).flatten ++ u8s (List.replicate ((8 - i) * 8) 0))) ∧
    ks.map kp ++ [kp k] ++ (List.replicate (8 - (i + 1)) (Value.pointer none) ++ (u8s (pubs seed i).flatten ++ u8s (List.replicate ((8 - i) * 8) 0))) =
      ((ks ++ [k]).map kp ++ List.replicate (8 - (i + 1)) (Value.pointer none) ++ u8s (pubs seed i).flatten) ++ u8s (List.replicate 8 0) ++ u8s (List.replicate ((8 - (i + 1)) * 8) 0) := by
  refine ⟨?_, ?_⟩
  · unfold tCells
    rw [show 8 - i = (8 - (i + 1)) + 1 by omega, List.replicate_succ]
    simp only [List.append_assoc, List.cons_append, List.nil_append]
  · have e : List.replicate ((8 - i) * 8) 0 = List.replicate 8 0 ++ List.replicate ((8 - (i + 1)) * 8) 0 := by
      rw [List.replicate_append_replicate]; congr 1; omega
    rw [e, u8s_app]
    simp only [List.map_append, List.map_cons, List.map_nil, List.append_assoc, List.cons_append, List.nil_append]
theorem tCells_next (seed ks : List Nat) (i k : Nat) : ((ks ++ [k]).map kp ++ List.replicate (8 - (i + 1)) (Value.pointer none) ++ u8s (pubs seed i).flatten) ++ u8s (pubKey seed i) ++ u8s (List.replicate ((8 - (i + 1)) * 8) 0) = tCells seed (ks ++ [k]) (i + 1) := by
  unfold tCells
  rw [pubs_succ, List.flatten_append, u8s_app]
  simp only [List.flatten_cons, List.flatten_nil, List.append_nil, List.append_assoc]
theorem tCells_all (seed ks : List Nat) : tCells seed ks 8 = ks.map kp ++ u8s (pubs seed 8).flatten := by
  unfold tCells
  rw [Nat.sub_self, Nat.zero_mul, List.replicate_zero, List.replicate_zero, List.nil_append, show u8s [] = [] from rfl, List.append_nil]
end Go.Sha
namespace Go.Vc
open Go Go.Sha
theorem TreeW.row {key tree : TypeId} {w : World} {tb : Nat} {seed : List Nat} (h : TreeW key tree w tb seed) : SrcW w 8 (.slice (some ⟨tb, 8, none⟩) 8 8) (pubs seed 8).length (u8s (pubs seed 8).flatten) := by
  obtain ⟨ks, h1, h2, _⟩ := h
  rw [pubs_len]
  refine .at _ _ _ _ (by rw [u8s_len, (pubs_HL seed 8).len, pubs_len]) (Nat.le_refl _) fun j u hj => ?_
  rw [add_lit, cell_of_row w tb (8 + j) _ _ _ h2, List.getElem?_toArray, List.getElem?_append_right (by simp [h1])]
  simpa [h1] using hj
theorem TreeW.key {key tree : TypeId} {w : World} {tb : Nat} {seed : List Nat} (h : TreeW key tree w tb seed) {i : Nat} (hi : i < 8) : ∃ k, w.cell? ⟨tb, i, none⟩ = some (.pointer (some ⟨k, 0, none⟩)) ∧ w.heap[k]? = some (Obj.cells (u8s (rowOf (secs seed i) 16)).toArray key (0, 0)) := by
  obtain ⟨ks, h1, h2, h3⟩ := h
  obtain ⟨k, hk⟩ : ∃ k, ks[i]? = some k := ⟨_, List.getElem?_eq_getElem (by omega)⟩
  refine ⟨k, ?_, h3 i k hk⟩
  rw [cell_of_row w tb i _ _ _ h2, List.getElem?_toArray, List.getElem?_append_left (by simp [h1]; omega), List.getElem?_map, hk]
  rfl
end Go.Vc
namespace Go.Proofs.YtmajfapnbchecaaGreatDoor
open Go Go.Vc Go.Sha

end Go.Proofs.YtmajfapnbchecaaGreatDoor

/- The reference's SignTree, CheckTree; keytree.Check, Times. -/
namespace Go.Proofs.YtmajfapnbchecaaGreatDoor
open Go Go.Vc Go.Sha

theorem three_slice {w0 : World} {S0 : List Nat} {L : Hp} {w : World} {b : Nat} {z : Int} {op sh pa : List Nat} {e : TypeId} {fz : Nat × Nat} (hm : Mem w0 S0 L w) (h : (b, .cells (sigC z op sh pa).toArray e fz) ∈ L) (h1 : op.length = 128) (h2 : sh.length = 128) (h3 : pa.length = 24) :
    SrcW w 8 (.slice (some ⟨b, 257, none⟩) 3 3) (three pa).length (u8s (three pa).flatten) := by
  rw [three_flat h3]
  exact .at _ _ _ _ (by rw [u8s_len, h3]) (Nat.le_refl 3) fun j u hj => Rd.row h (sigC_path h1 h2) w hm j u hj

end Go.Proofs.YtmajfapnbchecaaGreatDoor
