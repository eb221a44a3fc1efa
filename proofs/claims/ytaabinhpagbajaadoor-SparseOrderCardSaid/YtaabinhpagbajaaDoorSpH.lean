/- sparse: the reference's leaves: Over, Get, Node, Top. -/
import Derived.Test.YtaabinhpagbajaaDoorSpG
import Derived.Test.YtaabinhpagbajaaDoorRefT
set_option linter.unusedSimpArgs false
set_option linter.unusedVariables false
namespace Go.Sha
open Go.Vc
/-- Leaves: by their places. -/
abbrev Lvs := List (Nat × List Nat)
def lfI (l : Lvs) (i : Int) : List Nat := match l.find? (fun p => (p.1 : Int) == i) with
  | some p => p.2
  | none => Z8
def lfF (l : Lvs) : Nat → List Nat := fun j => lfI l j
/-- Leaves that are none of them zeros, none twice. -/
structure LvOk (l : Lvs) : Prop where
  nd : (l.map (·.1)).Nodup
  lt : ∀ p ∈ l, p.1 < 65536
  nz : ∀ p ∈ l, p.2 ≠ Z8
  h8 : ∀ p ∈ l, H8 p.2
theorem lfI_8 {l : Lvs} (ok : LvOk l) (i : Int) : H8 (lfI l i) := by
  unfold lfI
  split
  · rename_i p hp; exact ok.h8 p (List.mem_of_find?_eq_some hp)
  · exact H8.z
theorem lfF_ok {l : Lvs} (ok : LvOk l) : okF (lfF l) := fun j => lfI_8 ok j
theorem LvOk.len {l : Lvs} (ok : LvOk l) : l.length ≤ 65536 := by
  have h := List.Nodup.length_le_of_subset ok.nd (l₂ := List.range 65536) (fun a ha => by
    obtain ⟨p, hp, rfl⟩ := List.mem_map.1 ha
    exact List.mem_range.2 (ok.lt p hp))
  rwa [List.length_map, List.length_range] at h
def lvA (l : Lvs) : List Int := l.map fun p => (p.1 : Int)
def lvH (l : Lvs) : List Nat := (l.map (·.2)).flatten
end Go.Sha
namespace Go.Vc
open Go Go.Sha
/-- Leaves in memory. -/
structure LvW (tL : TypeId) (w : World) (mb : Nat) (l : Lvs) : Prop where
  h : ∃ vA vH : Value, w.heap[mb]? = some (.cells #[vA, vH] tL (0, 0)) ∧ SrcW w 1 vA l.length (i64L (lvA l)) ∧ SrcW w 8 vH l.length (u8s (lvH l))
theorem LvW.fr {tL : TypeId} {w w' : World} {mb : Nat} {l : Lvs} (x : LvW tL w mb l) (hf : Fr [] w w') : LvW tL w' mb l := by
  obtain ⟨vA, vH, h1, h2, h3⟩ := x.h
  exact ⟨vA, vH, (hf.block mb (Array.getElem?_eq_some_iff.1 h1).1 (by simp)).trans h1, h2.fr hf, h3.fr hf⟩
end Go.Vc
namespace Go.Proofs.YtaabinhpagbajaaDoor
attribute [local irreducible] Go.Vc.Run Go.Vc.RC Go.Vc.RQ Go.Vc.DR Go.Vc.DOp
open Go Go.Vc Go.Sha
set_option maxRecDepth 10000 in set_option maxHeartbeats 4000000 in
theorem refZ_calls (a : List Nat) (ha : a.length = 8) (w : World) :
    Gives Tryd.prog 34 [.agg (u8s a).toArray] (.bool (decide (a = List.replicate 8 0))) w := by
  refine enter Tryd.func34 rfl (Mem.nil w []) rfl ?_
  (repeat refine RC.seq ?_); refine RC.region ?_
  refine Run.nw (New.boxA rfl rfl) ?_
  intro b1
  refine Run.a (Val.of rfl) ?_
  refine Run.nil (RQ.next ?_)
  (repeat refine RC.seq ?_); refine RC.region ?_
  refine Run.a (Val.loadAll tabOk rfl rfl rfl rfl List.mem_cons_self (by show (u8s a).toArray.size = 8; simp [u8s_len, ha])) ?_
  refine Run.a (Val.buildA tabOk (parts := []) (cells := (u8s (List.replicate 8 0)).toArray) rfl rfl rfl rfl rfl rfl) ?_
  refine Run.a (Val.eqArr tabOk (b := List.replicate 8 0) rfl rfl rfl rfl rfl (by kernel_rfl) (by kernel_rfl) (by kernel_rfl) rfl rfl ha rfl) ?_
  refine Run.a (Val.of rfl) ?_
  refine Run.nil (RQ.next ?_)
  refine RC.ret ?_; (repeat first | refine RQ.thenRet ?_ | refine RQ.blockRet ?_); exact RQ.ret1 rfl (Res.tmp rfl) fun w' hm => ⟨rfl, hm.fr⟩
set_option maxRecDepth 10000 in set_option maxHeartbeats 4000000 in
theorem Over_calls (a b : List Nat) (ha : H8 a) (hb : H8 b) (w : World) : Gives Tryd.prog 28 [.agg (u8s a).toArray, .agg (u8s b).toArray] (.agg (u8s (overH a b)).toArray) w := by
  refine enter Tryd.func28 rfl (Mem.nil w []) rfl ?_
  have ha8 := ha.1
  have hb8 := hb.1
  have sa : (u8s a).toArray.size = 8 := by rw [List.size_toArray, u8s_len, ha8]
  have sb : (u8s b).toArray.size = 8 := by rw [List.size_toArray, u8s_len, hb8]
  refine z_ ?_
  refine Run.nw nbx ?_
  intro b2
  refine Run.nw nbx ?_
  intro b3
  refine Run.nw nal ?_
  intro b4
  refine z_ ?_
  refine Run.a (vla (hv := sa)) ?_
  refine Run.op1 (OpTo.cv Tryd.func34 (fun w' _ => refZ_calls a ha8 w')) (fun _ => ?_)
  unfold overH
  have hd := digest_len 110 [a, b]
  have sd : (u8s (digest 110 [a, b])).toArray.size = 8 := by rw [List.size_toArray, u8s_len, hd]
  by_cases h1 : a = Z8
  · have h1' : decide (a = List.replicate 8 0) = true := decide_eq_true h1
    rw [h1']
    refine z_ ?_
    refine Run.a (vla (hv := sb)) ?_
    refine Run.op1 (OpTo.cv Tryd.func34 (fun w' _ => refZ_calls b hb8 w')) (fun _ => ?_)
    by_cases h2 : b = Z8
    · have h2' : decide (b = List.replicate 8 0) = true := decide_eq_true h2
      rw [h2', if_pos ⟨h1, h2⟩]
      refine z_ ?_
      refine Run.a (vba (u8s Z8).toArray) ?_
      refine Run.op1 (osa (u8s Z8).toArray (u8s_one _)) (fun _ => ?_)
      refine z_ ?_
      exact RQ.ret1 rfl (Res.cellAll tabOk rfl rfl rfl m0 rfl) fun w' hm => ⟨rfl, hm.fr⟩
    · have h2' : decide (b = List.replicate 8 0) = false := decide_eq_false h2
      rw [h2', if_neg (fun h => h2 h.2)]
      refine z_ ?_
      refine Run.a (vla (hv := sa)) ?_
      refine Run.a (vla (hv := sb)) ?_
      refine Run.op1 (OpTo.cv Tryd.func38 (fun w' hm => ref_Two_calls 110 (by decide) a b ha8 hb8 ha.2 hb.2 w')) (fun _ => ?_)
      refine Run.op1 (osa (u8s (digest 110 [a, b])).toArray (u8s_one _) (hs := sd)) (fun _ => ?_)
      refine z_ ?_
      exact RQ.ret1 rfl (Res.cellAll tabOk rfl rfl rfl m0 sd) fun w' hm => ⟨rfl, hm.fr⟩
  · have h1' : decide (a = List.replicate 8 0) = false := decide_eq_false h1
    rw [h1', if_neg (fun h => h1 h.1)]
    refine z_ ?_
    refine Run.a (vla (hv := sa)) ?_
    refine Run.a (vla (hv := sb)) ?_
    refine Run.op1 (OpTo.cv Tryd.func38 (fun w' hm => ref_Two_calls 110 (by decide) a b ha8 hb8 ha.2 hb.2 w')) (fun _ => ?_)
    refine Run.op1 (osa (u8s (digest 110 [a, b])).toArray (u8s_one _) (hs := sd)) (fun _ => ?_)
    refine z_ ?_
    exact RQ.ret1 rfl (Res.cellAll tabOk rfl rfl rfl m0 sd) fun w' hm => ⟨rfl, hm.fr⟩
theorem lvA_at {l : Lvs} {k : Nat} {p : Nat × List Nat} (h : l[k]? = some p) : (i64L (lvA l))[k]? = some (.int .i64 p.1) := by
  unfold i64L lvA
  rw [List.getElem?_map, List.getElem?_map, h]; rfl
theorem lvH_at {l : Lvs} (ok : LvOk l) {k : Nat} {p : Nat × List Nat} (h : l[k]? = some p) : ∀ j u, (u8s p.2)[j]? = some u → (u8s (lvH l))[k * 8 + j]? = some u := by
  have e : u8s (lvH l) = rws (fun q : Nat × List Nat => u8s q.2) l ∨ True := .inr trivial
  have key : ∀ (l : Lvs), (∀ p ∈ l, p.2.length = 8) → ∀ k p, l[k]? = some p → ∀ j u, (u8s p.2)[j]? = some u → (u8s (lvH l))[k * 8 + j]? = some u := by
    intro l
    induction l with
    | nil => intro _ k p h; cases h
    | cons q l ih =>
      intro h8 k p h j u hj
      have hq := h8 q List.mem_cons_self
      have e : u8s (lvH (q :: l)) = u8s q.2 ++ u8s (lvH l) := by unfold lvH; rw [List.map_cons, List.flatten_cons, u8s_app]
      rw [e]
      cases k with
      | zero =>
        cases h
        rw [Nat.zero_mul, Nat.zero_add, List.getElem?_append_left (List.getElem?_eq_some_iff.1 hj).1]
        exact hj
      | succ k =>
        rw [List.getElem?_cons_succ] at h
        rw [List.getElem?_append_right (by rw [u8s_len, hq]; omega), u8s_len, hq, show (k + 1) * 8 + j - 8 = k * 8 + j by omega]
        exact ih (fun p hp => h8 p (List.mem_cons_of_mem _ hp)) k p h j u hj
  exact key l (fun p hp => (ok.h8 p hp).1) k p h
set_option maxRecDepth 10000 in set_option maxHeartbeats 4000000 in
theorem LGet_calls (l : Lvs) (ok : LvOk l) (mb : Nat) (i : Int) (w : World) (hw : LvW 39 w mb l) :
    Gives Tryd.prog 15 [.pointer (some ⟨mb, 0, none⟩), .int .i64 i] (.agg (u8s (lfI l i)).toArray) w := by
  refine enter Tryd.func15 rfl (Mem.nil w []) rfl ?_
  obtain ⟨vA, vH, h0, hA, hH⟩ := hw.h
  obtain ⟨aA, cA, rfl, hcA⟩ := hA.shape
  obtain ⟨aH, cH, rfl, hcH⟩ := hH.shape
  have hc0 : w.cell? ⟨mb, 0, none⟩ = some (.slice aA l.length cA) := by rw [cell_of_row w mb 0 _ _ _ h0]; rfl
  have hc1 : w.cell? ⟨mb, 1, none⟩ = some (.slice aH l.length cH) := by rw [cell_of_row w mb 1 _ _ _ h0]; rfl
  have hll := ok.len
  refine z_ ?_
  refine Run.nw nal ?_
  intro b4
  refine z_ ?_
  refine RC.up l.length (D := Unit) (fun k _ => (l.take k).find? (fun p => (p.1 : Int) == i) = none) (fun k _ => [(5, .int .i64 k), (4, .pointer (some ⟨b4, 0, none⟩)), (1, .int .i64 i), (0, .pointer (some ⟨mb, 0, none⟩))]) (fun _ _ => [(b4, Obj.cells (u8s Z8).toArray 29 (0, 0))]) 0 () (Nat.zero_le _) rfl ⟨rfl, rfl, rfl, rfl, trivial⟩ (List.Sublist.refl _) ?_
  intro k _ hk hno
  refine z_ ?_
  refine Run.a (vlo hc0) ?_
  by_cases hk' : k < l.length
  · obtain ⟨p, hp⟩ : ∃ p, l[k]? = some p := ⟨_, List.getElem?_eq_getElem hk'⟩
    obtain ⟨adA, cA', hv, hcA', hlA, hrA⟩ := hA.pos (by omega)
    cases hv
    have hcp := hrA k _ (lvA_at hp)
    refine z_ ?_
    refine Run.a (vlo hc0) ?_
    refine z_ ?_
    refine Run.a (vix k hk' (adA.add k) (ha := by show adA.add (k * 1) = _; rw [Nat.mul_one])) ?_
    refine Run.a (vlo hcp) ?_
    by_cases he : (p.1 : Int) = i
    · obtain ⟨adH, cH', hv, hcH', hlH, hrH⟩ := hH.pos (by omega)
      cases hv
      have hp8 := ok.h8 p (List.mem_of_getElem? hp)
      have hlf : lfI l i = p.2 := by
        unfold lfI
        have : l.find? (fun p => (p.1 : Int) == i) = some p := by
          conv => lhs; rw [← List.take_append_drop k l, List.find?_append, hno, List.drop_eq_getElem_cons hk', (List.getElem?_eq_some_iff.1 hp).2]
          rw [List.find?_cons, show ((p.1 : Int) == i) = true from by rw [he]; exact beq_self_eq_true i]
          rfl
        rw [this]
      have hload : ∀ j u, (u8s p.2)[j]? = some u → w.cell? ((adH.add (k * 8)).add j) = some u := fun j u hj => by
        rw [add_add]; exact hrH _ u (lvH_at ok hp j u hj)
      have sp : (u8s p.2).length = 8 := by rw [u8s_len, hp8.1]
      have sp2 : (u8s p.2).toArray.size = 8 := by rw [List.size_toArray, sp]
      rw [hlf]
      refine z_ ?_
      refine Run.a (vlo hc1) ?_
      refine z_ ?_
      refine Run.a (vix k hk' (adH.add (k * 8))) ?_
      refine Run.a (vloA hload sp) ?_
      refine Run.op1 (osa (u8s p.2).toArray (u8s_one _) (hs := sp2)) (fun _ => ?_)
      refine z_ ?_
      exact RQ.ret1 rfl (Res.cellAll tabOk rfl rfl rfl m0 sp2) fun w' hm => ⟨rfl, hm.fr⟩
    · refine z_ ?_
      refine RQ.up (k + 1) () (Nat.lt_succ_self _) hk' ?_ ⟨rfl, rfl, rfl, rfl, trivial⟩ (List.Sublist.refl _)
      rw [List.take_add_one, hp, Option.toList_some, List.find?_append, hno, List.find?_cons, show ((p.1 : Int) == i) = false from by rw [beq_eq_false_iff_ne]; exact he]
      rfl
  · have hk9 : k = l.length := by omega
    subst hk9
    rw [List.take_length] at hno
    have hlf : lfI l i = Z8 := by unfold lfI; rw [hno]
    rw [hlf]
    refine z_ ?_
    refine Run.a (vba (u8s Z8).toArray) ?_
    refine Run.op1 (osa (u8s Z8).toArray (u8s_one _)) (fun _ => ?_)
    refine z_ ?_
    exact RQ.ret1 rfl (Res.cellAll tabOk rfl rfl rfl m0 rfl) fun w' hm => ⟨rfl, hm.fr⟩
end Go.Proofs.YtaabinhpagbajaaDoor
