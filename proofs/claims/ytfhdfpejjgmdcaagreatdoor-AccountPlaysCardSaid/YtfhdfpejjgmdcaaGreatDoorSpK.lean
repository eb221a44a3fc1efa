import Derived.Test.YtfhdfpejjgmdcaaGreatDoorSpG
import Derived.Test.YtfhdfpejjgmdcaaGreatDoorRefT
set_option linter.unusedSimpArgs false
set_option linter.unusedVariables false
/- sparse: the reference's leaves: Over, Get, Node, Top. -/
namespace Go.Sha
open Go.Vc
/-- Leaves: by their places. -/
abbrev Lvs := List (Nat × List Nat)
def lfI (l : Lvs) (i : Int) : List Nat := match l.find? (fun p => (p.1 : Int) == i) with
  | some p => p.2
  | none => Z8
def lfF (l : Lvs) : Nat → List Nat := fun j => lfI l j
/-- Leaves that are none of them zeros, none twice. -/
structure LvOk (l : Lvs) : Prop where
  nd : (l.map (·.1)).Nodup
  lt : ∀ p ∈ l, p.1 < 65536
  nz : ∀ p ∈ l, p.2 ≠ Z8
  h8 : ∀ p ∈ l, H8 p.2
theorem lfI_8 {l : Lvs} (ok : LvOk l) (i : Int) : H8 (lfI l i) := by
  unfold lfI
  split
  · rename_i p hp; exact ok.h8 p (List.mem_of_find?_eq_some hp)
  · exact H8.z
theorem lfF_ok {l : Lvs} (ok : LvOk l) : okF (lfF l) := fun j => lfI_8 ok j
theorem LvOk.len {l : Lvs} (ok : LvOk l) : l.length ≤ 65536 := by
  have h := List.Nodup.length_le_of_subset ok.nd (l₂ := List.range 65536) (fun a ha => by
    obtain ⟨p, hp, rfl⟩ := List.mem_map.1 ha
    exact List.mem_range.2 (ok.lt p hp))
  rwa [List.length_map, List.length_range] at h
def lvA (l : Lvs) : List Int := l.map fun p => (p.1 : Int)
def lvH (l : Lvs) : List Nat := (l.map (·.2)).flatten
end Go.Sha
namespace Go.Vc
open Go Go.Sha
/-- Leaves in memory. -/
structure LvW (tL : TypeId) (w : World) (mb : Nat) (l : Lvs) : Prop where
  h : ∃ vA vH : Value, w.heap[mb]? = some (.cells #[vA, vH] tL (0, 0)) ∧ SrcW w 1 vA l.length (i64L (lvA l)) ∧ SrcW w 8 vH l.length (u8s (lvH l))
theorem LvW.fr {tL : TypeId} {w w' : World} {mb : Nat} {l : Lvs} (x : LvW tL w mb l) (hf : Fr [] w w') : LvW tL w' mb l := by
  obtain ⟨vA, vH, h1, h2, h3⟩ := x.h
  exact ⟨vA, vH, (hf.block mb (Array.getElem?_eq_some_iff.1 h1).1 (by simp)).trans h1, h2.fr hf, h3.fr hf⟩
end Go.Vc
namespace Go.Proofs.YtfhdfpejjgmdcaaGreatDoor
attribute [local irreducible] Go.Vc.Run Go.Vc.RC Go.Vc.RQ Go.Vc.DR Go.Vc.DOp
open Go Go.Vc Go.Sha
set_option maxRecDepth 10000 in set_option maxHeartbeats 4000000 in
theorem refZ_calls (a : List Nat) (ha : a.length = 8) (w : World) :
    Gives Tryz.prog 45 [.agg (u8s a).toArray] (.bool (decide (a = List.replicate 8 0))) w := by
  refine enter Tryz.func45 rfl (Mem.nil w []) rfl ?_
  (repeat refine RC.seq ?_); refine RC.region ?_
  refine Run.nw (New.boxA rfl rfl) ?_
  intro b1
  refine Run.a (Val.of rfl) ?_
  refine Run.nil (RQ.next ?_)
  (repeat refine RC.seq ?_); refine RC.region ?_
  refine Run.a (Val.loadAll tabOk rfl rfl rfl rfl List.mem_cons_self (by show (u8s a).toArray.size = 8; simp [u8s_len, ha])) ?_
  refine Run.a (Val.buildA tabOk (parts := []) (cells := (u8s (List.replicate 8 0)).toArray) rfl rfl rfl rfl rfl rfl) ?_
  refine Run.a (Val.eqArr tabOk (b := List.replicate 8 0) rfl rfl rfl rfl rfl (by kernel_rfl) (by kernel_rfl) (by kernel_rfl) rfl rfl ha rfl) ?_
  refine Run.a (Val.of rfl) ?_
  refine Run.nil (RQ.next ?_)
  refine RC.ret ?_; (repeat first | refine RQ.thenRet ?_ | refine RQ.blockRet ?_); exact RQ.ret1 rfl (Res.tmp rfl) fun w' hm => ⟨rfl, hm.fr⟩
set_option maxRecDepth 10000 in set_option maxHeartbeats 4000000 in
theorem Over_calls (a b : List Nat) (ha : H8 a) (hb : H8 b) (w : World) : Gives Tryz.prog 77 [.agg (u8s a).toArray, .agg (u8s b).toArray] (.agg (u8s (overH a b)).toArray) w := by
  refine enter Tryz.func77 rfl (Mem.nil w []) rfl ?_
  have ha8 := ha.1
  have hb8 := hb.1
  have sa : (u8s a).toArray.size = 8 := by rw [List.size_toArray, u8s_len, ha8]
  have sb : (u8s b).toArray.size = 8 := by rw [List.size_toArray, u8s_len, hb8]
  refine z_ ?_
  refine Run.nw nbx ?_
  intro b2
  refine Run.nw nbx ?_
  intro b3
  refine Run.nw nal ?_
  intro b4
  refine z_ ?_
  refine Run.a (vla (hv := sa)) ?_
  refine Run.op1 (OpTo.cv Tryz.func45 (fun w' _ => refZ_calls a ha8 w')) (fun _ => ?_)
  unfold overH
  have hd := digest_len 110 [a, b]
  have sd : (u8s (digest 110 [a, b])).toArray.size = 8 := by rw [List.size_toArray, u8s_len, hd]
  by_cases h1 : a = Z8
  · have h1' : decide (a = List.replicate 8 0) = true := decide_eq_true h1
    rw [h1']
    refine z_ ?_
    refine Run.a (vla (hv := sb)) ?_
    refine Run.op1 (OpTo.cv Tryz.func45 (fun w' _ => refZ_calls b hb8 w')) (fun _ => ?_)
    by_cases h2 : b = Z8
    · have h2' : decide (b = List.replicate 8 0) = true := decide_eq_true h2
      rw [h2', if_pos ⟨h1, h2⟩]
      refine z_ ?_
      refine Run.a (vba (u8s Z8).toArray) ?_
      refine Run.op1 (osa (u8s Z8).toArray (u8s_one _)) (fun _ => ?_)
      refine z_ ?_
      exact RQ.ret1 rfl (Res.cellAll tabOk rfl rfl rfl m0 rfl) fun w' hm => ⟨rfl, hm.fr⟩
    · have h2' : decide (b = List.replicate 8 0) = false := decide_eq_false h2
      rw [h2', if_neg (fun h => h2 h.2)]
      refine z_ ?_
      refine Run.a (vla (hv := sa)) ?_
      refine Run.a (vla (hv := sb)) ?_
      refine Run.op1 (OpTo.cv Tryz.func61 (fun w' hm => ref_Two_calls 110 (by decide) a b ha8 hb8 ha.2 hb.2 w')) (fun _ => ?_)
      refine Run.op1 (osa (u8s (digest 110 [a, b])).toArray (u8s_one _) (hs := sd)) (fun _ => ?_)
      refine z_ ?_
      exact RQ.ret1 rfl (Res.cellAll tabOk rfl rfl rfl m0 sd) fun w' hm => ⟨rfl, hm.fr⟩
  · have h1' : decide (a = List.replicate 8 0) = false := decide_eq_false h1
    rw [h1', if_neg (fun h => h1 h.1)]
    refine z_ ?_
    refine Run.a (vla (hv := sa)) ?_
    refine Run.a (vla (hv := sb)) ?_
    refine Run.op1 (OpTo.cv Tryz.func61 (fun w' hm => ref_Two_calls 110 (by decide) a b ha8 hb8 ha.2 hb.2 w')) (fun _ => ?_)
    refine Run.op1 (osa (u8s (digest 110 [a, b])).toArray (u8s_one _) (hs := sd)) (fun _ => ?_)
    refine z_ ?_
    exact RQ.ret1 rfl (Res.cellAll tabOk rfl rfl rfl m0 sd) fun w' hm => ⟨rfl, hm.fr⟩
theorem lvA_at {l : Lvs} {k : Nat} {p : Nat × List Nat} (h : l[k]? = some p) : (i64L (lvA l))[k]? = some (.int .i64 p.1) := by
  unfold i64L lvA
  rw [List.getElem?_map, List.getElem?_map, h]; rfl
theorem lvH_at {l : Lvs} (ok : LvOk l) {k : Nat} {p : Nat × List Nat} (h : l[k]? = some p) : ∀ j u, (u8s p.2)[j]? = some u → (u8s (lvH l))[k * 8 + j]? = some u := by
  have e : u8s (lvH l) = rws (fun q : Nat × List Nat => u8s q.2) l ∨ True := .inr trivial
  have key : ∀ (l : Lvs), (∀ p ∈ l, p.2.length = 8) → ∀ k p, l[k]? = some p → ∀ j u, (u8s p.2)[j]? = some u → (u8s (lvH l))[k * 8 + j]? = some u := by
    intro l
    induction l with
    | nil => intro _ k p h; cases h
    | cons q l ih =>
      intro h8 k p h j u hj
      have hq := h8 q List.mem_cons_self
      have e : u8s (lvH (q :: l)) = u8s q.2 ++ u8s (lvH l) := by unfold lvH; rw [List.map_cons, List.flatten_cons, u8s_app]
      rw [e]
      cases k with
      | zero =>
        cases h
        rw [Nat.zero_mul, Nat.zero_add, List.getElem?_append_left (List.getElem?_eq_some_iff.1 hj).1]
        exact hj
      | succ k =>
        rw [List.getElem?_cons_succ] at h
        rw [List.getElem?_append_right (by rw [u8s_len, hq]; omega), u8s_len, hq, show (k + 1) * 8 + j - 8 = k * 8 + j by omega]
        exact ih (fun p hp => h8 p (List.mem_cons_of_mem _ hp)) k p h j u hj
  exact key l (fun p hp => (ok.h8 p hp).1) k p h
set_option maxRecDepth 10000 in set_option maxHeartbeats 4000000 in
theorem LGet_calls (l : Lvs) (ok : LvOk l) (mb : Nat) (i : Int) (w : World) (hw : LvW 96 w mb l) :
    Gives Tryz.prog 76 [.pointer (some ⟨mb, 0, none⟩), .int .i64 i] (.agg (u8s (lfI l i)).toArray) w := by
  refine enter Tryz.func76 rfl (Mem.nil w []) rfl ?_
  obtain ⟨vA, vH, h0, hA, hH⟩ := hw.h
  obtain ⟨aA, cA, rfl, hcA⟩ := hA.shape
  obtain ⟨aH, cH, rfl, hcH⟩ := hH.shape
  have hc0 : w.cell? ⟨mb, 0, none⟩ = some (.slice aA l.length cA) := by rw [cell_of_row w mb 0 _ _ _ h0]; rfl
  have hc1 : w.cell? ⟨mb, 1, none⟩ = some (.slice aH l.length cH) := by rw [cell_of_row w mb 1 _ _ _ h0]; rfl
  have hll := ok.len
  refine z_ ?_
  refine Run.nw nal ?_
  intro b4
  refine z_ ?_
  refine RC.up l.length (D := Unit) (fun k _ => (l.take k).find? (fun p => (p.1 : Int) == i) = none) (fun k _ => [(5, .int .i64 k), (4, .pointer (some ⟨b4, 0, none⟩)), (1, .int .i64 i), (0, .pointer (some ⟨mb, 0, none⟩))]) (fun _ _ => [(b4, Obj.cells (u8s Z8).toArray 33 (0, 0))]) 0 () (Nat.zero_le _) rfl ⟨rfl, rfl, rfl, rfl, trivial⟩ (List.Sublist.refl _) ?_
  intro k _ hk hno
  refine z_ ?_
  refine Run.a (vlo hc0) ?_
  by_cases hk' : k < l.length
  · obtain ⟨p, hp⟩ : ∃ p, l[k]? = some p := ⟨_, List.getElem?_eq_getElem hk'⟩
    obtain ⟨adA, cA', hv, hcA', hlA, hrA⟩ := hA.pos (by omega)
    cases hv
    have hcp := hrA k _ (lvA_at hp)
    refine z_ ?_
    refine Run.a (vlo hc0) ?_
    refine z_ ?_
    refine Run.a (vix k hk' (adA.add k) (ha := by show adA.add (k * 1) = _; rw [Nat.mul_one])) ?_
    refine Run.a (vlo hcp) ?_
    by_cases he : (p.1 : Int) = i
    · obtain ⟨adH, cH', hv, hcH', hlH, hrH⟩ := hH.pos (by omega)
      cases hv
      have hp8 := ok.h8 p (List.mem_of_getElem? hp)
      have hlf : lfI l i = p.2 := by
        unfold lfI
        have : l.find? (fun p => (p.1 : Int) == i) = some p := by
          conv => lhs; rw [← List.take_append_drop k l, List.find?_append, hno, List.drop_eq_getElem_cons hk', (List.getElem?_eq_some_iff.1 hp).2]
          rw [List.find?_cons, show ((p.1 : Int) == i) = true from by rw [he]; exact beq_self_eq_true i]
          rfl
        rw [this]
      have hload : ∀ j u, (u8s p.2)[j]? = some u → w.cell? ((adH.add (k * 8)).add j) = some u := fun j u hj => by
        rw [add_add]; exact hrH _ u (lvH_at ok hp j u hj)
      have sp : (u8s p.2).length = 8 := by rw [u8s_len, hp8.1]
      have sp2 : (u8s p.2).toArray.size = 8 := by rw [List.size_toArray, sp]
      rw [hlf]
      refine z_ ?_
      refine Run.a (vlo hc1) ?_
      refine z_ ?_
      refine Run.a (vix k hk' (adH.add (k * 8))) ?_
      refine Run.a (vloA hload sp) ?_
      refine Run.op1 (osa (u8s p.2).toArray (u8s_one _) (hs := sp2)) (fun _ => ?_)
      refine z_ ?_
      exact RQ.ret1 rfl (Res.cellAll tabOk rfl rfl rfl m0 sp2) fun w' hm => ⟨rfl, hm.fr⟩
    · refine z_ ?_
      refine RQ.up (k + 1) () (Nat.lt_succ_self _) hk' ?_ ⟨rfl, rfl, rfl, rfl, trivial⟩ (List.Sublist.refl _)
      rw [List.take_add_one, hp, Option.toList_some, List.find?_append, hno, List.find?_cons, show ((p.1 : Int) == i) = false from by rw [beq_eq_false_iff_ne]; exact he]
      rfl
  · have hk9 : k = l.length := by omega
    subst hk9
    rw [List.take_length] at hno
    have hlf : lfI l i = Z8 := by unfold lfI; rw [hno]
    rw [hlf]
    refine z_ ?_
    refine Run.a (vba (u8s Z8).toArray) ?_
    refine Run.op1 (osa (u8s Z8).toArray (u8s_one _)) (fun _ => ?_)
    refine z_ ?_
    exact RQ.ret1 rfl (Res.cellAll tabOk rfl rfl rfl m0 rfl) fun w' hm => ⟨rfl, hm.fr⟩
end Go.Proofs.YtfhdfpejjgmdcaaGreatDoor

/- sparse: the reference: Node, Top. -/
namespace Go.Proofs.YtfhdfpejjgmdcaaGreatDoor
attribute [local irreducible] Go.Vc.Run Go.Vc.RC Go.Vc.RQ Go.Vc.DR Go.Vc.DOp
open Go Go.Vc Go.Sha
theorem sh1 {q : Nat} (hq : q ≤ 16) : IntKind.i64.wrap (1 * 2 ^ min (q : Int).toNat IntKind.i64.bits) = ((2 ^ q : Nat) : Int) := by
  have h1 : min (q : Int).toNat IntKind.i64.bits = q := by rw [Int.toNat_natCast]; exact Nat.min_eq_left (by show q ≤ 64; omega)
  have h2 : 2 ^ q ≤ 2 ^ 16 := Nat.pow_le_pow_right (by decide) hq
  have h3 : (1 : Int) * 2 ^ q = ((2 ^ q : Nat) : Int) := by rw [Int.one_mul]; norm_cast
  rw [h1, h3]
  exact wrap_in (by dsimp only [inK]; generalize 2 ^ q = s at *; omega)
set_option maxRecDepth 10000 in set_option maxHeartbeats 4000000 in
theorem Node_calls (l : Lvs) (ok : LvOk l) (mb : Nat) (q : Nat) : ∀ (j : Nat), q ≤ 16 → (j + 1) * 2 ^ q ≤ 65536 → ∀ (w : World), LvW 96 w mb l →
    Gives Tryz.prog 58 [.pointer (some ⟨mb, 0, none⟩), .int .i64 ((j * 2 ^ q : Nat) : Int), .int .i64 q] (.agg (u8s (nodeF (lfF l) q j)).toArray) w := by
  induction q using Nat.strongRecOn with | _ q ih
  intro j hq hj w hw
  refine enter Tryz.func58 rfl (Mem.nil w []) rfl ?_
  obtain ⟨vA, vH, h0, hA, hH⟩ := hw.h
  obtain ⟨aA, cA, rfl, hcA⟩ := hA.shape
  have hc0 : w.cell? ⟨mb, 0, none⟩ = some (.slice aA l.length cA) := by rw [cell_of_row w mb 0 _ _ _ h0]; rfl
  have hll := ok.len
  have h8 := nodeF_8 (lfF_ok ok) q j
  obtain ⟨R, hR⟩ : ∃ R, R = nodeF (lfF l) q j := ⟨_, rfl⟩
  rw [← hR] at h8 ⊢
  have sR : (u8s R).toArray.size = 8 := by rw [List.size_toArray, u8s_len, h8.1]
  obtain ⟨S, hS⟩ : ∃ S, S = 2 ^ q := ⟨_, rfl⟩
  obtain ⟨B, hB⟩ : ∃ B, B = j * 2 ^ q := ⟨_, rfl⟩
  rw [← hB]
  have hBS : B + S ≤ 65536 := by rw [hB, hS]; rw [Nat.succ_mul] at hj; exact hj
  have hS' : Hd (S = 2 ^ q) := ⟨hS⟩
  have hB' : Hd (B = j * 2 ^ q) := ⟨hB⟩
  have hR' : Hd (R = nodeF (lfF l) q j) := ⟨hR⟩
  have hSp : 0 < S := by rw [hS]; exact Nat.pow_pos (by decide)
  have hsum : ∀ z : Int, z = q → IntKind.i64.wrap ((B : Int) + IntKind.i64.wrap (1 * 2 ^ min z.toNat IntKind.i64.bits)) = ((B + S : Nat) : Int) := by
    rintro z rfl
    rw [sh1 hq, wrap_in (by dsimp only [inK]; rw [← hS]; omega), hS]
    omega
  clear hS hB hR
  refine z_ ?_
  refine Run.nw nal ?_
  intro b6
  refine z_ ?_
  refine RC.up l.length (D := Unit) (fun _ _ => True) (fun k _ => [(8, .int .i64 k), (7, .bool ((l.take k).any fun p => decide (B ≤ p.1 ∧ p.1 < B + S))), (6, .pointer (some ⟨b6, 0, none⟩)), (2, .int .i64 q), (1, .int .i64 B), (0, .pointer (some ⟨mb, 0, none⟩))]) (fun _ _ => [(b6, Obj.cells (u8s Z8).toArray 33 (0, 0))]) 0 () (Nat.zero_le _) trivial ⟨rfl, rfl, rfl, rfl, rfl, rfl, trivial⟩ (List.Sublist.refl _) ?_
  intro k _ hk _
  obtain ⟨fl, hfl⟩ : ∃ fl, fl = (l.take k).any fun p => decide (B ≤ p.1 ∧ p.1 < B + S) := ⟨_, rfl⟩
  rw [← hfl]
  refine z_ ?_
  refine Run.a (vlo hc0) ?_
  by_cases hk' : k < l.length
  · obtain ⟨p, hp⟩ : ∃ p, l[k]? = some p := ⟨_, List.getElem?_eq_getElem hk'⟩
    obtain ⟨adA, cA', hv, hcA', hlA, hrA⟩ := hA.pos (by omega)
    cases hv
    have hcp := hrA k _ (lvA_at hp)
    have hnx : ((l.take (k + 1)).any fun p => decide (B ≤ p.1 ∧ p.1 < B + S)) = (fl || decide (B ≤ p.1 ∧ p.1 < B + S)) := by
      rw [List.take_add_one, hp, Option.toList_some, List.any_append, ← hfl]; simp
    cases fl with
    | true =>
      refine z_ ?_
      exact RQ.up (k + 1) () (Nat.lt_succ_self _) hk' trivial ⟨rfl, by rw [hnx]; rfl, rfl, rfl, rfl, rfl, trivial⟩ (List.Sublist.refl _)
    | false =>
      refine z_ ?_
      refine Run.a (vlo hc0) ?_
      refine z_ ?_
      refine Run.a (vix k hk' (adA.add k) (ha := by show adA.add (k * 1) = _; rw [Nat.mul_one])) ?_
      refine Run.a (vlo hcp) ?_
      by_cases h1 : B ≤ p.1
      · refine z_ ?_
        refine Run.a (vlo hc0) ?_
        refine z_ ?_
        refine Run.a (vix k hk' (adA.add k) (ha := by show adA.add (k * 1) = _; rw [Nat.mul_one])) ?_
        refine Run.a (vlo hcp) ?_
        refine z_ ?_
        rw [hsum _ rfl]
        have e2 : ((l.take (k + 1)).any fun p => decide (B ≤ p.1 ∧ p.1 < B + S)) = decide ((p.1 : Int) < ((B + S : Nat) : Int)) := by rw [hnx, Bool.false_or]; exact decide_eq_decide.2 (by omega)
        exact RQ.up (k + 1) () (Nat.lt_succ_self _) hk' trivial ⟨rfl, by rw [e2]; rfl, rfl, rfl, rfl, rfl, trivial⟩ (List.Sublist.refl _)
      · have e2 : ((l.take (k + 1)).any fun p => decide (B ≤ p.1 ∧ p.1 < B + S)) = false := by rw [hnx]; simp; omega
        refine z_ ?_
        exact RQ.up (k + 1) () (Nat.lt_succ_self _) hk' trivial ⟨rfl, by rw [e2]; rfl, rfl, rfl, rfl, rfl, trivial⟩ (List.Sublist.refl _)
  · have hk9 : k = l.length := by omega
    subst hk9
    rw [List.take_length] at hfl
    clear hk hk'
    cases fl with
    | false =>
      have hz : R = Z8 := by
        rw [hR'.h]
        refine nodeF_zero fun i hi => ?_
        unfold lfF lfI
        have : l.find? (fun p => (p.1 : Int) == (i : Int)) = none := by
          rw [List.find?_eq_none]
          intro p hp he
          have hpi : p.1 = i := by have := eq_of_beq he; omega
          have := List.any_eq_false.1 hfl.symm p hp
          rw [decide_eq_true_eq] at this
          apply this
          have h1 := Nat.div_add_mod i S
          have h2 := Nat.mod_lt i hSp
          rw [hB'.h, hpi, ← hi, ← hS'.h, Nat.mul_comm]
          omega
        rw [this]
      rw [hz]
      refine z_ ?_
      refine Run.a (vba (u8s Z8).toArray) ?_
      refine Run.op1 (osa (u8s Z8).toArray (u8s_one _)) (fun _ => ?_)
      refine z_ ?_
      exact RQ.ret1 rfl (Res.cellAll tabOk rfl rfl rfl m0 rfl) fun w' hm => ⟨rfl, hm.fr⟩
    | true =>
      clear hfl
      cases q with
      | zero =>
        have e : R = lfI l (B : Int) := by rw [hR'.h, hB'.h, Nat.pow_zero, Nat.mul_one]; rfl
        rw [e] at sR ⊢
        clear hR' hB' hS' ih hsum
        refine z_ ?_
        refine Run.op1 (OpTo.cv Tryz.func76 (fun w' hm => LGet_calls l ok mb (B : Int) w' (hw.fr hm.fr))) (fun _ => ?_)
        refine Run.op1 (osa (u8s (lfI l (B : Int))).toArray (u8s_one _) (hs := sR)) (fun _ => ?_)
        refine z_ ?_
        exact RQ.ret1 rfl (Res.cellAll tabOk rfl rfl rfl m0 sR) fun w' hm => ⟨rfl, hm.fr⟩
      | succ q =>
        obtain ⟨T, hT⟩ : ∃ T, T = 2 ^ q := ⟨_, rfl⟩
        have hB := hB'.h
        have c1 := fun w' hw' => ih q (Nat.lt_succ_self _) (2 * j) (by omega) (by rw [Nat.pow_succ] at hj; rw [← hT] at hj ⊢; rw [Nat.succ_mul] at hj ⊢; rw [show 2 * j * T = j * (T * 2) by rw [Nat.mul_comm 2 j, Nat.mul_assoc, Nat.mul_comm 2 T]]; omega) w' hw'
        have c2 := fun w' hw' => ih q (Nat.lt_succ_self _) (2 * j + 1) (by omega) (by rw [Nat.pow_succ] at hj; rw [← hT] at hj ⊢; rw [show (2 * j + 1 + 1) * T = (j + 1) * (T * 2) by rw [show 2 * j + 1 + 1 = (j + 1) * 2 by omega, Nat.mul_assoc, Nat.mul_comm 2 T]]; omega) w' hw'
        have eB : 2 * j * 2 ^ q = B := by rw [hB, Nat.pow_succ, Nat.mul_comm 2 j, Nat.mul_assoc, Nat.mul_comm 2]
        have eB2 : (2 * j + 1) * 2 ^ q = B + T := by rw [Nat.succ_mul, eB, ← hT]
        rw [eB] at c1
        rw [eB2] at c2
        have a1 := nodeF_8 (lfF_ok ok) q (2 * j)
        have a2 := nodeF_8 (lfF_ok ok) q (2 * j + 1)
        have eR : R = overH (nodeF (lfF l) q (2 * j)) (nodeF (lfF l) q (2 * j + 1)) := hR'.h
        generalize nodeF (lfF l) q (2 * j) = N1 at c1 a1 eR
        generalize nodeF (lfF l) q (2 * j + 1) = N2 at c2 a2 eR
        have s1 : (u8s N1).toArray.size = 8 := by rw [List.size_toArray, u8s_len, a1.1]
        have s2 : (u8s N2).toArray.size = 8 := by rw [List.size_toArray, u8s_len, a2.1]
        have hTS : T ≤ S := by rw [hT, hS'.h]; exact Nat.pow_le_pow_right (by decide) (Nat.le_succ _)
        have hsh : IntKind.i64.wrap ((1 * 2 ^ q : Nat) : Int) = ((T : Nat) : Int) := by
          rw [Nat.one_mul, ← hT]
          exact wrap_in (by dsimp only [inK]; omega)
        clear hB hB' hR' hS' eB eB2 hT ih hj
        refine z_ ?_
        rw [show ((q + 1 : Nat) : Int) - 1 = (q : Int) from by omega]
        refine Run.op1 (OpTo.cv Tryz.func58 (fun w' hm => c1 w' (hw.fr hm.fr))) (fun _ => ?_)
        refine z_ ?_
        rw [show ((q + 1 : Nat) : Int) - 1 = (q : Int) from by omega]
        refine Run.a (Val.eq (Val.shl (a := 1) (m := q) rfl rfl rfl (by show _ ≤ 64; omega)) (show _ = Value.int .i64 ((T : Nat) : Int) from congrArg (Value.int .i64) hsh)) ?_
        refine z_ ?_
        rw [show ((q + 1 : Nat) : Int) - 1 = (q : Int) from by omega, show (B : Int) + (T : Int) = ((B + T : Nat) : Int) from by omega]
        refine Run.op1 (OpTo.cv Tryz.func58 (fun w' hm => c2 w' (hw.fr hm.fr))) (fun _ => ?_)
        refine Run.nw nal ?_
        intro b9
        refine Run.nw nal ?_
        intro b10
        refine Run.op1 (osa (u8s N1).toArray (u8s_one _) (hs := s1)) (fun _ => ?_)
        refine Run.op1 (osa (u8s N2).toArray (u8s_one _) (hs := s2)) (fun _ => ?_)
        refine z_ ?_
        refine Run.a (vla (hv := s1)) ?_
        refine Run.a (vla (hv := s2)) ?_
        refine Run.op1 (OpTo.cv Tryz.func77 (fun w' hm => Over_calls N1 N2 a1 a2 w')) (fun _ => ?_)
        rw [← eR]
        refine Run.op1 (osa (u8s R).toArray (u8s_one _) (hs := sR)) (fun _ => ?_)
        refine z_ ?_
        exact RQ.ret1 rfl (Res.cellAll tabOk rfl rfl rfl m0 sR) fun w' hm => ⟨rfl, hm.fr⟩
set_option maxRecDepth 10000 in set_option maxHeartbeats 4000000 in
theorem Top_calls (l : Lvs) (ok : LvOk l) (mb : Nat) (w : World) (hw : LvW 96 w mb l) :
    Gives Tryz.prog 48 [.pointer (some ⟨mb, 0, none⟩)] (.agg (u8s (nodeF (lfF l) 16 0)).toArray) w := by
  refine enter Tryz.func48 rfl (Mem.nil w []) rfl ?_
  have h8 := nodeF_8 (lfF_ok ok) 16 0
  have c1 := fun w' hw' => Node_calls l ok mb 16 0 (Nat.le_refl _) (by decide) w' hw'
  generalize nodeF (lfF l) 16 0 = R at h8 c1 ⊢
  have sR : (u8s R).toArray.size = 8 := by rw [List.size_toArray, u8s_len, h8.1]
  refine z_ ?_
  refine Run.nw nal ?_
  intro b2
  refine z_ ?_
  refine Run.op1 (OpTo.cv Tryz.func58 (fun w' hm => c1 w' (hw.fr hm.fr))) (fun _ => ?_)
  refine Run.op1 (osa (u8s R).toArray (u8s_one _) (hs := sR)) (fun _ => ?_)
  refine z_ ?_
  exact RQ.ret1 rfl (Res.cellAll tabOk rfl rfl rfl m0 sR) fun w' hm => ⟨rfl, hm.fr⟩
end Go.Proofs.YtfhdfpejjgmdcaaGreatDoor

/- sparse: the reference: ProveLeaf, CheckLeaf. -/
namespace Go.Proofs.YtfhdfpejjgmdcaaGreatDoor
attribute [local irreducible] Go.Vc.Run Go.Vc.RC Go.Vc.RQ Go.Vc.DR Go.Vc.DOp
open Go Go.Vc Go.Sha
theorem sib_room {i k : Nat} (hi : i < 65536) (hk : k < 16) : (sib i k + 1) * 2 ^ k ≤ 65536 := by
  unfold sib
  have e : 2 ^ k * 2 ^ (16 - k) = 65536 := by rw [← Nat.pow_add, show k + (16 - k) = 16 by omega]
  have h1 : i / 2 ^ k < 2 ^ (16 - k) := by
    rw [Nat.div_lt_iff_lt_mul (Nat.pow_pos (by decide)), Nat.mul_comm, e]; exact hi
  have h2 : i / 2 ^ k ^^^ 1 < 2 ^ (16 - k) := Nat.xor_lt_two_pow h1 (Nat.one_lt_two_pow (by omega))
  have h3 : (i / 2 ^ k ^^^ 1) + 1 ≤ 2 ^ (16 - k) := h2
  have := Nat.mul_le_mul_right (2 ^ k) h3
  rwa [Nat.mul_comm (2 ^ (16 - k)), e] at this
set_option maxRecDepth 10000 in set_option maxHeartbeats 4000000 in
theorem ProveLeaf_calls (l : Lvs) (ok : LvOk l) (mb : Nat) (i : Int) (w : World) (hw : LvW 96 w mb l) :
    Gives Tryz.prog 24 [.pointer (some ⟨mb, 0, none⟩), .int .i64 i] (.tuple #[.agg (u8s (prfT (nodeF (lfF l)) i)).toArray, .bool (inB i)]) w := by
  refine enter Tryz.func24 rfl (Mem.nil w []) rfl ?_
  have h8 : ∀ q j, (nodeF (lfF l) q j).length = 8 := fun q j => (nodeF_8 (lfF_ok ok) q j).1
  have hlp := prfT_len h8 i
  have hsp : (u8s (prfT (nodeF (lfF l)) i)).toArray.size = 128 := by rw [List.size_toArray, u8s_len, hlp]
  have hnd := fun j q => Node_calls l ok mb q j
  generalize nodeF (lfF l) = nf at h8 hlp hsp hnd ⊢
  refine z_ ?_
  refine Run.nw nal ?_
  intro b4
  refine z_ ?_
  refine Run.nw nal ?_
  intro b6
  by_cases h0 : 0 ≤ i
  case neg =>
    have e1 : inB i = false := decide_eq_false (by omega)
    have e2 : prfT nf i = List.replicate 128 0 := by unfold prfT; rw [e1]; rfl
    rw [e1]
    rw [e2] at hsp ⊢
    refine z_ ?_
    refine Run.op1 (osa (arr := (u8s (List.replicate 128 0)).toArray) (u8s (List.replicate 128 0)).toArray (u8s_one _) (hL := p1) (hs := hsp) (hf := by kernel_rfl)) (fun _ => ?_)
    refine z_ ?_
    exact RQ.ret2 rfl (Res.cellAll tabOk rfl rfl rfl m0 hsp) (Res.tmp rfl) fun w' hm => ⟨rfl, hm.fr⟩
  by_cases hi9 : i < 65536
  case neg =>
    have e1 : inB i = false := decide_eq_false (by omega)
    have e2 : prfT nf i = List.replicate 128 0 := by unfold prfT; rw [e1]; rfl
    rw [e1]
    rw [e2] at hsp ⊢
    refine z_ ?_
    refine Run.op1 (osa (arr := (u8s (List.replicate 128 0)).toArray) (u8s (List.replicate 128 0)).toArray (u8s_one _) (hL := p1) (hs := hsp) (hf := by kernel_rfl)) (fun _ => ?_)
    refine z_ ?_
    exact RQ.ret2 rfl (Res.cellAll tabOk rfl rfl rfl m0 hsp) (Res.tmp rfl) fun w' hm => ⟨rfl, hm.fr⟩
  refine z_ ?_
  obtain ⟨i, rfl⟩ := Int.eq_ofNat_of_zero_le h0
  have hi16 : i < 65536 := by omega
  have e1 : inB (i : Int) = true := decide_eq_true (by omega)
  have e2 : prfT nf (i : Int) = rowOf (fun k => nf k (sib i k)) 16 := by unfold prfT; rw [e1]; rfl
  rw [e1]
  rw [e2] at hsp ⊢
  obtain ⟨f, hf⟩ : ∃ f : Nat → List Nat, f = fun k => nf k (sib i k) := ⟨_, rfl⟩
  have hf8 : ∀ k, (f k).length = 8 := fun k => by rw [hf]; exact h8 _ _
  rw [← hf] at hsp ⊢
  refine RC.up 16 (D := Unit) (fun _ _ => True) (fun k _ => [(7, .int .i64 k), (6, .pointer (some ⟨b6, 0, none⟩)), (4, .pointer (some ⟨b4, 0, none⟩)), (1, .int .i64 i), (0, .pointer (some ⟨mb, 0, none⟩))]) (fun k _ => [(b6, Obj.cells (u8s (rowOf f k ++ List.replicate ((16 - k) * 8) 0)).toArray 36 (0, 0)), (b4, Obj.cells (u8s (List.replicate 128 0)).toArray 36 (0, 0))]) 0 () (Nat.zero_le _) trivial ⟨rfl, rfl, rfl, rfl, rfl, trivial⟩ (List.Sublist.refl _) ?_
  intro k _ hk _
  (repeat refine RC.seq ?_); refine RC.region ?_
  refine Run.a (Val.of rfl) ?_
  refine Run.a (Val.of rfl) ?_
  refine Run.nil (RQ.next ?_)
  (repeat refine RC.seq ?_); refine RC.wh rfl (fun h => RQ.next ?_) (fun h => ?_)
  · have hk' : k < 16 := by have := of_decide_eq_true h; omega
    clear h
    have hrl := rowOf_len hf8 k
    have hsk : (u8s (f k)).toArray.size = 8 := by rw [List.size_toArray, u8s_len, hf8]
    have hwr := wr_next (rowOf f k) (f k) ((16 - (k + 1)) * 8)
    rw [hf8, hrl, show 8 + (16 - (k + 1)) * 8 = (16 - k) * 8 by omega] at hwr
    have hv := shr_nat (a := i) (k := k) (by omega)
    have hik : i / 2 ^ k < 65536 := Nat.lt_of_le_of_lt (Nat.div_le_self _ _) hi16
    have hx := xor1 hik
    have hrm := sib_room hi16 hk'
    have c1 := fun w' hw' => hnd (sib i k) k (by omega) hrm w' hw'
    rw [show nf k (sib i k) = f k from by rw [hf]] at c1
    have hsi : i / 2 ^ k ^^^ 1 = sib i k := rfl
    have hsb : sib i k < 65536 := Nat.xor_lt_two_pow (n := 16) hik (by decide)
    rw [hsi] at hx
    generalize sib i k = sb at hrm c1 hx hsb
    have hpw : sb * 2 ^ k ≤ 65536 := Nat.le_trans (Nat.mul_le_mul_right _ (Nat.le_succ _)) hrm
    have hsh : IntKind.i64.wrap ((sb : Int) * 2 ^ min (k : Int).toNat IntKind.i64.bits) = ((sb * 2 ^ k : Nat) : Int) := by
      have h1 : min (k : Int).toNat IntKind.i64.bits = k := by rw [Int.toNat_natCast]; exact Nat.min_eq_left (by show k ≤ 64; omega)
      have h3 : (sb : Int) * 2 ^ k = ((sb * 2 ^ k : Nat) : Int) := by rw [Int.natCast_mul, Int.natCast_pow]; rfl
      rw [h1, h3]
      exact wrap_in (by dsimp only [inK]; omega)
    generalize i / 2 ^ k = ik at hv hx hik
    obtain ⟨SB, hSB⟩ : ∃ SB, SB = sb * 2 ^ k := ⟨_, rfl⟩
    clear hsi hf hrm hnd
    rw [← hSB] at c1 hsh hpw
    clear hSB
    refine z_ ?_
    rw [hv]
    refine z_ ?_
    rw [hx, hsh]
    refine Run.op1 (OpTo.cv Tryz.func58 (fun w' hm => c1 w' (hw.fr hm.fr))) (fun _ => ?_)
    refine Run.a (via k (k * 8) (ha := by show 0 + k * 8 = k * 8; omega) (hj := hk')) ?_
    refine Run.op1 (ost (ti := ti33) (L' := [(b4, Obj.cells (u8s (List.replicate 128 0)).toArray 36 (0, 0))]) (v := .agg (u8s (f k)).toArray) (arr := (u8s (rowOf f k ++ List.replicate ((16 - k) * 8) 0)).toArray) (u8s (rowOf f (k + 1) ++ List.replicate ((16 - (k + 1)) * 8) 0)).toArray (by simpa [Value.cells, rowOf] using hwr) (by rw [List.size_toArray, u8s_len, List.length_append, hrl, List.length_replicate]; show k * 8 + 8 ≤ k * 8 + (16 - k) * 8; omega) (fun u hu => u8s_one (f k) u (by simpa [Value.cells] using hu)) (hs := hsk)) (fun _ => ?_)
    refine z_ ?_
    exact RQ.upS (k + 1) () (Nat.lt_succ_self _) hk' trivial ⟨rfl, rfl, rfl, rfl, rfl, trivial⟩ (List.Perm.refl _) (List.Sublist.refl _)
  · have hk' : k = 16 := by have := of_decide_eq_false h; omega
    subst hk'
    rw [show (16 - 16) * 8 = 0 from rfl, List.replicate_zero, List.append_nil]
    generalize rowOf f 16 = R at hsp ⊢
    clear hlp
    (repeat refine RQ.thenExit ?_); refine RQ.blockHere ?_
    refine RQ.next ?_
    (repeat refine RC.seq ?_); refine RC.region ?_
    refine Run.a (vla (arr := (u8s R).toArray) (hv := hsp)) ?_
    refine Run.op1 (osa (arr := (u8s (List.replicate 128 0)).toArray) (u8s R).toArray (u8s_one _) (hL := p1) (hs := hsp) (hf := by kernel_rfl)) (fun _ => ?_)
    refine z_ ?_
    exact RQ.ret2 rfl (Res.cellAll tabOk rfl rfl rfl m0 hsp) (Res.tmp rfl) fun w' hm => ⟨rfl, hm.fr⟩
end Go.Proofs.YtfhdfpejjgmdcaaGreatDoor

/- sparse: the reference: Put. -/
namespace Go.Sha
open Go.Vc
def stepL (i : Nat) (h : List Nat) (s : Lvs × Bool) (p : Nat × List Nat) : Lvs × Bool :=
  if p.1 = i then (if s.2 = false ∧ i ≤ p.1 then (s.1 ++ [(i, h)], true) else s)
  else ((if s.2 = false ∧ i ≤ p.1 then (s.1 ++ [(i, h)], true) else s).1 ++ [p], (if s.2 = false ∧ i ≤ p.1 then (s.1 ++ [(i, h)], true) else s).2)
def goL (i : Nat) (h : List Nat) (l : Lvs) : Lvs × Bool := l.foldl (stepL i h) ([], decide (h = Z8))
def putL (l : Lvs) (i : Int) (h : List Nat) : Lvs :=
  if 0 ≤ i ∧ i < 65536 then (if (goL i.toNat h l).2 then (goL i.toNat h l).1 else (goL i.toNat h l).1 ++ [(i.toNat, h)]) else l
theorem lvA_app (a b : Lvs) : lvA (a ++ b) = lvA a ++ lvA b := by unfold lvA; rw [List.map_append]
theorem lvH_app (a b : Lvs) : lvH (a ++ b) = lvH a ++ lvH b := by unfold lvH; rw [List.map_append, List.flatten_append]
theorem i64L_app (a b : List Int) : i64L (a ++ b) = i64L a ++ i64L b := by unfold i64L; rw [List.map_append]
end Go.Sha
namespace Go.Vc
open Go Go.Sha
theorem Own.rd {e : TypeId} {sz m c m' : Nat} {ad : Addr} {cs : List Value} {bl : Hp} (h : Own e sz (.slice (some ad) m c) m' cs bl) {w : World} (hb : ∀ p ∈ bl, w.heap[p.1]? = some p.2) : ∀ j u, cs[j]? = some u → w.cell? (ad.add j) = some u := by
  cases h with
  | row b n cap cs rest h1 h2 hn hc =>
    intro j u hj
    rw [add_lit, cell_of_row w b (0 + j) _ _ _ (hb _ List.mem_cons_self), Nat.zero_add, List.getElem?_toArray, List.getElem?_append_left (List.getElem?_eq_some_iff.1 hj).1]
    exact hj
theorem Own.adr {e : TypeId} {sz m c m' : Nat} {a : Option Addr} {cs : List Value} {bl : Hp} (h : Own e sz (.slice a m c) m' cs bl) (hm : 0 < m) : ∃ ad, a = some ad := by
  cases h with
  | nil => omega
  | row b n cap cs rest h1 h2 hn hc => exact ⟨_, rfl⟩
theorem Val.loadC1 {P : Program} {n : Nat} {w0 : World} {S0 : List Nat} {E : Env} {L : Hp} {o : Oper} {t : Nat} {ti : TI} {T : List (Nat × TI)} (hT : TabOk P T) {x : Operand} {ad : Addr} {v : Value} (ho : o.op = .load t x) (ht : tiGet T t = some ti)
    (hx : lk E x = some (.pointer (some ad))) (ha : TypeDesc.agg ti.desc = false) (hr : ∀ w, Mem w0 S0 L w → w.cell? ad = some v) : Val P n w0 S0 E L o v := by
  intro a w hs hmem
  have := run_loadVar_one (P := P) (hT _ _ ht) ha w ad v (hr w hmem)
  simp [execOp, ho, hs.eval hx, Instr.loadAt, Instr.sureAddr, this]
/-- Leaves in memory, with their blocks. -/
structure OwL (ti th : TypeId) where
  r : Lvs
  vA : Value
  vH : Value
  bA : Hp
  bH : Hp
  hA : Own ti 1 vA r.length (i64L (lvA r)) bA
  hH : Own th 8 vH r.length (u8s (lvH r)) bH
def OwL.L {ti th : TypeId} (tL : TypeId) (mb : Nat) (x : OwL ti th) : Hp := (mb, .cells #[x.vA, x.vH] tL (0, 0)) :: (x.bA ++ x.bH)
def OwL.snoc {ti th : TypeId} (d : OwL ti th) (a : Nat) (h : List Nat) {vA vH : Value} {bA bH : Hp} (hA : Own ti 1 vA (d.r.length + 1) (i64L (lvA d.r) ++ [.int .i64 (a : Int)]) bA) (hH : Own th 8 vH (d.r.length + 1) (u8s (lvH d.r) ++ u8s h) bH) : OwL ti th :=
  ⟨d.r ++ [(a, h)], vA, vH, bA, bH, by rw [List.length_append, lvA_app, i64L_app]; exact hA, by rw [List.length_append, lvH_app, u8s_app]; simpa [lvH] using hH⟩
theorem OwL.vAc {ti th : TypeId} (x : OwL ti th) : x.vA.cells = #[x.vA] := by obtain ⟨a, c, h, _⟩ := x.hA.shape; rw [h]; rfl
theorem OwL.vHc {ti th : TypeId} (x : OwL ti th) : x.vH.cells = #[x.vH] := by obtain ⟨a, c, h, _⟩ := x.hH.shape; rw [h]; rfl
theorem OwL.vA1 {ti th : TypeId} (x : OwL ti th) : ∀ u ∈ (#[x.vA] : Array Value).toList, u.oneCell' = true := by
  intro u hu
  obtain ⟨a, c, h, _⟩ := x.hA.shape
  rw [h] at hu
  simp at hu
  subst hu; rfl
theorem OwL.vH1 {ti th : TypeId} (x : OwL ti th) : ∀ u ∈ (#[x.vH] : Array Value).toList, u.oneCell' = true := by
  intro u hu
  obtain ⟨a, c, h, _⟩ := x.hH.shape
  rw [h] at hu
  simp at hu
  subst hu; rfl
theorem OwL.lvW {ti th tL : TypeId} {mb : Nat} (x : OwL ti th) {w : World} (hw : Has (x.L tL mb) w) : LvW tL w mb x.r :=
  ⟨x.vA, x.vH, hw _ List.mem_cons_self, x.hA.srcW fun p hp => hw p (List.mem_cons_of_mem _ (List.mem_append_left _ hp)), x.hH.srcW fun p hp => hw p (List.mem_cons_of_mem _ (List.mem_append_right _ hp))⟩
end Go.Vc
namespace Go.Proofs.YtfhdfpejjgmdcaaGreatDoor
attribute [local irreducible] Go.Vc.Run Go.Vc.RC Go.Vc.RQ Go.Vc.DR Go.Vc.DOp
open Go Go.Vc Go.Sha
abbrev OwT := OwL 3 33
abbrev LvL (mb : Nat) (x : OwT) : Hp := x.L 96 mb
set_option maxRecDepth 10000 in set_option maxHeartbeats 4000000 in
theorem LPut_calls (x : OwT) (hok : LvOk x.r) (mb : Nat) (i : Int) (h : List Nat) (hh : H8 h) (w : World) (hw : Has (LvL mb x) w) (hnd : ((LvL mb x).map (·.1)).Nodup) :
    Turns Tryz.prog 56 [.pointer (some ⟨mb, 0, none⟩), .int .i64 i, .agg (u8s h).toArray] w (LvL mb x) (Y := {y : OwT // y.r = putL x.r i h}) (fun _ => .bool (decide (0 ≤ i ∧ i < 65536))) (fun y => LvL mb y.1) := by
  refine enter Tryz.func56 rfl (Mem.init (S0 := (LvL mb x).map (·.1)) hw (fun p hp => List.mem_map_of_mem hp) hnd) rfl ?_
  have hsz : (u8s h).toArray.size = 8 := by rw [List.size_toArray, u8s_len, hh.1]
  have hl8 : (u8s h).length = 8 := by rw [u8s_len, hh.1]
  have hll := hok.len
  refine z_ ?_
  refine Run.nw nbx ?_
  intro b5
  by_cases h0 : 0 ≤ i
  case neg =>
    have e : putL x.r i h = x.r := if_neg (fun h => h0 h.1)
    rw [decide_eq_false (fun h => h0 h.1)]
    refine z_ ?_
    exact RQ.ret1 rfl (Res.tmp rfl) fun w' hm => Turns.of (Y := {y : OwT // y.r = putL x.r i h}) (V := fun _ => .bool false) (L' := fun y => LvL mb y.1) (Lst := LvL mb x) ⟨x, e.symm⟩ hm (Lr := [(b5, Obj.cells (u8s h).toArray 33 (0, 0))]) (perm_of fun f => by (simp only [List.map_append, List.map_cons, List.map_nil, List.sum_append, List.sum_cons, List.sum_nil] <;> omega))
  by_cases hi9 : i < 65536
  case neg =>
    have e : putL x.r i h = x.r := if_neg (fun h => hi9 h.2)
    rw [decide_eq_false (fun h => hi9 h.2)]
    refine z_ ?_
    exact RQ.ret1 rfl (Res.tmp rfl) fun w' hm => Turns.of (Y := {y : OwT // y.r = putL x.r i h}) (V := fun _ => .bool false) (L' := fun y => LvL mb y.1) (Lst := LvL mb x) ⟨x, e.symm⟩ hm (Lr := [(b5, Obj.cells (u8s h).toArray 33 (0, 0))]) (perm_of fun f => by (simp only [List.map_append, List.map_cons, List.map_nil, List.sum_append, List.sum_cons, List.sum_nil] <;> omega))
  have e : putL x.r i h = if (goL i.toNat h x.r).2 then (goL i.toNat h x.r).1 else (goL i.toNat h x.r).1 ++ [(i.toNat, h)] := if_pos ⟨h0, hi9⟩
  rw [decide_eq_true ⟨h0, hi9⟩]
  refine z_ ?_
  refine Run.a (vla (hv := hsz)) ?_
  refine Run.op1 (OpTo.cv Tryz.func45 (fun w' _ => refZ_calls h hh.1 w')) (fun _ => ?_)
  refine z_ ?_
  obtain ⟨i, rfl⟩ := Int.eq_ofNat_of_zero_le h0
  rw [Int.toNat_natCast] at e
  rw [e]
  clear e
  obtain ⟨l, vA, vH, bA, bH, hA, hH⟩ := x
  dsimp only [OwL.L] at hw hnd hok hll ⊢
  obtain ⟨aA, cA, rfl, hcA⟩ := hA.shape
  obtain ⟨aH, cH, rfl, hcH⟩ := hH.shape
  obtain ⟨R, hR⟩ : ∃ R : Hp, R = (b5, Obj.cells (u8s h).toArray 33 (0, 0)) :: (mb, Obj.cells #[.slice aA l.length cA, .slice aH l.length cH] 96 (0, 0)) :: (bA ++ bH) := ⟨_, rfl⟩
  refine RC.up l.length (D := OwT × Bool) (fun k d => (d.1.r, d.2) = goL i h (l.take k) ∧ d.1.r.length ≤ 2 * k) (fun k d => [(10, .int .i64 k), (9, .bool d.2), (8, d.1.vH), (7, d.1.vA), (5, .pointer (some ⟨b5, 0, none⟩)), (1, .int .i64 i), (0, .pointer (some ⟨mb, 0, none⟩))]) (fun k d => d.1.bA ++ (d.1.bH ++ ((b5, Obj.cells (u8s h).toArray 33 (0, 0)) :: (mb, Obj.cells #[.slice aA l.length cA, .slice aH l.length cH] 96 (0, 0)) :: (bA ++ bH)))) 0 (⟨[], .slice none 0 0, .slice none 0 0, [], [], Own.nil, Own.nil⟩, decide (h = Z8)) (Nat.zero_le _) ⟨rfl, Nat.zero_le _⟩ ⟨rfl, rfl, rfl, rfl, rfl, rfl, rfl, trivial⟩ (List.Sublist.refl _) ?_
  rintro k ⟨d, dn⟩ hk ⟨hgo, hdl⟩
  dsimp only at hgo hdl ⊢
  (repeat refine RC.seq ?_); refine RC.region ?_
  refine Run.a (Val.of rfl) ?_
  refine Run.a (Val.of rfl) ?_
  refine Run.a (Val.of rfl) ?_
  refine Run.a vf0 ?_
  refine Run.a (vl (.slice aA l.length cA) (arr := #[.slice aA l.length cA, .slice aH l.length cH]) (hm := (by repeat (first | exact List.mem_cons_self | apply List.mem_cons_of_mem | apply List.mem_append_right)))) ?_
  refine Run.a (vlen) ?_
  refine Run.a (Val.of rfl) ?_
  refine Run.nil (RQ.next ?_)
  (repeat refine RC.seq ?_); refine RC.wh rfl (fun h => RQ.next ?_) (fun h => ?_)
  · have hk' : k < l.length := by have := of_decide_eq_true h; omega
    clear h
    obtain ⟨p, hp⟩ : ∃ p, l[k]? = some p := ⟨_, List.getElem?_eq_getElem hk'⟩
    obtain ⟨adA, rfl⟩ := hA.adr (by omega)
    obtain ⟨adH, rfl⟩ := hH.adr (by omega)
    have hp8 := hok.h8 p (List.mem_of_getElem? hp)
    have sp : (u8s p.2).length = 8 := by rw [u8s_len, hp8.1]
    have rA : ∀ {S0 : List Nat} {L : Hp}, (∀ q ∈ bA, q ∈ L) → ∀ w', Mem w S0 L w' → w'.cell? (adA.add k) = some (.int .i64 p.1) := fun hL w' hm => hA.rd (fun q hq => hm.has q (hL q hq)) k _ (lvA_at hp)
    have rH : ∀ {S0 : List Nat} {L : Hp}, (∀ q ∈ bH, q ∈ L) → ∀ w', Mem w S0 L w' → ∀ j u, (u8s p.2)[j]? = some u → w'.cell? ((adH.add (k * 8)).add j) = some u := fun hL w' hm j u hj => by
      rw [add_add]; exact hH.rd (fun q hq => hm.has q (hL q hq)) _ u (lvH_at hok hp j u hj)
    have hnx : goL i h (l.take (k + 1)) = stepL i h (d.r, dn) p := by
      unfold goL at hgo ⊢
      rw [List.take_add_one, hp, Option.toList_some, List.foldl_append, ← hgo]; rfl
    obtain ⟨st, hst⟩ : ∃ st : Lvs × Bool, st = if dn = false ∧ i ≤ p.1 then (d.r ++ [(i, h)], true) else (d.r, dn) := ⟨_, rfl⟩
    refine RC.seq ?_
    refine RC.block ?_
    refine RC.seq ?_
    refine RC.thenCut (Y := {y : OwT // (y.r, st.2) = st}) (fun y => [(10, .int .i64 k), (9, .bool st.2), (8, y.1.vH), (7, y.1.vA), (5, .pointer (some ⟨b5, 0, none⟩)), (1, .int .i64 i), (0, .pointer (some ⟨mb, 0, none⟩))]) (fun y => y.1.bA ++ (y.1.bH ++ ((b5, Obj.cells (u8s h).toArray 33 (0, 0)) :: (mb, Obj.cells #[.slice (some adA) l.length cA, .slice (some adH) l.length cH] 96 (0, 0)) :: (bA ++ bH)))) ?_ ?_
    · cases dn with
      | true =>
        have e1 : st = (d.r, true) := by rw [hst, if_neg (by simp)]
        refine z_ ?_
        exact RQ.toP (⟨d, by rw [e1]⟩ : {y : OwT // (y.r, st.2) = st}) ⟨rfl, by rw [e1]; rfl, rfl, rfl, rfl, rfl, rfl, trivial⟩ (List.Perm.refl _) (List.Sublist.refl _)
      | false =>
        (repeat refine RC.seq ?_); refine RC.region ?_
        refine Run.a (Val.of rfl) ?_
        refine Run.a (Val.of rfl) ?_
        refine Run.a (Val.of rfl) ?_
        refine Run.a (Val.of rfl) ?_
        refine Run.a (Val.of rfl) ?_
        refine Run.a vf0 ?_
        refine Run.a (vl (.slice (some adA) l.length cA) (arr := #[.slice (some adA) l.length cA, .slice (some adH) l.length cH]) (hm := (by repeat (first | exact List.mem_cons_self | apply List.mem_cons_of_mem | apply List.mem_append_right)))) ?_
        refine Run.a (Val.of rfl) ?_
        refine Run.a (vix k hk' (adA.add k) (ha := by show adA.add (k * 1) = _; rw [Nat.mul_one])) ?_
        refine Run.a (Val.loadC1 tabOk rfl rfl rfl rfl (rA (fun q hq => by repeat (first | exact hq | exact List.mem_append_left _ hq | exact List.mem_append_right _ hq | apply List.mem_cons_of_mem | apply List.mem_append_right)))) ?_
        by_cases h1 : i ≤ p.1
        · have e1 : st = (d.r ++ [(i, h)], true) := by rw [hst, if_pos ⟨rfl, h1⟩]
          refine z_ ?_
          (repeat refine RC.seq ?_); refine RC.draw ((b5, Obj.cells (u8s h).toArray 33 (0, 0)) :: (mb, Obj.cells #[.slice (some adA) l.length cA, .slice (some adH) l.length cH] 96 (0, 0)) :: (bA ++ bH)) mixed (N := 11) rfl ?_
          refine dt 0 ?_
          refine dt 1 ?_
          refine dt 4 ?_
          refine DR.t 5 rfl (vla (hv := hsz)) ?_
          refine DR.two (i := 2) (j := 6) (by kernel_rfl) ?_ ?_
          · refine DOp.op1 rfl (OpTo.new rfl rfl (nbsl #[.int .i64 (i : Int)] (by kernel_rfl))) ?_
            intro s1
            refine DR.two (i := 3) (j := 6) (by kernel_rfl) ?_ ?_
            · refine DOp.op1 rfl (OpTo.append (L1 := (s1, Obj.cells #[.int .i64 (i : Int)] 3 (0, 0)) :: (d.bH ++ ((b5, Obj.cells (u8s h).toArray 33 (0, 0)) :: (mb, Obj.cells #[.slice (some adA) l.length cA, .slice (some adH) l.length cH] 96 (0, 0)) :: (bA ++ bH)))) tabOk d.hA (Src.at ⟨s1, 0, none⟩ 1 1 [.int .i64 (i : Int)] rfl (Rd.rowAll (arr := #[.int .i64 (i : Int)]) (e := 3) (fz := (0, 0)) (by repeat (first | exact List.mem_cons_self | apply List.mem_cons_of_mem | apply List.mem_append_right)))) rfl rfl rfl rfl rfl rfl rfl rfl rfl (perm_of fun f => by (simp only [List.map_append, List.map_cons, List.map_nil, List.sum_append, List.sum_cons, List.sum_nil] <;> omega)) (by simp [Value.oneCell']) (by unfold maxLen; omega) (by simp only [ti3]; omega)) ?_
              rintro ⟨⟨vA1, bA1⟩, hA1⟩
              dsimp only at hA1 ⊢
              refine DR.c 6 ?_
              refine DOp.op1 rfl (OpTo.new rfl rfl (nbsl (u8s h).toArray (fillS_1 8 _ (u8s h) hl8))) ?_
              intro s2
              refine DR.c 7 (DOp.op1 rfl (OpTo.append (L1 := (s2, Obj.cells (u8s h).toArray 33 (0, 0)) :: (bA1 ++ ((s1, Obj.cells #[.int .i64 (i : Int)] 3 (0, 0)) :: ((b5, Obj.cells (u8s h).toArray 33 (0, 0)) :: (mb, Obj.cells #[.slice (some adA) l.length cA, .slice (some adH) l.length cH] 96 (0, 0)) :: (bA ++ bH))))) tabOk d.hH (Src.at ⟨s2, 0, none⟩ 1 1 (u8s h) (by rw [hl8]; rfl) (Rd.rowAll (arr := (u8s h).toArray) (e := 33) (fz := (0, 0)) (by repeat (first | exact List.mem_cons_self | apply List.mem_cons_of_mem | apply List.mem_append_right)))) rfl rfl rfl rfl rfl rfl rfl rfl rfl (perm_of fun f => by (simp only [List.map_append, List.map_cons, List.map_nil, List.sum_append, List.sum_cons, List.sum_nil] <;> omega)) (u8s_one _) (by unfold maxLen; omega) (by simp only [ti33]; omega)) ?_)
              rintro ⟨⟨vH1, bH1⟩, hH1⟩
              dsimp only at hH1 ⊢
              refine DR.c 8 ?_
              refine DOp.vl rfl (Val.of rfl) ?_
              refine DR.c 9 ?_
              refine DOp.vl rfl (Val.of rfl) ?_
              refine DR.c 10 ?_
              refine DOp.vl rfl (Val.of rfl) ?_
              refine DR.done (by kernel_rfl) ?_
              exact RQ.toP (⟨d.snoc i h hA1 hH1, by rw [e1]; rfl⟩ : {y : OwT // (y.r, st.2) = st}) ⟨rfl, by rw [e1]; rfl, rfl, rfl, rfl, rfl, rfl, trivial⟩ (L1 := bA1 ++ (bH1 ++ ((b5, Obj.cells (u8s h).toArray 33 (0, 0)) :: (mb, Obj.cells #[.slice (some adA) l.length cA, .slice (some adH) l.length cH] 96 (0, 0)) :: (bA ++ bH))) ++ [(s1, Obj.cells #[.int .i64 (i : Int)] 3 (0, 0)), (s2, Obj.cells (u8s h).toArray 33 (0, 0))]) (perm_of fun f => by (simp only [List.map_append, List.map_cons, List.map_nil, List.sum_append, List.sum_cons, List.sum_nil] <;> omega)) (List.sublist_append_left _ _)
            · refine DOp.op1 rfl (OpTo.new rfl rfl (nbsl (u8s h).toArray (fillS_1 8 _ (u8s h) hl8))) ?_
              intro s2
              refine DR.c 3 (DOp.op1 rfl (OpTo.append (L1 := (s2, Obj.cells (u8s h).toArray 33 (0, 0)) :: (s1, Obj.cells #[.int .i64 (i : Int)] 3 (0, 0)) :: (d.bH ++ ((b5, Obj.cells (u8s h).toArray 33 (0, 0)) :: (mb, Obj.cells #[.slice (some adA) l.length cA, .slice (some adH) l.length cH] 96 (0, 0)) :: (bA ++ bH)))) tabOk d.hA (Src.at ⟨s1, 0, none⟩ 1 1 [.int .i64 (i : Int)] rfl (Rd.rowAll (arr := #[.int .i64 (i : Int)]) (e := 3) (fz := (0, 0)) (by repeat (first | exact List.mem_cons_self | apply List.mem_cons_of_mem | apply List.mem_append_right)))) rfl rfl rfl rfl rfl rfl rfl rfl rfl (perm_of fun f => by (simp only [List.map_append, List.map_cons, List.map_nil, List.sum_append, List.sum_cons, List.sum_nil] <;> omega)) (by simp [Value.oneCell']) (by unfold maxLen; omega) (by simp only [ti3]; omega)) ?_)
              rintro ⟨⟨vA1, bA1⟩, hA1⟩
              dsimp only at hA1 ⊢
              refine DR.c 7 (DOp.op1 rfl (OpTo.append (L1 := bA1 ++ ((s2, Obj.cells (u8s h).toArray 33 (0, 0)) :: (s1, Obj.cells #[.int .i64 (i : Int)] 3 (0, 0)) :: ((b5, Obj.cells (u8s h).toArray 33 (0, 0)) :: (mb, Obj.cells #[.slice (some adA) l.length cA, .slice (some adH) l.length cH] 96 (0, 0)) :: (bA ++ bH)))) tabOk d.hH (Src.at ⟨s2, 0, none⟩ 1 1 (u8s h) (by rw [hl8]; rfl) (Rd.rowAll (arr := (u8s h).toArray) (e := 33) (fz := (0, 0)) (by repeat (first | exact List.mem_cons_self | apply List.mem_cons_of_mem | apply List.mem_append_right)))) rfl rfl rfl rfl rfl rfl rfl rfl rfl (perm_of fun f => by (simp only [List.map_append, List.map_cons, List.map_nil, List.sum_append, List.sum_cons, List.sum_nil] <;> omega)) (u8s_one _) (by unfold maxLen; omega) (by simp only [ti33]; omega)) ?_)
              rintro ⟨⟨vH1, bH1⟩, hH1⟩
              dsimp only at hH1 ⊢
              refine DR.c 8 ?_
              refine DOp.vl rfl (Val.of rfl) ?_
              refine DR.c 9 ?_
              refine DOp.vl rfl (Val.of rfl) ?_
              refine DR.c 10 ?_
              refine DOp.vl rfl (Val.of rfl) ?_
              refine DR.done (by kernel_rfl) ?_
              exact RQ.toP (⟨d.snoc i h hA1 hH1, by rw [e1]; rfl⟩ : {y : OwT // (y.r, st.2) = st}) ⟨rfl, by rw [e1]; rfl, rfl, rfl, rfl, rfl, rfl, trivial⟩ (L1 := bA1 ++ (bH1 ++ ((b5, Obj.cells (u8s h).toArray 33 (0, 0)) :: (mb, Obj.cells #[.slice (some adA) l.length cA, .slice (some adH) l.length cH] 96 (0, 0)) :: (bA ++ bH))) ++ [(s1, Obj.cells #[.int .i64 (i : Int)] 3 (0, 0)), (s2, Obj.cells (u8s h).toArray 33 (0, 0))]) (perm_of fun f => by (simp only [List.map_append, List.map_cons, List.map_nil, List.sum_append, List.sum_cons, List.sum_nil] <;> omega)) (List.sublist_append_left _ _)
          · refine DOp.op1 rfl (OpTo.new rfl rfl (nbsl (u8s h).toArray (fillS_1 8 _ (u8s h) hl8))) ?_
            intro s2
            refine DR.c 2 ?_
            refine DOp.op1 rfl (OpTo.new rfl rfl (nbsl #[.int .i64 (i : Int)] (by kernel_rfl))) ?_
            intro s1
            refine DR.c 3 (DOp.op1 rfl (OpTo.append (L1 := (s2, Obj.cells (u8s h).toArray 33 (0, 0)) :: (s1, Obj.cells #[.int .i64 (i : Int)] 3 (0, 0)) :: (d.bH ++ ((b5, Obj.cells (u8s h).toArray 33 (0, 0)) :: (mb, Obj.cells #[.slice (some adA) l.length cA, .slice (some adH) l.length cH] 96 (0, 0)) :: (bA ++ bH)))) tabOk d.hA (Src.at ⟨s1, 0, none⟩ 1 1 [.int .i64 (i : Int)] rfl (Rd.rowAll (arr := #[.int .i64 (i : Int)]) (e := 3) (fz := (0, 0)) (by repeat (first | exact List.mem_cons_self | apply List.mem_cons_of_mem | apply List.mem_append_right)))) rfl rfl rfl rfl rfl rfl rfl rfl rfl (perm_of fun f => by (simp only [List.map_append, List.map_cons, List.map_nil, List.sum_append, List.sum_cons, List.sum_nil] <;> omega)) (by simp [Value.oneCell']) (by unfold maxLen; omega) (by simp only [ti3]; omega)) ?_)
            rintro ⟨⟨vA1, bA1⟩, hA1⟩
            dsimp only at hA1 ⊢
            refine DR.c 7 (DOp.op1 rfl (OpTo.append (L1 := bA1 ++ ((s2, Obj.cells (u8s h).toArray 33 (0, 0)) :: (s1, Obj.cells #[.int .i64 (i : Int)] 3 (0, 0)) :: ((b5, Obj.cells (u8s h).toArray 33 (0, 0)) :: (mb, Obj.cells #[.slice (some adA) l.length cA, .slice (some adH) l.length cH] 96 (0, 0)) :: (bA ++ bH)))) tabOk d.hH (Src.at ⟨s2, 0, none⟩ 1 1 (u8s h) (by rw [hl8]; rfl) (Rd.rowAll (arr := (u8s h).toArray) (e := 33) (fz := (0, 0)) (by repeat (first | exact List.mem_cons_self | apply List.mem_cons_of_mem | apply List.mem_append_right)))) rfl rfl rfl rfl rfl rfl rfl rfl rfl (perm_of fun f => by (simp only [List.map_append, List.map_cons, List.map_nil, List.sum_append, List.sum_cons, List.sum_nil] <;> omega)) (u8s_one _) (by unfold maxLen; omega) (by simp only [ti33]; omega)) ?_)
            rintro ⟨⟨vH1, bH1⟩, hH1⟩
            dsimp only at hH1 ⊢
            refine DR.c 8 ?_
            refine DOp.vl rfl (Val.of rfl) ?_
            refine DR.c 9 ?_
            refine DOp.vl rfl (Val.of rfl) ?_
            refine DR.c 10 ?_
            refine DOp.vl rfl (Val.of rfl) ?_
            refine DR.done (by kernel_rfl) ?_
            exact RQ.toP (⟨d.snoc i h hA1 hH1, by rw [e1]; rfl⟩ : {y : OwT // (y.r, st.2) = st}) ⟨rfl, by rw [e1]; rfl, rfl, rfl, rfl, rfl, rfl, trivial⟩ (L1 := bA1 ++ (bH1 ++ ((b5, Obj.cells (u8s h).toArray 33 (0, 0)) :: (mb, Obj.cells #[.slice (some adA) l.length cA, .slice (some adH) l.length cH] 96 (0, 0)) :: (bA ++ bH))) ++ [(s1, Obj.cells #[.int .i64 (i : Int)] 3 (0, 0)), (s2, Obj.cells (u8s h).toArray 33 (0, 0))]) (perm_of fun f => by (simp only [List.map_append, List.map_cons, List.map_nil, List.sum_append, List.sum_cons, List.sum_nil] <;> omega)) (List.sublist_append_left _ _)
        · have e1 : st = (d.r, false) := by rw [hst, if_neg (fun h => h1 h.2)]
          refine Run.a (Val.of rfl) ?_
          refine Run.a (Val.eq (Val.of rfl) (show _ = Value.bool false from congrArg Value.bool (decide_eq_false (by omega)))) ?_
          refine z_ ?_
          exact RQ.toP (⟨d, by rw [e1]⟩ : {y : OwT // (y.r, st.2) = st}) ⟨rfl, by rw [e1]; rfl, rfl, rfl, rfl, rfl, rfl, trivial⟩ (List.Perm.refl _) (List.Sublist.refl _)
    rintro ⟨y, hy⟩
    dsimp only
    have hyl : y.r.length ≤ 2 * k + 1 := by
      have : y.r = st.1 := by rw [← hy]
      rw [this, hst]
      split
      · rw [List.length_append, List.length_singleton]; omega
      · show d.r.length ≤ _; omega
    have hyn : stepL i h (d.r, dn) p = if p.1 = i then st else (st.1 ++ [p], st.2) := by rw [hst]; rfl
    rw [← hnx] at hyn
    (repeat refine RC.seq ?_); refine RC.region ?_
    refine Run.a (Val.of rfl) ?_
    refine Run.a (Val.of rfl) ?_
    refine Run.a vf0 ?_
    refine Run.a (vl (.slice (some adA) l.length cA) (arr := #[.slice (some adA) l.length cA, .slice (some adH) l.length cH]) (hm := (by repeat (first | exact List.mem_cons_self | apply List.mem_cons_of_mem | apply List.mem_append_right)))) ?_
    refine Run.a (Val.of rfl) ?_
    refine Run.a (vix k hk' (adA.add k) (ha := by show adA.add (k * 1) = _; rw [Nat.mul_one])) ?_
    refine Run.a (Val.loadC1 tabOk rfl rfl rfl rfl (rA (fun q hq => by repeat (first | exact hq | exact List.mem_append_left _ hq | exact List.mem_append_right _ hq | apply List.mem_cons_of_mem | apply List.mem_append_right)))) ?_
    by_cases h2 : p.1 = i
    · rw [if_pos h2] at hyn
      refine z_ ?_
      exact RQ.upS (k + 1) (y, st.2) (Nat.lt_succ_self _) hk' ⟨by rw [hyn]; exact hy, by show y.r.length ≤ _; omega⟩ ⟨rfl, rfl, rfl, rfl, rfl, rfl, rfl, trivial⟩ (List.Perm.refl _) (List.Sublist.refl _)
    · rw [if_neg h2] at hyn
      refine z_ ?_
      (repeat refine RC.seq ?_); refine RC.draw ((b5, Obj.cells (u8s h).toArray 33 (0, 0)) :: (mb, Obj.cells #[.slice (some adA) l.length cA, .slice (some adH) l.length cH] 96 (0, 0)) :: (bA ++ bH)) mixed (N := 22) rfl ?_
      refine dt 0 ?_
      refine dt 1 ?_
      refine dt 2 ?_
      refine dt 3 ?_
      refine DR.t 4 rfl (vl (.slice (some adA) l.length cA) (arr := #[.slice (some adA) l.length cA, .slice (some adH) l.length cH]) (hm := (by repeat (first | exact List.mem_cons_self | apply List.mem_cons_of_mem | apply List.mem_append_right)))) ?_
      refine dt 5 ?_
      refine DR.t 6 rfl (vix k hk' (adA.add k) (ha := by show adA.add (k * 1) = _; rw [Nat.mul_one])) ?_
      refine DR.t 7 rfl (Val.loadC1 tabOk rfl rfl rfl rfl (rA (fun q hq => by repeat (first | exact hq | exact List.mem_append_left _ hq | exact List.mem_append_right _ hq | apply List.mem_cons_of_mem | apply List.mem_append_right)))) ?_
      refine dt 10 ?_
      refine dt 11 ?_
      refine dt 12 ?_
      refine dt 13 ?_
      refine DR.t 14 rfl (vl (.slice (some adH) l.length cH) (arr := #[.slice (some adA) l.length cA, .slice (some adH) l.length cH]) (hm := (by repeat (first | exact List.mem_cons_self | apply List.mem_cons_of_mem | apply List.mem_append_right)))) ?_
      refine dt 15 ?_
      refine DR.t 16 rfl (vix k hk' (adH.add (k * 8))) ?_
      refine DR.t 17 rfl (Val.loadR tabOk (cs := u8s p.2) rfl rfl rfl rfl sp (rH (fun q hq => by repeat (first | exact hq | exact List.mem_append_left _ hq | exact List.mem_append_right _ hq | apply List.mem_cons_of_mem | apply List.mem_append_right)))) ?_
      refine DR.two (i := 8) (j := 18) (by kernel_rfl) ?_ ?_
      · refine DOp.op1 rfl (OpTo.new rfl rfl (nbsl #[.int .i64 (p.1 : Int)] (by kernel_rfl))) ?_
        intro s1
        refine DR.two (i := 9) (j := 18) (by kernel_rfl) ?_ ?_
        · refine DOp.op1 rfl (OpTo.append (L1 := (s1, Obj.cells #[.int .i64 (p.1 : Int)] 3 (0, 0)) :: (y.bH ++ ((b5, Obj.cells (u8s h).toArray 33 (0, 0)) :: (mb, Obj.cells #[.slice (some adA) l.length cA, .slice (some adH) l.length cH] 96 (0, 0)) :: (bA ++ bH)))) tabOk y.hA (Src.at ⟨s1, 0, none⟩ 1 1 [.int .i64 (p.1 : Int)] rfl (Rd.rowAll (arr := #[.int .i64 (p.1 : Int)]) (e := 3) (fz := (0, 0)) (by repeat (first | exact List.mem_cons_self | apply List.mem_cons_of_mem | apply List.mem_append_right)))) rfl rfl rfl rfl rfl rfl rfl rfl rfl (perm_of fun f => by (simp only [List.map_append, List.map_cons, List.map_nil, List.sum_append, List.sum_cons, List.sum_nil] <;> omega)) (by simp [Value.oneCell']) (by unfold maxLen; omega) (by simp only [ti3]; omega)) ?_
          rintro ⟨⟨vA1, bA1⟩, hA1⟩
          dsimp only at hA1 ⊢
          refine DR.c 18 ?_
          refine DOp.op1 rfl (OpTo.new rfl rfl (nbsl (u8s p.2).toArray (fillS_1 8 _ (u8s p.2) sp))) ?_
          intro s2
          refine DR.c 19 (DOp.op1 rfl (OpTo.append (L1 := (s2, Obj.cells (u8s p.2).toArray 33 (0, 0)) :: (bA1 ++ ((s1, Obj.cells #[.int .i64 (p.1 : Int)] 3 (0, 0)) :: ((b5, Obj.cells (u8s h).toArray 33 (0, 0)) :: (mb, Obj.cells #[.slice (some adA) l.length cA, .slice (some adH) l.length cH] 96 (0, 0)) :: (bA ++ bH))))) tabOk y.hH (Src.at ⟨s2, 0, none⟩ 1 1 (u8s p.2) (by rw [sp]; rfl) (Rd.rowAll (arr := (u8s p.2).toArray) (e := 33) (fz := (0, 0)) (by repeat (first | exact List.mem_cons_self | apply List.mem_cons_of_mem | apply List.mem_append_right)))) rfl rfl rfl rfl rfl rfl rfl rfl rfl (perm_of fun f => by (simp only [List.map_append, List.map_cons, List.map_nil, List.sum_append, List.sum_cons, List.sum_nil] <;> omega)) (u8s_one _) (by unfold maxLen; omega) (by simp only [ti33]; omega)) ?_)
          rintro ⟨⟨vH1, bH1⟩, hH1⟩
          dsimp only at hH1 ⊢
          refine DR.c 20 ?_
          refine DOp.vl rfl (Val.of rfl) ?_
          refine DR.c 21 ?_
          refine DOp.vl rfl (Val.of rfl) ?_
          refine DR.done (by kernel_rfl) ?_
          refine z_ ?_
          exact RQ.upS (k + 1) (y.snoc p.1 p.2 hA1 hH1, st.2) (Nat.lt_succ_self _) hk' ⟨by rw [hyn, ← hy]; rfl, by show (y.r ++ [(p.1, p.2)]).length ≤ _; rw [List.length_append, List.length_singleton]; omega⟩ ⟨rfl, rfl, rfl, rfl, rfl, rfl, rfl, trivial⟩ (L1 := bA1 ++ (bH1 ++ ((b5, Obj.cells (u8s h).toArray 33 (0, 0)) :: (mb, Obj.cells #[.slice (some adA) l.length cA, .slice (some adH) l.length cH] 96 (0, 0)) :: (bA ++ bH))) ++ [(s1, Obj.cells #[.int .i64 (p.1 : Int)] 3 (0, 0)), (s2, Obj.cells (u8s p.2).toArray 33 (0, 0))]) (perm_of fun f => by (simp only [List.map_append, List.map_cons, List.map_nil, List.sum_append, List.sum_cons, List.sum_nil] <;> omega)) (List.sublist_append_left _ _)
        · refine DOp.op1 rfl (OpTo.new rfl rfl (nbsl (u8s p.2).toArray (fillS_1 8 _ (u8s p.2) sp))) ?_
          intro s2
          refine DR.c 9 (DOp.op1 rfl (OpTo.append (L1 := (s2, Obj.cells (u8s p.2).toArray 33 (0, 0)) :: (s1, Obj.cells #[.int .i64 (p.1 : Int)] 3 (0, 0)) :: (y.bH ++ ((b5, Obj.cells (u8s h).toArray 33 (0, 0)) :: (mb, Obj.cells #[.slice (some adA) l.length cA, .slice (some adH) l.length cH] 96 (0, 0)) :: (bA ++ bH)))) tabOk y.hA (Src.at ⟨s1, 0, none⟩ 1 1 [.int .i64 (p.1 : Int)] rfl (Rd.rowAll (arr := #[.int .i64 (p.1 : Int)]) (e := 3) (fz := (0, 0)) (by repeat (first | exact List.mem_cons_self | apply List.mem_cons_of_mem | apply List.mem_append_right)))) rfl rfl rfl rfl rfl rfl rfl rfl rfl (perm_of fun f => by (simp only [List.map_append, List.map_cons, List.map_nil, List.sum_append, List.sum_cons, List.sum_nil] <;> omega)) (by simp [Value.oneCell']) (by unfold maxLen; omega) (by simp only [ti3]; omega)) ?_)
          rintro ⟨⟨vA1, bA1⟩, hA1⟩
          dsimp only at hA1 ⊢
          refine DR.c 19 (DOp.op1 rfl (OpTo.append (L1 := bA1 ++ ((s2, Obj.cells (u8s p.2).toArray 33 (0, 0)) :: (s1, Obj.cells #[.int .i64 (p.1 : Int)] 3 (0, 0)) :: ((b5, Obj.cells (u8s h).toArray 33 (0, 0)) :: (mb, Obj.cells #[.slice (some adA) l.length cA, .slice (some adH) l.length cH] 96 (0, 0)) :: (bA ++ bH)))) tabOk y.hH (Src.at ⟨s2, 0, none⟩ 1 1 (u8s p.2) (by rw [sp]; rfl) (Rd.rowAll (arr := (u8s p.2).toArray) (e := 33) (fz := (0, 0)) (by repeat (first | exact List.mem_cons_self | apply List.mem_cons_of_mem | apply List.mem_append_right)))) rfl rfl rfl rfl rfl rfl rfl rfl rfl (perm_of fun f => by (simp only [List.map_append, List.map_cons, List.map_nil, List.sum_append, List.sum_cons, List.sum_nil] <;> omega)) (u8s_one _) (by unfold maxLen; omega) (by simp only [ti33]; omega)) ?_)
          rintro ⟨⟨vH1, bH1⟩, hH1⟩
          dsimp only at hH1 ⊢
          refine DR.c 20 ?_
          refine DOp.vl rfl (Val.of rfl) ?_
          refine DR.c 21 ?_
          refine DOp.vl rfl (Val.of rfl) ?_
          refine DR.done (by kernel_rfl) ?_
          refine z_ ?_
          exact RQ.upS (k + 1) (y.snoc p.1 p.2 hA1 hH1, st.2) (Nat.lt_succ_self _) hk' ⟨by rw [hyn, ← hy]; rfl, by show (y.r ++ [(p.1, p.2)]).length ≤ _; rw [List.length_append, List.length_singleton]; omega⟩ ⟨rfl, rfl, rfl, rfl, rfl, rfl, rfl, trivial⟩ (L1 := bA1 ++ (bH1 ++ ((b5, Obj.cells (u8s h).toArray 33 (0, 0)) :: (mb, Obj.cells #[.slice (some adA) l.length cA, .slice (some adH) l.length cH] 96 (0, 0)) :: (bA ++ bH))) ++ [(s1, Obj.cells #[.int .i64 (p.1 : Int)] 3 (0, 0)), (s2, Obj.cells (u8s p.2).toArray 33 (0, 0))]) (perm_of fun f => by (simp only [List.map_append, List.map_cons, List.map_nil, List.sum_append, List.sum_cons, List.sum_nil] <;> omega)) (List.sublist_append_left _ _)
      · refine DOp.op1 rfl (OpTo.new rfl rfl (nbsl (u8s p.2).toArray (fillS_1 8 _ (u8s p.2) sp))) ?_
        intro s2
        refine DR.c 8 ?_
        refine DOp.op1 rfl (OpTo.new rfl rfl (nbsl #[.int .i64 (p.1 : Int)] (by kernel_rfl))) ?_
        intro s1
        refine DR.c 9 (DOp.op1 rfl (OpTo.append (L1 := (s2, Obj.cells (u8s p.2).toArray 33 (0, 0)) :: (s1, Obj.cells #[.int .i64 (p.1 : Int)] 3 (0, 0)) :: (y.bH ++ ((b5, Obj.cells (u8s h).toArray 33 (0, 0)) :: (mb, Obj.cells #[.slice (some adA) l.length cA, .slice (some adH) l.length cH] 96 (0, 0)) :: (bA ++ bH)))) tabOk y.hA (Src.at ⟨s1, 0, none⟩ 1 1 [.int .i64 (p.1 : Int)] rfl (Rd.rowAll (arr := #[.int .i64 (p.1 : Int)]) (e := 3) (fz := (0, 0)) (by repeat (first | exact List.mem_cons_self | apply List.mem_cons_of_mem | apply List.mem_append_right)))) rfl rfl rfl rfl rfl rfl rfl rfl rfl (perm_of fun f => by (simp only [List.map_append, List.map_cons, List.map_nil, List.sum_append, List.sum_cons, List.sum_nil] <;> omega)) (by simp [Value.oneCell']) (by unfold maxLen; omega) (by simp only [ti3]; omega)) ?_)
        rintro ⟨⟨vA1, bA1⟩, hA1⟩
        dsimp only at hA1 ⊢
        refine DR.c 19 (DOp.op1 rfl (OpTo.append (L1 := bA1 ++ ((s2, Obj.cells (u8s p.2).toArray 33 (0, 0)) :: (s1, Obj.cells #[.int .i64 (p.1 : Int)] 3 (0, 0)) :: ((b5, Obj.cells (u8s h).toArray 33 (0, 0)) :: (mb, Obj.cells #[.slice (some adA) l.length cA, .slice (some adH) l.length cH] 96 (0, 0)) :: (bA ++ bH)))) tabOk y.hH (Src.at ⟨s2, 0, none⟩ 1 1 (u8s p.2) (by rw [sp]; rfl) (Rd.rowAll (arr := (u8s p.2).toArray) (e := 33) (fz := (0, 0)) (by repeat (first | exact List.mem_cons_self | apply List.mem_cons_of_mem | apply List.mem_append_right)))) rfl rfl rfl rfl rfl rfl rfl rfl rfl (perm_of fun f => by (simp only [List.map_append, List.map_cons, List.map_nil, List.sum_append, List.sum_cons, List.sum_nil] <;> omega)) (u8s_one _) (by unfold maxLen; omega) (by simp only [ti33]; omega)) ?_)
        rintro ⟨⟨vH1, bH1⟩, hH1⟩
        dsimp only at hH1 ⊢
        refine DR.c 20 ?_
        refine DOp.vl rfl (Val.of rfl) ?_
        refine DR.c 21 ?_
        refine DOp.vl rfl (Val.of rfl) ?_
        refine DR.done (by kernel_rfl) ?_
        refine z_ ?_
        exact RQ.upS (k + 1) (y.snoc p.1 p.2 hA1 hH1, st.2) (Nat.lt_succ_self _) hk' ⟨by rw [hyn, ← hy]; rfl, by show (y.r ++ [(p.1, p.2)]).length ≤ _; rw [List.length_append, List.length_singleton]; omega⟩ ⟨rfl, rfl, rfl, rfl, rfl, rfl, rfl, trivial⟩ (L1 := bA1 ++ (bH1 ++ ((b5, Obj.cells (u8s h).toArray 33 (0, 0)) :: (mb, Obj.cells #[.slice (some adA) l.length cA, .slice (some adH) l.length cH] 96 (0, 0)) :: (bA ++ bH))) ++ [(s1, Obj.cells #[.int .i64 (p.1 : Int)] 3 (0, 0)), (s2, Obj.cells (u8s p.2).toArray 33 (0, 0))]) (perm_of fun f => by (simp only [List.map_append, List.map_cons, List.map_nil, List.sum_append, List.sum_cons, List.sum_nil] <;> omega)) (List.sublist_append_left _ _)
  · have hk' : k = l.length := by have := of_decide_eq_false h; omega
    clear h
    subst hk'
    rw [List.take_length] at hgo
    rw [← hgo]
    dsimp only
    have hr9 : ∀ (y : OwT), LvL mb y = (mb, .cells #[y.vA, y.vH] 96 (0, 0)) :: (y.bA ++ y.bH) := fun _ => rfl
    (repeat refine RQ.thenExit ?_); refine RQ.blockHere ?_
    refine RQ.next ?_
    refine RC.seq ?_
    refine RC.thenCut (Y := {y : OwT // y.r = if dn then d.r else d.r ++ [(i, h)]}) (fun y => [(8, y.1.vH), (7, y.1.vA), (5, .pointer (some ⟨b5, 0, none⟩)), (1, .int .i64 i), (0, .pointer (some ⟨mb, 0, none⟩))]) (fun y => y.1.bA ++ (y.1.bH ++ ((b5, Obj.cells (u8s h).toArray 33 (0, 0)) :: (mb, Obj.cells #[.slice aA l.length cA, .slice aH l.length cH] 96 (0, 0)) :: (bA ++ bH)))) ?_ ?_
    · cases dn with
      | true =>
        refine z_ ?_
        exact RQ.toP (⟨d, rfl⟩ : {y : OwT // y.r = if true then d.r else d.r ++ [(i, h)]}) ⟨rfl, rfl, rfl, rfl, rfl, trivial⟩ (List.Perm.refl _) (List.Sublist.refl _)
      | false =>
        refine z_ ?_
        (repeat refine RC.seq ?_); refine RC.draw ((b5, Obj.cells (u8s h).toArray 33 (0, 0)) :: (mb, Obj.cells #[.slice aA l.length cA, .slice aH l.length cH] 96 (0, 0)) :: (bA ++ bH)) mixed (N := 10) rfl ?_
        refine dt 0 ?_
        refine dt 1 ?_
        refine dt 4 ?_
        refine DR.t 5 rfl (vla (hv := hsz)) ?_
        refine DR.two (i := 2) (j := 6) (by kernel_rfl) ?_ ?_
        · refine DOp.op1 rfl (OpTo.new rfl rfl (nbsl #[.int .i64 (i : Int)] (by kernel_rfl))) ?_
          intro s1
          refine DR.two (i := 3) (j := 6) (by kernel_rfl) ?_ ?_
          · refine DOp.op1 rfl (OpTo.append (L1 := (s1, Obj.cells #[.int .i64 (i : Int)] 3 (0, 0)) :: (d.bH ++ ((b5, Obj.cells (u8s h).toArray 33 (0, 0)) :: (mb, Obj.cells #[.slice aA l.length cA, .slice aH l.length cH] 96 (0, 0)) :: (bA ++ bH)))) tabOk d.hA (Src.at ⟨s1, 0, none⟩ 1 1 [.int .i64 (i : Int)] rfl (Rd.rowAll (arr := #[.int .i64 (i : Int)]) (e := 3) (fz := (0, 0)) (by repeat (first | exact List.mem_cons_self | apply List.mem_cons_of_mem | apply List.mem_append_right)))) rfl rfl rfl rfl rfl rfl rfl rfl rfl (perm_of fun f => by (simp only [List.map_append, List.map_cons, List.map_nil, List.sum_append, List.sum_cons, List.sum_nil] <;> omega)) (by simp [Value.oneCell']) (by unfold maxLen; omega) (by simp only [ti3]; omega)) ?_
            rintro ⟨⟨vA1, bA1⟩, hA1⟩
            dsimp only at hA1 ⊢
            refine DR.c 6 ?_
            refine DOp.op1 rfl (OpTo.new rfl rfl (nbsl (u8s h).toArray (fillS_1 8 _ (u8s h) hl8))) ?_
            intro s2
            refine DR.c 7 (DOp.op1 rfl (OpTo.append (L1 := (s2, Obj.cells (u8s h).toArray 33 (0, 0)) :: (bA1 ++ ((s1, Obj.cells #[.int .i64 (i : Int)] 3 (0, 0)) :: ((b5, Obj.cells (u8s h).toArray 33 (0, 0)) :: (mb, Obj.cells #[.slice aA l.length cA, .slice aH l.length cH] 96 (0, 0)) :: (bA ++ bH))))) tabOk d.hH (Src.at ⟨s2, 0, none⟩ 1 1 (u8s h) (by rw [hl8]; rfl) (Rd.rowAll (arr := (u8s h).toArray) (e := 33) (fz := (0, 0)) (by repeat (first | exact List.mem_cons_self | apply List.mem_cons_of_mem | apply List.mem_append_right)))) rfl rfl rfl rfl rfl rfl rfl rfl rfl (perm_of fun f => by (simp only [List.map_append, List.map_cons, List.map_nil, List.sum_append, List.sum_cons, List.sum_nil] <;> omega)) (u8s_one _) (by unfold maxLen; omega) (by simp only [ti33]; omega)) ?_)
            rintro ⟨⟨vH1, bH1⟩, hH1⟩
            dsimp only at hH1 ⊢
            refine DR.c 8 ?_
            refine DOp.vl rfl (Val.of rfl) ?_
            refine DR.c 9 ?_
            refine DOp.vl rfl (Val.of rfl) ?_
            refine DR.done (by kernel_rfl) ?_
            exact RQ.toP (⟨d.snoc i h hA1 hH1, rfl⟩ : {y : OwT // y.r = if false then d.r else d.r ++ [(i, h)]}) ⟨rfl, rfl, rfl, rfl, rfl, trivial⟩ (L1 := bA1 ++ (bH1 ++ ((b5, Obj.cells (u8s h).toArray 33 (0, 0)) :: (mb, Obj.cells #[.slice aA l.length cA, .slice aH l.length cH] 96 (0, 0)) :: (bA ++ bH))) ++ [(s1, Obj.cells #[.int .i64 (i : Int)] 3 (0, 0)), (s2, Obj.cells (u8s h).toArray 33 (0, 0))]) (perm_of fun f => by (simp only [List.map_append, List.map_cons, List.map_nil, List.sum_append, List.sum_cons, List.sum_nil] <;> omega)) (List.sublist_append_left _ _)
          · refine DOp.op1 rfl (OpTo.new rfl rfl (nbsl (u8s h).toArray (fillS_1 8 _ (u8s h) hl8))) ?_
            intro s2
            refine DR.c 3 (DOp.op1 rfl (OpTo.append (L1 := (s2, Obj.cells (u8s h).toArray 33 (0, 0)) :: (s1, Obj.cells #[.int .i64 (i : Int)] 3 (0, 0)) :: (d.bH ++ ((b5, Obj.cells (u8s h).toArray 33 (0, 0)) :: (mb, Obj.cells #[.slice aA l.length cA, .slice aH l.length cH] 96 (0, 0)) :: (bA ++ bH)))) tabOk d.hA (Src.at ⟨s1, 0, none⟩ 1 1 [.int .i64 (i : Int)] rfl (Rd.rowAll (arr := #[.int .i64 (i : Int)]) (e := 3) (fz := (0, 0)) (by repeat (first | exact List.mem_cons_self | apply List.mem_cons_of_mem | apply List.mem_append_right)))) rfl rfl rfl rfl rfl rfl rfl rfl rfl (perm_of fun f => by (simp only [List.map_append, List.map_cons, List.map_nil, List.sum_append, List.sum_cons, List.sum_nil] <;> omega)) (by simp [Value.oneCell']) (by unfold maxLen; omega) (by simp only [ti3]; omega)) ?_)
            rintro ⟨⟨vA1, bA1⟩, hA1⟩
            dsimp only at hA1 ⊢
            refine DR.c 7 (DOp.op1 rfl (OpTo.append (L1 := bA1 ++ ((s2, Obj.cells (u8s h).toArray 33 (0, 0)) :: (s1, Obj.cells #[.int .i64 (i : Int)] 3 (0, 0)) :: ((b5, Obj.cells (u8s h).toArray 33 (0, 0)) :: (mb, Obj.cells #[.slice aA l.length cA, .slice aH l.length cH] 96 (0, 0)) :: (bA ++ bH)))) tabOk d.hH (Src.at ⟨s2, 0, none⟩ 1 1 (u8s h) (by rw [hl8]; rfl) (Rd.rowAll (arr := (u8s h).toArray) (e := 33) (fz := (0, 0)) (by repeat (first | exact List.mem_cons_self | apply List.mem_cons_of_mem | apply List.mem_append_right)))) rfl rfl rfl rfl rfl rfl rfl rfl rfl (perm_of fun f => by (simp only [List.map_append, List.map_cons, List.map_nil, List.sum_append, List.sum_cons, List.sum_nil] <;> omega)) (u8s_one _) (by unfold maxLen; omega) (by simp only [ti33]; omega)) ?_)
            rintro ⟨⟨vH1, bH1⟩, hH1⟩
            dsimp only at hH1 ⊢
            refine DR.c 8 ?_
            refine DOp.vl rfl (Val.of rfl) ?_
            refine DR.c 9 ?_
            refine DOp.vl rfl (Val.of rfl) ?_
            refine DR.done (by kernel_rfl) ?_
            exact RQ.toP (⟨d.snoc i h hA1 hH1, rfl⟩ : {y : OwT // y.r = if false then d.r else d.r ++ [(i, h)]}) ⟨rfl, rfl, rfl, rfl, rfl, trivial⟩ (L1 := bA1 ++ (bH1 ++ ((b5, Obj.cells (u8s h).toArray 33 (0, 0)) :: (mb, Obj.cells #[.slice aA l.length cA, .slice aH l.length cH] 96 (0, 0)) :: (bA ++ bH))) ++ [(s1, Obj.cells #[.int .i64 (i : Int)] 3 (0, 0)), (s2, Obj.cells (u8s h).toArray 33 (0, 0))]) (perm_of fun f => by (simp only [List.map_append, List.map_cons, List.map_nil, List.sum_append, List.sum_cons, List.sum_nil] <;> omega)) (List.sublist_append_left _ _)
        · refine DOp.op1 rfl (OpTo.new rfl rfl (nbsl (u8s h).toArray (fillS_1 8 _ (u8s h) hl8))) ?_
          intro s2
          refine DR.c 2 ?_
          refine DOp.op1 rfl (OpTo.new rfl rfl (nbsl #[.int .i64 (i : Int)] (by kernel_rfl))) ?_
          intro s1
          refine DR.c 3 (DOp.op1 rfl (OpTo.append (L1 := (s2, Obj.cells (u8s h).toArray 33 (0, 0)) :: (s1, Obj.cells #[.int .i64 (i : Int)] 3 (0, 0)) :: (d.bH ++ ((b5, Obj.cells (u8s h).toArray 33 (0, 0)) :: (mb, Obj.cells #[.slice aA l.length cA, .slice aH l.length cH] 96 (0, 0)) :: (bA ++ bH)))) tabOk d.hA (Src.at ⟨s1, 0, none⟩ 1 1 [.int .i64 (i : Int)] rfl (Rd.rowAll (arr := #[.int .i64 (i : Int)]) (e := 3) (fz := (0, 0)) (by repeat (first | exact List.mem_cons_self | apply List.mem_cons_of_mem | apply List.mem_append_right)))) rfl rfl rfl rfl rfl rfl rfl rfl rfl (perm_of fun f => by (simp only [List.map_append, List.map_cons, List.map_nil, List.sum_append, List.sum_cons, List.sum_nil] <;> omega)) (by simp [Value.oneCell']) (by unfold maxLen; omega) (by simp only [ti3]; omega)) ?_)
          rintro ⟨⟨vA1, bA1⟩, hA1⟩
          dsimp only at hA1 ⊢
          refine DR.c 7 (DOp.op1 rfl (OpTo.append (L1 := bA1 ++ ((s2, Obj.cells (u8s h).toArray 33 (0, 0)) :: (s1, Obj.cells #[.int .i64 (i : Int)] 3 (0, 0)) :: ((b5, Obj.cells (u8s h).toArray 33 (0, 0)) :: (mb, Obj.cells #[.slice aA l.length cA, .slice aH l.length cH] 96 (0, 0)) :: (bA ++ bH)))) tabOk d.hH (Src.at ⟨s2, 0, none⟩ 1 1 (u8s h) (by rw [hl8]; rfl) (Rd.rowAll (arr := (u8s h).toArray) (e := 33) (fz := (0, 0)) (by repeat (first | exact List.mem_cons_self | apply List.mem_cons_of_mem | apply List.mem_append_right)))) rfl rfl rfl rfl rfl rfl rfl rfl rfl (perm_of fun f => by (simp only [List.map_append, List.map_cons, List.map_nil, List.sum_append, List.sum_cons, List.sum_nil] <;> omega)) (u8s_one _) (by unfold maxLen; omega) (by simp only [ti33]; omega)) ?_)
          rintro ⟨⟨vH1, bH1⟩, hH1⟩
          dsimp only at hH1 ⊢
          refine DR.c 8 ?_
          refine DOp.vl rfl (Val.of rfl) ?_
          refine DR.c 9 ?_
          refine DOp.vl rfl (Val.of rfl) ?_
          refine DR.done (by kernel_rfl) ?_
          exact RQ.toP (⟨d.snoc i h hA1 hH1, rfl⟩ : {y : OwT // y.r = if false then d.r else d.r ++ [(i, h)]}) ⟨rfl, rfl, rfl, rfl, rfl, trivial⟩ (L1 := bA1 ++ (bH1 ++ ((b5, Obj.cells (u8s h).toArray 33 (0, 0)) :: (mb, Obj.cells #[.slice aA l.length cA, .slice aH l.length cH] 96 (0, 0)) :: (bA ++ bH))) ++ [(s1, Obj.cells #[.int .i64 (i : Int)] 3 (0, 0)), (s2, Obj.cells (u8s h).toArray 33 (0, 0))]) (perm_of fun f => by (simp only [List.map_append, List.map_cons, List.map_nil, List.sum_append, List.sum_cons, List.sum_nil] <;> omega)) (List.sublist_append_left _ _)
    rintro ⟨y, hy⟩
    dsimp only
    refine z_ ?_
    refine Run.op1 (os1 (off := 0) (v := y.vA) (e := 96) (arr := #[.slice aA l.length cA, .slice aH l.length cH]) (L' := y.bA ++ (y.bH ++ ((b5, Obj.cells (u8s h).toArray 33 (0, 0)) :: (bA ++ bH)))) #[y.vA, .slice aH l.length cH] (hL := (perm_of fun f => by (simp only [List.map_append, List.map_cons, List.map_nil, List.sum_append, List.sum_cons, List.sum_nil] <;> omega))) (he := by rw [y.vAc]; rfl) (hs := by rw [y.vAc]; rfl) (h1 := by rw [y.vAc]; exact y.vA1)) (fun _ => ?_)
    refine z_ ?_
    refine Run.op1 (os1 (off := 1) (v := y.vH) (e := 96) (arr := #[y.vA, .slice aH l.length cH]) (L' := y.bA ++ (y.bH ++ ((b5, Obj.cells (u8s h).toArray 33 (0, 0)) :: (bA ++ bH)))) #[y.vA, y.vH] (hL := (perm_of fun f => by (simp only [List.map_append, List.map_cons, List.map_nil, List.sum_append, List.sum_cons, List.sum_nil] <;> omega))) (he := by rw [y.vHc]; rfl) (hs := by rw [y.vHc]; rfl) (h1 := by rw [y.vHc]; exact y.vH1)) (fun _ => ?_)
    refine z_ ?_
    exact RQ.ret1 rfl (Res.tmp rfl) fun w' hm => Turns.of (Y := {y : OwT // y.r = if dn then d.r else d.r ++ [(i, h)]}) (V := fun _ => .bool true) (L' := fun y => LvL mb y.1) (Lst := LvL mb ⟨l, .slice aA l.length cA, .slice aH l.length cH, bA, bH, hA, hH⟩) ⟨y, hy⟩ hm (Lr := (b5, Obj.cells (u8s h).toArray 33 (0, 0)) :: (bA ++ bH)) (by rw [hr9]; exact (perm_of fun f => by (simp only [List.map_append, List.map_cons, List.map_nil, List.sum_append, List.sum_cons, List.sum_nil] <;> omega)))
end Go.Proofs.YtfhdfpejjgmdcaaGreatDoor
