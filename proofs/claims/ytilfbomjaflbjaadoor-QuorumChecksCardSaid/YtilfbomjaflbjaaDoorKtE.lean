/- KeytreeChecks. -/
import Derived.Test.YtilfbomjaflbjaaDoorKtD
namespace Go.Sha
/-- Eight bytes put over a piece. -/
def put8 (l : List Nat) (j : Nat) (h : List Nat) : List Nat := l.take (j * 8) ++ h ++ l.drop (j * 8 + 8)
theorem put8_len {l h : List Nat} {j n : Nat} (hl : l.length = n * 8) (hj : j < n) (h8 : h.length = 8) : (put8 l j h).length = n * 8 := by
  unfold put8
  simp only [List.length_append, List.length_take, List.length_drop, h8, hl]
  omega
theorem put8_lt {l h : List Nat} {j : Nat} (hl : ∀ x ∈ l, x < 256) (hh : ∀ x ∈ h, x < 256) : ∀ x ∈ put8 l j h, x < 256 := by
  intro x hx
  simp only [put8, List.mem_append] at hx
  rcases hx with (hx | hx) | hx
  · exact hl x (List.mem_of_mem_take hx)
  · exact hh x hx
  · exact hl x (List.mem_of_mem_drop hx)
theorem put8_old (l : List Nat) (j : Nat) : l.take (j * 8) ++ pc 8 l j ++ l.drop (j * 8 + 8) = l := by
  unfold pc
  rw [List.append_assoc, ← List.drop_drop, List.take_append_drop, List.take_append_drop]
theorem put8_take {l : List Nat} {j n : Nat} (hl : l.length = n * 8) (hj : j < n) : (l.take (j * 8)).length = j * 8 := by
  rw [List.length_take, hl]; omega
/-- What a switch leaves: root, message, signature. -/
structure Ck where
  root : List Nat
  m : List Nat
  z : Int
  op : List Nat
  sh : List Nat
  pa : List Nat
  hr : root.length = 8
  hm : m.length = 8
  hmlt : ∀ x ∈ m, x < 256
  h1 : op.length = 128
  h1' : ∀ x ∈ op, x < 256
  h2 : sh.length = 128
  h2' : ∀ x ∈ sh, x < 256
  h3 : pa.length = 24
  h3' : ∀ x ∈ pa, x < 256
theorem sigC_z (z z' : Int) (op sh pa : List Nat) : sigC z op sh pa = [] ++ [Go.Value.int .i64 z] ++ (u8s op ++ (u8s sh ++ u8s pa)) ∧ [] ++ [Go.Value.int .i64 z'] ++ (u8s op ++ (u8s sh ++ u8s pa)) = sigC z' op sh pa := ⟨rfl, rfl⟩
theorem sigC_putO (z : Int) (op sh pa h : List Nat) (j : Nat) : sigC z op sh pa = (.int .i64 z :: u8s (op.take (j * 8))) ++ u8s (pc 8 op j) ++ (u8s (op.drop (j * 8 + 8)) ++ (u8s sh ++ u8s pa)) ∧
    (Go.Value.int .i64 z :: u8s (op.take (j * 8))) ++ u8s h ++ (u8s (op.drop (j * 8 + 8)) ++ (u8s sh ++ u8s pa)) = sigC z (put8 op j h) sh pa := by
  refine ⟨?_, ?_⟩
  · rw [sigC]
    conv => lhs; rw [← put8_old op j]
    rw [u8s_app, u8s_app]
    simp only [List.append_assoc, List.cons_append]
  · unfold sigC put8
    rw [u8s_app, u8s_app]
    simp only [List.append_assoc, List.cons_append]
theorem sigC_putS (z : Int) (op sh pa h : List Nat) (j : Nat) : sigC z op sh pa = (.int .i64 z :: (u8s op ++ u8s (sh.take (j * 8)))) ++ u8s (pc 8 sh j) ++ (u8s (sh.drop (j * 8 + 8)) ++ u8s pa) ∧
    (Go.Value.int .i64 z :: (u8s op ++ u8s (sh.take (j * 8)))) ++ u8s h ++ (u8s (sh.drop (j * 8 + 8)) ++ u8s pa) = sigC z op (put8 sh j h) pa := by
  refine ⟨?_, ?_⟩
  · rw [sigC]
    conv => lhs; rw [← put8_old sh j]
    rw [u8s_app, u8s_app]
    simp only [List.append_assoc, List.cons_append]
  · unfold sigC put8
    rw [u8s_app, u8s_app]
    simp only [List.append_assoc, List.cons_append]
theorem sigC_putP (z : Int) (op sh pa h : List Nat) (j : Nat) : sigC z op sh pa = (.int .i64 z :: (u8s op ++ (u8s sh ++ u8s (pa.take (j * 8))))) ++ u8s (pc 8 pa j) ++ u8s (pa.drop (j * 8 + 8)) ∧
    (Go.Value.int .i64 z :: (u8s op ++ (u8s sh ++ u8s (pa.take (j * 8))))) ++ u8s h ++ u8s (pa.drop (j * 8 + 8)) = sigC z op sh (put8 pa j h) := by
  refine ⟨?_, ?_⟩
  · rw [sigC]
    conv => lhs; rw [← put8_old pa j]
    rw [u8s_app, u8s_app]
    simp only [List.append_assoc, List.cons_append]
  · unfold sigC put8
    rw [u8s_app, u8s_app]
    simp only [List.append_assoc, List.cons_append]
end Go.Sha
namespace Go.Proofs.YtilfbomjaflbjaaDoor
open Go Go.Vc Go.Sha

theorem SignTree_good (seed m : List Nat) {i : Nat} (hi : i < 8) (hs : seed.length = 8) (hlt : ∀ x ∈ seed, x < 256) (hm8 : m.length = 8) (hmlt : ∀ x ∈ m, x < 256) (w : World) :
    Gives Tryd.prog 14 [.agg (u8s seed).toArray, .int .i64 (i : Int), .agg (u8s m).toArray] (.tuple #[.agg (sgo seed i m).toArray, .bool true]) w := by
  have h := SignTree_calls seed m hs hlt hm8 hmlt (i : Int) w
  obtain ⟨e1, e2⟩ := sg_good seed m hi
  rw [e1, e2] at h
  exact h

set_option maxRecDepth 10000 in
theorem KeytreeChecks_calls (A : List Nat) (hA : A.length = 3 * 8) (hAlt : ∀ x ∈ A, x < 256) (k : Nat) (hk : k < 256) (B : List Nat) (hB : B.length = 2) (hBlt : ∀ x ∈ B, x < 256) (w : World) (hK : Laid w) :
    Gives Tryd.prog 4 [.agg (u8s A).toArray, .int .u8 k, .agg (u8s B).toArray] (.bool true) w := by
  refine enter Tryd.func4 rfl (Mem.nil w []) rfl ?_
  obtain ⟨x0, x1, rfl⟩ : ∃ x0 x1, B = [x0, x1] := by
    match B, hB with
    | [x0, x1], _ => exact ⟨x0, x1, rfl⟩
  have hx0 := hBlt x0 (by simp)
  have hx1 := hBlt x1 (by simp)
  have a0 := pc_len hA (show 0 < 3 by decide)
  have a1 := pc_len hA (show 1 < 3 by decide)
  have a2 := pc_len hA (show 2 < 3 by decide)
  have t0 := pc_lt (c := 8) hAlt 0
  have t1 := pc_lt (c := 8) hAlt 1
  have t2 := pc_lt (c := 8) hAlt 2
  have hS := fun w' => SignTree_good (pc 8 A 0) (pc 8 A 1) (i := k % 8) (by omega) a0 t0 a1 t1 w'
  have hT := fun w' => ref_Tree_calls (pc 8 A 0) a0 t0 w'
  have hsl := sgo_len (pc 8 A 0) (pc 8 A 1) (i := k % 8) (by omega)
  rw [show sgo (pc 8 A 0) (k % 8) (pc 8 A 1) = sigC ((k % 8 : Nat) : Int) (rowOf (opened (pc 8 A 0) (k % 8) (pc 8 A 1)) 16) (rowOf (shutd (pc 8 A 0) (k % 8) (pc 8 A 1)) 16) (wayOf (pc 8 A 0) (k % 8)).flatten from rfl] at hS hsl
  have hrl := treeOf_len (pc 8 A 0)
  have h1 := rowOf_len (opened_len (pc 8 A 0) (k % 8) (pc 8 A 1)) 16
  have h2 := rowOf_len (shutd_len (pc 8 A 0) (k % 8) (pc 8 A 1)) 16
  have h3 := wayOf_flat (pc 8 A 0) (i := k % 8) (by omega)
  have h1' := rowOf_lt (opened_lt (pc 8 A 0) (k % 8) (pc 8 A 1)) 16
  have h2' := rowOf_lt (shutd_lt (pc 8 A 0) (k % 8) (pc 8 A 1)) 16
  have h3' := (wayOf_HL (pc 8 A 0) (k % 8)).flat_lt
  generalize rowOf (opened (pc 8 A 0) (k % 8) (pc 8 A 1)) 16 = op at *
  generalize rowOf (shutd (pc 8 A 0) (k % 8) (pc 8 A 1)) 16 = sh at *
  generalize (wayOf (pc 8 A 0) (k % 8)).flatten = pa at *
  generalize treeOf (pc 8 A 0) = rt at *
  (repeat refine RC.seq ?_); refine RC.region ?_
  refine Run.mk rfl rfl rfl (New.boxA rfl rfl) ?_
  intro b3
  refine Run.mk rfl rfl rfl (New.boxA rfl rfl) ?_
  intro b5
  refine Run.v rfl rfl rfl (Val.of rfl) ?_
  refine Run.nil (RQ.next ?_)
  (repeat refine RC.seq ?_); refine RC.region ?_
  refine Run.callV Tryd.func11 rfl rfl rfl rfl rfl rfl rfl (fun w' hm => kt_awake_calls w' (hK.fr hm.fr (by simp))) ?_
  refine Run.v rfl rfl rfl (Val.of rfl) ?_
  refine Run.nil (RQ.next ?_)
  (repeat refine RC.seq ?_); refine RC.condF rfl rfl (RC.skip (RQ.next ?_))
  (repeat refine RC.seq ?_); refine RC.region ?_
  refine Run.v rfl rfl rfl (Val.ix tabOk 0 (off' := 0) rfl rfl rfl rfl rfl rfl rfl (by decide) rfl) ?_
  refine Run.v rfl rfl rfl (Val.loadPc tabOk 0 (c := 8) rfl rfl rfl rfl (by repeat (first | exact List.mem_cons_self | apply List.mem_cons_of_mem | apply List.mem_append_right)) rfl rfl a0) ?_
  refine Run.v rfl rfl rfl (Val.of rfl) ?_
  refine Run.v rfl rfl rfl (Val.convIn tabOk rfl rfl rfl rfl rfl rfl (by dsimp only [inK]; omega)) ?_
  refine Run.v rfl rfl rfl (Val.remN rfl rfl rfl rfl (by decide)) ?_
  refine Run.v rfl rfl rfl (Val.ix tabOk 1 (off' := 8) rfl rfl rfl rfl rfl rfl rfl (by decide) rfl) ?_
  refine Run.v rfl rfl rfl (Val.loadPc tabOk 1 (c := 8) rfl rfl rfl rfl (by repeat (first | exact List.mem_cons_self | apply List.mem_cons_of_mem | apply List.mem_append_right)) rfl rfl a1) ?_
  refine Run.callV Tryd.func14 rfl rfl rfl rfl rfl rfl rfl (fun w' _ => hS w') ?_
  refine Run.v rfl rfl rfl (Val.of rfl) ?_
  refine Run.v rfl rfl rfl (Val.of rfl) ?_
  refine Run.v rfl rfl rfl (Val.of rfl) ?_
  refine Run.mk rfl rfl rfl (New.allocTo tabOk (cs := sgz.toArray) rfl rfl (by kernel_rfl)) ?_
  intro b7
  refine Run.op rfl (OpTo.setV tabOk [] sgz (sigC ((k % 8 : Nat) : Int) op sh pa) [] rfl rfl rfl rfl rfl (List.Perm.refl _) rfl (by simp) rfl (by rw [sgz_len, hsl]) (by rw [hsl]; rfl) sigC_one) (fun _ => ?_)
  rw [List.nil_append, List.append_nil]
  refine Run.v rfl rfl rfl (Val.of rfl) ?_
  refine Run.nil (RQ.next ?_)
  (repeat refine RC.seq ?_); refine RC.region ?_
  refine Run.v rfl rfl rfl (Val.ix tabOk 0 (off' := 0) rfl rfl rfl rfl rfl rfl rfl (by decide) rfl) ?_
  refine Run.v rfl rfl rfl (Val.loadPc tabOk 0 (c := 8) rfl rfl rfl rfl (by repeat (first | exact List.mem_cons_self | apply List.mem_cons_of_mem | apply List.mem_append_right)) rfl rfl a0) ?_
  refine Run.callV Tryd.func16 rfl rfl rfl rfl rfl rfl rfl (fun w' _ => hT w') ?_
  refine Run.mk rfl rfl rfl (New.alloc tabOk rfl rfl) ?_
  intro b9
  refine Run.op rfl (OpTo.setAll tabOk rfl rfl rfl rfl rfl (List.Perm.refl _) hrl rfl) (fun _ => ?_)
  refine Run.nil (RQ.next ?_)
  (repeat refine RC.seq ?_); refine RC.region ?_
  refine Run.v rfl rfl rfl (Val.ix tabOk 1 (off' := 8) rfl rfl rfl rfl rfl rfl rfl (by decide) rfl) ?_
  refine Run.v rfl rfl rfl (Val.loadPc tabOk 1 (c := 8) rfl rfl rfl rfl (by repeat (first | exact List.mem_cons_self | apply List.mem_cons_of_mem | apply List.mem_append_right)) rfl rfl a1) ?_
  refine Run.mk rfl rfl rfl (New.alloc tabOk rfl rfl) ?_
  intro b10
  refine Run.op rfl (OpTo.setAll tabOk rfl rfl rfl rfl rfl (List.Perm.refl _) a1 rfl) (fun _ => ?_)
  refine Run.nil (RQ.next ?_)
  (repeat refine RC.seq ?_); refine RC.region ?_
  refine Run.v rfl rfl rfl (Val.ix tabOk 0 (off' := 0) rfl rfl rfl rfl rfl rfl rfl (by decide) rfl) ?_
  refine Run.v rfl rfl rfl (Val.load (v := .int .u8 x0) tabOk rfl rfl rfl (by repeat (first | exact List.mem_cons_self | apply List.mem_cons_of_mem | apply List.mem_append_right)) rfl) ?_
  refine Run.v rfl rfl rfl (Val.remN rfl rfl rfl rfl (by decide)) ?_
  refine Run.nil (RQ.next ?_)
  have hs8 : x0 % 8 < 8 := by omega
  generalize x0 % 8 = s at *
  refine RC.thenCut (Y := Ck) (fun _ => [(7, .pointer (some ⟨b7, 0, none⟩)), (9, .pointer (some ⟨b9, 0, none⟩)), (10, .pointer (some ⟨b10, 0, none⟩))])
    (fun c => [(b10, .cells (u8s c.m).toArray 23 (0, 0)), (b9, .cells (u8s c.root).toArray 23 (0, 0)), (b7, .cells (sigC c.z c.op c.sh c.pa).toArray 30 (0, 0))]) ?_ (fun c => ?_)
  · refine RC.block ?_
    match s, hs8 with
    | 0, _ =>
      (repeat refine RC.seq ?_); refine RC.region ?_
      refine Run.v rfl rfl rfl (Val.of rfl) ?_
      refine Run.v rfl rfl rfl (Val.of rfl) ?_
      refine Run.nil (RQ.next ?_)
      (repeat refine RC.seq ?_); refine RC.condF rfl rfl ?_
      (repeat refine RC.seq ?_); refine RC.region ?_
      refine Run.v rfl rfl rfl (Val.of rfl) ?_
      refine Run.v rfl rfl rfl (Val.of rfl) ?_
      refine Run.nil (RQ.next ?_)
      (repeat refine RC.seq ?_); refine RC.condF rfl rfl ?_
      (repeat refine RC.seq ?_); refine RC.region ?_
      refine Run.v rfl rfl rfl (Val.of rfl) ?_
      refine Run.v rfl rfl rfl (Val.of rfl) ?_
      refine Run.nil (RQ.next ?_)
      (repeat refine RC.seq ?_); refine RC.condF rfl rfl ?_
      (repeat refine RC.seq ?_); refine RC.region ?_
      refine Run.v rfl rfl rfl (Val.of rfl) ?_
      refine Run.v rfl rfl rfl (Val.of rfl) ?_
      refine Run.nil (RQ.next ?_)
      (repeat refine RC.seq ?_); refine RC.condF rfl rfl ?_
      (repeat refine RC.seq ?_); refine RC.region ?_
      refine Run.v rfl rfl rfl (Val.of rfl) ?_
      refine Run.v rfl rfl rfl (Val.of rfl) ?_
      refine Run.nil (RQ.next ?_)
      (repeat refine RC.seq ?_); refine RC.condF rfl rfl ?_
      (repeat refine RC.seq ?_); refine RC.region ?_
      refine Run.v rfl rfl rfl (Val.of rfl) ?_
      refine Run.v rfl rfl rfl (Val.of rfl) ?_
      refine Run.nil (RQ.next ?_)
      (repeat refine RC.seq ?_); refine RC.condF rfl rfl ?_
      (repeat refine RC.seq ?_); refine RC.region ?_
      refine Run.v rfl rfl rfl (Val.of rfl) ?_
      refine Run.v rfl rfl rfl (Val.of rfl) ?_
      refine Run.nil (RQ.next ?_)
      (repeat refine RC.seq ?_); refine RC.condF rfl rfl (RC.skip (RQ.blockNormal ?_))
      exact RQ.toP ⟨rt, (pc 8 A 1), ((k % 8 : Nat) : Int), op, sh, pa, hrl, a1, t1, h1, h1', h2, h2', h3, h3'⟩ ⟨rfl, rfl, rfl, trivial⟩ (List.Perm.refl _) (by repeat (first | exact List.nil_sublist _ | exact List.Sublist.refl _ | apply List.Sublist.cons_cons | apply List.Sublist.cons | apply Go.Vc.subApp))
    | 1, _ =>
      (repeat refine RC.seq ?_); refine RC.region ?_
      refine Run.v rfl rfl rfl (Val.of rfl) ?_
      refine Run.v rfl rfl rfl (Val.of rfl) ?_
      refine Run.nil (RQ.next ?_)
      (repeat refine RC.seq ?_); refine RC.condT rfl rfl ?_
      (repeat refine RC.seq ?_); refine RC.region ?_
      refine Run.v rfl rfl rfl (Val.ix tabOk 2 (off' := 16) rfl rfl rfl rfl rfl rfl rfl (by decide) rfl) ?_
      refine Run.v rfl rfl rfl (Val.loadPc tabOk 2 (c := 8) rfl rfl rfl rfl (by repeat (first | exact List.mem_cons_self | apply List.mem_cons_of_mem | apply List.mem_append_right)) rfl rfl a2) ?_
      refine Run.op rfl (OpTo.setAll tabOk rfl rfl rfl rfl rfl (List.Perm.refl _) a2 (by rw [List.size_toArray, u8s_len, a1]; rfl)) (fun _ => ?_)
      refine Run.nil (RQ.blockNormal ?_)
      exact RQ.toP ⟨rt, (pc 8 A 2), ((k % 8 : Nat) : Int), op, sh, pa, hrl, a2, t2, h1, h1', h2, h2', h3, h3'⟩ ⟨rfl, rfl, rfl, trivial⟩ (List.Perm.refl _) (by repeat (first | exact List.nil_sublist _ | exact List.Sublist.refl _ | apply List.Sublist.cons_cons | apply List.Sublist.cons | apply Go.Vc.subApp))
    | 2, _ =>
      (repeat refine RC.seq ?_); refine RC.region ?_
      refine Run.v rfl rfl rfl (Val.of rfl) ?_
      refine Run.v rfl rfl rfl (Val.of rfl) ?_
      refine Run.nil (RQ.next ?_)
      (repeat refine RC.seq ?_); refine RC.condF rfl rfl ?_
      (repeat refine RC.seq ?_); refine RC.region ?_
      refine Run.v rfl rfl rfl (Val.of rfl) ?_
      refine Run.v rfl rfl rfl (Val.of rfl) ?_
      refine Run.nil (RQ.next ?_)
      (repeat refine RC.seq ?_); refine RC.condT rfl rfl ?_
      (repeat refine RC.seq ?_); refine RC.region ?_
      refine Run.v rfl rfl rfl (Val.ix tabOk 2 (off' := 16) rfl rfl rfl rfl rfl rfl rfl (by decide) rfl) ?_
      refine Run.v rfl rfl rfl (Val.loadPc tabOk 2 (c := 8) rfl rfl rfl rfl (by repeat (first | exact List.mem_cons_self | apply List.mem_cons_of_mem | apply List.mem_append_right)) rfl rfl a2) ?_
      refine Run.op rfl (OpTo.setAll tabOk rfl rfl rfl rfl rfl p1 a2 (by rw [List.size_toArray, u8s_len, hrl]; rfl)) (fun _ => ?_)
      refine Run.nil (RQ.blockNormal ?_)
      exact RQ.toP ⟨(pc 8 A 2), (pc 8 A 1), ((k % 8 : Nat) : Int), op, sh, pa, a2, a1, t1, h1, h1', h2, h2', h3, h3'⟩ ⟨rfl, rfl, rfl, trivial⟩ p1 (by repeat (first | exact List.nil_sublist _ | exact List.Sublist.refl _ | apply List.Sublist.cons_cons | apply List.Sublist.cons | apply Go.Vc.subApp))
    | 3, _ =>
      (repeat refine RC.seq ?_); refine RC.region ?_
      refine Run.v rfl rfl rfl (Val.of rfl) ?_
      refine Run.v rfl rfl rfl (Val.of rfl) ?_
      refine Run.nil (RQ.next ?_)
      (repeat refine RC.seq ?_); refine RC.condF rfl rfl ?_
      (repeat refine RC.seq ?_); refine RC.region ?_
      refine Run.v rfl rfl rfl (Val.of rfl) ?_
      refine Run.v rfl rfl rfl (Val.of rfl) ?_
      refine Run.nil (RQ.next ?_)
      (repeat refine RC.seq ?_); refine RC.condF rfl rfl ?_
      (repeat refine RC.seq ?_); refine RC.region ?_
      refine Run.v rfl rfl rfl (Val.of rfl) ?_
      refine Run.v rfl rfl rfl (Val.of rfl) ?_
      refine Run.nil (RQ.next ?_)
      (repeat refine RC.seq ?_); refine RC.condT rfl rfl ?_
      (repeat refine RC.seq ?_); refine RC.region ?_
      refine Run.v rfl rfl rfl (Val.ix tabOk 1 (off' := 1) rfl rfl rfl rfl rfl rfl rfl (by decide) rfl) ?_
      refine Run.v rfl rfl rfl (Val.load (v := .int .u8 x1) tabOk rfl rfl rfl (by repeat (first | exact List.mem_cons_self | apply List.mem_cons_of_mem | apply List.mem_append_right)) rfl) ?_
      refine Run.v rfl rfl rfl (Val.convIn tabOk rfl rfl rfl rfl rfl rfl (by dsimp only [inK]; omega)) ?_
      refine Run.v rfl rfl rfl (Val.fieldAddr tabOk rfl rfl rfl rfl rfl rfl rfl rfl) ?_
      refine Run.op rfl (OpTo.setV tabOk [] [Value.int .i64 ((k % 8 : Nat) : Int)] [Value.int .i64 (x1 : Int)] (u8s op ++ (u8s sh ++ u8s pa)) rfl rfl rfl rfl rfl p2 rfl (sigC_z _ (x1 : Int) op sh pa).1 rfl rfl rfl (fun u hu => by rw [List.mem_singleton] at hu; subst hu; rfl)) (fun _ => ?_)
      rw [(sigC_z ((k % 8 : Nat) : Int) (x1 : Int) op sh pa).2]
      refine Run.nil (RQ.blockNormal ?_)
      exact RQ.toP ⟨rt, (pc 8 A 1), (x1 : Int), op, sh, pa, hrl, a1, t1, h1, h1', h2, h2', h3, h3'⟩ ⟨rfl, rfl, rfl, trivial⟩ p2.symm (by repeat (first | exact List.nil_sublist _ | exact List.Sublist.refl _ | apply List.Sublist.cons_cons | apply List.Sublist.cons | apply Go.Vc.subApp))
    | 4, _ =>
      (repeat refine RC.seq ?_); refine RC.region ?_
      refine Run.v rfl rfl rfl (Val.of rfl) ?_
      refine Run.v rfl rfl rfl (Val.of rfl) ?_
      refine Run.nil (RQ.next ?_)
      (repeat refine RC.seq ?_); refine RC.condF rfl rfl ?_
      (repeat refine RC.seq ?_); refine RC.region ?_
      refine Run.v rfl rfl rfl (Val.of rfl) ?_
      refine Run.v rfl rfl rfl (Val.of rfl) ?_
      refine Run.nil (RQ.next ?_)
      (repeat refine RC.seq ?_); refine RC.condF rfl rfl ?_
      (repeat refine RC.seq ?_); refine RC.region ?_
      refine Run.v rfl rfl rfl (Val.of rfl) ?_
      refine Run.v rfl rfl rfl (Val.of rfl) ?_
      refine Run.nil (RQ.next ?_)
      (repeat refine RC.seq ?_); refine RC.condF rfl rfl ?_
      (repeat refine RC.seq ?_); refine RC.region ?_
      refine Run.v rfl rfl rfl (Val.of rfl) ?_
      refine Run.v rfl rfl rfl (Val.of rfl) ?_
      refine Run.nil (RQ.next ?_)
      (repeat refine RC.seq ?_); refine RC.condT rfl rfl ?_
      (repeat refine RC.seq ?_); refine RC.region ?_
      refine Run.v rfl rfl rfl (Val.ix tabOk 1 (off' := 1) rfl rfl rfl rfl rfl rfl rfl (by decide) rfl) ?_
      refine Run.v rfl rfl rfl (Val.load (v := .int .u8 x1) tabOk rfl rfl rfl (by repeat (first | exact List.mem_cons_self | apply List.mem_cons_of_mem | apply List.mem_append_right)) rfl) ?_
      refine Run.v rfl rfl rfl (Val.remN rfl rfl rfl rfl (by decide)) ?_
      have hj : x1 % 16 < 16 := Nat.mod_lt _ (by decide)
      generalize x1 % 16 = j at *
      refine Run.v rfl rfl rfl (Val.ix tabOk 2 (off' := 16) rfl rfl rfl rfl rfl rfl rfl (by decide) rfl) ?_
      refine Run.v rfl rfl rfl (Val.loadPc tabOk 2 (c := 8) rfl rfl rfl rfl (by repeat (first | exact List.mem_cons_self | apply List.mem_cons_of_mem | apply List.mem_append_right)) rfl rfl a2) ?_
      refine Run.v rfl rfl rfl (Val.fieldAddr tabOk rfl rfl rfl rfl rfl rfl rfl rfl) ?_
      refine Run.v rfl rfl rfl (Val.ix tabOk j (off' := 1 + j * 8) rfl rfl rfl rfl rfl rfl rfl hj (by simp [ti23])) ?_
      refine Run.op rfl (OpTo.setV tabOk (Value.int .i64 ((k % 8 : Nat) : Int) :: u8s (op.take (j * 8))) (u8s (pc 8 op j)) (u8s (pc 8 A 2)) (u8s (op.drop (j * 8 + 8)) ++ (u8s sh ++ u8s pa)) rfl rfl rfl rfl rfl p2 rfl (sigC_putO _ op sh pa (pc 8 A 2) j).1 (by simp [u8s_len, put8_take (show op.length = 16 * 8 from h1) hj]; omega) (by rw [u8s_len, u8s_len, pc_len (show op.length = 16 * 8 from h1) hj, a2]) (by rw [u8s_len, a2]; rfl) (u8s_one _)) (fun _ => ?_)
      rw [(sigC_putO ((k % 8 : Nat) : Int) op sh pa (pc 8 A 2) j).2]
      refine Run.nil (RQ.blockNormal ?_)
      exact RQ.toP ⟨rt, (pc 8 A 1), ((k % 8 : Nat) : Int), (put8 op j (pc 8 A 2)), sh, pa, hrl, a1, t1, (put8_len (show op.length = 16 * 8 from h1) hj a2), (put8_lt h1' t2), h2, h2', h3, h3'⟩ ⟨rfl, rfl, rfl, trivial⟩ p2.symm (by repeat (first | exact List.nil_sublist _ | exact List.Sublist.refl _ | apply List.Sublist.cons_cons | apply List.Sublist.cons | apply Go.Vc.subApp))
    | 5, _ =>
      (repeat refine RC.seq ?_); refine RC.region ?_
      refine Run.v rfl rfl rfl (Val.of rfl) ?_
      refine Run.v rfl rfl rfl (Val.of rfl) ?_
      refine Run.nil (RQ.next ?_)
      (repeat refine RC.seq ?_); refine RC.condF rfl rfl ?_
      (repeat refine RC.seq ?_); refine RC.region ?_
      refine Run.v rfl rfl rfl (Val.of rfl) ?_
      refine Run.v rfl rfl rfl (Val.of rfl) ?_
      refine Run.nil (RQ.next ?_)
      (repeat refine RC.seq ?_); refine RC.condF rfl rfl ?_
      (repeat refine RC.seq ?_); refine RC.region ?_
      refine Run.v rfl rfl rfl (Val.of rfl) ?_
      refine Run.v rfl rfl rfl (Val.of rfl) ?_
      refine Run.nil (RQ.next ?_)
      (repeat refine RC.seq ?_); refine RC.condF rfl rfl ?_
      (repeat refine RC.seq ?_); refine RC.region ?_
      refine Run.v rfl rfl rfl (Val.of rfl) ?_
      refine Run.v rfl rfl rfl (Val.of rfl) ?_
      refine Run.nil (RQ.next ?_)
      (repeat refine RC.seq ?_); refine RC.condF rfl rfl ?_
      (repeat refine RC.seq ?_); refine RC.region ?_
      refine Run.v rfl rfl rfl (Val.of rfl) ?_
      refine Run.v rfl rfl rfl (Val.of rfl) ?_
      refine Run.nil (RQ.next ?_)
      (repeat refine RC.seq ?_); refine RC.condT rfl rfl ?_
      (repeat refine RC.seq ?_); refine RC.region ?_
      refine Run.v rfl rfl rfl (Val.ix tabOk 1 (off' := 1) rfl rfl rfl rfl rfl rfl rfl (by decide) rfl) ?_
      refine Run.v rfl rfl rfl (Val.load (v := .int .u8 x1) tabOk rfl rfl rfl (by repeat (first | exact List.mem_cons_self | apply List.mem_cons_of_mem | apply List.mem_append_right)) rfl) ?_
      refine Run.v rfl rfl rfl (Val.remN rfl rfl rfl rfl (by decide)) ?_
      have hj : x1 % 16 < 16 := Nat.mod_lt _ (by decide)
      generalize x1 % 16 = j at *
      refine Run.v rfl rfl rfl (Val.ix tabOk 2 (off' := 16) rfl rfl rfl rfl rfl rfl rfl (by decide) rfl) ?_
      refine Run.v rfl rfl rfl (Val.loadPc tabOk 2 (c := 8) rfl rfl rfl rfl (by repeat (first | exact List.mem_cons_self | apply List.mem_cons_of_mem | apply List.mem_append_right)) rfl rfl a2) ?_
      refine Run.v rfl rfl rfl (Val.fieldAddr tabOk rfl rfl rfl rfl rfl rfl rfl rfl) ?_
      refine Run.v rfl rfl rfl (Val.ix tabOk j (off' := 129 + j * 8) rfl rfl rfl rfl rfl rfl rfl hj (by simp [ti23])) ?_
      refine Run.op rfl (OpTo.setV tabOk (Value.int .i64 ((k % 8 : Nat) : Int) :: (u8s op ++ u8s (sh.take (j * 8)))) (u8s (pc 8 sh j)) (u8s (pc 8 A 2)) (u8s (sh.drop (j * 8 + 8)) ++ u8s pa) rfl rfl rfl rfl rfl p2 rfl (sigC_putS _ op sh pa (pc 8 A 2) j).1 (by simp [u8s_len, h1, put8_take (show sh.length = 16 * 8 from h2) hj]; omega) (by rw [u8s_len, u8s_len, pc_len (show sh.length = 16 * 8 from h2) hj, a2]) (by rw [u8s_len, a2]; rfl) (u8s_one _)) (fun _ => ?_)
      rw [(sigC_putS ((k % 8 : Nat) : Int) op sh pa (pc 8 A 2) j).2]
      refine Run.nil (RQ.blockNormal ?_)
      exact RQ.toP ⟨rt, (pc 8 A 1), ((k % 8 : Nat) : Int), op, (put8 sh j (pc 8 A 2)), pa, hrl, a1, t1, h1, h1', (put8_len (show sh.length = 16 * 8 from h2) hj a2), (put8_lt h2' t2), h3, h3'⟩ ⟨rfl, rfl, rfl, trivial⟩ p2.symm (by repeat (first | exact List.nil_sublist _ | exact List.Sublist.refl _ | apply List.Sublist.cons_cons | apply List.Sublist.cons | apply Go.Vc.subApp))
    | 6, _ =>
      (repeat refine RC.seq ?_); refine RC.region ?_
      refine Run.v rfl rfl rfl (Val.of rfl) ?_
      refine Run.v rfl rfl rfl (Val.of rfl) ?_
      refine Run.nil (RQ.next ?_)
      (repeat refine RC.seq ?_); refine RC.condF rfl rfl ?_
      (repeat refine RC.seq ?_); refine RC.region ?_
      refine Run.v rfl rfl rfl (Val.of rfl) ?_
      refine Run.v rfl rfl rfl (Val.of rfl) ?_
      refine Run.nil (RQ.next ?_)
      (repeat refine RC.seq ?_); refine RC.condF rfl rfl ?_
      (repeat refine RC.seq ?_); refine RC.region ?_
      refine Run.v rfl rfl rfl (Val.of rfl) ?_
      refine Run.v rfl rfl rfl (Val.of rfl) ?_
      refine Run.nil (RQ.next ?_)
      (repeat refine RC.seq ?_); refine RC.condF rfl rfl ?_
      (repeat refine RC.seq ?_); refine RC.region ?_
      refine Run.v rfl rfl rfl (Val.of rfl) ?_
      refine Run.v rfl rfl rfl (Val.of rfl) ?_
      refine Run.nil (RQ.next ?_)
      (repeat refine RC.seq ?_); refine RC.condF rfl rfl ?_
      (repeat refine RC.seq ?_); refine RC.region ?_
      refine Run.v rfl rfl rfl (Val.of rfl) ?_
      refine Run.v rfl rfl rfl (Val.of rfl) ?_
      refine Run.nil (RQ.next ?_)
      (repeat refine RC.seq ?_); refine RC.condF rfl rfl ?_
      (repeat refine RC.seq ?_); refine RC.region ?_
      refine Run.v rfl rfl rfl (Val.of rfl) ?_
      refine Run.v rfl rfl rfl (Val.of rfl) ?_
      refine Run.nil (RQ.next ?_)
      (repeat refine RC.seq ?_); refine RC.condT rfl rfl ?_
      (repeat refine RC.seq ?_); refine RC.region ?_
      refine Run.v rfl rfl rfl (Val.ix tabOk 1 (off' := 1) rfl rfl rfl rfl rfl rfl rfl (by decide) rfl) ?_
      refine Run.v rfl rfl rfl (Val.load (v := .int .u8 x1) tabOk rfl rfl rfl (by repeat (first | exact List.mem_cons_self | apply List.mem_cons_of_mem | apply List.mem_append_right)) rfl) ?_
      refine Run.v rfl rfl rfl (Val.remN rfl rfl rfl rfl (by decide)) ?_
      have hj : x1 % 3 < 3 := Nat.mod_lt _ (by decide)
      generalize x1 % 3 = j at *
      refine Run.v rfl rfl rfl (Val.ix tabOk 2 (off' := 16) rfl rfl rfl rfl rfl rfl rfl (by decide) rfl) ?_
      refine Run.v rfl rfl rfl (Val.loadPc tabOk 2 (c := 8) rfl rfl rfl rfl (by repeat (first | exact List.mem_cons_self | apply List.mem_cons_of_mem | apply List.mem_append_right)) rfl rfl a2) ?_
      refine Run.v rfl rfl rfl (Val.fieldAddr tabOk rfl rfl rfl rfl rfl rfl rfl rfl) ?_
      refine Run.v rfl rfl rfl (Val.ix tabOk j (off' := 257 + j * 8) rfl rfl rfl rfl rfl rfl rfl hj (by simp [ti23])) ?_
      refine Run.op rfl (OpTo.setV tabOk (Value.int .i64 ((k % 8 : Nat) : Int) :: (u8s op ++ (u8s sh ++ u8s (pa.take (j * 8))))) (u8s (pc 8 pa j)) (u8s (pc 8 A 2)) (u8s (pa.drop (j * 8 + 8))) rfl rfl rfl rfl rfl p2 rfl (sigC_putP _ op sh pa (pc 8 A 2) j).1 (by simp [u8s_len, h1, h2, put8_take (show pa.length = 3 * 8 from h3) hj]; omega) (by rw [u8s_len, u8s_len, pc_len (show pa.length = 3 * 8 from h3) hj, a2]) (by rw [u8s_len, a2]; rfl) (u8s_one _)) (fun _ => ?_)
      rw [(sigC_putP ((k % 8 : Nat) : Int) op sh pa (pc 8 A 2) j).2]
      refine Run.nil (RQ.blockNormal ?_)
      exact RQ.toP ⟨rt, (pc 8 A 1), ((k % 8 : Nat) : Int), op, sh, (put8 pa j (pc 8 A 2)), hrl, a1, t1, h1, h1', h2, h2', (put8_len (show pa.length = 3 * 8 from h3) hj a2), (put8_lt h3' t2)⟩ ⟨rfl, rfl, rfl, trivial⟩ p2.symm (by repeat (first | exact List.nil_sublist _ | exact List.Sublist.refl _ | apply List.Sublist.cons_cons | apply List.Sublist.cons | apply Go.Vc.subApp))
    | 7, _ =>
      (repeat refine RC.seq ?_); refine RC.region ?_
      refine Run.v rfl rfl rfl (Val.of rfl) ?_
      refine Run.v rfl rfl rfl (Val.of rfl) ?_
      refine Run.nil (RQ.next ?_)
      (repeat refine RC.seq ?_); refine RC.condF rfl rfl ?_
      (repeat refine RC.seq ?_); refine RC.region ?_
      refine Run.v rfl rfl rfl (Val.of rfl) ?_
      refine Run.v rfl rfl rfl (Val.of rfl) ?_
      refine Run.nil (RQ.next ?_)
      (repeat refine RC.seq ?_); refine RC.condF rfl rfl ?_
      (repeat refine RC.seq ?_); refine RC.region ?_
      refine Run.v rfl rfl rfl (Val.of rfl) ?_
      refine Run.v rfl rfl rfl (Val.of rfl) ?_
      refine Run.nil (RQ.next ?_)
      (repeat refine RC.seq ?_); refine RC.condF rfl rfl ?_
      (repeat refine RC.seq ?_); refine RC.region ?_
      refine Run.v rfl rfl rfl (Val.of rfl) ?_
      refine Run.v rfl rfl rfl (Val.of rfl) ?_
      refine Run.nil (RQ.next ?_)
      (repeat refine RC.seq ?_); refine RC.condF rfl rfl ?_
      (repeat refine RC.seq ?_); refine RC.region ?_
      refine Run.v rfl rfl rfl (Val.of rfl) ?_
      refine Run.v rfl rfl rfl (Val.of rfl) ?_
      refine Run.nil (RQ.next ?_)
      (repeat refine RC.seq ?_); refine RC.condF rfl rfl ?_
      (repeat refine RC.seq ?_); refine RC.region ?_
      refine Run.v rfl rfl rfl (Val.of rfl) ?_
      refine Run.v rfl rfl rfl (Val.of rfl) ?_
      refine Run.nil (RQ.next ?_)
      (repeat refine RC.seq ?_); refine RC.condF rfl rfl ?_
      (repeat refine RC.seq ?_); refine RC.region ?_
      refine Run.v rfl rfl rfl (Val.of rfl) ?_
      refine Run.v rfl rfl rfl (Val.of rfl) ?_
      refine Run.nil (RQ.next ?_)
      (repeat refine RC.seq ?_); refine RC.condT rfl rfl ?_
      (repeat refine RC.seq ?_); refine RC.region ?_
      refine Run.v rfl rfl rfl (Val.ix tabOk 1 (off' := 1) rfl rfl rfl rfl rfl rfl rfl (by decide) rfl) ?_
      refine Run.v rfl rfl rfl (Val.load (v := .int .u8 x1) tabOk rfl rfl rfl (by repeat (first | exact List.mem_cons_self | apply List.mem_cons_of_mem | apply List.mem_append_right)) rfl) ?_
      refine Run.v rfl rfl rfl (Val.convIn tabOk rfl rfl rfl rfl rfl rfl (by dsimp only [inK]; omega)) ?_
      refine Run.v rfl rfl rfl (Val.ar rfl rfl rfl rfl (by dsimp only [inK]; omega)) ?_
      refine Run.v rfl rfl rfl (Val.fieldAddr tabOk rfl rfl rfl rfl rfl rfl rfl rfl) ?_
      refine Run.op rfl (OpTo.setV tabOk [] [Value.int .i64 ((k % 8 : Nat) : Int)] [Value.int .i64 (-1 - (x1 : Int))] (u8s op ++ (u8s sh ++ u8s pa)) rfl rfl rfl rfl rfl p2 rfl (sigC_z _ (-1 - (x1 : Int)) op sh pa).1 rfl rfl rfl (fun u hu => by rw [List.mem_singleton] at hu; subst hu; rfl)) (fun _ => ?_)
      rw [(sigC_z ((k % 8 : Nat) : Int) (-1 - (x1 : Int)) op sh pa).2]
      refine Run.nil (RQ.blockNormal ?_)
      exact RQ.toP ⟨rt, (pc 8 A 1), (-1 - (x1 : Int)), op, sh, pa, hrl, a1, t1, h1, h1', h2, h2', h3, h3'⟩ ⟨rfl, rfl, rfl, trivial⟩ p2.symm (by repeat (first | exact List.nil_sublist _ | exact List.Sublist.refl _ | apply List.Sublist.cons_cons | apply List.Sublist.cons | apply Go.Vc.subApp))
  obtain ⟨root, m, z, op', sh', pa', hr, hm8, hmlt, g1, g1', g2, g2', g3, g3'⟩ := c
  dsimp only
  have hC := fun w' hK' => KCheck_calls root m z op' sh' pa' hr hm8 hmlt g1 g1' g2 g2' g3 g3' w' hK'
  have hD := fun w' => CheckTree_calls root m z op' sh' pa' hr hm8 hmlt g1 g1' g2 g2' g3 g3' w'
  have hsl' := sigC_len (z := z) g1 g2 g3
  generalize checkT root m z op' sh' pa' = ok at *
  (repeat refine RC.seq ?_); refine RC.drawS mixed (N := 10) rfl ?_
  refine DR.take 0 rfl (by repeat (first | exact List.nil_sublist _ | exact List.Sublist.refl _ | apply List.Sublist.cons_cons | apply List.Sublist.cons | apply Go.Vc.subApp)) inferInstance (by kernel_rfl) (by kernel_rfl) (by kernel_rfl) (by kernel_rfl) rfl rfl (Wanted.plain rfl) (Val.loadU tabOk rfl rfl rfl rfl (by repeat (first | exact List.mem_cons_self | apply List.mem_cons_of_mem | apply List.mem_append_right)) hr) ?_
  refine DR.take 1 rfl (by repeat (first | exact List.nil_sublist _ | exact List.Sublist.refl _ | apply List.Sublist.cons_cons | apply List.Sublist.cons | apply Go.Vc.subApp)) inferInstance (by kernel_rfl) (by kernel_rfl) (by kernel_rfl) (by kernel_rfl) rfl rfl (Wanted.plain rfl) (Val.loadU tabOk rfl rfl rfl rfl (by repeat (first | exact List.mem_cons_self | apply List.mem_cons_of_mem | apply List.mem_append_right)) hm8) ?_
  refine DR.take 2 rfl (by repeat (first | exact List.nil_sublist _ | exact List.Sublist.refl _ | apply List.Sublist.cons_cons | apply List.Sublist.cons | apply Go.Vc.subApp)) inferInstance (by kernel_rfl) (by kernel_rfl) (by kernel_rfl) (by kernel_rfl) rfl rfl (Wanted.plain rfl) (Val.loadAll tabOk rfl rfl rfl rfl m2 (by rw [List.size_toArray, hsl']; rfl)) ?_
  refine DR.take 4 rfl (by repeat (first | exact List.nil_sublist _ | exact List.Sublist.refl _ | apply List.Sublist.cons_cons | apply List.Sublist.cons | apply Go.Vc.subApp)) inferInstance (by kernel_rfl) (by kernel_rfl) (by kernel_rfl) (by kernel_rfl) rfl rfl (Wanted.plain rfl) (Val.loadU tabOk rfl rfl rfl rfl (by repeat (first | exact List.mem_cons_self | apply List.mem_cons_of_mem | apply List.mem_append_right)) hr) ?_
  refine DR.take 5 rfl (by repeat (first | exact List.nil_sublist _ | exact List.Sublist.refl _ | apply List.Sublist.cons_cons | apply List.Sublist.cons | apply Go.Vc.subApp)) inferInstance (by kernel_rfl) (by kernel_rfl) (by kernel_rfl) (by kernel_rfl) rfl rfl (Wanted.plain rfl) (Val.loadU tabOk rfl rfl rfl rfl (by repeat (first | exact List.mem_cons_self | apply List.mem_cons_of_mem | apply List.mem_append_right)) hm8) ?_
  refine DR.take 6 rfl (by repeat (first | exact List.nil_sublist _ | exact List.Sublist.refl _ | apply List.Sublist.cons_cons | apply List.Sublist.cons | apply Go.Vc.subApp)) inferInstance (by kernel_rfl) (by kernel_rfl) (by kernel_rfl) (by kernel_rfl) rfl rfl (Wanted.plain rfl) (Val.loadAll tabOk rfl rfl rfl rfl m2 (by rw [List.size_toArray, hsl']; rfl)) ?_
  refine DR.one (i := 3) (by kernel_rfl) ?_
  refine DOp.op rfl (Wanted.plain rfl) (OpTo.callV Tryd.func17 rfl rfl rfl rfl rfl rfl (fun w' hm => hC w' (hK.fr hm.fr (by simp)))) (.inl fun _ => (by repeat (first | exact List.nil_sublist _ | exact List.Sublist.refl _ | apply List.Sublist.cons_cons | apply List.Sublist.cons | apply Go.Vc.subApp))) (fun _ => ?_)
  refine DR.one (i := 7) (by kernel_rfl) ?_
  refine DOp.op rfl (Wanted.plain rfl) (OpTo.callV Tryd.func18 rfl rfl rfl rfl rfl rfl (fun w' _ => hD w')) (.inl fun _ => (by repeat (first | exact List.nil_sublist _ | exact List.Sublist.refl _ | apply List.Sublist.cons_cons | apply List.Sublist.cons | apply Go.Vc.subApp))) (fun _ => ?_)
  refine DR.take 8 rfl (by repeat (first | exact List.nil_sublist _ | exact List.Sublist.refl _ | apply List.Sublist.cons_cons | apply List.Sublist.cons | apply Go.Vc.subApp)) inferInstance (by kernel_rfl) (by kernel_rfl) (by kernel_rfl) (by kernel_rfl) rfl rfl (Wanted.plain rfl) (Val.eq (Val.eqBool tabOk rfl rfl rfl rfl rfl) (show _ = Value.bool true from by cases ok <;> rfl)) ?_
  refine DR.take 9 rfl (by repeat (first | exact List.nil_sublist _ | exact List.Sublist.refl _ | apply List.Sublist.cons_cons | apply List.Sublist.cons | apply Go.Vc.subApp)) inferInstance (by kernel_rfl) (by kernel_rfl) (by kernel_rfl) (by kernel_rfl) rfl rfl (Wanted.plain rfl) (Val.of rfl) ?_
  refine DR.done (by kernel_rfl) (RQ.next ?_)
  refine RC.ret ?_; (repeat first | refine RQ.thenRet ?_ | refine RQ.blockRet ?_); exact RQ.ret1 rfl (Res.tmp rfl) fun w' hm => ⟨rfl, hm.fr⟩
end Go.Proofs.YtilfbomjaflbjaaDoor
