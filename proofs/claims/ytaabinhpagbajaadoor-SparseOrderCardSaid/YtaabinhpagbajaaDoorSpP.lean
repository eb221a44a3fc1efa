/- sparse: SparsePuts, SparseProves. -/
import Derived.Test.YtaabinhpagbajaaDoorSpO
set_option linter.unusedSimpArgs false
set_option linter.unusedVariables false
namespace Go.Proofs.YtaabinhpagbajaaDoor
attribute [local irreducible] Go.Vc.Run Go.Vc.RC Go.Vc.RQ Go.Vc.DR Go.Vc.DOp
open Go Go.Vc Go.Sha
def rtL (l : Lvs) : List Nat := nodeF (lfF l) 16 0
def prL (l : Lvs) (i : Int) : List Nat := prfT (nodeF (lfF l)) i
theorem rtL_8 {l : Lvs} (ok : LvOk l) : H8 (rtL l) := nodeF_8 (lfF_ok ok) 16 0
theorem prL_len {l : Lvs} (ok : LvOk l) (i : Int) : (prL l i).length = 128 := prfT_len (fun q j => (nodeF_8 (lfF_ok ok) q j).1) i
theorem prL_lt {l : Lvs} (ok : LvOk l) (i : Int) : ∀ x ∈ prL l i, x < 256 := prfT_lt (lfF_ok ok) i
section
variable {tb mb lb : Nat} (p : FilP tb mb lb)
theorem FilP.hx {w : World} (hw : Has p.L w) : Has p.x.L w := fun q hq => hw q (List.mem_append_right _ hq)
theorem FilP.hy {w : World} (hw : Has p.L w) : LvW 39 w lb p.y.r := p.y.lvW fun q hq => hw q (List.mem_append_left _ hq)
theorem FRoot (w : World) (hw : Has p.L w) : Gives Tryd.prog 12 [.pointer (some ⟨tb, 0, none⟩)] (.agg (u8s (rtL p.y.r)).toArray) w := by
  have := TRoot_calls p.x w (p.hx hw)
  rw [p.rp.1 16 (Nat.le_refl _) 0] at this
  exact this
theorem FProve (i : Int) (w : World) (hw : Has p.L w) : Gives Tryd.prog 10 [.pointer (some ⟨tb, 0, none⟩), .int .i64 i] (.tuple #[.agg (u8s (prL p.y.r i)).toArray, .bool (inB i)]) w := by
  have := TProve_calls p.x i w (p.hx hw)
  rw [rep_prf p.rp] at this
  exact this
theorem FGet (i : Int) (w : World) (hw : Has p.L w) : Gives Tryd.prog 14 [.pointer (some ⟨tb, 0, none⟩), .int .i64 i] (.agg (u8s (lfI p.y.r i)).toArray) w := by
  have := TGet_calls p.x i w (p.hx hw)
  have e : (if 0 ≤ i ∧ i < 65536 then p.x.at 0 i.toNat else Z8) = lfI p.y.r i := by
    by_cases h : 0 ≤ i ∧ i < 65536
    · rw [if_pos h, p.rp.1 0 (by decide)]
      show lfI p.y.r (i.toNat : Int) = _
      rw [Int.toNat_of_nonneg h.1]
    · rw [if_neg h, lf_out p.ok h]
  rw [e] at this
  exact this
theorem FLen (w : World) (hw : Has p.L w) : Gives Tryd.prog 16 [.pointer (some ⟨tb, 0, none⟩)] (.int .i64 p.y.r.length) w := by
  have h1 := rep_len p.rp (fun i hi => lf_no fun q hq e => by have := p.ok.lt q hq; omega)
  have := TLen_calls p.x w (p.hx hw) (by omega)
  rw [rep_cnt p.ok p.rp] at this
  exact this
theorem FTop (w : World) (hw : Has p.L w) : Gives Tryd.prog 13 [.pointer (some ⟨lb, 0, none⟩)] (.agg (u8s (rtL p.y.r)).toArray) w := Top_calls _ p.ok lb w (p.hy hw)
theorem FPLeaf (i : Int) (w : World) (hw : Has p.L w) : Gives Tryd.prog 11 [.pointer (some ⟨lb, 0, none⟩), .int .i64 i] (.tuple #[.agg (u8s (prL p.y.r i)).toArray, .bool (inB i)]) w := ProveLeaf_calls _ p.ok lb i w (p.hy hw)
theorem FLGet (i : Int) (w : World) (hw : Has p.L w) : Gives Tryd.prog 15 [.pointer (some ⟨lb, 0, none⟩), .int .i64 i] (.agg (u8s (lfI p.y.r i)).toArray) w := LGet_calls _ p.ok lb i w (p.hy hw)
end
set_option maxRecDepth 10000 in set_option maxHeartbeats 4000000 in
theorem SparsePuts_calls (l : List DpD) (hll : l.length ≤ 9223372036854775807) (i : Int) (vl : Value) (w : World) (hs : SrcW w 9 vl l.length (rws DpD.c l)) (hK : Laid w) :
    Gives Tryd.prog 3 [vl, .int .i64 i] (.bool true) w := by
  refine enter Tryd.func3 rfl (Mem.nil w []) rfl ?_
  obtain ⟨la, lc, rfl, hlc⟩ := hs.shape
  refine z_ ?_
  refine Run.op1 (OpTo.cv Tryd.func8 (fun w' hm => awake_calls w' (hK.fr hm.fr (by simp)))) (fun _ => ?_)
  by_cases hl : l.length ≤ 60
  case neg =>
    refine z_ ?_
    exact RQ.ret1 rfl (Res.tmp rfl) fun w' hm => ⟨rfl, hm.fr⟩
  refine z_ ?_
  have hz0 : ([] : Hp).Perm ([] ++ []) := List.Perm.refl _
  refine Run.op1 (OpTo.callT Tryd.func9 hz0 (fun w' hm => Fill_calls l hl _ w' (hs.fr hm.fr) (hK.fr hm.fr (by simp)))) ?_
  rintro ⟨tb, mb, lb, p, hfin⟩
  dsimp only
  clear hfin
  rw [List.append_nil]
  have h1 := rtL_8 p.ok
  have h2 := prL_len p.ok i
  have h3 := lfI_8 p.ok i
  have c1 := FRoot p
  have c2 := FProve p i
  have c3 := FGet p i
  have c4 := FLen p
  have c5 := FTop p
  have c6 := FPLeaf p i
  have c7 := FLGet p i
  have hsh := p.y.hA.shape
  obtain ⟨aA, cA, evA, hcA⟩ := hsh
  have eL : p.L = (lb, .cells #[.slice aA p.y.r.length cA, p.y.vH] 39 (0, 0)) :: ((p.y.bA ++ p.y.bH) ++ p.x.L) := by rw [← evA]; rfl
  generalize rtL p.y.r = Rt at h1 c1 c5
  generalize prL p.y.r i = Pf at h2 c2 c6
  generalize lfI p.y.r i = Gt at h3 c3 c7
  have sP : (u8s Pf).toArray.size = 128 := by rw [List.size_toArray, u8s_len, h2]
  rw [eL] at c1 c2 c3 c4 c5 c6 c7 ⊢
  generalize ((p.y.bA ++ p.y.bH) ++ p.x.L) = Lp at *
  generalize p.y.r.length = nn at *
  have hq : ∀ {A B : Hp} {w' : World}, Mem w [] (A ++ B) w' → Has B w' := fun hm q hq => hm.has q (List.mem_append_right _ hq)
  refine z_ ?_
  refine Run.op1 (OpTo.cv Tryd.func10 (fun w' hm => c2 w' (hq (A := []) hm))) (fun _ => ?_)
  refine z_ ?_
  refine Run.nw nal ?_
  intro b8
  refine Run.op1 (osa (u8s Pf).toArray (u8s_one _) (hs := sP) (hf := by kernel_rfl)) (fun _ => ?_)
  refine z_ ?_
  refine Run.op1 (OpTo.cv Tryd.func11 (fun w' hm => c6 w' (hq (A := [_]) hm))) (fun _ => ?_)
  refine z_ ?_
  refine Run.nw nal ?_
  intro b10
  refine Run.op1 (osa (u8s Pf).toArray (u8s_one _) (hs := sP) (hf := by kernel_rfl)) (fun _ => ?_)
  refine z_ ?_
  (repeat refine RC.seq ?_); refine RC.drawS mixed (N := 35) rfl ?_
  refine dt 0 ?_
  refine dt 1 ?_
  refine DR.t 2 rfl (Val.eq (Val.eqBool (a := inB i) (b := inB i) tabOk rfl rfl rfl rfl rfl) (show _ = Value.bool true from by rw [beq_self_eq_true])) ?_
  refine dt 3 ?_
  refine DR.t 4 rfl (vla (arr := (u8s Pf).toArray) (hv := sP)) ?_
  refine DR.t 5 rfl (vla (arr := (u8s Pf).toArray) (hv := sP)) ?_
  refine DR.t 6 rfl (Val.eq (Val.eqU (m := 128) (a := Pf) (b := Pf) tabOk rfl rfl rfl (by kernel_rfl) (by kernel_rfl) rfl rfl h2 h2) (show _ = Value.bool true from by simp)) ?_
  refine dt 7 ?_
  refine dt 8 ?_
  refine dt 9 ?_
  refine dt 11 ?_
  refine DR.c 10 (DOp.op1 rfl (OpTo.cv Tryd.func12 (fun w' hm => c1 w' (hq (A := [_, _]) hm))) (fun _ => ?_))
  refine DR.c 12 (DOp.op1 rfl (OpTo.cv Tryd.func13 (fun w' hm => c5 w' (hq (A := [_, _]) hm))) (fun _ => ?_))
  refine DR.t 13 rfl (Val.eq (Val.eqU (m := 8) (a := Rt) (b := Rt) tabOk rfl rfl rfl (by kernel_rfl) (by kernel_rfl) rfl rfl h1.1 h1.1) (show _ = Value.bool true from by simp)) ?_
  refine dt 14 ?_
  refine dt 15 ?_
  refine dt 16 ?_
  refine dt 17 ?_
  refine dt 19 ?_
  refine dt 20 ?_
  refine DR.c 18 (DOp.op1 rfl (OpTo.cv Tryd.func14 (fun w' hm => c3 w' (hq (A := [_, _]) hm))) (fun _ => ?_))
  refine DR.c 21 (DOp.op1 rfl (OpTo.cv Tryd.func15 (fun w' hm => c7 w' (hq (A := [_, _]) hm))) (fun _ => ?_))
  refine DR.t 22 rfl (Val.eq (Val.eqU (m := 8) (a := Gt) (b := Gt) tabOk rfl rfl rfl (by kernel_rfl) (by kernel_rfl) rfl rfl h3.1 h3.1) (show _ = Value.bool true from by simp)) ?_
  refine dt 23 ?_
  refine dt 24 ?_
  refine dt 25 ?_
  refine dt 27 ?_
  refine dt 28 ?_
  refine dt 29 ?_
  refine DR.t 30 rfl (vl (.slice aA nn cA) (arr := #[.slice aA nn cA, p.y.vH]) (hm := (by repeat (first | exact List.mem_cons_self | apply List.mem_cons_of_mem | apply List.mem_append_right)))) ?_
  refine DR.t 31 rfl (vlen) ?_
  refine DR.c 26 (DOp.op1 rfl (OpTo.cv Tryd.func16 (fun w' hm => c4 w' (hq (A := [_, _]) hm))) (fun _ => ?_))
  refine dt 32 ?_
  refine dt 33 ?_
  refine dt 34 ?_
  refine DR.done (by kernel_rfl) ?_
  refine z_ ?_
  exact RQ.ret1 rfl (Res.tmp rfl) fun w' hm => ⟨rfl, hm.fr⟩
set_option maxRecDepth 10000 in set_option maxHeartbeats 4000000 in
theorem SparseProves_calls (l : List DpD) (hll : l.length ≤ 9223372036854775807) (i : Nat) (hi : i < 65536) (o : List Nat) (ho : H8 o) (vl : Value) (w : World) (hs : SrcW w 9 vl l.length (rws DpD.c l)) (hK : Laid w) :
    Gives Tryd.prog 4 [vl, .int .u16 i, .agg (u8s o).toArray] (.bool true) w := by
  refine enter Tryd.func4 rfl (Mem.nil w []) rfl ?_
  obtain ⟨la, lc, rfl, hlc⟩ := hs.shape
  have so : (u8s o).toArray.size = 8 := by rw [List.size_toArray, u8s_len, ho.1]
  refine z_ ?_
  refine Run.nw nbx ?_
  intro b5
  refine z_ ?_
  refine Run.op1 (OpTo.cv Tryd.func8 (fun w' hm => awake_calls w' (hK.fr hm.fr (by simp)))) (fun _ => ?_)
  by_cases hl : l.length ≤ 40
  case neg =>
    refine z_ ?_
    exact RQ.ret1 rfl (Res.tmp rfl) fun w' hm => ⟨rfl, hm.fr⟩
  refine z_ ?_
  have hz0 : ([(b5, Obj.cells (u8s o).toArray 29 (0, 0))] : Hp).Perm ([] ++ [(b5, Obj.cells (u8s o).toArray 29 (0, 0))]) := List.Perm.refl _
  refine Run.op1 (OpTo.callT Tryd.func9 hz0 (fun w' hm => Fill_calls l (by omega) _ w' (hs.fr hm.fr) (hK.fr hm.fr (by simp)))) ?_
  rintro ⟨tb, mb, lb, p, hfin⟩
  dsimp only
  clear hfin
  have h1 := rtL_8 p.ok
  have h2 := prL_len p.ok i
  have h2' := prL_lt p.ok i
  have h3 := lfI_8 p.ok i
  have c1 := FRoot p
  have c2 := FProve p i
  have c3 := FGet p i
  have c5 := FTop p
  have hg : chkT (rtL p.y.r) (i : Int) (lfI p.y.r i) (prL p.y.r i) = true := chk_good (lfF_ok p.ok) i hi
  rw [show inB (i : Int) = true from decide_eq_true (by omega)] at c2
  generalize rtL p.y.r = Rt at h1 c1 c5 hg
  generalize prL p.y.r i = Pf at h2 h2' c2 hg
  generalize lfI p.y.r i = Gt at h3 c3 hg
  have sP : (u8s Pf).toArray.size = 128 := by rw [List.size_toArray, u8s_len, h2]
  have k1 : chkT Rt (-1) o Pf = false := rfl
  have k2 : chkT Rt 65536 o Pf = false := rfl
  generalize p.L = Lp at *
  have hq : ∀ {B C : Hp} {a : Nat × Obj} {w' : World}, Mem w [] (a :: (B ++ C)) w' → Has B w' := fun hm q hq => hm.has q (List.mem_cons_of_mem _ (List.mem_append_left _ hq))
  refine z_ ?_
  refine Run.op1 (OpTo.cv Tryd.func10 (fun w' hm => c2 w' (fun q hq => hm.has q (List.mem_append_left _ hq)))) (fun _ => ?_)
  refine z_ ?_
  refine Run.nw nal ?_
  intro b10
  refine Run.op1 (osa (u8s Pf).toArray (u8s_one _) (hs := sP) (hf := by kernel_rfl)) (fun _ => ?_)
  refine z_ ?_
  have hL9 : ∀ {w' : World}, Mem w [] ((b10, Obj.cells (u8s Pf).toArray 30 (0, 0)) :: (Lp ++ [(b5, Obj.cells (u8s o).toArray 29 (0, 0))])) w' → Has Lp w' := hq
  (repeat refine RC.seq ?_); refine RC.drawS mixed (N := 15) rfl ?_
  refine dt 0 ?_
  refine dt 1 ?_
  refine dt 2 ?_
  refine dt 3 ?_
  refine dt 5 ?_
  refine dt 6 ?_
  refine dt 7 ?_
  refine dt 8 ?_
  refine dt 9 ?_
  refine DR.t 11 rfl (vla (arr := (u8s Pf).toArray) (hv := sP)) ?_
  refine DR.c 4 (DOp.op1 rfl (OpTo.cv Tryd.func12 (fun w' hm => c1 w' (hq hm))) (fun _ => ?_))
  refine DR.c 10 (DOp.op1 rfl (OpTo.cv Tryd.func14 (fun w' hm => c3 w' (hq hm))) (fun _ => ?_))
  refine DR.c 12 (DOp.op1 rfl (OpTo.cv Tryd.func17 (fun w' hm => TCheck_calls Rt h1 i Gt h3 Pf h2 h2' w' (hK.fr hm.fr (by simp)))) (fun _ => ?_))
  rw [hg]
  refine dt 13 ?_
  refine dt 14 ?_
  refine DR.done (by kernel_rfl) ?_
  refine z_ ?_
  (repeat refine RC.seq ?_); refine RC.drawS mixed (N := 32) rfl ?_
  refine dt 0 ?_
  refine dt 2 ?_
  refine dt 3 ?_
  refine DR.t 4 rfl (vla (arr := (u8s o).toArray) (hv := so) (hm := (by repeat (first | exact List.mem_cons_self | apply List.mem_cons_of_mem | apply List.mem_append_right)))) ?_
  refine DR.t 5 rfl (vla (arr := (u8s Pf).toArray) (hv := sP)) ?_
  refine dt 7 ?_
  refine dt 9 ?_
  refine dt 10 ?_
  refine DR.t 11 rfl (vla (arr := (u8s o).toArray) (hv := so) (hm := (by repeat (first | exact List.mem_cons_self | apply List.mem_cons_of_mem | apply List.mem_append_right)))) ?_
  refine DR.t 12 rfl (vla (arr := (u8s Pf).toArray) (hv := sP)) ?_
  refine DR.c 1 (DOp.op1 rfl (OpTo.cv Tryd.func12 (fun w' hm => c1 w' (hq hm))) (fun _ => ?_))
  refine DR.c 6 (DOp.op1 rfl (OpTo.cv Tryd.func17 (fun w' hm => TCheck_calls Rt h1 i o ho Pf h2 h2' w' (hK.fr hm.fr (by simp)))) (fun _ => ?_))
  refine DR.c 8 (DOp.op1 rfl (OpTo.cv Tryd.func13 (fun w' hm => c5 w' (hq hm))) (fun _ => ?_))
  refine DR.c 13 (DOp.op1 rfl (OpTo.cv Tryd.func18 (fun w' hm => CheckLeaf_calls Rt h1 i o ho Pf h2 h2' w')) (fun _ => ?_))
  refine DR.t 14 rfl (Val.eq (Val.eqBool (a := chkT Rt i o Pf) (b := chkT Rt i o Pf) tabOk rfl rfl rfl rfl rfl) (show _ = Value.bool true from by rw [beq_self_eq_true])) ?_
  refine dt 15 ?_
  refine dt 16 ?_
  refine DR.t 18 rfl (vla (arr := (u8s o).toArray) (hv := so) (hm := (by repeat (first | exact List.mem_cons_self | apply List.mem_cons_of_mem | apply List.mem_append_right)))) ?_
  refine DR.t 19 rfl (vla (arr := (u8s Pf).toArray) (hv := sP)) ?_
  refine DR.c 17 (DOp.op1 rfl (OpTo.cv Tryd.func12 (fun w' hm => c1 w' (hq hm))) (fun _ => ?_))
  refine DR.c 20 (DOp.op1 rfl (OpTo.cv Tryd.func17 (fun w' hm => TCheck_calls Rt h1 (-1) o ho Pf h2 h2' w' (hK.fr hm.fr (by simp)))) (fun _ => ?_))
  rw [k1]
  refine dt 21 ?_
  refine dt 22 ?_
  refine dt 23 ?_
  refine dt 24 ?_
  refine DR.t 26 rfl (vla (arr := (u8s o).toArray) (hv := so) (hm := (by repeat (first | exact List.mem_cons_self | apply List.mem_cons_of_mem | apply List.mem_append_right)))) ?_
  refine DR.t 27 rfl (vla (arr := (u8s Pf).toArray) (hv := sP)) ?_
  refine DR.c 25 (DOp.op1 rfl (OpTo.cv Tryd.func12 (fun w' hm => c1 w' (hq hm))) (fun _ => ?_))
  refine DR.c 28 (DOp.op1 rfl (OpTo.cv Tryd.func17 (fun w' hm => TCheck_calls Rt h1 65536 o ho Pf h2 h2' w' (hK.fr hm.fr (by simp)))) (fun _ => ?_))
  rw [k2]
  refine dt 29 ?_
  refine dt 30 ?_
  refine dt 31 ?_
  refine DR.done (by kernel_rfl) ?_
  refine z_ ?_
  exact RQ.ret1 rfl (Res.tmp rfl) fun w' hm => ⟨rfl, hm.fr⟩
end Go.Proofs.YtaabinhpagbajaaDoor
