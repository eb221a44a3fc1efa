/- hash.Two; bytes by their place. -/
import Derived.Test.YtfhdfpejjgmdcaaGreatDoorDig1
import Derived.Test.YtfhdfpejjgmdcaaGreatDoorVcM
set_option linter.unusedSimpArgs false
set_option linter.unusedVariables false
namespace Go.Proofs.YtfhdfpejjgmdcaaGreatDoor
open Go Go.Vc Go.Sha

theorem u8s_arr (l : List Nat) (i : Nat) (h : i < l.length) : (u8s l).toArray[i]? = some (.int .u8 (l.getD i 0)) := by
  rw [List.getElem?_toArray]; exact u8s_at l i h
theorem getD_lt {l : List Nat} (h : ∀ x ∈ l, x < 256) (i : Nat) : l.getD i 0 < 256 := by
  rw [List.getD_eq_getElem?_getD]
  cases e : l[i]? with
  | none => decide
  | some x => exact h x (List.mem_of_getElem? e)

theorem parts2 {w : World} {u v : Value} {a b : List Nat} (hu : SrcW w 1 u a.length (u8s a)) (hv : SrcW w 1 v b.length (u8s b)) : Parts w [u, v] [a, b] :=
  ⟨rfl, fun i h h' => by
    match i, h with
    | 0, _ => exact hu
    | 1, _ => exact hv⟩

set_option maxRecDepth 10000 in set_option maxHeartbeats 4000000 in
theorem Two_calls (p : Nat) (hp : p < 256) (a b : List Nat) (ha : a.length = 8) (hb : b.length = 8) (ha' : ∀ x ∈ a, x < 256) (hb' : ∀ x ∈ b, x < 256) (w : World) (hK : Laid w) :
    Gives Tryz.prog 93 [.int .u8 p, .agg (u8s a).toArray, .agg (u8s b).toArray] (.agg (u8s (digest p [a, b])).toArray) w := by
  refine enter Tryz.func93 rfl (Mem.nil w []) rfl ?_
  (repeat refine RC.seq ?_); refine RC.region ?_
  refine Run.nw (New.boxA rfl rfl) ?_
  intro b4
  refine Run.nw (New.boxA rfl rfl) ?_
  intro b5
  refine Run.nw (New.alloc tabOk rfl rfl) ?_
  intro b6
  refine Run.nil (RQ.next ?_)
  (repeat refine RC.seq ?_); refine RC.drawS mixed (N := 6) rfl ?_
  refine DR.t 0 rfl (Val.of rfl) ?_
  refine DR.t 1 rfl (Val.eq (Val.sliceA tabOk rfl rfl rfl rfl rfl) (show _ = Value.slice (some ⟨b4, 0, none⟩) a.length a.length from by rw [ha])) ?_
  refine DR.t 2 rfl (Val.eq (Val.sliceA tabOk rfl rfl rfl rfl rfl) (show _ = Value.slice (some ⟨b5, 0, none⟩) b.length b.length from by rw [hb])) ?_
  refine DR.c 3 ?_
  refine DOp.op1 rfl (OpTo.new rfl rfl (New.buildSlice tabOk (parts := [(0, .tmp 8), (1, .tmp 9)]) (cells := [Value.slice (some ⟨b4, 0, none⟩) a.length a.length, Value.slice (some ⟨b5, 0, none⟩) b.length b.length].toArray) rfl rfl rfl rfl rfl rfl (fillS_full 1 2 _ [Value.slice (some ⟨b4, 0, none⟩) a.length a.length, Value.slice (some ⟨b5, 0, none⟩) b.length b.length] rfl (by simp [Value.cells])))) ?_
  intro b10
  refine DR.c 4 ?_
  refine DOp.op1 rfl (OpTo.callV Tryz.func41 rfl rfl rfl rfl rfl rfl (fun w' hm => Of_calls p hp _ _ [a, b] w' (SrcW.row hm List.mem_cons_self rfl (Nat.le_refl 2)) (parts2 (u := .slice (some ⟨b4, 0, none⟩) a.length a.length) (v := .slice (some ⟨b5, 0, none⟩) b.length b.length) (SrcW.row hm m3 (by simp [u8s_len]) (Nat.le_refl _)) (SrcW.row hm m2 (by simp [u8s_len]) (Nat.le_refl _))) (by simp [tot, ha, hb]) (by simpa using ⟨ha', hb'⟩) (hK.fr hm.fr (by simp)))) (fun _ => ?_)
  have hd := digest_len p [a, b]
  generalize digest p [a, b] = dg at *
  have hsz : (u8s dg).toArray.size = 8 := by simp [u8s_len, hd]
  refine DR.c 5 ?_
  refine DOp.op1 rfl (OpTo.storeAll tabOk rfl rfl rfl rfl rfl (List.Perm.swap _ _ _) hsz rfl (fun u hu => u8s_one dg u (by simpa [Value.cells] using hu))) (fun _ => ?_)
  refine DR.done (by kernel_rfl) (RQ.next ?_)
  refine RC.ret ?_
  exact RQ.ret1 rfl (Res.cellAll tabOk rfl rfl rfl List.mem_cons_self hsz) fun w' hm => ⟨rfl, hm.fr⟩

end Go.Proofs.YtfhdfpejjgmdcaaGreatDoor
