/- wire: Read of a closure; awake. -/
import Derived.Test.YtgnjdpaenojfhaaWrS
set_option linter.unusedSimpArgs false
set_option linter.unusedVariables false
namespace Go.Vc
open Go Go.Sha
/-- Bytes stand at an address. -/
def BytesAt (w : World) (ad : Addr) (l : List Nat) : Prop := ∀ j u, (u8s l)[j]? = some u → w.cell? (ad.add j) = some u
theorem BytesAt.sub {w : World} {ad : Addr} {l : List Nat} (h : BytesAt w ad l) (k m : Nat) : ∀ j u, (u8s ((l.drop k).take m))[j]? = some u → w.cell? (ad.add (k + j)) = some u := by
  intro j u hj
  refine h (k + j) u ?_
  rw [u8s_take, u8s_drop, List.getElem?_take] at hj
  split at hj
  · rw [List.getElem?_drop] at hj; exact hj
  · cases hj
theorem BytesAt.fr {S : List Nat} {w w' : World} {ad : Addr} {l : List Nat} (h : BytesAt w ad l) (hf : Fr S w w') (hS : ad.block ∉ S) : BytesAt w' ad l := fun j u hj => hf.cell (by rw [show (ad.add j).block = ad.block by unfold Addr.add; split <;> rfl]; exact hS) (h j u hj)
end Go.Vc
namespace Go.Proofs.Ytgnjdpaenojfhaa
attribute [local irreducible] Go.Vc.Run Go.Vc.RC Go.Vc.RQ Go.Vc.DR Go.Vc.DOp
open Go Go.Vc Go.Sha
set_option maxRecDepth 10000 in set_option maxHeartbeats 4000000 in
theorem ReadF_calls (a : Option Addr) (n c : Nat) (hn : n ≤ 131072) (hc : n ≤ c) {g : FuncId} {fg : Func} (hg : Try.prog.funcs[g]? = some fg) (hnm : (fg.name == "runtime.NumGoroutine") = false) (hb : fg.body.isNone = false) (capg : List Value) (w : World) (Lst : Hp) (hw : Has Lst w) (hnd : (Lst.map (·.1)).Nodup) {Y : Type} {o : Y → Option (TypeId × Value)} {k : Y → Nat} (hk : ∀ y, k y ≤ n) (hsh : ∀ y pv, o y = some (58, pv) → pv = .agg #[]) {L' : Y → Hp}
    (h : ∀ rb w', Fr [] w w' → w.heap.size ≤ rb → Has ((rb, RdC a n 0) :: Lst) w' → (((rb, RdC a n 0) :: Lst).map (·.1)).Nodup → TurnsO Try.prog g (.pointer (some ⟨rb, 0, none⟩) :: capg) w' ((rb, RdC a n 0) :: Lst) o (fun y => (rb, RdC a n (k y)) :: L' y)) :
    Turns Try.prog 12 [.slice a n c, .func (.func g) #[] capg.toArray] w Lst (Y := Y) (fun y => .int .i64 (readE (o y) n (k y))) L' :=
  Read_calls a n c hn hc (.func (.func g) #[] capg.toArray) rfl w Lst hw hnd hk hsh (fun rb bf br w' hf hrb _ _ _ _ _ h1 h2 hA hN hbf hbr =>
    Read1_calls hg hnm hb capg bf br rb w' _ hA hN hbf hbr h1 h2 (fun w'' hf' => h rb w'' (hf.trans hf') hrb (hA.fr hf') hN))
set_option maxRecDepth 10000 in set_option maxHeartbeats 4000000 in
theorem awake1_calls (rb b3 : Nat) (ad : Addr) (h1 : ad.block ≠ rb) (h2 : ad.block ≠ b3) (w : World) (hw : Has [(rb, RdC (some ad) 7 0), (b3, Obj.cells #[.int .i64 0] 3 (0, 0))] w) (hnd : ([(rb, RdC (some ad) 7 0), (b3, Obj.cells #[.int .i64 0] 3 (0, 0))].map (·.1)).Nodup) (hr : BytesAt w ad [2, 1, 1, 0, 0, 0, 7]) :
    TurnsO Try.prog 22 [.pointer (some ⟨rb, 0, none⟩), .pointer (some ⟨b3, 0, none⟩)] w [(rb, RdC (some ad) 7 0), (b3, Obj.cells #[.int .i64 0] 3 (0, 0))] (Y := Unit) (fun _ => none) (fun _ => [(rb, RdC (some ad) 7 7), (b3, Obj.cells #[.int .i64 259] 3 (0, 0))]) := by
  refine enter Try.func22 rfl (Mem.init (S0 := [(rb, RdC (some ad) 7 0), (b3, Obj.cells #[.int .i64 0] 3 (0, 0))].map (·.1)) hw (fun p hp => List.mem_map_of_mem hp) hnd) rfl ?_
  have hz : ([(rb, RdC (some ad) 7 0), (b3, Obj.cells #[.int .i64 0] 3 (0, 0))] : Hp).Perm ([(rb, RdC (some ad) 7 0)] ++ [(b3, Obj.cells #[.int .i64 0] 3 (0, 0))]) := List.Perm.refl _
  have hz2 : ([(rb, RdC (some ad) 7 2)] ++ [(b3, Obj.cells #[.int .i64 0] 3 (0, 0))] : Hp).Perm ([(rb, RdC (some ad) 7 2)] ++ [(b3, Obj.cells #[.int .i64 0] 3 (0, 0))]) := List.Perm.refl _
  have hS : ad.block ∉ ([(rb, RdC (some ad) 7 0), (b3, Obj.cells #[.int .i64 0] 3 (0, 0))] : Hp).map (·.1) := by
    intro h
    rcases List.mem_cons.1 h with h | h
    · exact h1 h
    · exact h2 (List.mem_singleton.1 h)
  refine z_ ?_
  refine Run.op1 (OpTo.callT Try.func18 hz (fun w' hm' => RNum_ok rb 7 0 2 ad h1 (by decide) (by decide) (by decide) [2, 1] rfl (by decide) w' (hm'.has _ m0) ((hr.fr hm'.fr hS).sub 0 2))) ?_
  intro _
  refine z_ ?_
  refine Run.op1 (OpTo.callT Try.func17 hz2 (fun w' hm' => RBytes_ok rb 7 2 1 ad h1 (by decide) (by decide) [1, 0, 0, 0] [7] rfl (by decide) rfl rfl w' (hm'.has _ m0) ((hr.fr hm'.fr hS).sub 2 4) ((hr.fr hm'.fr hS).sub 6 1))) ?_
  rintro ⟨⟨v, bl⟩, hown⟩
  dsimp only at hown ⊢
  obtain ⟨a9, c9, rfl, hc9⟩ := hown.shape
  refine (?_ : Run _ _ _ _ _ _ _ _ (((rb, RdC (some ad) 7 7) :: bl) ++ [(b3, Obj.cells #[.int .i64 0] 3 (0, 0))]))
  refine z_ ?_
  refine Run.op1 (os1 (arr := #[.int .i64 0]) (e := 3) (L' := (rb, RdC (some ad) 7 7) :: bl) #[.int .i64 259] (hL := (perm_of fun f => by (simp only [List.map_append, List.map_cons, List.map_nil, List.sum_append, List.sum_cons, List.sum_nil] <;> omega)))) (fun _ => ?_)
  refine z_ ?_
  exact RQ.end0 rfl fun w' hm => TurnsO.of (Y := Unit) (o := fun _ => none) (L' := fun _ => [(rb, RdC (some ad) 7 7), (b3, Obj.cells #[.int .i64 259] 3 (0, 0))]) () rfl hm (Lr := bl) (perm_of fun f => by (simp only [List.map_append, List.map_cons, List.map_nil, List.sum_append, List.sum_cons, List.sum_nil] <;> omega))
set_option maxRecDepth 10000 in set_option maxHeartbeats 4000000 in
theorem wr_awake_calls (w : World) : Gives Try.prog 8 [] (.bool true) w := by
  refine enter Try.func8 rfl (Mem.nil w []) rfl ?_
  let p1 : PtD := ⟨2, 258, [0, 0, 0, 0, 0, 0, 0, 0], [], .slice none 0 0, rfl, by decide, by decide, by decide, by decide, by decide⟩
  refine z_ ?_
  refine Run.a (vbs p1.c.toArray) ?_
  refine Run.nw (nbsl #[.int .u8 7] (by kernel_rfl)) ?_
  intro b7
  let p2 : PtD := ⟨9, 0, [0, 0, 0, 0, 0, 0, 0, 0], [7], .slice (some ⟨b7, 0, none⟩) 1 1, rfl, by decide, by decide, by decide, by decide, by decide⟩
  refine Run.a (vbs p2.c.toArray) ?_
  refine Run.nw (nbsl (rws PtD.c [p1, p2]).toArray (by kernel_rfl)) ?_
  intro b9
  have hW : writeW [p1, p2] = ([2, 1, 1, 0, 0, 0, 7], 0) := by kernel_rfl
  have hz : ([(b9, Obj.cells (rws PtD.c [p1, p2]).toArray 31 (0, 0)), (b7, Obj.cells #[.int .u8 7] 5 (0, 0))] : Hp).Perm ([] ++ [(b9, Obj.cells (rws PtD.c [p1, p2]).toArray 31 (0, 0)), (b7, Obj.cells #[.int .u8 7] 5 (0, 0))]) := List.Perm.refl _
  have hwr := fun w' h1 h2 => write_calls [p1, p2] (show 2 ≤ 9223372036854775807 by decide) (by intro p hp; rcases List.mem_cons.1 hp with rfl | hp; exact Nat.zero_le _; rw [List.mem_singleton] at hp; subst hp; show 1 ≤ 900000; decide) (.slice (some ⟨b9, 0, none⟩) 2 2) w' h1 h2
  rw [hW] at hwr
  have hin : ∀ w', Mem w [] [(b9, Obj.cells (rws PtD.c [p1, p2]).toArray 31 (0, 0)), (b7, Obj.cells #[.int .u8 7] 5 (0, 0))] w' → PtIn w' [p1, p2] := by
    intro w' hm p hp
    rcases List.mem_cons.1 hp with rfl | hp
    · exact .nil
    · rw [List.mem_singleton] at hp
      subst hp
      exact SrcW.row (cs := u8s [7]) hm m1 rfl (Nat.le_refl _)
  refine Run.op1 (OpTo.callT Try.func11 hz (fun w' hm => hwr w' (SrcW.row hm m0 rfl (Nat.le_refl _)) (hin w' hm))) ?_
  rintro ⟨⟨v, bl⟩, hown⟩
  dsimp only at hown ⊢
  change Own 5 1 v 7 (u8s [2, 1, 1, 0, 0, 0, 7]) bl at hown
  obtain ⟨b, cap, rest, rfl, rfl, hcl, hcap, hcm, hrl⟩ := hown.pos (by decide)
  refine z_ ?_
  refine Run.nw nal ?_
  intro b3
  refine z_ ?_
  refine Run.op1 (os1 #[.int .i64 0]) (fun _ => ?_)
  refine z_ ?_
  refine Run.a (Val.mkF (us := []) rfl rfl rfl) ?_
  obtain ⟨C, hC⟩ : ∃ C, C = (u8s [2, 1, 1, 0, 0, 0, 7] ++ rest).toArray := ⟨_, rfl⟩
  rw [← hC] at hown ⊢
  have hz3 : ([(b3, Obj.cells #[.int .i64 0] 3 (0, 0)), (b, Obj.cells C 5 (0, 0)), (b9, Obj.cells (rws PtD.c [p1, p2]).toArray 31 (0, 0)), (b7, Obj.cells #[.int .u8 7] 5 (0, 0))] : Hp).Perm ([(b3, Obj.cells #[.int .i64 0] 3 (0, 0))] ++ [(b, Obj.cells C 5 (0, 0)), (b9, Obj.cells (rws PtD.c [p1, p2]).toArray 31 (0, 0)), (b7, Obj.cells #[.int .u8 7] 5 (0, 0))]) := List.Perm.refl _
  have hR : ∀ w', Mem w [] [(b3, Obj.cells #[.int .i64 0] 3 (0, 0)), (b, Obj.cells C 5 (0, 0)), (b9, Obj.cells (rws PtD.c [p1, p2]).toArray 31 (0, 0)), (b7, Obj.cells #[.int .u8 7] 5 (0, 0))] w' → Turns Try.prog 12 [.slice (some ⟨b, 0, none⟩) 7 cap, .func (.func 22) #[] #[.pointer (some ⟨b3, 0, none⟩)]] w' [(b3, Obj.cells #[.int .i64 0] 3 (0, 0))] (Y := Unit) (fun _ => .int .i64 0) (fun _ => [(b3, Obj.cells #[.int .i64 259] 3 (0, 0))]) := by
    intro w' hm
    have hnd := hm.nd
    have hb := hm.lt m1
    refine ReadF_calls (some ⟨b, 0, none⟩) 7 cap (by decide) hcap Try.func22 rfl rfl [.pointer (some ⟨b3, 0, none⟩)] w' _ (fun p hp => hm.has p (List.mem_append_left _ hp)) (by simp) (o := fun _ => none) (k := fun _ => 7) (fun _ => Nat.le_refl _) (fun _ _ h => by cases h) (fun rb w'' hf hrb hA hN => awake1_calls rb b3 ⟨b, 0, none⟩ (fun e => ?_) (fun e => ?_) w'' hA hN (fun j u hj => ?_))
    · change b = rb at e
      simp only at hb
      omega
    · change b = b3 at e
      subst e
      rw [List.map_cons, List.map_cons, List.nodup_cons] at hnd
      exact hnd.1 List.mem_cons_self
    · refine hf.cell (by simp) ?_
      rw [add_lit, cell_of_row w' b (0 + j) _ _ _ (hm.has _ m1), Nat.zero_add, hC, List.getElem?_toArray, List.getElem?_append_left (List.getElem?_eq_some_iff.1 hj).1]
      exact hj
  refine Run.op1 (OpTo.callT Try.func12 hz3 hR) ?_
  intro _
  refine z_ ?_
  refine Run.a (Val.bytesStr (a := [2, 1, 1, 0, 0, 0, 7]) tabOk rfl rfl rfl rfl rfl rfl rfl rfl (hown.src (fun p hp => by rw [List.mem_singleton] at hp; subst hp; exact m1))) ?_
  refine Run.a (Val.eqStr (a := [2, 1, 1, 0, 0, 0, 7]) (b := [2, 1, 1, 0, 0, 0, 7]) rfl rfl rfl (by decide) (by decide)) ?_
  refine z_ ?_
  exact RQ.ret1 rfl (Res.tmp rfl) fun w' hm => ⟨rfl, hm.fr⟩
end Go.Proofs.Ytgnjdpaenojfhaa
