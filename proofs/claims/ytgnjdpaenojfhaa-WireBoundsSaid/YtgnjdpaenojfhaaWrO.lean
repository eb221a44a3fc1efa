/- wire: Read. -/
import Derived.Test.YtgnjdpaenojfhaaWrN
set_option linter.unusedSimpArgs false
set_option linter.unusedVariables false
namespace Go.Vc
open Go
theorem Mem.frNil {w w' : World} {Lst L : Hp} (h : Mem w (Lst.map (·.1)) L w') (hs : ∀ p ∈ Lst, p ∈ L) (hw : Has Lst w) : Fr [] w w' :=
  ⟨h.fr.os, h.fr.tape, h.fr.output, h.fr.size, fun k hk _ => by
    by_cases hin : k ∈ Lst.map (·.1)
    · obtain ⟨p, hp, rfl⟩ := List.mem_map.1 hin
      rw [h.has p (hs p hp), hw p hp]
    · exact h.fr.block k hk hin⟩
/-- A block beside Lst is new. -/
theorem Mem.fresh {w w' : World} {Lst L : Hp} (h : Mem w (Lst.map (·.1)) L w') {p : Nat × Obj} (hp : p ∈ L) (hn : p.1 ∉ Lst.map (·.1)) : w.heap.size ≤ p.1 := (h.own p hp).resolve_right hn
end Go.Vc
namespace Go.Proofs.Ytgnjdpaenojfhaa
attribute [local irreducible] Go.Vc.Run Go.Vc.RC Go.Vc.RQ Go.Vc.DR Go.Vc.DOp
open Go Go.Vc Go.Sha
abbrev RdC (a : Option Addr) (n k : Nat) : Obj := .cells #[.slice a n n, .int .i64 k] 61 (0, 0)
/-- What Read answers. -/
def readE (r : Option (TypeId × Value)) (n k : Nat) : Int :=
  match r with
  | none => if k < n then 4 else 0
  | some p => if p.1 = 58 then 2 else 4
theorem Read_long (a : Option Addr) (n c : Nat) (hn : 131072 < n) (hn2 : n ≤ 9000000) (fv : Value) (w : World) : Gives Try.prog 12 [.slice a n c, fv] (.int .i64 3) w := by
  refine enter Try.func12 rfl (Mem.nil w []) rfl ?_
  refine z_ ?_
  refine Run.nw (nbs (v := fv)) ?_
  intro b
  refine z_ ?_
  exact RQ.ret1 rfl (Res.tmp rfl) fun w' hm => ⟨rfl, hm.fr⟩
set_option maxRecDepth 10000 in set_option maxHeartbeats 4000000 in
theorem Read_calls (a : Option Addr) (n c : Nat) (hn : n ≤ 131072) (hc : n ≤ c) (fv : Value) (hfv : fv.cells = #[fv]) (w : World) (Lst : Hp) (hw : Has Lst w) (hnd : (Lst.map (·.1)).Nodup) {Y : Type} {o : Y → Option (TypeId × Value)} {k : Y → Nat} (hk : ∀ y, k y ≤ n) (hsh : ∀ y pv, o y = some (58, pv) → pv = .agg #[]) {L' : Y → Hp}
    (h1 : ∀ rb bf br w', Fr [] w w' → w.heap.size ≤ rb → w.heap.size ≤ bf → w.heap.size ≤ br → rb ≠ bf → rb ≠ br → w'.heap[rb]? = some (RdC a n 0) → w'.heap[bf]? = some (.cells #[fv] 37 (0, 0)) → w'.heap[br]? = some (.cells #[.pointer (some ⟨rb, 0, none⟩)] 36 (0, 0)) →
      Has ((rb, RdC a n 0) :: Lst) w' → (((rb, RdC a n 0) :: Lst).map (·.1)).Nodup → bf ∉ ((rb, RdC a n 0) :: Lst).map (·.1) → br ∉ ((rb, RdC a n 0) :: Lst).map (·.1) →
      TurnsO Try.prog 30 [.pointer (some ⟨bf, 0, none⟩), .pointer (some ⟨br, 0, none⟩)] w' ((rb, RdC a n 0) :: Lst) o (fun y => (rb, RdC a n (k y)) :: L' y)) :
    Turns Try.prog 12 [.slice a n c, fv] w Lst (Y := Y) (fun y => .int .i64 (readE (o y) n (k y))) L' := by
  refine enter Try.func12 rfl (Mem.init (S0 := Lst.map (·.1)) hw (fun p hp => List.mem_map_of_mem hp) hnd) rfl ?_
  refine z_ ?_
  refine Run.nw (nbs (v := fv)) ?_
  rw [hfv]
  intro bf
  refine z_ ?_
  refine Run.op1 (OpTo.callNew Try.func28 rfl rfl rfl rfl rfl rfl (fun w' hm => NewReader_calls a n c (by omega) hc w')) ?_
  intro rb
  dsimp only
  refine z_ ?_
  refine Run.nw nal ?_
  intro br
  refine z_ ?_
  refine Run.op1 (os1 #[.pointer (some ⟨rb, 0, none⟩)]) (fun _ => ?_)
  refine z_ ?_
  refine Run.a (Val.mkF (us := []) rfl rfl rfl) ?_
  have hp1 : ([(br, Obj.cells #[.pointer (some ⟨rb, 0, none⟩)] 36 (0, 0)), (rb, RdC a n 0), (bf, Obj.cells #[fv] 37 (0, 0))] ++ Lst : Hp).Perm (((rb, RdC a n 0) :: Lst) ++ [(br, Obj.cells #[.pointer (some ⟨rb, 0, none⟩)] 36 (0, 0)), (bf, Obj.cells #[fv] 37 (0, 0))]) := (perm_of fun f => by (simp only [List.map_append, List.map_cons, List.map_nil, List.sum_append, List.sum_cons, List.sum_nil] <;> omega))
  have hBR : ∀ w', Mem w (Lst.map (·.1)) ([(br, Obj.cells #[.pointer (some ⟨rb, 0, none⟩)] 36 (0, 0)), (rb, RdC a n 0), (bf, Obj.cells #[fv] 37 (0, 0))] ++ Lst) w' → Turns Try.prog 29 [.func (.func 30) #[] #[.pointer (some ⟨bf, 0, none⟩), .pointer (some ⟨br, 0, none⟩)]] w' ((rb, RdC a n 0) :: Lst) (Y := Y) (fun y => .tuple (resO (o y))) (fun y => (rb, RdC a n (k y)) :: L' y) := by
    intro w' hm
    have hnd' := hm.nd
    simp only [List.cons_append, List.nil_append, List.map_cons, List.nodup_cons, List.mem_cons, not_or] at hnd'
    obtain ⟨⟨n1, n2, n3⟩, ⟨n4, n5⟩, n6, n7⟩ := hnd'
    have hA : Has ((rb, RdC a n 0) :: Lst) w' := fun p hp => hm.has p ((hp1.mem_iff).2 (List.mem_append_left _ hp))
    have hN : (((rb, RdC a n 0) :: Lst).map (·.1)).Nodup := by rw [List.map_cons, List.nodup_cons]; exact ⟨n5, n7⟩
    refine guarded_calls Try.func30 rfl rfl [.pointer (some ⟨bf, 0, none⟩), .pointer (some ⟨br, 0, none⟩)] w' _ hA hN (fun w'' hf => ?_)
    have hm' := hm.ext hf
    exact h1 rb bf br w'' ((hm.frNil (fun p hp => List.mem_append_right _ hp) hw).trans hf) (hm.fresh (p := (rb, RdC a n 0)) (by repeat (first | exact List.mem_cons_self | apply List.mem_cons_of_mem | apply List.mem_append_right)) n5) (hm.fresh (p := (bf, Obj.cells #[fv] 37 (0, 0))) (by repeat (first | exact List.mem_cons_self | apply List.mem_cons_of_mem | apply List.mem_append_right)) n6) (hm.fresh (p := (br, Obj.cells #[.pointer (some ⟨rb, 0, none⟩)] 36 (0, 0))) (by repeat (first | exact List.mem_cons_self | apply List.mem_cons_of_mem | apply List.mem_append_right)) n3) n4 (fun e => n1 e.symm)
      (hm'.has (rb, _) (by repeat (first | exact List.mem_cons_self | apply List.mem_cons_of_mem | apply List.mem_append_right))) (hm'.has (bf, _) (by repeat (first | exact List.mem_cons_self | apply List.mem_cons_of_mem | apply List.mem_append_right))) (hm'.has (br, _) (by repeat (first | exact List.mem_cons_self | apply List.mem_cons_of_mem | apply List.mem_append_right))) (hA.fr hf) hN (by rw [List.map_cons, List.mem_cons, not_or]; exact ⟨fun e => n4 e.symm, n6⟩) (by rw [List.map_cons, List.mem_cons, not_or]; exact ⟨n1, n3⟩)
  refine Run.op1 (OpTo.callT (Y := Y) (V := fun y => .tuple (resO (o y))) (L' := fun y => (rb, RdC a n (k y)) :: L' y) Try.func29 hp1 hBR) ?_
  intro y
  have hky := hk y
  cases ho : o y with
  | none =>
    dsimp only [resO]
    refine z_ ?_
    refine Run.a (Val.assertNil tabOk rfl rfl rfl rfl) ?_
    refine z_ ?_
    refine Run.nw nal ?_
    intro b8
    refine z_ ?_
    refine Run.op1 (osa #[] (by simp)) (fun _ => ?_)
    refine z_ ?_
    refine Run.op1 (OpTo.cv Try.func15 (fun w' hm => RLeft_calls rb n n (k y) a (by omega) hky w' (hm.has (rb, RdC a n (k y)) (by repeat (first | exact List.mem_cons_self | apply List.mem_cons_of_mem | apply List.mem_append_right))))) (fun _ => ?_)
    by_cases hlt : k y < n
    · refine z_ ?_
      exact RQ.ret1 rfl (Res.tmp rfl) fun w' hm => by rw [← show readE (o y) n (k y) = 4 from by rw [ho]; exact if_pos hlt]; exact Turns.of (Y := Y) (V := fun y => .int .i64 (readE (o y) n (k y))) y hm (Lr := [(b8, Obj.cells #[] 58 (0, 0)), (rb, RdC a n (k y)), (br, Obj.cells #[.pointer (some ⟨rb, 0, none⟩)] 36 (0, 0)), (bf, Obj.cells #[fv] 37 (0, 0))]) (perm_of fun f => by (simp only [List.map_append, List.map_cons, List.map_nil, List.sum_append, List.sum_cons, List.sum_nil] <;> omega))
    · refine z_ ?_
      exact RQ.ret1 rfl (Res.tmp rfl) fun w' hm => by rw [← show readE (o y) n (k y) = 0 from by rw [ho]; exact if_neg hlt]; exact Turns.of (Y := Y) (V := fun y => .int .i64 (readE (o y) n (k y))) y hm (Lr := [(b8, Obj.cells #[] 58 (0, 0)), (rb, RdC a n (k y)), (br, Obj.cells #[.pointer (some ⟨rb, 0, none⟩)] 36 (0, 0)), (bf, Obj.cells #[fv] 37 (0, 0))]) (perm_of fun f => by (simp only [List.map_append, List.map_cons, List.map_nil, List.sum_append, List.sum_cons, List.sum_nil] <;> omega))
  | some p =>
    obtain ⟨pt, pv⟩ := p
    dsimp only [resO]
    refine z_ ?_
    by_cases hpt : pt = 58
    · subst hpt
      have hpv := hsh y pv ho
      subst hpv
      refine Run.a (Val.assertOk tabOk rfl rfl rfl rfl) ?_
      refine z_ ?_
      refine Run.nw nal ?_
      intro b8
      refine z_ ?_
      refine Run.op1 (osa #[] (by simp)) (fun _ => ?_)
      refine z_ ?_
      exact RQ.ret1 rfl (Res.tmp rfl) fun w' hm => by rw [← show readE (o y) n (k y) = 2 from by rw [ho]; rfl]; exact Turns.of (Y := Y) (V := fun y => .int .i64 (readE (o y) n (k y))) y hm (Lr := [(b8, Obj.cells #[] 58 (0, 0)), (rb, RdC a n (k y)), (br, Obj.cells #[.pointer (some ⟨rb, 0, none⟩)] 36 (0, 0)), (bf, Obj.cells #[fv] 37 (0, 0))]) (perm_of fun f => by (simp only [List.map_append, List.map_cons, List.map_nil, List.sum_append, List.sum_cons, List.sum_nil] <;> omega))
    · refine Run.a (Val.assertNo tabOk rfl rfl rfl rfl hpt) ?_
      refine z_ ?_
      refine Run.nw nal ?_
      intro b8
      refine z_ ?_
      refine Run.op1 (osa #[] (by simp)) (fun _ => ?_)
      refine z_ ?_
      exact RQ.ret1 rfl (Res.tmp rfl) fun w' hm => by rw [← show readE (o y) n (k y) = 4 from by rw [ho]; exact if_neg hpt]; exact Turns.of (Y := Y) (V := fun y => .int .i64 (readE (o y) n (k y))) y hm (Lr := [(b8, Obj.cells #[] 58 (0, 0)), (rb, RdC a n (k y)), (br, Obj.cells #[.pointer (some ⟨rb, 0, none⟩)] 36 (0, 0)), (bf, Obj.cells #[fv] 37 (0, 0))]) (perm_of fun f => by (simp only [List.map_append, List.map_cons, List.map_nil, List.sum_append, List.sum_cons, List.sum_nil] <;> omega))
end Go.Proofs.Ytgnjdpaenojfhaa
