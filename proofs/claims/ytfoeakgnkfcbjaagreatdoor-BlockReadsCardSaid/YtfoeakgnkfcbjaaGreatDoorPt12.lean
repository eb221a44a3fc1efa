/- Lemmas. -/
import Derived.Test.YtfoeakgnkfcbjaaGreatDoorPt11
set_option linter.unusedSimpArgs false
set_option linter.unusedVariables false
section
/- wire: digits. -/
namespace Go.Vc
open Go
section
variable {P : Program} {n : Nat} {w0 : World} {S0 : List Nat} {Q : Exit → Act → World → Prop} {E : Env} {L : Hp}
theorem RQ.upP {D : Type} {N : Nat} {R : Nat → D → Prop} {Ei : Nat → D → Env} {Li : Nat → D → Hp} {i : Nat} (j : Nat) (d : D) (hij : i < j) (hj : j ≤ N) (hR : R j d) (hE : Env.le (Ei j d) E) {L1 : Hp} (hp : L.Perm L1) (hL : (Li j d).Sublist L1) :
    RQ n w0 S0 .normal (Exit.then (Up n w0 S0 N R Ei Li i) Q) E L :=
  fun _ _ hs hm => ⟨j, d, hij, hj, hR, hs.weak hE, (hm.perm hp).sublist hL⟩
end
end Go.Vc
namespace Go.Proofs.YtfoeakgnkfcbjaaGreatDoor
attribute [local irreducible] Go.Vc.Run Go.Vc.RC Go.Vc.RQ Go.Vc.DR Go.Vc.DOp
open Go Go.Vc Go.Sha
set_option maxRecDepth 10000 in set_option maxHeartbeats 4000000 in
theorem digits_calls (n k : Nat) (hk : k ≤ 8) (w : World) :
    Makes Tryz.prog 107 [.int .i64 n, .int .i64 k] w 5 1 k (u8s (le n k)) := by
  refine enter Tryz.func107 rfl (Mem.nil w []) rfl ?_
  refine z_ ?_
  refine Run.nw (nmk (m := k) (.int .u8 0) (hb := by show 1 * k ≤ _; omega)) ?_
  intro b
  rw [show List.replicate k (Value.int .u8 0) = u8s (le n 0 ++ List.replicate (k - 0) 0) from by simp [le, u8s]]
  refine z_ ?_
  refine RC.up k (D := Unit) (fun _ _ => True) (fun i _ => [(11, .int .i64 i), (10, .int .i64 k), (5, .slice (some ⟨b, 0, none⟩) k k), (0, .int .i64 n)])
    (fun i _ => [(b, Obj.cells (u8s (le n i ++ List.replicate (k - i) 0)).toArray 5 (0, 0))]) 0 () (Nat.zero_le _) trivial ⟨rfl, rfl, rfl, rfl, trivial⟩ (List.Sublist.refl _) ?_
  intro i _ hi _
  refine z_ ?_
  (repeat refine RC.seq ?_); refine RC.wh rfl (fun h => RQ.next ?_) (fun h => ?_)
  · have hi' : i < k := by have := of_decide_eq_true h; omega
    clear h
    obtain ⟨j, hj⟩ : ∃ j, k - i = 1 + j := ⟨k - i - 1, by omega⟩
    have hw := wr_next (le n i) [n / 2 ^ (8 * i) % 256] j
    rw [show [n / 2 ^ (8 * i) % 256].length + j = k - i from by rw [hj]; rfl, le_len] at hw
    have hv : IntKind.u8.wrap ((n : Int).fdiv (2 ^ min (8 * (i : Int)).toNat IntKind.i64.bits)) = ((n / 2 ^ (8 * i) % 256 : Nat) : Int) := by
      rw [show min (8 * (i : Int)).toNat IntKind.i64.bits = 8 * i from by show min _ 64 = _; omega, wrap_u8, Int.fdiv_eq_ediv_of_nonneg _ (Int.le_of_lt (Int.pow_pos (by decide)))]
      rfl
    refine z_ ?_
    rw [hv]
    refine Run.a (vix i hi' ⟨b, 0 + i, none⟩) ?_
    refine Run.op1 (os1 (arr := (u8s (le n i ++ List.replicate (k - i) 0)).toArray) (u8s (le n i ++ [n / 2 ^ (8 * i) % 256] ++ List.replicate j 0)).toArray (he := by rw [Nat.zero_add]; exact hw) (hf := by rw [List.size_toArray, u8s_len, List.length_append, le_len, List.length_replicate]; show 0 + i + 1 ≤ _; omega)) (fun _ => ?_)
    refine z_ ?_
    exact RQ.upP (i + 1) () (Nat.lt_succ_self _) hi' trivial ⟨rfl, rfl, rfl, rfl, trivial⟩ (L1 := [(b, Obj.cells (u8s (le n (i + 1) ++ List.replicate (k - (i + 1)) 0)).toArray 5 (0, 0))] ++ []) (by rw [show k - (i + 1) = j from by omega]; exact List.Perm.refl _) (List.sublist_append_left _ _)
  · have hi' : i = k := by have := of_decide_eq_false h; omega
    subst hi'
    (repeat refine RQ.thenExit ?_); refine RQ.blockHere ?_
    refine z_ ?_
    rw [Nat.sub_self, List.replicate_zero, List.append_nil]
    exact RQ.ret1 rfl (Res.tmp rfl) fun w' hm => Makes.of (L' := []) (Own.row b i i (u8s (le n i)) [] (by rw [u8s_len, le_len, Nat.mul_one]) (by rw [List.append_nil, u8s_len, le_len, Nat.mul_one]) (Nat.le_refl _) (by unfold maxLen; omega)) (by rw [List.append_nil, List.append_nil]; exact hm)
end Go.Proofs.YtfoeakgnkfcbjaaGreatDoor

/- wire: the writer. -/
namespace Go.Vc
open Go Go.Sha
theorem RQ.end0 {P : Program} {n : Nat} {w0 : World} {S0 : List Nat} {E : Env} {L : Hp} {fn : Func} {R : Ending → World → Prop} (hr : fn.results = #[]) (h : ∀ w, Mem w0 S0 L w → R (.returned (.tuple #[])) w) : RQ n w0 S0 .normal (bodyPost P fn R) E L := by
  intro a w hs hm
  refine ⟨hs.defers, .tuple #[], ?_, h w hm⟩
  rw [results_eq, hr]; simp
/-- A writer: its bytes, its first error. -/
structure Wr (tW tB : TypeId) (wb : Nat) where
  v : Value
  bl : Hp
  bs : List Nat
  e : Int
  own : Own tB 1 v bs.length (u8s bs) bl
  nd : (wb :: bl.map (·.1)).Nodup
  hl : bs.length ≤ 131072
def Wr.L {tW tB : TypeId} {wb : Nat} (x : Wr tW tB wb) : Hp := (wb, .cells #[x.v, .int .i64 x.e] tW (0, 0)) :: x.bl
/-- What is written, and how it stands. -/
def putW (bs : List Nat) (e : Int) (a : List Nat) : List Nat × Int := if e = 0 then (if (a.length : Int) > 131072 - bs.length then (bs, 3) else (bs ++ a, 0)) else (bs, e)
end Go.Vc
namespace Go.Proofs.YtfoeakgnkfcbjaaGreatDoor
attribute [local irreducible] Go.Vc.Run Go.Vc.RC Go.Vc.RQ Go.Vc.DR Go.Vc.DOp
open Go Go.Vc Go.Sha
abbrev WrG (tW : TypeId) (wb : Nat) := Wr tW 5 wb
abbrev WrP (wb : Nat) := WrG 116 wb
abbrev PutG (tW : TypeId) (wb : Nat) (r : List Nat × Int) := {y : WrG tW wb // (y.bs, y.e) = r}
abbrev PutY (wb : Nat) (r : List Nat × Int) := PutG 116 wb r
theorem put_of {tW : TypeId} {wb : Nat} {ap Lst L1 Lr : Hp} {w w' : World} {r : List Nat × Int} (y : WrG tW wb) (hr : (y.bs, y.e) = r) (hm : Mem w (Lst.map (·.1)) L1 w') (hp : L1.Perm ((y.L ++ ap) ++ Lr)) :
    ∃ y' : PutG tW wb r, Ending.returned (.tuple #[]) = .returned (.tuple #[]) ∧ Fr (Lst.map (·.1)) w w' ∧ Has (y'.1.L ++ ap) w' ∧ (∀ p ∈ y'.1.L ++ ap, w.heap.size ≤ p.1 ∨ p.1 ∈ Lst.map (·.1)) ∧ ((y'.1.L ++ ap).map (·.1)).Nodup :=
  Turns.of (Y := PutG tW wb r) (V := fun _ => .tuple #[]) (L' := fun y => y.1.L ++ ap) ⟨y, hr⟩ hm hp
set_option maxRecDepth 10000 in set_option maxHeartbeats 4000000 in
theorem put_calls {tW : TypeId} {wb : Nat} (x : WrG tW wb) (a : List Nat) {u : Value} {ap : Hp} (hal : a.length ≤ 1000000) (w : World) (hsrc : ∀ L : Hp, (∀ p ∈ ap, p ∈ L) → Src w ((x.L ++ ap).map (·.1)) L 1 u a.length (u8s a)) (hush : ∃ ua uc, u = .slice ua a.length uc)
    (hw : Has (x.L ++ ap) w) (hnd : ((x.L ++ ap).map (·.1)).Nodup) :
    Turns Tryz.prog 106 [.pointer (some ⟨wb, 0, none⟩), u] w (x.L ++ ap) (Y := PutG tW wb (putW x.bs x.e a)) (fun _ => .tuple #[]) (fun y => y.1.L ++ ap) := by
  refine enter Tryz.func106 rfl (Mem.init (S0 := (x.L ++ ap).map (·.1)) hw (fun p hp => List.mem_map_of_mem hp) hnd) rfl ?_
  obtain ⟨va, vc, hv, hvc⟩ := x.own.shape
  obtain ⟨ua, uc, rfl⟩ := hush
  have hown := x.own
  rw [hv] at hown
  have hl := x.hl
  have hcells : x.L ++ ap = (wb, Obj.cells #[.slice va x.bs.length vc, .int .i64 x.e] tW (0, 0)) :: (x.bl ++ ap) := by unfold Wr.L; rw [hv]; rfl
  by_cases he : x.e = 0
  · rw [hcells, he] at hsrc ⊢
    refine z_ ?_
    by_cases hgt : (a.length : Int) > 131072 - x.bs.length
    · rw [show putW x.bs 0 a = (x.bs, 3) from by unfold putW; rw [if_pos rfl, if_pos hgt]]
      refine z_ ?_
      refine Run.op1 (os1 #[Value.slice va x.bs.length vc, .int .i64 3]) (fun _ => ?_)
      refine z_ ?_
      exact RQ.end0 rfl fun w' hm => put_of ⟨.slice va x.bs.length vc, x.bl, x.bs, 3, hown, x.nd, hl⟩ rfl hm (Lr := []) (by unfold Wr.L; exact (perm_of fun f => by (simp only [List.map_append, List.map_cons, List.map_nil, List.sum_append, List.sum_cons, List.sum_nil] <;> omega)))
    · rw [show putW x.bs 0 a = (x.bs ++ a, 0) from by unfold putW; rw [if_pos rfl, if_neg hgt]]
      refine z_ ?_
      refine Run.op1 (OpTo.append (L1 := (wb, Obj.cells #[Value.slice va x.bs.length vc, .int .i64 0] tW (0, 0)) :: ap) tabOk hown (hsrc _ (fun p hp => List.mem_cons_of_mem _ (List.mem_append_right _ hp))) rfl rfl rfl rfl rfl rfl rfl rfl rfl (perm_of fun f => by (simp only [List.map_append, List.map_cons, List.map_nil, List.sum_append, List.sum_cons, List.sum_nil] <;> omega)) (u8s_one _) (by unfold maxLen; omega) (by simp only [ti5]; omega)) ?_
      rintro ⟨⟨v9, bl9⟩, hown9⟩
      dsimp only at hown9 ⊢
      rw [← u8s_app] at hown9
      obtain ⟨a9, c9, rfl, hc9⟩ := hown9.shape
      refine z_ ?_
      refine Run.op1 (os1 #[Value.slice a9 (x.bs.length + a.length) c9, .int .i64 0]) (fun _ => ?_)
      refine z_ ?_
      refine RQ.end0 rfl fun w' hm => ?_
      have hnd' := hm.nd
      refine put_of ⟨.slice a9 (x.bs.length + a.length) c9, bl9, x.bs ++ a, 0, by rw [List.length_append]; exact hown9, ?_, by rw [List.length_append]; omega⟩ rfl hm (Lr := []) (by unfold Wr.L; exact (perm_of fun f => by (simp only [List.map_append, List.map_cons, List.map_nil, List.sum_append, List.sum_cons, List.sum_nil] <;> omega)))
      rw [List.map_cons, List.map_append, ← List.cons_append] at hnd'
      exact (List.nodup_append.1 hnd').1
  · rw [show putW x.bs x.e a = (x.bs, x.e) from if_neg he]
    rw [hcells]
    refine z_ ?_
    exact RQ.end0 rfl fun w' hm => put_of ⟨.slice va x.bs.length vc, x.bl, x.bs, x.e, hown, x.nd, hl⟩ rfl hm (Lr := []) (by unfold Wr.L; exact (perm_of fun f => by (simp only [List.map_append, List.map_cons, List.map_nil, List.sum_append, List.sum_cons, List.sum_nil] <;> omega)))
end Go.Proofs.YtfoeakgnkfcbjaaGreatDoor

/- wire: the writer's parts. -/
namespace Go.Vc
open Go
theorem hasFs {w0 w' : World} {S0 : List Nat} {L A B : Hp} (hp : L.Perm (A ++ B)) (hm : Mem w0 S0 L w') : Has A w' ∧ (A.map (·.1)).Nodup :=
  ⟨fun q hq => (hm.perm hp).has q (List.mem_append_left _ hq), by have := (hm.perm hp).nd; rw [List.map_append] at this; exact (List.nodup_append.1 this).1⟩
end Go.Vc
namespace Go.Proofs.YtfoeakgnkfcbjaaGreatDoor
attribute [local irreducible] Go.Vc.Run Go.Vc.RC Go.Vc.RQ Go.Vc.DR Go.Vc.DOp
open Go Go.Vc Go.Sha
set_option maxRecDepth 10000 in set_option maxHeartbeats 4000000 in
theorem WHash_calls {tW : TypeId} {wb : Nat} (x : WrG tW wb) (h : List Nat) (h8 : h.length = 8) (w : World) (hw : Has x.L w) (hnd : (x.L.map (·.1)).Nodup) :
    Turns Tryz.prog 68 [.pointer (some ⟨wb, 0, none⟩), .agg (u8s h).toArray] w x.L (Y := PutG tW wb (putW x.bs x.e h)) (fun _ => .tuple #[]) (fun y => y.1.L) := by
  refine enter Tryz.func68 rfl (Mem.init (S0 := x.L.map (·.1)) hw (fun p hp => List.mem_map_of_mem hp) hnd) rfl ?_
  refine z_ ?_
  refine Run.nw nbx ?_
  intro b3
  refine z_ ?_
  refine Run.a (Val.sliceA tabOk rfl rfl rfl rfl rfl) ?_
  have hp1 : ((b3, Obj.cells (u8s h).toArray 23 (0, 0)) :: x.L).Perm ((x.L ++ [(b3, Obj.cells (u8s h).toArray 23 (0, 0))]) ++ []) := (perm_of fun f => by (simp only [List.map_append, List.map_cons, List.map_nil, List.sum_append, List.sum_cons, List.sum_nil] <;> omega))
  refine Run.op1 (OpTo.callT Tryz.func106 hp1 (fun w' hm => put_calls x h (ap := [(b3, Obj.cells (u8s h).toArray 23 (0, 0))]) (by omega) w' (fun L hL => by rw [h8]; exact Src.at ⟨b3, 0, none⟩ 8 8 (u8s h) (by rw [u8s_len, h8]) (Rd.rowAll (hL _ m0))) ⟨_, _, by rw [h8]⟩ (hasFs hp1 hm).1 (hasFs hp1 hm).2)) ?_
  rintro ⟨y, hy⟩
  dsimp only at hy ⊢
  refine z_ ?_
  exact RQ.end0 rfl fun w' hm => Turns.of (Y := PutG tW wb (putW x.bs x.e h)) (V := fun _ => .tuple #[]) (L' := fun y => y.1.L) ⟨y, hy⟩ hm (Lr := [(b3, Obj.cells (u8s h).toArray 23 (0, 0))]) (perm_of fun f => by (simp only [List.map_append, List.map_cons, List.map_nil, List.sum_append, List.sum_cons, List.sum_nil] <;> omega))
set_option maxRecDepth 10000 in set_option maxHeartbeats 4000000 in
theorem WBytes_calls {tW : TypeId} {wb : Nat} (x : WrG tW wb) (a : List Nat) {u : Value} {ap : Hp} (hal : a.length ≤ 900000) (w : World) (hsrc : ∀ L : Hp, (∀ p ∈ ap, p ∈ L) → Src w ((x.L ++ ap).map (·.1)) L 1 u a.length (u8s a)) (hush : ∃ ua uc, u = .slice ua a.length uc)
    (hw : Has (x.L ++ ap) w) (hnd : ((x.L ++ ap).map (·.1)).Nodup) :
    Turns Tryz.prog 71 [.pointer (some ⟨wb, 0, none⟩), u] w (x.L ++ ap) (Y := PutG tW wb (putW x.bs x.e (le a.length 4 ++ a))) (fun _ => .tuple #[]) (fun y => y.1.L ++ ap) := by
  refine enter Tryz.func71 rfl (Mem.init (S0 := (x.L ++ ap).map (·.1)) hw (fun p hp => List.mem_map_of_mem hp) hnd) rfl ?_
  obtain ⟨ua, uc, rfl⟩ := hush
  refine z_ ?_
  refine Run.op1 (OpTo.callMk Tryz.func107 rfl rfl rfl rfl rfl rfl (fun w' hm => digits_calls a.length 4 (by decide) w')) ?_
  rintro ⟨⟨v7, bl7⟩, hown⟩
  dsimp only at hown ⊢
  refine z_ ?_
  refine Run.op1 (OpTo.append (L1 := x.L ++ ap) tabOk hown (hsrc _ (fun p hp => List.mem_append_right _ (List.mem_append_right _ hp))) rfl rfl rfl rfl rfl rfl rfl rfl rfl (perm_of fun f => by (simp only [List.map_append, List.map_cons, List.map_nil, List.sum_append, List.sum_cons, List.sum_nil] <;> omega)) (u8s_one _) (by unfold maxLen; omega) (by simp only [ti5]; omega)) ?_
  rintro ⟨⟨v9, bl9⟩, hown9⟩
  dsimp only at hown9 ⊢
  rw [← u8s_app] at hown9
  obtain ⟨a9, c9, rfl, hc9⟩ := hown9.shape
  have hln : (le a.length 4 ++ a).length = 4 + a.length := by rw [List.length_append, le_len]
  have hp1 : (bl9 ++ (x.L ++ ap)).Perm ((x.L ++ bl9) ++ ap) := (perm_of fun f => by (simp only [List.map_append, List.map_cons, List.map_nil, List.sum_append, List.sum_cons, List.sum_nil] <;> omega))
  refine z_ ?_
  refine Run.op1 (OpTo.callT Tryz.func106 hp1 (fun w' hm => put_calls x (le a.length 4 ++ a) (ap := bl9) (by omega) w' (fun L hL => by rw [hln]; exact hown9.src hL) ⟨_, _, by rw [hln]⟩ (hasFs hp1 hm).1 (hasFs hp1 hm).2)) ?_
  rintro ⟨y, hy⟩
  dsimp only at hy ⊢
  refine z_ ?_
  exact RQ.end0 rfl fun w' hm => put_of y hy hm (Lr := bl9) (perm_of fun f => by (simp only [List.map_append, List.map_cons, List.map_nil, List.sum_append, List.sum_cons, List.sum_nil] <;> omega))
/-- May a number be written in so many bytes? -/
def numBad (n k : Int) : Prop := k < 1 ∨ 7 < k ∨ n < 0 ∨ n.toNat / 2 ^ (8 * k.toNat) ≠ 0
instance (n k : Int) : Decidable (numBad n k) := by unfold numBad; infer_instance
def numW (bs : List Nat) (e n k : Int) : List Nat × Int := if e = 0 then (if numBad n k then (bs, 1) else putW bs 0 (le n.toNat k.toNat)) else (bs, e)
set_option maxRecDepth 10000 in set_option maxHeartbeats 4000000 in
theorem WNum_calls {tW : TypeId} {wb : Nat} (x : WrG tW wb) (n k : Int) (w : World) (hw : Has x.L w) (hnd : (x.L.map (·.1)).Nodup) :
    Turns Tryz.prog 69 [.pointer (some ⟨wb, 0, none⟩), .int .i64 n, .int .i64 k] w x.L (Y := PutG tW wb (numW x.bs x.e n k)) (fun _ => .tuple #[]) (fun y => y.1.L) := by
  refine enter Tryz.func69 rfl (Mem.init (S0 := x.L.map (·.1)) hw (fun p hp => List.mem_map_of_mem hp) hnd) rfl ?_
  by_cases he : x.e = 0
  · have hcells : x.L = (wb, Obj.cells #[x.v, .int .i64 0] tW (0, 0)) :: x.bl := by unfold Wr.L; rw [he]
    rw [he, hcells]
    by_cases h1 : k < 1
    · rw [show numW x.bs 0 n k = (x.bs, 1) from by unfold numW; rw [if_pos rfl, if_pos (.inl h1)]]
      refine z_ ?_
      refine Run.op1 (os1 #[x.v, .int .i64 1]) (fun _ => ?_)
      refine z_ ?_
      exact RQ.end0 rfl fun w' hm => Turns.of (Y := PutG tW wb (x.bs, 1)) (V := fun _ => .tuple #[]) (L' := fun y => y.1.L) ⟨⟨x.v, x.bl, x.bs, 1, x.own, x.nd, x.hl⟩, rfl⟩ hm (Lr := []) (by unfold Wr.L; exact (perm_of fun f => by (simp only [List.map_append, List.map_cons, List.map_nil, List.sum_append, List.sum_cons, List.sum_nil] <;> omega)))
    by_cases h7 : 7 < k
    · rw [show numW x.bs 0 n k = (x.bs, 1) from by unfold numW; rw [if_pos rfl, if_pos (.inr (.inl h7))]]
      refine z_ ?_
      refine Run.op1 (os1 #[x.v, .int .i64 1]) (fun _ => ?_)
      refine z_ ?_
      exact RQ.end0 rfl fun w' hm => Turns.of (Y := PutG tW wb (x.bs, 1)) (V := fun _ => .tuple #[]) (L' := fun y => y.1.L) ⟨⟨x.v, x.bl, x.bs, 1, x.own, x.nd, x.hl⟩, rfl⟩ hm (Lr := []) (by unfold Wr.L; exact (perm_of fun f => by (simp only [List.map_append, List.map_cons, List.map_nil, List.sum_append, List.sum_cons, List.sum_nil] <;> omega)))
    by_cases h0 : n < 0
    · rw [show numW x.bs 0 n k = (x.bs, 1) from by unfold numW; rw [if_pos rfl, if_pos (.inr (.inr (.inl h0)))]]
      refine z_ ?_
      refine Run.op1 (os1 #[x.v, .int .i64 1]) (fun _ => ?_)
      refine z_ ?_
      exact RQ.end0 rfl fun w' hm => Turns.of (Y := PutG tW wb (x.bs, 1)) (V := fun _ => .tuple #[]) (L' := fun y => y.1.L) ⟨⟨x.v, x.bl, x.bs, 1, x.own, x.nd, x.hl⟩, rfl⟩ hm (Lr := []) (by unfold Wr.L; exact (perm_of fun f => by (simp only [List.map_append, List.map_cons, List.map_nil, List.sum_append, List.sum_cons, List.sum_nil] <;> omega)))
    obtain ⟨n, rfl⟩ := Int.eq_ofNat_of_zero_le (Int.not_lt.1 h0)
    obtain ⟨k, rfl⟩ := Int.eq_ofNat_of_zero_le (show 0 ≤ k by omega)
    have hv : (n : Int).fdiv (2 ^ min (8 * (k : Int)).toNat IntKind.i64.bits) = ((n / 2 ^ (8 * k) : Nat) : Int) := by
      rw [show min (8 * (k : Int)).toNat IntKind.i64.bits = 8 * k from by show min _ 64 = _; omega, Int.fdiv_eq_ediv_of_nonneg _ (Int.le_of_lt (Int.pow_pos (by decide)))]
      rfl
    refine z_ ?_
    rw [hv]
    by_cases hs : n / 2 ^ (8 * k) = 0
    · rw [show numW x.bs 0 n k = putW x.bs 0 (le n k) from by unfold numW; rw [if_pos rfl, if_neg (by unfold numBad; simp only [Int.toNat_natCast]; omega)]; simp only [Int.toNat_natCast]]
      rw [hs]
      refine z_ ?_
      refine Run.op1 (OpTo.callMk Tryz.func107 rfl rfl rfl rfl rfl rfl (fun w' hm => digits_calls n k (by omega) w')) ?_
      rintro ⟨⟨v7, bl7⟩, hown⟩
      dsimp only at hown ⊢
      obtain ⟨a7, c7, rfl, hc7⟩ := hown.shape
      have hp1 : (bl7 ++ ((wb, Obj.cells #[x.v, .int .i64 0] tW (0, 0)) :: x.bl)).Perm (((⟨x.v, x.bl, x.bs, 0, x.own, x.nd, x.hl⟩ : WrG tW wb).L ++ bl7) ++ []) := by unfold Wr.L; exact (perm_of fun f => by (simp only [List.map_append, List.map_cons, List.map_nil, List.sum_append, List.sum_cons, List.sum_nil] <;> omega))
      refine z_ ?_
      refine Run.op1 (OpTo.callT Tryz.func106 hp1 (fun w' hm => put_calls (⟨x.v, x.bl, x.bs, 0, x.own, x.nd, x.hl⟩ : WrG tW wb) (le n k) (ap := bl7) (by rw [le_len]; omega) w' (fun L hL => by rw [le_len]; exact hown.src hL) ⟨_, _, by rw [le_len]⟩ (hasFs hp1 hm).1 (hasFs hp1 hm).2)) ?_
      rintro ⟨y, hy⟩
      dsimp only at hy ⊢
      refine z_ ?_
      exact RQ.end0 rfl fun w' hm => Turns.of (Y := PutG tW wb (putW x.bs 0 (le n k))) (V := fun _ => .tuple #[]) (L' := fun y => y.1.L) ⟨y, hy⟩ hm (Lr := bl7) (perm_of fun f => by (simp only [List.map_append, List.map_cons, List.map_nil, List.sum_append, List.sum_cons, List.sum_nil] <;> omega))
    · rw [show numW x.bs 0 n k = (x.bs, 1) from by unfold numW; rw [if_pos rfl, if_pos (.inr (.inr (.inr hs)))]]
      rw [show (((n / 2 ^ (8 * k) : Nat) : Int) != 0) = true from bne_iff_ne.2 (fun h => hs (Int.ofNat.inj h))]
      refine z_ ?_
      refine Run.op1 (os1 #[x.v, .int .i64 1]) (fun _ => ?_)
      refine z_ ?_
      exact RQ.end0 rfl fun w' hm => Turns.of (Y := PutG tW wb (x.bs, 1)) (V := fun _ => .tuple #[]) (L' := fun y => y.1.L) ⟨⟨x.v, x.bl, x.bs, 1, x.own, x.nd, x.hl⟩, rfl⟩ hm (Lr := []) (by unfold Wr.L; exact (perm_of fun f => by (simp only [List.map_append, List.map_cons, List.map_nil, List.sum_append, List.sum_cons, List.sum_nil] <;> omega)))
  · rw [show numW x.bs x.e n k = (x.bs, x.e) from if_neg he]
    refine z_ ?_
    exact RQ.end0 rfl fun w' hm => Turns.of (Y := PutG tW wb (x.bs, x.e)) (V := fun _ => .tuple #[]) (L' := fun y => y.1.L) ⟨x, rfl⟩ hm (Lr := []) (by unfold Wr.L; exact (perm_of fun f => by (simp only [List.map_append, List.map_cons, List.map_nil, List.sum_append, List.sum_cons, List.sum_nil] <;> omega)))
end Go.Proofs.YtfoeakgnkfcbjaaGreatDoor

/- wire: the writer's end. -/
namespace Go.Proofs.YtfoeakgnkfcbjaaGreatDoor
attribute [local irreducible] Go.Vc.Run Go.Vc.RC Go.Vc.RQ Go.Vc.DR Go.Vc.DOp
open Go Go.Vc Go.Sha
/-- What a writer hands out. -/
def endW (bs : List Nat) (e : Int) : List Nat := if e = 0 then bs else []
abbrev EndY (bs : List Nat) (e : Int) := {p : Value × Hp // Own 5 1 p.1 (endW bs e).length (u8s (endW bs e)) p.2}
set_option maxRecDepth 10000 in set_option maxHeartbeats 4000000 in
theorem WEnd_calls {tW : TypeId} {wb : Nat} (x : WrG tW wb) (w : World) (hw : Has x.L w) :
    Turns Tryz.prog 72 [.pointer (some ⟨wb, 0, none⟩)] w [] (Y := EndY x.bs x.e) (fun y => .tuple #[y.1.1, .int .i64 x.e]) (fun y => y.1.2) := by
  refine enter Tryz.func72 rfl (Mem.nil w []) rfl ?_
  have hcell := hw _ (List.mem_cons_self)
  have hc0 : w.cell? ⟨wb, 0, none⟩ = some x.v := by rw [cell_of_row w wb 0 _ _ _ hcell]; rfl
  have hc1 : w.cell? ⟨wb, 1, none⟩ = some (.int .i64 x.e) := by rw [cell_of_row w wb 1 _ _ _ hcell]; rfl
  have hsrc := x.own.srcW (fun q hq => hw q (List.mem_cons_of_mem _ hq))
  have hl := x.hl
  refine z_ ?_
  refine Run.a (vlo hc1) ?_
  by_cases he : x.e = 0
  · rw [he]
    refine z_ ?_
    refine Run.a (vlo hc0) ?_
    refine Run.op1 (OpTo.callMk Tryz.func82 rfl rfl rfl rfl rfl rfl (fun w' hm => Clone_calls x.v x.bs.length x.bs w' (hsrc.mem hm) (by omega))) ?_
    rintro ⟨⟨v7, bl7⟩, hown⟩
    dsimp only at hown ⊢
    refine z_ ?_
    exact RQ.ret2 rfl (Res.tmp rfl) (Res.tmp rfl) fun w' hm => Turns.of (Y := EndY x.bs 0) (V := fun y => .tuple #[y.1.1, .int .i64 0]) (L' := fun y => y.1.2) (Lst := []) ⟨(v7, bl7), hown⟩ hm (Lr := []) (perm_of fun f => by (simp only [List.map_append, List.map_cons, List.map_nil, List.sum_append, List.sum_cons, List.sum_nil] <;> omega))
  · refine z_ ?_
    (repeat refine RC.seq ?_); refine RC.drawS mixed (N := 6) rfl ?_
    refine dt 0 ?_
    refine dt 1 ?_
    refine dt 2 ?_
    refine DR.t 3 rfl (vlo hc1) ?_
    refine dt 4 ?_
    refine dt 5 ?_
    refine DR.done (by kernel_rfl) ?_
    refine z_ ?_
    have hn : endW x.bs x.e = [] := if_neg he
    exact RQ.ret2 rfl (Res.tmp rfl) (Res.tmp rfl) fun w' hm => Turns.of (Y := EndY x.bs x.e) (V := fun y => .tuple #[y.1.1, .int .i64 x.e]) (L' := fun y => y.1.2) (Lst := []) ⟨(.slice none 0 0, []), by rw [hn]; exact Own.nil⟩ hm (Lr := []) (perm_of fun f => by (simp only [List.map_append, List.map_cons, List.map_nil, List.sum_append, List.sum_cons, List.sum_nil] <;> omega))
end Go.Proofs.YtfoeakgnkfcbjaaGreatDoor
end
