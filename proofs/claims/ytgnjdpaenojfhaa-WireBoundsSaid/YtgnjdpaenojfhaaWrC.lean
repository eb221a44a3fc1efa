/- wire: the writer's parts. -/
import Derived.Test.YtgnjdpaenojfhaaWrB
set_option linter.unusedSimpArgs false
set_option linter.unusedVariables false
namespace Go.Vc
open Go
theorem hasFs {w0 w' : World} {S0 : List Nat} {L A B : Hp} (hp : L.Perm (A ++ B)) (hm : Mem w0 S0 L w') : Has A w' ∧ (A.map (·.1)).Nodup :=
  ⟨fun q hq => (hm.perm hp).has q (List.mem_append_left _ hq), by have := (hm.perm hp).nd; rw [List.map_append] at this; exact (List.nodup_append.1 this).1⟩
end Go.Vc
namespace Go.Proofs.Ytgnjdpaenojfhaa
attribute [local irreducible] Go.Vc.Run Go.Vc.RC Go.Vc.RQ Go.Vc.DR Go.Vc.DOp
open Go Go.Vc Go.Sha
set_option maxRecDepth 10000 in set_option maxHeartbeats 4000000 in
theorem WHash_calls {wb : Nat} (x : WrP wb) (h : List Nat) (h8 : h.length = 8) (w : World) (hw : Has x.L w) (hnd : (x.L.map (·.1)).Nodup) :
    Turns Try.prog 24 [.pointer (some ⟨wb, 0, none⟩), .agg (u8s h).toArray] w x.L (Y := PutY wb (putW x.bs x.e h)) (fun _ => .tuple #[]) (fun y => y.1.L) := by
  refine enter Try.func24 rfl (Mem.init (S0 := x.L.map (·.1)) hw (fun p hp => List.mem_map_of_mem hp) hnd) rfl ?_
  refine z_ ?_
  refine Run.nw nbx ?_
  intro b3
  refine z_ ?_
  refine Run.a (Val.sliceA tabOk rfl rfl rfl rfl rfl) ?_
  have hp1 : ((b3, Obj.cells (u8s h).toArray 29 (0, 0)) :: x.L).Perm ((x.L ++ [(b3, Obj.cells (u8s h).toArray 29 (0, 0))]) ++ []) := (perm_of fun f => by (simp only [List.map_append, List.map_cons, List.map_nil, List.sum_append, List.sum_cons, List.sum_nil] <;> omega))
  refine Run.op1 (OpTo.callT Try.func33 hp1 (fun w' hm => put_calls x h (ap := [(b3, Obj.cells (u8s h).toArray 29 (0, 0))]) (by omega) w' (fun L hL => by rw [h8]; exact Src.at ⟨b3, 0, none⟩ 8 8 (u8s h) (by rw [u8s_len, h8]) (Rd.rowAll (hL _ m0))) ⟨_, _, by rw [h8]⟩ (hasFs hp1 hm).1 (hasFs hp1 hm).2)) ?_
  rintro ⟨y, hy⟩
  dsimp only at hy ⊢
  refine z_ ?_
  exact RQ.end0 rfl fun w' hm => Turns.of (Y := PutY wb (putW x.bs x.e h)) (V := fun _ => .tuple #[]) (L' := fun y => y.1.L) ⟨y, hy⟩ hm (Lr := [(b3, Obj.cells (u8s h).toArray 29 (0, 0))]) (perm_of fun f => by (simp only [List.map_append, List.map_cons, List.map_nil, List.sum_append, List.sum_cons, List.sum_nil] <;> omega))
set_option maxRecDepth 10000 in set_option maxHeartbeats 4000000 in
theorem WBytes_calls {wb : Nat} (x : WrP wb) (a : List Nat) {u : Value} {ap : Hp} (hal : a.length ≤ 900000) (w : World) (hsrc : ∀ L : Hp, (∀ p ∈ ap, p ∈ L) → Src w ((x.L ++ ap).map (·.1)) L 1 u a.length (u8s a)) (hush : ∃ ua uc, u = .slice ua a.length uc)
    (hw : Has (x.L ++ ap) w) (hnd : ((x.L ++ ap).map (·.1)).Nodup) :
    Turns Try.prog 25 [.pointer (some ⟨wb, 0, none⟩), u] w (x.L ++ ap) (Y := PutY wb (putW x.bs x.e (le a.length 4 ++ a))) (fun _ => .tuple #[]) (fun y => y.1.L ++ ap) := by
  refine enter Try.func25 rfl (Mem.init (S0 := (x.L ++ ap).map (·.1)) hw (fun p hp => List.mem_map_of_mem hp) hnd) rfl ?_
  obtain ⟨ua, uc, rfl⟩ := hush
  refine z_ ?_
  refine Run.op1 (OpTo.callMk Try.func34 rfl rfl rfl rfl rfl rfl (fun w' hm => digits_calls a.length 4 (by decide) w')) ?_
  rintro ⟨⟨v7, bl7⟩, hown⟩
  dsimp only at hown ⊢
  refine z_ ?_
  refine Run.op1 (OpTo.append (L1 := x.L ++ ap) tabOk hown (hsrc _ (fun p hp => List.mem_append_right _ (List.mem_append_right _ hp))) rfl rfl rfl rfl rfl rfl rfl rfl rfl (perm_of fun f => by (simp only [List.map_append, List.map_cons, List.map_nil, List.sum_append, List.sum_cons, List.sum_nil] <;> omega)) (u8s_one _) (by unfold maxLen; omega) (by simp only [ti5]; omega)) ?_
  rintro ⟨⟨v9, bl9⟩, hown9⟩
  dsimp only at hown9 ⊢
  rw [← u8s_app] at hown9
  obtain ⟨a9, c9, rfl, hc9⟩ := hown9.shape
  have hln : (le a.length 4 ++ a).length = 4 + a.length := by rw [List.length_append, le_len]
  have hp1 : (bl9 ++ (x.L ++ ap)).Perm ((x.L ++ bl9) ++ ap) := (perm_of fun f => by (simp only [List.map_append, List.map_cons, List.map_nil, List.sum_append, List.sum_cons, List.sum_nil] <;> omega))
  refine z_ ?_
  refine Run.op1 (OpTo.callT Try.func33 hp1 (fun w' hm => put_calls x (le a.length 4 ++ a) (ap := bl9) (by omega) w' (fun L hL => by rw [hln]; exact hown9.src hL) ⟨_, _, by rw [hln]⟩ (hasFs hp1 hm).1 (hasFs hp1 hm).2)) ?_
  rintro ⟨y, hy⟩
  dsimp only at hy ⊢
  refine z_ ?_
  exact RQ.end0 rfl fun w' hm => put_of y hy hm (Lr := bl9) (perm_of fun f => by (simp only [List.map_append, List.map_cons, List.map_nil, List.sum_append, List.sum_cons, List.sum_nil] <;> omega))
/-- May a number be written in so many bytes? -/
def numBad (n k : Int) : Prop := k < 1 ∨ 7 < k ∨ n < 0 ∨ n.toNat / 2 ^ (8 * k.toNat) ≠ 0
instance (n k : Int) : Decidable (numBad n k) := by unfold numBad; infer_instance
def numW (bs : List Nat) (e n k : Int) : List Nat × Int := if e = 0 then (if numBad n k then (bs, 1) else putW bs 0 (le n.toNat k.toNat)) else (bs, e)
set_option maxRecDepth 10000 in set_option maxHeartbeats 4000000 in
theorem WNum_calls {wb : Nat} (x : WrP wb) (n k : Int) (w : World) (hw : Has x.L w) (hnd : (x.L.map (·.1)).Nodup) :
    Turns Try.prog 26 [.pointer (some ⟨wb, 0, none⟩), .int .i64 n, .int .i64 k] w x.L (Y := PutY wb (numW x.bs x.e n k)) (fun _ => .tuple #[]) (fun y => y.1.L) := by
  refine enter Try.func26 rfl (Mem.init (S0 := x.L.map (·.1)) hw (fun p hp => List.mem_map_of_mem hp) hnd) rfl ?_
  by_cases he : x.e = 0
  · have hcells : x.L = (wb, Obj.cells #[x.v, .int .i64 0] 49 (0, 0)) :: x.bl := by unfold Wr.L; rw [he]
    rw [he, hcells]
    by_cases h1 : k < 1
    · rw [show numW x.bs 0 n k = (x.bs, 1) from by unfold numW; rw [if_pos rfl, if_pos (.inl h1)]]
      refine z_ ?_
      refine Run.op1 (os1 #[x.v, .int .i64 1]) (fun _ => ?_)
      refine z_ ?_
      exact RQ.end0 rfl fun w' hm => Turns.of (Y := PutY wb (x.bs, 1)) (V := fun _ => .tuple #[]) (L' := fun y => y.1.L) ⟨⟨x.v, x.bl, x.bs, 1, x.own, x.nd, x.hl⟩, rfl⟩ hm (Lr := []) (by unfold Wr.L; exact (perm_of fun f => by (simp only [List.map_append, List.map_cons, List.map_nil, List.sum_append, List.sum_cons, List.sum_nil] <;> omega)))
    by_cases h7 : 7 < k
    · rw [show numW x.bs 0 n k = (x.bs, 1) from by unfold numW; rw [if_pos rfl, if_pos (.inr (.inl h7))]]
      refine z_ ?_
      refine Run.op1 (os1 #[x.v, .int .i64 1]) (fun _ => ?_)
      refine z_ ?_
      exact RQ.end0 rfl fun w' hm => Turns.of (Y := PutY wb (x.bs, 1)) (V := fun _ => .tuple #[]) (L' := fun y => y.1.L) ⟨⟨x.v, x.bl, x.bs, 1, x.own, x.nd, x.hl⟩, rfl⟩ hm (Lr := []) (by unfold Wr.L; exact (perm_of fun f => by (simp only [List.map_append, List.map_cons, List.map_nil, List.sum_append, List.sum_cons, List.sum_nil] <;> omega)))
    by_cases h0 : n < 0
    · rw [show numW x.bs 0 n k = (x.bs, 1) from by unfold numW; rw [if_pos rfl, if_pos (.inr (.inr (.inl h0)))]]
      refine z_ ?_
      refine Run.op1 (os1 #[x.v, .int .i64 1]) (fun _ => ?_)
      refine z_ ?_
      exact RQ.end0 rfl fun w' hm => Turns.of (Y := PutY wb (x.bs, 1)) (V := fun _ => .tuple #[]) (L' := fun y => y.1.L) ⟨⟨x.v, x.bl, x.bs, 1, x.own, x.nd, x.hl⟩, rfl⟩ hm (Lr := []) (by unfold Wr.L; exact (perm_of fun f => by (simp only [List.map_append, List.map_cons, List.map_nil, List.sum_append, List.sum_cons, List.sum_nil] <;> omega)))
    obtain ⟨n, rfl⟩ := Int.eq_ofNat_of_zero_le (Int.not_lt.1 h0)
    obtain ⟨k, rfl⟩ := Int.eq_ofNat_of_zero_le (show 0 ≤ k by omega)
    have hv : (n : Int).fdiv (2 ^ min (8 * (k : Int)).toNat IntKind.i64.bits) = ((n / 2 ^ (8 * k) : Nat) : Int) := by
      rw [show min (8 * (k : Int)).toNat IntKind.i64.bits = 8 * k from by show min _ 64 = _; omega, Int.fdiv_eq_ediv_of_nonneg _ (Int.le_of_lt (Int.pow_pos (by decide)))]
      rfl
    refine z_ ?_
    rw [hv]
    by_cases hs : n / 2 ^ (8 * k) = 0
    · rw [show numW x.bs 0 n k = putW x.bs 0 (le n k) from by unfold numW; rw [if_pos rfl, if_neg (by unfold numBad; simp only [Int.toNat_natCast]; omega)]; simp only [Int.toNat_natCast]]
      rw [hs]
      refine z_ ?_
      refine Run.op1 (OpTo.callMk Try.func34 rfl rfl rfl rfl rfl rfl (fun w' hm => digits_calls n k (by omega) w')) ?_
      rintro ⟨⟨v7, bl7⟩, hown⟩
      dsimp only at hown ⊢
      obtain ⟨a7, c7, rfl, hc7⟩ := hown.shape
      have hp1 : (bl7 ++ ((wb, Obj.cells #[x.v, .int .i64 0] 49 (0, 0)) :: x.bl)).Perm (((⟨x.v, x.bl, x.bs, 0, x.own, x.nd, x.hl⟩ : WrP wb).L ++ bl7) ++ []) := by unfold Wr.L; exact (perm_of fun f => by (simp only [List.map_append, List.map_cons, List.map_nil, List.sum_append, List.sum_cons, List.sum_nil] <;> omega))
      refine z_ ?_
      refine Run.op1 (OpTo.callT Try.func33 hp1 (fun w' hm => put_calls (⟨x.v, x.bl, x.bs, 0, x.own, x.nd, x.hl⟩ : WrP wb) (le n k) (ap := bl7) (by rw [le_len]; omega) w' (fun L hL => by rw [le_len]; exact hown.src hL) ⟨_, _, by rw [le_len]⟩ (hasFs hp1 hm).1 (hasFs hp1 hm).2)) ?_
      rintro ⟨y, hy⟩
      dsimp only at hy ⊢
      refine z_ ?_
      exact RQ.end0 rfl fun w' hm => Turns.of (Y := PutY wb (putW x.bs 0 (le n k))) (V := fun _ => .tuple #[]) (L' := fun y => y.1.L) ⟨y, hy⟩ hm (Lr := bl7) (perm_of fun f => by (simp only [List.map_append, List.map_cons, List.map_nil, List.sum_append, List.sum_cons, List.sum_nil] <;> omega))
    · rw [show numW x.bs 0 n k = (x.bs, 1) from by unfold numW; rw [if_pos rfl, if_pos (.inr (.inr (.inr hs)))]]
      rw [show (((n / 2 ^ (8 * k) : Nat) : Int) != 0) = true from bne_iff_ne.2 (fun h => hs (Int.ofNat.inj h))]
      refine z_ ?_
      refine Run.op1 (os1 #[x.v, .int .i64 1]) (fun _ => ?_)
      refine z_ ?_
      exact RQ.end0 rfl fun w' hm => Turns.of (Y := PutY wb (x.bs, 1)) (V := fun _ => .tuple #[]) (L' := fun y => y.1.L) ⟨⟨x.v, x.bl, x.bs, 1, x.own, x.nd, x.hl⟩, rfl⟩ hm (Lr := []) (by unfold Wr.L; exact (perm_of fun f => by (simp only [List.map_append, List.map_cons, List.map_nil, List.sum_append, List.sum_cons, List.sum_nil] <;> omega)))
  · rw [show numW x.bs x.e n k = (x.bs, x.e) from if_neg he]
    refine z_ ?_
    exact RQ.end0 rfl fun w' hm => Turns.of (Y := PutY wb (x.bs, x.e)) (V := fun _ => .tuple #[]) (L' := fun y => y.1.L) ⟨x, rfl⟩ hm (Lr := []) (by unfold Wr.L; exact (perm_of fun f => by (simp only [List.map_append, List.map_cons, List.map_nil, List.sum_append, List.sum_cons, List.sum_nil] <;> omega)))
end Go.Proofs.Ytgnjdpaenojfhaa
