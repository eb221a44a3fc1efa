/- wire: digits. -/
import Derived.Test.YtgnjdpaenojfhaaRefT
import Derived.Test.YtgnjdpaenojfhaaLam0
import Derived.Test.YtgnjdpaenojfhaaVcT
set_option linter.unusedSimpArgs false
set_option linter.unusedVariables false
namespace Go.Vc
open Go
section
variable {P : Program} {n : Nat} {w0 : World} {S0 : List Nat} {Q : Exit → Act → World → Prop} {E : Env} {L : Hp}
theorem RQ.upP {D : Type} {N : Nat} {R : Nat → D → Prop} {Ei : Nat → D → Env} {Li : Nat → D → Hp} {i : Nat} (j : Nat) (d : D) (hij : i < j) (hj : j ≤ N) (hR : R j d) (hE : Env.le (Ei j d) E) {L1 : Hp} (hp : L.Perm L1) (hL : (Li j d).Sublist L1) :
    RQ n w0 S0 .normal (Exit.then (Up n w0 S0 N R Ei Li i) Q) E L :=
  fun _ _ hs hm => ⟨j, d, hij, hj, hR, hs.weak hE, (hm.perm hp).sublist hL⟩
end
end Go.Vc
namespace Go.Proofs.Ytgnjdpaenojfhaa
attribute [local irreducible] Go.Vc.Run Go.Vc.RC Go.Vc.RQ Go.Vc.DR Go.Vc.DOp
open Go Go.Vc Go.Sha
set_option maxRecDepth 10000 in set_option maxHeartbeats 4000000 in
theorem digits_calls (n k : Nat) (hk : k ≤ 8) (w : World) :
    Makes Try.prog 34 [.int .i64 n, .int .i64 k] w 5 1 k (u8s (le n k)) := by
  refine enter Try.func34 rfl (Mem.nil w []) rfl ?_
  refine z_ ?_
  refine Run.nw (nmk (m := k) (.int .u8 0) (hb := by show 1 * k ≤ _; omega)) ?_
  intro b
  rw [show List.replicate k (Value.int .u8 0) = u8s (le n 0 ++ List.replicate (k - 0) 0) from by simp [le, u8s]]
  refine z_ ?_
  refine RC.up k (D := Unit) (fun _ _ => True) (fun i _ => [(11, .int .i64 i), (10, .int .i64 k), (5, .slice (some ⟨b, 0, none⟩) k k), (0, .int .i64 n)])
    (fun i _ => [(b, Obj.cells (u8s (le n i ++ List.replicate (k - i) 0)).toArray 5 (0, 0))]) 0 () (Nat.zero_le _) trivial ⟨rfl, rfl, rfl, rfl, trivial⟩ (List.Sublist.refl _) ?_
  intro i _ hi _
  refine z_ ?_
  (repeat refine RC.seq ?_); refine RC.wh rfl (fun h => RQ.next ?_) (fun h => ?_)
  · have hi' : i < k := by have := of_decide_eq_true h; omega
    clear h
    obtain ⟨j, hj⟩ : ∃ j, k - i = 1 + j := ⟨k - i - 1, by omega⟩
    have hw := wr_next (le n i) [n / 2 ^ (8 * i) % 256] j
    rw [show [n / 2 ^ (8 * i) % 256].length + j = k - i from by rw [hj]; rfl, le_len] at hw
    have hv : IntKind.u8.wrap ((n : Int).fdiv (2 ^ min (8 * (i : Int)).toNat IntKind.i64.bits)) = ((n / 2 ^ (8 * i) % 256 : Nat) : Int) := by
      rw [show min (8 * (i : Int)).toNat IntKind.i64.bits = 8 * i from by show min _ 64 = _; omega, wrap_u8, Int.fdiv_eq_ediv_of_nonneg _ (Int.le_of_lt (Int.pow_pos (by decide)))]
      rfl
    refine z_ ?_
    rw [hv]
    refine Run.a (vix i hi' ⟨b, 0 + i, none⟩) ?_
    refine Run.op1 (os1 (arr := (u8s (le n i ++ List.replicate (k - i) 0)).toArray) (u8s (le n i ++ [n / 2 ^ (8 * i) % 256] ++ List.replicate j 0)).toArray (he := by rw [Nat.zero_add]; exact hw) (hf := by rw [List.size_toArray, u8s_len, List.length_append, le_len, List.length_replicate]; show 0 + i + 1 ≤ _; omega)) (fun _ => ?_)
    refine z_ ?_
    exact RQ.upP (i + 1) () (Nat.lt_succ_self _) hi' trivial ⟨rfl, rfl, rfl, rfl, trivial⟩ (L1 := [(b, Obj.cells (u8s (le n (i + 1) ++ List.replicate (k - (i + 1)) 0)).toArray 5 (0, 0))] ++ []) (by rw [show k - (i + 1) = j from by omega]; exact List.Perm.refl _) (List.sublist_append_left _ _)
  · have hi' : i = k := by have := of_decide_eq_false h; omega
    subst hi'
    (repeat refine RQ.thenExit ?_); refine RQ.blockHere ?_
    refine z_ ?_
    rw [Nat.sub_self, List.replicate_zero, List.append_nil]
    exact RQ.ret1 rfl (Res.tmp rfl) fun w' hm => Makes.of (L' := []) (Own.row b i i (u8s (le n i)) [] (by rw [u8s_len, le_len, Nat.mul_one]) (by rw [List.append_nil, u8s_len, le_len, Nat.mul_one]) (Nat.le_refl _) (by unfold maxLen; omega)) (by rw [List.append_nil, List.append_nil]; exact hm)
end Go.Proofs.Ytgnjdpaenojfhaa
