/- wire: plain. -/
import Derived.Test.YtgnjdpaenojfhaaWrR
import Derived.Test.YtgnjdpaenojfhaaMer2
set_option linter.unusedSimpArgs false
set_option linter.unusedVariables false
namespace Go.Proofs.Ytgnjdpaenojfhaa
attribute [local irreducible] Go.Vc.Run Go.Vc.RC Go.Vc.RQ Go.Vc.DR Go.Vc.DOp
open Go Go.Vc Go.Sha
/-- A part's bytes; may it be written? -/
def plainW (p : PtD) : List Nat × Bool :=
  if p.k = 8 then (p.h, true) else if p.k = 9 then (le p.b.length 4 ++ p.b, true) else if numBad p.n p.k then ([], false) else (le p.n.toNat p.k.toNat, true)
set_option maxRecDepth 10000 in set_option maxHeartbeats 4000000 in
theorem plain_calls (p : PtD) (hpb : p.b.length ≤ 900000) (w : World) (hin : SrcW w 1 p.v p.b.length (u8s p.b)) :
    Makes2 Try.prog 10 [.agg p.c.toArray] w 5 1 (plainW p).1.length (u8s (plainW p).1) (plainW p).2 := by
  refine enter Try.func10 rfl (Mem.nil w []) rfl ?_
  obtain ⟨ba, bc, hbv, hbc⟩ := hin.shape
  obtain ⟨k, n, h, b, v, h8, hh, hb, hk, hn, hl⟩ := p
  dsimp only at hpb hin hbv hbc ⊢
  subst hbv
  obtain ⟨o0, o1, o2, o3, o4, o5, o6, o7, rfl⟩ := len8 h8
  obtain ⟨pc, hpc⟩ : ∃ c : Array Value, c = (PtD.c ⟨k, n, [o0, o1, o2, o3, o4, o5, o6, o7], b, .slice ba b.length bc, h8, hh, hb, hk, hn, hl⟩).toArray := ⟨_, rfl⟩
  rw [← hpc]
  change pc = #[.int .i64 k, .int .i64 n, .int .u8 o0, .int .u8 o1, .int .u8 o2, .int .u8 o3, .int .u8 o4, .int .u8 o5, .int .u8 o6, .int .u8 o7, .slice ba b.length bc] at hpc
  subst hpc
  unfold plainW
  dsimp only
  refine z_ ?_
  refine Run.nw nbx ?_
  intro b1
  refine z_ ?_
  by_cases h8 : k = 8
  · rw [if_pos h8]
    refine z_ ?_
    refine Run.a (Val.sliceA tabOk rfl rfl rfl rfl rfl) ?_
    refine Run.op1 (OpTo.append (k := 8) (news := u8s [o0, o1, o2, o3, o4, o5, o6, o7]) tabOk Own.nil (Src.at _ 8 8 _ rfl (Rd.row m0 fun j u hj => ?_)) rfl rfl rfl rfl rfl rfl rfl rfl rfl (List.Perm.refl _) (u8s_one _) (by decide) (by decide)) ?_
    · have hjl := (List.getElem?_eq_some_iff.1 hj).1
      rw [u8s_len] at hjl
      simp only [List.length_cons, List.length_nil] at hjl
      match j, hjl, hj with
      | 0, _, hj => exact hj
      | 1, _, hj => exact hj
      | 2, _, hj => exact hj
      | 3, _, hj => exact hj
      | 4, _, hj => exact hj
      | 5, _, hj => exact hj
      | 6, _, hj => exact hj
      | 7, _, hj => exact hj
    rintro ⟨⟨v10, bl10⟩, hown⟩
    dsimp only at hown ⊢
    refine z_ ?_
    exact RQ.ret2 rfl (Res.tmp rfl) (Res.tmp rfl) fun w' hm => Makes2.of hown hm
  by_cases h9 : k = 9
  · rw [if_neg h8, if_pos h9]
    refine z_ ?_
    (repeat refine RC.seq ?_); refine RC.draw ([(b1, Obj.cells #[.int .i64 k, .int .i64 n, .int .u8 o0, .int .u8 o1, .int .u8 o2, .int .u8 o3, .int .u8 o4, .int .u8 o5, .int .u8 o6, .int .u8 o7, .slice ba b.length bc] 31 (0, 0))]) mixed (N := 9) rfl ?_
    refine dt 0 ?_
    refine dt 1 ?_
    refine dt 2 ?_
    refine dt 4 ?_
    refine dt 5 ?_
    refine DR.c 3 (DOp.op1 rfl (OpTo.callMk Try.func23 rfl rfl rfl rfl rfl rfl (fun w' hm => Num_calls b.length 4 (by decide) w')) ?_)
    rintro ⟨⟨v18, bl18⟩, hown⟩
    dsimp only at hown ⊢
    refine DR.c 6 (DOp.op1 rfl (OpTo.append (L1 := [(b1, Obj.cells #[.int .i64 k, .int .i64 n, .int .u8 o0, .int .u8 o1, .int .u8 o2, .int .u8 o3, .int .u8 o4, .int .u8 o5, .int .u8 o6, .int .u8 o7, .slice ba b.length bc] 31 (0, 0))]) tabOk hown hin.src rfl rfl rfl rfl rfl rfl rfl rfl rfl (perm_of fun f => by (simp only [List.map_append, List.map_cons, List.map_nil, List.sum_append, List.sum_cons, List.sum_nil] <;> omega)) (u8s_one _) (by unfold maxLen; omega) (by simp only [ti5]; omega)) ?_)
    rintro ⟨⟨v21, bl21⟩, hown2⟩
    dsimp only at hown2 ⊢
    rw [← u8s_app] at hown2
    refine dt 7 ?_
    refine dt 8 ?_
    refine DR.done (by kernel_rfl) ?_
    refine z_ ?_
    exact RQ.ret2 rfl (Res.tmp rfl) (Res.tmp rfl) fun w' hm => Makes2.of (by rw [List.length_append, le_len]; exact hown2) hm
  rw [if_neg h8, if_neg h9]
  by_cases h1 : k < 1
  · rw [if_pos (.inl h1)]
    refine z_ ?_
    exact RQ.ret2 rfl (Res.tmp rfl) (Res.tmp rfl) fun w' hm => Makes2.nil hm
  by_cases h7 : 7 < k
  · rw [if_pos (.inr (.inl h7))]
    refine z_ ?_
    exact RQ.ret2 rfl (Res.tmp rfl) (Res.tmp rfl) fun w' hm => Makes2.nil hm
  by_cases h0 : n < 0
  · rw [if_pos (.inr (.inr (.inl h0)))]
    refine z_ ?_
    exact RQ.ret2 rfl (Res.tmp rfl) (Res.tmp rfl) fun w' hm => Makes2.nil hm
  obtain ⟨n, rfl⟩ := Int.eq_ofNat_of_zero_le (Int.not_lt.1 h0)
  obtain ⟨k, rfl⟩ := Int.eq_ofNat_of_zero_le (show 0 ≤ k by omega)
  have hp56 : 2 ^ (8 * k) ≤ 2 ^ 56 := Nat.pow_le_pow_right (by decide) (by omega)
  have hv : IntKind.i64.wrap (1 * 2 ^ min (8 * (k : Int)).toNat IntKind.i64.bits) = ((2 ^ (8 * k) : Nat) : Int) := by
    rw [show min (8 * (k : Int)).toNat IntKind.i64.bits = 8 * k from by show min _ 64 = _; omega, Int.one_mul, show (2 : Int) ^ (8 * k) = ((2 ^ (8 * k) : Nat) : Int) from by rw [Int.natCast_pow]; rfl]
    generalize 2 ^ (8 * k) = X at hp56 ⊢
    exact wrap_in (by dsimp only [inK]; omega)
  refine z_ ?_
  rw [hv]
  by_cases hs : 2 ^ (8 * k) ≤ n
  · rw [if_pos (.inr (.inr (.inr (by simp only [Int.toNat_natCast]; have := Nat.div_pos hs (Nat.pow_pos (by decide)); omega))))]
    refine z_ ?_
    exact RQ.ret2 rfl (Res.tmp rfl) (Res.tmp rfl) fun w' hm => Makes2.nil hm
  · have hd0 : n / 2 ^ (8 * k) = 0 := Nat.div_eq_of_lt (by omega)
    rw [if_neg (by unfold numBad; simp only [Int.toNat_natCast]; omega)]
    simp only [Int.toNat_natCast]
    refine z_ ?_
    refine Run.op1 (OpTo.callMk Try.func23 rfl rfl rfl rfl rfl rfl (fun w' hm => Num_calls n k (by omega) w')) ?_
    rintro ⟨⟨v50, bl50⟩, hown⟩
    dsimp only at hown ⊢
    refine z_ ?_
    exact RQ.ret2 rfl (Res.tmp rfl) (Res.tmp rfl) fun w' hm => Makes2.of (by rw [le_len]; exact hown) hm
end Go.Proofs.Ytgnjdpaenojfhaa
