/- wire: write. -/
import Derived.Test.YtgnjdpaenojfhaaWrQ
set_option linter.unusedSimpArgs false
set_option linter.unusedVariables false
namespace Go.Vc
open Go Go.Sha
theorem SrcW.srcOld {w0 w : World} {S : List Nat} {L : Hp} {sz m : Nat} {v : Value} {cs : List Value} (h : SrcW w0 sz v m cs) (hf : Fr [] w0 w) (hS : ∀ k ∈ S, w0.heap.size ≤ k) : Src w S L sz v m cs := by
  cases h with
  | nil => exact .nil
  | «at» a m c cs hl hm hr =>
    refine .at a m c cs hl fun w1 hm1 j u hj => ?_
    have h0 := hr j u hj
    refine hm1.fr.cell (fun hin => ?_) (hf.cell (by simp) h0)
    have := World.block_lt_of_cell? w0 _ h0
    have := hS _ hin
    omega
end Go.Vc
namespace Go.Proofs.Ytgnjdpaenojfhaa
attribute [local irreducible] Go.Vc.Run Go.Vc.RC Go.Vc.RQ Go.Vc.DR Go.Vc.DOp
open Go Go.Vc Go.Sha
/-- One part is written. -/
def stepW (s : List Nat × Int) (p : PtD) : List Nat × Int :=
  if p.k = 8 then putW s.1 s.2 p.h else if p.k = 9 then putW s.1 s.2 (le p.b.length 4 ++ p.b) else numW s.1 s.2 p.n p.k
/-- What a writer holds behind parts. -/
def writeW (ps : List PtD) : List Nat × Int := ps.foldl stepW ([], 0)
set_option maxRecDepth 10000 in set_option maxHeartbeats 4000000 in
theorem write_calls (ps : List PtD) (hpl : ps.length ≤ 9223372036854775807) (hps : ∀ p ∈ ps, p.b.length ≤ 900000) (vl : Value) (w : World) (hs : SrcW w 11 vl ps.length (rws PtD.c ps)) (hin : PtIn w ps) :
    Turns Try.prog 11 [vl] w [] (Y := EndY (writeW ps).1 (writeW ps).2) (fun y => .tuple #[y.1.1, .int .i64 (writeW ps).2]) (fun y => y.1.2) := by
  refine enter Try.func11 rfl (Mem.nil w []) rfl ?_
  obtain ⟨la, lc, rfl, hlc⟩ := hs.shape
  refine z_ ?_
  refine Run.nw nal ?_
  intro wb
  refine z_ ?_
  refine RC.up ps.length (D := WrP wb) (fun i d => (d.bs, d.e) = (ps.take i).foldl stepW ([], 0)) (fun i _ => [(5, .int .i64 i), (4, .pointer (some ⟨wb, 0, none⟩)), (0, .slice la ps.length lc)]) (fun _ d => d.L) 0 (⟨.slice none 0 0, [], [], 0, .nil, by simp, by decide⟩ : WrP wb) (Nat.zero_le _) rfl ⟨rfl, rfl, rfl, trivial⟩ (List.Sublist.refl _) ?_
  intro i x hi hx
  refine z_ ?_
  (repeat refine RC.seq ?_); refine RC.wh rfl (fun h => RQ.next ?_) (fun h => ?_)
  · have hi' : i < ps.length := by have := of_decide_eq_true h; omega
    clear h
    obtain ⟨p, hp⟩ : ∃ p, ps[i]? = some p := ⟨_, List.getElem?_eq_getElem hi'⟩
    obtain ⟨ad, c', hv', hc', hcl, hr⟩ := hs.pos (by omega)
    cases hv'
    have hat := pt_at hr hp
    have hpm := List.mem_of_getElem? hp
    have hsp := hin p hpm
    have hpb := hps p hpm
    obtain ⟨ba, bc, hbv, hbc⟩ := hsp.shape
    have hab := hat.b
    rw [hbv] at hsp hab
    have hstep : ∀ y : WrP wb, (y.bs, y.e) = stepW (x.bs, x.e) p → (y.bs, y.e) = (ps.take (i + 1)).foldl stepW ([], 0) := by
      intro y hy
      rw [List.take_add_one, hp, Option.toList_some, List.foldl_append, ← hx, hy]
      rfl
    have hh8 : (u8s p.h).length = 8 := by rw [u8s_len, p.h8]
    have hz2 : x.L.Perm ((x.L ++ []) ++ []) := by rw [List.append_nil, List.append_nil]
    have hS : ∀ w', Mem w [] x.L w' → ∀ k ∈ (x.L ++ [] : Hp).map (·.1), w.heap.size ≤ k := by
      intro w' hm k hk
      rw [List.append_nil] at hk
      obtain ⟨q, hq, rfl⟩ := List.mem_map.1 hk
      exact (hm.own q hq).resolve_right (by simp)
    have hz : x.L.Perm (x.L ++ []) := by rw [List.append_nil]
    refine z_ ?_
    refine Run.a (vix i hi' (ad.add (i * 11))) ?_
    refine Run.a (vfA) ?_
    refine Run.a (vlo hat.k) ?_
    by_cases h8 : p.k = 8
    · have e1 : stepW (x.bs, x.e) p = putW x.bs x.e p.h := by unfold stepW; rw [if_pos h8]
      rw [e1] at hstep
      refine z_ ?_
      refine Run.a (vix i hi' (ad.add (i * 11))) ?_
      refine Run.a (vfA) ?_
      refine Run.a (vloA hat.h hh8) ?_
      refine Run.op1 (OpTo.callT Try.func24 hz (fun w' hm => WHash_calls x p.h p.h8 w' hm.has hm.nd)) ?_
      rintro ⟨y, hy⟩
      dsimp only at hy ⊢
      refine z_ ?_
      exact RQ.upQ (i + 1) y (Nat.lt_succ_self _) hi' (hstep y hy) ⟨rfl, rfl, rfl, trivial⟩ (L1 := y.L ++ []) (List.Perm.refl _) (List.sublist_append_left _ _)
    by_cases h9 : p.k = 9
    · have e1 : stepW (x.bs, x.e) p = putW x.bs x.e (le p.b.length 4 ++ p.b) := by unfold stepW; rw [if_neg h8, if_pos h9]
      rw [e1] at hstep
      refine z_ ?_
      refine Run.a (vix i hi' (ad.add (i * 11))) ?_
      refine Run.a (vfA) ?_
      refine Run.a (vlo hab) ?_
      refine Run.op1 (OpTo.callT Try.func25 hz2 (fun w' hm => WBytes_calls x p.b (ap := []) hpb w' (fun L _ => hsp.srcOld hm.fr (hS w' hm)) ⟨_, _, rfl⟩ (by rw [List.append_nil]; exact hm.has) (by rw [List.append_nil]; exact hm.nd))) ?_
      rintro ⟨y, hy⟩
      dsimp only at hy ⊢
      refine z_ ?_
      exact RQ.upQ (i + 1) y (Nat.lt_succ_self _) hi' (hstep y hy) ⟨rfl, rfl, rfl, trivial⟩ (L1 := y.L ++ []) (perm_of fun f => by (simp only [List.map_append, List.map_cons, List.map_nil, List.sum_append, List.sum_cons, List.sum_nil] <;> omega)) (List.sublist_append_left _ _)
    have e1 : stepW (x.bs, x.e) p = numW x.bs x.e p.n p.k := by unfold stepW; rw [if_neg h8, if_neg h9]
    rw [e1] at hstep
    refine z_ ?_
    (repeat refine RC.seq ?_); refine RC.draw (x.L) mixed (N := 11) rfl ?_
    refine dt 0 ?_
    refine dt 1 ?_
    refine DR.t 2 rfl (vix i hi' (ad.add (i * 11))) ?_
    refine DR.t 3 rfl (vfA) ?_
    refine DR.t 4 rfl (vlo hat.n) ?_
    refine dt 5 ?_
    refine dt 6 ?_
    refine DR.t 7 rfl (vix i hi' (ad.add (i * 11))) ?_
    refine DR.t 8 rfl (vfA) ?_
    refine DR.t 9 rfl (vlo hat.k) ?_
    refine DR.c 10 (DOp.op1 rfl (OpTo.callT Try.func26 hz (fun w' hm => WNum_calls x p.n p.k w' hm.has hm.nd)) ?_)
    rintro ⟨y, hy⟩
    dsimp only at hy ⊢
    refine DR.done (by kernel_rfl) ?_
    refine z_ ?_
    exact RQ.upQ (i + 1) y (Nat.lt_succ_self _) hi' (hstep y hy) ⟨rfl, rfl, rfl, trivial⟩ (L1 := y.L ++ []) (List.Perm.refl _) (List.sublist_append_left _ _)
  · have hi' : i = ps.length := by have := of_decide_eq_false h; omega
    subst hi'
    rw [List.take_length] at hx
    obtain ⟨e1, e2⟩ : x.bs = (writeW ps).1 ∧ x.e = (writeW ps).2 := by unfold writeW; rw [← hx]; exact ⟨rfl, rfl⟩
    have hE := fun w' h => WEnd_calls x w' h
    rw [e1, e2] at hE
    have hz : x.L.Perm ([] ++ x.L) := by rw [List.nil_append]
    (repeat refine RQ.thenExit ?_); refine RQ.blockHere ?_
    refine z_ ?_
    refine Run.op1 (OpTo.callT Try.func27 hz (fun w' hm => hE w' hm.has)) ?_
    intro y
    refine z_ ?_
    exact RQ.ret2 rfl (Res.tmp rfl) (Res.tmp rfl) fun w' hm => Turns.of (Y := EndY (writeW ps).1 (writeW ps).2) (V := fun y => .tuple #[y.1.1, .int .i64 (writeW ps).2]) (L' := fun y => y.1.2) (Lst := []) y hm (Lr := x.L) (perm_of fun f => by (simp only [List.map_append, List.map_cons, List.map_nil, List.sum_append, List.sum_cons, List.sum_nil] <;> omega))
end Go.Proofs.Ytgnjdpaenojfhaa
