import Derived.Test.YtgnjdpaenojfhaaWrP
import Derived.Test.YtgnjdpaenojfhaaQuC
import Derived.Test.YtgnjdpaenojfhaaMer2
set_option linter.unusedSimpArgs false
set_option linter.unusedVariables false
/- wire: parts; Few. -/
namespace Go.Sha
/-- A part. -/
structure PtD where
  k : Int
  n : Int
  h : List Nat
  b : List Nat
  v : Go.Value
  h8 : h.length = 8
  hh : ∀ x ∈ h, x < 256
  hb : ∀ x ∈ b, x < 256
  hk : -9223372036854775808 ≤ k ∧ k ≤ 9223372036854775807
  hn : -9223372036854775808 ≤ n ∧ n ≤ 9223372036854775807
  hl : b.length ≤ 140737488351232
def PtD.c (a : PtD) : List Go.Value := .int .i64 a.k :: .int .i64 a.n :: (u8s a.h ++ [a.v])
theorem PtD.len (a : PtD) : a.c.length = 11 := by
  unfold PtD.c
  rw [List.length_cons, List.length_cons, List.length_append, u8s_len, a.h8]
  rfl
/-- What stands of a part at an address. -/
structure PtAt (w : Go.World) (A : Go.Addr) (p : PtD) : Prop where
  k : w.cell? (A.add 0) = some (.int .i64 p.k)
  n : w.cell? (A.add 1) = some (.int .i64 p.n)
  h : ∀ j u, (u8s p.h)[j]? = some u → w.cell? ((A.add 2).add j) = some u
  b : w.cell? (A.add 10) = some p.v
end Go.Sha
namespace Go.Vc
open Go Go.Sha
theorem pt_at {w : World} {ad : Addr} {ps : List PtD} (hr : ∀ j u, (rws PtD.c ps)[j]? = some u → w.cell? (ad.add j) = some u) {i : Nat} {p : PtD} (h : ps[i]? = some p) : PtAt w (ad.add (i * 11)) p := by
  have hload : ∀ j u, p.c[j]? = some u → w.cell? ((ad.add (i * 11)).add j) = some u := fun j u hj => by
    rw [add_add]; exact hr _ u (rws_at PtD.len h j u hj)
  refine ⟨hload 0 _ rfl, hload 1 _ rfl, fun j u hj => ?_, hload 10 _ ?_⟩
  · rw [add_add]
    refine hload (2 + j) u ?_
    have hjl := (List.getElem?_eq_some_iff.1 hj).1
    unfold PtD.c
    rw [show 2 + j = j + 1 + 1 by omega, List.getElem?_cons_succ, List.getElem?_cons_succ, List.getElem?_append_left hjl]
    exact hj
  · unfold PtD.c
    rw [List.getElem?_cons_succ, List.getElem?_cons_succ, List.getElem?_append_right (by rw [u8s_len, p.h8]; decide), u8s_len, p.h8]
    rfl
/-- What parts hold on to. -/
def PtIn (w : World) (ps : List PtD) : Prop := ∀ p ∈ ps, SrcW w 1 p.v p.b.length (u8s p.b)
theorem PtIn.fr {w w' : World} {ps : List PtD} (h : PtIn w ps) (hf : Fr [] w w') : PtIn w' ps := fun p hp => (h p hp).fr hf
/-- Are they few and short? -/
def fewN (ps : List PtD) : Int := (ps.map fun p => 12 + (p.b.length : Int)).sum
def fewB (ps : List PtD) : Bool := decide (ps.length ≤ 100 ∧ fewN ps ≤ 20000)
theorem fewN_app (a : List PtD) (p : PtD) : fewN (a ++ [p]) = fewN a + (12 + (p.b.length : Int)) := by simp [fewN]
theorem fewN_bound : ∀ (a : List PtD), 0 ≤ fewN a ∧ fewN a ≤ a.length * 140737488351244
  | [] => by simp [fewN]
  | p :: a => by
    have h := fewN_bound a
    have h2 := p.hl
    simp only [fewN, List.map_cons, List.sum_cons, List.length_cons] at h ⊢
    omega
end Go.Vc
namespace Go.Proofs.Ytgnjdpaenojfhaa
attribute [local irreducible] Go.Vc.Run Go.Vc.RC Go.Vc.RQ Go.Vc.DR Go.Vc.DOp
open Go Go.Vc Go.Sha
set_option maxRecDepth 10000 in set_option maxHeartbeats 4000000 in
theorem Few_calls (ps : List PtD) (hpl : ps.length ≤ 9223372036854775807) (vl : Value) (w : World) (hs : SrcW w 11 vl ps.length (rws PtD.c ps)) (hin : PtIn w ps) :
    Gives Try.prog 9 [vl] (.bool (fewB ps)) w := by
  refine enter Try.func9 rfl (Mem.nil w []) rfl ?_
  obtain ⟨la, lc, rfl, hlc⟩ := hs.shape
  refine z_ ?_
  refine RC.up ps.length (D := Int) (fun i d => ps.length ≤ 100 → d = fewN (ps.take i)) (fun i d => [(4, .int .i64 i), (3, .int .i64 d), (0, .slice la ps.length lc)]) (fun _ _ => []) 0 (0 : Int) (Nat.zero_le _) (fun _ => rfl) ⟨rfl, rfl, rfl, trivial⟩ (List.Sublist.refl _) ?_
  intro i d hi hd
  refine z_ ?_
  (repeat refine RC.seq ?_); refine RC.wh rfl (fun h => RQ.next ?_) (fun h => ?_)
  · have hi' : i < ps.length := by have := of_decide_eq_true h; omega
    clear h
    obtain ⟨p, hp⟩ : ∃ p, ps[i]? = some p := ⟨_, List.getElem?_eq_getElem hi'⟩
    obtain ⟨ad, c', hv', hc', hcl, hr⟩ := hs.pos (by omega)
    cases hv'
    have hat := pt_at hr hp
    obtain ⟨ba, bc, hbv, hbc⟩ := (hin p (List.mem_of_getElem? hp)).shape
    have hb := hat.b
    rw [hbv] at hb
    refine z_ ?_
    refine Run.a (vix i hi' (ad.add (i * 11))) ?_
    refine Run.a (vfA) ?_
    refine Run.a (vlo hb) ?_
    refine z_ ?_
    refine RQ.up (i + 1) _ (Nat.lt_succ_self _) hi' (fun h100 => ?_) ⟨rfl, rfl, rfl, trivial⟩ (List.Sublist.refl _)
    rw [List.take_add_one, hp, Option.toList_some, fewN_app, hd h100]
    have h1 := fewN_bound (ps.take i)
    have h2 := p.hl
    have h3 : (ps.take i).length ≤ 100 := by rw [List.length_take]; omega
    rw [show IntKind.i64.wrap (fewN (ps.take i) + 12) = fewN (ps.take i) + 12 from wrap_in (by dsimp only [inK]; omega), wrap_in (by dsimp only [inK]; omega)]
    omega
  · have hi' : i = ps.length := by have := of_decide_eq_false h; omega
    subst hi'
    rw [List.take_length] at hd
    (repeat refine RQ.thenExit ?_); refine RQ.blockHere ?_
    by_cases h100 : ps.length ≤ 100
    · have hd' := hd h100
      subst hd'
      refine z_ ?_
      exact RQ.ret1 rfl (Res.tmp rfl) fun w' hm => ⟨by unfold fewB; simp only [h100, true_and]; rfl, hm.fr⟩
    · refine z_ ?_
      exact RQ.ret1 rfl (Res.tmp rfl) fun w' hm => ⟨by unfold fewB; simp only [h100, false_and, decide_false]; rfl, hm.fr⟩
end Go.Proofs.Ytgnjdpaenojfhaa

/- wire: write. -/
namespace Go.Vc
open Go Go.Sha
theorem SrcW.srcOld {w0 w : World} {S : List Nat} {L : Hp} {sz m : Nat} {v : Value} {cs : List Value} (h : SrcW w0 sz v m cs) (hf : Fr [] w0 w) (hS : ∀ k ∈ S, w0.heap.size ≤ k) : Src w S L sz v m cs := by
  cases h with
  | nil => exact .nil
  | «at» a m c cs hl hm hr =>
    refine .at a m c cs hl fun w1 hm1 j u hj => ?_
    have h0 := hr j u hj
    refine hm1.fr.cell (fun hin => ?_) (hf.cell (by simp) h0)
    have := World.block_lt_of_cell? w0 _ h0
    have := hS _ hin
    omega
end Go.Vc
namespace Go.Proofs.Ytgnjdpaenojfhaa
attribute [local irreducible] Go.Vc.Run Go.Vc.RC Go.Vc.RQ Go.Vc.DR Go.Vc.DOp
open Go Go.Vc Go.Sha
/-- One part is written. -/
def stepW (s : List Nat × Int) (p : PtD) : List Nat × Int :=
  if p.k = 8 then putW s.1 s.2 p.h else if p.k = 9 then putW s.1 s.2 (le p.b.length 4 ++ p.b) else numW s.1 s.2 p.n p.k
/-- What a writer holds behind parts. -/
def writeW (ps : List PtD) : List Nat × Int := ps.foldl stepW ([], 0)
set_option maxRecDepth 10000 in set_option maxHeartbeats 4000000 in
theorem write_calls (ps : List PtD) (hpl : ps.length ≤ 9223372036854775807) (hps : ∀ p ∈ ps, p.b.length ≤ 900000) (vl : Value) (w : World) (hs : SrcW w 11 vl ps.length (rws PtD.c ps)) (hin : PtIn w ps) :
    Turns Try.prog 11 [vl] w [] (Y := EndY (writeW ps).1 (writeW ps).2) (fun y => .tuple #[y.1.1, .int .i64 (writeW ps).2]) (fun y => y.1.2) := by
  refine enter Try.func11 rfl (Mem.nil w []) rfl ?_
  obtain ⟨la, lc, rfl, hlc⟩ := hs.shape
  refine z_ ?_
  refine Run.nw nal ?_
  intro wb
  refine z_ ?_
  refine RC.up ps.length (D := WrP wb) (fun i d => (d.bs, d.e) = (ps.take i).foldl stepW ([], 0)) (fun i _ => [(5, .int .i64 i), (4, .pointer (some ⟨wb, 0, none⟩)), (0, .slice la ps.length lc)]) (fun _ d => d.L) 0 (⟨.slice none 0 0, [], [], 0, .nil, by simp, by decide⟩ : WrP wb) (Nat.zero_le _) rfl ⟨rfl, rfl, rfl, trivial⟩ (List.Sublist.refl _) ?_
  intro i x hi hx
  refine z_ ?_
  (repeat refine RC.seq ?_); refine RC.wh rfl (fun h => RQ.next ?_) (fun h => ?_)
  · have hi' : i < ps.length := by have := of_decide_eq_true h; omega
    clear h
    obtain ⟨p, hp⟩ : ∃ p, ps[i]? = some p := ⟨_, List.getElem?_eq_getElem hi'⟩
    obtain ⟨ad, c', hv', hc', hcl, hr⟩ := hs.pos (by omega)
    cases hv'
    have hat := pt_at hr hp
    have hpm := List.mem_of_getElem? hp
    have hsp := hin p hpm
    have hpb := hps p hpm
    obtain ⟨ba, bc, hbv, hbc⟩ := hsp.shape
    have hab := hat.b
    rw [hbv] at hsp hab
    have hstep : ∀ y : WrP wb, (y.bs, y.e) = stepW (x.bs, x.e) p → (y.bs, y.e) = (ps.take (i + 1)).foldl stepW ([], 0) := by
      intro y hy
      rw [List.take_add_one, hp, Option.toList_some, List.foldl_append, ← hx, hy]
      rfl
    have hh8 : (u8s p.h).length = 8 := by rw [u8s_len, p.h8]
    have hz2 : x.L.Perm ((x.L ++ []) ++ []) := by rw [List.append_nil, List.append_nil]
    have hS : ∀ w', Mem w [] x.L w' → ∀ k ∈ (x.L ++ [] : Hp).map (·.1), w.heap.size ≤ k := by
      intro w' hm k hk
      rw [List.append_nil] at hk
      obtain ⟨q, hq, rfl⟩ := List.mem_map.1 hk
      exact (hm.own q hq).resolve_right (by simp)
    have hz : x.L.Perm (x.L ++ []) := by rw [List.append_nil]
    refine z_ ?_
    refine Run.a (vix i hi' (ad.add (i * 11))) ?_
    refine Run.a (vfA) ?_
    refine Run.a (vlo hat.k) ?_
    by_cases h8 : p.k = 8
    · have e1 : stepW (x.bs, x.e) p = putW x.bs x.e p.h := by unfold stepW; rw [if_pos h8]
      rw [e1] at hstep
      refine z_ ?_
      refine Run.a (vix i hi' (ad.add (i * 11))) ?_
      refine Run.a (vfA) ?_
      refine Run.a (vloA hat.h hh8) ?_
      refine Run.op1 (OpTo.callT Try.func24 hz (fun w' hm => WHash_calls x p.h p.h8 w' hm.has hm.nd)) ?_
      rintro ⟨y, hy⟩
      dsimp only at hy ⊢
      refine z_ ?_
      exact RQ.upQ (i + 1) y (Nat.lt_succ_self _) hi' (hstep y hy) ⟨rfl, rfl, rfl, trivial⟩ (L1 := y.L ++ []) (List.Perm.refl _) (List.sublist_append_left _ _)
    by_cases h9 : p.k = 9
    · have e1 : stepW (x.bs, x.e) p = putW x.bs x.e (le p.b.length 4 ++ p.b) := by unfold stepW; rw [if_neg h8, if_pos h9]
      rw [e1] at hstep
      refine z_ ?_
      refine Run.a (vix i hi' (ad.add (i * 11))) ?_
      refine Run.a (vfA) ?_
      refine Run.a (vlo hab) ?_
      refine Run.op1 (OpTo.callT Try.func25 hz2 (fun w' hm => WBytes_calls x p.b (ap := []) hpb w' (fun L _ => hsp.srcOld hm.fr (hS w' hm)) ⟨_, _, rfl⟩ (by rw [List.append_nil]; exact hm.has) (by rw [List.append_nil]; exact hm.nd))) ?_
      rintro ⟨y, hy⟩
      dsimp only at hy ⊢
      refine z_ ?_
      exact RQ.upQ (i + 1) y (Nat.lt_succ_self _) hi' (hstep y hy) ⟨rfl, rfl, rfl, trivial⟩ (L1 := y.L ++ []) (perm_of fun f => by (simp only [List.map_append, List.map_cons, List.map_nil, List.sum_append, List.sum_cons, List.sum_nil] <;> omega)) (List.sublist_append_left _ _)
    have e1 : stepW (x.bs, x.e) p = numW x.bs x.e p.n p.k := by unfold stepW; rw [if_neg h8, if_neg h9]
    rw [e1] at hstep
    refine z_ ?_
    (repeat refine RC.seq ?_); refine RC.draw (x.L) mixed (N := 11) rfl ?_
    refine dt 0 ?_
    refine dt 1 ?_
    refine DR.t 2 rfl (vix i hi' (ad.add (i * 11))) ?_
    refine DR.t 3 rfl (vfA) ?_
    refine DR.t 4 rfl (vlo hat.n) ?_
    refine dt 5 ?_
    refine dt 6 ?_
    refine DR.t 7 rfl (vix i hi' (ad.add (i * 11))) ?_
    refine DR.t 8 rfl (vfA) ?_
    refine DR.t 9 rfl (vlo hat.k) ?_
    refine DR.c 10 (DOp.op1 rfl (OpTo.callT Try.func26 hz (fun w' hm => WNum_calls x p.n p.k w' hm.has hm.nd)) ?_)
    rintro ⟨y, hy⟩
    dsimp only at hy ⊢
    refine DR.done (by kernel_rfl) ?_
    refine z_ ?_
    exact RQ.upQ (i + 1) y (Nat.lt_succ_self _) hi' (hstep y hy) ⟨rfl, rfl, rfl, trivial⟩ (L1 := y.L ++ []) (List.Perm.refl _) (List.sublist_append_left _ _)
  · have hi' : i = ps.length := by have := of_decide_eq_false h; omega
    subst hi'
    rw [List.take_length] at hx
    obtain ⟨e1, e2⟩ : x.bs = (writeW ps).1 ∧ x.e = (writeW ps).2 := by unfold writeW; rw [← hx]; exact ⟨rfl, rfl⟩
    have hE := fun w' h => WEnd_calls x w' h
    rw [e1, e2] at hE
    have hz : x.L.Perm ([] ++ x.L) := by rw [List.nil_append]
    (repeat refine RQ.thenExit ?_); refine RQ.blockHere ?_
    refine z_ ?_
    refine Run.op1 (OpTo.callT Try.func27 hz (fun w' hm => hE w' hm.has)) ?_
    intro y
    refine z_ ?_
    exact RQ.ret2 rfl (Res.tmp rfl) (Res.tmp rfl) fun w' hm => Turns.of (Y := EndY (writeW ps).1 (writeW ps).2) (V := fun y => .tuple #[y.1.1, .int .i64 (writeW ps).2]) (L' := fun y => y.1.2) (Lst := []) y hm (Lr := x.L) (perm_of fun f => by (simp only [List.map_append, List.map_cons, List.map_nil, List.sum_append, List.sum_cons, List.sum_nil] <;> omega))
end Go.Proofs.Ytgnjdpaenojfhaa

/- wire: plain. -/
namespace Go.Proofs.Ytgnjdpaenojfhaa
attribute [local irreducible] Go.Vc.Run Go.Vc.RC Go.Vc.RQ Go.Vc.DR Go.Vc.DOp
open Go Go.Vc Go.Sha
/-- A part's bytes; may it be written? -/
def plainW (p : PtD) : List Nat × Bool :=
  if p.k = 8 then (p.h, true) else if p.k = 9 then (le p.b.length 4 ++ p.b, true) else if numBad p.n p.k then ([], false) else (le p.n.toNat p.k.toNat, true)
set_option maxRecDepth 10000 in set_option maxHeartbeats 4000000 in
theorem plain_calls (p : PtD) (hpb : p.b.length ≤ 900000) (w : World) (hin : SrcW w 1 p.v p.b.length (u8s p.b)) :
    Makes2 Try.prog 10 [.agg p.c.toArray] w 5 1 (plainW p).1.length (u8s (plainW p).1) (plainW p).2 := by
  refine enter Try.func10 rfl (Mem.nil w []) rfl ?_
  obtain ⟨ba, bc, hbv, hbc⟩ := hin.shape
  obtain ⟨k, n, h, b, v, h8, hh, hb, hk, hn, hl⟩ := p
  dsimp only at hpb hin hbv hbc ⊢
  subst hbv
  obtain ⟨o0, o1, o2, o3, o4, o5, o6, o7, rfl⟩ := len8 h8
  obtain ⟨pc, hpc⟩ : ∃ c : Array Value, c = (PtD.c ⟨k, n, [o0, o1, o2, o3, o4, o5, o6, o7], b, .slice ba b.length bc, h8, hh, hb, hk, hn, hl⟩).toArray := ⟨_, rfl⟩
  rw [← hpc]
  change pc = #[.int .i64 k, .int .i64 n, .int .u8 o0, .int .u8 o1, .int .u8 o2, .int .u8 o3, .int .u8 o4, .int .u8 o5, .int .u8 o6, .int .u8 o7, .slice ba b.length bc] at hpc
  subst hpc
  unfold plainW
  dsimp only
  refine z_ ?_
  refine Run.nw nbx ?_
  intro b1
  refine z_ ?_
  by_cases h8 : k = 8
  · rw [if_pos h8]
    refine z_ ?_
    refine Run.a (Val.sliceA tabOk rfl rfl rfl rfl rfl) ?_
    refine Run.op1 (OpTo.append (k := 8) (news := u8s [o0, o1, o2, o3, o4, o5, o6, o7]) tabOk Own.nil (Src.at _ 8 8 _ rfl (Rd.row m0 fun j u hj => ?_)) rfl rfl rfl rfl rfl rfl rfl rfl rfl (List.Perm.refl _) (u8s_one _) (by decide) (by decide)) ?_
    · have hjl := (List.getElem?_eq_some_iff.1 hj).1
      rw [u8s_len] at hjl
      simp only [List.length_cons, List.length_nil] at hjl
      match j, hjl, hj with
      | 0, _, hj => exact hj
      | 1, _, hj => exact hj
      | 2, _, hj => exact hj
      | 3, _, hj => exact hj
      | 4, _, hj => exact hj
      | 5, _, hj => exact hj
      | 6, _, hj => exact hj
      | 7, _, hj => exact hj
    rintro ⟨⟨v10, bl10⟩, hown⟩
    dsimp only at hown ⊢
    refine z_ ?_
    exact RQ.ret2 rfl (Res.tmp rfl) (Res.tmp rfl) fun w' hm => Makes2.of hown hm
  by_cases h9 : k = 9
  · rw [if_neg h8, if_pos h9]
    refine z_ ?_
    (repeat refine RC.seq ?_); refine RC.draw ([(b1, Obj.cells #[.int .i64 k, .int .i64 n, .int .u8 o0, .int .u8 o1, .int .u8 o2, .int .u8 o3, .int .u8 o4, .int .u8 o5, .int .u8 o6, .int .u8 o7, .slice ba b.length bc] 31 (0, 0))]) mixed (N := 9) rfl ?_
    refine dt 0 ?_
    refine dt 1 ?_
    refine dt 2 ?_
    refine dt 4 ?_
    refine dt 5 ?_
    refine DR.c 3 (DOp.op1 rfl (OpTo.callMk Try.func23 rfl rfl rfl rfl rfl rfl (fun w' hm => Num_calls b.length 4 (by decide) w')) ?_)
    rintro ⟨⟨v18, bl18⟩, hown⟩
    dsimp only at hown ⊢
    refine DR.c 6 (DOp.op1 rfl (OpTo.append (L1 := [(b1, Obj.cells #[.int .i64 k, .int .i64 n, .int .u8 o0, .int .u8 o1, .int .u8 o2, .int .u8 o3, .int .u8 o4, .int .u8 o5, .int .u8 o6, .int .u8 o7, .slice ba b.length bc] 31 (0, 0))]) tabOk hown hin.src rfl rfl rfl rfl rfl rfl rfl rfl rfl (perm_of fun f => by (simp only [List.map_append, List.map_cons, List.map_nil, List.sum_append, List.sum_cons, List.sum_nil] <;> omega)) (u8s_one _) (by unfold maxLen; omega) (by simp only [ti5]; omega)) ?_)
    rintro ⟨⟨v21, bl21⟩, hown2⟩
    dsimp only at hown2 ⊢
    rw [← u8s_app] at hown2
    refine dt 7 ?_
    refine dt 8 ?_
    refine DR.done (by kernel_rfl) ?_
    refine z_ ?_
    exact RQ.ret2 rfl (Res.tmp rfl) (Res.tmp rfl) fun w' hm => Makes2.of (by rw [List.length_append, le_len]; exact hown2) hm
  rw [if_neg h8, if_neg h9]
  by_cases h1 : k < 1
  · rw [if_pos (.inl h1)]
    refine z_ ?_
    exact RQ.ret2 rfl (Res.tmp rfl) (Res.tmp rfl) fun w' hm => Makes2.nil hm
  by_cases h7 : 7 < k
  · rw [if_pos (.inr (.inl h7))]
    refine z_ ?_
    exact RQ.ret2 rfl (Res.tmp rfl) (Res.tmp rfl) fun w' hm => Makes2.nil hm
  by_cases h0 : n < 0
  · rw [if_pos (.inr (.inr (.inl h0)))]
    refine z_ ?_
    exact RQ.ret2 rfl (Res.tmp rfl) (Res.tmp rfl) fun w' hm => Makes2.nil hm
  obtain ⟨n, rfl⟩ := Int.eq_ofNat_of_zero_le (Int.not_lt.1 h0)
  obtain ⟨k, rfl⟩ := Int.eq_ofNat_of_zero_le (show 0 ≤ k by omega)
  have hp56 : 2 ^ (8 * k) ≤ 2 ^ 56 := Nat.pow_le_pow_right (by decide) (by omega)
  have hv : IntKind.i64.wrap (1 * 2 ^ min (8 * (k : Int)).toNat IntKind.i64.bits) = ((2 ^ (8 * k) : Nat) : Int) := by
    rw [show min (8 * (k : Int)).toNat IntKind.i64.bits = 8 * k from by show min _ 64 = _; omega, Int.one_mul, show (2 : Int) ^ (8 * k) = ((2 ^ (8 * k) : Nat) : Int) from by rw [Int.natCast_pow]; rfl]
    generalize 2 ^ (8 * k) = X at hp56 ⊢
    exact wrap_in (by dsimp only [inK]; omega)
  refine z_ ?_
  rw [hv]
  by_cases hs : 2 ^ (8 * k) ≤ n
  · rw [if_pos (.inr (.inr (.inr (by simp only [Int.toNat_natCast]; have := Nat.div_pos hs (Nat.pow_pos (by decide)); omega))))]
    refine z_ ?_
    exact RQ.ret2 rfl (Res.tmp rfl) (Res.tmp rfl) fun w' hm => Makes2.nil hm
  · have hd0 : n / 2 ^ (8 * k) = 0 := Nat.div_eq_of_lt (by omega)
    rw [if_neg (by unfold numBad; simp only [Int.toNat_natCast]; omega)]
    simp only [Int.toNat_natCast]
    refine z_ ?_
    refine Run.op1 (OpTo.callMk Try.func23 rfl rfl rfl rfl rfl rfl (fun w' hm => Num_calls n k (by omega) w')) ?_
    rintro ⟨⟨v50, bl50⟩, hown⟩
    dsimp only at hown ⊢
    refine z_ ?_
    exact RQ.ret2 rfl (Res.tmp rfl) (Res.tmp rfl) fun w' hm => Makes2.of (by rw [le_len]; exact hown) hm
end Go.Proofs.Ytgnjdpaenojfhaa

/- wire: Read of a closure; awake. -/
namespace Go.Vc
open Go Go.Sha
/-- Bytes stand at an address. -/
def BytesAt (w : World) (ad : Addr) (l : List Nat) : Prop := ∀ j u, (u8s l)[j]? = some u → w.cell? (ad.add j) = some u
theorem BytesAt.sub {w : World} {ad : Addr} {l : List Nat} (h : BytesAt w ad l) (k m : Nat) : ∀ j u, (u8s ((l.drop k).take m))[j]? = some u → w.cell? (ad.add (k + j)) = some u := by
  intro j u hj
  refine h (k + j) u ?_
  rw [u8s_take, u8s_drop, List.getElem?_take] at hj
  split at hj
  · rw [List.getElem?_drop] at hj; exact hj
  · cases hj
theorem BytesAt.fr {S : List Nat} {w w' : World} {ad : Addr} {l : List Nat} (h : BytesAt w ad l) (hf : Fr S w w') (hS : ad.block ∉ S) : BytesAt w' ad l := fun j u hj => hf.cell (by rw [show (ad.add j).block = ad.block by unfold Addr.add; split <;> rfl]; exact hS) (h j u hj)
end Go.Vc
namespace Go.Proofs.Ytgnjdpaenojfhaa
attribute [local irreducible] Go.Vc.Run Go.Vc.RC Go.Vc.RQ Go.Vc.DR Go.Vc.DOp
open Go Go.Vc Go.Sha
set_option maxRecDepth 10000 in set_option maxHeartbeats 4000000 in
theorem ReadF_calls (a : Option Addr) (n c : Nat) (hn : n ≤ 131072) (hc : n ≤ c) {g : FuncId} {fg : Func} (hg : Try.prog.funcs[g]? = some fg) (hnm : (fg.name == "runtime.NumGoroutine") = false) (hb : fg.body.isNone = false) (capg : List Value) (w : World) (Lst : Hp) (hw : Has Lst w) (hnd : (Lst.map (·.1)).Nodup) {Y : Type} {o : Y → Option (TypeId × Value)} {k : Y → Nat} (hk : ∀ y, k y ≤ n) (hsh : ∀ y pv, o y = some (58, pv) → pv = .agg #[]) {L' : Y → Hp}
    (h : ∀ rb w', Fr [] w w' → w.heap.size ≤ rb → Has ((rb, RdC a n 0) :: Lst) w' → (((rb, RdC a n 0) :: Lst).map (·.1)).Nodup → TurnsO Try.prog g (.pointer (some ⟨rb, 0, none⟩) :: capg) w' ((rb, RdC a n 0) :: Lst) o (fun y => (rb, RdC a n (k y)) :: L' y)) :
    Turns Try.prog 12 [.slice a n c, .func (.func g) #[] capg.toArray] w Lst (Y := Y) (fun y => .int .i64 (readE (o y) n (k y))) L' :=
  Read_calls a n c hn hc (.func (.func g) #[] capg.toArray) rfl w Lst hw hnd hk hsh (fun rb bf br w' hf hrb _ _ _ _ _ h1 h2 hA hN hbf hbr =>
    Read1_calls hg hnm hb capg bf br rb w' _ hA hN hbf hbr h1 h2 (fun w'' hf' => h rb w'' (hf.trans hf') hrb (hA.fr hf') hN))
set_option maxRecDepth 10000 in set_option maxHeartbeats 4000000 in
theorem awake1_calls (rb b3 : Nat) (ad : Addr) (h1 : ad.block ≠ rb) (h2 : ad.block ≠ b3) (w : World) (hw : Has [(rb, RdC (some ad) 7 0), (b3, Obj.cells #[.int .i64 0] 3 (0, 0))] w) (hnd : ([(rb, RdC (some ad) 7 0), (b3, Obj.cells #[.int .i64 0] 3 (0, 0))].map (·.1)).Nodup) (hr : BytesAt w ad [2, 1, 1, 0, 0, 0, 7]) :
    TurnsO Try.prog 22 [.pointer (some ⟨rb, 0, none⟩), .pointer (some ⟨b3, 0, none⟩)] w [(rb, RdC (some ad) 7 0), (b3, Obj.cells #[.int .i64 0] 3 (0, 0))] (Y := Unit) (fun _ => none) (fun _ => [(rb, RdC (some ad) 7 7), (b3, Obj.cells #[.int .i64 259] 3 (0, 0))]) := by
  refine enter Try.func22 rfl (Mem.init (S0 := [(rb, RdC (some ad) 7 0), (b3, Obj.cells #[.int .i64 0] 3 (0, 0))].map (·.1)) hw (fun p hp => List.mem_map_of_mem hp) hnd) rfl ?_
  have hz : ([(rb, RdC (some ad) 7 0), (b3, Obj.cells #[.int .i64 0] 3 (0, 0))] : Hp).Perm ([(rb, RdC (some ad) 7 0)] ++ [(b3, Obj.cells #[.int .i64 0] 3 (0, 0))]) := List.Perm.refl _
  have hz2 : ([(rb, RdC (some ad) 7 2)] ++ [(b3, Obj.cells #[.int .i64 0] 3 (0, 0))] : Hp).Perm ([(rb, RdC (some ad) 7 2)] ++ [(b3, Obj.cells #[.int .i64 0] 3 (0, 0))]) := List.Perm.refl _
  have hS : ad.block ∉ ([(rb, RdC (some ad) 7 0), (b3, Obj.cells #[.int .i64 0] 3 (0, 0))] : Hp).map (·.1) := by
    intro h
    rcases List.mem_cons.1 h with h | h
    · exact h1 h
    · exact h2 (List.mem_singleton.1 h)
  refine z_ ?_
  refine Run.op1 (OpTo.callT Try.func18 hz (fun w' hm' => RNum_ok rb 7 0 2 ad h1 (by decide) (by decide) (by decide) [2, 1] rfl (by decide) w' (hm'.has _ m0) ((hr.fr hm'.fr hS).sub 0 2))) ?_
  intro _
  refine z_ ?_
  refine Run.op1 (OpTo.callT Try.func17 hz2 (fun w' hm' => RBytes_ok rb 7 2 1 ad h1 (by decide) (by decide) [1, 0, 0, 0] [7] rfl (by decide) rfl rfl w' (hm'.has _ m0) ((hr.fr hm'.fr hS).sub 2 4) ((hr.fr hm'.fr hS).sub 6 1))) ?_
  rintro ⟨⟨v, bl⟩, hown⟩
  dsimp only at hown ⊢
  obtain ⟨a9, c9, rfl, hc9⟩ := hown.shape
  refine (?_ : Run _ _ _ _ _ _ _ _ (((rb, RdC (some ad) 7 7) :: bl) ++ [(b3, Obj.cells #[.int .i64 0] 3 (0, 0))]))
  refine z_ ?_
  refine Run.op1 (os1 (arr := #[.int .i64 0]) (e := 3) (L' := (rb, RdC (some ad) 7 7) :: bl) #[.int .i64 259] (hL := (perm_of fun f => by (simp only [List.map_append, List.map_cons, List.map_nil, List.sum_append, List.sum_cons, List.sum_nil] <;> omega)))) (fun _ => ?_)
  refine z_ ?_
  exact RQ.end0 rfl fun w' hm => TurnsO.of (Y := Unit) (o := fun _ => none) (L' := fun _ => [(rb, RdC (some ad) 7 7), (b3, Obj.cells #[.int .i64 259] 3 (0, 0))]) () rfl hm (Lr := bl) (perm_of fun f => by (simp only [List.map_append, List.map_cons, List.map_nil, List.sum_append, List.sum_cons, List.sum_nil] <;> omega))
set_option maxRecDepth 10000 in set_option maxHeartbeats 4000000 in
theorem wr_awake_calls (w : World) : Gives Try.prog 8 [] (.bool true) w := by
  refine enter Try.func8 rfl (Mem.nil w []) rfl ?_
  let p1 : PtD := ⟨2, 258, [0, 0, 0, 0, 0, 0, 0, 0], [], .slice none 0 0, rfl, by decide, by decide, by decide, by decide, by decide⟩
  refine z_ ?_
  refine Run.a (vbs p1.c.toArray) ?_
  refine Run.nw (nbsl #[.int .u8 7] (by kernel_rfl)) ?_
  intro b7
  let p2 : PtD := ⟨9, 0, [0, 0, 0, 0, 0, 0, 0, 0], [7], .slice (some ⟨b7, 0, none⟩) 1 1, rfl, by decide, by decide, by decide, by decide, by decide⟩
  refine Run.a (vbs p2.c.toArray) ?_
  refine Run.nw (nbsl (rws PtD.c [p1, p2]).toArray (by kernel_rfl)) ?_
  intro b9
  have hW : writeW [p1, p2] = ([2, 1, 1, 0, 0, 0, 7], 0) := by kernel_rfl
  have hz : ([(b9, Obj.cells (rws PtD.c [p1, p2]).toArray 31 (0, 0)), (b7, Obj.cells #[.int .u8 7] 5 (0, 0))] : Hp).Perm ([] ++ [(b9, Obj.cells (rws PtD.c [p1, p2]).toArray 31 (0, 0)), (b7, Obj.cells #[.int .u8 7] 5 (0, 0))]) := List.Perm.refl _
  have hwr := fun w' h1 h2 => write_calls [p1, p2] (show 2 ≤ 9223372036854775807 by decide) (by intro p hp; rcases List.mem_cons.1 hp with rfl | hp; exact Nat.zero_le _; rw [List.mem_singleton] at hp; subst hp; show 1 ≤ 900000; decide) (.slice (some ⟨b9, 0, none⟩) 2 2) w' h1 h2
  rw [hW] at hwr
  have hin : ∀ w', Mem w [] [(b9, Obj.cells (rws PtD.c [p1, p2]).toArray 31 (0, 0)), (b7, Obj.cells #[.int .u8 7] 5 (0, 0))] w' → PtIn w' [p1, p2] := by
    intro w' hm p hp
    rcases List.mem_cons.1 hp with rfl | hp
    · exact .nil
    · rw [List.mem_singleton] at hp
      subst hp
      exact SrcW.row (cs := u8s [7]) hm m1 rfl (Nat.le_refl _)
  refine Run.op1 (OpTo.callT Try.func11 hz (fun w' hm => hwr w' (SrcW.row hm m0 rfl (Nat.le_refl _)) (hin w' hm))) ?_
  rintro ⟨⟨v, bl⟩, hown⟩
  dsimp only at hown ⊢
  change Own 5 1 v 7 (u8s [2, 1, 1, 0, 0, 0, 7]) bl at hown
  obtain ⟨b, cap, rest, rfl, rfl, hcl, hcap, hcm, hrl⟩ := hown.pos (by decide)
  refine z_ ?_
  refine Run.nw nal ?_
  intro b3
  refine z_ ?_
  refine Run.op1 (os1 #[.int .i64 0]) (fun _ => ?_)
  refine z_ ?_
  refine Run.a (Val.mkF (us := []) rfl rfl rfl) ?_
  obtain ⟨C, hC⟩ : ∃ C, C = (u8s [2, 1, 1, 0, 0, 0, 7] ++ rest).toArray := ⟨_, rfl⟩
  rw [← hC] at hown ⊢
  have hz3 : ([(b3, Obj.cells #[.int .i64 0] 3 (0, 0)), (b, Obj.cells C 5 (0, 0)), (b9, Obj.cells (rws PtD.c [p1, p2]).toArray 31 (0, 0)), (b7, Obj.cells #[.int .u8 7] 5 (0, 0))] : Hp).Perm ([(b3, Obj.cells #[.int .i64 0] 3 (0, 0))] ++ [(b, Obj.cells C 5 (0, 0)), (b9, Obj.cells (rws PtD.c [p1, p2]).toArray 31 (0, 0)), (b7, Obj.cells #[.int .u8 7] 5 (0, 0))]) := List.Perm.refl _
  have hR : ∀ w', Mem w [] [(b3, Obj.cells #[.int .i64 0] 3 (0, 0)), (b, Obj.cells C 5 (0, 0)), (b9, Obj.cells (rws PtD.c [p1, p2]).toArray 31 (0, 0)), (b7, Obj.cells #[.int .u8 7] 5 (0, 0))] w' → Turns Try.prog 12 [.slice (some ⟨b, 0, none⟩) 7 cap, .func (.func 22) #[] #[.pointer (some ⟨b3, 0, none⟩)]] w' [(b3, Obj.cells #[.int .i64 0] 3 (0, 0))] (Y := Unit) (fun _ => .int .i64 0) (fun _ => [(b3, Obj.cells #[.int .i64 259] 3 (0, 0))]) := by
    intro w' hm
    have hnd := hm.nd
    have hb := hm.lt m1
    refine ReadF_calls (some ⟨b, 0, none⟩) 7 cap (by decide) hcap Try.func22 rfl rfl [.pointer (some ⟨b3, 0, none⟩)] w' _ (fun p hp => hm.has p (List.mem_append_left _ hp)) (by simp) (o := fun _ => none) (k := fun _ => 7) (fun _ => Nat.le_refl _) (fun _ _ h => by cases h) (fun rb w'' hf hrb hA hN => awake1_calls rb b3 ⟨b, 0, none⟩ (fun e => ?_) (fun e => ?_) w'' hA hN (fun j u hj => ?_))
    · change b = rb at e
      simp only at hb
      omega
    · change b = b3 at e
      subst e
      rw [List.map_cons, List.map_cons, List.nodup_cons] at hnd
      exact hnd.1 List.mem_cons_self
    · refine hf.cell (by simp) ?_
      rw [add_lit, cell_of_row w' b (0 + j) _ _ _ (hm.has _ m1), Nat.zero_add, hC, List.getElem?_toArray, List.getElem?_append_left (List.getElem?_eq_some_iff.1 hj).1]
      exact hj
  refine Run.op1 (OpTo.callT Try.func12 hz3 hR) ?_
  intro _
  refine z_ ?_
  refine Run.a (Val.bytesStr (a := [2, 1, 1, 0, 0, 0, 7]) tabOk rfl rfl rfl rfl rfl rfl rfl rfl (hown.src (fun p hp => by rw [List.mem_singleton] at hp; subst hp; exact m1))) ?_
  refine Run.a (Val.eqStr (a := [2, 1, 1, 0, 0, 0, 7]) (b := [2, 1, 1, 0, 0, 0, 7]) rfl rfl rfl (by decide) (by decide)) ?_
  refine z_ ?_
  exact RQ.ret1 rfl (Res.tmp rfl) fun w' hm => ⟨rfl, hm.fr⟩
end Go.Proofs.Ytgnjdpaenojfhaa
