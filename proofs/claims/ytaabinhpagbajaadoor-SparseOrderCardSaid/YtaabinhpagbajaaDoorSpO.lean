/- sparse: Fill. -/
import Derived.Test.YtaabinhpagbajaaDoorSpN
set_option linter.unusedSimpArgs false
set_option linter.unusedVariables false
namespace Go.Sha
open Go.Vc
/-- A Put. -/
structure DpD where
  i : Int
  h : List Nat
  h8 : H8 h
def DpD.c (d : DpD) : List Go.Value := .int .i64 d.i :: u8s d.h
theorem DpD.len (d : DpD) : d.c.length = 9 := by unfold DpD.c; rw [List.length_cons, u8s_len, d.h8.1]
def finL (l : List DpD) : Lvs := l.foldl (fun a d => putL a d.i d.h) []
theorem fin_ok (l : List DpD) : LvOk (finL l) := by
  unfold finL
  have : ∀ (l : List DpD) (a : Lvs), LvOk a → LvOk (l.foldl (fun a d => putL a d.i d.h) a) := by
    intro l
    induction l with
    | nil => intro a h; exact h
    | cons d l ih => intro a h; exact ih _ (putL_ok h d.i d.h8)
  exact this l [] ⟨List.nodup_nil, fun _ h => (by cases h), fun _ h => (by cases h), fun _ h => (by cases h)⟩
end Go.Sha
namespace Go.Proofs.YtaabinhpagbajaaDoor
attribute [local irreducible] Go.Vc.Run Go.Vc.RC Go.Vc.RQ Go.Vc.DR Go.Vc.DOp
open Go Go.Vc Go.Sha
/-- A tree and its leaves, each as the other. -/
structure FilP (tb mb lb : Nat) where
  x : Tr tb mb
  y : OwT
  ok : LvOk y.r
  rp : RepT x (lfF y.r)
def FilP.L {tb mb lb : Nat} (p : FilP tb mb lb) : Hp := LvL lb p.y ++ p.x.L
/-- What Fill leaves. -/
structure FilY (l : Lvs) where
  tb : Nat
  mb : Nat
  lb : Nat
  p : FilP tb mb lb
  e : p.y.r = l
set_option maxRecDepth 10000 in set_option maxHeartbeats 4000000 in
theorem Fill_calls (l : List DpD) (hl60 : l.length ≤ 60) (vl : Value) (w : World) (hs : SrcW w 9 vl l.length (rws DpD.c l)) (hK : Laid w) :
    Turns Tryd.prog 9 [vl] w [] (Y := FilY (finL l)) (fun y => .tuple #[.pointer (some ⟨y.tb, 0, none⟩), .pointer (some ⟨y.lb, 0, none⟩), .bool true]) (fun y => y.p.L) := by
  refine enter Tryd.func9 rfl (Mem.nil w []) rfl ?_
  obtain ⟨la, lc, rfl, hlc⟩ := hs.shape
  refine z_ ?_
  have hz0 : ([] : Hp).Perm ([] ++ []) := List.Perm.refl _
  refine Run.op1 (OpTo.callT Tryd.func23 hz0 (fun w' hm => TNew_calls w')) ?_
  rintro ⟨tb, mb⟩
  dsimp only
  refine Run.a (vbs #[.slice none 0 0, .slice none 0 0]) ?_
  refine Run.nw nbx ?_
  intro lb
  refine z_ ?_
  obtain ⟨p0, hp0⟩ : ∃ p0 : FilP tb mb lb, p0 = ⟨trNil tb mb, ⟨[], .slice none 0 0, .slice none 0 0, [], [], Own.nil, Own.nil⟩, lvOk_nil, rep_nil⟩ := ⟨_, rfl⟩
  refine RC.up l.length (D := FilP tb mb lb) (fun k p => p.y.r = finL (l.take k)) (fun k _ => [(7, .int .i64 k), (6, .pointer (some ⟨lb, 0, none⟩)), (5, .pointer (some ⟨tb, 0, none⟩)), (0, .slice la l.length lc)]) (fun _ p => p.L) 0 p0 (Nat.zero_le _) (by rw [hp0]; rfl) ⟨rfl, rfl, rfl, rfl, trivial⟩ (by rw [hp0]; exact List.Sublist.refl _) ?_
  clear hp0 p0
  rintro k ⟨x, y, ok, rp⟩ hk hfin
  dsimp only [FilP.L] at hfin ⊢
  refine z_ ?_
  (repeat refine RC.seq ?_); refine RC.wh rfl (fun h => RQ.next ?_) (fun h => ?_)
  · have hk' : k < l.length := by have := of_decide_eq_true h; omega
    clear h
    obtain ⟨e, hx⟩ : ∃ e, l[k]? = some e := ⟨_, List.getElem?_eq_getElem hk'⟩
    obtain ⟨ad, c', hv', hc', hcl, hr⟩ := hs.pos (by omega)
    cases hv'
    have hload : ∀ j u, e.c[j]? = some u → w.cell? ((ad.add (k * 9)).add j) = some u := fun j u hj => by
      rw [add_add]; exact hr _ u (rws_at DpD.len hx j u hj)
    have hla : w.cell? ((ad.add (k * 9)).add 0) = some (.int .i64 e.i) := hload 0 _ rfl
    have hlh : ∀ j u, (u8s e.h)[j]? = some u → w.cell? (((ad.add (k * 9)).add 1).add j) = some u := fun j u hj => by
      rw [add_add]; exact hload (1 + j) u (by rw [Nat.add_comm]; exact hj)
    have hnx : finL (l.take (k + 1)) = putL y.r e.i e.h := by
      unfold finL at hfin ⊢
      rw [List.take_add_one, hx, Option.toList_some, List.foldl_append, ← hfin]; rfl
    have hlf := lf_put ok e.i e.h8
    have hok2 := putL_ok ok e.i e.h8
    obtain ⟨a, h, h8⟩ := e
    dsimp only at hla hlh hnx hlf hok2
    have hl8 : (u8s h).length = 8 := by rw [u8s_len, h8.1]
    refine z_ ?_
    (repeat refine RC.seq ?_); refine RC.draw [] mixed (N := 25) rfl ?_
    refine dt 0 ?_
    refine dt 1 ?_
    refine dt 2 ?_
    refine DR.t 3 rfl (vix k hk' (ad.add (k * 9))) ?_
    refine DR.t 4 rfl (vfA) ?_
    refine DR.t 5 rfl (vlo hla) ?_
    refine dt 6 ?_
    refine dt 7 ?_
    refine DR.t 8 rfl (vix k hk' (ad.add (k * 9))) ?_
    refine DR.t 9 rfl (vfA) ?_
    refine DR.t 10 rfl (vloA hlh hl8) ?_
    refine dt 12 ?_
    refine dt 13 ?_
    refine dt 14 ?_
    refine DR.t 15 rfl (vix k hk' (ad.add (k * 9))) ?_
    refine DR.t 16 rfl (vfA) ?_
    refine DR.t 17 rfl (vlo hla) ?_
    refine dt 18 ?_
    refine dt 19 ?_
    refine DR.t 20 rfl (vix k hk' (ad.add (k * 9))) ?_
    refine DR.t 21 rfl (vfA) ?_
    refine DR.t 22 rfl (vloA hlh hl8) ?_
    have hz1 : (LvL lb y ++ x.L).Perm (x.L ++ LvL lb y) := List.perm_append_comm
    refine DR.c 11 (DOp.op1 rfl (OpTo.callT Tryd.func20 hz1 (fun w' hm => TPut_calls x (lfF y.r) (lfF_ok ok) rp a h h8 w' (hm.part hz1).1 (hm.part hz1).2 (hK.fr hm.fr (by simp)) (fresh_ids hK hm (fun p hp => List.mem_append_right _ hp)))) ?_)
    rintro ⟨x2, hx2⟩
    rw [← hlf] at hx2
    dsimp only
    have hz2 : (x2.L ++ LvL lb y).Perm (LvL lb y ++ x2.L) := List.perm_append_comm
    refine DR.c 23 (DOp.op1 rfl (OpTo.callT Tryd.func24 hz2 (fun w' hm => LPut_calls y ok lb a h h8 w' (hm.part hz2).1 (hm.part hz2).2)) ?_)
    rintro ⟨y2, hy2⟩
    dsimp only
    rw [← hy2] at hx2 hok2 hnx
    generalize decide (0 ≤ a ∧ a < 65536) = bq
    cases bq with
    | true =>
      refine DR.t 24 rfl (Val.neBool (a := true) (b := true) tabOk rfl rfl rfl rfl rfl) ?_
      refine DR.done (by kernel_rfl) ?_
      refine z_ ?_
      exact RQ.upS (k + 1) (⟨x2, y2, hok2, hx2⟩ : FilP tb mb lb) (Nat.lt_succ_self _) hk' hnx.symm ⟨rfl, rfl, rfl, rfl, trivial⟩ (List.Perm.refl _) (List.Sublist.refl _)
    | false =>
      refine DR.t 24 rfl (Val.neBool (a := false) (b := false) tabOk rfl rfl rfl rfl rfl) ?_
      refine DR.done (by kernel_rfl) ?_
      refine z_ ?_
      exact RQ.upS (k + 1) (⟨x2, y2, hok2, hx2⟩ : FilP tb mb lb) (Nat.lt_succ_self _) hk' hnx.symm ⟨rfl, rfl, rfl, rfl, trivial⟩ (List.Perm.refl _) (List.Sublist.refl _)
  · have hk' : k = l.length := by have := of_decide_eq_false h; omega
    clear h
    subst hk'
    rw [List.take_length] at hfin
    refine z_ ?_
    exact RQ.ret3 rfl (Res.tmp rfl) (Res.tmp rfl) (Res.tmp rfl) fun w' hm => Turns.of (Y := FilY (finL l)) (V := fun y => .tuple #[.pointer (some ⟨y.tb, 0, none⟩), .pointer (some ⟨y.lb, 0, none⟩), .bool true]) (L' := fun y => y.p.L) (Lst := []) ⟨tb, mb, lb, ⟨x, y, ok, rp⟩, hfin⟩ hm (Lr := []) (by rw [List.append_nil]; exact List.Perm.refl _)
end Go.Proofs.YtaabinhpagbajaaDoor
