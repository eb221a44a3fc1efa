import Derived.Test.YtfhdfpejjgmdcaaDoorAcW
import Derived.Test.YtfhdfpejjgmdcaaDoorTraB
import Derived.Test.YtfhdfpejjgmdcaaDoorVcS
set_option linter.unusedSimpArgs false
set_option linter.unusedVariables false
/- account: AccountKeeps. -/
namespace Go.Vc
open Go
section
variable {P : Program} {n : Nat} {w0 : World} {S0 : List Nat} {Q : Exit → Act → World → Prop} {E : Env} {L : Hp}
/-- A cut that lets those pass that leave early. -/
def Mid (n : Nat) (w0 : World) (S0 : List Nat) {Y : Type} (Ey : Y → Env) (Ly : Y → Hp) (a : Act) (w : World) : Prop := ∃ y, St n (Ey y) a ∧ Mem w0 S0 (Ly y) w
theorem RC.thenMid {c : Code} {K : Act → World → Prop} {Y : Type} (Ey : Y → Env) (Ly : Y → Hp) (h : RC P n w0 S0 c (Exit.then (Mid n w0 S0 Ey Ly) Q) E L) (k : ∀ y, RQ n w0 S0 .normal (Exit.then K Q) (Ey y) (Ly y)) : RC P n w0 S0 c (Exit.then K Q) E L :=
  fun a w hs hm => wp_mono (h a w hs hm) fun e a w q => by
    cases e with
    | normal => obtain ⟨y, h1, h2⟩ := q; exact k y a w h1 h2
    | _ => exact q
theorem RQ.midY {Y : Type} {Ey : Y → Env} {Ly : Y → Hp} (y : Y) {L1 : Hp} (he : Env.le (Ey y) E) (hp : L.Perm L1) (hl : (Ly y).Sublist L1) : RQ n w0 S0 .normal (Exit.then (Mid n w0 S0 Ey Ly) Q) E L :=
  fun _ _ hs hm => ⟨y, hs.weak he, (hm.perm hp).sublist hl⟩
end
end Go.Vc
namespace Go.Proofs.YtfhdfpejjgmdcaaDoor
attribute [local irreducible] Go.Vc.Run Go.Vc.RC Go.Vc.RQ Go.Vc.DR Go.Vc.DOp
open Go Go.Vc Go.Sha
/-- A ledger and its model, which hold the same. -/
structure Bk (ab rb : Nat) where
  y : AlP ab
  z : RlP rb
  e : y.s = z.s
def Bk.L {ab rb : Nat} (b : Bk ab rb) : Hp := b.y.L ++ b.z.L
theorem totX_nn {s : LS} (ok : LsOk s) : 0 ≤ totX s := by
  unfold totX
  have h := ok.am
  generalize s.acs = l at h
  induction l with
  | nil => exact Int.le_refl _
  | cons p l ih =>
    rw [List.map_cons, List.sum_cons]
    have h1 := h p List.mem_cons_self
    have h2 := ih fun q hq => h q (List.mem_cons_of_mem _ hq)
    omega
theorem leavX_nn {s : LS} (ok : LsOk s) : 0 ≤ leavX s := by
  unfold leavX
  have h := ok.oa
  generalize s.out = l at h
  induction l with
  | nil => exact Int.le_refl _
  | cons p l ih =>
    rw [List.map_cons, List.sum_cons]
    have h1 := h p List.mem_cons_self
    have h2 := ih fun q hq => h q (List.mem_cons_of_mem _ hq)
    omega
theorem acGet_at : ∀ {l : Acs} {k : Nat} {i : Int} {a : AcD}, (l.map (·.1)).Nodup → l[k]? = some (i, a) → acGet i l = some a
  | [], _, _, _, _, h => by simp at h
  | p :: l, 0, i, a, _, h => by
    simp only [List.getElem?_cons_zero, Option.some.injEq] at h
    subst h
    rw [acGet_cons, if_pos rfl]
  | p :: l, k + 1, i, a, nd, h => by
    rw [List.getElem?_cons_succ] at h
    rw [List.map_cons, List.nodup_cons] at nd
    rw [acGet_cons, if_neg (fun e => nd.1 (by rw [e]; exact List.mem_map.2 ⟨_, List.mem_of_getElem? h, rfl⟩)), acGet_at nd.2 h]
theorem dy_am (x : DyD) : x.c.toArray[11]? = some (.int .i64 x.am) := by
  obtain ⟨_, qf, _⟩ := dy_rd x
  exact qf 10 _ (by obtain ⟨o0, o1, o2, o3, o4, o5, o6, o7, e⟩ := len8 x.h8.1; rw [e]; rfl)
theorem dy_w1 (x : DyD) (z : Int) : wrAt x.c.toArray 1 (Value.cells (.int .i64 z)).toList = ({ x with sd := z } : DyD).c.toArray := rfl
theorem dy_w3 (x : DyD) (o : List Nat) (h : H8 o) : wrAt x.c.toArray 3 (u8s o) = ({ x with o := o, h8 := h } : DyD).c.toArray := by
  have := wr_mid' [.int .i64 x.d, .int .i64 x.sd, .int .i64 x.ac] (u8s x.o) (u8s o) ([.int .i64 x.am] ++ (.int .i64 x.who :: (x.t.c ++ [.int .u8 x.be]))) (by rw [u8s_len, u8s_len, h.1, x.h8.1]) 3 rfl
  unfold DyD.c dyC fwC
  simpa using this
theorem treeOf_8 (s : List Nat) : H8 (treeOf s) := ⟨treeOf_len s, treeOf_lt s⟩
theorem sum_take {l : List OuD} {k : Nat} {e : OuD} (h : l[k]? = some e) : ((l.take (k + 1)).map (·.am)).sum = ((l.take k).map (·.am)).sum + e.am := by
  rw [List.take_add_one, h, Option.toList_some, List.map_append, List.sum_append]; simp
theorem sum_take_le {l : List OuD} (h : ∀ x ∈ l, 1 ≤ x.am) (k : Nat) : 0 ≤ ((l.take k).map (·.am)).sum ∧ ((l.take k).map (·.am)).sum ≤ (l.map (·.am)).sum := by
  have nn : ∀ l : List OuD, (∀ x ∈ l, 1 ≤ x.am) → 0 ≤ (l.map (·.am)).sum := by
    intro l h
    induction l with
    | nil => exact Int.le_refl _
    | cons p l ih =>
      rw [List.map_cons, List.sum_cons]
      have h1 := h p List.mem_cons_self
      have h2 := ih fun q hq => h q (List.mem_cons_of_mem _ hq)
      omega
  have h1 := nn (l.take k) fun x hx => h x (List.mem_of_mem_take hx)
  have h2 := nn (l.drop k) fun x hx => h x (List.mem_of_mem_drop hx)
  refine ⟨h1, ?_⟩
  conv => rhs; rw [← List.take_append_drop k l]
  rw [List.map_append, List.sum_append]
  omega
/-- What holds at the head of each round. -/
structure KpI {ab rb : Nat} (i : Nat) (x : Bk ab rb × Int × Int) : Prop where
  sum : totX x.1.y.s + leavX x.1.y.s + x.2.2 = x.2.1
  nn : 0 ≤ x.2.2
  le : x.2.1 ≤ (i : Int) * 1099511627776
theorem fw_len (x : DyD) : (fwC x.sd x.ac x.o x.am).length = 11 := (fw_rd x.h8.1 x.sd x.ac x.am).2.2.2
set_option maxRecDepth 10000 in set_option maxHeartbeats 4000000 in
theorem AccountKeeps_calls (l : List DyD) (hll : l.length ≤ 9223372036854775807) (vl0 : Value) (w : World) (hs : SrcW w 307 vl0 l.length (rws DyD.c l)) (hK : Laid w) :
    Gives Tryd.prog 3 [vl0] (.bool true) w := by
  refine enter Tryd.func3 rfl (Mem.nil w []) rfl ?_
  obtain ⟨la, lc, rfl, hlc⟩ := hs.shape
  refine z_ ?_
  refine Run.op1 (OpTo.cv Tryd.func6 (fun w' hm => ac_awake_calls w' (hK.fr hm.fr (by simp)))) (fun _ => ?_)
  by_cases h30 : 30 < l.length
  · refine z_ ?_
    exact RQ.ret1 rfl (Res.tmp rfl) fun w' hm => ⟨rfl, hm.fr⟩
  refine z_ ?_
  have hz0 : ([] : Hp).Perm ([] ++ []) := List.Perm.refl _
  refine Run.op1 (OpTo.callT Tryd.func7 hz0 (fun w' hm => ANew_calls 0 w')) ?_
  rintro ⟨⟨ab, y0⟩, hy0⟩
  dsimp only at hy0 ⊢
  refine Run.a (vbs #[.int .i64 0, .slice none 0 0, .slice none 0 0, .slice none 0 0]) ?_
  refine Run.nw nbx ?_
  intro rb
  refine z_ ?_
  obtain ⟨b0, hb0⟩ : ∃ b : Bk ab rb, b = ⟨y0, rlNil rb 0, hy0⟩ := ⟨_, rfl⟩
  have hp0 : ((rb, Obj.cells #[.int .i64 0, .slice none 0 0, .slice none 0 0, .slice none 0 0] 31 (0, 0)) :: (y0.L ++ []) : Hp).Perm b0.L := by
    rw [hb0]
    unfold Bk.L
    rw [show (rlNil rb 0).L = [(rb, Obj.cells #[.int .i64 0, .slice none 0 0, .slice none 0 0, .slice none 0 0] 31 (0, 0))] from rfl]
    exact (perm_of fun f => by (simp only [List.map_append, List.map_cons, List.map_nil, List.sum_append, List.sum_cons, List.sum_nil] <;> omega))
  refine RC.perm hp0 ?_
  refine RC.up l.length (D := Bk ab rb × Int × Int) (fun i x => KpI i x) (fun i x => [(7, .int .i64 i), (6, .int .i64 x.2.2), (5, .int .i64 x.2.1), (4, .pointer (some ⟨rb, 0, none⟩)), (3, .pointer (some ⟨ab, 0, none⟩)), (0, .slice la l.length lc)]) (fun _ x => x.1.L) 0 (b0, 0, 0) (Nat.zero_le _) ⟨by dsimp only; rw [hb0]; dsimp only; rw [hy0]; rfl, Int.le_refl _, Int.le_refl _⟩ ⟨rfl, rfl, rfl, rfl, rfl, rfl, trivial⟩ (List.Sublist.refl _) ?_
  clear hp0 hb0 b0 hy0 y0
  rintro i ⟨⟨y, z, he⟩, inn, out⟩ hi ⟨hsum, hnn, hle⟩
  dsimp only at hsum hnn hle ⊢
  refine z_ ?_
  (repeat refine RC.seq ?_); refine RC.wh rfl (fun h => RQ.next ?_) (fun h => ?_)
  · have hi' : i < l.length := by have := of_decide_eq_true h; omega
    clear h
    obtain ⟨x, hx⟩ : ∃ x, l[i]? = some x := ⟨_, List.getElem?_eq_getElem hi'⟩
    obtain ⟨ad, c', hv', hc', hcl, hr⟩ := hs.pos (by omega)
    cases hv'
    have hload : ∀ j u, x.c[j]? = some u → w.cell? ((ad.add (i * 307)).add j) = some u := fun j u hj => by
      rw [add_add]; exact hr _ u (rws_at DyD.len hx j u hj)
    have hel := x.len
    have he1 := x.one
    obtain ⟨q0, qf, qw, qt, qb⟩ := dy_rd x
    refine z_ ?_
    refine Run.a (vix i hi' (ad.add (i * 307))) ?_
    refine Run.a (vloA hload hel) ?_
    refine Run.nw nal ?_
    intro b8
    refine Run.op1 (osa (L' := (y.L ++ z.L)) x.c.toArray he1 (hs := hel) (hf := by kernel_rfl)) (fun _ => ?_)
    refine Run.nil (RQ.next ?_)
    (repeat refine RC.seq ?_); refine RC.region ?_
    refine Run.a vf0 ?_
    refine Run.a (vl (.int .i64 x.d) (arr := x.c.toArray) (hv := by exact q0)) ?_
    refine Run.nil (RQ.next ?_)
    refine RC.thenMid (Y := {x : Bk ab rb × Int × Int // KpI (i + 1) x}) (fun x => [(7, .int .i64 i), (6, .int .i64 x.1.2.2), (5, .int .i64 x.1.2.1), (4, .pointer (some ⟨rb, 0, none⟩)), (3, .pointer (some ⟨ab, 0, none⟩)), (0, .slice (some ad) l.length lc)]) (fun x => x.1.1.L) ?_ ?_
    · by_cases hdA : x.d = 0 ∨ x.d = 1
      · obtain ⟨TR, hTR⟩ : ∃ TR, TR = treeOf (sedV x.who) := ⟨_, rfl⟩
        have hT8 : H8 TR := by rw [hTR]; exact treeOf_8 _
        have ctr := fun w' => ref_Tree_calls (sedV x.who) (sedV_8 x.who).1 (sedV_8 x.who).2 w'
        rw [← hTR] at ctr
        obtain ⟨x1, hx1⟩ : ∃ x1 : DyD, x1 = { x with sd := 0 } := ⟨_, rfl⟩
        obtain ⟨x2, hx2⟩ : ∃ x2 : DyD, x2 = { x1 with o := TR, h8 := hT8 } := ⟨_, rfl⟩
        have hw1 : wrAt x.c.toArray 1 (Value.cells (.int .i64 0)).toList = x1.c.toArray := by rw [hx1]; exact dy_w1 x 0
        have hw3 : wrAt x1.c.toArray 3 (u8s TR) = x2.c.toArray := by rw [hx2]; exact dy_w3 x1 TR hT8
        have l1 := x1.len
        have l2 := x2.len
        have rf2 := (dy_rd x2).2.1
        have ra2 := dy_am x2
        have lf2 := fw_len x2
        clear hx1 hx2
        refine RC.block ?_
        refine RC.seq ?_
        refine RC.thenCut (Y := Unit) (fun _ => [(38, .bool true), (8, .pointer (some ⟨b8, 0, none⟩)), (7, .int .i64 i), (6, .int .i64 out), (5, .int .i64 inn), (4, .pointer (some ⟨rb, 0, none⟩)), (3, .pointer (some ⟨ab, 0, none⟩)), (0, .slice (some ad) l.length lc)]) (fun _ => (b8, Obj.cells x.c.toArray 43 (0, 0)) :: (y.L ++ z.L)) ?_ (fun _ => ?_)
        · rcases hdA with hd | hd
          · refine z_ ?_
            exact RQ.toP () ⟨rfl, rfl, rfl, rfl, rfl, rfl, rfl, rfl, trivial⟩ (List.Perm.refl _) (List.Sublist.refl _)
          · refine z_ ?_
            exact RQ.toP () ⟨rfl, rfl, rfl, rfl, rfl, rfl, rfl, rfl, trivial⟩ (List.Perm.refl _) (List.Sublist.refl _)
        refine z_ ?_
        refine Run.a (vl (.int .i64 x.who) (arr := x.c.toArray) (hm := (by repeat (first | exact List.mem_cons_self | apply List.mem_cons_of_mem | apply List.mem_append_right))) (hv := by exact qw)) ?_
        refine Run.op1 (OpTo.cv Tryd.func9 (fun w' _ => aSeed_calls x.who w')) (fun _ => ?_)
        refine Run.op1 (OpTo.cv Tryd.func8 (fun w' _ => ctr w')) (fun _ => ?_)
        refine z_ ?_
        refine Run.op1 (os1 (off := 1) (v := .int .i64 0) (arr := x.c.toArray) (e := 43) (L' := (y.L ++ z.L)) x1.c.toArray (he := hw1) (hf := by rw [List.size_toArray, hel]; decide)) (fun _ => ?_)
        refine z_ ?_
        refine Run.op1 (ost (ti := ti33) (off := 3) (v := .agg (u8s TR).toArray) (arr := x1.c.toArray) (e := 43) (L' := (y.L ++ z.L)) x2.c.toArray (by simpa only [Value.cells] using hw3) (by rw [List.size_toArray, l1]; decide) (fun u hu => u8s_one TR u (by simpa [Value.cells] using hu)) (hs := by simp only [Value.cells, List.size_toArray, u8s_len, hT8.1]; rfl)) (fun _ => ?_)
        refine z_ ?_
        refine Run.a (vl (.int .i64 x2.am) (arr := x2.c.toArray) (hm := (by repeat (first | exact List.mem_cons_self | apply List.mem_cons_of_mem | apply List.mem_append_right))) (hv := by exact ra2)) ?_
        by_cases ham : 1099511627776 < x2.am
        · refine z_ ?_
          exact RQ.ret1 rfl (Res.tmp rfl) fun w' hm => ⟨rfl, hm.fr⟩
        refine z_ ?_
        refine Run.a (Val.loadR tabOk (cs := fwC x2.sd x2.ac x2.o x2.am) rfl rfl rfl rfl lf2 (Rd.row (by repeat (first | exact List.mem_cons_self | apply List.mem_cons_of_mem | apply List.mem_append_right)) rf2)) ?_
        have hpA : ((b8, Obj.cells x2.c.toArray 43 (0, 0)) :: (y.L ++ z.L) : Hp).Perm (z.L ++ ((b8, Obj.cells x2.c.toArray 43 (0, 0)) :: y.L)) := (perm_of fun f => by (simp only [List.map_append, List.map_cons, List.map_nil, List.sum_append, List.sum_cons, List.sum_nil] <;> omega))
        refine Run.op1 (OpTo.callT Tryd.func10 hpA (fun w' hm => RCredit_calls z x2.sd x2.ac x2.o x2.h8 x2.am w' (hm.part hpA).1 (hm.part hpA).2)) ?_
        rintro ⟨z', hz'⟩
        dsimp only
        refine z_ ?_
        refine Run.a (Val.loadR tabOk (cs := fwC x2.sd x2.ac x2.o x2.am) rfl rfl rfl rfl lf2 (Rd.row (by repeat (first | exact List.mem_cons_self | apply List.mem_cons_of_mem | apply List.mem_append_right)) rf2)) ?_
        have hpB : (z'.L ++ ((b8, Obj.cells x2.c.toArray 43 (0, 0)) :: y.L) : Hp).Perm (y.L ++ ((b8, Obj.cells x2.c.toArray 43 (0, 0)) :: z'.L)) := (perm_of fun f => by (simp only [List.map_append, List.map_cons, List.map_nil, List.sum_append, List.sum_cons, List.sum_nil] <;> omega))
        refine Run.op1 (OpTo.callT Tryd.func11 hpB (fun w' hm => ACredit_calls y x2.sd x2.ac x2.o x2.h8 x2.am w' (hm.part hpB).1 (hm.part hpB).2 (hK.fr hm.fr (by simp)) (fresh_idsS hK (by simp) (hm.perm hpB) (fun p hp => List.mem_append_left _ hp)))) ?_
        rintro ⟨y', hy'⟩
        dsimp only
        have hcs := crS_sum y.ok (sd := x2.sd) (ac := x2.ac) (o := x2.o) (h := x2.h8) (am := x2.am)
        rw [← hy'] at hcs
        have he' : y'.s = z'.s := by rw [hy', hz', he]
        by_cases hcr : crOk y.s x2.sd x2.ac x2.o x2.am
        · rw [if_pos hcr] at hcs
          rw [decide_eq_true hcr]
          have hpos := hcr.2.2.1.1
          have n1 := totX_nn y.ok
          have n2 := leavX_nn y.ok
          refine z_ ?_
          refine Run.a (vl (.int .i64 x2.am) (arr := x2.c.toArray) (hm := (by repeat (first | exact List.mem_cons_self | apply List.mem_cons_of_mem | apply List.mem_append_right))) (hv := by exact ra2)) ?_
          refine z_ ?_
          exact RQ.midY ⟨(⟨y', z', he'⟩, inn + x2.am, out), by dsimp only; omega, hnn, by dsimp only; omega⟩ ⟨rfl, rfl, rfl, rfl, rfl, rfl, trivial⟩ (L1 := (y'.L ++ z'.L) ++ [(b8, Obj.cells x2.c.toArray 43 (0, 0))]) (perm_of fun f => by (simp only [List.map_append, List.map_cons, List.map_nil, List.sum_append, List.sum_cons, List.sum_nil] <;> omega)) (List.sublist_append_left _ _)
        · rw [if_neg hcr] at hcs
          rw [decide_eq_false hcr]
          refine z_ ?_
          exact RQ.midY ⟨(⟨y', z', he'⟩, inn, out), by dsimp only; omega, hnn, by dsimp only; omega⟩ ⟨rfl, rfl, rfl, rfl, rfl, rfl, trivial⟩ (L1 := (y'.L ++ z'.L) ++ [(b8, Obj.cells x2.c.toArray 43 (0, 0))]) (perm_of fun f => by (simp only [List.map_append, List.map_cons, List.map_nil, List.sum_append, List.sum_cons, List.sum_nil] <;> omega)) (List.sublist_append_left _ _)
      by_cases hdB : x.d = 2 ∨ x.d = 3 ∨ x.d = 4
      · have hd0 : x.d ≠ 0 ∧ x.d ≠ 1 := by omega
        have cmk := fun w' hw' => aMake_calls z 0 x w' hw'
        generalize mkT z.s 0 x = tx at cmk
        have ltx : tx.c.toArray.size = 293 := tx.len
        have otx := tx.one
        refine z_ ?_
        refine RC.thenCut (Y := Unit) (fun _ => [(66, .bool true), (8, .pointer (some ⟨b8, 0, none⟩)), (7, .int .i64 i), (6, .int .i64 out), (5, .int .i64 inn), (4, .pointer (some ⟨rb, 0, none⟩)), (3, .pointer (some ⟨ab, 0, none⟩)), (0, .slice (some ad) l.length lc)]) (fun _ => (b8, Obj.cells x.c.toArray 43 (0, 0)) :: (y.L ++ z.L)) ?_ (fun _ => ?_)
        · rcases hdB with hd | hd | hd
          · refine z_ ?_
            exact RQ.toP () ⟨(by show some (Value.bool (x.d == 2)) = some (Value.bool true); rw [hd]; rfl), rfl, rfl, rfl, rfl, rfl, rfl, rfl, trivial⟩ (List.Perm.refl _) (List.Sublist.refl _)
          · refine z_ ?_
            exact RQ.toP () ⟨rfl, rfl, rfl, rfl, rfl, rfl, rfl, rfl, trivial⟩ (List.Perm.refl _) (List.Sublist.refl _)
          · refine z_ ?_
            exact RQ.toP () ⟨rfl, rfl, rfl, rfl, rfl, rfl, rfl, rfl, trivial⟩ (List.Perm.refl _) (List.Sublist.refl _)
        refine z_ ?_
        refine Run.a (vla (arr := x.c.toArray) (hm := (by repeat (first | exact List.mem_cons_self | apply List.mem_cons_of_mem | apply List.mem_append_right))) (hv := by exact hel)) ?_
        refine z_ ?_
        refine Run.op1 (OpTo.cv Tryd.func12 (fun w' hm => cmk w' (fun q hq => hm.has q (List.mem_cons_of_mem _ (List.mem_append_right _ hq))))) (fun _ => ?_)
        refine Run.nw nal ?_
        intro b9
        refine Run.op1 (osa (L' := (b8, Obj.cells x.c.toArray 43 (0, 0)) :: (y.L ++ z.L)) tx.c.toArray otx (hs := by exact ltx) (hf := by kernel_rfl)) (fun _ => ?_)
        refine z_ ?_
        refine Run.a (vla (arr := tx.c.toArray) (hm := (by repeat (first | exact List.mem_cons_self | apply List.mem_cons_of_mem | apply List.mem_append_right))) (hv := by exact ltx)) ?_
        have hpA : ((b9, Obj.cells tx.c.toArray 41 (0, 0)) :: (b8, Obj.cells x.c.toArray 43 (0, 0)) :: (y.L ++ z.L) : Hp).Perm (z.L ++ ((b9, Obj.cells tx.c.toArray 41 (0, 0)) :: (b8, Obj.cells x.c.toArray 43 (0, 0)) :: y.L)) := (perm_of fun f => by (simp only [List.map_append, List.map_cons, List.map_nil, List.sum_append, List.sum_cons, List.sum_nil] <;> omega))
        refine Run.op1 (OpTo.callT Tryd.func13 hpA (fun w' hm => RDo_calls z tx w' (hm.part hpA).1 (hm.part hpA).2)) ?_
        rintro ⟨z', hz'⟩
        dsimp only
        refine z_ ?_
        refine Run.a (vla (arr := tx.c.toArray) (hm := (by repeat (first | exact List.mem_cons_self | apply List.mem_cons_of_mem | apply List.mem_append_right))) (hv := by exact ltx)) ?_
        have hpB : (z'.L ++ ((b9, Obj.cells tx.c.toArray 41 (0, 0)) :: (b8, Obj.cells x.c.toArray 43 (0, 0)) :: y.L) : Hp).Perm (y.L ++ ((b9, Obj.cells tx.c.toArray 41 (0, 0)) :: (b8, Obj.cells x.c.toArray 43 (0, 0)) :: z'.L)) := (perm_of fun f => by (simp only [List.map_append, List.map_cons, List.map_nil, List.sum_append, List.sum_cons, List.sum_nil] <;> omega))
        refine Run.op1 (OpTo.callT Tryd.func14 hpB (fun w' hm => ADo_calls y tx w' (hm.part hpB).1 (hm.part hpB).2 (hK.fr hm.fr (by simp)) (fresh_idsS hK (by simp) (hm.perm hpB) (fun p hp => List.mem_append_left _ hp)))) ?_
        rintro ⟨y', hy'⟩
        dsimp only
        have hds := doX_sum y.ok tx
        rw [← hy'] at hds
        refine z_ ?_
        exact RQ.midY ⟨(⟨y', z', by rw [hy', hz', he]⟩, inn, out), by dsimp only; omega, hnn, by dsimp only; omega⟩ ⟨rfl, rfl, rfl, rfl, rfl, rfl, trivial⟩ (L1 := (y'.L ++ z'.L) ++ [(b9, Obj.cells tx.c.toArray 41 (0, 0)), (b8, Obj.cells x.c.toArray 43 (0, 0))]) (perm_of fun f => by (simp only [List.map_append, List.map_cons, List.map_nil, List.sum_append, List.sum_cons, List.sum_nil] <;> omega)) (List.sublist_append_left _ _)
      by_cases hdC : x.d = 5
      · obtain ⟨aO, cO, evO, hcO⟩ := y.hO.shape
        have hO := y.hO
        have cc := fun w' h1 h2 => AClose_calls y w' h1 h2
        have h8 := nodeF_8 (acF_ok y.s.acs) 16 0
        rw [evO] at cc hO
        generalize nodeF (acF y.s.acs) 16 0 = R at cc h8
        have sR : (u8s R).toArray.size = 8 := by rw [List.size_toArray, u8s_len, h8.1]
        have hol := y.ok.ol
        have hoa := fun x hx => (y.ok.oa x hx).1
        have n1 := totX_nn y.ok
        have hlv : leavX y.s = (y.s.out.map (·.am)).sum := rfl
        have hal : (y.s.out.map (·.am)).sum = ((y.s.out.take y.s.out.length).map (·.am)).sum := by rw [List.take_length]
        have hO2 := hO
        have hts : totX y.shut.s = totX y.s := rfl
        have hls : leavX y.shut.s = 0 := rfl
        have hes : y.shut.s = z.shut.s := by show ({ y.s with out := [] } : LS) = { z.s with out := [] }; rw [he]
        refine z_ ?_
        have hpA : ((b8, Obj.cells x.c.toArray 43 (0, 0)) :: (y.L ++ z.L) : Hp).Perm (y.L ++ ((b8, Obj.cells x.c.toArray 43 (0, 0)) :: z.L)) := (perm_of fun f => by (simp only [List.map_append, List.map_cons, List.map_nil, List.sum_append, List.sum_cons, List.sum_nil] <;> omega))
        refine Run.op1 (OpTo.callT Tryd.func15 hpA (fun w' hm => cc w' (hm.part hpA).1 (hm.part hpA).2)) ?_
        intro _
        refine z_ ?_
        refine Run.nw nal ?_
        intro b10
        refine Run.op1 (osa (u8s R).toArray (u8s_one _) (hs := sR) (hf := by kernel_rfl)) (fun _ => ?_)
        refine z_ ?_
        have hpB : ((b10, Obj.cells (u8s R).toArray 33 (0, 0)) :: ((y.shut.L ++ y.bO) ++ ((b8, Obj.cells x.c.toArray 43 (0, 0)) :: z.L)) : Hp).Perm (z.L ++ ((b10, Obj.cells (u8s R).toArray 33 (0, 0)) :: (b8, Obj.cells x.c.toArray 43 (0, 0)) :: (y.shut.L ++ y.bO))) := (perm_of fun f => by (simp only [List.map_append, List.map_cons, List.map_nil, List.sum_append, List.sum_cons, List.sum_nil] <;> omega))
        refine Run.op1 (OpTo.callT Tryd.func16 hpB (fun w' hm => RClose_calls z w' (hm.part hpB).1 (hm.part hpB).2)) ?_
        rintro ⟨⟨vN, bN⟩, hN⟩
        dsimp only at hN ⊢
        refine z_ ?_
        have hpC : ((z.shut.L ++ bN) ++ ((b10, Obj.cells (u8s R).toArray 33 (0, 0)) :: (b8, Obj.cells x.c.toArray 43 (0, 0)) :: (y.shut.L ++ y.bO)) : Hp).Perm ((y.shut.L ++ z.shut.L) ++ (y.bO ++ (bN ++ [(b10, Obj.cells (u8s R).toArray 33 (0, 0)), (b8, Obj.cells x.c.toArray 43 (0, 0))]))) := (perm_of fun f => by (simp only [List.map_append, List.map_cons, List.map_nil, List.sum_append, List.sum_cons, List.sum_nil] <;> omega))
        refine RC.perm hpC ?_
        generalize bN ++ [(b10, Obj.cells (u8s R).toArray 33 (0, 0)), (b8, Obj.cells x.c.toArray 43 (0, 0))] = junk
        refine RC.up y.s.out.length (D := Unit) (fun _ _ => True) (fun k _ => [(12, .int .i64 k), (11, .slice aO y.s.out.length cO), (7, .int .i64 i), (6, .int .i64 (out + ((y.s.out.take k).map (·.am)).sum)), (5, .int .i64 inn), (4, .pointer (some ⟨rb, 0, none⟩)), (3, .pointer (some ⟨ab, 0, none⟩)), (0, .slice (some ad) l.length lc)]) (fun _ _ => (y.shut.L ++ z.shut.L) ++ (y.bO ++ junk)) 0 () (Nat.zero_le _) trivial ⟨rfl, rfl, rfl, show _ = some (Value.int .i64 (out + 0)) by rw [Int.add_zero]; rfl, rfl, rfl, rfl, rfl, trivial⟩ (List.Sublist.refl _) ?_
        intro k _ hk _
        have hb1 := sum_take_le hoa k
        refine z_ ?_
        (repeat refine RC.seq ?_); refine RC.wh rfl (fun h => RQ.next ?_) (fun h => ?_)
        · have hk' : k < y.s.out.length := by have := of_decide_eq_true h; omega
          clear h
          obtain ⟨o9, ho9⟩ : ∃ o9, y.s.out[k]? = some o9 := ⟨_, List.getElem?_eq_getElem hk'⟩
          obtain ⟨adO, rfl⟩ := hO.adr (by omega)
          have hb2 := sum_take_le hoa (k + 1)
          have hst := sum_take ho9
          have o98 : (OuD.c o9)[8]? = some (.int .i64 o9.am) := by
            obtain ⟨o0, o1, o2, o3, o4, o5, o6, o7, e⟩ := len8 o9.h8.1
            unfold OuD.c; rw [e]; rfl
          have hrd : ∀ w' : World, (∀ p ∈ y.bO, w'.heap[p.1]? = some p.2) → w'.cell? ((adO.add (k * 9)).add 8) = some (.int .i64 o9.am) := fun w' hb => by
            rw [add_add]; exact hO.rd hb _ _ (rws_at OuD.len ho9 8 _ o98)
          refine z_ ?_
          refine Run.a (vix k hk' (adO.add (k * 9))) ?_
          refine Run.a (Val.fieldAddrA tabOk rfl rfl rfl rfl rfl rfl rfl rfl) ?_
          refine Run.a (Val.loadC1 tabOk rfl rfl rfl rfl (fun w' hm => hrd w' (fun p hp => hm.has p (List.mem_append_right _ (List.mem_append_left _ hp))))) ?_
          refine z_ ?_
          exact RQ.upS (k + 1) () (Nat.lt_succ_self _) hk' trivial ⟨rfl, rfl, rfl, show _ = some (Value.int .i64 _) by rw [hst, ← Int.add_assoc]; rfl, rfl, rfl, rfl, rfl, trivial⟩ (List.Perm.refl _) (List.Sublist.refl _)
        · have hk' : k = y.s.out.length := by have := of_decide_eq_false h; omega
          clear h
          subst hk'
          rw [← hal]
          (repeat refine RQ.thenExit ?_); refine RQ.blockHere ?_
          refine z_ ?_
          exact RQ.midY ⟨(⟨y.shut, z.shut, hes⟩, inn, out + (y.s.out.map (·.am)).sum), by dsimp only; omega, by dsimp only; omega, by dsimp only; omega⟩ ⟨rfl, rfl, rfl, rfl, rfl, rfl, trivial⟩ (List.Perm.refl _) (List.sublist_append_left _ _)
      refine z_ ?_
      exact RQ.midY ⟨(⟨y, z, he⟩, inn, out), hsum, hnn, by dsimp only; omega⟩ ⟨rfl, rfl, rfl, rfl, rfl, rfl, trivial⟩ (L1 := (y.L ++ z.L) ++ [(b8, Obj.cells x.c.toArray 43 (0, 0))]) (perm_of fun f => by (simp only [List.map_append, List.map_cons, List.map_nil, List.sum_append, List.sum_cons, List.sum_nil] <;> omega)) (List.sublist_append_left _ _)
    · clear hload hel he1 q0 qf qw qt qb hsum hnn hle he y z
      rintro ⟨⟨⟨y, z, he⟩, inn, out⟩, hsum, hnn, hle⟩
      dsimp only at hsum hnn hle ⊢
      have n1 := totX_nn y.ok
      have n2 := leavX_nn y.ok
      have ct := fun w' hw' => ATotal_calls y w' hw'
      have cl := fun w' hw' => ALeaving_calls y w' hw'
      rw [wrap_in (show inK .i64 (totX y.s) from by dsimp only [inK]; omega)] at ct
      rw [wrap_in (show inK .i64 (leavX y.s) from by dsimp only [inK]; omega)] at cl
      have hsum0 := hsum
      generalize totX y.s = tt at ct n1 hsum
      generalize leavX y.s = lv at cl n2 hsum
      have hnd := y.ok.ok.nd
      have hok := y.ok
      have hll' := y.ok.ok.len
      refine z_ ?_
      refine Run.op1 (OpTo.cv Tryd.func17 (fun w' hm => ct w' (fun q hq => hm.has q (List.mem_append_left _ hq)))) (fun _ => ?_)
      refine z_ ?_
      refine Run.op1 (OpTo.cv Tryd.func18 (fun w' hm => cl w' (fun q hq => hm.has q (List.mem_append_left _ hq)))) (fun _ => ?_)
      refine z_ ?_
      obtain ⟨vT, vA, vO, bT, bA, bO, s, ok, hT, hA, hO⟩ := z
      dsimp only at he
      subst he
      have cg := fun i w' hw' => AGet_calls y i w' hw'
      obtain ⟨aT, cT, rfl, hcT⟩ := hT.shape
      unfold Bk.L RlP.L RlP.row
      dsimp only
      obtain ⟨ROW, hROW⟩ : ∃ ROW : Hp, ROW = (bT ++ (bA ++ bO)) := ⟨_, rfl⟩
      refine RC.up y.s.acs.length (D := Unit) (fun _ _ => True) (fun k _ => [(13, .int .i64 k), (7, .int .i64 i), (6, .int .i64 out), (5, .int .i64 inn), (4, .pointer (some ⟨rb, 0, none⟩)), (3, .pointer (some ⟨ab, 0, none⟩)), (0, .slice (some ad) l.length lc)]) (fun _ _ => y.L ++ ((rb, Obj.cells #[.int .i64 y.s.side, .slice aT y.s.acs.length cT, vA, vO] 31 (0, 0)) :: (bT ++ (bA ++ bO)))) 0 () (Nat.zero_le _) trivial ⟨rfl, rfl, rfl, rfl, rfl, rfl, rfl, trivial⟩ (List.Sublist.refl _) ?_
      intro k _ hk _
      refine z_ ?_
      (repeat refine RC.seq ?_); refine RC.wh rfl (fun h => RQ.next ?_) (fun h => ?_)
      · have hk' : k < y.s.acs.length := by have := of_decide_eq_true h; omega
        clear h
        obtain ⟨p, hp⟩ : ∃ p, y.s.acs[k]? = some p := ⟨_, List.getElem?_eq_getElem hk'⟩
        obtain ⟨adT, rfl⟩ := hT.adr (by omega)
        have hg : acGet p.1 y.s.acs = some p.2 := acGet_at hnd hp
        have g1 := hok.am p (List.mem_of_getElem? hp)
        have g2 := hok.no p (List.mem_of_getElem? hp)
        have cgk := cg p.1
        rw [hg] at cgk
        have hrd : ∀ w' : World, (∀ p ∈ bT, w'.heap[p.1]? = some p.2) → w'.cell? (adT.add k) = some (.int .i64 p.1) := fun w' hb => hT.rd hb k _ (by unfold i64L; rw [List.getElem?_map, List.getElem?_map, hp]; rfl)
        obtain ⟨r8, r9⟩ := ac_rd p.2.h8.1 p.2.am p.2.no
        have sA := acCells_len (some p.2)
        have oA := acCells_one (some p.2)
        change (acC p.2.o p.2.am p.2.no).toArray.size = 10 at sA
        change ∀ u ∈ (acC p.2.o p.2.am p.2.no).toArray.toList, _ at oA
        change ∀ w', _ → Gives _ _ _ (.tuple #[.agg (acC p.2.o p.2.am p.2.no).toArray, .bool true]) w' at cgk
        generalize acC p.2.o p.2.am p.2.no = AC at sA oA r8 r9 cgk
        refine z_ ?_
        refine Run.a (vix k hk' (adT.add k) (ha := by show adT.add (k * 1) = _; rw [Nat.mul_one])) ?_
        refine Run.a (Val.loadC1 tabOk rfl rfl rfl rfl (fun w' hm => hrd w' (fun p hp => hm.has p (List.mem_append_right _ (List.mem_cons_of_mem _ (List.mem_append_left _ hp)))))) ?_
        refine Run.op1 (OpTo.cv Tryd.func19 (fun w' hm => cgk w' (fun q hq => hm.has q (List.mem_append_left _ hq)))) (fun _ => ?_)
        refine z_ ?_
        refine Run.nw nal ?_
        intro b14
        refine Run.op1 (osa AC.toArray oA (hs := sA) (hf := by kernel_rfl)) (fun _ => ?_)
        refine z_ ?_
        refine Run.a (vl (.int .i64 p.2.am) (arr := AC.toArray) (hm := (by repeat (first | exact List.mem_cons_self | apply List.mem_cons_of_mem | apply List.mem_append_right))) (hv := by exact r8)) ?_
        refine z_ ?_
        refine Run.a (vl (.int .i64 p.2.no) (arr := AC.toArray) (hm := (by repeat (first | exact List.mem_cons_self | apply List.mem_cons_of_mem | apply List.mem_append_right))) (hv := by exact r9)) ?_
        refine z_ ?_
        refine Run.a (vl (.int .i64 p.2.no) (arr := AC.toArray) (hm := (by repeat (first | exact List.mem_cons_self | apply List.mem_cons_of_mem | apply List.mem_append_right))) (hv := by exact r9)) ?_
        refine z_ ?_
        exact RQ.upS (k + 1) () (Nat.lt_succ_self _) hk' trivial ⟨rfl, rfl, rfl, rfl, rfl, rfl, rfl, trivial⟩ (List.Perm.refl _) (List.sublist_cons_self _ _)
      · (repeat refine RQ.thenExit ?_); refine RQ.blockHere ?_
        refine z_ ?_
        exact RQ.upS (i + 1) (⟨y, ⟨.slice aT y.s.acs.length cT, vA, vO, bT, bA, bO, y.s, ok, hT, hA, hO⟩, rfl⟩, inn, out) (Nat.lt_succ_self _) hi' ⟨hsum0, hnn, hle⟩ ⟨rfl, rfl, rfl, rfl, rfl, rfl, trivial⟩ (List.Perm.refl _) (List.Sublist.refl _)
  · (repeat refine RQ.thenExit ?_); refine RQ.blockHere ?_
    refine z_ ?_
    exact RQ.ret1 rfl (Res.tmp rfl) fun w' hm => ⟨rfl, hm.fr⟩
end Go.Proofs.YtfhdfpejjgmdcaaDoor

/- account: AccountSigns. -/
namespace Go.Proofs.YtfhdfpejjgmdcaaDoor
attribute [local irreducible] Go.Vc.Run Go.Vc.RC Go.Vc.RQ Go.Vc.DR Go.Vc.DOp
open Go Go.Vc Go.Sha
/-- What holds at the head of each round. -/
structure SgI {ab rb : Nat} (side : Int) (i : Nat) (x : Bk ab rb × Int) : Prop where
  sd : x.1.y.s.side = side
  acs : ∃ f : AcD, x.1.y.s.acs = [(5, f)] ∧ f.o = o1T ∧ f.am = x.2 ∧ f.no = ((min i 8 : Nat) : Int)
  out : x.1.y.s.out.length = min i 8
  lv : leavX x.1.y.s = 5000 - x.2
  lo : 5000 - (min i 8 : Nat) * 256 ≤ x.2
  hi : x.2 ≤ 5000
theorem leav_app (sd : Int) (a : Acs) (os : List OuD) (o : OuD) : leavX ⟨sd, a, os ++ [o]⟩ = (os.map (·.am)).sum + o.am := by
  unfold leavX
  rw [List.map_append, List.sum_append]; simp
theorem crS_none {s : LS} {sd ac : Int} {o : List Nat} {h : H8 o} {am : Int} (hc : crOk s sd ac o am) (hg : acGet ac s.acs = none) : crS s sd ac o h am = { s with acs := s.acs ++ [(ac, ⟨o, am, 0, h⟩)] } := by
  unfold crS crTo
  rw [if_pos hc, hg]
  dsimp only
  rw [acSet_new hg]
set_option maxRecDepth 10000 in set_option maxHeartbeats 4000000 in
theorem AccountSigns_calls (nl : List Nat) (hn : nl.length = 3) (hnb : ∀ x ∈ nl, x < 256) (l : List Nat) (hlb : ∀ x ∈ l, x < 256) (vl0 : Value) (w : World) (hs : SrcW w 1 vl0 l.length (u8s l)) (hK : Laid w) :
    Gives Tryd.prog 4 [.agg (u8s nl).toArray, vl0] (.bool true) w := by
  refine enter Tryd.func4 rfl (Mem.nil w []) rfl ?_
  obtain ⟨la, lc, rfl, hlc⟩ := hs.shape
  obtain ⟨n0, n1, n2, rfl⟩ : ∃ a b c, nl = [a, b, c] := by
    match nl, hn with
    | [a, b, c], _ => exact ⟨a, b, c, rfl⟩
  have hn0 := hnb n0 List.mem_cons_self
  refine z_ ?_
  refine Run.nw nbx ?_
  intro b2
  refine z_ ?_
  refine Run.op1 (OpTo.cv Tryd.func6 (fun w' hm => ac_awake_calls w' (hK.fr hm.fr (by simp)))) (fun _ => ?_)
  by_cases h10 : 10 < l.length
  · refine z_ ?_
    exact RQ.ret1 rfl (Res.tmp rfl) fun w' hm => ⟨rfl, hm.fr⟩
  obtain ⟨side, hside⟩ : ∃ side : Nat, side = n0 % 8 := ⟨_, rfl⟩
  have hsd8 : side < 8 := by rw [hside]; exact Nat.mod_lt _ (by decide)
  refine z_ ?_
  refine Run.a (via 0 0) ?_
  refine Run.a (vl (.int .u8 n0) (arr := (u8s [n0, n1, n2]).toArray) (hm := List.mem_cons_self)) ?_
  refine Run.a (vci) ?_
  refine Run.a (Val.eq Val.rmn (show _ = Value.int .i64 (side : Int) from by rw [hside])) ?_
  refine z_ ?_
  have hz0 : ([(b2, Obj.cells (u8s [n0, n1, n2]).toArray 61 (0, 0))] : Hp).Perm ([] ++ [(b2, Obj.cells (u8s [n0, n1, n2]).toArray 61 (0, 0))]) := List.Perm.refl _
  refine Run.op1 (OpTo.callT Tryd.func7 hz0 (fun w' hm => ANew_calls side w')) ?_
  rintro ⟨⟨ab, y0⟩, hy0⟩
  dsimp only at hy0 ⊢
  refine z_ ?_
  refine Run.a (vbs #[.int .i64 side, .slice none 0 0, .slice none 0 0, .slice none 0 0]) ?_
  refine Run.nw nbx ?_
  intro rb
  have htr := ref_Tree_calls (sedV 1) (sedV_8 1).1 (sedV_8 1).2
  rw [o1T_eq] at htr
  refine z_ ?_
  refine Run.op1 (OpTo.cv Tryd.func9 (fun w' _ => aSeed_calls 1 w')) (fun _ => ?_)
  refine Run.op1 (OpTo.cv Tryd.func8 (fun w' _ => htr w')) (fun _ => ?_)
  refine Run.a (vbs (fwC side 5 o1T 5000).toArray) ?_
  refine Run.nw nal ?_
  intro b3
  refine Run.op1 (osa (L' := (rb, Obj.cells (rlNil rb side).row 31 (0, 0)) :: (y0.L ++ [(b2, Obj.cells (u8s [n0, n1, n2]).toArray 61 (0, 0))])) (fwC side 5 o1T 5000).toArray (fw_one side 5 5000 o1T) (hf := by kernel_rfl)) (fun _ => ?_)
  have hp1 : ((b3, Obj.cells (fwC side 5 o1T 5000).toArray 35 (0, 0)) :: (rb, Obj.cells (rlNil rb side).row 31 (0, 0)) :: (y0.L ++ [(b2, Obj.cells (u8s [n0, n1, n2]).toArray 61 (0, 0))]) : Hp).Perm (y0.L ++ ((b3, Obj.cells (fwC side 5 o1T 5000).toArray 35 (0, 0)) :: (rb, Obj.cells (rlNil rb side).row 31 (0, 0)) :: [(b2, Obj.cells (u8s [n0, n1, n2]).toArray 61 (0, 0))])) := (perm_of fun f => by (simp only [List.map_append, List.map_cons, List.map_nil, List.sum_append, List.sum_cons, List.sum_nil] <;> omega))
  have hc1 : crOk y0.s side 5 o1T 5000 := by rw [hy0]; exact ⟨rfl, by omega, by unfold maxM; omega, o1T_ne, trivial⟩
  have hs1 : crS y0.s side 5 o1T o1T_8 5000 = ⟨side, [(5, ⟨o1T, 5000, 0, o1T_8⟩)], []⟩ := by rw [crS_none hc1 (by rw [hy0]; rfl), hy0]; rfl
  refine z_ ?_
  refine Run.op1 (OpTo.callT Tryd.func11 hp1 (fun w' hm => ACredit_calls y0 side 5 o1T o1T_8 5000 w' (hm.part hp1).1 (hm.part hp1).2 (hK.fr hm.fr (by simp)) (fresh_idsS hK (by simp) (hm.perm hp1) (fun p hp => List.mem_append_left _ hp)))) ?_
  rintro ⟨y1, hy1⟩
  rw [hs1] at hy1
  rw [decide_eq_true hc1]
  dsimp only at hy1 ⊢
  have hp2 : (y1.L ++ ((b3, Obj.cells (fwC side 5 o1T 5000).toArray 35 (0, 0)) :: (rb, Obj.cells (rlNil rb side).row 31 (0, 0)) :: [(b2, Obj.cells (u8s [n0, n1, n2]).toArray 61 (0, 0))]) : Hp).Perm ((rlNil rb side).L ++ ((b3, Obj.cells (fwC side 5 o1T 5000).toArray 35 (0, 0)) :: (y1.L ++ [(b2, Obj.cells (u8s [n0, n1, n2]).toArray 61 (0, 0))]))) := by
    rw [show (rlNil rb side).L = [(rb, Obj.cells (rlNil rb side).row 31 (0, 0))] from rfl]; exact (perm_of fun f => by (simp only [List.map_append, List.map_cons, List.map_nil, List.sum_append, List.sum_cons, List.sum_nil] <;> omega))
  have hc2 : crOk (rlNil rb side).s side 5 o1T 5000 := ⟨rfl, by omega, by unfold maxM; omega, o1T_ne, trivial⟩
  have hs2 : crS (rlNil rb side).s side 5 o1T o1T_8 5000 = ⟨side, [(5, ⟨o1T, 5000, 0, o1T_8⟩)], []⟩ := crS_none hc2 rfl
  refine z_ ?_
  refine Run.op1 (OpTo.callT Tryd.func10 hp2 (fun w' hm => RCredit_calls (rlNil rb side) side 5 o1T o1T_8 5000 w' (hm.part hp2).1 (hm.part hp2).2)) ?_
  rintro ⟨z1, hz1⟩
  rw [hs2] at hz1
  rw [decide_eq_true hc2]
  dsimp only at hz1 ⊢
  have he1 : y1.s = z1.s := by rw [hy1, hz1]
  refine z_ ?_
  have hp3 : (z1.L ++ ((b3, Obj.cells (fwC side 5 o1T 5000).toArray 35 (0, 0)) :: (y1.L ++ [(b2, Obj.cells (u8s [n0, n1, n2]).toArray 61 (0, 0))])) : Hp).Perm ((y1.L ++ z1.L) ++ [(b3, Obj.cells (fwC side 5 o1T 5000).toArray 35 (0, 0)), (b2, Obj.cells (u8s [n0, n1, n2]).toArray 61 (0, 0))]) := (perm_of fun f => by (simp only [List.map_append, List.map_cons, List.map_nil, List.sum_append, List.sum_cons, List.sum_nil] <;> omega))
  refine RC.perm hp3 ?_
  obtain ⟨b0, hb0⟩ : ∃ b : Bk ab rb, b = ⟨y1, z1, he1⟩ := ⟨_, rfl⟩
  have hL0 : y1.L ++ z1.L = b0.L := by rw [hb0]; rfl
  have hI0 : SgI (side : Int) 0 (b0, (5000 : Int)) := by
    rw [hb0]
    refine ⟨?_, ?_, ?_, ?_, ?_, ?_⟩ <;> dsimp only
    · rw [hy1]
    · rw [hy1]; exact ⟨_, rfl, rfl, rfl, rfl⟩
    · rw [hy1]; rfl
    · rw [hy1]; rfl
    · decide
    · decide
  rw [hL0]
  refine RC.up l.length (D := Bk ab rb × Int) (fun i x => SgI (side : Int) i x) (fun i x => [(10, .int .i64 i), (9, .int .i64 x.2), (7, .pointer (some ⟨rb, 0, none⟩)), (6, .pointer (some ⟨ab, 0, none⟩)), (5, .int .i64 side), (1, .slice la l.length lc)]) (fun _ x => x.1.L) 0 (b0, 5000) (Nat.zero_le _) hI0 ⟨rfl, rfl, rfl, rfl, rfl, rfl, trivial⟩ (List.sublist_append_left _ _) ?_
  clear hI0 hL0 hb0 b0 hp3
  rintro i ⟨⟨y, z, he⟩, left⟩ hi ⟨isd, ⟨f, ifa, ifo, ifm, ifn⟩, iout, ilv, ilo, ihi⟩
  dsimp only at isd ifa ifo ifm ifn iout ilv ilo ihi ⊢
  refine z_ ?_
  (repeat refine RC.seq ?_); refine RC.wh rfl (fun h => RQ.next ?_) (fun h => ?_)
  · have hi' : i < l.length := by have := of_decide_eq_true h; omega
    clear h
    obtain ⟨m, hx⟩ : ∃ m, l[i]? = some m := ⟨_, List.getElem?_eq_getElem hi'⟩
    obtain ⟨ad, c', hv', hc', hcl, hr⟩ := hs.pos (by omega)
    cases hv'
    have hm256 := hlb m (List.mem_of_getElem? hx)
    have hcm := hr i (.int .u8 m) (by rw [u8s_at l i hi', List.getD_eq_getElem?_getD, hx]; rfl)
    obtain ⟨x, hxe⟩ : ∃ x, x = dyL 1 5 X3 X3_8 (1 + (m : Int)) := ⟨_, rfl⟩
    have hxc : x.c = dyC 0 (fwC 0 0 Z8 0) 1 (sxC 2 5 0 X3 (1 + (m : Int)) 0 (zer 128) (zer 128) (zer 24)) 0 := by rw [hxe]; rfl
    have hg : acGet x.t.fr y.s.acs = some f := by rw [ifa, hxe]; exact (acGet_cons 5 (5, f) []).trans (if_pos rfl)
    have hmay : maySx (x.t.bare f.no) := by
      rw [hxe, ifn]
      refine ⟨?_, .inr ⟨rfl, rfl, by show X3 ≠ Z8; decide⟩⟩
      unfold fitsX
      dsimp only [dyL, SxD.bare]
      unfold maxM
      omega
    have e0 := erX_made (s := y.s) (x := x) hg (by rw [ifo, hxe]; exact o1T_eq.symm) (by rw [hxe]; exact (by decide : (0 : Nat) ≠ 1)) (by rw [hxe]; exact (by decide : (0 : Nat) ≠ 2)) (by rw [isd]; omega)
    have d0 := fun h => doX_made (s := y.s) (x := x) hg h
    rw [isd] at e0 d0
    rw [if_neg (show ¬ ¬ maySx (x.t.bare f.no) from fun h => h hmay), if_neg (show ¬ (x.t.kd = 1 ∧ (acGet x.t.tt y.s.acs).isNone) from fun h => by rw [hxe] at h; exact absurd h.1 (by decide : ¬ ((2 : Int) = 1)))] at e0
    have hkd : x.t.kd ≠ 1 := by rw [hxe]; exact (by decide : (2 : Int) ≠ 1)
    have ham : x.t.am = 1 + (m : Int) := by rw [hxe]; rfl
    have hfr5 : x.t.fr = 5 := by rw [hxe]; rfl
    have cmk := fun w' hw' => aMake_calls z side x w' hw'
    rw [← he] at cmk
    have hmt : maySx (mkT y.s side x) := by
      have hz : mkZ y.s x = f.no := by unfold mkZ; rw [hg, if_neg (by rw [hxe]; exact (by decide : ¬ ((0 : Nat) = 2)))]; show f.no + 0 = _; omega
      unfold mkT
      rw [hz]
      exact (may_signed _ _ _ _).2 hmay
    have hfz : (mkT y.s side x).fr = 5 ∧ (mkT y.s side x).kd ≠ 1 ∧ (mkT y.s side x).z = f.no := by
      have hz : mkZ y.s x = f.no := by unfold mkZ; rw [hg, if_neg (by rw [hxe]; exact (by decide : ¬ ((0 : Nat) = 2)))]; show f.no + 0 = _; omega
      unfold mkT
      obtain ⟨e1, e2, _, _, _, e6⟩ := signed_f x.t (mkZ y.s x) (sedV x.who) (mkM side x (mkZ y.s x))
      rw [e1, e2, e6]
      exact ⟨hfr5, hkd, hz⟩
    generalize mkT y.s side x = tx at cmk e0 d0 hmt hfz
    have ltx : tx.c.toArray.size = 293 := tx.len
    have otx := tx.one
    have cA := fun w' h1 h2 h3 h4 => ADo_calls y tx w' h1 h2 h3 h4
    have cR := fun w' h1 h2 => RDo_calls z tx w' h1 h2
    rw [← he] at cR
    refine z_ ?_
    refine Run.a (vba (u8s X3).toArray) ?_
    refine z_ ?_
    refine Run.a (vix i hi' (ad.add i) (ha := by show ad.add (i * 1) = _; rw [Nat.mul_one])) ?_
    refine Run.a (vlo hcm) ?_
    refine z_ ?_
    refine Run.a (vbs (sxC 2 5 0 X3 (1 + (m : Int)) 0 (zer 128) (zer 128) (zer 24)).toArray) ?_
    refine Run.a (vbs (dyC 0 (fwC 0 0 Z8 0) 1 (sxC 2 5 0 X3 (1 + (m : Int)) 0 (zer 128) (zer 128) (zer 24)) 0).toArray) ?_
    rw [← hxc]
    refine Run.nw nal ?_
    intro b11
    refine Run.op1 (osa (L' := (y.L ++ z.L)) x.c.toArray x.one (hs := x.len) (hf := by kernel_rfl)) (fun _ => ?_)
    refine z_ ?_
    refine Run.a (vla (arr := x.c.toArray) (hm := (by repeat (first | exact List.mem_cons_self | apply List.mem_cons_of_mem | apply List.mem_append_right))) (hv := x.len)) ?_
    refine z_ ?_
    refine Run.op1 (OpTo.cv Tryd.func12 (fun w' hm => cmk w' (fun q hq => hm.has q (List.mem_cons_of_mem _ (List.mem_append_right _ hq))))) (fun _ => ?_)
    refine Run.nw nal ?_
    intro b12
    refine Run.op1 (osa (L' := (b11, Obj.cells x.c.toArray 43 (0, 0)) :: (y.L ++ z.L)) tx.c.toArray otx (hs := by exact ltx) (hf := by kernel_rfl)) (fun _ => ?_)
    refine z_ ?_
    refine Run.a (vla (arr := tx.c.toArray) (hm := (by repeat (first | exact List.mem_cons_self | apply List.mem_cons_of_mem | apply List.mem_append_right))) (hv := by exact ltx)) ?_
    have hpA : ((b12, Obj.cells tx.c.toArray 41 (0, 0)) :: (b11, Obj.cells x.c.toArray 43 (0, 0)) :: (y.L ++ z.L) : Hp).Perm (y.L ++ ((b12, Obj.cells tx.c.toArray 41 (0, 0)) :: (b11, Obj.cells x.c.toArray 43 (0, 0)) :: z.L)) := (perm_of fun f => by (simp only [List.map_append, List.map_cons, List.map_nil, List.sum_append, List.sum_cons, List.sum_nil] <;> omega))
    refine Run.op1 (OpTo.callT Tryd.func14 hpA (fun w' hm => cA w' (hm.part hpA).1 (hm.part hpA).2 (hK.fr hm.fr (by simp)) (fresh_idsS hK (by simp) (hm.perm hpA) (fun p hp => List.mem_append_left _ hp)))) ?_
    rintro ⟨y', hy'⟩
    dsimp only
    have hpB : (y'.L ++ ((b12, Obj.cells tx.c.toArray 41 (0, 0)) :: (b11, Obj.cells x.c.toArray 43 (0, 0)) :: z.L) : Hp).Perm (z.L ++ ((b12, Obj.cells tx.c.toArray 41 (0, 0)) :: (b11, Obj.cells x.c.toArray 43 (0, 0)) :: y'.L)) := (perm_of fun f => by (simp only [List.map_append, List.map_cons, List.map_nil, List.sum_append, List.sum_cons, List.sum_nil] <;> omega))
    by_cases h8 : 8 ≤ i
    · have hm8 : min i 8 = 8 := Nat.min_eq_right h8
      rw [hm8] at ifn iout ilo
      have e7 : erX y.s tx = 7 := by rw [e0, if_pos (show ¬ (0 ≤ f.no ∧ f.no < 8) by omega)]
      have d7 : doX y.s tx = y.s := if_pos (by rw [e7]; decide)
      rw [d7] at hy'
      rw [e7, d7] at cR
      rw [e7]
      refine z_ ?_
      refine Run.a (vla (arr := tx.c.toArray) (hm := (by repeat (first | exact List.mem_cons_self | apply List.mem_cons_of_mem | apply List.mem_append_right))) (hv := by exact ltx)) ?_
      refine Run.op1 (OpTo.callT Tryd.func13 hpB (fun w' hm => cR w' (hm.part hpB).1 (hm.part hpB).2)) ?_
      rintro ⟨z', hz'⟩
      dsimp only
      refine z_ ?_
      refine RQ.upS (i + 1) (⟨y', z', by rw [hy', hz']⟩, left) (Nat.lt_succ_self _) hi' ⟨by dsimp only; rw [hy']; exact isd, ⟨f, by dsimp only; rw [hy']; exact ifa, ifo, ifm, by rw [Nat.min_eq_right (by omega)]; exact ifn⟩, by dsimp only; rw [hy', Nat.min_eq_right (by omega)]; exact iout, by dsimp only; rw [hy']; exact ilv, by dsimp only; rw [Nat.min_eq_right (by omega)]; exact ilo, ihi⟩ ⟨rfl, rfl, rfl, rfl, rfl, rfl, trivial⟩ (L1 := (y'.L ++ z'.L) ++ [(b12, Obj.cells tx.c.toArray 41 (0, 0)), (b11, Obj.cells x.c.toArray 43 (0, 0))]) (perm_of fun f => by (simp only [List.map_append, List.map_cons, List.map_nil, List.sum_append, List.sum_cons, List.sum_nil] <;> omega)) (List.sublist_append_left _ _)
    have hm8 : min i 8 = i := Nat.min_eq_left (by omega)
    rw [hm8] at ifn iout ilo
    have e9 : erX y.s tx = 0 := by
      rw [e0, if_neg (show ¬ ¬ (0 ≤ f.no ∧ f.no < 8) by omega), if_neg (show ¬ (x.t.am > f.am ∨ x.t.kd = 1 ∧ toAm y.s x.t + x.t.am > maxM) from fun h => by
        rcases h with h | h
        · rw [ham] at h; omega
        · exact hkd h.1), if_neg (show ¬ (x.t.kd ≠ 1 ∧ y.s.out.length ≥ 16) by omega)]
    have d9 := d0 e9
    rw [if_neg hkd, hfr5, ifa, ham] at d9
    obtain ⟨f', hf'⟩ : ∃ f' : AcD, f' = { f with am := f.am - (1 + (m : Int)), no := f.no + 1 } := ⟨_, rfl⟩
    rw [← hf', show acSet 5 f' [(5, f)] = [(5, f')] from by unfold acSet; rw [if_pos rfl]] at d9
    rw [d9] at hy'
    rw [e9, d9] at cR
    rw [e9]
    have hg' : acGet 5 y'.s.acs = some f' := by rw [hy']; exact (acGet_cons 5 (5, f') []).trans (if_pos rfl)
    have hfn' : f'.no = (i : Int) + 1 := by rw [hf', ← ifn]
    have hfm' : f'.am = left - (1 + (m : Int)) := by rw [hf', ← ifm]
    have e13 : erX y'.s tx = 13 := by
      rw [erX_at hmt (by rw [hfz.1]; exact hg') (fun h => hfz.2.1 h.1), if_pos (by rw [hfz.2.2, hfn', ifn]; omega)]
    have d13 : doX y'.s tx = y'.s := if_pos (by rw [e13]; decide)
    have hlv' : leavX y'.s = 5000 - (left - (1 + (m : Int))) := by
      rw [hy', leav_app]
      have h5 := ilv
      unfold leavX at h5
      dsimp only
      omega
    have cA2 := fun w' h1 h2 h3 h4 => ADo_calls y' tx w' h1 h2 h3 h4
    rw [e13, d13] at cA2
    refine z_ ?_
    refine Run.a (vla (arr := tx.c.toArray) (hm := (by repeat (first | exact List.mem_cons_self | apply List.mem_cons_of_mem | apply List.mem_append_right))) (hv := by exact ltx)) ?_
    refine Run.op1 (OpTo.callT Tryd.func13 hpB (fun w' hm => cR w' (hm.part hpB).1 (hm.part hpB).2)) ?_
    rintro ⟨z', hz'⟩
    dsimp only
    have hpC : (z'.L ++ ((b12, Obj.cells tx.c.toArray 41 (0, 0)) :: (b11, Obj.cells x.c.toArray 43 (0, 0)) :: y'.L) : Hp).Perm (y'.L ++ ((b12, Obj.cells tx.c.toArray 41 (0, 0)) :: (b11, Obj.cells x.c.toArray 43 (0, 0)) :: z'.L)) := (perm_of fun f => by (simp only [List.map_append, List.map_cons, List.map_nil, List.sum_append, List.sum_cons, List.sum_nil] <;> omega))
    refine z_ ?_
    refine Run.a (vla (arr := tx.c.toArray) (hm := (by repeat (first | exact List.mem_cons_self | apply List.mem_cons_of_mem | apply List.mem_append_right))) (hv := by exact ltx)) ?_
    refine Run.op1 (OpTo.callT Tryd.func14 hpC (fun w' hm => cA2 w' (hm.part hpC).1 (hm.part hpC).2 (hK.fr hm.fr (by simp)) (fresh_idsS hK (by simp) (hm.perm hpC) (fun p hp => List.mem_append_left _ hp)))) ?_
    rintro ⟨y2, hy2⟩
    dsimp only
    rw [← hy2] at hg' hlv'
    have cG := fun w' hw' => AGet_calls y2 5 w' hw'
    have cL := fun w' hw' => ALeaving_calls y2 w' hw'
    rw [hg'] at cG
    rw [hlv', wrap_in (show inK .i64 (5000 - (left - (1 + (m : Int)))) from by dsimp only [inK]; omega)] at cL
    change ∀ w', _ → Gives _ _ _ (.tuple #[.agg (acC f'.o f'.am f'.no).toArray, .bool true]) w' at cG
    obtain ⟨r8, r9⟩ := ac_rd f'.h8.1 f'.am f'.no
    have sA : (acC f'.o f'.am f'.no).toArray.size = 10 := acCells_len (some f')
    have oA : ∀ u ∈ (acC f'.o f'.am f'.no).toArray.toList, u.oneCell' = true := acCells_one (some f')
    generalize acC f'.o f'.am f'.no = AC at sA oA r8 r9 cG
    refine z_ ?_
    refine Run.a (vix i hi' (ad.add i) (ha := by show ad.add (i * 1) = _; rw [Nat.mul_one])) ?_
    refine Run.a (vlo hcm) ?_
    refine z_ ?_
    refine Run.op1 (OpTo.cv Tryd.func19 (fun w' hm => cG w' (fun q hq => hm.has q (List.mem_append_left _ hq)))) (fun _ => ?_)
    refine z_ ?_
    refine Run.nw nal ?_
    intro b14
    refine Run.op1 (osa AC.toArray oA (hs := sA) (hf := by kernel_rfl)) (fun _ => ?_)
    refine z_ ?_
    refine Run.a (vl (.int .i64 f'.am) (arr := AC.toArray) (hm := (by repeat (first | exact List.mem_cons_self | apply List.mem_cons_of_mem | apply List.mem_append_right))) (hv := by exact r8)) ?_
    refine z_ ?_
    refine Run.a (vl (.int .i64 f'.no) (arr := AC.toArray) (hm := (by repeat (first | exact List.mem_cons_self | apply List.mem_cons_of_mem | apply List.mem_append_right))) (hv := by exact r9)) ?_
    refine z_ ?_
    refine Run.op1 (OpTo.cv Tryd.func18 (fun w' hm => cL w' (fun q hq => hm.has q (List.mem_cons_of_mem _ (List.mem_append_left _ hq))))) (fun _ => ?_)
    refine z_ ?_
    refine RQ.upS (i + 1) (⟨y2, z', by rw [hy2, hy', hz']⟩, left - 1 - (m : Int)) (Nat.lt_succ_self _) hi' ⟨by dsimp only; rw [hy2, hy'], ⟨f', by dsimp only; rw [hy2, hy'], by rw [hf']; exact ifo, by dsimp only; rw [hfm']; omega, by rw [Nat.min_eq_left (by omega), hfn']; omega⟩, by dsimp only; rw [hy2, hy', Nat.min_eq_left (by omega)]; dsimp only; rw [List.length_append, iout]; rfl, by dsimp only; rw [hlv']; omega, by dsimp only; rw [Nat.min_eq_left (by omega)]; omega, by dsimp only; omega⟩ ⟨rfl, rfl, rfl, rfl, rfl, rfl, trivial⟩ (L1 := (y2.L ++ z'.L) ++ [(b14, Obj.cells AC.toArray 57 (0, 0)), (b12, Obj.cells tx.c.toArray 41 (0, 0)), (b11, Obj.cells x.c.toArray 43 (0, 0))]) (perm_of fun f => by (simp only [List.map_append, List.map_cons, List.map_nil, List.sum_append, List.sum_cons, List.sum_nil] <;> omega)) (List.sublist_append_left _ _)
  · have ct := fun w' hw' => ATotal_calls y w' hw'
    rw [show totX y.s = left from by unfold totX; rw [ifa]; show f.am + 0 = _; omega, wrap_in (show inK .i64 left from by dsimp only [inK]; omega)] at ct
    (repeat refine RQ.thenExit ?_); refine RQ.blockHere ?_
    refine z_ ?_
    refine Run.op1 (OpTo.cv Tryd.func17 (fun w' hm => ct w' (fun q hq => hm.has q (List.mem_append_left _ hq)))) (fun _ => ?_)
    refine z_ ?_
    exact RQ.ret1 rfl (Res.tmp rfl) fun w' hm => ⟨rfl, hm.fr⟩
end Go.Proofs.YtfhdfpejjgmdcaaDoor

/- account: AccountMoves. -/
namespace Go.Proofs.YtfhdfpejjgmdcaaDoor
attribute [local irreducible] Go.Vc.Run Go.Vc.RC Go.Vc.RQ Go.Vc.DR Go.Vc.DOp
open Go Go.Vc Go.Sha
/-- The owners. -/
def owT (k : Nat) : List Nat := match k with
  | 0 => [89, 243, 141, 14, 110, 122, 193, 48]
  | 1 => o1T
  | _ => [215, 145, 207, 158, 171, 213, 178, 251]
theorem owT_8 (k : Nat) : H8 (owT k) := by
  match k with
  | 0 => exact ⟨rfl, by decide⟩
  | 1 => exact o1T_8
  | k + 2 => exact ⟨rfl, (by decide : ∀ x ∈ owT 2, x < 256)⟩
theorem owT_ne (k : Nat) : owT k ≠ Z8 := by
  match k with
  | 0 => decide
  | 1 => exact o1T_ne
  | k + 2 => exact (by decide : owT 2 ≠ Z8)
theorem owT_eq {k : Nat} (h : k < 3) : treeOf (sedV k) = owT k := by
  match k, h with
  | 0, _ => exact owner0
  | 1, _ => exact o1T_eq
  | 2, _ => exact owner2
def owA (k : Nat) (am no : Int) : AcD := ⟨owT k, am, no, owT_8 k⟩
def mv0 (i : Nat) : LS := ⟨3, (List.range i).map fun k : Nat => ((k : Int), owA k 60 0), []⟩
def mvS (H N : List Int) : LS := ⟨3, [(0, owA 0 (H.getD 0 0) (N.getD 0 0)), (1, owA 1 (H.getD 1 0) (N.getD 1 0)), (2, owA 2 (H.getD 2 0) (N.getD 2 0))], []⟩
theorem mv0_cr {i : Nat} (h : i < 3) : crOk (mv0 i) 3 i (owT i) 60 ∧ crS (mv0 i) 3 i (owT i) (owT_8 i) 60 = mv0 (i + 1) := by
  have hc : crOk (mv0 i) 3 i (owT i) 60 ∧ acGet i (mv0 i).acs = none := by
    match i, h with
    | 0, _ => exact ⟨⟨rfl, by omega, by unfold maxM; omega, owT_ne 0, trivial⟩, rfl⟩
    | 1, _ => exact ⟨⟨rfl, by omega, by unfold maxM; omega, owT_ne 1, trivial⟩, rfl⟩
    | 2, _ => exact ⟨⟨rfl, by omega, by unfold maxM; omega, owT_ne 2, trivial⟩, rfl⟩
  refine ⟨hc.1, ?_⟩
  rw [crS_none hc.1 hc.2]
  unfold mv0
  rw [List.range_succ, List.map_append]
  rfl
theorem mv_get (H N : List Int) {k : Nat} (h : k < 3) : acGet (k : Int) (mvS H N).acs = some (owA k (H.getD k 0) (N.getD k 0)) := by
  match k, h with
  | 0, _ => rfl
  | 1, _ => rfl
  | 2, _ => rfl
theorem len3 {α : Type} {l : List α} (h : l.length = 3) : ∃ a b c, l = [a, b, c] := by
  match l, h with
  | [a, b, c], _ => exact ⟨a, b, c, rfl⟩
theorem mv_set {H N : List Int} (h1 : H.length = 3) (h2 : N.length = 3) {p q : Nat} (hp : p < 3) (hq : q < 3) (hpq : p ≠ q) (u v m : Int) :
    (⟨3, acSet (q : Int) (owA q v (N.getD q 0)) (acSet (p : Int) (owA p u m) (mvS H N).acs), []⟩ : LS) = mvS ((H.set p u).set q v) (N.set p m) := by
  obtain ⟨a0, a1, a2, rfl⟩ := len3 h1
  obtain ⟨c0, c1, c2, rfl⟩ := len3 h2
  match p, hp, q, hq with
  | 0, _, 0, _ => exact absurd rfl hpq
  | 0, _, 1, _ => rfl
  | 0, _, 2, _ => rfl
  | 1, _, 0, _ => rfl
  | 1, _, 1, _ => exact absurd rfl hpq
  | 1, _, 2, _ => rfl
  | 2, _, 0, _ => rfl
  | 2, _, 1, _ => rfl
  | 2, _, 2, _ => exact absurd rfl hpq
structure MvI {ab rb : Nat} (x : Bk ab rb × List Int × List Int) : Prop where
  s : x.1.y.s = mvS x.2.1 x.2.2
  hl : x.2.1.length = 3
  nl : x.2.2.length = 3
  sum : x.2.1.getD 0 0 + x.2.1.getD 1 0 + x.2.1.getD 2 0 = 180
  nn : ∀ k, k < 3 → 0 ≤ x.2.1.getD k 0
  no : ∀ k, k < 3 → 0 ≤ x.2.2.getD k 0 ∧ x.2.2.getD k 0 ≤ 8
theorem sum3 {H : List Int} (h : H.length = 3) {p q : Nat} (hp : p < 3) (hq : q < 3) (hpq : p ≠ q) (n : Int) : ((H.set p (H.getD p 0 - n)).set q (H.getD q 0 + n)).getD 0 0 + ((H.set p (H.getD p 0 - n)).set q (H.getD q 0 + n)).getD 1 0 + ((H.set p (H.getD p 0 - n)).set q (H.getD q 0 + n)).getD 2 0 = H.getD 0 0 + H.getD 1 0 + H.getD 2 0 := by
  obtain ⟨a0, a1, a2, rfl⟩ := len3 h
  match p, hp, q, hq with
  | 0, _, 0, _ => exact absurd rfl hpq
  | 0, _, 1, _ => show a0 - n + (a1 + n) + a2 = a0 + a1 + a2; omega
  | 0, _, 2, _ => show a0 - n + a1 + (a2 + n) = a0 + a1 + a2; omega
  | 1, _, 0, _ => show a0 + n + (a1 - n) + a2 = a0 + a1 + a2; omega
  | 1, _, 1, _ => exact absurd rfl hpq
  | 1, _, 2, _ => show a0 + (a1 - n) + (a2 + n) = a0 + a1 + a2; omega
  | 2, _, 0, _ => show a0 + n + a1 + (a2 - n) = a0 + a1 + a2; omega
  | 2, _, 1, _ => show a0 + (a1 + n) + (a2 - n) = a0 + a1 + a2; omega
  | 2, _, 2, _ => exact absurd rfl hpq
theorem sum_le3 {H : List Int} (h : H.getD 0 0 + H.getD 1 0 + H.getD 2 0 = 180) (hn : ∀ k, k < 3 → 0 ≤ H.getD k 0) {k : Nat} (hk : k < 3) : H.getD k 0 ≤ 180 := by
  have a0 := hn 0 (by decide)
  have a1 := hn 1 (by decide)
  have a2 := hn 2 (by decide)
  match k, hk with
  | 0, _ => omega
  | 1, _ => omega
  | 2, _ => omega
theorem getD_set3 {H : List Int} {p : Nat} {u : Int} (k : Nat) (hp : p < H.length) : (H.set p u).getD k 0 = if p = k then u else H.getD k 0 := by
  rw [List.getD_eq_getElem?_getD, List.getD_eq_getElem?_getD, List.getElem?_set]
  split <;> first | rfl | (rw [if_pos hp]; rfl)
theorem at3 {H : List Int} {k : Nat} (hk : k < H.length) : (i64L H).toArray[k]? = some (.int .i64 (H.getD k 0)) := i64L_at (by rw [List.getD_eq_getElem?_getD, List.getElem?_eq_getElem hk]; rfl)
theorem _root_.Go.Vc.Val.idxAg {P : Program} {n : Nat} {w0 : World} {S0 : List Nat} {E : Env} {L : Hp} {o : Oper} {T : List (Nat × TI)} {t : Nat} {ti : TI} (hT : TabOk P T) {x y : Operand} {ad : Addr} {len el : Nat} {k : IntKind} {z : Int} {ei : TI} (ho : o.op = .indexAddr t x y) (ht : tiGet T t = some ti) (hd : ti.desc = .array len el) (he : tiGet T el = some ei)
    (hx : lk E x = some (.pointer (some ad))) (hy : lk E y = some (.int k z)) (h0 : 0 ≤ z) (h1 : z < len) : Val P n w0 S0 E L o (.pointer (some (ad.add (z.toNat * ei.size)))) := by
  intro a w hs _
  have h2 := (hT _ _ ht).1
  rw [hd] at h2
  simp [execOp, ho, hs.eval hx, hs.eval hy, Instr.indexAt, asIntOf, run_underlying h2, Instr.sureAddr, h0, h1, (hT _ _ he).size]
theorem vxa {n : Nat} {w0 : World} {S0 : List Nat} {E : Env} {L : Hp} {o : Oper} {t : Nat} {ti : TI} {x y : Operand} {ad : Addr} {len el : Nat} {k : IntKind} {ei : TI} (j : Nat) (ho : o.op = .indexAddr t x y := by exact rfl) (ht : tiGet tab t = some ti := by exact rfl) (hd : ti.desc = .array len el := by exact rfl) (he : tiGet tab el = some ei := by exact rfl) (hx : lk E x = some (.pointer (some ad)) := by exact rfl) (hy : lk E y = some (.int k j) := by exact rfl) (hz : ei.size = 1 := by exact rfl) (hj : j < len := by decide) :
    Val Tryd.prog n w0 S0 E L o (.pointer (some (ad.add j))) := by
  have := Val.idxAg (P := Tryd.prog) (n := n) (w0 := w0) (S0 := S0) (L := L) tabOk ho ht hd he hx hy (Int.natCast_nonneg j) (by omega)
  rwa [hz, Nat.mul_one, Int.toNat_natCast] at this
theorem has_set {i : Nat} (h : i < 3) : (List.replicate i (60 : Int) ++ List.replicate (3 - i) 0).set i 60 = List.replicate (i + 1) 60 ++ List.replicate (3 - (i + 1)) 0 := by
  match i, h with
  | 0, _ => rfl
  | 1, _ => rfl
  | 2, _ => rfl
/-- Three small numbers. -/
structure T3D where
  l : List Nat
  h3 : l.length = 3
  hb : ∀ x ∈ l, x < 256
def T3D.c (x : T3D) : List Value := u8s x.l
theorem T3D.len (x : T3D) : x.c.length = 3 := by unfold T3D.c; rw [u8s_len, x.h3]
def dyM (p q : Nat) (n : Int) : DyD := ⟨0, 0, 0, Z8, 0, p, SxD.bare ⟨1, p, q, Z8, n, 0, zer 128, zer 128, zer 24, H8.z, zer_ok 128, zer_ok 128, zer_ok 24⟩ 0, 0, H8.z, by decide⟩
/-- What comes of a move. -/
theorem mv_do {H N : List Int} (hl : H.length = 3) (nl : N.length = 3) (hsum : H.getD 0 0 + H.getD 1 0 + H.getD 2 0 = 180) (hn : ∀ k, k < 3 → 0 ≤ H.getD k 0) (hno : ∀ k, k < 3 → 0 ≤ N.getD k 0 ∧ N.getD k 0 ≤ 8) {p q : Nat} (hp : p < 3) (hq : q < 3) {n : Int} (hn1 : 1 ≤ n ∧ n ≤ 100) :
    (erX (mvS H N) (mkT (mvS H N) 3 (dyM p q n)) = 0 ↔ p ≠ q ∧ N.getD p 0 < 8 ∧ n ≤ H.getD p 0) ∧ (p = q → erX (mvS H N) (mkT (mvS H N) 3 (dyM p q n)) = 4) ∧
    (erX (mvS H N) (mkT (mvS H N) 3 (dyM p q n)) = 0 → doX (mvS H N) (mkT (mvS H N) 3 (dyM p q n)) = mvS ((H.set p (H.getD p 0 - n)).set q (H.getD q 0 + n)) (N.set p (N.getD p 0 + 1))) := by
  have hg := mv_get H N hp
  have hq2 := mv_get H N hq
  have hnp := hno p hp
  have hle := sum_le3 hsum hn hq
  have e0 := erX_made (s := mvS H N) (x := dyM p q n) hg (owT_eq hp).symm (by decide : (0 : Nat) ≠ 1) (by decide : (0 : Nat) ≠ 2) (by decide : (0 : Int) ≤ 3 ∧ (3 : Int) < 8)
  have hmay : maySx ((dyM p q n).t.bare (owA p (H.getD p 0) (N.getD p 0)).no) ↔ p ≠ q := by
    unfold maySx fitsX kindX
    dsimp only [dyM, SxD.bare, owA]
    unfold maxM
    constructor
    · rintro ⟨_, h | h⟩
      · intro e; exact h.2.2.1 (by rw [e])
      · omega
    · intro h
      exact ⟨by omega, .inl ⟨rfl, by omega, by omega, rfl⟩⟩
  have htn : ¬ ((dyM p q n).t.kd = 1 ∧ (acGet (dyM p q n).t.tt (mvS H N).acs).isNone = true) := by
    rintro ⟨_, h⟩
    change (acGet (q : Int) (mvS H N).acs).isNone = true at h
    rw [hq2] at h
    cases h
  have hto : toAm (mvS H N) (dyM p q n).t = H.getD q 0 := by
    unfold toAm
    show (match acGet (q : Int) (mvS H N).acs with | some g => g.am | none => 0) = _
    rw [hq2]; rfl
  change erX (mvS H N) (mkT (mvS H N) 3 (dyM p q n)) = _ at e0
  have hkd : (dyM p q n).t.kd = 1 := rfl
  have ham : (dyM p q n).t.am = n := rfl
  rw [hto, ham] at e0
  by_cases hpq : p = q
  · rw [if_pos (show ¬ maySx ((dyM p q n).t.bare (owA p (H.getD p 0) (N.getD p 0)).no) from fun h => hmay.1 h hpq)] at e0
    rw [e0]
    exact ⟨⟨fun h => absurd h (by decide), fun h => absurd hpq h.1⟩, fun _ => rfl, fun h => absurd h (by decide)⟩
  rw [if_neg (show ¬ ¬ maySx ((dyM p q n).t.bare (owA p (H.getD p 0) (N.getD p 0)).no) from fun h => h (hmay.2 hpq)), if_neg htn] at e0
  refine ⟨?_, fun h => absurd h hpq, fun h0 => ?_⟩
  · rw [e0]
    change (if ¬ (0 ≤ N.getD p 0 ∧ N.getD p 0 < 8) then (7 : Int) else if n > H.getD p 0 ∨ (dyM p q n).t.kd = 1 ∧ H.getD q 0 + n > maxM then 5 else if (dyM p q n).t.kd ≠ 1 ∧ (mvS H N).out.length ≥ 16 then 18 else 0) = 0 ↔ _
    by_cases h1 : N.getD p 0 < 8
    · rw [if_neg (show ¬ ¬ (0 ≤ N.getD p 0 ∧ N.getD p 0 < 8) by omega)]
      by_cases h2 : n ≤ H.getD p 0
      · rw [if_neg (show ¬ (n > H.getD p 0 ∨ (dyM p q n).t.kd = 1 ∧ H.getD q 0 + n > maxM) by unfold maxM; omega), if_neg (show ¬ ((dyM p q n).t.kd ≠ 1 ∧ (mvS H N).out.length ≥ 16) from fun h => h.1 rfl)]
        exact ⟨fun _ => ⟨hpq, h1, h2⟩, fun _ => rfl⟩
      · rw [if_pos (.inl (by omega))]
        exact ⟨fun h => absurd h (by decide), fun h => absurd h.2.2 h2⟩
    · rw [if_pos (show ¬ (0 ≤ N.getD p 0 ∧ N.getD p 0 < 8) by omega)]
      exact ⟨fun h => absurd h (by decide), fun h => absurd h.2.1 h1⟩
  · have d0 := doX_made (s := mvS H N) (x := dyM p q n) hg h0
    change doX (mvS H N) (mkT (mvS H N) 3 (dyM p q n)) = _ at d0
    rw [d0, if_pos hkd]
    show (match acGet (q : Int) (mvS H N).acs with | none => _ | some g => _) = _
    rw [hq2]
    exact mv_set hl nl hp hq hpq _ _ _
set_option maxRecDepth 10000 in set_option maxHeartbeats 4000000 in
theorem AccountMoves_calls (l : List T3D) (hll : l.length ≤ 9223372036854775807) (vl0 : Value) (w : World) (hs : SrcW w 3 vl0 l.length (rws T3D.c l)) (hK : Laid w) :
    Gives Tryd.prog 5 [vl0] (.bool true) w := by
  refine enter Tryd.func5 rfl (Mem.nil w []) rfl ?_
  obtain ⟨la, lc, rfl, hlc⟩ := hs.shape
  refine z_ ?_
  refine Run.op1 (OpTo.cv Tryd.func6 (fun w' hm => ac_awake_calls w' (hK.fr hm.fr (by simp)))) (fun _ => ?_)
  by_cases h16 : 16 < l.length
  · refine z_ ?_
    exact RQ.ret1 rfl (Res.tmp rfl) fun w' hm => ⟨rfl, hm.fr⟩
  refine z_ ?_
  have hz0 : ([] : Hp).Perm ([] ++ []) := List.Perm.refl _
  refine Run.op1 (OpTo.callT Tryd.func7 hz0 (fun w' hm => ANew_calls 3 w')) ?_
  rintro ⟨⟨ab, y0⟩, hy0⟩
  dsimp only at hy0 ⊢
  refine Run.a (vbs #[.int .i64 3, .slice none 0 0, .slice none 0 0, .slice none 0 0]) ?_
  refine Run.nw nbx ?_
  intro rb
  refine z_ ?_
  refine Run.nw (nal (cs := (i64L (List.replicate 0 60 ++ List.replicate (3 - 0) 0)).toArray)) ?_
  intro b5
  refine z_ ?_
  refine Run.nw (nal (cs := (i64L [0, 0, 0]).toArray)) ?_
  intro b6
  refine z_ ?_
  obtain ⟨b0, hb0⟩ : ∃ b : Bk ab rb, b = ⟨y0, rlNil rb 3, hy0⟩ := ⟨_, rfl⟩
  have hp0 : ((b6, Obj.cells (i64L [0, 0, 0]).toArray 65 (0, 0)) :: (b5, Obj.cells (i64L (List.replicate 0 60 ++ List.replicate (3 - 0) 0)).toArray 65 (0, 0)) :: (rb, Obj.cells #[.int .i64 3, .slice none 0 0, .slice none 0 0, .slice none 0 0] 31 (0, 0)) :: (y0.L ++ []) : Hp).Perm ((b5, Obj.cells (i64L (List.replicate 0 60 ++ List.replicate (3 - 0) 0)).toArray 65 (0, 0)) :: (b6, Obj.cells (i64L [0, 0, 0]).toArray 65 (0, 0)) :: b0.L) := by
    rw [hb0]
    unfold Bk.L
    rw [show (rlNil rb 3).L = [(rb, Obj.cells #[.int .i64 3, .slice none 0 0, .slice none 0 0, .slice none 0 0] 31 (0, 0))] from rfl]
    exact (perm_of fun f => by (simp only [List.map_append, List.map_cons, List.map_nil, List.sum_append, List.sum_cons, List.sum_nil] <;> omega))
  refine RC.perm hp0 ?_
  refine RC.up 3 (D := Bk ab rb) (fun i b => b.y.s = mv0 i) (fun i _ => [(7, .int .i64 i), (6, .pointer (some ⟨b6, 0, none⟩)), (5, .pointer (some ⟨b5, 0, none⟩)), (4, .pointer (some ⟨rb, 0, none⟩)), (3, .pointer (some ⟨ab, 0, none⟩)), (0, .slice la l.length lc)]) (fun i b => (b5, Obj.cells (i64L (List.replicate i 60 ++ List.replicate (3 - i) 0)).toArray 65 (0, 0)) :: (b6, Obj.cells (i64L [0, 0, 0]).toArray 65 (0, 0)) :: b.L) 0 b0 (Nat.zero_le _) (by rw [hb0]; exact hy0) ⟨rfl, rfl, rfl, rfl, rfl, rfl, trivial⟩ (List.Sublist.refl _) ?_
  clear hp0 hb0 b0 hy0 y0
  rintro i ⟨y, z, he⟩ hi hys
  dsimp only at hys ⊢
  unfold Bk.L
  dsimp only
  refine z_ ?_
  (repeat refine RC.seq ?_); refine RC.wh rfl (fun h => RQ.next ?_) (fun h => ?_)
  · have hi' : i < 3 := by have := of_decide_eq_true h; omega
    clear h
    obtain ⟨hc, hcs⟩ := mv0_cr hi'
    have htr := ref_Tree_calls (sedV i) (sedV_8 i).1 (sedV_8 i).2
    rw [owT_eq hi'] at htr
    have o8 := owT_8 i
    have cA := fun w' h1 h2 h3 h4 => ACredit_calls y 3 i (owT i) o8 60 w' h1 h2 h3 h4
    have cR := fun w' h1 h2 => RCredit_calls z 3 i (owT i) o8 60 w' h1 h2
    rw [← he, hys, hcs, decide_eq_true hc] at cR
    rw [hys, hcs, decide_eq_true hc] at cA
    generalize owT i = OW at htr o8 cA cR
    have l8 := o8.1
    have lf := (fw_rd o8.1 3 i 60).2.2.2
    have hS := has_set hi'
    refine z_ ?_
    refine Run.op1 (OpTo.cv Tryd.func9 (fun w' _ => aSeed_calls i w')) (fun _ => ?_)
    refine Run.op1 (OpTo.cv Tryd.func8 (fun w' _ => htr w')) (fun _ => ?_)
    refine Run.a (vbs (fwC 3 i OW 60).toArray (hf := by obtain ⟨o0, o1, o2, o3, o4, o5, o6, o7, rfl⟩ := len8 l8; kernel_rfl)) ?_
    refine Run.nw nal ?_
    intro b8
    refine Run.op1 (osa (L' := (b5, Obj.cells (i64L (List.replicate i 60 ++ List.replicate (3 - i) 0)).toArray 65 (0, 0)) :: (b6, Obj.cells (i64L [0, 0, 0]).toArray 65 (0, 0)) :: (y.L ++ z.L)) (fwC 3 i OW 60).toArray (fw_one 3 i 60 OW) (hs := by exact lf) (hf := by kernel_rfl)) (fun _ => ?_)
    refine z_ ?_
    refine Run.a (vla (arr := (fwC 3 i OW 60).toArray) (hm := (by repeat (first | exact List.mem_cons_self | apply List.mem_cons_of_mem | apply List.mem_append_right))) (hv := by exact lf)) ?_
    have hpA : ((b8, Obj.cells (fwC 3 i OW 60).toArray 35 (0, 0)) :: (b5, Obj.cells (i64L (List.replicate i 60 ++ List.replicate (3 - i) 0)).toArray 65 (0, 0)) :: (b6, Obj.cells (i64L [0, 0, 0]).toArray 65 (0, 0)) :: (y.L ++ z.L) : Hp).Perm (y.L ++ ((b8, Obj.cells (fwC 3 i OW 60).toArray 35 (0, 0)) :: (b5, Obj.cells (i64L (List.replicate i 60 ++ List.replicate (3 - i) 0)).toArray 65 (0, 0)) :: (b6, Obj.cells (i64L [0, 0, 0]).toArray 65 (0, 0)) :: z.L)) := (perm_of fun f => by (simp only [List.map_append, List.map_cons, List.map_nil, List.sum_append, List.sum_cons, List.sum_nil] <;> omega))
    refine Run.op1 (OpTo.callT Tryd.func11 hpA (fun w' hm => cA w' (hm.part hpA).1 (hm.part hpA).2 (hK.fr hm.fr (by simp)) (fresh_idsS hK (by simp) (hm.perm hpA) (fun p hp => List.mem_append_left _ hp)))) ?_
    rintro ⟨y', hy'⟩
    dsimp only
    refine z_ ?_
    refine Run.a (vla (arr := (fwC 3 i OW 60).toArray) (hm := (by repeat (first | exact List.mem_cons_self | apply List.mem_cons_of_mem | apply List.mem_append_right))) (hv := by exact lf)) ?_
    have hpB : (y'.L ++ ((b8, Obj.cells (fwC 3 i OW 60).toArray 35 (0, 0)) :: (b5, Obj.cells (i64L (List.replicate i 60 ++ List.replicate (3 - i) 0)).toArray 65 (0, 0)) :: (b6, Obj.cells (i64L [0, 0, 0]).toArray 65 (0, 0)) :: z.L) : Hp).Perm (z.L ++ ((b8, Obj.cells (fwC 3 i OW 60).toArray 35 (0, 0)) :: (b5, Obj.cells (i64L (List.replicate i 60 ++ List.replicate (3 - i) 0)).toArray 65 (0, 0)) :: (b6, Obj.cells (i64L [0, 0, 0]).toArray 65 (0, 0)) :: y'.L)) := (perm_of fun f => by (simp only [List.map_append, List.map_cons, List.map_nil, List.sum_append, List.sum_cons, List.sum_nil] <;> omega))
    refine Run.op1 (OpTo.callT Tryd.func10 hpB (fun w' hm => cR w' (hm.part hpB).1 (hm.part hpB).2)) ?_
    rintro ⟨z', hz'⟩
    dsimp only
    refine z_ ?_
    refine Run.a (via i (0 + i) (ha := by show 0 + i * 1 = 0 + i; omega)) ?_
    refine Run.op1 (oi1 (S := List.replicate i 60 ++ List.replicate (3 - i) 0) (e := 65) (L' := (b8, Obj.cells (fwC 3 i OW 60).toArray 35 (0, 0)) :: (b6, Obj.cells (i64L [0, 0, 0]).toArray 65 (0, 0)) :: (y'.L ++ z'.L)) i 60 (by rw [List.length_append, List.length_replicate, List.length_replicate]; omega) (hL := (perm_of fun f => by (simp only [List.map_append, List.map_cons, List.map_nil, List.sum_append, List.sum_cons, List.sum_nil] <;> omega)))) (fun _ => ?_)
    rw [hS]
    refine z_ ?_
    exact RQ.upS (i + 1) ⟨y', z', by rw [hy', hz']⟩ (Nat.lt_succ_self _) hi' hy' ⟨rfl, rfl, rfl, rfl, rfl, rfl, trivial⟩ (L1 := ((b5, Obj.cells (i64L (List.replicate (i + 1) 60 ++ List.replicate (3 - (i + 1)) 0)).toArray 65 (0, 0)) :: (b6, Obj.cells (i64L [0, 0, 0]).toArray 65 (0, 0)) :: (y'.L ++ z'.L)) ++ [(b8, Obj.cells (fwC 3 i OW 60).toArray 35 (0, 0))]) (perm_of fun f => by (simp only [List.map_append, List.map_cons, List.map_nil, List.sum_append, List.sum_cons, List.sum_nil] <;> omega)) (List.sublist_append_left _ _)
  · have hi3 : i = 3 := by have := of_decide_eq_false h; omega
    clear h
    subst hi3
    (repeat refine RQ.thenExit ?_); refine RQ.blockHere ?_
    refine z_ ?_
    refine RC.up l.length (D := Bk ab rb × List Int × List Int) (fun _ x => MvI x) (fun i _ => [(9, .int .i64 i), (6, .pointer (some ⟨b6, 0, none⟩)), (5, .pointer (some ⟨b5, 0, none⟩)), (4, .pointer (some ⟨rb, 0, none⟩)), (3, .pointer (some ⟨ab, 0, none⟩)), (0, .slice la l.length lc)]) (fun _ x => (b5, Obj.cells (i64L x.2.1).toArray 65 (0, 0)) :: (b6, Obj.cells (i64L x.2.2).toArray 65 (0, 0)) :: x.1.L) 0 (⟨y, z, he⟩, [60, 60, 60], [0, 0, 0]) (Nat.zero_le _) ⟨hys, rfl, rfl, rfl, (by decide : ∀ k, k < 3 → 0 ≤ ([60, 60, 60] : List Int).getD k 0), (by decide : ∀ k, k < 3 → 0 ≤ ([0, 0, 0] : List Int).getD k 0 ∧ ([0, 0, 0] : List Int).getD k 0 ≤ 8)⟩ ⟨rfl, rfl, rfl, rfl, rfl, rfl, trivial⟩ (List.Sublist.refl _) ?_
    clear hys he y z
    rintro i ⟨⟨y, z, he⟩, H, N⟩ hi ⟨hys, hl, nl, hsum, hn, hno⟩
    dsimp only at hys hl nl hsum hn hno ⊢
    unfold Bk.L
    dsimp only
    refine z_ ?_
    (repeat refine RC.seq ?_); refine RC.wh rfl (fun h => RQ.next ?_) (fun h => ?_)
    · have hi' : i < l.length := by have := of_decide_eq_true h; omega
      clear h
      obtain ⟨x, hx⟩ : ∃ x, l[i]? = some x := ⟨_, List.getElem?_eq_getElem hi'⟩
      obtain ⟨ad, c', hv', hc', hcl, hr⟩ := hs.pos (by omega)
      cases hv'
      have hb := rws_at T3D.len hx
      obtain ⟨xl, x3, xb⟩ := x
      obtain ⟨v0, v1, v2, rfl⟩ := len3 x3
      have g0 := hr _ _ (hb 0 (.int .u8 v0) rfl)
      have g1 := hr _ _ (hb 1 (.int .u8 v1) rfl)
      have g2 := hr _ _ (hb 2 (.int .u8 v2) rfl)
      rw [← add_add] at g0 g1 g2
      have w0' := xb v0 List.mem_cons_self
      have w1' := xb v1 (List.mem_cons_of_mem _ List.mem_cons_self)
      have w2' := xb v2 (List.mem_cons_of_mem _ (List.mem_cons_of_mem _ List.mem_cons_self))
      obtain ⟨p, hpe⟩ : ∃ p, p = v0 % 3 := ⟨_, rfl⟩
      obtain ⟨q, hqe⟩ : ∃ q, q = v1 % 3 := ⟨_, rfl⟩
      obtain ⟨r, hre⟩ : ∃ r, r = v2 % 100 := ⟨_, rfl⟩
      have hp3 : p < 3 := by rw [hpe]; exact Nat.mod_lt _ (by decide)
      have hq3 : q < 3 := by rw [hqe]; exact Nat.mod_lt _ (by decide)
      have hr100 : r < 100 := by rw [hre]; exact Nat.mod_lt _ (by decide)
      refine z_ ?_
      (repeat refine RC.seq ?_); refine RC.drawS mixed (N := 25) rfl ?_
      refine dt 0 ?_
      refine dt 1 ?_
      refine DR.t 2 rfl (vix i hi' (ad.add (i * 3))) ?_
      refine DR.t 3 rfl (vxa 0) ?_
      refine DR.t 4 rfl (vlo g0) ?_
      refine dt 5 ?_
      refine DR.t 6 rfl (Val.eq Val.rmn (show _ = Value.int .i64 (p : Int) from by rw [hpe])) ?_
      refine dt 7 ?_
      refine dt 8 ?_
      refine DR.t 9 rfl (vix i hi' (ad.add (i * 3))) ?_
      refine DR.t 10 rfl (vxa 1) ?_
      refine DR.t 11 rfl (vlo g1) ?_
      refine dt 12 ?_
      refine DR.t 13 rfl (Val.eq Val.rmn (show _ = Value.int .i64 (q : Int) from by rw [hqe])) ?_
      refine dt 14 ?_
      refine dt 15 ?_
      refine DR.t 16 rfl (vix i hi' (ad.add (i * 3))) ?_
      refine DR.t 17 rfl (vxa 2) ?_
      refine DR.t 18 rfl (vlo g2) ?_
      refine dt 19 ?_
      refine DR.t 20 rfl (Val.eq Val.rmn (show _ = Value.int .i64 (r : Int) from by rw [hre])) ?_
      refine dt 21 ?_
      refine dt 22 ?_
      refine dt 23 ?_
      refine dt 24 ?_
      refine DR.done (by kernel_rfl) ?_
      obtain ⟨x, hxe⟩ : ∃ x, x = dyM p q (1 + (r : Int)) := ⟨_, rfl⟩
      have hxc : x.c = dyC 0 (fwC 0 0 Z8 0) p (sxC 1 p q Z8 (1 + (r : Int)) 0 (zer 128) (zer 128) (zer 24)) 0 := by rw [hxe]; rfl
      have cmk := fun w' hw' => aMake_calls z 3 x w' hw'
      rw [← he, hys] at cmk
      obtain ⟨f1, f2, f3⟩ := mv_do hl nl hsum hn hno hp3 hq3 (n := 1 + (r : Int)) (by omega)
      rw [← hxe] at f1 f2 f3
      obtain ⟨tx, htx⟩ : ∃ tx, tx = mkT (mvS H N) 3 x := ⟨_, rfl⟩
      rw [← htx] at cmk f1 f2 f3
      have ltx : tx.c.toArray.size = 293 := tx.len
      have otx := tx.one
      have cA := fun w' h1 h2 h3 h4 => ADo_calls y tx w' h1 h2 h3 h4
      have cR := fun w' h1 h2 => RDo_calls z tx w' h1 h2
      rw [hys] at cA
      rw [← he, hys] at cR
      have f4 : erX (mvS H N) tx ≠ 0 → doX (mvS H N) tx = mvS H N := fun h => if_pos h
      generalize erX (mvS H N) tx = er at f1 f2 f3 f4 cA cR
      generalize doX (mvS H N) tx = s' at f3 f4 cA cR
      refine z_ ?_
      refine Run.a (vbs (sxC 1 p q Z8 (1 + (r : Int)) 0 (zer 128) (zer 128) (zer 24)).toArray) ?_
      refine Run.a (vbs (dyC 0 (fwC 0 0 Z8 0) p (sxC 1 p q Z8 (1 + (r : Int)) 0 (zer 128) (zer 128) (zer 24)) 0).toArray) ?_
      rw [← hxc]
      refine z_ ?_
      refine Run.op1 (OpTo.cv Tryd.func12 (fun w' hm => cmk w' (fun q hq => hm.has q (List.mem_cons_of_mem _ (List.mem_cons_of_mem _ (List.mem_append_right _ hq)))))) (fun _ => ?_)
      refine Run.nw nal ?_
      intro b13
      refine Run.op1 (osa (L' := (b5, Obj.cells (i64L H).toArray 65 (0, 0)) :: (b6, Obj.cells (i64L N).toArray 65 (0, 0)) :: (y.L ++ z.L)) tx.c.toArray otx (hs := by exact ltx) (hf := by kernel_rfl)) (fun _ => ?_)
      refine z_ ?_
      refine Run.a (vla (arr := tx.c.toArray) (hm := (by repeat (first | exact List.mem_cons_self | apply List.mem_cons_of_mem | apply List.mem_append_right))) (hv := by exact ltx)) ?_
      have hpA : ((b13, Obj.cells tx.c.toArray 41 (0, 0)) :: (b5, Obj.cells (i64L H).toArray 65 (0, 0)) :: (b6, Obj.cells (i64L N).toArray 65 (0, 0)) :: (y.L ++ z.L) : Hp).Perm (y.L ++ ((b13, Obj.cells tx.c.toArray 41 (0, 0)) :: (b5, Obj.cells (i64L H).toArray 65 (0, 0)) :: (b6, Obj.cells (i64L N).toArray 65 (0, 0)) :: z.L)) := (perm_of fun f => by (simp only [List.map_append, List.map_cons, List.map_nil, List.sum_append, List.sum_cons, List.sum_nil] <;> omega))
      refine Run.op1 (OpTo.callT Tryd.func14 hpA (fun w' hm => cA w' (hm.part hpA).1 (hm.part hpA).2 (hK.fr hm.fr (by simp)) (fresh_idsS hK (by simp) (hm.perm hpA) (fun p hp => List.mem_append_left _ hp)))) ?_
      rintro ⟨y', hy'⟩
      dsimp only
      refine z_ ?_
      refine Run.a (vla (arr := tx.c.toArray) (hm := (by repeat (first | exact List.mem_cons_self | apply List.mem_cons_of_mem | apply List.mem_append_right))) (hv := by exact ltx)) ?_
      have hpB : (y'.L ++ ((b13, Obj.cells tx.c.toArray 41 (0, 0)) :: (b5, Obj.cells (i64L H).toArray 65 (0, 0)) :: (b6, Obj.cells (i64L N).toArray 65 (0, 0)) :: z.L) : Hp).Perm (z.L ++ ((b13, Obj.cells tx.c.toArray 41 (0, 0)) :: (b5, Obj.cells (i64L H).toArray 65 (0, 0)) :: (b6, Obj.cells (i64L N).toArray 65 (0, 0)) :: y'.L)) := (perm_of fun f => by (simp only [List.map_append, List.map_cons, List.map_nil, List.sum_append, List.sum_cons, List.sum_nil] <;> omega))
      refine Run.op1 (OpTo.callT Tryd.func13 hpB (fun w' hm => cR w' (hm.part hpB).1 (hm.part hpB).2)) ?_
      rintro ⟨z', hz'⟩
      dsimp only
      have he' : y'.s = z'.s := by rw [hy', hz']
      refine Run.nil (RQ.next ?_)
      refine RC.seq ?_
      obtain ⟨fine, hfine⟩ : ∃ fine, fine = decide (p ≠ q ∧ N.getD p 0 < 8 ∧ (1 + (r : Int)) ≤ H.getD p 0) := ⟨_, rfl⟩
      have hpN : p < N.length := by omega
      have hpH : p < H.length := by omega
      refine RC.thenCut (Y := Unit) (fun _ => [(15, .bool fine), (14, .int .i64 er), (12, .int .i64 (1 + (r : Int))), (11, .int .i64 q), (10, .int .i64 p), (9, .int .i64 i), (6, .pointer (some ⟨b6, 0, none⟩)), (5, .pointer (some ⟨b5, 0, none⟩)), (4, .pointer (some ⟨rb, 0, none⟩)), (3, .pointer (some ⟨ab, 0, none⟩)), (0, .slice (some ad) l.length lc)]) (fun _ => (b5, Obj.cells (i64L H).toArray 65 (0, 0)) :: (b6, Obj.cells (i64L N).toArray 65 (0, 0)) :: ((y'.L ++ z'.L) ++ [(b13, Obj.cells tx.c.toArray 41 (0, 0))])) ?_ (fun _ => ?_)
      · have hfin : (z'.L ++ ((b13, Obj.cells tx.c.toArray 41 (0, 0)) :: (b5, Obj.cells (i64L H).toArray 65 (0, 0)) :: (b6, Obj.cells (i64L N).toArray 65 (0, 0)) :: y'.L) : Hp).Perm ((b5, Obj.cells (i64L H).toArray 65 (0, 0)) :: (b6, Obj.cells (i64L N).toArray 65 (0, 0)) :: ((y'.L ++ z'.L) ++ [(b13, Obj.cells tx.c.toArray 41 (0, 0))])) := (perm_of fun f => by (simp only [List.map_append, List.map_cons, List.map_nil, List.sum_append, List.sum_cons, List.sum_nil] <;> omega))
        refine RC.perm hfin ?_
        by_cases hpq : p = q
        · rw [show fine = false from by rw [hfine]; exact decide_eq_false (fun h => h.1 hpq)]
          refine z_ ?_
          exact RQ.toP () ⟨rfl, rfl, rfl, rfl, rfl, rfl, rfl, rfl, rfl, rfl, rfl, trivial⟩ (List.Perm.refl _) (List.Sublist.refl _)
        by_cases h8 : N.getD p 0 < 8
        case neg =>
          rw [show fine = false from by rw [hfine]; exact decide_eq_false (fun h => h8 h.2.1)]
          refine z_ ?_
          refine Run.a (via p p (ha := by show 0 + p * 1 = p; omega)) ?_
          refine Run.a (vl (.int .i64 (N.getD p 0)) (arr := (i64L N).toArray) (hm := (by repeat (first | exact List.mem_cons_self | apply List.mem_cons_of_mem | apply List.mem_append_right))) (hv := by exact at3 hpN)) ?_
          refine z_ ?_
          exact RQ.toP () ⟨rfl, rfl, rfl, rfl, rfl, rfl, rfl, rfl, rfl, rfl, rfl, trivial⟩ (List.Perm.refl _) (List.Sublist.refl _)
        rw [show fine = decide ((1 + (r : Int)) ≤ H.getD p 0) from by rw [hfine]; exact decide_eq_decide.2 ⟨fun h => h.2.2, fun h => ⟨hpq, h8, h⟩⟩]
        refine z_ ?_
        refine Run.a (via p p (ha := by show 0 + p * 1 = p; omega)) ?_
        refine Run.a (vl (.int .i64 (N.getD p 0)) (arr := (i64L N).toArray) (hm := (by repeat (first | exact List.mem_cons_self | apply List.mem_cons_of_mem | apply List.mem_append_right))) (hv := by exact at3 hpN)) ?_
        refine z_ ?_
        refine Run.a (via p p (ha := by show 0 + p * 1 = p; omega)) ?_
        refine Run.a (vl (.int .i64 (H.getD p 0)) (arr := (i64L H).toArray) (hm := (by repeat (first | exact List.mem_cons_self | apply List.mem_cons_of_mem | apply List.mem_append_right))) (hv := by exact at3 hpH)) ?_
        refine z_ ?_
        exact RQ.toP () ⟨rfl, rfl, rfl, rfl, rfl, rfl, rfl, rfl, rfl, rfl, rfl, trivial⟩ (List.Perm.refl _) (List.Sublist.refl _)
      refine RC.seq ?_
      refine RC.thenCut (Y := Unit) (fun _ => [(15, .bool fine), (12, .int .i64 (1 + (r : Int))), (11, .int .i64 q), (10, .int .i64 p), (9, .int .i64 i), (6, .pointer (some ⟨b6, 0, none⟩)), (5, .pointer (some ⟨b5, 0, none⟩)), (4, .pointer (some ⟨rb, 0, none⟩)), (3, .pointer (some ⟨ab, 0, none⟩)), (0, .slice (some ad) l.length lc)]) (fun _ => (b5, Obj.cells (i64L H).toArray 65 (0, 0)) :: (b6, Obj.cells (i64L N).toArray 65 (0, 0)) :: ((y'.L ++ z'.L) ++ [(b13, Obj.cells tx.c.toArray 41 (0, 0))])) ?_ (fun _ => ?_)
      · cases hff : fine with
        | true =>
          rw [hff] at hfine
          have hf := of_decide_eq_true hfine.symm
          have hpq := hf.1
          rw [f1.2 hf]
          refine z_ ?_
          refine Run.a (Val.eq (Val.neBool tabOk rfl rfl rfl rfl rfl) (show _ = Value.bool false from rfl)) ?_
          refine z_ ?_
          exact RQ.toP () ⟨rfl, rfl, rfl, rfl, rfl, rfl, rfl, rfl, rfl, rfl, trivial⟩ (List.Perm.refl _) (List.Sublist.refl _)
        | false =>
          rw [hff] at hfine
          have hf := of_decide_eq_false hfine.symm
          have her : er ≠ 0 := fun h => hf (f1.1 h)
          by_cases hpq : p = q
          · have h4 := f2 hpq
            refine z_ ?_
            refine Run.a (Val.eq (Val.neBool tabOk rfl rfl rfl rfl rfl) (show _ = Value.bool false from rfl)) ?_
            refine z_ ?_
            exact RQ.toP () ⟨rfl, rfl, rfl, rfl, rfl, rfl, rfl, rfl, rfl, rfl, trivial⟩ (List.Perm.refl _) (List.Sublist.refl _)
          · refine z_ ?_
            refine Run.a (Val.eq (Val.neBool tabOk rfl rfl rfl rfl rfl) (show _ = Value.bool false from rfl)) ?_
            refine z_ ?_
            exact RQ.toP () ⟨rfl, rfl, rfl, rfl, rfl, rfl, rfl, rfl, rfl, rfl, trivial⟩ (List.Perm.refl _) (List.Sublist.refl _)
      refine RC.seq ?_
      refine RC.thenCut (Y := {x : Bk ab rb × List Int × List Int // MvI x}) (fun _ => [(9, .int .i64 i), (6, .pointer (some ⟨b6, 0, none⟩)), (5, .pointer (some ⟨b5, 0, none⟩)), (4, .pointer (some ⟨rb, 0, none⟩)), (3, .pointer (some ⟨ab, 0, none⟩)), (0, .slice (some ad) l.length lc)]) (fun x => (b5, Obj.cells (i64L x.1.2.1).toArray 65 (0, 0)) :: (b6, Obj.cells (i64L x.1.2.2).toArray 65 (0, 0)) :: x.1.1.L) ?_ ?_
      · cases hff : fine with
        | false =>
          rw [hff] at hfine
          have hf := of_decide_eq_false hfine.symm
          have her : er ≠ 0 := fun h => hf (f1.1 h)
          have hys' := hy'
          rw [f4 her] at hys'
          refine z_ ?_
          exact RQ.toP ⟨(⟨y', z', he'⟩, H, N), hys', hl, nl, hsum, hn, hno⟩ ⟨rfl, rfl, rfl, rfl, rfl, rfl, trivial⟩ (L1 := ((b5, Obj.cells (i64L H).toArray 65 (0, 0)) :: (b6, Obj.cells (i64L N).toArray 65 (0, 0)) :: (y'.L ++ z'.L)) ++ [(b13, Obj.cells tx.c.toArray 41 (0, 0))]) (List.Perm.refl _) (List.sublist_append_left _ _)
        | true =>
          rw [hff] at hfine
          have hf := of_decide_eq_true hfine.symm
          obtain ⟨hpq, hn8, hle⟩ := hf
          have hys' := hy'
          rw [f3 (f1.2 ⟨hpq, hn8, hle⟩)] at hys'
          have hqH : q < H.length := by omega
          have hhq := hn q hq3
          have hhp := hn p hp3
          have hlq := sum_le3 hsum hn hq3
          have hlp := sum_le3 hsum hn hp3
          have hnp := hno p hp3
          have hs3 := sum3 hl hp3 hq3 hpq (1 + (r : Int))
          have hgq : (H.set p (H.getD p 0 - (1 + (r : Int)))).getD q 0 = H.getD q 0 := by rw [getD_set3 q hpH, if_neg hpq]
          refine z_ ?_
          (repeat refine RC.seq ?_); refine RC.drawS mixed (N := 16) rfl ?_
          refine dt 0 ?_
          refine dt 1 ?_
          refine dt 2 ?_
          refine DR.t 3 rfl (via p p (ha := by show 0 + p * 1 = p; omega)) ?_
          refine DR.t 4 rfl (vl (.int .i64 (H.getD p 0)) (arr := (i64L H).toArray) (hm := (by repeat (first | exact List.mem_cons_self | apply List.mem_cons_of_mem | apply List.mem_append_right))) (hv := by exact at3 hpH)) ?_
          refine dt 5 ?_
          refine dt 6 ?_
          refine dt 7 ?_
          refine DR.t 8 rfl (via q q (ha := by show 0 + q * 1 = q; omega)) ?_
          refine DR.t 9 rfl (vl (.int .i64 (H.getD q 0)) (arr := (i64L H).toArray) (hm := (by repeat (first | exact List.mem_cons_self | apply List.mem_cons_of_mem | apply List.mem_append_right))) (hv := by exact at3 hqH)) ?_
          refine dt 10 ?_
          refine dt 11 ?_
          refine DR.t 12 rfl (via p (0 + p) (ha := by show 0 + p * 1 = 0 + p; omega)) ?_
          refine DR.c 13 ?_
          refine DOp.op1 rfl (oi1 (S := H) (e := 65) (L' := (b6, Obj.cells (i64L N).toArray 65 (0, 0)) :: ((y'.L ++ z'.L) ++ [(b13, Obj.cells tx.c.toArray 41 (0, 0))])) p (H.getD p 0 - (1 + (r : Int))) hpH) (fun _ => ?_)
          refine DR.c 14 ?_
          refine DOp.vl rfl (via q (0 + q) (ha := by show 0 + q * 1 = 0 + q; omega)) ?_
          refine DR.c 15 ?_
          refine DOp.op1 rfl (oi1 (S := H.set p (H.getD p 0 - (1 + (r : Int)))) (e := 65) (L' := (b6, Obj.cells (i64L N).toArray 65 (0, 0)) :: ((y'.L ++ z'.L) ++ [(b13, Obj.cells tx.c.toArray 41 (0, 0))])) q (H.getD q 0 + (1 + (r : Int))) (by rw [List.length_set]; exact hqH)) (fun _ => ?_)
          refine DR.done (by kernel_rfl) ?_
          refine z_ ?_
          refine Run.a (via p p (ha := by show 0 + p * 1 = p; omega)) ?_
          refine Run.a (vl (.int .i64 (N.getD p 0)) (arr := (i64L N).toArray) (hm := (by repeat (first | exact List.mem_cons_self | apply List.mem_cons_of_mem | apply List.mem_append_right))) (hv := by exact at3 hpN)) ?_
          refine z_ ?_
          refine Run.a (via p (0 + p) (ha := by show 0 + p * 1 = 0 + p; omega)) ?_
          refine Run.op1 (oi1 (S := N) (e := 65) (L' := (b5, Obj.cells (i64L ((H.set p (H.getD p 0 - (1 + (r : Int)))).set q (H.getD q 0 + (1 + (r : Int))))).toArray 65 (0, 0)) :: ((y'.L ++ z'.L) ++ [(b13, Obj.cells tx.c.toArray 41 (0, 0))])) p (N.getD p 0 + 1) hpN (hL := p1)) (fun _ => ?_)
          refine z_ ?_
          refine RQ.toP ⟨(⟨y', z', he'⟩, (H.set p (H.getD p 0 - (1 + (r : Int)))).set q (H.getD q 0 + (1 + (r : Int))), N.set p (N.getD p 0 + 1)), hys', by dsimp only; rw [List.length_set, List.length_set, hl], by dsimp only; rw [List.length_set, nl], by dsimp only; rw [hs3, hsum], fun k hk => ?_, fun k hk => ?_⟩ ⟨rfl, rfl, rfl, rfl, rfl, rfl, trivial⟩ (L1 := ((b5, Obj.cells (i64L ((H.set p (H.getD p 0 - (1 + (r : Int)))).set q (H.getD q 0 + (1 + (r : Int))))).toArray 65 (0, 0)) :: (b6, Obj.cells (i64L (N.set p (N.getD p 0 + 1))).toArray 65 (0, 0)) :: (y'.L ++ z'.L)) ++ [(b13, Obj.cells tx.c.toArray 41 (0, 0))]) p1 (List.sublist_append_left _ _)
          · dsimp only
            have h5 := hn k hk
            rw [getD_set3 k (by rw [List.length_set]; exact hqH), getD_set3 k hpH]
            split
            · omega
            · split <;> omega
          · dsimp only
            have h5 := hno k hk
            rw [getD_set3 k hpN]
            split <;> omega
      clear f1 f2 f3 f4 cA cR cmk he' hz' hy' hxc hpA hpB hsum hn hno hys he hfine hpN hpH hl nl htx hxe
      rintro ⟨⟨⟨y, z, he⟩, H, N⟩, hys, hl, nl, hsum, hn, hno⟩
      dsimp only at hys hl nl hsum hn hno ⊢
      unfold Bk.L
      dsimp only
      refine z_ ?_
      refine RC.up 3 (D := Unit) (fun _ _ => True) (fun k _ => [(16, .int .i64 k), (9, .int .i64 i), (6, .pointer (some ⟨b6, 0, none⟩)), (5, .pointer (some ⟨b5, 0, none⟩)), (4, .pointer (some ⟨rb, 0, none⟩)), (3, .pointer (some ⟨ab, 0, none⟩)), (0, .slice (some ad) l.length lc)]) (fun _ _ => (b5, Obj.cells (i64L H).toArray 65 (0, 0)) :: (b6, Obj.cells (i64L N).toArray 65 (0, 0)) :: (y.L ++ z.L)) 0 () (Nat.zero_le _) trivial ⟨rfl, rfl, rfl, rfl, rfl, rfl, rfl, trivial⟩ (List.Sublist.refl _) ?_
      intro k _ hk _
      refine z_ ?_
      (repeat refine RC.seq ?_); refine RC.wh rfl (fun h => RQ.next ?_) (fun h => ?_)
      · have hk' : k < 3 := by have := of_decide_eq_true h; omega
        clear h
        have hg := mv_get H N hk'
        have cG := fun w' hw' => AGet_calls y k w' hw'
        rw [hys, hg] at cG
        obtain ⟨r8, r9⟩ := ac_rd (owA k (H.getD k 0) (N.getD k 0)).h8.1 (H.getD k 0) (N.getD k 0)
        have sA : (acC (owT k) (H.getD k 0) (N.getD k 0)).toArray.size = 10 := acCells_len (some (owA k (H.getD k 0) (N.getD k 0)))
        have oA : ∀ u ∈ (acC (owT k) (H.getD k 0) (N.getD k 0)).toArray.toList, u.oneCell' = true := acCells_one (some (owA k (H.getD k 0) (N.getD k 0)))
        change ∀ w', _ → Gives _ _ _ (.tuple #[.agg (acC (owT k) (H.getD k 0) (N.getD k 0)).toArray, .bool true]) w' at cG
        change rdAt _ (acC (owT k) (H.getD k 0) (N.getD k 0)).toArray 8 = _ at r8
        change rdAt _ (acC (owT k) (H.getD k 0) (N.getD k 0)).toArray 9 = _ at r9
        have hkH : k < H.length := by omega
        have hkN : k < N.length := by omega
        generalize acC (owT k) (H.getD k 0) (N.getD k 0) = AC at sA oA r8 r9 cG
        refine z_ ?_
        refine Run.op1 (OpTo.cv Tryd.func19 (fun w' hm => cG w' (fun q hq => hm.has q (List.mem_cons_of_mem _ (List.mem_cons_of_mem _ (List.mem_append_left _ hq)))))) (fun _ => ?_)
        refine z_ ?_
        refine Run.nw nal ?_
        intro b17
        refine Run.op1 (osa AC.toArray oA (hs := sA) (hf := by kernel_rfl)) (fun _ => ?_)
        refine z_ ?_
        (repeat refine RC.seq ?_); refine RC.drawS mixed (N := 18) rfl ?_
        refine dt 0 ?_
        refine dt 1 ?_
        refine dt 2 ?_
        refine dt 3 ?_
        refine DR.t 4 rfl (vl (.int .i64 (H.getD k 0)) (arr := AC.toArray) (hm := (by repeat (first | exact List.mem_cons_self | apply List.mem_cons_of_mem | apply List.mem_append_right))) (hv := by exact r8)) ?_
        refine dt 5 ?_
        refine DR.t 6 rfl (via k k (ha := by show 0 + k * 1 = k; omega)) ?_
        refine DR.t 7 rfl (vl (.int .i64 (H.getD k 0)) (arr := (i64L H).toArray) (hm := (by repeat (first | exact List.mem_cons_self | apply List.mem_cons_of_mem | apply List.mem_append_right))) (hv := by exact at3 hkH)) ?_
        refine dt 8 ?_
        refine dt 9 ?_
        refine dt 10 ?_
        refine dt 11 ?_
        refine DR.t 12 rfl (vl (.int .i64 (N.getD k 0)) (arr := AC.toArray) (hm := (by repeat (first | exact List.mem_cons_self | apply List.mem_cons_of_mem | apply List.mem_append_right))) (hv := by exact r9)) ?_
        refine dt 13 ?_
        refine DR.t 14 rfl (via k k (ha := by show 0 + k * 1 = k; omega)) ?_
        refine DR.t 15 rfl (vl (.int .i64 (N.getD k 0)) (arr := (i64L N).toArray) (hm := (by repeat (first | exact List.mem_cons_self | apply List.mem_cons_of_mem | apply List.mem_append_right))) (hv := by exact at3 hkN)) ?_
        refine dt 16 ?_
        refine dt 17 ?_
        refine DR.done (by kernel_rfl) ?_
        refine z_ ?_
        exact RQ.upS (k + 1) () (Nat.lt_succ_self _) hk' trivial ⟨rfl, rfl, rfl, rfl, rfl, rfl, rfl, trivial⟩ (List.Perm.refl _) (List.sublist_cons_self _ _)
      · (repeat refine RQ.thenExit ?_); refine RQ.blockHere ?_
        refine z_ ?_
        exact RQ.upS (i + 1) (⟨y, z, he⟩, H, N) (Nat.lt_succ_self _) hi' ⟨hys, hl, nl, hsum, hn, hno⟩ ⟨rfl, rfl, rfl, rfl, rfl, rfl, trivial⟩ (List.Perm.refl _) (List.Sublist.refl _)
    · have ct := fun w' hw' => ATotal_calls y w' hw'
      rw [show totX y.s = 180 from by rw [hys]; show H.getD 0 0 + (H.getD 1 0 + (H.getD 2 0 + 0)) = 180; omega, show IntKind.i64.wrap 180 = 180 from by decide] at ct
      have cr := fun w' hw' => ARoot_calls y w' hw'
      have hR8 := nodeF_8 (acF_ok y.s.acs) 16 0
      have ctr := fun w' hw' => RTree_calls z w' hw'
      have hfin := acF_fin z.ok.ok
      rw [← he] at hfin ctr
      (repeat refine RQ.thenExit ?_); refine RQ.blockHere ?_
      refine z_ ?_
      refine Run.op1 (OpTo.cv Tryd.func17 (fun w' hm => ct w' (fun q hq => hm.has q (List.mem_cons_of_mem _ (List.mem_cons_of_mem _ (List.mem_append_left _ hq)))))) (fun _ => ?_)
      refine z_ ?_
      refine Run.op1 (OpTo.cv Tryd.func20 (fun w' hm => cr w' (fun q hq => hm.has q (List.mem_cons_of_mem _ (List.mem_cons_of_mem _ (List.mem_append_left _ hq)))))) (fun _ => ?_)
      refine z_ ?_
      have hz9 : ((b5, Obj.cells (i64L H).toArray 65 (0, 0)) :: (b6, Obj.cells (i64L N).toArray 65 (0, 0)) :: (y.L ++ z.L) : Hp).Perm ([] ++ ((b5, Obj.cells (i64L H).toArray 65 (0, 0)) :: (b6, Obj.cells (i64L N).toArray 65 (0, 0)) :: (y.L ++ z.L))) := List.Perm.refl _
      refine Run.op1 (OpTo.callT Tryd.func21 hz9 (fun w' hm => ctr w' (fun q hq => hm.has q (List.mem_cons_of_mem _ (List.mem_cons_of_mem _ (List.mem_append_right _ hq)))))) ?_
      rintro ⟨⟨tb, d⟩, hd⟩
      dsimp only at hd ⊢
      have hdr : nodeF (lfF d.r) 16 0 = nodeF (acF y.s.acs) 16 0 := by rw [hd]; exact congrArg (fun F => nodeF F 16 0) hfin
      have cto := fun w' hw' => Top_calls d.r (by rw [hd]; exact fin_ok _) tb w' hw'
      rw [hdr] at cto
      generalize nodeF (acF y.s.acs) 16 0 = R at hR8 cto cr ⊢
      refine z_ ?_
      refine Run.op1 (OpTo.cv Tryd.func22 (fun w' hm => cto w' (d.lvW fun q hq => hm.has q (List.mem_append_left _ hq)))) (fun _ => ?_)
      refine Run.a (veu 8 R hR8.1 (by kernel_rfl)) ?_
      refine z_ ?_
      exact RQ.ret1 rfl (Res.tmp rfl) fun w' hm => ⟨rfl, hm.fr⟩
end Go.Proofs.YtfhdfpejjgmdcaaDoor
