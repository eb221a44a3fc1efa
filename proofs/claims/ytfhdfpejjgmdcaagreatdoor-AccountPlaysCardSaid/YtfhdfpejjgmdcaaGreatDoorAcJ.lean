import Derived.Test.YtfhdfpejjgmdcaaGreatDoorAcE
set_option linter.unusedSimpArgs false
set_option linter.unusedVariables false
/- account: a ledger in memory; set. -/
namespace Go.Vc
open Go Go.Sha
section
variable {κ : Type} [DecidableEq κ]
def mxKV (x : MxE κ) : κ × Value := (x.k, x.v)
theorem mxAt_shift (k : κ) : ∀ (es : List (MxE κ)) (j : Nat), mxAt k es (j + 1) = (mxAt k es j).map fun p => (p.1 + 1, p.2)
  | [], _ => rfl
  | x :: es, j => by
    unfold mxAt
    by_cases h : x.k = k
    · rw [if_pos h, if_pos h]; rfl
    · rw [if_neg h, if_neg h, mxAt_shift k es (j + 1)]
theorem mxGet_cons (k : κ) (x : MxE κ) (es : List (MxE κ)) : mxGet k (x :: es) = if x.k = k then some x.v else mxGet k es := by
  unfold mxGet
  rw [mxAt]
  by_cases h : x.k = k
  · rw [if_pos h, if_pos h]; rfl
  · rw [if_neg h, if_neg h, mxAt_shift]
    cases mxAt k es 0 <;> rfl
theorem mxUpd_cons (k : κ) (v : Value) (x : MxE κ) (es : List (MxE κ)) (clock : Nat) : ((mxUpd k v (x :: es) clock).1).map mxKV = if x.k = k then (k, v) :: es.map mxKV else (x.k, x.v) :: ((mxUpd k v es clock).1).map mxKV := by
  unfold mxUpd
  rw [mxAt]
  by_cases h : x.k = k
  · rw [if_pos h, if_pos h]
    dsimp only
    rw [List.set_cons_zero, List.map_cons]
    show ((x.k, v) :: _) = _
    rw [h]
  · rw [if_neg h, if_neg h, mxAt_shift]
    cases mxAt k es 0 with
    | none => rfl
    | some p =>
      show List.map mxKV ((x :: es).set (p.1 + 1) _) = _
      rw [List.set_cons_succ]
      rfl
theorem mxUpd_nil (k : κ) (v : Value) (clock : Nat) : ((mxUpd k v ([] : List (MxE κ)) clock).1).map mxKV = [(k, v)] := rfl
end
end Go.Vc
namespace Go.Proofs.YtfhdfpejjgmdcaaGreatDoor
attribute [local irreducible] Go.Vc.Run Go.Vc.RC Go.Vc.RQ Go.Vc.DR Go.Vc.DOp
open Go Go.Vc Go.Sha
def acKV (p : Int × AcD) : Int × Value := (p.1, p.2.v)
theorem mx_get (i : Int) : ∀ {es : List (MxE Int)} {l : Acs}, es.map mxKV = l.map acKV → mxGet i es = (acGet i l).map AcD.v
  | [], [], _ => rfl
  | [], _ :: _, h => by cases h
  | _ :: _, [], h => by cases h
  | x :: es, p :: l, h => by
    rw [List.map_cons, List.map_cons, List.cons.injEq] at h
    have h1 : x.k = p.1 := congrArg Prod.fst h.1
    have h2 : x.v = p.2.v := congrArg Prod.snd h.1
    rw [mxGet_cons, acGet_cons, h1, h2, mx_get i h.2]
    by_cases e : p.1 = i
    · rw [if_pos e, if_pos e]; rfl
    · rw [if_neg e, if_neg e]
theorem mx_set (i : Int) (a : AcD) (clock : Nat) : ∀ {es : List (MxE Int)} {l : Acs}, es.map mxKV = l.map acKV → ((mxUpd i a.v es clock).1).map mxKV = (acSet i a l).map acKV
  | [], [], _ => rfl
  | [], _ :: _, h => by cases h
  | _ :: _, [], h => by cases h
  | x :: es, p :: l, h => by
    rw [List.map_cons, List.map_cons, List.cons.injEq] at h
    have h1 : x.k = p.1 := congrArg Prod.fst h.1
    rw [mxUpd_cons, h1]
    unfold acSet
    by_cases e : p.1 = i
    · rw [if_pos e, if_pos e, h.2]; rfl
    · rw [if_neg e, if_neg e, mx_set i a clock h.2, List.map_cons]
      rw [← h1]
      exact congrArg (· :: _) h.1
/-- A ledger in memory. -/
structure AlP (ab : Nat) where
  tb : Nat
  mb : Nat
  kb : Nat
  x : Tr tb mb
  es : List (MxE Int)
  clock : Nat
  vO : Value
  bO : Hp
  s : LS
  mok : MxOk es clock
  he : es.map mxKV = s.acs.map acKV
  rp : RepT x (acF s.acs)
  ok : LsOk s
  hO : Own 66 9 vO s.out.length (rws OuD.c s.out) bO
def AlP.row {ab : Nat} (y : AlP ab) : Array Value := #[.int .i64 y.s.side, .map (some y.kb), .pointer (some ⟨y.tb, 0, none⟩), y.vO]
def AlP.L {ab : Nat} (y : AlP ab) : Hp := (ab, .cells y.row 72 (0, 0)) :: (y.kb, mxO (Value.int .i64) y.es y.clock) :: (y.x.L ++ y.bO)
theorem acTy : MxTy Tryz.prog 68 3 79 (Value.int .i64) (.agg (acC Z8 0 0).toArray) :=
  mxTy_int Tryz.underlying68 Tryz.underlying3 fun w => by
    obtain ⟨_, i, hi, _, _, hz⟩ := tabOk _ _ (show tiGet tab 79 = some _ from rfl)
    simp [zeroValue, typeInfo, hi, hz]
    rfl
set_option maxRecDepth 10000 in set_option maxHeartbeats 4000000 in
theorem acset_calls {ab : Nat} (y : AlP ab) (i : Nat) (hi : i < 65536) (a : AcD) (hok : LsOk { y.s with acs := acSet (i : Int) a y.s.acs }) (w : World) (hw : Has y.L w) (hnd : (y.L.map (·.1)).Nodup) (hK : Laid w) (hst : 0 ∉ y.L.map (·.1)) :
    Turns Tryz.prog 35 [.pointer (some ⟨ab, 0, none⟩), .int .i64 i, a.v] w y.L (Y := {z : AlP ab // z.s = { y.s with acs := acSet (i : Int) a y.s.acs }}) (fun _ => .tuple #[]) (fun z => z.1.L) := by
  refine enter Tryz.func35 rfl (Mem.init (S0 := y.L.map (·.1)) hw (fun p hp => List.mem_map_of_mem hp) hnd) rfl ?_
  have hsa : (acC a.o a.am a.no).toArray.size = 10 := by unfold acC; rw [List.size_toArray, List.length_append, u8s_len, a.h8.1]; rfl
  unfold AcD.v
  refine z_ ?_
  refine Run.nw (nbx) ?_
  intro b5
  have hlf := acLf_8 (i : Int) a
  obtain ⟨R, hR⟩ : ∃ R : Hp, R = y.x.L ++ y.bO := ⟨_, rfl⟩
  have hL0 : ((b5, Obj.cells (acC a.o a.am a.no).toArray 79 (0, 0)) :: y.L) = (b5, Obj.cells (acC a.o a.am a.no).toArray 79 (0, 0)) :: (ab, .cells #[.int .i64 y.s.side, .map (some y.kb), .pointer (some ⟨y.tb, 0, none⟩), y.vO] 72 (0, 0)) :: (y.kb, mxO (Value.int .i64) y.es y.clock) :: R := by rw [hR]; rfl
  rw [hL0]
  refine z_ ?_
  (repeat refine RC.seq ?_); refine RC.draw ([(b5, Obj.cells (acC a.o a.am a.no).toArray 79 (0, 0)), (ab, .cells #[.int .i64 y.s.side, .map (some y.kb), .pointer (some ⟨y.tb, 0, none⟩), y.vO] 72 (0, 0))]) mixed (N := 7) rfl ?_
  refine dt 0 ?_
  refine dt 1 ?_
  refine dt 2 ?_
  refine DR.t 3 rfl (vl (.map (some y.kb)) (arr := #[.int .i64 y.s.side, .map (some y.kb), .pointer (some ⟨y.tb, 0, none⟩), y.vO]) (hm := (by repeat (first | exact List.mem_cons_self | apply List.mem_cons_of_mem | apply List.mem_append_right)))) ?_
  refine dt 4 ?_
  refine DR.t 5 rfl (vla (arr := (acC a.o a.am a.no).toArray) (hv := hsa)) ?_
  refine DR.c 6 ?_
  refine DOp.op1 rfl (OpTo.mapUpdX (k := (i : Int)) (u := .agg (acC a.o a.am a.no).toArray) (es := y.es) (clock := y.clock) (L' := (b5, Obj.cells (acC a.o a.am a.no).toArray 79 (0, 0)) :: (ab, .cells #[.int .i64 y.s.side, .map (some y.kb), .pointer (some ⟨y.tb, 0, none⟩), y.vO] 72 (0, 0)) :: R) acTy rfl rfl rfl rfl rfl (perm_of fun f => by (simp only [List.map_append, List.map_cons, List.map_nil, List.sum_append, List.sum_cons, List.sum_nil] <;> omega))) (fun _ => ?_)
  refine DR.done (by kernel_rfl) ?_
  refine z_ ?_
  rw [hR]
  (repeat refine RC.seq ?_); refine RC.draw ([(b5, Obj.cells (acC a.o a.am a.no).toArray 79 (0, 0)), (ab, .cells #[.int .i64 y.s.side, .map (some y.kb), .pointer (some ⟨y.tb, 0, none⟩), y.vO] 72 (0, 0))]) mixed (N := 9) rfl ?_
  refine dt 0 ?_
  refine dt 1 ?_
  refine dt 2 ?_
  refine DR.t 3 rfl (vl (.pointer (some ⟨y.tb, 0, none⟩)) (arr := #[.int .i64 y.s.side, .map (some y.kb), .pointer (some ⟨y.tb, 0, none⟩), y.vO]) (hm := (by repeat (first | exact List.mem_cons_self | apply List.mem_cons_of_mem | apply List.mem_append_right)))) ?_
  refine dt 4 ?_
  refine dt 5 ?_
  refine DR.t 6 rfl (vla (arr := (acC a.o a.am a.no).toArray) (hv := hsa)) ?_
  refine DR.c 7 (DOp.op1 rfl (OpTo.cv Tryz.func66 (fun w' hm => TLeaf_calls (i : Int) a.o a.h8 a.am a.no w' (hK.fr hm.fr hst))) (fun _ => ?_))
  have hz : ((y.kb, mxO (Value.int .i64) (mxUpd (i : Int) (.agg (acC a.o a.am a.no).toArray) y.es y.clock).1 (mxUpd (i : Int) (.agg (acC a.o a.am a.no).toArray) y.es y.clock).2) :: (b5, Obj.cells (acC a.o a.am a.no).toArray 79 (0, 0)) :: (ab, .cells #[.int .i64 y.s.side, .map (some y.kb), .pointer (some ⟨y.tb, 0, none⟩), y.vO] 72 (0, 0)) :: (y.x.L ++ y.bO) : Hp).Perm (y.x.L ++ ((y.kb, mxO (Value.int .i64) (mxUpd (i : Int) (.agg (acC a.o a.am a.no).toArray) y.es y.clock).1 (mxUpd (i : Int) (.agg (acC a.o a.am a.no).toArray) y.es y.clock).2) :: (b5, Obj.cells (acC a.o a.am a.no).toArray 79 (0, 0)) :: (ab, .cells #[.int .i64 y.s.side, .map (some y.kb), .pointer (some ⟨y.tb, 0, none⟩), y.vO] 72 (0, 0)) :: y.bO)) := (perm_of fun f => by (simp only [List.map_append, List.map_cons, List.map_nil, List.sum_append, List.sum_cons, List.sum_nil] <;> omega))
  have hsx : 0 ∉ y.x.L.map (·.1) := fun h => hst (by
    obtain ⟨p, hp, e⟩ := List.mem_map.1 h
    exact List.mem_map.2 ⟨p, List.mem_cons_of_mem _ (List.mem_cons_of_mem _ (List.mem_append_left _ hp)), e⟩)
  refine DR.c 8 (DOp.op1 rfl (OpTo.callT Tryz.func65 hz (fun w' hm => TPut_calls y.x (acF y.s.acs) (acF_ok _) y.rp (i : Int) (acLf (i : Int) a) hlf w' (hm.part hz).1 (hm.part hz).2 (hK.fr hm.fr hst) hsx)) ?_)
  rintro ⟨x2, hx2⟩
  have e2 : putF (acF y.s.acs) (i : Int) (acLf (i : Int) a) = acF (acSet (i : Int) a y.s.acs) := by
    unfold putF
    rw [if_pos (by omega), Int.toNat_natCast, acF_set]
  rw [e2] at hx2
  dsimp only
  refine DR.done (by kernel_rfl) ?_
  refine RQ.endN rfl fun w' hm => Turns.of (Y := {z : AlP ab // z.s = { y.s with acs := acSet (i : Int) a y.s.acs }}) (V := fun _ => .tuple #[]) (L' := fun z => z.1.L) (Lst := y.L) ⟨⟨y.tb, y.mb, y.kb, x2, (mxUpd (i : Int) a.v y.es y.clock).1, (mxUpd (i : Int) a.v y.es y.clock).2, y.vO, y.bO, { y.s with acs := acSet (i : Int) a y.s.acs }, (mxUpd_ok y.mok).1, mx_set _ _ _ y.he, hx2, hok, y.hO⟩, rfl⟩ hm (Lr := [(b5, Obj.cells (acC a.o a.am a.no).toArray 79 (0, 0))]) ?_
  unfold AlP.L AlP.row AcD.v
  exact (perm_of fun f => by (simp only [List.map_append, List.map_cons, List.map_nil, List.sum_append, List.sum_cons, List.sum_nil] <;> omega))
end Go.Proofs.YtfhdfpejjgmdcaaGreatDoor

/- account: New, made, Get, Root, Prove. -/
namespace Go.Vc
open Go Go.Sha
theorem Val.mapNe {P : Program} {n : Nat} {w0 : World} {S0 : List Nat} {E : Env} {L : Hp} {o : Oper} {t k e : TypeId} (hu : P.underlying t = some (.map k e)) {x y : Operand} {b t2 : Nat} (ho : o.op = .binOp .neq t x y t2) (hx : lk E x = some (.map (some b))) (hy : lk E y = some (.map none)) : Val P n w0 S0 E L o (.bool true) := by
  intro ac w hs _
  have hg : (eqGuard .neq t x y (.map (some b)) (.map none)).run P w = .ok () w := by simp [eqGuard]
  have he : (Op.equal t (.map (some b)) (.map none)).run P w = .ok false w := run_equalIn_map 9999 hu b w
  simp [execOp, ho, hs.eval hx, hs.eval hy, hg, binOp, he]
end Go.Vc
namespace Go.Proofs.YtfhdfpejjgmdcaaGreatDoor
attribute [local irreducible] Go.Vc.Run Go.Vc.RC Go.Vc.RQ Go.Vc.DR Go.Vc.DOp
open Go Go.Vc Go.Sha
def acCells : Option AcD → List Value
  | some a => acC a.o a.am a.no
  | none => acC Z8 0 0
theorem acCells_len (a : Option AcD) : (acCells a).toArray.size = 10 := by
  cases a with
  | none => rfl
  | some a => unfold acCells acC; rw [List.size_toArray, List.length_append, u8s_len, a.h8.1]; rfl
theorem acCells_one (a : Option AcD) : ∀ u ∈ (acCells a).toArray.toList, u.oneCell' = true := by
  have key : ∀ (o : List Nat) (am no : Int), ∀ u ∈ acC o am no, u.oneCell' = true := fun o am no u hu => by
    unfold acC at hu
    rcases List.mem_append.1 hu with hu | hu
    · exact u8s_one _ u hu
    · simp only [List.mem_cons, List.not_mem_nil, or_false] at hu
      rcases hu with rfl | rfl <;> rfl
  intro u hu
  rw [List.toList_toArray] at hu
  cases a with
  | none => exact key _ _ _ u hu
  | some a => exact key _ _ _ u hu
theorem ac_getD {i : Int} {es : List (MxE Int)} {l : Acs} (h : es.map mxKV = l.map acKV) : (mxGet i es).getD (.agg (acC Z8 0 0).toArray) = .agg (acCells (acGet i l)).toArray ∧ (mxGet i es).isSome = (acGet i l).isSome := by
  rw [mx_get i h]
  cases acGet i l <;> exact ⟨rfl, rfl⟩
section
variable {ab : Nat} (y : AlP ab)
theorem AlP.cell {w : World} (hw : Has y.L w) (k : Nat) : w.cell? ⟨ab, k, none⟩ = y.row[k]? := by
  rw [cell_of_row w ab k _ _ _ (hw _ List.mem_cons_self)]
theorem AlP.map {w : World} (hw : Has y.L w) : w.heap[y.kb]? = some (mxO (Value.int .i64) y.es y.clock) := hw (y.kb, mxO (Value.int .i64) y.es y.clock) m1
theorem AlP.tree {w : World} (hw : Has y.L w) : Has y.x.L w := fun q hq => hw q (List.mem_cons_of_mem _ (List.mem_cons_of_mem _ (List.mem_append_left _ hq)))
set_option maxRecDepth 10000 in set_option maxHeartbeats 4000000 in
theorem made_calls (w : World) (hw : Has y.L w) : Gives Tryz.prog 31 [.pointer (some ⟨ab, 0, none⟩)] (.bool true) w := by
  refine enter Tryz.func31 rfl (Mem.nil w []) rfl ?_
  have hc := y.cell hw 1
  change w.cell? ⟨ab, 1, none⟩ = some (.map (some y.kb)) at hc
  refine z_ ?_
  refine Run.a (Val.ptrNe3 tabOk rfl rfl rfl rfl rfl) ?_
  refine z_ ?_
  refine Run.a (vlo hc) ?_
  refine Run.a (Val.mapNe Tryz.underlying68 rfl rfl rfl) ?_
  refine z_ ?_
  exact RQ.ret1 rfl (Res.tmp rfl) fun w' hm => ⟨rfl, hm.fr⟩
set_option maxRecDepth 10000 in set_option maxHeartbeats 4000000 in
theorem AGet_calls (i : Int) (w : World) (hw : Has y.L w) : Gives Tryz.prog 54 [.pointer (some ⟨ab, 0, none⟩), .int .i64 i] (.tuple #[.agg (acCells (acGet i y.s.acs)).toArray, .bool (acGet i y.s.acs).isSome]) w := by
  refine enter Tryz.func54 rfl (Mem.nil w []) rfl ?_
  have hc := y.cell hw 1
  change w.cell? ⟨ab, 1, none⟩ = some (.map (some y.kb)) at hc
  have hd := ac_getD (i := i) y.he
  have hsz := acCells_len (acGet i y.s.acs)
  have hon := acCells_one (acGet i y.s.acs)
  have hlk := fun (E : Env) (L : Hp) (o : Oper) (x z : Operand) h1 h2 h3 h4 => Val.lookupX (n := Tryz.f54.ntmps) (w0 := w) (S0 := []) (E := E) (L := L) (o := o) acTy (x := x) (y := z) (b := y.kb) (clock := y.clock) (k := i) (es := y.es) (ok := true) h1 h2 h3 h4
  simp only [if_true] at hlk
  rw [hd.1, hd.2] at hlk
  generalize acCells (acGet i y.s.acs) = cs at hsz hon hlk ⊢
  generalize (acGet i y.s.acs).isSome = bk at hlk ⊢
  refine z_ ?_
  refine Run.nw nal ?_
  intro b4
  refine z_ ?_
  refine Run.a (vlo hc) ?_
  refine z_ ?_
  refine Run.a (hlk _ _ _ _ _ rfl rfl rfl (fun w' hm => hm.old (y.map hw))) ?_
  refine z_ ?_
  refine Run.nw nal ?_
  intro b6
  refine Run.op1 (osa cs.toArray hon (hs := hsz) (hf := by kernel_rfl)) (fun _ => ?_)
  refine z_ ?_
  refine Run.a (vla (arr := cs.toArray) (hv := hsz)) ?_
  refine z_ ?_
  refine Run.op1 (osa cs.toArray hon (hL := p1) (hs := hsz) (hf := by kernel_rfl)) (fun _ => ?_)
  refine z_ ?_
  exact RQ.ret2 rfl (Res.cellAll tabOk rfl rfl rfl m0 hsz) (Res.tmp rfl) fun w' hm => ⟨rfl, hm.fr⟩
set_option maxRecDepth 10000 in set_option maxHeartbeats 4000000 in
theorem ARoot_calls (w : World) (hw : Has y.L w) : Gives Tryz.prog 26 [.pointer (some ⟨ab, 0, none⟩)] (.agg (u8s (nodeF (acF y.s.acs) 16 0)).toArray) w := by
  refine enter Tryz.func26 rfl (Mem.nil w []) rfl ?_
  have hc := y.cell hw 2
  change w.cell? ⟨ab, 2, none⟩ = some (.pointer (some ⟨y.tb, 0, none⟩)) at hc
  have h8 := nodeF_8 (acF_ok y.s.acs) 16 0
  have ct := fun w' hw' => TRoot_calls y.x w' hw'
  rw [y.rp.1 16 (Nat.le_refl _) 0] at ct
  generalize nodeF (acF y.s.acs) 16 0 = R at h8 ct ⊢
  have sR : (u8s R).toArray.size = 8 := by rw [List.size_toArray, u8s_len, h8.1]
  refine z_ ?_
  refine Run.nw nal ?_
  intro b2
  refine z_ ?_
  refine Run.a (vlo hc) ?_
  refine Run.op1 (OpTo.cv Tryz.func59 (fun w' hm => ct w' (fun q hq => hm.old (y.tree hw q hq)))) (fun _ => ?_)
  refine Run.op1 (osa (u8s R).toArray (u8s_one _) (hs := sR)) (fun _ => ?_)
  refine z_ ?_
  exact RQ.ret1 rfl (Res.cellAll tabOk rfl rfl rfl m0 sR) fun w' hm => ⟨rfl, hm.fr⟩
end
set_option maxRecDepth 10000 in set_option maxHeartbeats 4000000 in
theorem ANew_calls (side : Int) (w : World) : Turns Tryz.prog 5 [.int .i64 side] w [] (Y := {y : (ab : Nat) × AlP ab // y.2.s = ⟨side, [], []⟩}) (fun y => .pointer (some ⟨y.1.1, 0, none⟩)) (fun y => y.1.2.L) := by
  refine enter Tryz.func5 rfl (Mem.nil w []) rfl ?_
  refine z_ ?_
  refine Run.nw (New.makeMapX (κ := Int) (Value.int .i64) rfl) ?_
  intro kb
  have hz : ([(kb, mxO (Value.int .i64) ([] : List (MxE Int)) 0)] : Hp).Perm ([] ++ [(kb, mxO (Value.int .i64) ([] : List (MxE Int)) 0)]) := List.Perm.refl _
  refine Run.op1 (OpTo.callT Tryz.func28 hz (fun w' hm => TNew_calls w')) ?_
  rintro ⟨tb, mb⟩
  dsimp only
  refine Run.a (vbs #[.int .i64 side, .map (some kb), .pointer (some ⟨tb, 0, none⟩), .slice none 0 0]) ?_
  refine Run.nw nbx ?_
  intro ab
  refine z_ ?_
  have hok : LsOk ⟨side, [], []⟩ := ⟨acOk_nil, fun p hp => (by cases hp), fun p hp => (by cases hp), Nat.zero_le _, fun x hx => (by cases hx)⟩
  refine RQ.ret1 rfl (Res.tmp rfl) fun w' hm => Turns.of (Y := {y : (ab : Nat) × AlP ab // y.2.s = ⟨side, [], []⟩}) (V := fun y => .pointer (some ⟨y.1.1, 0, none⟩)) (L' := fun y => y.1.2.L) (Lst := []) ⟨⟨ab, ⟨tb, mb, kb, trNil tb mb, [], 0, .slice none 0 0, [], ⟨side, [], []⟩, mxOk_nil, rfl, rep_nil, hok, Own.nil⟩⟩, rfl⟩ hm (Lr := []) ?_
  unfold AlP.L AlP.row TrD.L trNil
  exact (perm_of fun f => by (simp only [List.map_append, List.map_cons, List.map_nil, List.sum_append, List.sum_cons, List.sum_nil] <;> omega))
end Go.Proofs.YtfhdfpejjgmdcaaGreatDoor

/- account: Credit. -/
namespace Go.Proofs.YtfhdfpejjgmdcaaGreatDoor
attribute [local irreducible] Go.Vc.Run Go.Vc.RC Go.Vc.RQ Go.Vc.DR Go.Vc.DOp
open Go Go.Vc Go.Sha
set_option maxRecDepth 10000 in set_option maxHeartbeats 4000000 in
theorem MAddW_calls (a b : Int) (w : World) : Gives Tryz.prog 34 [.int .i64 a, .int .i64 b] (.tuple #[.int .i64 (if bothM a b (a + b) then a + b else 0), .bool (bothM a b (a + b))]) w := by
  by_cases h : -9223372036854775808 ≤ a + b ∧ a + b ≤ 9223372036854775807
  · exact MAdd_calls a b h w
  · have hn : ¬ (mayM a = true ∧ mayM b = true) := by
      rintro ⟨h1, h2⟩
      have h1' := of_decide_eq_true h1
      have h2' := of_decide_eq_true h2
      unfold maxM at h1' h2'
      omega
    have e : ∀ n, bothM a b n = false := fun n => by
      unfold bothM
      cases h1 : mayM a with
      | false => rfl
      | true =>
        cases h2 : mayM b with
        | false => rfl
        | true => exact absurd ⟨h1, h2⟩ hn
    refine enter Tryz.func34 rfl (Mem.nil w []) rfl ?_
    have c1 := both_calls a b (IntKind.i64.wrap (a + b)) 
    rw [e] at c1
    rw [e]
    refine z_ ?_
    refine Run.op1 (OpTo.cv Tryz.func64 (fun w' _ => c1 w')) (fun _ => ?_)
    refine z_ ?_
    exact RQ.ret2 rfl (Res.tmp rfl) (Res.tmp rfl) fun w' hm => ⟨rfl, hm.fr⟩
def fwC (sd ac : Int) (o : List Nat) (am : Int) : List Value := .int .i64 sd :: .int .i64 ac :: (u8s o ++ [.int .i64 am])
theorem addOk {a b : Int} (ha : 0 ≤ a ∧ a ≤ maxM) : bothM a b (a + b) = decide (0 ≤ b ∧ b ≤ maxM ∧ a + b ≤ maxM) := by
  unfold bothM mayM
  rw [decide_eq_true ha, Bool.true_and]
  by_cases h : 0 ≤ b ∧ b ≤ maxM ∧ a + b ≤ maxM
  · rw [decide_eq_true h, decide_eq_true (by omega), decide_eq_true (by omega)]; rfl
  · rw [decide_eq_false h]
    by_cases h1 : 0 ≤ b ∧ b ≤ maxM
    · rw [decide_eq_true h1, decide_eq_false (by omega)]; rfl
    · rw [decide_eq_false h1]; rfl
set_option maxRecDepth 10000 in set_option maxHeartbeats 4000000 in
theorem ACredit_calls {ab : Nat} (y : AlP ab) (sd ac : Int) (o : List Nat) (ho : H8 o) (am : Int) (w : World) (hw : Has y.L w) (hnd : (y.L.map (·.1)).Nodup) (hK : Laid w) (hst : 0 ∉ y.L.map (·.1)) :
    Turns Tryz.prog 8 [.pointer (some ⟨ab, 0, none⟩), .agg (fwC sd ac o am).toArray] w y.L (Y := {z : AlP ab // z.s = crS y.s sd ac o ho am}) (fun _ => .bool (decide (crOk y.s sd ac o am))) (fun z => z.1.L) := by
  refine enter Tryz.func8 rfl (Mem.init (S0 := y.L.map (·.1)) hw (fun p hp => List.mem_map_of_mem hp) hnd) rfl ?_
  have hlo := ho.1
  obtain ⟨o0, o1, o2, o3, o4, o5, o6, o7, rfl⟩ := len8 hlo
  obtain ⟨O, hO⟩ : ∃ O, O = [o0, o1, o2, o3, o4, o5, o6, o7] := ⟨_, rfl⟩
  have hA0 : rdAt ti3 (fwC sd ac O am).toArray 0 = some (.int .i64 sd) := rfl
  have hA1 : rdAt ti3 (fwC sd ac O am).toArray 1 = some (.int .i64 ac) := rfl
  have hA10 : rdAt ti3 (fwC sd ac O am).toArray 10 = some (.int .i64 am) := by rw [hO]; rfl
  have hbad : ¬ crOk y.s sd ac [o0, o1, o2, o3, o4, o5, o6, o7] am → crS y.s sd ac [o0, o1, o2, o3, o4, o5, o6, o7] ho am = y.s := fun h => if_neg h
  have sO : (u8s O).length = 8 := by rw [hO]; rfl
  have lO : O.length = 8 := by rw [hO]; rfl
  generalize hF : fwC sd ac O am = F at hA0 hA1 hA10
  rw [show fwC sd ac [o0, o1, o2, o3, o4, o5, o6, o7] am = F from by rw [← hF, hO]]
  obtain ⟨R, hR⟩ : ∃ R : Hp, R = (y.kb, mxO (Value.int .i64) y.es y.clock) :: (y.x.L ++ y.bO) := ⟨_, rfl⟩
  have hL0 : y.L = (ab, .cells #[.int .i64 y.s.side, .map (some y.kb), .pointer (some ⟨y.tb, 0, none⟩), y.vO] 72 (0, 0)) :: R := by rw [hR]; rfl
  refine z_ ?_
  refine Run.nw (nbx) ?_
  intro b3
  refine z_ ?_
  have hrd : ∀ {S0 : List Nat} {L : Hp}, (b3, Obj.cells F.toArray 35 (0, 0)) ∈ L → Rd w S0 L ⟨b3, 2, none⟩ (u8s O) := fun hm => Rd.row hm (fun j u hj => by
    rw [List.getElem?_toArray, ← hF]
    unfold fwC
    rw [show 2 + j = j + 1 + 1 by omega, List.getElem?_cons_succ, List.getElem?_cons_succ, List.getElem?_append_left (List.getElem?_eq_some_iff.1 hj).1]
    exact hj)
  have hmade := fun {S0 : List Nat} {w' : World} (hm : Mem w S0 ((b3, Obj.cells F.toArray 35 (0, 0)) :: y.L) w') => made_calls y w' (fun q hq => hm.has q (List.mem_cons_of_mem _ hq))
  (repeat refine RC.seq ?_); refine RC.drawS mixed (N := 28) rfl ?_
  refine dt 0 ?_
  refine DR.c 1 (DOp.op1 rfl (OpTo.cv Tryz.func31 (fun w' hm => hmade hm)) (fun _ => ?_))
  refine dt 2 ?_
  refine dt 3 ?_
  refine dt 4 ?_
  refine DR.t 5 rfl (vl (.int .i64 sd) (hm := (by repeat (first | exact List.mem_cons_self | apply List.mem_cons_of_mem | apply List.mem_append_right))) (hv := hA0)) ?_
  refine dt 6 ?_
  refine dt 7 ?_
  refine dt 8 ?_
  refine DR.t 9 rfl (vl (.int .i64 y.s.side) (arr := y.row) (hm := (by repeat (first | exact List.mem_cons_self | apply List.mem_cons_of_mem | apply List.mem_append_right)))) ?_
  by_cases q1 : sd = y.s.side
  case neg =>
    have hno : ¬ crOk y.s sd ac [o0, o1, o2, o3, o4, o5, o6, o7] am := fun h => q1 h.1
    rw [decide_eq_false hno]
    refine DR.t 10 rfl (Val.nef) ?_
    refine dt 11 ?_
    refine dt 12 ?_
    refine DR.p 13 rfl ?_
    refine DR.p 14 rfl ?_
    refine DR.cp 15 rfl ?_
    refine DR.p 16 rfl ?_
    refine dt 17 ?_
    refine dt 18 ?_
    refine DR.p 19 rfl ?_
    refine DR.p 20 rfl ?_
    refine DR.p 21 rfl ?_
    refine dt 22 ?_
    refine dt 23 ?_
    refine DR.p 24 rfl ?_
    refine DR.p 25 rfl ?_
    refine DR.cp 26 rfl ?_
    refine dt 27 ?_
    refine DR.done (by kernel_rfl) ?_
    refine z_ ?_
    exact RQ.ret1 rfl (Res.tmp rfl) fun w' hm => Turns.of (Y := {z : AlP ab // z.s = crS y.s sd ac [o0, o1, o2, o3, o4, o5, o6, o7] ho am}) (V := fun _ => .bool false) (L' := fun z => z.1.L) (Lst := y.L) ⟨y, (hbad hno).symm⟩ hm (Lr := [(b3, Obj.cells F.toArray 35 (0, 0))]) (perm_of fun f => by (simp only [List.map_append, List.map_cons, List.map_nil, List.sum_append, List.sum_cons, List.sum_nil] <;> omega))
  refine DR.t 10 rfl (Val.nes) ?_
  refine dt 11 ?_
  refine dt 12 ?_
  refine dt 13 ?_
  refine DR.t 14 rfl (vl (.int .i64 ac) (hm := (by repeat (first | exact List.mem_cons_self | apply List.mem_cons_of_mem | apply List.mem_append_right))) (hv := hA1)) ?_
  refine DR.c 15 (DOp.op1 rfl (OpTo.cv Tryz.func32 (fun w' _ => place_calls ac w')) (fun _ => ?_))
  by_cases q2 : 0 ≤ ac ∧ ac ≤ 65535
  case neg =>
    have hno : ¬ crOk y.s sd ac [o0, o1, o2, o3, o4, o5, o6, o7] am := fun h => q2 (by have := h.2.1; omega)
    rw [decide_eq_false hno, decide_eq_false q2]
    refine dt 16 ?_
    refine dt 17 ?_
    refine dt 18 ?_
    refine DR.p 19 rfl ?_
    refine DR.p 20 rfl ?_
    refine DR.p 21 rfl ?_
    refine dt 22 ?_
    refine dt 23 ?_
    refine DR.p 24 rfl ?_
    refine DR.p 25 rfl ?_
    refine DR.cp 26 rfl ?_
    refine dt 27 ?_
    refine DR.done (by kernel_rfl) ?_
    refine z_ ?_
    exact RQ.ret1 rfl (Res.tmp rfl) fun w' hm => Turns.of (Y := {z : AlP ab // z.s = crS y.s sd ac [o0, o1, o2, o3, o4, o5, o6, o7] ho am}) (V := fun _ => .bool false) (L' := fun z => z.1.L) (Lst := y.L) ⟨y, (hbad hno).symm⟩ hm (Lr := [(b3, Obj.cells F.toArray 35 (0, 0))]) (perm_of fun f => by (simp only [List.map_append, List.map_cons, List.map_nil, List.sum_append, List.sum_cons, List.sum_nil] <;> omega))
  rw [decide_eq_true q2]
  refine dt 16 ?_
  refine dt 17 ?_
  refine dt 18 ?_
  refine dt 19 ?_
  refine DR.t 20 rfl (vl (.int .i64 am) (hm := (by repeat (first | exact List.mem_cons_self | apply List.mem_cons_of_mem | apply List.mem_append_right))) (hv := hA10)) ?_
  by_cases q3 : 1 ≤ am
  case neg =>
    have hno : ¬ crOk y.s sd ac [o0, o1, o2, o3, o4, o5, o6, o7] am := fun h => q3 h.2.2.1.1
    rw [decide_eq_false hno]
    refine DR.t 21 rfl (Val.eq (Val.of rfl) (show _ = Value.bool true from congrArg Value.bool (decide_eq_true (by omega)))) ?_
    refine dt 22 ?_
    refine dt 23 ?_
    refine DR.p 24 rfl ?_
    refine DR.p 25 rfl ?_
    refine DR.cp 26 rfl ?_
    refine dt 27 ?_
    refine DR.done (by kernel_rfl) ?_
    refine z_ ?_
    exact RQ.ret1 rfl (Res.tmp rfl) fun w' hm => Turns.of (Y := {z : AlP ab // z.s = crS y.s sd ac [o0, o1, o2, o3, o4, o5, o6, o7] ho am}) (V := fun _ => .bool false) (L' := fun z => z.1.L) (Lst := y.L) ⟨y, (hbad hno).symm⟩ hm (Lr := [(b3, Obj.cells F.toArray 35 (0, 0))]) (perm_of fun f => by (simp only [List.map_append, List.map_cons, List.map_nil, List.sum_append, List.sum_cons, List.sum_nil] <;> omega))
  refine DR.t 21 rfl (Val.eq (Val.of rfl) (show _ = Value.bool false from congrArg Value.bool (decide_eq_false (by omega)))) ?_
  refine dt 22 ?_
  refine dt 23 ?_
  refine dt 24 ?_
  refine DR.t 25 rfl (Val.loadR tabOk (cs := u8s O) rfl rfl rfl rfl sO (hrd (by repeat (first | exact List.mem_cons_self | apply List.mem_cons_of_mem | apply List.mem_append_right)))) ?_
  refine DR.c 26 (DOp.op1 rfl (OpTo.cv Tryz.func33 (fun w' _ => Zero_calls O lO w')) (fun _ => ?_))
  by_cases q4 : O = Z8
  · have hno : ¬ crOk y.s sd ac [o0, o1, o2, o3, o4, o5, o6, o7] am := fun h => h.2.2.2.1 (by rw [← hO]; exact q4)
    rw [decide_eq_false hno, show decide (O = List.replicate 8 0) = true from decide_eq_true q4]
    refine dt 27 ?_
    refine DR.done (by kernel_rfl) ?_
    refine z_ ?_
    exact RQ.ret1 rfl (Res.tmp rfl) fun w' hm => Turns.of (Y := {z : AlP ab // z.s = crS y.s sd ac [o0, o1, o2, o3, o4, o5, o6, o7] ho am}) (V := fun _ => .bool false) (L' := fun z => z.1.L) (Lst := y.L) ⟨y, (hbad hno).symm⟩ hm (Lr := [(b3, Obj.cells F.toArray 35 (0, 0))]) (perm_of fun f => by (simp only [List.map_append, List.map_cons, List.map_nil, List.sum_append, List.sum_cons, List.sum_nil] <;> omega))
  rw [show decide (O = List.replicate 8 0) = false from decide_eq_false q4]
  refine dt 27 ?_
  refine DR.done (by kernel_rfl) ?_
  refine z_ ?_
  have hO8 : H8 O := by rw [hO]; exact ho
  obtain ⟨a0, ha0⟩ : ∃ a0 : AcD, a0 = (match acGet ac y.s.acs with | some a => a | none => ⟨O, 0, 0, hO8⟩) := ⟨_, rfl⟩
  have hd := ac_getD (i := ac) y.he
  have hsz := acCells_len (acGet ac y.s.acs)
  have hon := acCells_one (acGet ac y.s.acs)
  obtain ⟨R2, hR2⟩ : ∃ R2 : Hp, R2 = (b3, Obj.cells F.toArray 35 (0, 0)) :: y.L := ⟨_, rfl⟩
  (repeat refine RC.seq ?_); refine RC.drawS mixed (N := 13) rfl ?_
  refine dt 0 ?_
  refine dt 1 ?_
  refine dt 2 ?_
  refine DR.t 3 rfl (vl (.map (some y.kb)) (arr := y.row) (hm := (by repeat (first | exact List.mem_cons_self | apply List.mem_cons_of_mem | apply List.mem_append_right)))) ?_
  refine dt 4 ?_
  refine DR.t 5 rfl (vl (.int .i64 ac) (hm := (by repeat (first | exact List.mem_cons_self | apply List.mem_cons_of_mem | apply List.mem_append_right))) (hv := hA1)) ?_
  refine DR.t 6 rfl (Val.eq (Val.lookupX (k := ac) (es := y.es) (clock := y.clock) (ok := true) acTy rfl rfl rfl (fun w' hm => hm.has (y.kb, mxO (Value.int .i64) y.es y.clock) m2)) (show _ = Value.tuple #[.agg (acCells (acGet ac y.s.acs)).toArray, .bool (acGet ac y.s.acs).isSome] from by rw [if_pos rfl, hd.1, hd.2])) ?_
  refine dt 7 ?_
  refine dt 8 ?_
  refine dt 9 ?_
  refine DR.c 10 ?_
  refine DOp.op1 rfl (OpTo.new rfl rfl (nal)) ?_
  intro b5
  refine DR.c 11 ?_
  refine DOp.op1 rfl (osa (L' := (b3, Obj.cells F.toArray 35 (0, 0)) :: y.L) (acCells (acGet ac y.s.acs)).toArray hon (hs := hsz) (hf := by kernel_rfl)) (fun _ => ?_)
  refine DR.c 12 ?_
  refine DOp.vl rfl (Val.of rfl) ?_
  refine DR.done (by kernel_rfl) ?_
  refine RQ.next ?_
  refine RC.seq ?_
  refine RC.thenCut (Y := Unit) (fun _ => [(5, .pointer (some ⟨b5, 0, none⟩)), (3, .pointer (some ⟨b3, 0, none⟩)), (0, .pointer (some ⟨ab, 0, none⟩))]) (fun _ => (b5, Obj.cells (acC a0.o a0.am a0.no).toArray 79 (0, 0)) :: (b3, Obj.cells F.toArray 35 (0, 0)) :: y.L) ?_ (fun _ => ?_)
  · cases hg : acGet ac y.s.acs with
    | some a =>
      rw [hg] at ha0
      dsimp only at ha0
      rw [ha0]
      refine z_ ?_
      exact RQ.toP () ⟨rfl, rfl, rfl, trivial⟩ (List.Perm.refl _) (List.Sublist.refl _)
    | none =>
      rw [hg] at ha0
      dsimp only at ha0
      rw [ha0]
      refine z_ ?_
      refine Run.a (Val.loadR tabOk (cs := u8s O) rfl rfl rfl rfl sO (hrd (by repeat (first | exact List.mem_cons_self | apply List.mem_cons_of_mem | apply List.mem_append_right)))) ?_
      refine z_ ?_
      refine Run.op1 (ost (ti := ti33) (off := 0) (v := .agg (u8s O).toArray) (arr := (acC Z8 0 0).toArray) (e := 79) (L' := (b3, Obj.cells F.toArray 35 (0, 0)) :: y.L) (acC O 0 0).toArray (by rw [hO]; rfl) (by show 0 + 8 ≤ 10; decide) (fun u hu => u8s_one O u (by simpa [Value.cells] using hu)) (hs := by simp only [Value.cells, List.size_toArray]; rw [sO]; rfl)) (fun _ => ?_)
      refine z_ ?_
      exact RQ.toP () ⟨rfl, rfl, rfl, trivial⟩ (List.Perm.refl _) (List.Sublist.refl _)
  have ham0 : 0 ≤ a0.am ∧ a0.am ≤ maxM := by
    rw [ha0]
    cases hg : acGet ac y.s.acs with
    | some a => exact y.ok.am _ (acGet_in hg)
    | none => exact ⟨Int.le_refl 0, by unfold maxM; show (0 : Int) ≤ _; omega⟩
  have hcr : crOk y.s sd ac [o0, o1, o2, o3, o4, o5, o6, o7] am ↔ 0 ≤ am ∧ am ≤ maxM ∧ a0.am + am ≤ maxM := by
    rw [ha0]
    unfold crOk
    cases hg : acGet ac y.s.acs with
    | some a =>
      dsimp only
      constructor
      · intro h; exact ⟨by omega, h.2.2.1.2, h.2.2.2.2⟩
      · intro h; exact ⟨q1, by omega, ⟨q3, h.2.1⟩, by rw [← hO]; exact q4, h.2.2⟩
    | none =>
      dsimp only
      constructor
      · intro h; exact ⟨by omega, h.2.2.1.2, by omega⟩
      · intro h; exact ⟨q1, by omega, ⟨q3, h.2.1⟩, by rw [← hO]; exact q4, trivial⟩
  have hto : crTo y.s ac [o0, o1, o2, o3, o4, o5, o6, o7] ho am = { a0 with am := a0.am + am } := by
    rw [ha0]
    unfold crTo
    cases hg : acGet ac y.s.acs with
    | some a => rfl
    | none => simp [hO]
  obtain ⟨oo, amm, noo, hoo⟩ := a0
  clear ha0 hd hsz hon
  dsimp only at ham0 hcr hto ⊢
  have hoo8 := hoo.1
  obtain ⟨c0, c1, c2, c3, c4, c5, c6, c7, rfl⟩ := len8 hoo8
  have hadd := MAddW_calls amm am
  rw [addOk ham0] at hadd
  refine z_ ?_
  refine Run.a (vl (.int .i64 am) (hm := (by repeat (first | exact List.mem_cons_self | apply List.mem_cons_of_mem | apply List.mem_append_right))) (hv := hA10)) ?_
  refine Run.op1 (OpTo.cv Tryz.func34 (fun w' _ => hadd w')) (fun _ => ?_)
  by_cases hcc : crOk y.s sd ac [o0, o1, o2, o3, o4, o5, o6, o7] am
  case neg =>
    rw [decide_eq_false hcc, decide_eq_false (fun h => hcc (hcr.2 h))]
    refine z_ ?_
    exact RQ.ret1 rfl (Res.tmp rfl) fun w' hm => Turns.of (Y := {z : AlP ab // z.s = crS y.s sd ac [o0, o1, o2, o3, o4, o5, o6, o7] ho am}) (V := fun _ => .bool false) (L' := fun z => z.1.L) (Lst := y.L) ⟨y, (hbad hcc).symm⟩ hm (Lr := [(b5, Obj.cells (acC [c0, c1, c2, c3, c4, c5, c6, c7] amm noo).toArray 79 (0, 0)), (b3, Obj.cells F.toArray 35 (0, 0))]) (perm_of fun f => by (simp only [List.map_append, List.map_cons, List.map_nil, List.sum_append, List.sum_cons, List.sum_nil] <;> omega))
  have hcr2 := crS_ok y.ok sd ac [o0, o1, o2, o3, o4, o5, o6, o7] ho am
  have ecr : crS y.s sd ac [o0, o1, o2, o3, o4, o5, o6, o7] ho am = { y.s with acs := acSet ac { o := [c0, c1, c2, c3, c4, c5, c6, c7], am := amm + am, no := noo, h8 := hoo } y.s.acs } := by
    unfold crS
    rw [if_pos hcc, hto]
  rw [ecr] at hcr2 ⊢
  rw [decide_eq_true hcc, decide_eq_true (hcr.1 hcc), if_pos rfl]
  refine z_ ?_
  refine Run.op1 (os1 (off := 8) (v := .int .i64 (amm + am)) (arr := (acC [c0, c1, c2, c3, c4, c5, c6, c7] amm noo).toArray) (e := 79) (L' := (b3, Obj.cells F.toArray 35 (0, 0)) :: y.L) (acC [c0, c1, c2, c3, c4, c5, c6, c7] (amm + am) noo).toArray) (fun _ => ?_)
  refine z_ ?_
  refine Run.a (vl (.int .i64 ac) (hm := (by repeat (first | exact List.mem_cons_self | apply List.mem_cons_of_mem | apply List.mem_append_right))) (hv := hA1)) ?_
  refine Run.a (vla (arr := (acC [c0, c1, c2, c3, c4, c5, c6, c7] (amm + am) noo).toArray) (hv := rfl)) ?_
  obtain ⟨i, rfl⟩ := Int.eq_ofNat_of_zero_le q2.1
  have hz : ((b5, Obj.cells (acC [c0, c1, c2, c3, c4, c5, c6, c7] (amm + am) noo).toArray 79 (0, 0)) :: (b3, Obj.cells F.toArray 35 (0, 0)) :: y.L).Perm (y.L ++ [(b5, Obj.cells (acC [c0, c1, c2, c3, c4, c5, c6, c7] (amm + am) noo).toArray 79 (0, 0)), (b3, Obj.cells F.toArray 35 (0, 0))]) := (perm_of fun f => by (simp only [List.map_append, List.map_cons, List.map_nil, List.sum_append, List.sum_cons, List.sum_nil] <;> omega))
  refine Run.op1 (OpTo.callT Tryz.func35 hz (fun w' hm => acset_calls y i (by omega) { o := [c0, c1, c2, c3, c4, c5, c6, c7], am := amm + am, no := noo, h8 := hoo } hcr2 w' (hm.part hz).1 (hm.part hz).2 (hK.fr hm.fr hst) hst)) ?_
  rintro ⟨z, hz9⟩
  dsimp only
  refine z_ ?_
  exact RQ.ret1 rfl (Res.tmp rfl) fun w' hm => Turns.of (Y := {z : AlP ab // z.s = { y.s with acs := acSet (i : Int) { o := [c0, c1, c2, c3, c4, c5, c6, c7], am := amm + am, no := noo, h8 := hoo } y.s.acs }}) (V := fun _ => .bool true) (L' := fun z => z.1.L) (Lst := y.L) ⟨z, hz9⟩ hm (Lr := [(b5, Obj.cells (acC [c0, c1, c2, c3, c4, c5, c6, c7] (amm + am) noo).toArray 79 (0, 0)), (b3, Obj.cells F.toArray 35 (0, 0))]) (List.Perm.refl _)
end Go.Proofs.YtfhdfpejjgmdcaaGreatDoor

/- account: Total, Leaving, Close. -/
namespace Go.Proofs.YtfhdfpejjgmdcaaGreatDoor
attribute [local irreducible] Go.Vc.Run Go.Vc.RC Go.Vc.RQ Go.Vc.DR Go.Vc.DOp
open Go Go.Vc Go.Sha
theorem wrap_add64 (a b : Int) : IntKind.i64.wrap (IntKind.i64.wrap a + b) = IntKind.i64.wrap (a + b) := by
  simp only [IntKind.wrap, IntKind.bits, IntKind.signed]
  simp
  split <;> split <;> split <;> omega
theorem born_perm {κ : Type} {d es : List (MxE κ)} (h1 : (d.map (·.born)).Nodup) (h2 : (es.map (·.born)).Nodup) (hs : ∀ x ∈ d, x ∈ es) (ha : ∀ x ∈ es, (d.map (·.born)).toArray.contains x.born = true) : d.Perm es := by
  have inj : ∀ {x y : MxE κ}, x ∈ es → y ∈ es → x.born = y.born → x = y := by
    intro x y hx hy e
    obtain ⟨a, ha, rfl⟩ := List.mem_iff_getElem.1 hx
    obtain ⟨b, hb, rfl⟩ := List.mem_iff_getElem.1 hy
    have := (List.getElem_inj (h₀ := by simpa using ha) (h₁ := by simpa using hb) h2).1 (by simpa using e)
    subst this
    rfl
  have nd1 : d.Nodup := List.Pairwise.of_map (·.born) (fun a b h e => h (by rw [e])) h1
  have nd2 : es.Nodup := List.Pairwise.of_map (·.born) (fun a b h e => h (by rw [e])) h2
  rw [List.perm_ext_iff_of_nodup nd1 nd2]
  intro x
  refine ⟨hs x, fun hx => ?_⟩
  have := ha x hx
  rw [List.contains_toArray, List.contains_iff_mem] at this
  obtain ⟨y, hy, e⟩ := List.mem_map.1 this
  rw [← inj (hs y hy) hx e]
  exact hy
theorem perm_sum {l l' : List Int} (h : l.Perm l') : l.sum = l'.sum := by
  induction h with
  | nil => rfl
  | cons x _ ih => rw [List.sum_cons, List.sum_cons, ih]
  | swap x y l => simp only [List.sum_cons]; omega
  | trans _ _ a b => exact a.trans b
def amV (v : Value) : Int := match v with
  | .agg arr => match (arr[8]? : Option Value) with
    | some (Value.int _ z) => z
    | _ => 0
  | _ => 0
theorem amV_v (a : AcD) : amV a.v = a.am := by
  obtain ⟨o, am, no, ho⟩ := a
  have h8 := ho.1
  obtain ⟨o0, o1, o2, o3, o4, o5, o6, o7, rfl⟩ := len8 h8
  rfl
theorem tot_es {es : List (MxE Int)} {l : Acs} (h : es.map mxKV = l.map acKV) : (es.map fun x => amV x.v).sum = (l.map fun p => p.2.am).sum := by
  have e1 : es.map (fun x => amV x.v) = (es.map mxKV).map fun q => amV q.2 := by rw [List.map_map]; rfl
  rw [e1, h, List.map_map]
  congr 1
  apply List.map_congr_left
  intro p _
  exact amV_v p.2
theorem es_in {es : List (MxE Int)} {l : Acs} (h : es.map mxKV = l.map acKV) {x : MxE Int} (hx : x ∈ es) : ∃ a : AcD, x.v = a.v := by
  have : mxKV x ∈ l.map acKV := by rw [← h]; exact List.mem_map_of_mem hx
  obtain ⟨p, _, e⟩ := List.mem_map.1 this
  exact ⟨p.2, (congrArg Prod.snd e).symm⟩
section
variable {ab : Nat} (y : AlP ab)
set_option maxRecDepth 10000 in set_option maxHeartbeats 4000000 in
theorem ATotal_calls (w : World) (hw : Has y.L w) : Gives Tryz.prog 25 [.pointer (some ⟨ab, 0, none⟩)] (.int .i64 (IntKind.i64.wrap (totX y.s))) w := by
  refine enter Tryz.func25 rfl (Mem.nil w []) rfl ?_
  have hc := y.cell hw 1
  change w.cell? ⟨ab, 1, none⟩ = some (.map (some y.kb)) at hc
  have hmb := y.map hw
  have htot : totX y.s = (y.es.map fun x => amV x.v).sum := (tot_es y.he).symm
  refine z_ ?_
  refine Run.a (vlo hc) ?_
  refine Run.nw (New.rangeX Tryz.underlying68 rfl rfl (fun w' hm => hm.old hmb)) ?_
  intro b12
  refine z_ ?_
  refine RC.up y.es.length (D := List (MxE Int)) (fun i d => d.length = i ∧ (d.map (·.born)).Nodup ∧ ∀ z ∈ d, z ∈ y.es) (fun i d => [(12, .pointer (some ⟨b12, 0, none⟩)), (3, .int .i64 (IntKind.i64.wrap (d.map fun x => amV x.v).sum))]) (fun i d => [(b12, Obj.mapIter (some y.kb) y.clock (d.map (·.born)).toArray y.clock)]) 0 [] (Nat.zero_le _) ⟨rfl, List.nodup_nil, fun z hz => by cases hz⟩ ⟨rfl, rfl, trivial⟩ (List.Sublist.refl _) ?_
  rintro i d hi ⟨hdl, hdn, hds⟩
  (repeat refine RC.seq ?_); refine RC.region ?_
  refine Run.op1 (OpTo.nextX (κ := Int) (kv := Value.int .i64) (es := y.es) (mb := y.kb) (clock := y.clock) (seen := (d.map (·.born)).toArray) (L' := []) rfl rfl rfl rfl (List.Perm.refl _) (fun w' hm => hm.old hmb) y.mok.bn) ?_
  rintro ⟨e, he⟩
  cases e with
  | none =>
    dsimp only at he ⊢
    have hp := born_perm hdn y.mok.bd hds he
    rw [htot, ← perm_sum (hp.map fun x => amV x.v)]
    refine z_ ?_
    exact RQ.ret1 rfl (Res.tmp rfl) fun w' hm => ⟨rfl, hm.fr⟩
  | some e =>
    dsimp only at he ⊢
    obtain ⟨hem, hes⟩ := he
    have hnb : e.born ∉ d.map (·.born) := by
      intro h
      rw [List.contains_toArray] at hes
      rw [List.contains_iff_mem.2 h] at hes
      cases hes
    have hi' : i < y.es.length := by
      have nd1 : d.Nodup := List.Pairwise.of_map (·.born) (fun a b h e => h (by rw [e])) hdn
      have nd3 : (d ++ [e]).Nodup := by
        rw [List.nodup_append]
        refine ⟨nd1, by simp, fun a ha b hb => ?_⟩
        rw [List.mem_singleton] at hb
        subst hb
        rintro rfl
        exact hnb (List.mem_map_of_mem ha)
      have hsub : (d ++ [e]).length ≤ y.es.length := List.Nodup.length_le_of_subset nd3 (fun a ha => by
        rcases List.mem_append.1 ha with ha | ha
        · exact hds a ha
        · rw [List.mem_singleton] at ha; subst ha; exact hem)
      rw [List.length_append, List.length_singleton] at hsub
      omega
    have hpush : (d.map (·.born)).toArray.push e.born = ((d ++ [e]).map (·.born)).toArray := by
      apply Array.ext'; simp
    have hnd2 : ((d ++ [e]).map (·.born)).Nodup := by
      rw [List.map_append, List.nodup_append]
      refine ⟨hdn, by simp, fun a ha b hb => ?_⟩
      rw [List.map_cons, List.map_nil, List.mem_singleton] at hb
      subst hb
      rintro rfl
      exact hnb ha
    have hds2 : ∀ z ∈ d ++ [e], z ∈ y.es := fun z hz => by
      rcases List.mem_append.1 hz with hz | hz
      · exact hds z hz
      · rw [List.mem_singleton] at hz; subst hz; exact hem
    have hsum : IntKind.i64.wrap (IntKind.i64.wrap (d.map fun x => amV x.v).sum + amV e.v) = IntKind.i64.wrap ((d ++ [e]).map fun x => amV x.v).sum := by
      rw [wrap_add64, List.map_append, List.sum_append]; simp
    obtain ⟨⟨o, am, no, ho⟩, ha⟩ := es_in y.he hem
    have ho8 := ho.1
    obtain ⟨o0, o1, o2, o3, o4, o5, o6, o7, rfl⟩ := len8 ho8
    rw [ha, show amV (AcD.v ⟨[o0, o1, o2, o3, o4, o5, o6, o7], am, no, ho⟩) = am from rfl] at hsum
    refine z_ ?_
    refine Run.a (Val.entryX (kv := Value.int .i64) (es := y.es) (mb := y.kb) (clock := y.clock) (seen := (d.map (·.born)).toArray) (y := e) rfl rfl m0 (fun w' hm => hm.old hmb) hem y.mok.bd) ?_
    rw [ha]
    refine z_ ?_
    refine Run.nw nal ?_
    intro b5
    refine z_ ?_
    refine Run.op1 (osa (arr := (acC Z8 0 0).toArray) (acC [o0, o1, o2, o3, o4, o5, o6, o7] am no).toArray (acCells_one (some ⟨[o0, o1, o2, o3, o4, o5, o6, o7], am, no, ho⟩)) (hf := by kernel_rfl)) (fun _ => ?_)
    refine z_ ?_
    exact RQ.upS (i + 1) (d ++ [e]) (Nat.lt_succ_self _) hi' ⟨by rw [List.length_append, hdl]; rfl, hnd2, hds2⟩ ⟨rfl, congrArg (fun z => some (Value.int .i64 z)) hsum, trivial⟩ (L1 := [(b12, Obj.mapIter (some y.kb) y.clock ((d ++ [e]).map (·.born)).toArray y.clock)] ++ [(b5, Obj.cells (acC [o0, o1, o2, o3, o4, o5, o6, o7] am no).toArray 79 (0, 0))]) (by rw [hpush]; exact (perm_of fun f => by (simp only [List.map_append, List.map_cons, List.map_nil, List.sum_append, List.sum_cons, List.sum_nil] <;> omega))) (List.sublist_append_left _ _)
end
end Go.Proofs.YtfhdfpejjgmdcaaGreatDoor

/- account: Leaving, Close. -/
namespace Go.Proofs.YtfhdfpejjgmdcaaGreatDoor
attribute [local irreducible] Go.Vc.Run Go.Vc.RC Go.Vc.RQ Go.Vc.DR Go.Vc.DOp
open Go Go.Vc Go.Sha
section
variable {ab : Nat} (y : AlP ab)
set_option maxRecDepth 10000 in set_option maxHeartbeats 4000000 in
theorem ALeaving_calls (w : World) (hw : Has y.L w) : Gives Tryz.prog 27 [.pointer (some ⟨ab, 0, none⟩)] (.int .i64 (IntKind.i64.wrap (leavX y.s))) w := by
  refine enter Tryz.func27 rfl (Mem.nil w []) rfl ?_
  have hc := y.cell hw 3
  change w.cell? ⟨ab, 3, none⟩ = some y.vO at hc
  have hs := y.hO.srcW (w := w) fun q hq => hw q (List.mem_cons_of_mem _ (List.mem_cons_of_mem _ (List.mem_append_right _ hq)))
  have hol := y.ok.ol
  obtain ⟨aO, cO, evO, hcO⟩ := hs.shape
  rw [evO] at hc hs
  unfold leavX
  clear evO
  generalize y.s.out = l at hs hol hcO hc ⊢
  refine z_ ?_
  refine Run.a (vlo hc) ?_
  refine z_ ?_
  refine RC.up l.length (D := Unit) (fun _ _ => True) (fun k _ => [(13, .int .i64 k), (12, .int .i64 l.length), (11, .slice aO l.length cO), (3, .int .i64 (IntKind.i64.wrap ((l.take k).map (·.am)).sum))]) (fun _ _ => []) 0 () (Nat.zero_le _) trivial ⟨rfl, rfl, rfl, rfl, trivial⟩ (List.Sublist.refl _) ?_
  intro k _ hk _
  refine z_ ?_
  (repeat refine RC.seq ?_); refine RC.wh rfl (fun h => RQ.next ?_) (fun h => ?_)
  · have hk' : k < l.length := by have := of_decide_eq_true h; omega
    clear h
    obtain ⟨e, hx⟩ : ∃ e, l[k]? = some e := ⟨_, List.getElem?_eq_getElem hk'⟩
    obtain ⟨ad, c', hv', hc', hcl, hr⟩ := hs.pos (by omega)
    cases hv'
    have hload : ∀ j u, e.c[j]? = some u → w.cell? ((ad.add (k * 9)).add j) = some u := fun j u hj => by
      rw [add_add]; exact hr _ u (rws_at OuD.len hx j u hj)
    have hsum : IntKind.i64.wrap (IntKind.i64.wrap ((l.take k).map (·.am)).sum + e.am) = IntKind.i64.wrap ((l.take (k + 1)).map (·.am)).sum := by
      rw [wrap_add64, List.take_add_one, hx, Option.toList_some, List.map_append, List.sum_append]; simp
    have hel := e.len
    have heo := e.one
    obtain ⟨o, am, ho⟩ := e
    have ho8 := ho.1
    obtain ⟨o0, o1, o2, o3, o4, o5, o6, o7, rfl⟩ := len8 ho8
    dsimp only at hsum
    refine z_ ?_
    refine Run.a (vix k hk' (ad.add (k * 9))) ?_
    refine Run.a (vloA hload hel) ?_
    refine Run.nw nal ?_
    intro b5
    refine Run.op1 (osa (OuD.c ⟨[o0, o1, o2, o3, o4, o5, o6, o7], am, ho⟩).toArray heo (hs := hel) (hf := by kernel_rfl)) (fun _ => ?_)
    refine z_ ?_
    exact RQ.upS (k + 1) () (Nat.lt_succ_self _) hk' trivial ⟨rfl, rfl, rfl, congrArg (fun z => some (Value.int .i64 z)) hsum, trivial⟩ (List.Perm.refl _) (List.nil_sublist _)
  · have hk' : k = l.length := by have := of_decide_eq_false h; omega
    clear h
    subst hk'
    rw [List.take_length]
    (repeat refine RQ.thenExit ?_); refine RQ.blockHere ?_
    refine z_ ?_
    exact RQ.ret1 rfl (Res.tmp rfl) fun w' hm => ⟨rfl, hm.fr⟩
/-- .. with nothing that leaves. -/
def AlP.shut : AlP ab := ⟨y.tb, y.mb, y.kb, y.x, y.es, y.clock, .slice none 0 0, [], { y.s with out := [] }, y.mok, y.he, y.rp, ⟨y.ok.ok, y.ok.am, y.ok.no, Nat.zero_le _, fun x hx => by cases hx⟩, Own.nil⟩
set_option maxRecDepth 10000 in set_option maxHeartbeats 4000000 in
theorem AClose_calls (w : World) (hw : Has y.L w) (hnd : (y.L.map (·.1)).Nodup) :
    Turns Tryz.prog 17 [.pointer (some ⟨ab, 0, none⟩)] w y.L (Y := Unit) (fun _ => .tuple #[.agg (u8s (nodeF (acF y.s.acs) 16 0)).toArray, y.vO]) (fun _ => y.shut.L ++ y.bO) := by
  refine enter Tryz.func17 rfl (Mem.init (S0 := y.L.map (·.1)) hw (fun p hp => List.mem_map_of_mem hp) hnd) rfl ?_
  have h8 := nodeF_8 (acF_ok y.s.acs) 16 0
  have ct := fun w' hw' => ARoot_calls y.shut w' hw'
  change ∀ w', _ → Gives _ _ _ (.agg (u8s (nodeF (acF y.s.acs) 16 0)).toArray) w' at ct
  generalize nodeF (acF y.s.acs) 16 0 = R at h8 ct ⊢
  have sR : (u8s R).toArray.size = 8 := by rw [List.size_toArray, u8s_len, h8.1]
  obtain ⟨aO, cO, evO, hcO⟩ := y.hO.shape
  have hpm : ∀ (b2 : Nat), (((ab, Obj.cells #[.int .i64 y.s.side, .map (some y.kb), .pointer (some ⟨y.tb, 0, none⟩), .slice none 0 0] 72 (0, 0)) :: ((b2, Obj.cells (u8s R).toArray 33 (0, 0)) :: (y.kb, mxO (Value.int .i64) y.es y.clock) :: (y.x.L ++ y.bO)) : Hp)).Perm ((y.shut.L ++ y.bO) ++ [(b2, Obj.cells (u8s R).toArray 33 (0, 0))]) := fun b2 => by
    unfold AlP.shut AlP.L AlP.row
    exact (perm_of fun f => by (simp only [List.map_append, List.map_cons, List.map_nil, List.sum_append, List.sum_cons, List.sum_nil] <;> omega))
  have hshut : ∀ {S0 : List Nat} {w' : World} {b2 : Nat × Obj}, Mem w S0 ((ab, Obj.cells #[.int .i64 y.s.side, .map (some y.kb), .pointer (some ⟨y.tb, 0, none⟩), .slice none 0 0] 72 (0, 0)) :: b2 :: (y.kb, mxO (Value.int .i64) y.es y.clock) :: (y.x.L ++ y.bO)) w' → Has y.shut.L w' := fun hm q hq => hm.has q (by
    rcases List.mem_cons.1 hq with rfl | hq
    · exact m0
    · rcases List.mem_cons.1 hq with rfl | hq
      · exact m2
      · refine List.mem_cons_of_mem _ (List.mem_cons_of_mem _ (List.mem_cons_of_mem _ (List.mem_append_left _ ?_)))
        have h := hq
        rw [show y.shut.x.L ++ y.shut.bO = y.x.L ++ [] from rfl, List.append_nil] at h
        exact h)
  refine z_ ?_
  refine Run.nw nal ?_
  intro b2
  rw [show y.L = (ab, .cells #[.int .i64 y.s.side, .map (some y.kb), .pointer (some ⟨y.tb, 0, none⟩), y.vO] 72 (0, 0)) :: (y.kb, mxO (Value.int .i64) y.es y.clock) :: (y.x.L ++ y.bO) from rfl, evO]
  refine z_ ?_
  refine Run.op1 (os1 (off := 3) (v := .slice none 0 0) (arr := #[.int .i64 y.s.side, .map (some y.kb), .pointer (some ⟨y.tb, 0, none⟩), .slice aO y.s.out.length cO]) (e := 72) (L' := (b2, Obj.cells (u8s Z8).toArray 33 (0, 0)) :: (y.kb, mxO (Value.int .i64) y.es y.clock) :: (y.x.L ++ y.bO)) #[.int .i64 y.s.side, .map (some y.kb), .pointer (some ⟨y.tb, 0, none⟩), .slice none 0 0] (hL := p1)) (fun _ => ?_)
  refine z_ ?_
  refine Run.op1 (OpTo.cv Tryz.func26 (fun w' hm => ct w' (hshut hm))) (fun _ => ?_)
  refine z_ ?_
  refine Run.op1 (osa (arr := (u8s Z8).toArray) (e := 33) (L' := (ab, Obj.cells #[.int .i64 y.s.side, .map (some y.kb), .pointer (some ⟨y.tb, 0, none⟩), .slice none 0 0] 72 (0, 0)) :: (y.kb, mxO (Value.int .i64) y.es y.clock) :: (y.x.L ++ y.bO)) (u8s R).toArray (u8s_one _) (hs := sR) (hL := p1)) (fun _ => ?_)
  refine z_ ?_
  exact RQ.ret2 rfl (Res.cellAll tabOk rfl rfl rfl m0 sR) (Res.tmp rfl) fun w' hm => Turns.of (Y := Unit) (V := fun _ => .tuple #[.agg (u8s R).toArray, .slice aO y.s.out.length cO]) (L' := fun _ => y.shut.L ++ y.bO) (Lst := y.L) () hm (Lr := [(b2, Obj.cells (u8s R).toArray 33 (0, 0))]) (p1.trans (hpm b2))
end
end Go.Proofs.YtfhdfpejjgmdcaaGreatDoor
