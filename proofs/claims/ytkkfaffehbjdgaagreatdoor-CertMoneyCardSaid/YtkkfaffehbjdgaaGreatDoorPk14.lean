/- Lemmas. -/
import Derived.Test.YtkkfaffehbjdgaaGreatDoorPk13
set_option linter.unusedSimpArgs false
set_option linter.unusedVariables false
section
/- Trees of keys: plain, and how they lie in memory. -/
namespace Go.Sha
theorem cut_8 : cut 8 = 4 := by kernel_rfl
theorem cut_4 : cut 4 = 2 := by kernel_rfl
theorem cut_2 : cut 2 = 1 := by kernel_rfl
theorem turns_two (i : Nat) : (turnsN i 2).length = 1 := by
  by_cases h : i < cut 2
  · rw [turnsN_left (by decide) h, cut_2, turnsN_small (by decide)]; rfl
  · rw [turnsN_right (by decide) (by omega), cut_2, turnsN_small (by decide)]; rfl
theorem turns_four (i : Nat) : (turnsN i 4).length = 2 := by
  by_cases h : i < cut 4
  · rw [turnsN_left (by decide) h, cut_4, List.length_append, turns_two]; rfl
  · rw [turnsN_right (by decide) (by omega), cut_4, List.length_append, turns_two]; rfl
theorem turns_eight (i : Nat) : (turnsN i 8).length = 3 := by
  by_cases h : i < cut 8
  · rw [turnsN_left (by decide) h, cut_8, List.length_append, turns_four]; rfl
  · rw [turnsN_right (by decide) (by omega), cut_8, List.length_append, turns_four]; rfl
/-- The way of a key to its tree's root. -/
def wayOf (seed : List Nat) (i : Nat) : List (List Nat) := mprove (pubs seed 8) i
theorem wayOf_len (seed : List Nat) {i : Nat} (h : i < 8) : (wayOf seed i).length = 3 := by
  unfold wayOf
  rw [mprove_len 8 _ i (pubs_len _ _) h, turns_eight]
theorem wayOf_HL (seed : List Nat) (i : Nat) : HL (wayOf seed i) := mprove_mem (fun h => h.length = 8 ∧ ∀ x ∈ h, x < 256) (fun l => ⟨mroot_len l, mroot_lt l⟩) _ _ _ rfl
theorem wayOf_flat (seed : List Nat) {i : Nat} (h : i < 8) : (wayOf seed i).flatten.length = 24 := by rw [(wayOf_HL seed i).len, wayOf_len seed h]
theorem HL.flat_lt {l : List (List Nat)} (h : HL l) : ∀ x ∈ l.flatten, x < 256 := by
  intro x hx
  obtain ⟨y, hy, hx⟩ := List.mem_flatten.1 hx
  exact (h y hy).2 x hx
/-- Three hashes from their bytes. -/
def three (pa : List Nat) : List (List Nat) := [pc 8 pa 0, pc 8 pa 1, pc 8 pa 2]
theorem three_flat {pa : List Nat} (h : pa.length = 24) : (three pa).flatten = pa := by
  have e := rowOf_pc (c := 8) (n := 3) (l := pa) h
  simp only [rowOf, List.nil_append] at e
  unfold three
  simp only [List.flatten_cons, List.flatten_nil, List.append_nil]
  rw [← List.append_assoc]
  exact e
theorem three_HL {pa : List Nat} (h : pa.length = 24) (hlt : ∀ x ∈ pa, x < 256) : HL (three pa) := by
  intro x hx
  simp only [three, List.mem_cons, List.not_mem_nil, or_false] at hx
  rcases hx with rfl | rfl | rfl
  · exact ⟨pc_len (n := 3) h (by decide), pc_lt hlt 0⟩
  · exact ⟨pc_len (n := 3) h (by decide), pc_lt hlt 1⟩
  · exact ⟨pc_len (n := 3) h (by decide), pc_lt hlt 2⟩
theorem three_of {ps : List (List Nat)} (h : HL ps) (hl : ps.length = 3) : three ps.flatten = ps := by
  match ps, hl with
  | [a, b, c], _ =>
    unfold three
    rw [pc_flat (i := 0) (x := a) h rfl, pc_flat (i := 1) (x := b) h rfl, pc_flat (i := 2) (x := c) h rfl]
/-- Whether a root signed so: chapter 8. -/
def checkT (root m : List Nat) (z : Int) (op sh pa : List Nat) : Bool := checkM root (pubBy m op sh) z 8 (three pa)
theorem checkT_bad {root m : List Nat} {z : Int} {op sh pa : List Nat} (h : z < 0 ∨ 8 ≤ z) : checkT root m z op sh pa = false := chk_bad (by omega)
/-- What is signed is right. -/
theorem checkT_signed (seed m : List Nat) {i : Nat} (hi : i < 8) : checkT (treeOf seed) m (i : Int) (rowOf (opened seed i m) 16) (rowOf (shutd seed i m) 16) (wayOf seed i).flatten = true := by
  unfold checkT
  rw [three_of (wayOf_HL seed i) (wayOf_len seed hi), pubBy_signed]
  have h := chk_good (root := treeOf seed) (x := pubKey seed i) (ps := wayOf seed i) (i := i) (n := 8) hi (by decide)
  have h2 := mprove_leads (pubs seed 8) i (pubKey seed i) (pubs_at seed 8 i hi)
  rw [pubs_len] at h2
  exact h.trans h2

/-- A signature, as cells. -/
def sigC (z : Int) (op sh pa : List Nat) : List Go.Value := .int .i64 z :: (u8s op ++ (u8s sh ++ u8s pa))
def sgo (seed : List Nat) (i : Nat) (m : List Nat) : List Go.Value := sigC i (rowOf (opened seed i m) 16) (rowOf (shutd seed i m) 16) (wayOf seed i).flatten
def sgz : List Go.Value := sigC 0 (List.replicate 128 0) (List.replicate 128 0) (List.replicate 24 0)
def sgN (seed : List Nat) (z : Int) (m : List Nat) : List Go.Value := if 0 ≤ z ∧ z < 8 then sgo seed z.toNat m else sgz
def sgB (z : Int) : Bool := decide (0 ≤ z ∧ z < 8)
theorem sg_bad {z : Int} (seed m : List Nat) (h : z < 0 ∨ 8 ≤ z) : sgN seed z m = sgz ∧ sgB z = false := by
  unfold sgN sgB
  rw [if_neg (by omega), decide_eq_false (by omega)]
  exact ⟨rfl, rfl⟩
theorem sg_good {i : Nat} (seed m : List Nat) (h : i < 8) : sgN seed (i : Int) m = sgo seed i m ∧ sgB (i : Int) = true := by
  unfold sgN sgB
  rw [if_pos (by omega), decide_eq_true (by omega)]
  exact ⟨rfl, rfl⟩
theorem sigC_len {z : Int} {op sh pa : List Nat} (h1 : op.length = 128) (h2 : sh.length = 128) (h3 : pa.length = 24) : (sigC z op sh pa).length = 281 := by
  simp [sigC, u8s_len, h1, h2, h3]
theorem sigC_open {z : Int} {op sh pa : List Nat} : ∀ j u, (u8s op)[j]? = some u → (sigC z op sh pa).toArray[1 + j]? = some u := by
  intro j u hj
  rw [List.getElem?_toArray, sigC, Nat.add_comm, List.getElem?_cons_succ, List.getElem?_append_left (List.getElem?_eq_some_iff.1 hj).1]
  exact hj
theorem sigC_shut {z : Int} {op sh pa : List Nat} (h1 : op.length = 128) : ∀ j u, (u8s sh)[j]? = some u → (sigC z op sh pa).toArray[129 + j]? = some u := by
  intro j u hj
  rw [List.getElem?_toArray, sigC, show 129 + j = (128 + j) + 1 by omega, List.getElem?_cons_succ, List.getElem?_append_right (by rw [u8s_len]; omega), u8s_len, h1, show 128 + j - 128 = j by omega,
    List.getElem?_append_left (List.getElem?_eq_some_iff.1 hj).1]
  exact hj
theorem sigC_path {z : Int} {op sh pa : List Nat} (h1 : op.length = 128) (h2 : sh.length = 128) : ∀ j u, (u8s pa)[j]? = some u → (sigC z op sh pa).toArray[257 + j]? = some u := by
  intro j u hj
  rw [List.getElem?_toArray, sigC, show 257 + j = (256 + j) + 1 by omega, List.getElem?_cons_succ, List.getElem?_append_right (by rw [u8s_len]; omega), u8s_len, h1,
    List.getElem?_append_right (by rw [u8s_len]; omega), u8s_len, h2, show 256 + j - 128 - 128 = j by omega]
  exact hj
theorem sigC_one {z : Int} {op sh pa : List Nat} : ∀ u ∈ sigC z op sh pa, u.oneCell' = true := by
  intro u hu
  rcases List.mem_cons.1 hu with rfl | hu
  · rfl
  · rw [← u8s_app, ← u8s_app] at hu
    exact u8s_one _ u hu
theorem sgo_len (seed m : List Nat) {i : Nat} (h : i < 8) : (sgo seed i m).length = 281 := sigC_len (rowOf_len (opened_len _ _ _) 16) (rowOf_len (shutd_len _ _ _) 16) (wayOf_flat seed h)
theorem sgz_len : sgz.length = 281 := sigC_len (by simp) (by simp) (by simp)
end Go.Sha
namespace Go.Vc
open Go Go.Sha
section
variable {P : Program} {n : Nat} {w0 : World} {S0 : List Nat} {Q : Exit → Act → World → Prop} {E : Env} {L : Hp} {o : Oper} {d : Nat} {T : List (Nat × TI)} {t : Nat} {ti : TI}
theorem wr_midV (pre old new post : List Value) (h : old.length = new.length) : wrAt (pre ++ old ++ post).toArray pre.length new = (pre ++ new ++ post).toArray := by
  unfold wrAt
  congr 1
  have e1 : List.take pre.length (pre ++ old ++ post) = pre := by rw [List.append_assoc, List.take_left]
  have e2 : List.drop (pre.length + new.length) (pre ++ old ++ post) = post := by rw [← h, ← List.length_append, List.drop_left]
  show List.take pre.length (pre ++ old ++ post) ++ new ++ List.drop (pre.length + new.length) (pre ++ old ++ post) = _
  rw [e1, e2]
/-- Cells are stored in the midst of a row. -/
theorem OpTo.setV (hT : TabOk P T) {x y : Operand} {b off : Nat} (pre old new post : List Value) {l : List Value} {v : Value} {e : TypeId} {L' : Hp} (hd : o.dst = none) (ho : o.op = .store t x y) (ht : tiGet T t = some ti)
    (hx : lk E x = some (.pointer (some ⟨b, off, none⟩))) (hy : lk E y = some v) (hL : L.Perm ((b, .cells l.toArray e (0, 0)) :: L')) (hv : v.cells.toList = new) (hl : l = pre ++ old ++ post) (hoff : off = pre.length) (hon : old.length = new.length)
    (hs : new.length = ti.size) (h1 : ∀ u ∈ new, u.oneCell' = true) : OpTo P n w0 S0 Q E L o (Y := Unit) (fun _ => E) (fun _ => (b, .cells (pre ++ new ++ post).toArray e (0, 0)) :: L') := by
  subst hl
  subst hoff
  subst hv
  refine OpTo.storeTo hT (wr_midV pre old _ post hon) hd ho ht hx hy hL (by rw [← Array.length_toList, hs]) ?_ h1
  simp only [List.size_toArray, List.length_append]
  omega
end
section
variable {P : Program} {n : Nat} {w0 : World} {S0 : List Nat} {Q : Exit → Act → World → Prop} {E : Env} {L : Hp} {o : Oper} {d : Nat}
end
end Go.Vc

/- keytree: New, Root, Sign. -/
namespace Go.Sha
open Go
end Go.Sha
namespace Go.Vc
open Go Go.Sha
end Go.Vc
namespace Go.Proofs.YtkkfaffehbjdgaaGreatDoor
open Go Go.Vc Go.Sha

end Go.Proofs.YtkkfaffehbjdgaaGreatDoor

/- The reference's SignTree, CheckTree; keytree.Check, Times. -/
namespace Go.Proofs.YtkkfaffehbjdgaaGreatDoor
open Go Go.Vc Go.Sha

set_option maxRecDepth 10000 in set_option maxHeartbeats 4000000 in
theorem SignTree_calls (seed m : List Nat) (hs : seed.length = 8) (hlt : ∀ x ∈ seed, x < 256) (hm8 : m.length = 8) (hmlt : ∀ x ∈ m, x < 256) (z : Int) (w : World) :
    Gives Tryz.prog 44 [.agg (u8s seed).toArray, .int .i64 z, .agg (u8s m).toArray] (.tuple #[.agg (sgN seed z m).toArray, .bool (sgB z)]) w := by
  refine enter Tryz.func44 rfl (Mem.nil w []) rfl ?_
  (repeat refine RC.seq ?_); refine RC.region ?_
  refine Run.nw (New.boxA rfl rfl) ?_
  intro b3
  refine Run.nw (New.boxA rfl rfl) ?_
  intro b5
  refine Run.nw (New.allocTo tabOk (cs := sgz.toArray) rfl rfl (by kernel_rfl)) ?_
  intro b6
  refine Run.a (Val.of rfl) ?_
  refine Run.nil (RQ.next ?_)
  by_cases hA : z < 0
  · obtain ⟨e1, e2⟩ := sg_bad seed m (z := z) (.inl hA)
    rw [e1, e2]
    (repeat refine RC.seq ?_); refine RC.region ?_
    refine Run.a (Val.of rfl) ?_
    refine Run.a (Val.eq (Val.of rfl) (show _ = Value.bool true from congrArg Value.bool (decide_eq_true (by omega)))) ?_
    refine Run.a (Val.of rfl) ?_
    refine Run.sk ?_
    refine Run.sk ?_
    refine Run.a (Val.of rfl) ?_
    refine Run.nil (RQ.next ?_)
    (repeat refine RC.seq ?_); refine RC.condT rfl rfl ?_
    (repeat refine RC.seq ?_); refine RC.region ?_
    refine Run.a (Val.buildS tabOk (parts := []) (cells := sgz.toArray) rfl rfl rfl rfl rfl (by kernel_rfl)) ?_
    refine Run.op1 (OpTo.setV tabOk [] sgz sgz [] rfl rfl rfl rfl rfl (List.Perm.refl _) rfl (by simp) rfl rfl rfl sigC_one) (fun _ => ?_)
    rw [List.nil_append, List.append_nil]
    refine Run.a (Val.of rfl) ?_
    refine Run.nil (RQ.next ?_)
    refine RC.ret ?_; (repeat first | refine RQ.thenRet ?_ | refine RQ.blockRet ?_)
    exact RQ.ret2 rfl (Res.cellAll tabOk rfl rfl rfl m0 (by rw [List.size_toArray, sgz_len]; rfl)) (Res.tmp rfl) fun w' hm => ⟨rfl, hm.fr⟩
  by_cases hB : 8 ≤ z
  · obtain ⟨e1, e2⟩ := sg_bad seed m (z := z) (.inr hB)
    rw [e1, e2]
    (repeat refine RC.seq ?_); refine RC.region ?_
    refine Run.a (Val.of rfl) ?_
    refine Run.a (Val.eq (Val.of rfl) (show _ = Value.bool false from congrArg Value.bool (decide_eq_false (by omega)))) ?_
    refine Run.a (Val.of rfl) ?_
    refine Run.a (Val.of rfl) ?_
    refine Run.a (Val.eq (Val.of rfl) (show _ = Value.bool true from congrArg Value.bool (decide_eq_true (by omega)))) ?_
    refine Run.a (Val.of rfl) ?_
    refine Run.nil (RQ.next ?_)
    (repeat refine RC.seq ?_); refine RC.condT rfl rfl ?_
    (repeat refine RC.seq ?_); refine RC.region ?_
    refine Run.a (Val.buildS tabOk (parts := []) (cells := sgz.toArray) rfl rfl rfl rfl rfl (by kernel_rfl)) ?_
    refine Run.op1 (OpTo.setV tabOk [] sgz sgz [] rfl rfl rfl rfl rfl (List.Perm.refl _) rfl (by simp) rfl rfl rfl sigC_one) (fun _ => ?_)
    rw [List.nil_append, List.append_nil]
    refine Run.a (Val.of rfl) ?_
    refine Run.nil (RQ.next ?_)
    refine RC.ret ?_; (repeat first | refine RQ.thenRet ?_ | refine RQ.blockRet ?_)
    exact RQ.ret2 rfl (Res.cellAll tabOk rfl rfl rfl m0 (by rw [List.size_toArray, sgz_len]; rfl)) (Res.tmp rfl) fun w' hm => ⟨rfl, hm.fr⟩
  obtain ⟨i, rfl⟩ := Int.eq_ofNat_of_zero_le (show 0 ≤ z by omega)
  have hi : i < 8 := by omega
  obtain ⟨e1, e2⟩ := sg_good seed m hi
  rw [e1, e2]
  have hol := rowOf_len (opened_len seed i m) 16
  have hsl := rowOf_len (shutd_len seed i m) 16
  have hwl := wayOf_len seed hi
  have hwf := wayOf_flat seed hi
  have hsgl := sgo_len seed m hi
  obtain ⟨f1, f2⟩ := prov_good (l := pubs seed 8) (i := i) (by rw [pubs_len]; exact hi) (by rw [pubs_len]; decide)
  have hP := ref_Prove_calls _ (pubs seed 8) rfl (pubs_HL seed 8) (i : Int)
  rw [f1, f2, show mprove (pubs seed 8) i = wayOf seed i from rfl, hwl, pubs_len] at hP
  have hfin : [Value.int .i64 i] ++ u8s (rowOf (opened seed i m) 16) ++ u8s (rowOf (shutd seed i m) 16) ++ u8s (wayOf seed i).flatten = sgo seed i m := by
    unfold sgo sigC
    simp only [List.append_assoc, List.cons_append, List.nil_append]
  have hsig := fun w' => ref_Sign_calls seed m hs hlt hm8 hmlt (i : Int) i (by omega) w'
  have hone : ∀ u ∈ sgo seed i m, u.oneCell' = true := sigC_one
  generalize rowOf (opened seed i m) 16 = ro at *
  generalize rowOf (shutd seed i m) 16 = rs at *
  generalize wayOf seed i = way at *
  generalize sgo seed i m = sg at *
  (repeat refine RC.seq ?_); refine RC.region ?_
  refine Run.a (Val.of rfl) ?_
  refine Run.a (Val.eq (Val.of rfl) (show _ = Value.bool false from congrArg Value.bool (decide_eq_false (by omega)))) ?_
  refine Run.a (Val.of rfl) ?_
  refine Run.a (Val.of rfl) ?_
  refine Run.a (Val.eq (Val.of rfl) (show _ = Value.bool false from congrArg Value.bool (decide_eq_false (by omega)))) ?_
  refine Run.a (Val.of rfl) ?_
  refine Run.nil (RQ.next ?_)
  (repeat refine RC.seq ?_); refine RC.condF rfl rfl (RC.skip (RQ.next ?_))
  (repeat refine RC.seq ?_); refine RC.region ?_
  refine Run.a (Val.of rfl) ?_
  refine Run.a (Val.buildS tabOk (parts := [(0, .tmp 18)]) (vs := [.int .i64 i]) (cells := (sigC i (List.replicate 128 0) (List.replicate 128 0) (List.replicate 24 0)).toArray) rfl rfl rfl rfl rfl (by kernel_rfl)) ?_
  refine Run.nw (New.allocTo tabOk (cs := sgz.toArray) rfl rfl (by kernel_rfl)) ?_
  intro b8
  refine Run.op1 (OpTo.setV tabOk [] sgz (sigC i (List.replicate 128 0) (List.replicate 128 0) (List.replicate 24 0)) [] rfl rfl rfl rfl rfl (List.Perm.refl _) rfl (by simp) rfl rfl rfl sigC_one) (fun _ => ?_)
  refine Run.nil (RQ.next ?_)
  rw [List.nil_append, List.append_nil]
  (repeat refine RC.seq ?_); refine RC.region ?_
  refine Run.a (Val.loadU tabOk rfl rfl rfl rfl (by repeat (first | exact List.mem_cons_self | apply List.mem_cons_of_mem | apply List.mem_append_right)) hs) ?_
  refine Run.a (Val.of rfl) ?_
  refine Run.a (Val.loadU tabOk rfl rfl rfl rfl (by repeat (first | exact List.mem_cons_self | apply List.mem_cons_of_mem | apply List.mem_append_right)) hm8) ?_
  refine Run.callV Tryz.func78 rfl rfl rfl rfl rfl rfl rfl (fun w' _ => hsig w') ?_
  refine Run.a (Val.of rfl) ?_
  refine Run.a (Val.of rfl) ?_
  refine Run.a (Val.of rfl) ?_
  refine Run.a (Val.fieldAddr tabOk rfl rfl rfl rfl rfl rfl rfl rfl) ?_
  refine Run.op1 (OpTo.setV tabOk [Value.int .i64 i] (u8s (List.replicate 128 0)) (u8s ro) (u8s (List.replicate 128 0) ++ u8s (List.replicate 24 0)) rfl rfl rfl rfl rfl (List.Perm.refl _) rfl rfl rfl (by simp [u8s_len, hol]) (by rw [u8s_len, hol]; rfl) (u8s_one _)) (fun _ => ?_)
  refine Run.a (Val.fieldAddr tabOk rfl rfl rfl rfl rfl rfl rfl rfl) ?_
  refine Run.op1 (OpTo.setV tabOk ([Value.int .i64 i] ++ u8s ro) (u8s (List.replicate 128 0)) (u8s rs) (u8s (List.replicate 24 0)) rfl rfl rfl rfl rfl (List.Perm.refl _) rfl (by simp only [List.append_assoc]) (by simp [u8s_len, hol]) (by simp [u8s_len, hsl]) (by rw [u8s_len, hsl]; rfl) (u8s_one _)) (fun _ => ?_)
  refine Run.nil (RQ.next ?_)
  (repeat refine RC.seq ?_); refine RC.region ?_
  refine Run.a (Val.loadU tabOk rfl rfl rfl rfl (by repeat (first | exact List.mem_cons_self | apply List.mem_cons_of_mem | apply List.mem_append_right)) hs) ?_
  refine Run.op rfl (OpTo.callMk Tryz.func68 rfl rfl rfl rfl rfl rfl (fun w' _ => ref_Publics_calls seed hs hlt w')) ?_
  rintro ⟨⟨vq, blq⟩, hownq⟩
  dsimp only at hownq ⊢
  refine Run.a (Val.of rfl) ?_
  refine Run.op rfl (OpTo.callMk2 Tryz.func79 rfl rfl rfl rfl rfl rfl (fun w' hm => hP vq w' (hownq.srcW (fun q hq => hm.has q (List.mem_append_left _ hq))))) ?_
  rintro ⟨⟨vp, blp⟩, hownp⟩
  dsimp only at hownp ⊢
  obtain ⟨bp, cap, rest, rfl, rfl, g1, g2, g3, g4⟩ := hownp.pos (by decide)
  obtain ⟨bq, cap', rest', rfl, rfl, g1', g2', g3', g4'⟩ := hownq.pos (by decide)
  refine Run.a (Val.of rfl) ?_
  refine Run.a (Val.of rfl) ?_
  refine Run.a (Val.of rfl) ?_
  refine Run.a (Val.of rfl) ?_
  refine Run.a (Val.of rfl) ?_
  refine Run.nil (RQ.next ?_)
  (repeat refine RC.seq ?_); refine RC.region ?_
  refine Run.a (Val.fieldAddr tabOk rfl rfl rfl rfl rfl rfl rfl rfl) ?_
  refine Run.a (Val.sliceA tabOk rfl rfl rfl rfl rfl) ?_
  refine Run.a (Val.of rfl) ?_
  refine Run.op rfl (OpTo.copyTo tabOk (arr' := sg.toArray) (m := 3) (cs := u8s way.flatten) (ad := ⟨bp, 0, none⟩) (Rd.row (off := 0) m0 (fun j u hj => by rw [Nat.zero_add, List.getElem?_toArray, List.getElem?_append_left (List.getElem?_eq_some_iff.1 hj).1]; exact hj)) (by
    have h9 := wr_midV ([Value.int .i64 i] ++ u8s ro ++ u8s rs) (u8s (List.replicate 24 0)) (u8s way.flatten) [] (by simp [u8s_len, hwf])
    rw [List.append_nil, List.append_nil, hfin] at h9
    rw [show ([Value.int .i64 i] ++ u8s ro ++ u8s rs).length = 0 + 257 by simp [u8s_len, hol, hsl]] at h9
    exact h9) rfl rfl rfl rfl rfl rfl rfl rfl p2 (by rw [u8s_len, hwf]; rfl) rfl (by simp [u8s_len, hol, hsl, hwf]) (u8s_one _)) ?_
  intro _
  refine Run.nil (RQ.next ?_)
  (repeat refine RC.seq ?_); refine RC.region ?_
  refine Run.a (Val.loadAll tabOk rfl rfl rfl rfl m0 (by rw [List.size_toArray, hsgl]; rfl)) ?_
  refine Run.op1 (OpTo.setV tabOk [] sgz sg [] rfl rfl rfl rfl rfl p3 rfl (by simp) rfl (by rw [sgz_len, hsgl]) (by rw [hsgl]; rfl) hone) (fun _ => ?_)
  rw [List.nil_append, List.append_nil]
  refine Run.a (Val.of rfl) ?_
  refine Run.nil (RQ.next ?_)
  refine RC.ret ?_; (repeat first | refine RQ.thenRet ?_ | refine RQ.blockRet ?_)
  exact RQ.ret2 rfl (Res.cellAll tabOk rfl rfl rfl m0 (by rw [List.size_toArray, hsgl]; rfl)) (Res.tmp rfl) fun w' hm => ⟨rfl, hm.fr⟩

theorem three_slice {w0 : World} {S0 : List Nat} {L : Hp} {w : World} {b : Nat} {z : Int} {op sh pa : List Nat} {e : TypeId} {fz : Nat × Nat} (hm : Mem w0 S0 L w) (h : (b, .cells (sigC z op sh pa).toArray e fz) ∈ L) (h1 : op.length = 128) (h2 : sh.length = 128) (h3 : pa.length = 24) :
    SrcW w 8 (.slice (some ⟨b, 257, none⟩) 3 3) (three pa).length (u8s (three pa).flatten) := by
  rw [three_flat h3]
  exact .at _ _ _ _ (by rw [u8s_len, h3]) (Nat.le_refl 3) fun j u hj => Rd.row h (sigC_path h1 h2) w hm j u hj

set_option maxRecDepth 10000 in set_option maxHeartbeats 4000000 in
theorem KCheck_calls (root m : List Nat) (z : Int) (op sh pa : List Nat) (hr8 : root.length = 8) (hm8 : m.length = 8) (hmlt : ∀ x ∈ m, x < 256) (h1 : op.length = 128) (h1' : ∀ x ∈ op, x < 256) (h2 : sh.length = 128) (h2' : ∀ x ∈ sh, x < 256) (h3 : pa.length = 24) (h3' : ∀ x ∈ pa, x < 256) (w : World) (hK : Laid w) :
    Gives Tryz.prog 90 [.agg (u8s root).toArray, .agg (u8s m).toArray, .agg (sigC z op sh pa).toArray] (.bool (checkT root m z op sh pa)) w := by
  refine enter Tryz.func90 rfl (Mem.nil w []) rfl ?_
  have hpl : (pubBy m op sh).length = 8 := digest_len _ _
  have hpt : ∀ x ∈ pubBy m op sh, x < 256 := digest_lt _ _
  have hC := fun v w' hs' => Check_calls root (pubBy m op sh) (three pa) hr8 hpl hpt (three_HL h3 h3') z 8 v w' hs' (show 3 ≤ 9223372036854775807 by decide)
  (repeat refine RC.seq ?_); refine RC.region ?_
  refine Run.nw (New.boxA rfl rfl) ?_
  intro b3
  refine Run.nw (New.boxA rfl rfl) ?_
  intro b4
  refine Run.nw (New.boxA rfl rfl) ?_
  intro b5
  refine Run.a (Val.of rfl) ?_
  refine Run.nil (RQ.next ?_)
  by_cases hA : z < 0
  · rw [checkT_bad (.inl hA)]
    (repeat refine RC.seq ?_); refine RC.drawS mixed (N := 23) rfl ?_
    refine DR.t 0 rfl (Val.fieldAddr tabOk rfl rfl rfl rfl rfl rfl rfl rfl) ?_
    refine DR.t 1 rfl (Val.load (v := .int .i64 z) tabOk rfl rfl rfl m0 rfl) ?_
    refine DR.t 2 rfl (Val.eq (Val.of rfl) (show _ = Value.bool false from congrArg Value.bool (decide_eq_false (by omega)))) ?_
    refine DR.t 3 rfl (Val.of rfl) ?_
    refine DR.p 4 rfl ?_
    refine DR.p 5 rfl ?_
    refine DR.p 6 rfl ?_
    refine DR.t 7 rfl (Val.of rfl) ?_
    refine DR.t 8 rfl (Val.of rfl) ?_
    refine DR.p 9 rfl ?_
    refine DR.p 10 rfl ?_
    refine DR.p 11 rfl ?_
    refine DR.p 12 rfl ?_
    refine DR.p 13 rfl ?_
    refine DR.p 14 rfl ?_
    refine DR.p 16 rfl ?_
    refine DR.p 17 rfl ?_
    refine DR.p 18 rfl ?_
    refine DR.p 19 rfl ?_
    refine DR.cp 15 rfl ?_
    refine DR.cp 20 rfl ?_
    refine DR.t 21 rfl (Val.of rfl) ?_
    refine DR.t 22 rfl (Val.of rfl) ?_
    refine DR.done (by kernel_rfl) (RQ.next ?_)
    refine RC.ret ?_; (repeat first | refine RQ.thenRet ?_ | refine RQ.blockRet ?_); exact RQ.ret1 rfl (Res.tmp rfl) fun w' hm => ⟨rfl, hm.fr⟩
  by_cases hB : 8 ≤ z
  · rw [checkT_bad (.inr hB)]
    (repeat refine RC.seq ?_); refine RC.drawS mixed (N := 23) rfl ?_
    refine DR.t 0 rfl (Val.fieldAddr tabOk rfl rfl rfl rfl rfl rfl rfl rfl) ?_
    refine DR.t 1 rfl (Val.load (v := .int .i64 z) tabOk rfl rfl rfl m0 rfl) ?_
    refine DR.t 2 rfl (Val.eq (Val.of rfl) (show _ = Value.bool true from congrArg Value.bool (decide_eq_true (by omega)))) ?_
    refine DR.t 3 rfl (Val.of rfl) ?_
    refine DR.t 4 rfl (Val.fieldAddr tabOk rfl rfl rfl rfl rfl rfl rfl rfl) ?_
    refine DR.t 5 rfl (Val.load (v := .int .i64 z) tabOk rfl rfl rfl m0 rfl) ?_
    refine DR.t 6 rfl (Val.eq (Val.of rfl) (show _ = Value.bool false from congrArg Value.bool (decide_eq_false (by omega)))) ?_
    refine DR.t 7 rfl (Val.of rfl) ?_
    refine DR.t 8 rfl (Val.of rfl) ?_
    refine DR.p 9 rfl ?_
    refine DR.p 10 rfl ?_
    refine DR.p 11 rfl ?_
    refine DR.p 12 rfl ?_
    refine DR.p 13 rfl ?_
    refine DR.p 14 rfl ?_
    refine DR.p 16 rfl ?_
    refine DR.p 17 rfl ?_
    refine DR.p 18 rfl ?_
    refine DR.p 19 rfl ?_
    refine DR.cp 15 rfl ?_
    refine DR.cp 20 rfl ?_
    refine DR.t 21 rfl (Val.of rfl) ?_
    refine DR.t 22 rfl (Val.of rfl) ?_
    refine DR.done (by kernel_rfl) (RQ.next ?_)
    refine RC.ret ?_; (repeat first | refine RQ.thenRet ?_ | refine RQ.blockRet ?_); exact RQ.ret1 rfl (Res.tmp rfl) fun w' hm => ⟨rfl, hm.fr⟩
  have e9 : checkT root m z op sh pa = checkM root (pubBy m op sh) z 8 (three pa) := rfl
  rw [e9]
  (repeat refine RC.seq ?_); refine RC.drawS mixed (N := 23) rfl ?_
  refine DR.t 0 rfl (Val.fieldAddr tabOk rfl rfl rfl rfl rfl rfl rfl rfl) ?_
  refine DR.t 1 rfl (Val.load (v := .int .i64 z) tabOk rfl rfl rfl m0 rfl) ?_
  refine DR.t 2 rfl (Val.eq (Val.of rfl) (show _ = Value.bool true from congrArg Value.bool (decide_eq_true (by omega)))) ?_
  refine DR.t 3 rfl (Val.of rfl) ?_
  refine DR.t 4 rfl (Val.fieldAddr tabOk rfl rfl rfl rfl rfl rfl rfl rfl) ?_
  refine DR.t 5 rfl (Val.load (v := .int .i64 z) tabOk rfl rfl rfl m0 rfl) ?_
  refine DR.t 6 rfl (Val.eq (Val.of rfl) (show _ = Value.bool true from congrArg Value.bool (decide_eq_true (by omega)))) ?_
  refine DR.t 7 rfl (Val.of rfl) ?_
  refine DR.t 8 rfl (Val.of rfl) ?_
  refine DR.t 9 rfl (Val.loadU tabOk rfl rfl rfl rfl (by repeat (first | exact List.mem_cons_self | apply List.mem_cons_of_mem | apply List.mem_append_right)) hr8) ?_
  refine DR.t 10 rfl (Val.loadU tabOk rfl rfl rfl rfl (by repeat (first | exact List.mem_cons_self | apply List.mem_cons_of_mem | apply List.mem_append_right)) hm8) ?_
  refine DR.t 11 rfl (Val.fieldAddr tabOk rfl rfl rfl rfl rfl rfl rfl rfl) ?_
  refine DR.t 12 rfl (Val.loadR (cs := u8s op) tabOk rfl rfl rfl rfl (by rw [u8s_len, h1]; rfl) (Rd.row m0 sigC_open)) ?_
  refine DR.t 13 rfl (Val.fieldAddr tabOk rfl rfl rfl rfl rfl rfl rfl rfl) ?_
  refine DR.t 14 rfl (Val.loadR (cs := u8s sh) tabOk rfl rfl rfl rfl (by rw [u8s_len, h2]; rfl) (Rd.row m0 (sigC_shut h1))) ?_
  refine DR.t 16 rfl (Val.fieldAddr tabOk rfl rfl rfl rfl rfl rfl rfl rfl) ?_
  refine DR.t 17 rfl (Val.load (v := .int .i64 z) tabOk rfl rfl rfl m0 rfl) ?_
  refine DR.t 18 rfl (Val.fieldAddr tabOk rfl rfl rfl rfl rfl rfl rfl rfl) ?_
  refine DR.t 19 rfl (Val.sliceA tabOk rfl rfl rfl rfl rfl) ?_
  refine DR.c 15 ?_
  refine DOp.op1 rfl (OpTo.callV Tryz.func118 rfl rfl rfl rfl rfl rfl (fun w' hm => lam_Public_calls m op sh hm8 hmlt h1 h1' h2 h2' w' (hK.fr hm.fr (by simp)))) (fun _ => ?_)
  refine DR.c 20 ?_
  refine DOp.op1 rfl (OpTo.callV Tryz.func117 rfl rfl rfl rfl rfl rfl (fun w' hm => hC _ w' (three_slice hm m0 h1 h2 h3) (hK.fr hm.fr (by simp)))) (fun _ => ?_)
  refine DR.t 21 rfl (Val.of rfl) ?_
  refine DR.t 22 rfl (Val.of rfl) ?_
  refine DR.done (by kernel_rfl) (RQ.next ?_)
  refine RC.ret ?_; (repeat first | refine RQ.thenRet ?_ | refine RQ.blockRet ?_); exact RQ.ret1 rfl (Res.tmp rfl) fun w' hm => ⟨rfl, hm.fr⟩

set_option maxRecDepth 10000 in set_option maxHeartbeats 4000000 in
theorem CheckTree_calls (root m : List Nat) (z : Int) (op sh pa : List Nat) (hr8 : root.length = 8) (hm8 : m.length = 8) (hmlt : ∀ x ∈ m, x < 256) (h1 : op.length = 128) (h1' : ∀ x ∈ op, x < 256) (h2 : sh.length = 128) (h2' : ∀ x ∈ sh, x < 256) (h3 : pa.length = 24) (h3' : ∀ x ∈ pa, x < 256) (w : World) :
    Gives Tryz.prog 92 [.agg (u8s root).toArray, .agg (u8s m).toArray, .agg (sigC z op sh pa).toArray] (.bool (checkT root m z op sh pa)) w := by
  refine enter Tryz.func92 rfl (Mem.nil w []) rfl ?_
  have hpl : (pubBy m op sh).length = 8 := digest_len _ _
  have hpt : ∀ x ∈ pubBy m op sh, x < 256 := digest_lt _ _
  have hC := fun v w' hs' => ref_CheckRow_calls root (pubBy m op sh) (three pa) hr8 hpl hpt (three_HL h3 h3') z 8 v w' hs' (show 3 ≤ 9223372036854775807 by decide)
  (repeat refine RC.seq ?_); refine RC.region ?_
  refine Run.nw (New.boxA rfl rfl) ?_
  intro b3
  refine Run.nw (New.boxA rfl rfl) ?_
  intro b4
  refine Run.nw (New.boxA rfl rfl) ?_
  intro b5
  refine Run.a (Val.of rfl) ?_
  refine Run.nil (RQ.next ?_)
  by_cases hA : z < 0
  · rw [checkT_bad (.inl hA)]
    (repeat refine RC.seq ?_); refine RC.region ?_
    refine Run.a (Val.fieldAddr tabOk rfl rfl rfl rfl rfl rfl rfl rfl) ?_
    refine Run.a (Val.load (v := .int .i64 z) tabOk rfl rfl rfl m0 rfl) ?_
    refine Run.a (Val.eq (Val.of rfl) (show _ = Value.bool true from congrArg Value.bool (decide_eq_true (by omega)))) ?_
    refine Run.a (Val.of rfl) ?_
    refine Run.sk ?_
    refine Run.sk ?_
    refine Run.sk ?_
    refine Run.a (Val.of rfl) ?_
    refine Run.nil (RQ.next ?_)
    (repeat refine RC.seq ?_); refine RC.condT rfl rfl ?_
    (repeat refine RC.seq ?_); refine RC.region ?_
    refine Run.a (Val.of rfl) ?_
    refine Run.nil (RQ.next ?_)
    refine RC.ret ?_; (repeat first | refine RQ.thenRet ?_ | refine RQ.blockRet ?_); exact RQ.ret1 rfl (Res.tmp rfl) fun w' hm => ⟨rfl, hm.fr⟩
  by_cases hB : 8 ≤ z
  · rw [checkT_bad (.inr hB)]
    (repeat refine RC.seq ?_); refine RC.region ?_
    refine Run.a (Val.fieldAddr tabOk rfl rfl rfl rfl rfl rfl rfl rfl) ?_
    refine Run.a (Val.load (v := .int .i64 z) tabOk rfl rfl rfl m0 rfl) ?_
    refine Run.a (Val.eq (Val.of rfl) (show _ = Value.bool false from congrArg Value.bool (decide_eq_false (by omega)))) ?_
    refine Run.a (Val.of rfl) ?_
    refine Run.a (Val.fieldAddr tabOk rfl rfl rfl rfl rfl rfl rfl rfl) ?_
    refine Run.a (Val.load (v := .int .i64 z) tabOk rfl rfl rfl m0 rfl) ?_
    refine Run.a (Val.eq (Val.of rfl) (show _ = Value.bool true from congrArg Value.bool (decide_eq_true (by omega)))) ?_
    refine Run.a (Val.of rfl) ?_
    refine Run.nil (RQ.next ?_)
    (repeat refine RC.seq ?_); refine RC.condT rfl rfl ?_
    (repeat refine RC.seq ?_); refine RC.region ?_
    refine Run.a (Val.of rfl) ?_
    refine Run.nil (RQ.next ?_)
    refine RC.ret ?_; (repeat first | refine RQ.thenRet ?_ | refine RQ.blockRet ?_); exact RQ.ret1 rfl (Res.tmp rfl) fun w' hm => ⟨rfl, hm.fr⟩
  have e9 : checkT root m z op sh pa = checkM root (pubBy m op sh) z 8 (three pa) := rfl
  rw [e9]
  (repeat refine RC.seq ?_); refine RC.region ?_
  refine Run.a (Val.fieldAddr tabOk rfl rfl rfl rfl rfl rfl rfl rfl) ?_
  refine Run.a (Val.load (v := .int .i64 z) tabOk rfl rfl rfl m0 rfl) ?_
  refine Run.a (Val.eq (Val.of rfl) (show _ = Value.bool false from congrArg Value.bool (decide_eq_false (by omega)))) ?_
  refine Run.a (Val.of rfl) ?_
  refine Run.a (Val.fieldAddr tabOk rfl rfl rfl rfl rfl rfl rfl rfl) ?_
  refine Run.a (Val.load (v := .int .i64 z) tabOk rfl rfl rfl m0 rfl) ?_
  refine Run.a (Val.eq (Val.of rfl) (show _ = Value.bool false from congrArg Value.bool (decide_eq_false (by omega)))) ?_
  refine Run.a (Val.of rfl) ?_
  refine Run.nil (RQ.next ?_)
  (repeat refine RC.seq ?_); refine RC.condF rfl rfl (RC.skip (RQ.next ?_))
  (repeat refine RC.seq ?_); refine RC.drawS mixed (N := 13) rfl ?_
  refine DR.t 0 rfl (Val.loadU tabOk rfl rfl rfl rfl (by repeat (first | exact List.mem_cons_self | apply List.mem_cons_of_mem | apply List.mem_append_right)) hr8) ?_
  refine DR.t 1 rfl (Val.loadU tabOk rfl rfl rfl rfl (by repeat (first | exact List.mem_cons_self | apply List.mem_cons_of_mem | apply List.mem_append_right)) hm8) ?_
  refine DR.t 2 rfl (Val.fieldAddr tabOk rfl rfl rfl rfl rfl rfl rfl rfl) ?_
  refine DR.t 3 rfl (Val.loadR (cs := u8s op) tabOk rfl rfl rfl rfl (by rw [u8s_len, h1]; rfl) (Rd.row m0 sigC_open)) ?_
  refine DR.t 4 rfl (Val.fieldAddr tabOk rfl rfl rfl rfl rfl rfl rfl rfl) ?_
  refine DR.t 5 rfl (Val.loadR (cs := u8s sh) tabOk rfl rfl rfl rfl (by rw [u8s_len, h2]; rfl) (Rd.row m0 (sigC_shut h1))) ?_
  refine DR.t 7 rfl (Val.fieldAddr tabOk rfl rfl rfl rfl rfl rfl rfl rfl) ?_
  refine DR.t 8 rfl (Val.load (v := .int .i64 z) tabOk rfl rfl rfl m0 rfl) ?_
  refine DR.t 9 rfl (Val.fieldAddr tabOk rfl rfl rfl rfl rfl rfl rfl rfl) ?_
  refine DR.t 10 rfl (Val.sliceA tabOk rfl rfl rfl rfl rfl) ?_
  refine DR.c 6 ?_
  refine DOp.op1 rfl (OpTo.callV Tryz.func96 rfl rfl rfl rfl rfl rfl (fun w' _ => ref_Public_calls m op sh hm8 hmlt h1 h1' h2 h2' w')) (fun _ => ?_)
  refine DR.c 11 ?_
  refine DOp.op1 rfl (OpTo.callV Tryz.func120 rfl rfl rfl rfl rfl rfl (fun w' hm => hC _ w' (three_slice hm m0 h1 h2 h3))) (fun _ => ?_)
  refine DR.t 12 rfl (Val.of rfl) ?_
  refine DR.done (by kernel_rfl) (RQ.next ?_)
  refine RC.ret ?_; (repeat first | refine RQ.thenRet ?_ | refine RQ.blockRet ?_); exact RQ.ret1 rfl (Res.tmp rfl) fun w' hm => ⟨rfl, hm.fr⟩

end Go.Proofs.YtkkfaffehbjdgaaGreatDoor
end
section
/- keytree's awake; KeytreeSigns. -/
namespace Go.Sha
def h8 (k : Nat) : List Nat := [k, 0, 0, 0, 0, 0, 0, 0]
end Go.Sha
namespace Go.Proofs.YtkkfaffehbjdgaaGreatDoor
open Go Go.Vc Go.Sha

end Go.Proofs.YtkkfaffehbjdgaaGreatDoor
end
section
/- KeytreeChecks. -/
namespace Go.Sha
end Go.Sha
namespace Go.Proofs.YtkkfaffehbjdgaaGreatDoor
open Go Go.Vc Go.Sha

theorem SignTree_good (seed m : List Nat) {i : Nat} (hi : i < 8) (hs : seed.length = 8) (hlt : ∀ x ∈ seed, x < 256) (hm8 : m.length = 8) (hmlt : ∀ x ∈ m, x < 256) (w : World) :
    Gives Tryz.prog 44 [.agg (u8s seed).toArray, .int .i64 (i : Int), .agg (u8s m).toArray] (.tuple #[.agg (sgo seed i m).toArray, .bool true]) w := by
  have h := SignTree_calls seed m hs hlt hm8 hmlt (i : Int) w
  obtain ⟨e1, e2⟩ := sg_good seed m hi
  rw [e1, e2] at h
  exact h

end Go.Proofs.YtkkfaffehbjdgaaGreatDoor
end
