/- Lemmas. -/
import Derived.Test.YtkkfaffehbjdgaaGreatDoorPk18
set_option linter.unusedSimpArgs false
set_option linter.unusedVariables false
section
/- registry: records in memory; Clone, copied, New, in, Len. -/
namespace Go.Sha
/-- The rest of a record's cells. -/
def restC (bal fwd : Int) (ce : Bool) (at_ : Int) (uv : Go.Value) : List Go.Value :=
  [.int .i64 bal, .int .i64 fwd, .int .i64 0, .int .i64 0, .bool ce, .int .i64 at_, .int .u8 0, .int .u8 0, .int .u8 0, .int .u8 0, .int .u8 0, .int .u8 0, .int .u8 0, .int .u8 0, .bool false, .int .i64 0, .int .i64 0, .int .i64 0,
   .int .u8 0, .int .u8 0, .int .u8 0, .int .u8 0, .int .u8 0, .int .u8 0, .int .u8 0, .int .u8 0, .int .u8 0, .int .u8 0, .int .u8 0, .int .u8 0, .int .u8 0, .int .u8 0, .int .u8 0, .int .u8 0, .slice none 0 0, .slice none 0 0, uv]
/-- What a record holds. -/
structure Rc where
  ln : Int
  wd : Int
  nd : Int
  made : Int
  bal : Int
  fwd : Int
  ce : Bool
  at_ : Int
  keys : List (List Nat)
  used : List Int
def Rc.c (r : Rc) (kv uv : Go.Value) : List Go.Value := sideC r.ln r.wd r.nd kv r.made (restC r.bal r.fwd r.ce r.at_ uv)
theorem Rc.len (r : Rc) (kv uv : Go.Value) : (r.c kv uv).length = 42 := rfl
theorem Rc.one (r : Rc) {kv uv : Go.Value} (h1 : kv.oneCell' = true) (h2 : uv.oneCell' = true) : ∀ u ∈ r.c kv uv, u.oneCell' = true := by
  intro u hu
  simp only [Rc.c, sideC, prm, restC, List.cons_append, List.nil_append, List.mem_cons, List.not_mem_nil, or_false] at hu
  repeat' (rcases hu with rfl | hu)
  all_goals first | rfl | exact h1 | exact h2 | (subst hu; first | rfl | exact h1 | exact h2)
def zeroC : List Go.Value := sideC 0 0 0 (.slice none 0 0) 0 (restC 0 0 false 0 (.slice none 0 0))
theorem pend {α : Type} {a x : α} {u k : List α} : (a :: (u ++ (k ++ [x]))).Perm (x :: a :: (u ++ k)) := by
  have h : (u ++ (k ++ [x])).Perm (x :: (u ++ k)) := by
    rw [← List.append_assoc]
    exact List.perm_append_comm
  exact (List.Perm.cons a h).trans (List.Perm.swap x a _)
/-- A record as it lies: its lists are slices. -/
structure SX where
  r : Rc
  kv : Go.Value
  uv : Go.Value
  hk : kv.oneCell' = true
  hu : uv.oneCell' = true
def SX.c (s : SX) : List Go.Value := s.r.c s.kv s.uv
theorem SX.len (s : SX) : s.c.length = 42 := s.r.len _ _
theorem SX.one (s : SX) : ∀ u ∈ s.c, u.oneCell' = true := s.r.one s.hk s.hu
/-- Its lists can be read. -/
def SX.ok (w : Go.World) (s : SX) : Prop := Go.Vc.SrcW w 8 s.kv s.r.keys.length (u8s s.r.keys.flatten) ∧ Go.Vc.SrcW w 1 s.uv s.r.used.length (i64L s.r.used)
end Go.Sha
namespace Go.Vc
open Go Go.Sha
section
variable {P : Program} {n : Nat} {w0 : World} {S0 : List Nat} {Q : Exit → Act → World → Prop} {E : Env} {L : Hp} {o : Oper} {d : Nat} {T : List (Nat × TI)} {t : Nat} {ti : TI}
theorem Val.sliceNil (hT : TabOk P T) {x y : Operand} {a : Option Addr} {m c el t2 : Nat} (ho : o.op = .binOp .eql t x y t2) (ht : tiGet T t = some ti) (hd : ti.desc = .slice el) (hx : lk E x = some (.slice a m c)) (hy : lk E y = some (.slice none 0 0)) :
    Val P n w0 S0 E L o (.bool a.isNone) := by
  intro ac w hs _
  have h2 := (hT _ _ ht).1
  rw [hd] at h2
  have hg : (eqGuard .eql t x y (.slice a m c) (.slice none 0 0)).run P w = .ok () w := by simp [eqGuard]
  simp [execOp, ho, hs.eval hx, hs.eval hy, hg, Lib.run_eql_slice_nil w t el a m c 0 0 h2]
/-- p != nil -/
theorem Val.ptrNe (hT : TabOk P T) {x y : Operand} {a : Addr} {el t2 : Nat} (ho : o.op = .binOp .neq t x y t2) (ht : tiGet T t = some ti) (hd : ti.desc = .pointer el) (hx : lk E x = some (.pointer (some a))) (hy : lk E y = some (.pointer none)) :
    Val P n w0 S0 E L o (.bool true) := by
  intro ac w hs _
  have h2 := (hT _ _ ht).1
  rw [hd] at h2
  have h3 : P.underlying t = some (.pointer (P.pointee t)) := by rw [h2]; simp [Program.pointee, h2]
  have hg : (eqGuard .neq t x y (.pointer (some a)) (.pointer none)).run P w = .ok () w := by simp [eqGuard]
  simp [execOp, ho, hs.eval hx, hs.eval hy, hg, run_neq_pointer_nil w t (some a) h3]
end
/-- Records that a state holds: a row of its own, and blocks that no one turns. -/
structure StO (tS tR : TypeId) (sb : Nat) (pool : Hp) where
  v : Value
  bb : Hp
  l : List SX
  own : Own tR 42 v l.length (rws SX.c l) bb
  nd : (sb :: bb.map (·.1)).Nodup
  h8 : l.length ≤ 8
  hk : ∀ s ∈ l, s.r.keys.length ≤ 1000000 ∧ s.r.used.length ≤ 1000000
  kn : ∀ w, Has pool w → ∀ s ∈ l, s.ok w
def StO.L {tS tR : TypeId} {sb : Nat} {pool : Hp} (s : StO tS tR sb pool) : Hp := (sb, .cells #[s.v] tS (0, 0)) :: s.bb
def StO.rs {tS tR : TypeId} {sb : Nat} {pool : Hp} (s : StO tS tR sb pool) : List Rc := s.l.map SX.r
/-- What a reader needs. -/
def StW (tS : TypeId) (w : World) (sb : Nat) (v : Value) (l : List SX) : Prop :=
  w.heap[sb]? = some (.cells #[v] tS (0, 0)) ∧ SrcW w 42 v l.length (rws SX.c l) ∧ ∀ s ∈ l, s.ok w
theorem StO.w {tS tR : TypeId} {sb : Nat} {pool : Hp} (s : StO tS tR sb pool) {w : World} (h : Has s.L w) (hp : Has pool w) : StW tS w sb s.v s.l :=
  ⟨h _ List.mem_cons_self, s.own.srcW (fun q hq => h q (List.mem_cons_of_mem _ hq)), s.kn w hp⟩
end Go.Vc
namespace Go.Proofs.YtkkfaffehbjdgaaGreatDoor
set_option maxRecDepth 10000
attribute [local irreducible] Go.Vc.Run Go.Vc.RC Go.Vc.RQ Go.Vc.DR Go.Vc.DOp
open Go Go.Vc Go.Sha

set_option maxRecDepth 10000 in set_option maxHeartbeats 4000000 in
theorem CloneH_calls (m : Nat) (hm : m ≤ 1000000) (l : List Nat) (v : Value) (w : World) (hs : SrcW w 8 v m (u8s l)) :
    Makes Tryz.prog 45 [v] w 32 8 m (u8s l) := by
  refine enter Tryz.func45 rfl (Mem.nil w []) rfl ?_
  obtain ⟨va, vc, rfl, hvc⟩ := hs.shape
  (repeat refine RC.seq ?_); refine RC.region ?_
  refine Run.a (Val.of rfl) ?_
  refine Run.nil (RQ.next ?_)
  have hsl := hs.len
  have hsrc := fun L => hs.src (L := L)
  cases va with
  | none =>
    (repeat refine RC.seq ?_); refine RC.region ?_
    refine Run.a (Val.of rfl) ?_
    refine Run.a (Val.sliceNil tabOk rfl rfl rfl rfl rfl) ?_
    refine Run.nil (RQ.next ?_)
    (repeat refine RC.seq ?_); refine RC.condT rfl rfl ?_
    (repeat refine RC.seq ?_); refine RC.region ?_
    refine Run.a (Val.of rfl) ?_
    refine Run.nil (RQ.next ?_)
    refine RC.ret ?_; (repeat first | refine RQ.thenRet ?_ | refine RQ.blockRet ?_)
    have hz : m = 0 := Nat.eq_zero_of_not_pos fun h0 => by obtain ⟨a, c, hv, _⟩ := hs.pos h0; cases hv
    subst hz
    have hnil : u8s l = [] := List.eq_nil_of_length_eq_zero (by rw [hsl, Nat.zero_mul])
    rw [hnil]
    exact RQ.ret1 rfl (Res.tmp rfl) fun w' hm => Makes.of (bl := []) Own.nil hm
  | some a =>
    (repeat refine RC.seq ?_); refine RC.region ?_
    refine Run.a (Val.of rfl) ?_
    refine Run.a (Val.sliceNil tabOk rfl rfl rfl rfl rfl) ?_
    refine Run.nil (RQ.next ?_)
    (repeat refine RC.seq ?_); refine RC.condF rfl rfl (RC.skip (RQ.next ?_))
    (repeat refine RC.seq ?_); refine RC.region ?_
    refine Run.nw (New.buildSlice tabOk (parts := []) (cells := #[]) rfl rfl rfl rfl rfl rfl (fillS_nil _ _)) ?_
    intro b5
    refine Run.a (Val.of rfl) ?_
    have hown : Own 32 8 (.slice (some ⟨b5, 0, none⟩) 0 0) 0 [] [(b5, .cells #[] 32 (0, 0))] := Own.row b5 0 0 [] [] rfl rfl (Nat.le_refl _) (by unfold maxLen; decide)
    refine Run.op rfl (OpTo.append tabOk hown (hsrc _) rfl rfl rfl rfl rfl rfl rfl rfl rfl (List.Perm.refl _) (u8s_one _) (by unfold maxLen; omega) (by simp only [ti32]; omega)) ?_
    rintro ⟨⟨v9, bl9⟩, hown9⟩
    dsimp only at hown9 ⊢
    rw [Nat.zero_add, List.nil_append] at hown9
    refine Run.a (Val.of rfl) ?_
    refine Run.nil (RQ.next ?_)
    refine RC.ret ?_; (repeat first | refine RQ.thenRet ?_ | refine RQ.blockRet ?_)
    exact RQ.ret1 rfl (Res.tmp rfl) fun w' hm => Makes.of hown9 hm

set_option maxRecDepth 10000 in set_option maxHeartbeats 4000000 in
theorem CloneI_calls (m : Nat) (hm : m ≤ 1000000) (l : List Int) (v : Value) (w : World) (hs : SrcW w 1 v m (i64L l)) :
    Makes Tryz.prog 48 [v] w 3 1 m (i64L l) := by
  refine enter Tryz.func48 rfl (Mem.nil w []) rfl ?_
  obtain ⟨va, vc, rfl, hvc⟩ := hs.shape
  (repeat refine RC.seq ?_); refine RC.region ?_
  refine Run.a (Val.of rfl) ?_
  refine Run.nil (RQ.next ?_)
  have hsl := hs.len
  have hsrc := fun L => hs.src (L := L)
  cases va with
  | none =>
    (repeat refine RC.seq ?_); refine RC.region ?_
    refine Run.a (Val.of rfl) ?_
    refine Run.a (Val.sliceNil tabOk rfl rfl rfl rfl rfl) ?_
    refine Run.nil (RQ.next ?_)
    (repeat refine RC.seq ?_); refine RC.condT rfl rfl ?_
    (repeat refine RC.seq ?_); refine RC.region ?_
    refine Run.a (Val.of rfl) ?_
    refine Run.nil (RQ.next ?_)
    refine RC.ret ?_; (repeat first | refine RQ.thenRet ?_ | refine RQ.blockRet ?_)
    have hz : m = 0 := Nat.eq_zero_of_not_pos fun h0 => by obtain ⟨a, c, hv, _⟩ := hs.pos h0; cases hv
    subst hz
    have hnil : i64L l = [] := List.eq_nil_of_length_eq_zero (by rw [hsl, Nat.zero_mul])
    rw [hnil]
    exact RQ.ret1 rfl (Res.tmp rfl) fun w' hm => Makes.of (bl := []) Own.nil hm
  | some a =>
    (repeat refine RC.seq ?_); refine RC.region ?_
    refine Run.a (Val.of rfl) ?_
    refine Run.a (Val.sliceNil tabOk rfl rfl rfl rfl rfl) ?_
    refine Run.nil (RQ.next ?_)
    (repeat refine RC.seq ?_); refine RC.condF rfl rfl (RC.skip (RQ.next ?_))
    (repeat refine RC.seq ?_); refine RC.region ?_
    refine Run.nw (New.buildSlice tabOk (parts := []) (cells := #[]) rfl rfl rfl rfl rfl rfl (fillS_nil _ _)) ?_
    intro b5
    refine Run.a (Val.of rfl) ?_
    have hown : Own 3 1 (.slice (some ⟨b5, 0, none⟩) 0 0) 0 [] [(b5, .cells #[] 3 (0, 0))] := Own.row b5 0 0 [] [] rfl rfl (Nat.le_refl _) (by unfold maxLen; decide)
    refine Run.op rfl (OpTo.append tabOk hown (hsrc _) rfl rfl rfl rfl rfl rfl rfl rfl rfl (List.Perm.refl _) (by intro u hu; unfold i64L at hu; obtain ⟨z, _, rfl⟩ := List.mem_map.1 hu; rfl) (by unfold maxLen; omega) (by simp only [ti3]; omega)) ?_
    rintro ⟨⟨v9, bl9⟩, hown9⟩
    dsimp only at hown9 ⊢
    rw [Nat.zero_add, List.nil_append] at hown9
    refine Run.a (Val.of rfl) ?_
    refine Run.nil (RQ.next ?_)
    refine RC.ret ?_; (repeat first | refine RQ.thenRet ?_ | refine RQ.blockRet ?_)
    exact RQ.ret1 rfl (Res.tmp rfl) fun w' hm => Makes.of hown9 hm

set_option maxRecDepth 10000 in set_option maxHeartbeats 4000000 in
theorem CloneO_calls (w : World) : Gives Tryz.prog 46 [.slice none 0 0] (.slice none 0 0) w := by
  refine enter Tryz.func46 rfl (Mem.nil w []) rfl ?_
  (repeat refine RC.seq ?_); refine RC.region ?_
  refine Run.a (Val.of rfl) ?_
  refine Run.nil (RQ.next ?_)
  (repeat refine RC.seq ?_); refine RC.region ?_
  refine Run.a (Val.of rfl) ?_
  refine Run.a (Val.sliceNil tabOk rfl rfl rfl rfl rfl) ?_
  refine Run.nil (RQ.next ?_)
  (repeat refine RC.seq ?_); refine RC.condT rfl rfl ?_
  (repeat refine RC.seq ?_); refine RC.region ?_
  refine Run.a (Val.of rfl) ?_
  refine Run.nil (RQ.next ?_)
  refine RC.ret ?_; (repeat first | refine RQ.thenRet ?_ | refine RQ.blockRet ?_); exact RQ.ret1 rfl (Res.tmp rfl) fun w' hm => ⟨rfl, hm.fr⟩

set_option maxRecDepth 10000 in set_option maxHeartbeats 4000000 in
theorem CloneS_calls (w : World) : Gives Tryz.prog 47 [.slice none 0 0] (.slice none 0 0) w := by
  refine enter Tryz.func47 rfl (Mem.nil w []) rfl ?_
  (repeat refine RC.seq ?_); refine RC.region ?_
  refine Run.a (Val.of rfl) ?_
  refine Run.nil (RQ.next ?_)
  (repeat refine RC.seq ?_); refine RC.region ?_
  refine Run.a (Val.of rfl) ?_
  refine Run.a (Val.sliceNil tabOk rfl rfl rfl rfl rfl) ?_
  refine Run.nil (RQ.next ?_)
  (repeat refine RC.seq ?_); refine RC.condT rfl rfl ?_
  (repeat refine RC.seq ?_); refine RC.region ?_
  refine Run.a (Val.of rfl) ?_
  refine Run.nil (RQ.next ?_)
  refine RC.ret ?_; (repeat first | refine RQ.thenRet ?_ | refine RQ.blockRet ?_); exact RQ.ret1 rfl (Res.tmp rfl) fun w' hm => ⟨rfl, hm.fr⟩

set_option maxRecDepth 10000 in set_option maxHeartbeats 4000000 in
theorem copied_calls (s : SX) (hkl : s.r.keys.length ≤ 1000000) (hul : s.r.used.length ≤ 1000000) (w : World) (hok : s.ok w) :
    MakesD Tryz.prog 27 [.agg s.c.toArray] w (fun x : SX => .agg x.c.toArray) (fun x => x.r = s.r) (fun w x => x.ok w) := by
  obtain ⟨r, kv, uv, hko0, huo0⟩ := s
  obtain ⟨h1, h2⟩ := hok
  dsimp only at h1 h2 hkl hul
  show MakesD _ _ [.agg (r.c kv uv).toArray] w _ _ _
  refine enter Tryz.func27 rfl (Mem.nil w []) rfl ?_
  have hC := fun w' hs' => CloneH_calls r.keys.length hkl r.keys.flatten kv w' hs'
  have hD := fun w' hs' => CloneI_calls r.used.length hul r.used uv w' hs'
  (repeat refine RC.seq ?_); refine RC.region ?_
  refine Run.nw (New.boxA rfl rfl) ?_
  intro b1
  refine Run.nw (New.allocTo tabOk (cs := zeroC.toArray) rfl rfl (by kernel_rfl)) ?_
  intro b2
  refine Run.nil (RQ.next ?_)
  (repeat refine RC.seq ?_); refine RC.region ?_
  refine Run.a (Val.fieldAddr tabOk rfl rfl rfl rfl rfl rfl rfl rfl) ?_
  refine Run.a (Val.fieldAddr tabOk rfl rfl rfl rfl rfl rfl rfl rfl) ?_
  refine Run.a (Val.load (v := kv) tabOk rfl rfl rfl m1 rfl) ?_
  refine Run.op rfl (OpTo.callMk Tryz.func45 rfl rfl rfl rfl rfl rfl (fun w' hm => hC w' (h1.mem hm))) ?_
  rintro ⟨⟨kv2, kb⟩, hk⟩
  dsimp only at hk ⊢
  have hko := hk.one
  refine Run.a (Val.fieldAddr tabOk rfl rfl rfl rfl rfl rfl rfl rfl) ?_
  refine Run.a (Val.fieldAddr tabOk rfl rfl rfl rfl rfl rfl rfl rfl) ?_
  refine Run.op1 (OpTo.storeTo tabOk (arr' := (r.c kv2 uv).toArray) (by obtain ⟨a, c, rfl, _⟩ := hk.shape; rfl) rfl rfl rfl rfl rfl pin1 (by obtain ⟨a, c, rfl, _⟩ := hk.shape; rfl) (show 3 + 1 ≤ 42 by decide) (by obtain ⟨a, c, rfl, _⟩ := hk.shape; intro u hu; simp [Value.cells] at hu; subst hu; rfl)) (fun _ => ?_)
  refine Run.nil (RQ.next ?_)

  (repeat refine RC.seq ?_); refine RC.region ?_
  refine Run.a (Val.fieldAddr tabOk rfl rfl rfl rfl rfl rfl rfl rfl) ?_
  refine Run.a (Val.fieldAddr tabOk rfl rfl rfl rfl rfl rfl rfl rfl) ?_
  refine Run.a (Val.load (v := .slice none 0 0) tabOk rfl rfl rfl m0 rfl) ?_
  refine Run.callV Tryz.func46 rfl rfl rfl rfl rfl rfl rfl (fun w' _ => CloneO_calls w') ?_
  refine Run.a (Val.fieldAddr tabOk rfl rfl rfl rfl rfl rfl rfl rfl) ?_
  refine Run.a (Val.fieldAddr tabOk rfl rfl rfl rfl rfl rfl rfl rfl) ?_
  refine Run.op1 (OpTo.storeTo tabOk (arr' := (r.c kv2 uv).toArray) (by rfl) rfl rfl rfl rfl rfl (List.Perm.refl _) rfl (by show _ + 1 ≤ 42; decide) (by intro u hu; simp [Value.cells] at hu; subst hu; rfl)) (fun _ => ?_)
  refine Run.nil (RQ.next ?_)

  (repeat refine RC.seq ?_); refine RC.region ?_
  refine Run.a (Val.fieldAddr tabOk rfl rfl rfl rfl rfl rfl rfl rfl) ?_
  refine Run.a (Val.fieldAddr tabOk rfl rfl rfl rfl rfl rfl rfl rfl) ?_
  refine Run.a (Val.load (v := .slice none 0 0) tabOk rfl rfl rfl m0 rfl) ?_
  refine Run.callV Tryz.func47 rfl rfl rfl rfl rfl rfl rfl (fun w' _ => CloneS_calls w') ?_
  refine Run.a (Val.fieldAddr tabOk rfl rfl rfl rfl rfl rfl rfl rfl) ?_
  refine Run.a (Val.fieldAddr tabOk rfl rfl rfl rfl rfl rfl rfl rfl) ?_
  refine Run.op1 (OpTo.storeTo tabOk (arr' := (r.c kv2 uv).toArray) (by rfl) rfl rfl rfl rfl rfl (List.Perm.refl _) rfl (by show _ + 1 ≤ 42; decide) (by intro u hu; simp [Value.cells] at hu; subst hu; rfl)) (fun _ => ?_)
  refine Run.nil (RQ.next ?_)

  (repeat refine RC.seq ?_); refine RC.region ?_
  refine Run.a (Val.fieldAddr tabOk rfl rfl rfl rfl rfl rfl rfl rfl) ?_
  refine Run.a (Val.load (v := uv) tabOk rfl rfl rfl m0 rfl) ?_
  refine Run.op rfl (OpTo.callMk Tryz.func48 rfl rfl rfl rfl rfl rfl (fun w' hm => hD w' (h2.mem hm))) ?_
  rintro ⟨⟨uv2, ub⟩, hu⟩
  dsimp only at hu ⊢
  have huo := hu.one
  refine Run.a (Val.fieldAddr tabOk rfl rfl rfl rfl rfl rfl rfl rfl) ?_
  refine Run.op1 (OpTo.storeTo tabOk (arr' := (r.c kv2 uv2).toArray) (by obtain ⟨a, c, rfl, _⟩ := hu.shape; rfl) rfl rfl rfl rfl rfl pin0 (by obtain ⟨a, c, rfl, _⟩ := hu.shape; rfl) (show 41 + 1 ≤ 42 by decide) (by obtain ⟨a, c, rfl, _⟩ := hu.shape; intro u hu; simp [Value.cells] at hu; subst hu; rfl)) (fun _ => ?_)
  refine Run.nil (RQ.next ?_)
  (repeat refine RC.seq ?_); refine RC.region ?_
  refine Run.a (Val.loadAll tabOk rfl rfl rfl rfl m0 rfl) ?_
  refine Run.op1 (OpTo.setV tabOk [] zeroC (r.c kv2 uv2) [] rfl rfl rfl rfl rfl pend rfl (by simp) rfl rfl rfl (r.one hko huo)) (fun _ => ?_)
  rw [List.nil_append, List.append_nil]
  refine Run.nil (RQ.next ?_)
  refine RC.ret ?_; (repeat first | refine RQ.thenRet ?_ | refine RQ.blockRet ?_)
  refine RQ.ret1 rfl (Res.cellAll tabOk rfl rfl rfl m0 rfl) fun w' hm => MakesD.of (V := fun x : SX => .agg x.c.toArray) (bl := kb ++ ub) ⟨r, kv2, uv2, hko, huo⟩ hm ?_ ?_ rfl (fun w hw => ⟨hk.srcW hw.left, hu.srcW hw.right⟩)
  · exact fun p hp => List.mem_cons_of_mem _ (List.mem_cons_of_mem _ (List.mem_append.2 (Or.comm.1 (List.mem_append.1 hp))))
  · have := hm.nd
    rw [List.map_cons, List.map_cons, List.nodup_cons, List.nodup_cons, List.map_append] at this
    rw [List.map_append]
    exact (List.perm_append_comm.nodup_iff).1 this.2.2

set_option maxRecDepth 10000 in set_option maxHeartbeats 4000000 in
theorem RNew_calls (w : World) : NewOf Tryz.prog 17 [] w (fun b => .pointer (some ⟨b, 0, none⟩)) (.cells #[.slice none 0 0] 81 (0, 0)) := by
  refine enter Tryz.func17 rfl (Mem.nil w []) rfl ?_
  (repeat refine RC.seq ?_); refine RC.region ?_
  refine Run.a (Val.of rfl) ?_
  refine Run.nil (RQ.next ?_)
  (repeat refine RC.seq ?_); refine RC.region ?_
  refine Run.a (Val.buildS tabOk (parts := []) (cells := #[.slice none 0 0]) rfl rfl rfl rfl rfl rfl) ?_
  refine Run.nw (New.boxA rfl rfl) ?_
  intro b
  refine Run.a (Val.of rfl) ?_
  refine Run.nil (RQ.next ?_)
  refine RC.ret ?_; (repeat first | refine RQ.thenRet ?_ | refine RQ.blockRet ?_)
  exact RQ.ret1 rfl (Res.tmp rfl) fun w' hm => NewOf.of (V := fun b => .pointer (some ⟨b, 0, none⟩)) hm m0

set_option maxRecDepth 10000 in set_option maxHeartbeats 4000000 in
theorem mMay_calls (z : Int) (w : World) : Gives Tryz.prog 41 [.int .i64 z] (.bool (decide (0 ≤ z ∧ z ≤ 1125899906842624))) w := by
  refine enter Tryz.func41 rfl (Mem.nil w []) rfl ?_
  (repeat refine RC.seq ?_); refine RC.region ?_
  refine Run.a (Val.of rfl) ?_
  refine Run.nil (RQ.next ?_)
  by_cases h : 0 ≤ z
  · (repeat refine RC.seq ?_); refine RC.region ?_
    refine Run.a (Val.of rfl) ?_
    refine Run.a (Val.eq (Val.of rfl) (show _ = Value.bool true from congrArg Value.bool (decide_eq_true h))) ?_
    refine Run.a (Val.of rfl) ?_
    refine Run.a (Val.of rfl) ?_
    refine Run.a (Val.eq (Val.of rfl) (show _ = Value.bool (decide (0 ≤ z ∧ z ≤ 1125899906842624)) from congrArg Value.bool (by rw [decide_eq_decide]; omega))) ?_
    refine Run.a (Val.of rfl) ?_
    refine Run.a (Val.of rfl) ?_
    refine Run.nil (RQ.next ?_)
    refine RC.ret ?_; (repeat first | refine RQ.thenRet ?_ | refine RQ.blockRet ?_); exact RQ.ret1 rfl (Res.tmp rfl) fun w' hm => ⟨rfl, hm.fr⟩
  · rw [show decide (0 ≤ z ∧ z ≤ 1125899906842624) = false from decide_eq_false (by omega)]
    (repeat refine RC.seq ?_); refine RC.region ?_
    refine Run.a (Val.of rfl) ?_
    refine Run.a (Val.eq (Val.of rfl) (show _ = Value.bool false from congrArg Value.bool (decide_eq_false h))) ?_
    refine Run.a (Val.of rfl) ?_
    refine Run.sk ?_
    refine Run.sk ?_
    refine Run.a (Val.of rfl) ?_
    refine Run.a (Val.of rfl) ?_
    refine Run.nil (RQ.next ?_)
    refine RC.ret ?_; (repeat first | refine RQ.thenRet ?_ | refine RQ.blockRet ?_); exact RQ.ret1 rfl (Res.tmp rfl) fun w' hm => ⟨rfl, hm.fr⟩

theorem cell_sb {w : World} {sb : Nat} {v : Value} {t : TypeId} (h : w.heap[sb]? = some (.cells #[v] t (0, 0))) : w.cell? ⟨sb, 0, none⟩ = some v := by
  rw [cell_of_row w sb 0 _ _ _ h]; rfl

set_option maxRecDepth 10000 in set_option maxHeartbeats 4000000 in
theorem in_calls (sb m c : Nat) (a : Option Addr) (hml : m ≤ 9223372036854775807) (z : Int) (w : World) (hs : w.heap[sb]? = some (.cells #[.slice a m c] 81 (0, 0))) :
    Gives Tryz.prog 26 [.pointer (some ⟨sb, 0, none⟩), .int .i64 z] (.bool (decide (0 ≤ z ∧ z < m))) w := by
  refine enter Tryz.func26 rfl (Mem.nil w []) rfl ?_
  have hcell := cell_sb hs
  (repeat refine RC.seq ?_); refine RC.region ?_
  refine Run.a (Val.of rfl) ?_
  refine Run.nil (RQ.next ?_)
  by_cases h : 0 ≤ z
  · (repeat refine RC.seq ?_); refine RC.region ?_
    refine Run.a (Val.of rfl) ?_
    refine Run.a (Val.ptrNe tabOk rfl rfl rfl rfl rfl) ?_
    refine Run.a (Val.of rfl) ?_
    refine Run.a (Val.of rfl) ?_
    refine Run.a (Val.eq (Val.of rfl) (show _ = Value.bool true from congrArg Value.bool (decide_eq_true h))) ?_
    refine Run.a (Val.of rfl) ?_
    refine Run.a (Val.of rfl) ?_
    refine Run.a (Val.of rfl) ?_
    refine Run.a (Val.of rfl) ?_
    refine Run.a (Val.of rfl) ?_
    refine Run.a (Val.fieldAddr tabOk rfl rfl rfl rfl rfl rfl rfl rfl) ?_
    refine Run.a (Val.loadOld1 (v := .slice a m c) tabOk rfl rfl rfl rfl (by simp) hcell) ?_
    refine Run.a (Val.len (len := m) tabOk rfl rfl rfl rfl) ?_
    refine Run.a (Val.eq (Val.of rfl) (show _ = Value.bool (decide (0 ≤ z ∧ z < m)) from congrArg Value.bool (by rw [decide_eq_decide]; omega))) ?_
    refine Run.a (Val.of rfl) ?_
    refine Run.a (Val.of rfl) ?_
    refine Run.nil (RQ.next ?_)
    refine RC.ret ?_; (repeat first | refine RQ.thenRet ?_ | refine RQ.blockRet ?_); exact RQ.ret1 rfl (Res.tmp rfl) fun w' hm => ⟨rfl, hm.fr⟩
  · rw [show decide (0 ≤ z ∧ z < m) = false from decide_eq_false (by omega)]
    (repeat refine RC.seq ?_); refine RC.region ?_
    refine Run.a (Val.of rfl) ?_
    refine Run.a (Val.ptrNe tabOk rfl rfl rfl rfl rfl) ?_
    refine Run.a (Val.of rfl) ?_
    refine Run.a (Val.of rfl) ?_
    refine Run.a (Val.eq (Val.of rfl) (show _ = Value.bool false from congrArg Value.bool (decide_eq_false h))) ?_
    refine Run.a (Val.of rfl) ?_
    refine Run.a (Val.of rfl) ?_
    refine Run.sk ?_
    refine Run.sk ?_
    refine Run.sk ?_
    refine Run.sk ?_
    refine Run.sk ?_
    refine Run.sk ?_
    refine Run.sk ?_
    refine Run.a (Val.of rfl) ?_
    refine Run.a (Val.of rfl) ?_
    refine Run.nil (RQ.next ?_)
    refine RC.ret ?_; (repeat first | refine RQ.thenRet ?_ | refine RQ.blockRet ?_); exact RQ.ret1 rfl (Res.tmp rfl) fun w' hm => ⟨rfl, hm.fr⟩

end Go.Proofs.YtkkfaffehbjdgaaGreatDoor
end
section
/- registry: Side, Total; Create, Forward, Set, Copy. -/
namespace Go.Sha
/-- What a record of parameters begins as. -/
def rcNew (ln wd nd : Int) (ks : List (List Nat)) (h : Int) : Rc := ⟨ln, wd, nd, h, 0, 0, false, 0, ks, []⟩
def createR (l : List Rc) (ok : Bool) (rc : Rc) : List Rc × Int × Int := bif ok then (if l.length < 8 then (l ++ [rc], (l.length : Int), 0) else (l, 0, 18)) else (l, 0, 4)
theorem createR_bad (l : List Rc) (rc : Rc) : createR l false rc = (l, 0, 4) := rfl
theorem createR_full {l : List Rc} (rc : Rc) (h : ¬ l.length < 8) : createR l true rc = (l, 0, 18) := by simp [createR, h]
theorem createR_ok {l : List Rc} (rc : Rc) (h : l.length < 8) : createR l true rc = (l ++ [rc], (l.length : Int), 0) := by simp [createR, h]
def mm : Int := 1125899906842624
def fits (r : Rc) (a : Int) : Bool := decide (1 ≤ a ∧ a ≤ 1125899906842624) && (decide (r.bal ≤ 1125899906842624 - a) && decide (r.fwd ≤ 1125899906842624 - a))
def Rc.plus (r : Rc) (a : Int) : Rc := { r with bal := r.bal + a, fwd := r.fwd + a }
def fwdR (l : List Rc) (s a : Int) : List Rc × Int :=
  if 0 ≤ s ∧ s < l.length then
    match l[s.toNat]? with
    | some r => if r.ce = true then (l, 14) else if fits r a = true then (l.set s.toNat (r.plus a), 0) else (l, 5)
    | none => (l, 8)
  else (l, 8)
theorem fwdR_no {l : List Rc} {s a : Int} (h : ¬ (0 ≤ s ∧ s < l.length)) : fwdR l s a = (l, 8) := if_neg h
theorem fwdR_ce {l : List Rc} {i : Nat} {r : Rc} {a : Int} (h : l[i]? = some r) (hc : r.ce = true) : fwdR l i a = (l, 14) := by
  have := (List.getElem?_eq_some_iff.1 h).1
  unfold fwdR; rw [if_pos (by omega)]; simp only [Int.toNat_natCast, h]; rw [if_pos hc]
theorem fwdR_bad {l : List Rc} {i : Nat} {r : Rc} {a : Int} (h : l[i]? = some r) (hc : r.ce = false) (hf : fits r a = false) : fwdR l i a = (l, 5) := by
  have := (List.getElem?_eq_some_iff.1 h).1
  unfold fwdR; rw [if_pos (by omega)]; simp only [Int.toNat_natCast, h]; rw [if_neg (by simp [hc]), if_neg (by simp [hf])]
theorem fwdR_ok {l : List Rc} {i : Nat} {r : Rc} {a : Int} (h : l[i]? = some r) (hc : r.ce = false) (hf : fits r a = true) : fwdR l i a = (l.set i (r.plus a), 0) := by
  have := (List.getElem?_eq_some_iff.1 h).1
  unfold fwdR; rw [if_pos (by omega)]; simp only [Int.toNat_natCast, h]; rw [if_neg (by simp [hc]), if_pos hf]
/-- A forward's cells. -/
def fwdC (s a : Int) (o : List Nat) (m : Int) : List Go.Value := .int .i64 s :: .int .i64 a :: (u8s o ++ [.int .i64 m])
theorem fwdC_at {s a m : Int} {o : List Nat} (h : o.length = 8) : (fwdC s a o m).toArray[10]? = some (.int .i64 m) := by
  rw [List.getElem?_toArray, fwdC, List.getElem?_cons_succ, List.getElem?_cons_succ, List.getElem?_append_right (by rw [u8s_len, h]; decide), u8s_len, h]; rfl
end Go.Sha
namespace Go.Proofs.YtkkfaffehbjdgaaGreatDoor
set_option maxRecDepth 10000
attribute [local irreducible] Go.Vc.Run Go.Vc.RC Go.Vc.RQ Go.Vc.DR Go.Vc.DOp
open Go Go.Vc Go.Sha
abbrev PSt := StO 81 45
abbrev RSt := StO 63 95

abbrev SY (tS tR : TypeId) (sb : Nat) (pool : Hp) (rs : List Rc) := {y : (np : Hp) × StO tS tR sb (np ++ pool) // y.2.rs = rs}
abbrev CrY (sb : Nat) (pool : Hp) (rs : List Rc) := SY 81 45 sb pool rs
abbrev RrY (sb : Nat) (pool : Hp) (rs : List Rc) := SY 63 95 sb pool rs
theorem cr_of {tS tR : TypeId} {sb : Nat} {pool ap Lst L1 Lr : Hp} {rs : List Rc} {w w' : World} {x : Value} (np : Hp) (st' : StO tS tR sb (np ++ pool)) (hrs : st'.rs = rs) (hm : Mem w (Lst.map (·.1)) L1 w') (hp : L1.Perm (st'.L ++ (np ++ ap) ++ Lr)) :
    ∃ y' : SY tS tR sb pool rs, Ending.returned x = .returned x ∧ Fr (Lst.map (·.1)) w w' ∧ Has (y'.1.2.L ++ (y'.1.1 ++ ap)) w' ∧ (∀ p ∈ y'.1.2.L ++ (y'.1.1 ++ ap), w.heap.size ≤ p.1 ∨ p.1 ∈ Lst.map (·.1)) ∧ ((y'.1.2.L ++ (y'.1.1 ++ ap)).map (·.1)).Nodup :=
  Turns.of (Y := SY tS tR sb pool rs) (V := fun _ => x) (L' := fun y => y.1.2.L ++ (y.1.1 ++ ap)) ⟨⟨np, st'⟩, hrs⟩ hm hp

set_option maxRecDepth 10000 in set_option maxHeartbeats 4000000 in
theorem Create_calls {sb : Nat} {pool : Hp} (st : PSt sb pool) {ln wd nd : Int} {ks : List (List Nat)} (hH : HL ks) (hkl : ks.length ≤ 1000000) {kv : Value} (hk1 : kv.oneCell' = true) {ap : Hp} (hk : ∀ w, Has ap w → SrcW w 8 kv ks.length (u8s ks.flatten)) (h : Int) (w : World)
    (hw : Has (st.L ++ ap) w) (hnd : ((st.L ++ ap).map (·.1)).Nodup) :
    Turns Tryz.prog 18 [.pointer (some ⟨sb, 0, none⟩), .agg (prm ln wd nd kv).toArray, .int .i64 h] w (st.L ++ ap)
      (Y := CrY sb pool (createR st.rs (mayP ln wd nd ks) (rcNew ln wd nd ks h)).1)
      (fun _ => .tuple #[.int .i64 (createR st.rs (mayP ln wd nd ks) (rcNew ln wd nd ks h)).2.1, .int .i64 (createR st.rs (mayP ln wd nd ks) (rcNew ln wd nd ks h)).2.2]) (fun y => y.1.2.L ++ (y.1.1 ++ ap)) := by
  refine enter Tryz.func18 rfl (Mem.init (S0 := (st.L ++ ap).map (·.1)) hw (fun p hp => List.mem_map_of_mem hp) hnd) rfl ?_
  have hM := fun w' hs' => May_calls ln wd nd ks hH (by omega) kv w' hs'
  have hlr : st.rs.length = st.l.length := List.length_map _
  have hap : ∀ {w' : World} {L1 : Hp}, Mem w ((st.L ++ ap).map (·.1)) (L1 ++ (st.L ++ ap)) w' → Has ap w' := fun hm p hp => hm.has p (List.mem_append_right _ (List.mem_append_right _ hp))
  refine z_ ?_
  refine Run.nw nbx ?_
  intro b4
  refine z_ ?_
  refine Run.op1 (OpTo.cv Tryz.func37 (fun w' hm => hM w' (hk w' (hap (L1 := [_]) hm)))) (fun _ => ?_)
  cases hmay : mayP ln wd nd ks with
  | false =>
    rw [createR_bad]
    refine z_ ?_
    exact RQ.ret2 rfl (Res.tmp rfl) (Res.tmp rfl) fun w' hm => cr_of (Lr := [(b4, .cells (prm ln wd nd kv).toArray 43 (0, 0))]) [] st rfl hm (perm_of fun f => by (simp only [List.map_append, List.map_cons, List.map_nil, List.sum_append, List.sum_cons, List.sum_nil] <;> omega))
  | true =>
    obtain ⟨va, vc, hv, hvc⟩ := st.own.shape
    have hcells : st.L = (sb, .cells #[.slice va st.l.length vc] 81 (0, 0)) :: st.bb := by unfold StO.L; rw [hv]
    by_cases h8 : st.l.length < 8
    · rw [createR_ok _ (by omega), hlr]
      have hcop := fun w' h1 => copied_calls ⟨rcNew ln wd nd ks h, kv, .slice none 0 0, hk1, rfl⟩ hkl (Nat.zero_le _) w' h1
      have hown := st.own
      rw [hv] at hown
      rw [show (st.L ++ ap) = (sb, .cells #[.slice va st.l.length vc] 81 (0, 0)) :: (st.bb ++ ap) by rw [hcells]; rfl] at hap ⊢
      refine z_ ?_
      (repeat refine RC.seq ?_); refine RC.draw ([(b4, .cells (prm ln wd nd kv).toArray 43 (0, 0)), (sb, .cells #[.slice va st.l.length vc] 81 (0, 0))]) mixed (N := 14) rfl ?_
      refine dt 0 ?_
      refine dt 1 ?_
      refine dt 2 ?_
      refine dt 3 ?_
      refine dt 4 ?_
      refine dt 5 ?_
      refine dt 6 ?_
      refine DR.t 7 rfl (vbs (SX.c ⟨rcNew ln wd nd ks h, kv, .slice none 0 0, hk1, rfl⟩).toArray) ?_
      refine DR.c 8 (DOp.op1 rfl (OpTo.callD Tryz.func27 (fun w' hm => hcop w' ⟨hk w' (hap (L1 := [_]) hm), SrcW.nil⟩)) ?_)
      rintro ⟨⟨s2, bl⟩, hr2, hk2⟩
      dsimp only at hr2 hk2 ⊢
      have hl2 := s2.len
      refine DR.c 9 ?_
      refine DOp.op1 rfl (OpTo.new rfl rfl (nbsl s2.c.toArray (fillS_1 42 _ s2.c hl2))) ?_
      intro b31
      refine DR.c 10 (DOp.op1 rfl (OpTo.append (L1 := (b31, .cells s2.c.toArray 45 (0, 0)) :: (bl ++ ((b4, .cells (prm ln wd nd kv).toArray 43 (0, 0)) :: (sb, .cells #[.slice va st.l.length vc] 81 (0, 0)) :: ap))) tabOk hown (Src.at ⟨b31, 0, none⟩ 1 1 s2.c (by rw [hl2]; rfl) (Rd.rowAll m0)) rfl rfl rfl rfl rfl rfl rfl rfl rfl (perm_of fun f => by (simp only [List.map_append, List.map_cons, List.map_nil, List.sum_append, List.sum_cons, List.sum_nil] <;> omega)) s2.one (by unfold maxLen; omega) (by simp only [ti45]; omega)) ?_)
      rintro ⟨⟨v9, bl9⟩, hown9⟩
      dsimp only at hown9 ⊢
      obtain ⟨a9, c9, rfl, hc9⟩ := hown9.shape
      refine dt 11 ?_
      refine dt 12 ?_
      refine DR.c 13 (DOp.op1 rfl (os1 (arr := #[.slice va st.l.length vc]) (e := 81) (L' := bl9 ++ ((b31, .cells s2.c.toArray 45 (0, 0)) :: (bl ++ ((b4, .cells (prm ln wd nd kv).toArray 43 (0, 0)) :: ap)))) #[.slice a9 (st.l.length + 1) c9] (hL := (perm_of fun f => by (simp only [List.map_append, List.map_cons, List.map_nil, List.sum_append, List.sum_cons, List.sum_nil] <;> omega)))) (fun _ => ?_))
      refine DR.done (by kernel_rfl) (RQ.next ?_)
      refine z_ ?_
      refine RQ.ret2 rfl (Res.tmp rfl) (Res.tmp rfl) fun w' hm => ?_
      rw [show ((st.l.length + 1 : Nat) : Int) - 1 = (st.l.length : Int) from by omega]
      have hown' : Own 45 42 (.slice a9 (st.l.length + 1) c9) (st.l ++ [s2]).length (rws SX.c (st.l ++ [s2])) bl9 := by
        rw [rws_app, rws_one, List.length_append]; exact hown9
      have hnd' := hm.nd
      have hrs : (st.l ++ [s2]).map SX.r = st.rs ++ [rcNew ln wd nd ks h] := by rw [List.map_append, List.map_cons, hr2]; rfl
      refine cr_of (sb := sb) (pool := pool) (ap := ap) bl ⟨_, bl9, st.l ++ [s2], hown', ?_, by rw [List.length_append]; exact h8, ?_, ?_⟩ hrs hm (Lr := [(b31, .cells s2.c.toArray 45 (0, 0)), (b4, .cells (prm ln wd nd kv).toArray 43 (0, 0))]) (by unfold StO.L; exact (perm_of fun f => by (simp only [List.map_append, List.map_cons, List.map_nil, List.sum_append, List.sum_cons, List.sum_nil] <;> omega)))
      · rw [List.map_cons, List.map_append, ← List.cons_append] at hnd'
        exact (List.nodup_append.1 hnd').1
      · intro s hs
        rcases List.mem_append.1 hs with hs | hs
        · exact st.hk s hs
        · rw [List.mem_singleton] at hs; subst hs; rw [hr2]; exact ⟨hkl, Nat.zero_le _⟩
      · intro w hw s hs
        rcases List.mem_append.1 hs with hs | hs
        · exact st.kn w hw.right s hs
        · rw [List.mem_singleton] at hs; subst hs; exact hk2 w hw.left
    · rw [createR_full _ (by omega)]
      rw [show (st.L ++ ap) = (sb, .cells #[.slice va st.l.length vc] 81 (0, 0)) :: (st.bb ++ ap) by rw [hcells]; rfl]
      refine z_ ?_
      exact RQ.ret2 rfl (Res.tmp rfl) (Res.tmp rfl) fun w' hm => cr_of (Lr := [(b4, .cells (prm ln wd nd kv).toArray 43 (0, 0))]) [] st rfl hm (by rw [hcells]; exact (perm_of fun f => by (simp only [List.map_append, List.map_cons, List.map_nil, List.sum_append, List.sum_cons, List.sum_nil] <;> omega)))
end Go.Proofs.YtkkfaffehbjdgaaGreatDoor
end
section
/- registry: Forward, Set. -/
namespace Go.Proofs.YtkkfaffehbjdgaaGreatDoor
set_option maxRecDepth 10000
attribute [local irreducible] Go.Vc.Run Go.Vc.RC Go.Vc.RQ Go.Vc.DR Go.Vc.DOp
open Go Go.Vc Go.Sha
abbrev TY (tS tR : TypeId) (sb : Nat) (pool : Hp) (rs : List Rc) := {y : StO tS tR sb pool // y.rs = rs}
abbrev FwY (sb : Nat) (pool : Hp) (rs : List Rc) := TY 81 45 sb pool rs
abbrev RwY (sb : Nat) (pool : Hp) (rs : List Rc) := TY 63 95 sb pool rs
theorem fw_of {tS tR : TypeId} {sb : Nat} {pool Lst L1 Lr : Hp} {rs : List Rc} {w w' : World} {x : Value} (st' : StO tS tR sb pool) (hrs : st'.rs = rs) (hm : Mem w (Lst.map (·.1)) L1 w') (hp : L1.Perm (st'.L ++ Lr)) :
    ∃ y' : TY tS tR sb pool rs, Ending.returned x = .returned x ∧ Fr (Lst.map (·.1)) w w' ∧ Has y'.1.L w' ∧ (∀ p ∈ y'.1.L, w.heap.size ≤ p.1 ∨ p.1 ∈ Lst.map (·.1)) ∧ (y'.1.L.map (·.1)).Nodup :=
  Turns.of (Y := TY tS tR sb pool rs) (V := fun _ => x) (L' := fun y => y.1.L) ⟨st', hrs⟩ hm hp
theorem not_fits {r : Rc} {a : Int} (h : fits r a = false) : ¬ (1 ≤ a ∧ a ≤ 1125899906842624 ∧ r.bal ≤ 1125899906842624 - a ∧ r.fwd ≤ 1125899906842624 - a) := by
  intro hh
  have : fits r a = true := by simp [fits]; omega
  rw [h] at this; cases this
theorem is_fits {r : Rc} {a : Int} (h : fits r a = true) : 1 ≤ a ∧ a ≤ 1125899906842624 ∧ r.bal ≤ 1125899906842624 - a ∧ r.fwd ≤ 1125899906842624 - a := by
  simp [fits] at h; omega
/-- Another record stands in the place of one. -/
def stPut {tS tR : TypeId} {sb : Nat} {pool pool' : Hp} (st : StO tS tR sb pool) {b cap : Nat} {rest : List Value} {i : Nat} {s : SX} (x : SX) (hx : st.l[i]? = some s) (hv : st.v = .slice (some ⟨b, 0, none⟩) st.l.length cap) (hb : st.bb = [(b, .cells (rws SX.c st.l ++ rest).toArray tR (0, 0))])
    (h2 : (rws SX.c st.l ++ rest).length = cap * 42) (h3 : st.l.length ≤ cap) (h4 : cap ≤ maxLen) (hk : x.r.keys.length ≤ 1000000 ∧ x.r.used.length ≤ 1000000) (hok : ∀ w, Has pool' w → x.ok w) (hpp : ∀ p ∈ pool, p ∈ pool') : StO tS tR sb pool' where
  v := .slice (some ⟨b, 0, none⟩) st.l.length cap
  bb := [(b, .cells (rws SX.c (st.l.set i x) ++ rest).toArray tR (0, 0))]
  l := st.l.set i x
  own := by
    have h1 : (rws SX.c (st.l.set i x)).length = (rws SX.c st.l).length := by rw [rws_len SX.len, rws_len SX.len, List.length_set]
    rw [show (.slice (some ⟨b, 0, none⟩) st.l.length cap : Value) = .slice (some ⟨b, 0, none⟩) (st.l.set i x).length cap from by rw [List.length_set]]
    exact Own.row b _ cap _ rest (by rw [rws_len SX.len]) (by rw [List.length_append] at h2 ⊢; rw [h1]; exact h2) (by rw [List.length_set]; exact h3) h4
  nd := by have := st.nd; rw [hb] at this; exact this
  h8 := by rw [List.length_set]; exact st.h8
  hk := fun t ht => by
    rcases List.mem_or_eq_of_mem_set ht with ht | rfl
    · exact st.hk t ht
    · exact hk
  kn := fun w hw t ht => by
    rcases List.mem_or_eq_of_mem_set ht with ht | rfl
    · exact st.kn w (hw.sub hpp) t ht
    · exact hok w hw

set_option maxRecDepth 10000 in set_option maxHeartbeats 4000000 in
theorem Forward_calls {sb : Nat} {pool : Hp} (st : PSt sb pool) (hnn : ∀ r ∈ st.rs, 0 ≤ r.bal ∧ 0 ≤ r.fwd) (side acct amt : Int) (hsd : -9223372036854775808 ≤ side ∧ side ≤ 9223372036854775807) (o : List Nat) (ho : o.length = 8) (w : World)
    (hw : Has st.L w) (hnd : (st.L.map (·.1)).Nodup) :
    Turns Tryz.prog 21 [.pointer (some ⟨sb, 0, none⟩), .agg (fwdC side acct o amt).toArray] w st.L
      (Y := FwY sb pool (fwdR st.rs side amt).1) (fun _ => .int .i64 (fwdR st.rs side amt).2) (fun y => y.1.L) := by
  obtain ⟨va, vc, hv, hvc⟩ := st.own.shape
  have hcells : st.L = (sb, .cells #[.slice va st.l.length vc] 81 (0, 0)) :: st.bb := by unfold StO.L; rw [hv]
  have hlr : st.rs.length = st.l.length := List.length_map _
  have hI := fun w' hs' => in_calls sb st.l.length vc va (by have := st.h8; omega) side w' hs'
  have hat := fwdC_at (s := side) (a := acct) (m := amt) ho
  refine enter Tryz.func21 rfl (Mem.init (S0 := st.L.map (·.1)) hw (fun p hp => List.mem_map_of_mem hp) hnd) rfl ?_
  rw [hcells]
  refine z_ ?_
  refine Run.nw nbx ?_
  intro b3
  refine z_ ?_
  refine Run.op1 (OpTo.cv Tryz.func26 (fun w' hm => hI w' (hm.has _ m1))) (fun _ => ?_)
  by_cases hin : 0 ≤ side ∧ side < st.l.length
  · obtain ⟨i, rfl⟩ := Int.eq_ofNat_of_zero_le hin.1
    have hi : i < st.l.length := by omega
    obtain ⟨s, hx⟩ : ∃ s, st.l[i]? = some s := ⟨_, List.getElem?_eq_getElem hi⟩
    have hxr : st.rs[i]? = some s.r := by unfold StO.rs; rw [List.getElem?_map, hx]; rfl
    obtain ⟨b, cap, rest, hv2, hbb, h1, h2, h3, h4⟩ := st.own.pos (by omega)
    obtain ⟨n1, n2⟩ := hnn s.r (List.mem_of_getElem? hxr)
    have hvv := hv
    rw [hv2] at hvv
    cases hvv
    rw [hbb]
    obtain ⟨o0, o1, o2, o3, o4, o5, o6, o7, rfl⟩ := len8 ho
    have hl42 : i * 42 + 42 ≤ (rws SX.c st.l ++ rest).length := by
      have : (i + 1) * 42 ≤ st.l.length * 42 := Nat.mul_le_mul_right _ hi
      rw [List.length_append, h1]; omega
    have hend : ∀ (e : Value) (w' : World), Mem w (((sb, .cells #[.slice (some ⟨b, 0, none⟩) st.l.length vc] 81 (0, 0)) :: [(b, Obj.cells (rws SX.c st.l ++ rest).toArray 45 (0, 0))] : Hp).map (·.1)) [(b3, .cells (fwdC i acct [o0, o1, o2, o3, o4, o5, o6, o7] amt).toArray 70 (0, 0)), (sb, .cells #[.slice (some ⟨b, 0, none⟩) st.l.length vc] 81 (0, 0)), (b, .cells (rws SX.c st.l ++ rest).toArray 45 (0, 0))] w' →
        ∃ y' : FwY sb pool st.rs, Ending.returned e = .returned e ∧ Fr (((sb, .cells #[.slice (some ⟨b, 0, none⟩) st.l.length vc] 81 (0, 0)) :: [(b, Obj.cells (rws SX.c st.l ++ rest).toArray 45 (0, 0))] : Hp).map (·.1)) w w' ∧ Has y'.1.L w' ∧ (∀ p ∈ y'.1.L, w.heap.size ≤ p.1 ∨ p.1 ∈ ((sb, .cells #[.slice (some ⟨b, 0, none⟩) st.l.length vc] 81 (0, 0)) :: [(b, Obj.cells (rws SX.c st.l ++ rest).toArray 45 (0, 0))] : Hp).map (·.1)) ∧ (y'.1.L.map (·.1)).Nodup :=
      fun e w' hm => fw_of (Lr := [(b3, .cells (fwdC i acct [o0, o1, o2, o3, o4, o5, o6, o7] amt).toArray 70 (0, 0))]) st rfl hm (by rw [hcells, hbb]; exact (perm_of fun f => by (simp only [List.map_append, List.map_cons, List.map_nil, List.sum_append, List.sum_cons, List.sum_nil] <;> omega)))
    refine z_ ?_
    (repeat refine RC.seq ?_); refine RC.drawS mixed (N := 8) rfl ?_
    refine dt 0 ?_
    refine dt 1 ?_
    refine dt 2 ?_
    refine dt 3 ?_
    refine dt 4 ?_
    refine dt 5 ?_
    refine DR.t 6 rfl (vix i hi ⟨b, i * 42, none⟩) ?_
    refine dt 7 ?_
    refine DR.done (by kernel_rfl) (RQ.next ?_)
    have hceC : (SX.c s)[9]? = some (.bool s.r.ce) := rfl
    cases hce : s.r.ce with
    | true =>
      rw [fwdR_ce hxr hce]
      have hc9 : (SX.c s)[9]? = some (.bool true) := by rw [← hce]; exact hceC
      refine z_ ?_
      refine Run.a (vl (.bool true) (hv := by exact rd_row SX.len hx hc9)) ?_
      refine z_ ?_
      exact RQ.ret1 rfl (Res.tmp rfl) (hend _)
    | false =>
      have hc9 : (SX.c s)[9]? = some (.bool false) := by rw [← hce]; exact hceC
      cases hf : fits s.r amt with
      | false =>
        have nf := not_fits hf
        rw [fwdR_bad hxr hce hf]
        by_cases c1 : amt < 1
        · refine z_ ?_
          refine Run.a (vl (.bool false) (hv := by exact rd_row SX.len hx hc9)) ?_
          refine z_ ?_
          exact RQ.ret1 rfl (Res.tmp rfl) (hend _)
        by_cases c2 : 1125899906842624 < amt
        · refine z_ ?_
          refine Run.a (vl (.bool false) (hv := by exact rd_row SX.len hx hc9)) ?_
          refine z_ ?_
          refine Run.op1 (OpTo.cv Tryz.func41 (fun w' _ => mMay_calls amt w')) (fun _ => ?_)
          refine z_ ?_
          exact RQ.ret1 rfl (Res.tmp rfl) (hend _)
        refine z_ ?_
        refine Run.a (vl (.bool false) (hv := by exact rd_row SX.len hx hc9)) ?_
        refine z_ ?_
        refine Run.op1 (OpTo.cv Tryz.func41 (fun w' _ => mMay_calls amt w')) (fun _ => ?_)
        refine z_ ?_
        refine Run.a (vl (.int .i64 s.r.bal) (hv := by exact rd_row SX.len hx rfl)) ?_
        by_cases c3 : 1125899906842624 - amt < s.r.bal
        · refine z_ ?_
          exact RQ.ret1 rfl (Res.tmp rfl) (hend _)
        refine z_ ?_
        refine Run.a (vl (.int .i64 s.r.fwd) (hv := by exact rd_row SX.len hx rfl)) ?_
        refine z_ ?_
        exact RQ.ret1 rfl (Res.tmp rfl) (hend _)
      | true =>
        have nf := is_fits hf
        rw [fwdR_ok hxr hce hf]
        refine z_ ?_
        refine Run.a (vl (.bool false) (hv := by exact rd_row SX.len hx hc9)) ?_
        refine z_ ?_
        refine Run.op1 (OpTo.cv Tryz.func41 (fun w' _ => mMay_calls amt w')) (fun _ => ?_)
        refine z_ ?_
        refine Run.a (vl (.int .i64 s.r.bal) (hv := by exact rd_row SX.len hx rfl)) ?_
        refine z_ ?_
        refine Run.a (vl (.int .i64 s.r.fwd) (hv := by exact rd_row SX.len hx rfl)) ?_
        refine z_ ?_
        obtain ⟨x1, hx1⟩ : ∃ x : SX, x = ⟨{ s.r with bal := s.r.bal + amt }, s.kv, s.uv, s.hk, s.hu⟩ := ⟨_, rfl⟩
        obtain ⟨x2, hx2⟩ : ∃ x : SX, x = ⟨s.r.plus amt, s.kv, s.uv, s.hk, s.hu⟩ := ⟨_, rfl⟩
        have hxx : (st.l.set i x1)[i]? = some x1 := by rw [List.getElem?_set_self hi]
        (repeat refine RC.seq ?_); refine RC.drawS mixed (N := 10) rfl ?_
        refine dt 0 ?_
        refine dt 1 ?_
        refine dt 2 ?_
        refine DR.t 3 rfl (vl (.int .i64 s.r.bal) (hv := by exact rd_row SX.len hx rfl)) ?_
        refine dt 4 ?_
        refine dt 5 ?_
        refine dt 6 ?_
        refine dt 7 ?_
        refine dt 8 ?_
        refine DR.c 9 (DOp.op1 rfl (opk SX.len hx x1 5 (.int .i64 (s.r.bal + amt)) (by decide) (by rw [hx1]; rfl) rfl rfl) (fun _ => ?_))
        refine DR.done (by kernel_rfl) (RQ.next ?_)
        refine z_ ?_
        (repeat refine RC.seq ?_); refine RC.drawS mixed (N := 10) rfl ?_
        refine dt 0 ?_
        refine dt 1 ?_
        refine dt 2 ?_
        refine DR.t 3 rfl (vl (.int .i64 s.r.fwd) (hv := by exact rd_row SX.len hxx (by rw [hx1]; rfl))) ?_
        refine dt 4 ?_
        refine dt 5 ?_
        refine dt 6 ?_
        refine dt 7 ?_
        refine dt 8 ?_
        refine DR.c 9 (DOp.op1 rfl (opk SX.len hxx x2 6 (.int .i64 (s.r.fwd + amt)) (by decide) (by rw [hx1, hx2]; rfl) rfl rfl) (fun _ => ?_))
        rw [List.set_set]
        refine DR.done (by kernel_rfl) (RQ.next ?_)
        refine z_ ?_
        have hrs : (st.l.set i x2).map SX.r = st.rs.set i (s.r.plus amt) := by rw [List.map_set, hx2]; rfl
        exact RQ.ret1 rfl (Res.tmp rfl) fun w' hm => fw_of (Lr := [(b3, .cells (fwdC i acct [o0, o1, o2, o3, o4, o5, o6, o7] amt).toArray 70 (0, 0))]) (stPut st (b := b) (cap := vc) (rest := rest) (pool' := pool) x2 hx hv2 hbb h4 h2 h3 (by rw [hx2]; exact st.hk s (List.mem_of_getElem? hx)) (fun w hw => by rw [hx2]; exact st.kn w hw s (List.mem_of_getElem? hx)) (fun _ h => h)) hrs hm (by unfold StO.L stPut; exact (perm_of fun f => by (simp only [List.map_append, List.map_cons, List.map_nil, List.sum_append, List.sum_cons, List.sum_nil] <;> omega)))
  · rw [fwdR_no (by rw [hlr]; exact hin)]
    refine z_ ?_
    exact RQ.ret1 rfl (Res.tmp rfl) fun w' hm => fw_of (Lr := [(b3, .cells (fwdC side acct o amt).toArray 70 (0, 0))]) st rfl hm (by rw [hcells]; exact (perm_of fun f => by (simp only [List.map_append, List.map_cons, List.map_nil, List.sum_append, List.sum_cons, List.sum_nil] <;> omega)))

end Go.Proofs.YtkkfaffehbjdgaaGreatDoor
end
