/- registry: records in memory; Clone, copied, New, in, Len. -/
import Derived.Test.YtnhnihkpacibgaaRgB
import Derived.Test.YtnhnihkpacibgaaVcR
set_option linter.unusedSimpArgs false
set_option linter.unusedVariables false
namespace Go.Sha
/-- The rest of a record's cells. -/
def restC (bal fwd : Int) (ce : Bool) (at_ : Int) (uv : Go.Value) : List Go.Value :=
  [.int .i64 bal, .int .i64 fwd, .int .i64 0, .int .i64 0, .bool ce, .int .i64 at_, .int .u8 0, .int .u8 0, .int .u8 0, .int .u8 0, .int .u8 0, .int .u8 0, .int .u8 0, .int .u8 0, .bool false, .int .i64 0, .int .i64 0, .int .i64 0,
   .int .u8 0, .int .u8 0, .int .u8 0, .int .u8 0, .int .u8 0, .int .u8 0, .int .u8 0, .int .u8 0, .int .u8 0, .int .u8 0, .int .u8 0, .int .u8 0, .int .u8 0, .int .u8 0, .int .u8 0, .int .u8 0, .slice none 0 0, .slice none 0 0, uv]
theorem restC_len {bal fwd : Int} {ce : Bool} {at_ : Int} {uv : Go.Value} : (restC bal fwd ce at_ uv).length = 37 := rfl
/-- What a record holds. -/
structure Rc where
  ln : Int
  wd : Int
  nd : Int
  made : Int
  bal : Int
  fwd : Int
  ce : Bool
  at_ : Int
  keys : List (List Nat)
  used : List Int
def Rc.c (r : Rc) (kv uv : Go.Value) : List Go.Value := sideC r.ln r.wd r.nd kv r.made (restC r.bal r.fwd r.ce r.at_ uv)
theorem Rc.len (r : Rc) (kv uv : Go.Value) : (r.c kv uv).length = 42 := rfl
theorem Rc.one (r : Rc) {kv uv : Go.Value} (h1 : kv.oneCell' = true) (h2 : uv.oneCell' = true) : ∀ u ∈ r.c kv uv, u.oneCell' = true := by
  intro u hu
  simp only [Rc.c, sideC, prm, restC, List.cons_append, List.nil_append, List.mem_cons, List.not_mem_nil, or_false] at hu
  repeat' (rcases hu with rfl | hu)
  all_goals first | rfl | exact h1 | exact h2 | (subst hu; first | rfl | exact h1 | exact h2)
def zeroC : List Go.Value := sideC 0 0 0 (.slice none 0 0) 0 (restC 0 0 false 0 (.slice none 0 0))
theorem pend {α : Type} {a x : α} {u k : List α} : (a :: (u ++ (k ++ [x]))).Perm (x :: a :: (u ++ k)) := by
  have h : (u ++ (k ++ [x])).Perm (x :: (u ++ k)) := by
    rw [← List.append_assoc]
    exact List.perm_append_comm
  exact (List.Perm.cons a h).trans (List.Perm.swap x a _)
def totR (l : List Rc) : Int := (l.map Rc.bal).sum
theorem totR_app (a b : List Rc) : totR (a ++ b) = totR a + totR b := by unfold totR; rw [List.map_append, List.sum_append]
theorem totR_nonneg : ∀ {l : List Rc}, (∀ r ∈ l, 0 ≤ r.bal) → 0 ≤ totR l
  | [], _ => Int.le_refl _
  | r :: l, h => by
    have h1 := totR_nonneg (l := l) (fun r hr => h r (List.mem_cons_of_mem _ hr))
    have h2 := h r List.mem_cons_self
    unfold totR at h1 ⊢
    rw [List.map_cons, List.sum_cons]
    omega
theorem totR_take {l : List Rc} (h : ∀ r ∈ l, 0 ≤ r.bal) (i : Nat) : 0 ≤ totR (l.take i) ∧ totR (l.take i) ≤ totR l := by
  have h1 := totR_nonneg (l := l.take i) (fun r hr => h r (List.mem_of_mem_take hr))
  have h2 := totR_nonneg (l := l.drop i) (fun r hr => h r (List.mem_of_mem_drop hr))
  have h3 := totR_app (l.take i) (l.drop i)
  rw [List.take_append_drop] at h3
  omega
/-- A record as it lies: its lists are slices. -/
structure SX where
  r : Rc
  kv : Go.Value
  uv : Go.Value
  hk : kv.oneCell' = true
  hu : uv.oneCell' = true
def SX.c (s : SX) : List Go.Value := s.r.c s.kv s.uv
theorem SX.len (s : SX) : s.c.length = 42 := s.r.len _ _
theorem SX.one (s : SX) : ∀ u ∈ s.c, u.oneCell' = true := s.r.one s.hk s.hu
/-- Its lists can be read. -/
def SX.ok (w : Go.World) (s : SX) : Prop := Go.Vc.SrcW w 8 s.kv s.r.keys.length (u8s s.r.keys.flatten) ∧ Go.Vc.SrcW w 1 s.uv s.r.used.length (i64L s.r.used)
theorem SX.ok.fr {w w' : Go.World} {s : SX} (h : s.ok w) (hf : Go.Vc.Fr [] w w') : s.ok w' := ⟨h.1.fr hf, h.2.fr hf⟩
end Go.Sha
namespace Go.Vc
open Go Go.Sha
section
variable {P : Program} {n : Nat} {w0 : World} {S0 : List Nat} {Q : Exit → Act → World → Prop} {E : Env} {L : Hp} {o : Oper} {d : Nat} {T : List (Nat × TI)} {t : Nat} {ti : TI}
theorem Val.sliceNil (hT : TabOk P T) {x y : Operand} {a : Option Addr} {m c el t2 : Nat} (ho : o.op = .binOp .eql t x y t2) (ht : tiGet T t = some ti) (hd : ti.desc = .slice el) (hx : lk E x = some (.slice a m c)) (hy : lk E y = some (.slice none 0 0)) :
    Val P n w0 S0 E L o (.bool a.isNone) := by
  intro ac w hs _
  have h2 := (hT _ _ ht).1
  rw [hd] at h2
  have hg : (eqGuard .eql t x y (.slice a m c) (.slice none 0 0)).run P w = .ok () w := by simp [eqGuard]
  simp [execOp, ho, hs.eval hx, hs.eval hy, hg, Lib.run_eql_slice_nil w t el a m c 0 0 h2]
/-- p != nil -/
theorem Val.ptrNe (hT : TabOk P T) {x y : Operand} {a : Addr} {el t2 : Nat} (ho : o.op = .binOp .neq t x y t2) (ht : tiGet T t = some ti) (hd : ti.desc = .pointer el) (hx : lk E x = some (.pointer (some a))) (hy : lk E y = some (.pointer none)) :
    Val P n w0 S0 E L o (.bool true) := by
  intro ac w hs _
  have h2 := (hT _ _ ht).1
  rw [hd] at h2
  have h3 : P.underlying t = some (.pointer (P.pointee t)) := by rw [h2]; simp [Program.pointee, h2]
  have hg : (eqGuard .neq t x y (.pointer (some a)) (.pointer none)).run P w = .ok () w := by simp [eqGuard]
  simp [execOp, ho, hs.eval hx, hs.eval hy, hg, run_neq_pointer_nil w t (some a) h3]
end
/-- Records that a state holds: a row of its own, and blocks that no one turns. -/
structure StO (tS tR : TypeId) (sb : Nat) (pool : Hp) where
  v : Value
  bb : Hp
  l : List SX
  own : Own tR 42 v l.length (rws SX.c l) bb
  nd : (sb :: bb.map (·.1)).Nodup
  h8 : l.length ≤ 8
  hk : ∀ s ∈ l, s.r.keys.length ≤ 1000000 ∧ s.r.used.length ≤ 1000000
  kn : ∀ w, Has pool w → ∀ s ∈ l, s.ok w
def StO.L {tS tR : TypeId} {sb : Nat} {pool : Hp} (s : StO tS tR sb pool) : Hp := (sb, .cells #[s.v] tS (0, 0)) :: s.bb
def StO.rs {tS tR : TypeId} {sb : Nat} {pool : Hp} (s : StO tS tR sb pool) : List Rc := s.l.map SX.r
theorem StO.one {tS tR : TypeId} {sb : Nat} {pool : Hp} (s : StO tS tR sb pool) : s.v.oneCell' = true := s.own.one
/-- What a reader needs. -/
def StW (tS : TypeId) (w : World) (sb : Nat) (v : Value) (l : List SX) : Prop :=
  w.heap[sb]? = some (.cells #[v] tS (0, 0)) ∧ SrcW w 42 v l.length (rws SX.c l) ∧ ∀ s ∈ l, s.ok w
theorem StO.w {tS tR : TypeId} {sb : Nat} {pool : Hp} (s : StO tS tR sb pool) {w : World} (h : Has s.L w) (hp : Has pool w) : StW tS w sb s.v s.l :=
  ⟨h _ List.mem_cons_self, s.own.srcW (fun q hq => h q (List.mem_cons_of_mem _ hq)), s.kn w hp⟩
theorem StW.fr {tS : TypeId} {w w' : World} {sb : Nat} {v : Value} {l : List SX} (h : StW tS w sb v l) (hf : Fr [] w w') : StW tS w' sb v l :=
  ⟨hf.old h.1, h.2.1.fr hf, fun s hs => (h.2.2 s hs).fr hf⟩
end Go.Vc
namespace Go.Proofs.Ytnhnihkpacibgaa
attribute [local irreducible] Go.Vc.Run Go.Vc.RC Go.Vc.RQ Go.Vc.DR Go.Vc.DOp
open Go Go.Vc Go.Sha

set_option maxRecDepth 10000 in set_option maxHeartbeats 4000000 in
theorem CloneH_calls (m : Nat) (hm : m ≤ 1000000) (l : List Nat) (v : Value) (w : World) (hs : SrcW w 8 v m (u8s l)) :
    Makes Try.prog 45 [v] w 35 8 m (u8s l) := by
  refine enter Try.func45 rfl (Mem.nil w []) rfl ?_
  obtain ⟨va, vc, rfl, hvc⟩ := hs.shape
  (repeat refine RC.seq ?_); refine RC.region ?_
  refine Run.a (Val.of rfl) ?_
  refine Run.nil (RQ.next ?_)
  have hsl := hs.len
  have hsrc := fun L => hs.src (L := L)
  cases va with
  | none =>
    (repeat refine RC.seq ?_); refine RC.region ?_
    refine Run.a (Val.of rfl) ?_
    refine Run.a (Val.sliceNil tabOk rfl rfl rfl rfl rfl) ?_
    refine Run.nil (RQ.next ?_)
    (repeat refine RC.seq ?_); refine RC.condT rfl rfl ?_
    (repeat refine RC.seq ?_); refine RC.region ?_
    refine Run.a (Val.of rfl) ?_
    refine Run.nil (RQ.next ?_)
    refine RC.ret ?_; (repeat first | refine RQ.thenRet ?_ | refine RQ.blockRet ?_)
    have hz : m = 0 := Nat.eq_zero_of_not_pos fun h0 => by obtain ⟨a, c, hv, _⟩ := hs.pos h0; cases hv
    subst hz
    have hnil : u8s l = [] := List.eq_nil_of_length_eq_zero (by rw [hsl, Nat.zero_mul])
    rw [hnil]
    exact RQ.ret1 rfl (Res.tmp rfl) fun w' hm => Makes.of (bl := []) Own.nil hm
  | some a =>
    (repeat refine RC.seq ?_); refine RC.region ?_
    refine Run.a (Val.of rfl) ?_
    refine Run.a (Val.sliceNil tabOk rfl rfl rfl rfl rfl) ?_
    refine Run.nil (RQ.next ?_)
    (repeat refine RC.seq ?_); refine RC.condF rfl rfl (RC.skip (RQ.next ?_))
    (repeat refine RC.seq ?_); refine RC.region ?_
    refine Run.nw (New.buildSlice tabOk (parts := []) (cells := #[]) rfl rfl rfl rfl rfl rfl (fillS_nil _ _)) ?_
    intro b5
    refine Run.a (Val.of rfl) ?_
    have hown : Own 35 8 (.slice (some ⟨b5, 0, none⟩) 0 0) 0 [] [(b5, .cells #[] 35 (0, 0))] := Own.row b5 0 0 [] [] rfl rfl (Nat.le_refl _) (by unfold maxLen; decide)
    refine Run.op rfl (OpTo.append tabOk hown (hsrc _) rfl rfl rfl rfl rfl rfl rfl rfl rfl (List.Perm.refl _) (u8s_one _) (by unfold maxLen; omega) (by simp only [ti35]; omega)) ?_
    rintro ⟨⟨v9, bl9⟩, hown9⟩
    dsimp only at hown9 ⊢
    rw [Nat.zero_add, List.nil_append] at hown9
    refine Run.a (Val.of rfl) ?_
    refine Run.nil (RQ.next ?_)
    refine RC.ret ?_; (repeat first | refine RQ.thenRet ?_ | refine RQ.blockRet ?_)
    exact RQ.ret1 rfl (Res.tmp rfl) fun w' hm => Makes.of hown9 hm

set_option maxRecDepth 10000 in set_option maxHeartbeats 4000000 in
theorem CloneI_calls (m : Nat) (hm : m ≤ 1000000) (l : List Int) (v : Value) (w : World) (hs : SrcW w 1 v m (i64L l)) :
    Makes Try.prog 48 [v] w 3 1 m (i64L l) := by
  refine enter Try.func48 rfl (Mem.nil w []) rfl ?_
  obtain ⟨va, vc, rfl, hvc⟩ := hs.shape
  (repeat refine RC.seq ?_); refine RC.region ?_
  refine Run.a (Val.of rfl) ?_
  refine Run.nil (RQ.next ?_)
  have hsl := hs.len
  have hsrc := fun L => hs.src (L := L)
  cases va with
  | none =>
    (repeat refine RC.seq ?_); refine RC.region ?_
    refine Run.a (Val.of rfl) ?_
    refine Run.a (Val.sliceNil tabOk rfl rfl rfl rfl rfl) ?_
    refine Run.nil (RQ.next ?_)
    (repeat refine RC.seq ?_); refine RC.condT rfl rfl ?_
    (repeat refine RC.seq ?_); refine RC.region ?_
    refine Run.a (Val.of rfl) ?_
    refine Run.nil (RQ.next ?_)
    refine RC.ret ?_; (repeat first | refine RQ.thenRet ?_ | refine RQ.blockRet ?_)
    have hz : m = 0 := Nat.eq_zero_of_not_pos fun h0 => by obtain ⟨a, c, hv, _⟩ := hs.pos h0; cases hv
    subst hz
    have hnil : i64L l = [] := List.eq_nil_of_length_eq_zero (by rw [hsl, Nat.zero_mul])
    rw [hnil]
    exact RQ.ret1 rfl (Res.tmp rfl) fun w' hm => Makes.of (bl := []) Own.nil hm
  | some a =>
    (repeat refine RC.seq ?_); refine RC.region ?_
    refine Run.a (Val.of rfl) ?_
    refine Run.a (Val.sliceNil tabOk rfl rfl rfl rfl rfl) ?_
    refine Run.nil (RQ.next ?_)
    (repeat refine RC.seq ?_); refine RC.condF rfl rfl (RC.skip (RQ.next ?_))
    (repeat refine RC.seq ?_); refine RC.region ?_
    refine Run.nw (New.buildSlice tabOk (parts := []) (cells := #[]) rfl rfl rfl rfl rfl rfl (fillS_nil _ _)) ?_
    intro b5
    refine Run.a (Val.of rfl) ?_
    have hown : Own 3 1 (.slice (some ⟨b5, 0, none⟩) 0 0) 0 [] [(b5, .cells #[] 3 (0, 0))] := Own.row b5 0 0 [] [] rfl rfl (Nat.le_refl _) (by unfold maxLen; decide)
    refine Run.op rfl (OpTo.append tabOk hown (hsrc _) rfl rfl rfl rfl rfl rfl rfl rfl rfl (List.Perm.refl _) (by intro u hu; unfold i64L at hu; obtain ⟨z, _, rfl⟩ := List.mem_map.1 hu; rfl) (by unfold maxLen; omega) (by simp only [ti3]; omega)) ?_
    rintro ⟨⟨v9, bl9⟩, hown9⟩
    dsimp only at hown9 ⊢
    rw [Nat.zero_add, List.nil_append] at hown9
    refine Run.a (Val.of rfl) ?_
    refine Run.nil (RQ.next ?_)
    refine RC.ret ?_; (repeat first | refine RQ.thenRet ?_ | refine RQ.blockRet ?_)
    exact RQ.ret1 rfl (Res.tmp rfl) fun w' hm => Makes.of hown9 hm

set_option maxRecDepth 10000 in set_option maxHeartbeats 4000000 in
theorem CloneO_calls (w : World) : Gives Try.prog 46 [.slice none 0 0] (.slice none 0 0) w := by
  refine enter Try.func46 rfl (Mem.nil w []) rfl ?_
  (repeat refine RC.seq ?_); refine RC.region ?_
  refine Run.a (Val.of rfl) ?_
  refine Run.nil (RQ.next ?_)
  (repeat refine RC.seq ?_); refine RC.region ?_
  refine Run.a (Val.of rfl) ?_
  refine Run.a (Val.sliceNil tabOk rfl rfl rfl rfl rfl) ?_
  refine Run.nil (RQ.next ?_)
  (repeat refine RC.seq ?_); refine RC.condT rfl rfl ?_
  (repeat refine RC.seq ?_); refine RC.region ?_
  refine Run.a (Val.of rfl) ?_
  refine Run.nil (RQ.next ?_)
  refine RC.ret ?_; (repeat first | refine RQ.thenRet ?_ | refine RQ.blockRet ?_); exact RQ.ret1 rfl (Res.tmp rfl) fun w' hm => ⟨rfl, hm.fr⟩

set_option maxRecDepth 10000 in set_option maxHeartbeats 4000000 in
theorem CloneS_calls (w : World) : Gives Try.prog 47 [.slice none 0 0] (.slice none 0 0) w := by
  refine enter Try.func47 rfl (Mem.nil w []) rfl ?_
  (repeat refine RC.seq ?_); refine RC.region ?_
  refine Run.a (Val.of rfl) ?_
  refine Run.nil (RQ.next ?_)
  (repeat refine RC.seq ?_); refine RC.region ?_
  refine Run.a (Val.of rfl) ?_
  refine Run.a (Val.sliceNil tabOk rfl rfl rfl rfl rfl) ?_
  refine Run.nil (RQ.next ?_)
  (repeat refine RC.seq ?_); refine RC.condT rfl rfl ?_
  (repeat refine RC.seq ?_); refine RC.region ?_
  refine Run.a (Val.of rfl) ?_
  refine Run.nil (RQ.next ?_)
  refine RC.ret ?_; (repeat first | refine RQ.thenRet ?_ | refine RQ.blockRet ?_); exact RQ.ret1 rfl (Res.tmp rfl) fun w' hm => ⟨rfl, hm.fr⟩

set_option maxRecDepth 10000 in set_option maxHeartbeats 4000000 in
theorem copied_calls (s : SX) (hkl : s.r.keys.length ≤ 1000000) (hul : s.r.used.length ≤ 1000000) (w : World) (hok : s.ok w) :
    MakesD Try.prog 32 [.agg s.c.toArray] w (fun x : SX => .agg x.c.toArray) (fun x => x.r = s.r) (fun w x => x.ok w) := by
  obtain ⟨r, kv, uv, hko0, huo0⟩ := s
  obtain ⟨h1, h2⟩ := hok
  dsimp only at h1 h2 hkl hul
  show MakesD _ _ [.agg (r.c kv uv).toArray] w _ _ _
  refine enter Try.func32 rfl (Mem.nil w []) rfl ?_
  have hC := fun w' hs' => CloneH_calls r.keys.length hkl r.keys.flatten kv w' hs'
  have hD := fun w' hs' => CloneI_calls r.used.length hul r.used uv w' hs'
  (repeat refine RC.seq ?_); refine RC.region ?_
  refine Run.nw (New.boxA rfl rfl) ?_
  intro b1
  refine Run.nw (New.allocTo tabOk (cs := zeroC.toArray) rfl rfl (by kernel_rfl)) ?_
  intro b2
  refine Run.nil (RQ.next ?_)
  (repeat refine RC.seq ?_); refine RC.region ?_
  refine Run.a (Val.fieldAddr tabOk rfl rfl rfl rfl rfl rfl rfl rfl) ?_
  refine Run.a (Val.fieldAddr tabOk rfl rfl rfl rfl rfl rfl rfl rfl) ?_
  refine Run.a (Val.load (v := kv) tabOk rfl rfl rfl m1 rfl) ?_
  refine Run.op rfl (OpTo.callMk Try.func45 rfl rfl rfl rfl rfl rfl (fun w' hm => hC w' (h1.mem hm))) ?_
  rintro ⟨⟨kv2, kb⟩, hk⟩
  dsimp only at hk ⊢
  have hko := hk.one
  refine Run.a (Val.fieldAddr tabOk rfl rfl rfl rfl rfl rfl rfl rfl) ?_
  refine Run.a (Val.fieldAddr tabOk rfl rfl rfl rfl rfl rfl rfl rfl) ?_
  refine Run.op1 (OpTo.storeTo tabOk (arr' := (r.c kv2 uv).toArray) (by obtain ⟨a, c, rfl, _⟩ := hk.shape; rfl) rfl rfl rfl rfl rfl pin1 (by obtain ⟨a, c, rfl, _⟩ := hk.shape; rfl) (show 3 + 1 ≤ 42 by decide) (by obtain ⟨a, c, rfl, _⟩ := hk.shape; intro u hu; simp [Value.cells] at hu; subst hu; rfl)) (fun _ => ?_)
  refine Run.nil (RQ.next ?_)

  (repeat refine RC.seq ?_); refine RC.region ?_
  refine Run.a (Val.fieldAddr tabOk rfl rfl rfl rfl rfl rfl rfl rfl) ?_
  refine Run.a (Val.fieldAddr tabOk rfl rfl rfl rfl rfl rfl rfl rfl) ?_
  refine Run.a (Val.load (v := .slice none 0 0) tabOk rfl rfl rfl m0 rfl) ?_
  refine Run.callV Try.func46 rfl rfl rfl rfl rfl rfl rfl (fun w' _ => CloneO_calls w') ?_
  refine Run.a (Val.fieldAddr tabOk rfl rfl rfl rfl rfl rfl rfl rfl) ?_
  refine Run.a (Val.fieldAddr tabOk rfl rfl rfl rfl rfl rfl rfl rfl) ?_
  refine Run.op1 (OpTo.storeTo tabOk (arr' := (r.c kv2 uv).toArray) (by rfl) rfl rfl rfl rfl rfl (List.Perm.refl _) rfl (by show _ + 1 ≤ 42; decide) (by intro u hu; simp [Value.cells] at hu; subst hu; rfl)) (fun _ => ?_)
  refine Run.nil (RQ.next ?_)

  (repeat refine RC.seq ?_); refine RC.region ?_
  refine Run.a (Val.fieldAddr tabOk rfl rfl rfl rfl rfl rfl rfl rfl) ?_
  refine Run.a (Val.fieldAddr tabOk rfl rfl rfl rfl rfl rfl rfl rfl) ?_
  refine Run.a (Val.load (v := .slice none 0 0) tabOk rfl rfl rfl m0 rfl) ?_
  refine Run.callV Try.func47 rfl rfl rfl rfl rfl rfl rfl (fun w' _ => CloneS_calls w') ?_
  refine Run.a (Val.fieldAddr tabOk rfl rfl rfl rfl rfl rfl rfl rfl) ?_
  refine Run.a (Val.fieldAddr tabOk rfl rfl rfl rfl rfl rfl rfl rfl) ?_
  refine Run.op1 (OpTo.storeTo tabOk (arr' := (r.c kv2 uv).toArray) (by rfl) rfl rfl rfl rfl rfl (List.Perm.refl _) rfl (by show _ + 1 ≤ 42; decide) (by intro u hu; simp [Value.cells] at hu; subst hu; rfl)) (fun _ => ?_)
  refine Run.nil (RQ.next ?_)

  (repeat refine RC.seq ?_); refine RC.region ?_
  refine Run.a (Val.fieldAddr tabOk rfl rfl rfl rfl rfl rfl rfl rfl) ?_
  refine Run.a (Val.load (v := uv) tabOk rfl rfl rfl m0 rfl) ?_
  refine Run.op rfl (OpTo.callMk Try.func48 rfl rfl rfl rfl rfl rfl (fun w' hm => hD w' (h2.mem hm))) ?_
  rintro ⟨⟨uv2, ub⟩, hu⟩
  dsimp only at hu ⊢
  have huo := hu.one
  refine Run.a (Val.fieldAddr tabOk rfl rfl rfl rfl rfl rfl rfl rfl) ?_
  refine Run.op1 (OpTo.storeTo tabOk (arr' := (r.c kv2 uv2).toArray) (by obtain ⟨a, c, rfl, _⟩ := hu.shape; rfl) rfl rfl rfl rfl rfl pin0 (by obtain ⟨a, c, rfl, _⟩ := hu.shape; rfl) (show 41 + 1 ≤ 42 by decide) (by obtain ⟨a, c, rfl, _⟩ := hu.shape; intro u hu; simp [Value.cells] at hu; subst hu; rfl)) (fun _ => ?_)
  refine Run.nil (RQ.next ?_)
  (repeat refine RC.seq ?_); refine RC.region ?_
  refine Run.a (Val.loadAll tabOk rfl rfl rfl rfl m0 rfl) ?_
  refine Run.op1 (OpTo.setV tabOk [] zeroC (r.c kv2 uv2) [] rfl rfl rfl rfl rfl pend rfl (by simp) rfl rfl rfl (r.one hko huo)) (fun _ => ?_)
  rw [List.nil_append, List.append_nil]
  refine Run.nil (RQ.next ?_)
  refine RC.ret ?_; (repeat first | refine RQ.thenRet ?_ | refine RQ.blockRet ?_)
  refine RQ.ret1 rfl (Res.cellAll tabOk rfl rfl rfl m0 rfl) fun w' hm => MakesD.of (V := fun x : SX => .agg x.c.toArray) (bl := kb ++ ub) ⟨r, kv2, uv2, hko, huo⟩ hm ?_ ?_ rfl (fun w hw => ⟨hk.srcW hw.left, hu.srcW hw.right⟩)
  · exact fun p hp => List.mem_cons_of_mem _ (List.mem_cons_of_mem _ (List.mem_append.2 (Or.comm.1 (List.mem_append.1 hp))))
  · have := hm.nd
    rw [List.map_cons, List.map_cons, List.nodup_cons, List.nodup_cons, List.map_append] at this
    rw [List.map_append]
    exact (List.perm_append_comm.nodup_iff).1 this.2.2

set_option maxRecDepth 10000 in set_option maxHeartbeats 4000000 in
theorem RNew_calls (w : World) : NewOf Try.prog 10 [] w (fun b => .pointer (some ⟨b, 0, none⟩)) (.cells #[.slice none 0 0] 76 (0, 0)) := by
  refine enter Try.func10 rfl (Mem.nil w []) rfl ?_
  (repeat refine RC.seq ?_); refine RC.region ?_
  refine Run.a (Val.of rfl) ?_
  refine Run.nil (RQ.next ?_)
  (repeat refine RC.seq ?_); refine RC.region ?_
  refine Run.a (Val.buildS tabOk (parts := []) (cells := #[.slice none 0 0]) rfl rfl rfl rfl rfl rfl) ?_
  refine Run.nw (New.boxA rfl rfl) ?_
  intro b
  refine Run.a (Val.of rfl) ?_
  refine Run.nil (RQ.next ?_)
  refine RC.ret ?_; (repeat first | refine RQ.thenRet ?_ | refine RQ.blockRet ?_)
  exact RQ.ret1 rfl (Res.tmp rfl) fun w' hm => NewOf.of (V := fun b => .pointer (some ⟨b, 0, none⟩)) hm m0

set_option maxRecDepth 10000 in set_option maxHeartbeats 4000000 in
theorem mMay_calls (z : Int) (w : World) : Gives Try.prog 36 [.int .i64 z] (.bool (decide (0 ≤ z ∧ z ≤ 1125899906842624))) w := by
  refine enter Try.func36 rfl (Mem.nil w []) rfl ?_
  (repeat refine RC.seq ?_); refine RC.region ?_
  refine Run.a (Val.of rfl) ?_
  refine Run.nil (RQ.next ?_)
  by_cases h : 0 ≤ z
  · (repeat refine RC.seq ?_); refine RC.region ?_
    refine Run.a (Val.of rfl) ?_
    refine Run.a (Val.eq (Val.of rfl) (show _ = Value.bool true from congrArg Value.bool (decide_eq_true h))) ?_
    refine Run.a (Val.of rfl) ?_
    refine Run.a (Val.of rfl) ?_
    refine Run.a (Val.eq (Val.of rfl) (show _ = Value.bool (decide (0 ≤ z ∧ z ≤ 1125899906842624)) from congrArg Value.bool (by rw [decide_eq_decide]; omega))) ?_
    refine Run.a (Val.of rfl) ?_
    refine Run.a (Val.of rfl) ?_
    refine Run.nil (RQ.next ?_)
    refine RC.ret ?_; (repeat first | refine RQ.thenRet ?_ | refine RQ.blockRet ?_); exact RQ.ret1 rfl (Res.tmp rfl) fun w' hm => ⟨rfl, hm.fr⟩
  · rw [show decide (0 ≤ z ∧ z ≤ 1125899906842624) = false from decide_eq_false (by omega)]
    (repeat refine RC.seq ?_); refine RC.region ?_
    refine Run.a (Val.of rfl) ?_
    refine Run.a (Val.eq (Val.of rfl) (show _ = Value.bool false from congrArg Value.bool (decide_eq_false h))) ?_
    refine Run.a (Val.of rfl) ?_
    refine Run.sk ?_
    refine Run.sk ?_
    refine Run.a (Val.of rfl) ?_
    refine Run.a (Val.of rfl) ?_
    refine Run.nil (RQ.next ?_)
    refine RC.ret ?_; (repeat first | refine RQ.thenRet ?_ | refine RQ.blockRet ?_); exact RQ.ret1 rfl (Res.tmp rfl) fun w' hm => ⟨rfl, hm.fr⟩

theorem cell_sb {w : World} {sb : Nat} {v : Value} {t : TypeId} (h : w.heap[sb]? = some (.cells #[v] t (0, 0))) : w.cell? ⟨sb, 0, none⟩ = some v := by
  rw [cell_of_row w sb 0 _ _ _ h]; rfl

set_option maxRecDepth 10000 in set_option maxHeartbeats 4000000 in
theorem in_calls (sb m c : Nat) (a : Option Addr) (hml : m ≤ 9223372036854775807) (z : Int) (w : World) (hs : w.heap[sb]? = some (.cells #[.slice a m c] 76 (0, 0))) :
    Gives Try.prog 35 [.pointer (some ⟨sb, 0, none⟩), .int .i64 z] (.bool (decide (0 ≤ z ∧ z < m))) w := by
  refine enter Try.func35 rfl (Mem.nil w []) rfl ?_
  have hcell := cell_sb hs
  (repeat refine RC.seq ?_); refine RC.region ?_
  refine Run.a (Val.of rfl) ?_
  refine Run.nil (RQ.next ?_)
  by_cases h : 0 ≤ z
  · (repeat refine RC.seq ?_); refine RC.region ?_
    refine Run.a (Val.of rfl) ?_
    refine Run.a (Val.ptrNe tabOk rfl rfl rfl rfl rfl) ?_
    refine Run.a (Val.of rfl) ?_
    refine Run.a (Val.of rfl) ?_
    refine Run.a (Val.eq (Val.of rfl) (show _ = Value.bool true from congrArg Value.bool (decide_eq_true h))) ?_
    refine Run.a (Val.of rfl) ?_
    refine Run.a (Val.of rfl) ?_
    refine Run.a (Val.of rfl) ?_
    refine Run.a (Val.of rfl) ?_
    refine Run.a (Val.of rfl) ?_
    refine Run.a (Val.fieldAddr tabOk rfl rfl rfl rfl rfl rfl rfl rfl) ?_
    refine Run.a (Val.loadOld1 (v := .slice a m c) tabOk rfl rfl rfl rfl (by simp) hcell) ?_
    refine Run.a (Val.len (len := m) tabOk rfl rfl rfl rfl) ?_
    refine Run.a (Val.eq (Val.of rfl) (show _ = Value.bool (decide (0 ≤ z ∧ z < m)) from congrArg Value.bool (by rw [decide_eq_decide]; omega))) ?_
    refine Run.a (Val.of rfl) ?_
    refine Run.a (Val.of rfl) ?_
    refine Run.nil (RQ.next ?_)
    refine RC.ret ?_; (repeat first | refine RQ.thenRet ?_ | refine RQ.blockRet ?_); exact RQ.ret1 rfl (Res.tmp rfl) fun w' hm => ⟨rfl, hm.fr⟩
  · rw [show decide (0 ≤ z ∧ z < m) = false from decide_eq_false (by omega)]
    (repeat refine RC.seq ?_); refine RC.region ?_
    refine Run.a (Val.of rfl) ?_
    refine Run.a (Val.ptrNe tabOk rfl rfl rfl rfl rfl) ?_
    refine Run.a (Val.of rfl) ?_
    refine Run.a (Val.of rfl) ?_
    refine Run.a (Val.eq (Val.of rfl) (show _ = Value.bool false from congrArg Value.bool (decide_eq_false h))) ?_
    refine Run.a (Val.of rfl) ?_
    refine Run.a (Val.of rfl) ?_
    refine Run.sk ?_
    refine Run.sk ?_
    refine Run.sk ?_
    refine Run.sk ?_
    refine Run.sk ?_
    refine Run.sk ?_
    refine Run.sk ?_
    refine Run.a (Val.of rfl) ?_
    refine Run.a (Val.of rfl) ?_
    refine Run.nil (RQ.next ?_)
    refine RC.ret ?_; (repeat first | refine RQ.thenRet ?_ | refine RQ.blockRet ?_); exact RQ.ret1 rfl (Res.tmp rfl) fun w' hm => ⟨rfl, hm.fr⟩

set_option maxRecDepth 10000 in set_option maxHeartbeats 4000000 in
theorem RLen_calls (sb m c : Nat) (a : Option Addr) (w : World) (hs : w.heap[sb]? = some (.cells #[.slice a m c] 76 (0, 0))) :
    Gives Try.prog 16 [.pointer (some ⟨sb, 0, none⟩)] (.int .i64 m) w := by
  refine enter Try.func16 rfl (Mem.nil w []) rfl ?_
  have hcell := cell_sb hs
  (repeat refine RC.seq ?_); refine RC.region ?_
  refine Run.a (Val.of rfl) ?_
  refine Run.nil (RQ.next ?_)
  (repeat refine RC.seq ?_); refine RC.region ?_
  refine Run.a (Val.of rfl) ?_
  refine Run.a (Val.ptrNil tabOk rfl rfl rfl rfl rfl) ?_
  refine Run.nil (RQ.next ?_)
  (repeat refine RC.seq ?_); refine RC.condF rfl rfl (RC.skip (RQ.next ?_))
  (repeat refine RC.seq ?_); refine RC.region ?_
  refine Run.a (Val.of rfl) ?_
  refine Run.a (Val.of rfl) ?_
  refine Run.a (Val.fieldAddr tabOk rfl rfl rfl rfl rfl rfl rfl rfl) ?_
  refine Run.a (Val.loadOld1 (v := .slice a m c) tabOk rfl rfl rfl rfl (by simp) hcell) ?_
  refine Run.a (Val.len (len := m) tabOk rfl rfl rfl rfl) ?_
  refine Run.a (Val.of rfl) ?_
  refine Run.nil (RQ.next ?_)
  refine RC.ret ?_; (repeat first | refine RQ.thenRet ?_ | refine RQ.blockRet ?_); exact RQ.ret1 rfl (Res.tmp rfl) fun w' hm => ⟨rfl, hm.fr⟩

end Go.Proofs.Ytnhnihkpacibgaa
