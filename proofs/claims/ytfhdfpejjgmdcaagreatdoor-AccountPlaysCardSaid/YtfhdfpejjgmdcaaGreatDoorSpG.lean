import Derived.Test.YtfhdfpejjgmdcaaGreatDoorSpD
import Derived.Test.YtfhdfpejjgmdcaaGreatDoorLam0
set_option linter.unusedSimpArgs false
set_option linter.unusedVariables false
/- sparse: Prove. -/
namespace Go.Vc
open Go Go.Sha
theorem xor1 {a : Nat} (h : a < 65536) : IntKind.i64.wrap ((BitVec.ofInt IntKind.i64.bits (a : Int) ^^^ BitVec.ofInt IntKind.i64.bits 1).toNat : Nat) = ((a ^^^ 1 : Nat) : Int) := by
  have hx : a ^^^ 1 < 2 ^ 16 := Nat.xor_lt_two_pow (by omega) (by decide)
  have e : (BitVec.ofInt IntKind.i64.bits (a : Int) ^^^ BitVec.ofInt IntKind.i64.bits 1).toNat = a ^^^ 1 := by
    rw [show (1 : Int) = ((1 : Nat) : Int) from rfl, BitVec.toNat_xor, BitVec.ofInt_natCast, BitVec.ofInt_natCast, BitVec.toNat_ofNat, BitVec.toNat_ofNat, show IntKind.i64.bits = 64 from rfl, Nat.mod_eq_of_lt (by omega), Nat.mod_eq_of_lt (by decide)]
  rw [e]
  exact wrap_in (by dsimp only [inK]; omega)
theorem shr_nat {a k : Nat} (hk : k ≤ 64) : (a : Int).fdiv (2 ^ min (k : Int).toNat IntKind.i64.bits) = ((a / 2 ^ k : Nat) : Int) := by
  rw [show min (k : Int).toNat IntKind.i64.bits = k from by rw [Int.toNat_natCast]; exact Nat.min_eq_left hk, Int.fdiv_eq_ediv_of_nonneg _ (Int.le_of_lt (Int.pow_pos (by decide)))]
  rfl
/-- The place beside the way of a leaf. -/
def sib (i k : Nat) : Nat := (i / 2 ^ k) ^^^ 1
end Go.Vc
namespace Go.Proofs.YtfhdfpejjgmdcaaGreatDoor
attribute [local irreducible] Go.Vc.Run Go.Vc.RC Go.Vc.RQ Go.Vc.DR Go.Vc.DOp
open Go Go.Vc Go.Sha
def inB (i : Int) : Bool := decide (0 ≤ i ∧ i < 65536)
/-- A proof. -/
def prfT (f : Nat → Nat → List Nat) (i : Int) : List Nat := if inB i then rowOf (fun k => f k (sib i.toNat k)) 16 else List.replicate 128 0
theorem prfT_len {f : Nat → Nat → List Nat} (h : ∀ q j, (f q j).length = 8) (i : Int) : (prfT f i).length = 128 := by
  unfold prfT
  split
  · rw [rowOf_len (c := 8) (fun k => h _ _)]
  · rfl
set_option maxRecDepth 10000 in set_option maxHeartbeats 4000000 in
theorem TProve_calls {tb mb : Nat} (x : Tr tb mb) (i : Int) (w : World) (hw : Has x.L w) :
    Gives Tryz.prog 55 [.pointer (some ⟨tb, 0, none⟩), .int .i64 i] (.tuple #[.agg (u8s (prfT x.at i)).toArray, .bool (inB i)]) w := by
  refine enter Tryz.func55 rfl (Mem.nil w []) rfl ?_
  have hc : w.cell? ⟨tb, 0, none⟩ = some (.map (some mb)) := by rw [cell_of_row w tb 0 _ _ _ (hw _ List.mem_cons_self)]; rfl
  have h8 : ∀ q j, (x.at q j).length = 8 := fun q j => (mpGet_h8 x.ok q j).1
  have hlp := prfT_len h8 i
  have hsp : (u8s (prfT x.at i)).toArray.size = 128 := by rw [List.size_toArray, u8s_len, hlp]
  refine z_ ?_
  refine Run.nw nal ?_
  intro b4
  refine z_ ?_
  refine Run.nw nal ?_
  intro b6
  refine z_ ?_
  refine Run.op1 (OpTo.cv Tryz.func75 (fun w' _ => in_calls i w')) (fun _ => ?_)
  by_cases hi : 0 ≤ i ∧ i < 65536
  case neg =>
    have e1 : inB i = false := decide_eq_false hi
    have e2 : prfT x.at i = List.replicate 128 0 := by unfold prfT; rw [e1]; rfl
    rw [decide_eq_false hi, e1]
    rw [e2] at hsp ⊢
    refine z_ ?_
    refine Run.op1 (osa (arr := (u8s (List.replicate 128 0)).toArray) (u8s (List.replicate 128 0)).toArray (u8s_one _) (hL := p1) (hs := hsp) (hf := by kernel_rfl)) (fun _ => ?_)
    refine z_ ?_
    exact RQ.ret2 rfl (Res.cellAll tabOk rfl rfl rfl m0 hsp) (Res.tmp rfl) fun w' hm => ⟨rfl, hm.fr⟩
  obtain ⟨i, rfl⟩ := Int.eq_ofNat_of_zero_le hi.1
  have hi16 : i < 65536 := by omega
  have e1 : inB (i : Int) = true := decide_eq_true hi
  have e2 : prfT x.at (i : Int) = rowOf (fun k => x.at k (sib i k)) 16 := by unfold prfT; rw [e1]; rfl
  rw [decide_eq_true hi, e1]
  rw [e2] at hsp ⊢
  obtain ⟨f, hf⟩ : ∃ f : Nat → List Nat, f = fun k => x.at k (sib i k) := ⟨_, rfl⟩
  have hf8 : ∀ k, (f k).length = 8 := fun k => by rw [hf]; exact h8 _ _
  rw [← hf] at hsp ⊢
  refine z_ ?_
  refine RC.up 16 (D := Unit) (fun _ _ => True) (fun k _ => [(16, .int .i64 k), (6, .pointer (some ⟨b6, 0, none⟩)), (4, .pointer (some ⟨b4, 0, none⟩)), (1, .int .i64 i), (0, .pointer (some ⟨tb, 0, none⟩))]) (fun k _ => [(b6, Obj.cells (u8s (rowOf f k ++ List.replicate ((16 - k) * 8) 0)).toArray 36 (0, 0)), (b4, Obj.cells (u8s (List.replicate 128 0)).toArray 36 (0, 0))]) 0 () (Nat.zero_le _) trivial ⟨rfl, rfl, rfl, rfl, rfl, trivial⟩ (List.Sublist.refl _) ?_
  intro k _ hk _
  (repeat refine RC.seq ?_); refine RC.region ?_
  refine Run.a (Val.of rfl) ?_
  refine Run.nil (RQ.next ?_)
  (repeat refine RC.seq ?_); refine RC.wh rfl (fun h => RQ.next ?_) (fun h => ?_)
  · have hk' : k < 16 := by have := of_decide_eq_true h; omega
    clear h
    have hrl := rowOf_len hf8 k
    have hsk : (u8s (f k)).toArray.size = 8 := by rw [List.size_toArray, u8s_len, hf8]
    have hwr := wr_next (rowOf f k) (f k) ((16 - (k + 1)) * 8)
    rw [hf8, hrl, show 8 + (16 - (k + 1)) * 8 = (16 - k) * 8 by omega] at hwr
    have hv := shr_nat (a := i) (k := k) (by omega)
    have hik : i / 2 ^ k < 65536 := Nat.lt_of_le_of_lt (Nat.div_le_self _ _) hi16
    have hx := xor1 hik
    refine z_ ?_
    (repeat refine RC.seq ?_); refine RC.draw ([(b6, Obj.cells (u8s (rowOf f k ++ List.replicate ((16 - k) * 8) 0)).toArray 36 (0, 0)), (b4, Obj.cells (u8s (List.replicate 128 0)).toArray 36 (0, 0))]) mixed (N := 14) rfl ?_
    refine dt 0 ?_
    refine dt 1 ?_
    refine dt 2 ?_
    refine dt 3 ?_
    refine DR.t 4 rfl (vlo hc) ?_
    refine dt 5 ?_
    refine dt 6 ?_
    refine dt 7 ?_
    refine DR.t 8 rfl (Val.of rfl) ?_
    rw [hv]
    refine DR.t 9 rfl (Val.of rfl) ?_
    rw [hx]
    refine DR.t 10 rfl (vbs #[.int .i64 k, .int .i64 ((i / 2 ^ k ^^^ 1 : Nat) : Int)]) ?_
    refine DR.t 11 rfl (Val.lookupOld (k := k) (i := i / 2 ^ k ^^^ 1) mapTy rfl rfl rfl (hw (mb, mpO x.es x.clock) m1) (by simp)) ?_
    rw [show mpGet k (i / 2 ^ k ^^^ 1) x.es = f k from by rw [hf]; rfl]
    refine DR.t 12 rfl (via k (k * 8) (ha := by show 0 + k * 8 = k * 8; omega) (hj := hk')) ?_
    refine DR.c 13 ?_
    refine DOp.op1 rfl (ost (ti := ti33) (L' := [(b4, Obj.cells (u8s (List.replicate 128 0)).toArray 36 (0, 0))]) (v := .agg (u8s (f k)).toArray) (arr := (u8s (rowOf f k ++ List.replicate ((16 - k) * 8) 0)).toArray) (u8s (rowOf f (k + 1) ++ List.replicate ((16 - (k + 1)) * 8) 0)).toArray (by simpa [Value.cells, rowOf] using hwr) (by rw [List.size_toArray, u8s_len, List.length_append, hrl, List.length_replicate]; show k * 8 + 8 ≤ k * 8 + (16 - k) * 8; omega) (fun u hu => u8s_one (f k) u (by simpa [Value.cells] using hu)) (hs := hsk)) (fun _ => ?_)
    refine DR.done (by kernel_rfl) ?_
    refine z_ ?_
    exact RQ.upS (k + 1) () (Nat.lt_succ_self _) hk' trivial ⟨rfl, rfl, rfl, rfl, rfl, trivial⟩ (List.Perm.refl _) (List.Sublist.refl _)
  · have hk' : k = 16 := by have := of_decide_eq_false h; omega
    subst hk'
    rw [show (16 - 16) * 8 = 0 from rfl, List.replicate_zero, List.append_nil]
    generalize rowOf f 16 = R at hsp ⊢
    clear hlp
    (repeat refine RQ.thenExit ?_); refine RQ.blockHere ?_
    refine RQ.next ?_
    (repeat refine RC.seq ?_); refine RC.region ?_
    refine Run.a (vla (arr := (u8s R).toArray) (hv := hsp)) ?_
    refine Run.op1 (osa (arr := (u8s (List.replicate 128 0)).toArray) (u8s R).toArray (u8s_one _) (hL := p1) (hs := hsp) (hf := by kernel_rfl)) (fun _ => ?_)
    refine z_ ?_
    exact RQ.ret2 rfl (Res.cellAll tabOk rfl rfl rfl m0 hsp) (Res.tmp rfl) fun w' hm => ⟨rfl, hm.fr⟩
end Go.Proofs.YtfhdfpejjgmdcaaGreatDoor

/- sparse: Check. -/
namespace Go.Sha
open Go.Vc
/-- What a proof leads to, of its first pieces. -/
def upT (i : Nat) (p : List Nat) (h : List Nat) : Nat → List Nat
  | 0 => h
  | k + 1 => if i / 2 ^ k % 2 = 1 then overH (pc 8 p k) (upT i p h k) else overH (upT i p h k) (pc 8 p k)
theorem upT_8 {i : Nat} {p h : List Nat} (hh : H8 h) : ∀ k, H8 (upT i p h k)
  | 0 => hh
  | k + 1 => by
    unfold upT
    split
    · exact overH_8
    · exact overH_8
theorem pc_8 {p : List Nat} (hl : p.length = 128) (hb : ∀ x ∈ p, x < 256) {k : Nat} (hk : k < 16) : H8 (pc 8 p k) :=
  ⟨by unfold pc; rw [List.length_take, List.length_drop, hl]; omega, fun x hx => hb x (List.mem_of_mem_drop (List.mem_of_mem_take hx))⟩
end Go.Sha
namespace Go.Vc
open Go Go.Sha
theorem and1 {a : Nat} (h : a < 65536) : IntKind.i64.wrap ((BitVec.ofInt IntKind.i64.bits (a : Int) &&& BitVec.ofInt IntKind.i64.bits 1).toNat : Nat) = ((a % 2 : Nat) : Int) := by
  have e : (BitVec.ofInt IntKind.i64.bits (a : Int) &&& BitVec.ofInt IntKind.i64.bits 1).toNat = a % 2 := by
    rw [show (1 : Int) = ((1 : Nat) : Int) from rfl, BitVec.toNat_and, BitVec.ofInt_natCast, BitVec.ofInt_natCast, BitVec.toNat_ofNat, BitVec.toNat_ofNat, show IntKind.i64.bits = 64 from rfl, Nat.mod_eq_of_lt (by omega), Nat.mod_eq_of_lt (by decide), Nat.and_one_is_mod]
  rw [e]
  exact wrap_in (by dsimp only [inK]; omega)
end Go.Vc
namespace Go.Proofs.YtfhdfpejjgmdcaaGreatDoor
attribute [local irreducible] Go.Vc.Run Go.Vc.RC Go.Vc.RQ Go.Vc.DR Go.Vc.DOp
open Go Go.Vc Go.Sha
/-- Does a proof lead from a leaf to a root? -/
def chkT (root : List Nat) (i : Int) (h p : List Nat) : Bool := inB i && decide (upT i.toNat p h 16 = root)
end Go.Proofs.YtfhdfpejjgmdcaaGreatDoor

/- sparse: Len, Copy. -/
namespace Go.Proofs.YtfhdfpejjgmdcaaGreatDoor
attribute [local irreducible] Go.Vc.Run Go.Vc.RC Go.Vc.RQ Go.Vc.DR Go.Vc.DOp
open Go Go.Vc Go.Sha
/-- How many leaves. -/
def cnt0 (es : List MpE) : Nat := (es.filter fun x => x.k == 0).length
theorem cnt0_app (a : List MpE) (x : MpE) : cnt0 (a ++ [x]) = cnt0 a + if x.k = 0 then 1 else 0 := by
  unfold cnt0
  rw [List.filter_append, List.length_append]
  by_cases h : x.k = 0
  · simp [h]
  · simp [h]
theorem cnt0_all {vs es : List MpE} (h1 : (vs.map (·.born)).Nodup) (h2 : (es.map (·.born)).Nodup) (hs : ∀ x ∈ vs, x ∈ es) (ha : ∀ x ∈ es, (vs.map (·.born)).toArray.contains x.born = true) : cnt0 vs = cnt0 es := by
  have inj : ∀ {x y : MpE}, x ∈ es → y ∈ es → x.born = y.born → x = y := by
    intro x y hx hy e
    obtain ⟨a, ha, rfl⟩ := List.mem_iff_getElem.1 hx
    obtain ⟨b, hb, rfl⟩ := List.mem_iff_getElem.1 hy
    have := (List.getElem_inj (h₀ := by simpa using ha) (h₁ := by simpa using hb) h2).1 (by simpa using e)
    subst this
    rfl
  have nd1 : vs.Nodup := List.Pairwise.of_map (·.born) (fun a b h e => h (by rw [e])) h1
  have nd2 : es.Nodup := List.Pairwise.of_map (·.born) (fun a b h e => h (by rw [e])) h2
  have hp : vs.Perm es := by
    rw [List.perm_ext_iff_of_nodup nd1 nd2]
    intro x
    refine ⟨hs x, fun hx => ?_⟩
    have := ha x hx
    rw [List.contains_toArray, List.contains_iff_mem] at this
    obtain ⟨y, hy, e⟩ := List.mem_map.1 this
    rw [← inj (hs y hy) hx e]
    exact hy
  exact (hp.filter _).length_eq
set_option maxRecDepth 10000 in set_option maxHeartbeats 4000000 in
theorem MClone_calls {mb clock : Nat} {es : List MpE} (w : World) (hmb : w.heap[mb]? = some (mpO es clock)) :
    NewOf Tryz.prog 74 [.map (some mb)] w (fun b => .map (some b)) (mpO es clock) := by
  refine enter Tryz.func74 rfl (Mem.nil w []) rfl ?_
  refine z_ ?_
  refine Run.a (Val.mapNil Tryz.underlying101 rfl rfl rfl) ?_
  refine z_ ?_
  refine Run.a (Val.mkIm Tryz.underlying101 rfl rfl) ?_
  refine Run.nw (New.clone Tryz.func73 rfl rfl rfl rfl rfl rfl (fun w' hm => hm.old hmb)) ?_
  intro b
  refine Run.a (Val.assertM Tryz.underlying101 rfl rfl) ?_
  refine z_ ?_
  exact RQ.ret1 rfl (Res.tmp rfl) fun w' hm => NewOf.of (V := fun b => .map (some b)) hm m0
set_option maxRecDepth 10000 in set_option maxHeartbeats 4000000 in
theorem TCopy_calls {tb mb : Nat} (x : Tr tb mb) (w : World) (hw : Has x.L w) : Turns Tryz.prog 50 [.pointer (some ⟨tb, 0, none⟩)] w [] (Y := Nat × Nat) (fun y => .pointer (some ⟨y.1, 0, none⟩)) (fun y => [(y.1, Obj.cells #[.map (some y.2)] 103 (0, 0)), (y.2, mpO x.es x.clock)]) := by
  refine enter Tryz.func50 rfl (Mem.nil w []) rfl ?_
  have hc : w.cell? ⟨tb, 0, none⟩ = some (.map (some mb)) := by rw [cell_of_row w tb 0 _ _ _ (hw _ List.mem_cons_self)]; rfl
  have hmb : w.heap[mb]? = some (mpO x.es x.clock) := hw (mb, mpO x.es x.clock) m1
  refine z_ ?_
  refine Run.a (vlo hc) ?_
  refine Run.op1 (OpTo.callNew Tryz.func74 rfl rfl rfl rfl rfl rfl (fun w' hm => MClone_calls w' (hm.old hmb))) ?_
  intro m2
  refine Run.a (vbs #[.map (some m2)]) ?_
  refine Run.nw nbx ?_
  intro t2
  refine z_ ?_
  exact RQ.ret1 rfl (Res.tmp rfl) fun w' hm => Turns.of (Y := Nat × Nat) (V := fun y => .pointer (some ⟨y.1, 0, none⟩)) (L' := fun y => [(y.1, Obj.cells #[.map (some y.2)] 103 (0, 0)), (y.2, mpO x.es x.clock)]) (Lst := []) (t2, m2) hm (Lr := []) (List.Perm.refl _)
end Go.Proofs.YtfhdfpejjgmdcaaGreatDoor
