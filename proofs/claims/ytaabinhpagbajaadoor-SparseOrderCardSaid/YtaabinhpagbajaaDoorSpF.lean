/- sparse: Check. -/
import Derived.Test.YtaabinhpagbajaaDoorSpE
set_option linter.unusedSimpArgs false
set_option linter.unusedVariables false
namespace Go.Sha
open Go.Vc
/-- What a proof leads to, of its first pieces. -/
def upT (i : Nat) (p : List Nat) (h : List Nat) : Nat → List Nat
  | 0 => h
  | k + 1 => if i / 2 ^ k % 2 = 1 then overH (pc 8 p k) (upT i p h k) else overH (upT i p h k) (pc 8 p k)
theorem upT_8 {i : Nat} {p h : List Nat} (hh : H8 h) : ∀ k, H8 (upT i p h k)
  | 0 => hh
  | k + 1 => by
    unfold upT
    split
    · exact overH_8
    · exact overH_8
theorem pc_8 {p : List Nat} (hl : p.length = 128) (hb : ∀ x ∈ p, x < 256) {k : Nat} (hk : k < 16) : H8 (pc 8 p k) :=
  ⟨by unfold pc; rw [List.length_take, List.length_drop, hl]; omega, fun x hx => hb x (List.mem_of_mem_drop (List.mem_of_mem_take hx))⟩
end Go.Sha
namespace Go.Vc
open Go Go.Sha
theorem and1 {a : Nat} (h : a < 65536) : IntKind.i64.wrap ((BitVec.ofInt IntKind.i64.bits (a : Int) &&& BitVec.ofInt IntKind.i64.bits 1).toNat : Nat) = ((a % 2 : Nat) : Int) := by
  have e : (BitVec.ofInt IntKind.i64.bits (a : Int) &&& BitVec.ofInt IntKind.i64.bits 1).toNat = a % 2 := by
    rw [show (1 : Int) = ((1 : Nat) : Int) from rfl, BitVec.toNat_and, BitVec.ofInt_natCast, BitVec.ofInt_natCast, BitVec.toNat_ofNat, BitVec.toNat_ofNat, show IntKind.i64.bits = 64 from rfl, Nat.mod_eq_of_lt (by omega), Nat.mod_eq_of_lt (by decide), Nat.and_one_is_mod]
  rw [e]
  exact wrap_in (by dsimp only [inK]; omega)
end Go.Vc
namespace Go.Proofs.YtaabinhpagbajaaDoor
attribute [local irreducible] Go.Vc.Run Go.Vc.RC Go.Vc.RQ Go.Vc.DR Go.Vc.DOp
open Go Go.Vc Go.Sha
/-- Does a proof lead from a leaf to a root? -/
def chkT (root : List Nat) (i : Int) (h p : List Nat) : Bool := inB i && decide (upT i.toNat p h 16 = root)
set_option maxRecDepth 10000 in set_option maxHeartbeats 4000000 in
theorem TCheck_calls (root : List Nat) (hr : H8 root) (i : Int) (h : List Nat) (hh : H8 h) (p : List Nat) (hpl : p.length = 128) (hpb : ∀ x ∈ p, x < 256) (w : World) (hK : Laid w) :
    Gives Tryd.prog 17 [.agg (u8s root).toArray, .int .i64 i, .agg (u8s h).toArray, .agg (u8s p).toArray] (.bool (chkT root i h p)) w := by
  refine enter Tryd.func17 rfl (Mem.nil w []) rfl ?_
  have sp : (u8s p).toArray.size = 128 := by rw [List.size_toArray, u8s_len, hpl]
  have sr : (u8s root).toArray.size = 8 := by rw [List.size_toArray, u8s_len, hr.1]
  refine z_ ?_
  refine Run.nw nbx ?_
  intro b4
  refine Run.nw nbx ?_
  intro b6
  refine Run.nw nbx ?_
  intro b7
  refine z_ ?_
  refine Run.op1 (OpTo.cv Tryd.func25 (fun w' _ => in_calls i w')) (fun _ => ?_)
  unfold chkT inB
  by_cases hi : 0 ≤ i ∧ i < 65536
  case neg =>
    rw [decide_eq_false hi]
    refine z_ ?_
    exact RQ.ret1 rfl (Res.tmp rfl) fun w' hm => ⟨rfl, hm.fr⟩
  obtain ⟨i, rfl⟩ := Int.eq_ofNat_of_zero_le hi.1
  have hi16 : i < 65536 := by omega
  rw [decide_eq_true hi, Int.toNat_natCast]
  refine z_ ?_
  refine Run.a (vla (hv := sp)) ?_
  refine z_ ?_
  refine RC.up 16 (D := Unit) (fun _ _ => True) (fun k _ => [(15, .int .i64 k), (14, .agg (u8s p).toArray), (6, .pointer (some ⟨b6, 0, none⟩)), (4, .pointer (some ⟨b4, 0, none⟩)), (1, .int .i64 i)]) (fun k _ => [(b6, Obj.cells (u8s (upT i p h k)).toArray 29 (0, 0)), (b4, Obj.cells (u8s root).toArray 29 (0, 0))]) 0 () (Nat.zero_le _) trivial ⟨rfl, rfl, rfl, rfl, rfl, trivial⟩ (by repeat (first | exact List.nil_sublist _ | exact List.Sublist.refl _ | apply List.Sublist.cons_cons | apply List.Sublist.cons)) ?_
  intro k _ hk _
  have hu := upT_8 (i := i) (p := p) hh k
  have su : (u8s (upT i p h k)).toArray.size = 8 := by rw [List.size_toArray, u8s_len, hu.1]
  (repeat refine RC.seq ?_); refine RC.region ?_
  refine Run.a (Val.of rfl) ?_
  refine Run.nil (RQ.next ?_)
  (repeat refine RC.seq ?_); refine RC.wh rfl (fun h => RQ.next ?_) (fun h => ?_)
  · have hk' : k < 16 := by have := of_decide_eq_true h; omega
    clear h
    have hp8 := pc_8 hpl hpb hk'
    have sq : (u8s (pc 8 p k)).toArray.size = 8 := by rw [List.size_toArray, u8s_len, hp8.1]
    have hv := shr_nat (a := i) (k := k) (by omega)
    have hik : i / 2 ^ k < 65536 := Nat.lt_of_le_of_lt (Nat.div_le_self _ _) hi16
    have hx := and1 hik
    obtain ⟨X, hX⟩ : ∃ X, X = upT i p h (k + 1) := ⟨_, rfl⟩
    have hX2 : X = if i / 2 ^ k % 2 = 1 then overH (pc 8 p k) (upT i p h k) else overH (upT i p h k) (pc 8 p k) := hX
    have sX : (u8s X).toArray.size = 8 := by rw [List.size_toArray, u8s_len, hX, (upT_8 hh (k + 1)).1]
    generalize upT i p h k = U at hu su hX2 ⊢
    generalize i / 2 ^ k = ik at hv hik hx hX2
    refine z_ ?_
    refine Run.a (Val.indexU (c := 8) (l := p) tabOk k rfl rfl rfl rfl rfl rfl rfl rfl hk' rfl) ?_
    generalize pc 8 p k = Q at hp8 sq hX2 ⊢
    refine Run.nw nal ?_
    intro b10
    refine z_ ?_
    refine Run.op1 (osa (u8s Q).toArray (u8s_one _) (hs := sq)) (fun _ => ?_)
    refine z_ ?_
    rw [hv, hx]
    by_cases hbit : ik % 2 = 1
    · rw [if_pos hbit] at hX2
      rw [show (((ik % 2 : Nat) : Int) == 1) = true from by rw [hbit]; rfl]
      refine z_ ?_
      refine Run.a (vla (hv := sq)) ?_
      refine Run.a (vla (hv := su)) ?_
      refine Run.op1 (OpTo.cv Tryd.func27 (fun w' hm => over_calls Q U hp8 hu w' (hK.fr hm.fr (by simp)))) (fun _ => ?_)
      rw [← hX2]
      refine Run.op1 (osa (L' := [(b10, Obj.cells (u8s Q).toArray 29 (0, 0)), (b4, Obj.cells (u8s root).toArray 29 (0, 0))]) (arr := (u8s U).toArray) (e := 29) (u8s X).toArray (u8s_one _) (hs := sX) (hf := su.symm) (hL := (perm_of fun f => by (simp only [List.map_append, List.map_cons, List.map_nil, List.sum_append, List.sum_cons, List.sum_nil] <;> omega)))) (fun _ => ?_)
      refine z_ ?_
      rw [hX]
      exact RQ.upS (k + 1) () (Nat.lt_succ_self _) hk' trivial ⟨rfl, rfl, rfl, rfl, rfl, trivial⟩ (L1 := [(b6, Obj.cells (u8s (upT i p h (k + 1))).toArray 29 (0, 0)), (b4, Obj.cells (u8s root).toArray 29 (0, 0))] ++ [(b10, Obj.cells (u8s Q).toArray 29 (0, 0))]) (perm_of fun f => by (simp only [List.map_append, List.map_cons, List.map_nil, List.sum_append, List.sum_cons, List.sum_nil] <;> omega)) (List.sublist_append_left _ _)
    · rw [if_neg hbit] at hX2
      rw [show (((ik % 2 : Nat) : Int) == 1) = false from by rw [show ik % 2 = 0 by omega]; rfl]
      refine z_ ?_
      refine Run.a (vla (hv := su)) ?_
      refine Run.a (vla (hv := sq)) ?_
      refine Run.op1 (OpTo.cv Tryd.func27 (fun w' hm => over_calls U Q hu hp8 w' (hK.fr hm.fr (by simp)))) (fun _ => ?_)
      rw [← hX2]
      refine Run.op1 (osa (L' := [(b10, Obj.cells (u8s Q).toArray 29 (0, 0)), (b4, Obj.cells (u8s root).toArray 29 (0, 0))]) (arr := (u8s U).toArray) (e := 29) (u8s X).toArray (u8s_one _) (hs := sX) (hf := su.symm) (hL := (perm_of fun f => by (simp only [List.map_append, List.map_cons, List.map_nil, List.sum_append, List.sum_cons, List.sum_nil] <;> omega)))) (fun _ => ?_)
      refine z_ ?_
      rw [hX]
      exact RQ.upS (k + 1) () (Nat.lt_succ_self _) hk' trivial ⟨rfl, rfl, rfl, rfl, rfl, trivial⟩ (L1 := [(b6, Obj.cells (u8s (upT i p h (k + 1))).toArray 29 (0, 0)), (b4, Obj.cells (u8s root).toArray 29 (0, 0))] ++ [(b10, Obj.cells (u8s Q).toArray 29 (0, 0))]) (perm_of fun f => by (simp only [List.map_append, List.map_cons, List.map_nil, List.sum_append, List.sum_cons, List.sum_nil] <;> omega)) (List.sublist_append_left _ _)
  · have hk' : k = 16 := by have := of_decide_eq_false h; omega
    clear h
    subst hk'
    generalize upT i p h 16 = U at hu su ⊢
    (repeat refine RQ.thenExit ?_); refine RQ.blockHere ?_
    refine RQ.next ?_
    (repeat refine RC.seq ?_); refine RC.region ?_
    refine Run.a (vla (hv := su)) ?_
    refine Run.a (vla (hv := sr)) ?_
    refine Run.a (Val.eqU (m := 8) tabOk rfl rfl rfl (by kernel_rfl) (by kernel_rfl) rfl rfl hu.1 hr.1) ?_
    refine z_ ?_
    exact RQ.ret1 rfl (Res.tmp rfl) fun w' hm => ⟨rfl, hm.fr⟩
end Go.Proofs.YtaabinhpagbajaaDoor
