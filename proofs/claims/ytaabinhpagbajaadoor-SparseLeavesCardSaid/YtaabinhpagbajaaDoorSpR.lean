/- sparse: number, Leaf. -/
import Derived.Test.YtaabinhpagbajaaDoorSpN
set_option linter.unusedSimpArgs false
set_option linter.unusedVariables false
namespace Go.Proofs.YtaabinhpagbajaaDoor
open Go Go.Vc Go.Sha
/-- The bytes of any number. -/
def leI (n : Int) : Nat → List Nat
  | 0 => []
  | k + 1 => leI n k ++ [(n.fdiv (2 ^ (8 * k)) % 256).toNat]
theorem leI_len (n : Int) : ∀ k, (leI n k).length = k
  | 0 => rfl
  | k + 1 => by unfold leI; rw [List.length_append, leI_len n k]; rfl
theorem leI_nat (n : Nat) : ∀ k, leI (n : Int) k = le n k
  | 0 => rfl
  | k + 1 => by
    unfold leI le
    rw [leI_nat n k, Int.fdiv_eq_ediv_of_nonneg _ (Int.le_of_lt (Int.pow_pos (by decide)))]
    rfl
def okN (n : Int) (k : Nat) : Bool := decide (0 ≤ n) && (n.fdiv (2 ^ (8 * k)) == 0)
theorem okN_iff {n : Int} {k : Nat} : okN n k = true ↔ 0 ≤ n ∧ n < 2 ^ (8 * k) := by
  unfold okN
  rw [Bool.and_eq_true, decide_eq_true_eq, beq_iff_eq]
  have hp : (0 : Int) < 2 ^ (8 * k) := Int.pow_pos (by decide)
  constructor
  · rintro ⟨h0, h1⟩
    refine ⟨h0, ?_⟩
    rw [Int.fdiv_eq_ediv_of_nonneg _ (Int.le_of_lt hp)] at h1
    have := Int.lt_mul_ediv_self_add (x := n) hp
    rw [h1] at this
    omega
  · rintro ⟨h0, h1⟩
    refine ⟨h0, ?_⟩
    rw [Int.fdiv_eq_ediv_of_nonneg _ (Int.le_of_lt hp)]
    exact Int.ediv_eq_zero_of_lt h0 h1
/-- What is leaf of what. -/
def goodA (i : Int) (o : List Nat) (am no : Int) : Prop := o ≠ Z8 ∧ okN i 2 = true ∧ okN am 7 = true ∧ okN no 1 = true
instance (i : Int) (o : List Nat) (am no : Int) : Decidable (goodA i o am no) := by unfold goodA; infer_instance
def leafV (i : Int) (o : List Nat) (am no : Int) : List Nat := if goodA i o am no then digest 97 [le i.toNat 2, o, le am.toNat 7, le no.toNat 1] else Z8
theorem leafV_8 (i : Int) (o : List Nat) (am no : Int) : H8 (leafV i o am no) := by
  unfold leafV
  split
  · exact ⟨digest_len _ _, digest_lt _ _⟩
  · exact H8.z
def acC (o : List Nat) (am no : Int) : List Go.Value := u8s o ++ [.int .i64 am, .int .i64 no]
attribute [local irreducible] Go.Vc.Run Go.Vc.RC Go.Vc.RQ Go.Vc.DR Go.Vc.DOp
open Go Go.Vc Go.Sha
abbrev NumY (n : Int) (k : Nat) := {y : Value × Hp // Own 5 1 y.1 k (u8s (leI n k)) y.2}
set_option maxRecDepth 10000 in set_option maxHeartbeats 4000000 in
theorem number_calls (n : Int) (k : Nat) (hk : k ≤ 7) (w : World) :
    Turns Tryd.prog 31 [.int .i64 n, .int .i64 k] w [] (Y := NumY n k) (fun y => .tuple #[y.1.1, .bool (okN n k)]) (fun y => y.1.2) := by
  refine enter Tryd.func31 rfl (Mem.nil w []) rfl ?_
  refine z_ ?_
  refine RC.up k (D := Value × Hp) (fun i x => Own 5 1 x.1 i (u8s (leI n i)) x.2) (fun i x => [(9, .int .i64 i), (8, .int .i64 k), (6, x.1), (1, .int .i64 k), (0, .int .i64 n)]) (fun i x => x.2) 0 (_, _) (Nat.zero_le _) Own.nil ⟨rfl, rfl, rfl, rfl, rfl, trivial⟩ (List.nil_sublist _) ?_
  rintro i ⟨v5, bl5⟩ hi hown
  dsimp only at hown ⊢
  refine z_ ?_
  (repeat refine RC.seq ?_); refine RC.wh rfl (fun h => RQ.next ?_) (fun h => ?_)
  · have hi' : i < k := by have := of_decide_eq_true h; omega
    clear h
    obtain ⟨X, hX⟩ : ∃ X : Nat, X = (n.fdiv (2 ^ (8 * i)) % 256).toNat := ⟨_, rfl⟩
    have hle : leI n (i + 1) = leI n i ++ [X] := by rw [hX]; rfl
    have hv : IntKind.u8.wrap (n.fdiv (2 ^ min (8 * (i : Int)).toNat IntKind.i64.bits)) = (X : Int) := by
      rw [show min (8 * (i : Int)).toNat IntKind.i64.bits = 8 * i from by show min _ 64 = _; omega, hX]
      have hz : 0 ≤ n.fdiv (2 ^ (8 * i)) % 256 := Int.emod_nonneg _ (by decide)
      rw [Int.toNat_of_nonneg hz]
      generalize n.fdiv (2 ^ (8 * i)) = q
      rfl
    refine z_ ?_
    rw [hv]
    refine Run.nw (nbsl (u8s [X]).toArray (by kernel_rfl)) ?_
    intro b4
    refine Run.op1 (OpTo.append (L1 := [(b4, Obj.cells (u8s [X]).toArray 5 (0, 0))]) tabOk hown (Src.at ⟨b4, 0, none⟩ 1 1 (u8s [X]) rfl (Rd.rowAll List.mem_cons_self)) rfl rfl rfl rfl rfl rfl rfl rfl rfl (perm_of fun f => by (simp only [List.map_append, List.map_cons, List.map_nil, List.sum_append, List.sum_cons, List.sum_nil] <;> omega)) (u8s_one _) (by unfold maxLen; omega) (by simp only [ti5]; omega)) ?_
    rintro ⟨⟨v6, bl6⟩, hown6⟩
    dsimp only at hown6 ⊢
    rw [← u8s_app, ← hle] at hown6
    refine z_ ?_
    exact RQ.upS (i + 1) (v6, bl6) (Nat.lt_succ_self _) hi' hown6 ⟨rfl, rfl, rfl, rfl, rfl, trivial⟩ (List.Perm.refl _) (List.sublist_append_left _ _)
  · have hi' : i = k := by have := of_decide_eq_false h; omega
    clear h
    subst hi'
    (repeat refine RQ.thenExit ?_); refine RQ.blockHere ?_
    refine RQ.next ?_
    have hret : ∀ {w' : World}, Mem w [] bl5 w' → _ := fun {w'} hm => Turns.of (Y := NumY n i) (V := fun y => .tuple #[y.1.1, .bool (okN n i)]) (L' := fun y => y.1.2) (Lst := []) (w := w') ⟨(v5, bl5), hown⟩ hm (Lr := []) (by rw [List.append_nil])
    (repeat refine RC.seq ?_); refine RC.drawS mixed (N := 12) rfl ?_
    refine dt 0 ?_
    refine dt 1 ?_
    by_cases h0 : 0 ≤ n
    · have e1 : okN n i = (n.fdiv (2 ^ (8 * i)) == 0) := by unfold okN; rw [decide_eq_true h0, Bool.true_and]
      have hv : n.fdiv (2 ^ min (8 * (i : Int)).toNat IntKind.i64.bits) = n.fdiv (2 ^ (8 * i)) := by rw [show min (8 * (i : Int)).toNat IntKind.i64.bits = 8 * i from by show min _ 64 = _; omega]
      rw [e1] at hret ⊢
      refine DR.t 2 rfl (Val.eq (Val.of rfl) (show _ = Value.bool true from congrArg Value.bool (decide_eq_true (by omega)))) ?_
      refine dt 3 ?_
      refine dt 4 ?_
      refine dt 5 ?_
      refine dt 6 ?_
      refine dt 7 ?_
      rw [hv]
      refine dt 8 ?_
      refine dt 9 ?_
      refine dt 10 ?_
      refine dt 11 ?_
      refine DR.done (by kernel_rfl) ?_
      refine z_ ?_
      exact RQ.ret2 rfl (Res.tmp rfl) (Res.tmp rfl) fun w' hm => hret hm
    · have e1 : okN n i = false := by unfold okN; rw [decide_eq_false h0, Bool.false_and]
      rw [e1] at hret ⊢
      refine DR.t 2 rfl (Val.eq (Val.of rfl) (show _ = Value.bool false from congrArg Value.bool (decide_eq_false (by omega)))) ?_
      refine dt 3 ?_
      refine DR.p 4 rfl ?_
      refine DR.p 5 rfl ?_
      refine DR.p 6 rfl ?_
      refine DR.p 7 rfl ?_
      refine DR.p 8 rfl ?_
      refine dt 9 ?_
      refine dt 10 ?_
      refine dt 11 ?_
      refine DR.done (by kernel_rfl) ?_
      refine z_ ?_
      exact RQ.ret2 rfl (Res.tmp rfl) (Res.tmp rfl) fun w' hm => hret hm
end Go.Proofs.YtaabinhpagbajaaDoor
