/- hash.Text. -/
import Derived.Test.YtigfcafpoegnjaaDoorDig2
namespace Go.Sha
/-- The digits. -/
def hexD : List Nat := [48, 49, 50, 51, 52, 53, 54, 55, 56, 57, 97, 98, 99, 100, 101, 102]
def hexB (x : Nat) : List Nat := [hexD.getD (x / 16) 0, hexD.getD (x % 16) 0]
def hex (l : List Nat) : List Nat := l.flatMap hexB
theorem hexD_lt (i : Nat) : hexD.getD i 0 < 256 := by
  by_cases h : i < 16
  · exact (by decide : ∀ i : Fin 16, hexD.getD i.val 0 < 256) ⟨i, h⟩
  · rw [List.getD_eq_getElem?_getD, List.getElem?_eq_none (show hexD.length ≤ i by show 16 ≤ i; omega)]; decide
theorem hex_lt (l : List Nat) : ∀ x ∈ hex l, x < 256 := by
  intro x hx
  simp only [hex, List.mem_flatMap, hexB, List.mem_cons, List.not_mem_nil, or_false] at hx
  obtain ⟨y, _, rfl | rfl⟩ := hx <;> exact hexD_lt _
theorem hex_len : ∀ l : List Nat, (hex l).length = 2 * l.length
  | [] => rfl
  | x :: l => by
    have e : hex (x :: l) = hexB x ++ hex l := rfl
    rw [e, List.length_append, hex_len l]
    simp [hexB]
    omega
theorem hex_take_succ (l : List Nat) (i : Nat) (hi : i < l.length) : hex (l.take (i + 1)) = hex (l.take i) ++ hexB (l.getD i 0) := by
  rw [List.take_succ_eq_append_getElem hi, List.getD_eq_getElem?_getD, List.getElem?_eq_getElem hi]
  simp only [hex, List.flatMap_append, List.flatMap_cons, List.flatMap_nil, List.append_nil, Option.getD_some]
end Go.Sha
namespace Go.Proofs.YtigfcafpoegnjaaDoor
open Go Go.Vc Go.Sha

theorem u8_and15' : ∀ a : Fin 256, IntKind.wrap .u8 (BitVec.ofInt IntKind.u8.bits (a.val : Int) &&& BitVec.ofInt IntKind.u8.bits 15).toNat = ((a.val % 16 : Nat) : Int) := by decide +kernel
theorem u8_and15 (a : Nat) (h : a < 256) : IntKind.wrap .u8 (BitVec.ofInt IntKind.u8.bits (a : Int) &&& BitVec.ofInt IntKind.u8.bits 15).toNat = ((a % 16 : Nat) : Int) := u8_and15' ⟨a, h⟩
theorem Text_calls (a : List Nat) (ha : a.length = 8) (ha' : ∀ x ∈ a, x < 256) (w : World) :
    Gives Tryd.prog 19 [.agg (u8s a).toArray] (.string (bs (hex a))) w := by
  refine enter Tryd.func19 rfl (Mem.nil w []) rfl ?_
  (repeat refine RC.seq ?_); refine RC.region ?_
  refine Run.mk rfl rfl rfl (New.boxA rfl rfl) ?_
  intro b1
  refine Run.v rfl rfl rfl (Val.of rfl) ?_
  refine Run.nil (RQ.next ?_)
  (repeat refine RC.seq ?_); refine RC.region ?_
  refine Run.v rfl rfl rfl (Val.of rfl) ?_
  refine Run.nil (RQ.next ?_)
  (repeat refine RC.seq ?_); refine RC.region ?_
  refine Run.v rfl rfl rfl (Val.loadAll tabOk rfl rfl rfl rfl m0 (by show (u8s a).toArray.size = 8; simp [u8s_len, ha])) ?_
  refine Run.v rfl rfl rfl (Val.of rfl) ?_
  refine Run.nil (RQ.next ?_)
  (repeat refine RC.seq ?_); refine RC.block ?_
  refine RC.up 8 (D := Value × Hp) (fun i x => Own 5 1 x.1 (2 * i) (u8s (hex (a.take i))) x.2)
    (fun i x => [(7, .int .i64 i), (3, x.1), (6, .agg (u8s a).toArray)])
    (fun i x => x.2)
    0 (_, _) (Nat.zero_le _) Own.nil ⟨rfl, rfl, rfl, trivial⟩ (List.nil_sublist _) ?_
  rintro i ⟨v3, bl3⟩ hi hown
  dsimp only at hown ⊢
  (repeat refine RC.seq ?_); refine RC.region ?_
  repeat (refine Run.v rfl rfl rfl (Val.of rfl) ?_)
  refine Run.nil (RQ.next ?_)
  (repeat refine RC.seq ?_); refine RC.wh rfl (fun h => RQ.next ?_) (fun h => ?_)
  · have hi' : i < 8 := by have := of_decide_eq_true h; omega
    have hx := getD_lt ha' i
    have hat := u8s_arr a i (by omega)
    have hsu := hex_take_succ a i (by omega)
    generalize a.getD i 0 = x at *
    (repeat refine RC.seq ?_); refine RC.block ?_
    (repeat refine RC.seq ?_); refine RC.region ?_
    refine Run.v rfl rfl rfl (Val.indexN tabOk i (v := .int .u8 x) rfl rfl rfl rfl rfl rfl rfl hi' (by simp only [ti5, Nat.mul_one]; exact hat)) ?_
    refine Run.v rfl rfl rfl (Val.of rfl) ?_
    refine Run.nil (RQ.next ?_)
    (repeat refine RC.seq ?_); refine RC.drawS mixed (N := 10) rfl ?_
    refine DR.take 0 rfl (by repeat (first | exact List.nil_sublist _ | exact List.Sublist.refl _ | apply List.Sublist.cons_cons | apply List.Sublist.cons)) inferInstance (by kernel_rfl) (by kernel_rfl) (by kernel_rfl) (by kernel_rfl) rfl rfl (Wanted.plain rfl) (Val.of rfl) ?_
    refine DR.take 1 rfl (by repeat (first | exact List.nil_sublist _ | exact List.Sublist.refl _ | apply List.Sublist.cons_cons | apply List.Sublist.cons)) inferInstance (by kernel_rfl) (by kernel_rfl) (by kernel_rfl) (by kernel_rfl) rfl rfl (Wanted.plain rfl) (Val.of rfl) ?_
    refine DR.take 2 rfl (by repeat (first | exact List.nil_sublist _ | exact List.Sublist.refl _ | apply List.Sublist.cons_cons | apply List.Sublist.cons)) inferInstance (by kernel_rfl) (by kernel_rfl) (by kernel_rfl) (by kernel_rfl) rfl rfl (Wanted.plain rfl) (Val.shr (m := 4) rfl rfl rfl (by decide)) ?_
    refine DR.take 3 rfl (by repeat (first | exact List.nil_sublist _ | exact List.Sublist.refl _ | apply List.Sublist.cons_cons | apply List.Sublist.cons)) inferInstance (by kernel_rfl) (by kernel_rfl) (by kernel_rfl) (by kernel_rfl) rfl rfl (Wanted.plain rfl) (Val.ixStr tabOk (x / 16) (a := hexD) rfl rfl rfl rfl rfl rfl (by show _ < 16; omega) (fun x h => (by decide : ∀ x ∈ hexD, x < 256) x h)) ?_
    refine DR.take 4 rfl (by repeat (first | exact List.nil_sublist _ | exact List.Sublist.refl _ | apply List.Sublist.cons_cons | apply List.Sublist.cons)) inferInstance (by kernel_rfl) (by kernel_rfl) (by kernel_rfl) (by kernel_rfl) rfl rfl (Wanted.plain rfl) (Val.of rfl) ?_
    refine DR.take 5 rfl (by repeat (first | exact List.nil_sublist _ | exact List.Sublist.refl _ | apply List.Sublist.cons_cons | apply List.Sublist.cons)) inferInstance (by kernel_rfl) (by kernel_rfl) (by kernel_rfl) (by kernel_rfl) rfl rfl (Wanted.plain rfl) (Val.eq (Val.of rfl) (congrArg (Value.int .u8) (u8_and15 x hx))) ?_
    refine DR.take 6 rfl (by repeat (first | exact List.nil_sublist _ | exact List.Sublist.refl _ | apply List.Sublist.cons_cons | apply List.Sublist.cons)) inferInstance (by kernel_rfl) (by kernel_rfl) (by kernel_rfl) (by kernel_rfl) rfl rfl (Wanted.plain rfl) (Val.ixStr tabOk (x % 16) (a := hexD) rfl rfl rfl rfl rfl rfl (by show _ < 16; omega) (fun x h => (by decide : ∀ x ∈ hexD, x < 256) x h)) ?_
    refine DR.one (i := 7) (by kernel_rfl) ?_
    refine DOp.op rfl (Wanted.plain rfl) (OpTo.new rfl rfl (New.buildSlice tabOk (parts := [(0, .tmp 13), (1, .tmp 16)]) (cells := (u8s (hexB x)).toArray) rfl rfl rfl rfl rfl rfl (fillS_full 1 2 _ [.int .u8 _, .int .u8 _] rfl (by simp [Value.cells])))) (.inl fun _ => by repeat (first | exact List.nil_sublist _ | exact List.Sublist.refl _ | apply List.Sublist.cons_cons | apply List.Sublist.cons)) ?_
    intro b17
    refine DR.one (i := 8) (by kernel_rfl) (DOp.op rfl (Wanted.plain rfl) (OpTo.append tabOk hown (Src.at ⟨b17, 0, none⟩ 2 2 (u8s (hexB x)) rfl (Rd.rowAll List.mem_cons_self)) rfl rfl rfl rfl rfl rfl rfl rfl rfl (List.perm_append_comm (l₁ := [_]) (l₂ := bl3)) (u8s_one _) (by unfold maxLen; omega) (by simp only [ti5]; omega)) (.inr (by kernel_rfl)) ?_)
    rintro ⟨⟨v4, bl4⟩, hown4⟩
    refine DR.one (i := 9) (by kernel_rfl) ?_
    refine DOp.val rfl (.inr (by kernel_rfl)) rfl rfl (Wanted.plain rfl) (Val.of rfl) ?_
    refine DR.done (by kernel_rfl) (RQ.blockNormal (RQ.next ?_))
    refine RC.region ?_
    repeat (first | refine Run.v rfl rfl rfl (Val.ar rfl rfl rfl rfl (by dsimp only [inK]; omega)) ?_ | refine Run.v rfl rfl rfl (Val.of rfl) ?_)
    refine Run.nil (RQ.up (i + 1) (v4, bl4) (Nat.lt_succ_self _) hi' ?_ ⟨rfl, rfl, rfl, trivial⟩ (List.sublist_append_left _ _))
    have h := hown4
    rw [← u8s_app, ← hsu, show 2 * i + 2 = 2 * (i + 1) by omega] at h
    exact h
  · have hi' : i = 8 := by have := of_decide_eq_false h; omega
    subst hi'
    rw [List.take_of_length_le (by omega)] at hown
    (repeat refine RQ.thenExit ?_); refine RQ.blockHere ?_
    refine RQ.next ?_
    (repeat refine RC.seq ?_); refine RC.region ?_
    refine Run.v rfl rfl rfl (Val.of rfl) ?_
    refine Run.v rfl rfl rfl (Val.bytesStr tabOk rfl rfl rfl rfl rfl rfl rfl rfl (Own.src hown (fun p hp => hp))) ?_
    refine Run.v rfl rfl rfl (Val.of rfl) ?_
    refine Run.nil (RQ.next ?_)
    refine RC.ret ?_; (repeat first | refine RQ.thenRet ?_ | refine RQ.blockRet ?_); exact RQ.ret1 rfl (Res.tmp rfl) fun w' hm => ⟨rfl, hm.fr⟩
end Go.Proofs.YtigfcafpoegnjaaDoor
