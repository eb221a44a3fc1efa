/- LamportKeys. -/
import Derived.Test.YtnkogpfmfmjhoaaDoorLam5
namespace Go.Vc
open Go Go.Sha
theorem p6 {α : Type} {x a b c d e f : α} {l : List α} : (a :: b :: c :: d :: e :: f :: x :: l).Perm (x :: a :: b :: c :: d :: e :: f :: l) := (List.Perm.cons _ p5).trans p1
theorem p7 {α : Type} {x a b c d e f g : α} {l : List α} : (a :: b :: c :: d :: e :: f :: g :: x :: l).Perm (x :: a :: b :: c :: d :: e :: f :: g :: l) := (List.Perm.cons _ p6).trans p1
theorem p8 {α : Type} {x a b c d e f g h : α} {l : List α} : (a :: b :: c :: d :: e :: f :: g :: h :: x :: l).Perm (x :: a :: b :: c :: d :: e :: f :: g :: h :: l) := (List.Perm.cons _ p7).trans p1
theorem SrcW.pc {w0 : World} {S0 : List Nat} {L : Hp} {b i c : Nat} {l : List Nat} {e : TypeId} {fz : Nat × Nat} {w : World} (hm : Mem w0 S0 L w) (h : (b, .cells (u8s l).toArray e fz) ∈ L) (hl : (pc c l i).length = c) : SrcW w 1 (.slice (some ⟨b, i * c, none⟩) c c) c (u8s (pc c l i)) :=
  .at _ _ _ _ (by rw [u8s_len, hl, Nat.mul_one]) (Nat.le_refl _) fun j u hj => Rd.row h (pc_row i) w hm j u hj
end Go.Vc
namespace Go.Sha
theorem bitOf_zero (i : Nat) : bitOf (List.replicate 8 0) i = 0 := by
  unfold bitOf
  rw [List.getD_eq_getElem?_getD, List.getElem?_replicate]
  split <;> simp
theorem opened_zero (seed : List Nat) (ib i : Nat) : opened seed ib (List.replicate 8 0) i = secret seed ib i 0 := by unfold opened; rw [bitOf_zero]
theorem shutd_zero (seed : List Nat) (ib i : Nat) : shutd seed ib (List.replicate 8 0) i = markH (secret seed ib i 1) := by unfold shutd; rw [bitOf_zero]
end Go.Sha
namespace Go.Proofs.YtnkogpfmfmjhoaaDoor
open Go Go.Vc Go.Sha

theorem and255 (z : Int) (ib : Nat) (hz : z % 256 = (ib : Int)) : IntKind.wrap .i64 ((BitVec.ofInt IntKind.i64.bits z &&& BitVec.ofInt IntKind.i64.bits 255).toNat : Int) = (ib : Int) := by
  have e : (BitVec.ofInt 64 z &&& BitVec.ofInt 64 255).toNat = ib := by
    rw [BitVec.toNat_and, BitVec.toNat_ofInt, BitVec.toNat_ofInt, show ((255 : Int) % ((2 ^ 64 : Nat) : Int)).toNat = 2 ^ 8 - 1 from rfl, Nat.and_two_pow_sub_one_eq_mod]
    omega
  show IntKind.wrap .i64 (((BitVec.ofInt 64 z &&& BitVec.ofInt 64 255).toNat : Nat) : Int) = _
  rw [e]
  exact wrap_in (by simp only [inK]; omega)

theorem LamportKeys_calls (seed : List Nat) (hs : seed.length = 8) (hlt : ∀ x ∈ seed, x < 256) (z : Int) (w : World) (hK : Laid w) :
    Gives Tryd.prog 6 [.agg (u8s seed).toArray, .int .i64 z] (.bool true) w := by
  refine enter Tryd.func6 rfl (Mem.nil w []) rfl ?_
  obtain ⟨ib, hz⟩ : ∃ ib : Nat, z % 256 = (ib : Int) := ⟨(z % 256).toNat, by omega⟩
  have hib : ib < 256 := by omega
  have c8 : (List.replicate 8 0 : List Nat).length = 8 := rfl
  have c9 : ∀ x ∈ (List.replicate 8 0 : List Nat), x < 256 := by decide
  (repeat refine RC.seq ?_); refine RC.region ?_
  refine Run.mk rfl rfl rfl (New.boxA rfl rfl) ?_
  intro b2
  refine Run.v rfl rfl rfl (Val.of rfl) ?_
  refine Run.nil (RQ.next ?_)
  (repeat refine RC.seq ?_); refine RC.region ?_
  refine Run.callV Tryd.func12 rfl rfl rfl rfl rfl rfl rfl (fun w' hm => lam_awake_calls w' (hK.fr hm.fr (by simp))) ?_
  refine Run.v rfl rfl rfl (Val.of rfl) ?_
  refine Run.nil (RQ.next ?_)
  (repeat refine RC.seq ?_); refine RC.condF rfl rfl (RC.skip (RQ.next ?_))
  (repeat refine RC.seq ?_); refine RC.region ?_
  refine Run.v rfl rfl rfl (Val.loadU tabOk rfl rfl rfl rfl (by repeat (first | exact List.mem_cons_self | apply List.mem_cons_of_mem | apply List.mem_append_right)) hs) ?_
  refine Run.v rfl rfl rfl (Val.of rfl) ?_
  refine Run.op rfl (OpTo.callNew Tryd.func13 rfl rfl rfl rfl rfl rfl (fun w' hm => Make_calls seed hs hlt z ib hz w' (hK.fr hm.fr (by simp)))) ?_
  intro kb
  refine Run.v rfl rfl rfl (Val.of rfl) ?_
  refine Run.nil (RQ.next ?_)
  (repeat refine RC.seq ?_); refine RC.region ?_
  refine Run.v rfl rfl rfl (Val.loadU tabOk rfl rfl rfl rfl (by repeat (first | exact List.mem_cons_self | apply List.mem_cons_of_mem | apply List.mem_append_right)) hs) ?_
  refine Run.v rfl rfl rfl (Val.of rfl) ?_
  refine Run.v rfl rfl rfl (Val.eq (Val.of rfl) (congrArg (Value.int .i64) (and255 z ib hz))) ?_
  refine Run.op rfl (OpTo.callNew Tryd.func13 rfl rfl rfl rfl rfl rfl (fun w' hm => Make_calls seed hs hlt (ib : Int) ib (by omega) w' (hK.fr hm.fr (by simp)))) ?_
  intro lb
  refine Run.v rfl rfl rfl (Val.of rfl) ?_
  refine Run.nil (RQ.next ?_)
  (repeat refine RC.seq ?_); refine RC.region ?_
  refine Run.v rfl rfl rfl (Val.of rfl) ?_
  refine Run.v rfl rfl rfl (Val.ptrNil tabOk rfl rfl rfl rfl rfl) ?_
  refine Run.v rfl rfl rfl (Val.of rfl) ?_
  refine Run.vG (Wanted.guard rfl rfl rfl rfl) rfl rfl (Val.of rfl) ?_
  refine Run.vG (Wanted.guard rfl rfl rfl rfl) rfl rfl (Val.ptrNil tabOk rfl rfl rfl rfl rfl) ?_
  refine Run.v rfl rfl rfl (Val.of rfl) ?_
  refine Run.nil (RQ.next ?_)
  (repeat refine RC.seq ?_); refine RC.condF rfl rfl (RC.skip (RQ.next ?_))
  have l7 := rowOf_len (opened_len seed ib (List.replicate 8 0)) 16
  have l8 := rowOf_len (shutd_len seed ib (List.replicate 8 0)) 16
  have g7 := fun {i : Nat} (hi : i < 16) => pc_rowOf (opened_len seed ib (List.replicate 8 0)) hi
  have g8 := fun {i : Nat} (hi : i < 16) => pc_rowOf (shutd_len seed ib (List.replicate 8 0)) hi
  (repeat refine RC.seq ?_); refine RC.region ?_
  refine Run.v rfl rfl rfl (Val.of rfl) ?_
  refine Run.v rfl rfl rfl (Val.buildA tabOk (parts := []) (cells := (u8s (List.replicate 8 0)).toArray) rfl rfl rfl rfl rfl rfl) ?_
  refine Run.callV Tryd.func14 rfl rfl rfl rfl rfl rfl rfl (fun w' hm => Key_Sign_calls kb seed (List.replicate 8 0) ib c8 c9 w' (hK.fr hm.fr (by simp)) (hm.has (kb, _) (by repeat (first | exact List.mem_cons_self | apply List.mem_cons_of_mem | apply List.mem_append_right)))) ?_
  refine Run.v rfl rfl rfl (Val.of rfl) ?_
  refine Run.v rfl rfl rfl (Val.of rfl) ?_
  refine Run.v rfl rfl rfl (Val.of rfl) ?_
  refine Run.mk rfl rfl rfl (New.alloc tabOk rfl rfl) ?_
  intro b7
  refine Run.mk rfl rfl rfl (New.alloc tabOk rfl rfl) ?_
  intro b8
  refine Run.op rfl (OpTo.setAll tabOk rfl rfl rfl rfl rfl p1 l7 rfl) (fun _ => ?_)
  refine Run.op rfl (OpTo.setAll tabOk rfl rfl rfl rfl rfl p1 l8 rfl) (fun _ => ?_)
  refine Run.nil (RQ.next ?_)
  (repeat refine RC.seq ?_); refine RC.region ?_
  refine Run.v rfl rfl rfl (Val.of rfl) ?_
  refine Run.nil (RQ.next ?_)
  (repeat refine RC.seq ?_); refine RC.region ?_
  refine Run.v rfl rfl rfl (Val.of rfl) ?_
  refine Run.nil (RQ.next ?_)
  generalize hr7 : rowOf (opened seed ib (List.replicate 8 0)) 16 = r7 at *
  generalize hr8 : rowOf (shutd seed ib (List.replicate 8 0)) 16 = r8 at *
  generalize hkk : rowOf (secs seed ib) 16 = kk at *
  (repeat refine RC.seq ?_); refine RC.block ?_
  refine RC.up 16 (D := Value × Hp) (fun i x => Own 5 1 x.1 (16 * i) (u8s (rowOf (mrks seed ib) i)) x.2)
    (fun i x => [(10, .int .i64 i), (9, x.1), (1, .int .i64 z), (2, .pointer (some ⟨b2, 0, none⟩)), (5, .pointer (some ⟨kb, 0, none⟩)), (6, .pointer (some ⟨lb, 0, none⟩)), (7, .pointer (some ⟨b7, 0, none⟩)), (8, .pointer (some ⟨b8, 0, none⟩))])
    (fun i x => x.2 ++ [(b8, .cells (u8s r8).toArray 27 (0, 0)), (b7, .cells (u8s r7).toArray 27 (0, 0)), (lb, .cells (u8s kk).toArray 59 (0, 0)), (kb, .cells (u8s kk).toArray 59 (0, 0)), (b2, .cells (u8s seed).toArray 23 (0, 0))])
    0 (_, _) (Nat.zero_le _) Own.nil ⟨rfl, rfl, rfl, rfl, rfl, rfl, rfl, rfl, trivial⟩ (List.Sublist.refl _) ?_
  rintro i ⟨v9, bl9⟩ hi hown
  dsimp only at hown ⊢
  (repeat refine RC.seq ?_); refine RC.region ?_
  refine Run.v rfl rfl rfl (Val.of rfl) ?_
  refine Run.v rfl rfl rfl (Val.of rfl) ?_
  refine Run.nil (RQ.next ?_)
  (repeat refine RC.seq ?_); refine RC.wh rfl (fun h => RQ.next ?_) (fun h => ?_)
  · have hi' : i < 16 := by have := of_decide_eq_true h; omega
    clear h
    have f7 := g7 hi'
    have f8 := g8 hi'
    rw [opened_zero] at f7
    rw [shutd_zero] at f8
    have o7 := secret_len seed ib i 0
    have o8 := mark_len (secret seed ib i 1)
    have o9 := mark_len (secret seed ib i 0)
    have u7 := secret_lt seed ib i 0
    have d1 : digest 115 [seed, [ib, i, 0, 0]] = secret seed ib i 0 := rfl
    have e1 : rowOf (mrks seed ib) (i + 1) = rowOf (mrks seed ib) i ++ (markH (secret seed ib i 0) ++ markH (secret seed ib i 1)) := rfl
    have d2 : digest 112 [secret seed ib i 0] = markH (secret seed ib i 0) := rfl
    have hparts : ∀ l ∈ [seed, [ib, i, 0, 0]], ∀ x ∈ l, x < 256 := by
      intro l hl x hx
      simp only [List.mem_cons, List.not_mem_nil, or_false] at hl
      rcases hl with rfl | rfl
      · exact hlt x hx
      · simp only [List.mem_cons, List.not_mem_nil, or_false] at hx
        omega
    (repeat refine RC.seq ?_); refine RC.block ?_
    (repeat refine RC.seq ?_); refine RC.drawS mixed (N := 12) rfl ?_
    refine DR.take 0 rfl (by repeat (first | exact List.nil_sublist _ | exact List.Sublist.refl _ | apply List.Sublist.cons_cons | apply List.Sublist.cons)) inferInstance (by kernel_rfl) (by kernel_rfl) (by kernel_rfl) (by kernel_rfl) rfl rfl (Wanted.plain rfl) (Val.of rfl) ?_
    refine DR.take 1 rfl (by repeat (first | exact List.nil_sublist _ | exact List.Sublist.refl _ | apply List.Sublist.cons_cons | apply List.Sublist.cons)) inferInstance (by kernel_rfl) (by kernel_rfl) (by kernel_rfl) (by kernel_rfl) rfl rfl (Wanted.plain rfl) (Val.ix tabOk i (off' := i * 8) rfl rfl rfl rfl rfl rfl rfl hi' (by simp [ti23])) ?_
    refine DR.take 2 rfl (by repeat (first | exact List.nil_sublist _ | exact List.Sublist.refl _ | apply List.Sublist.cons_cons | apply List.Sublist.cons)) inferInstance (by kernel_rfl) (by kernel_rfl) (by kernel_rfl) (by kernel_rfl) rfl rfl (Wanted.plain rfl) (Val.eq (Val.loadPc tabOk i (c := 8) rfl rfl rfl rfl (by repeat (first | exact List.mem_cons_self | apply List.mem_cons_of_mem | apply List.mem_append_right)) rfl rfl (by rw [f7]; exact o7)) (congrArg (fun l => Value.agg (u8s l).toArray) f7)) ?_
    refine DR.take 3 rfl (by repeat (first | exact List.nil_sublist _ | exact List.Sublist.refl _ | apply List.Sublist.cons_cons | apply List.Sublist.cons)) inferInstance (by kernel_rfl) (by kernel_rfl) (by kernel_rfl) (by kernel_rfl) rfl rfl (Wanted.plain rfl) (Val.eq (Val.sliceA tabOk rfl rfl rfl rfl rfl) (show _ = Value.slice (some ⟨b2, 0, none⟩) seed.length seed.length from by rw [hs])) ?_
    refine DR.take 4 rfl (by repeat (first | exact List.nil_sublist _ | exact List.Sublist.refl _ | apply List.Sublist.cons_cons | apply List.Sublist.cons)) inferInstance (by kernel_rfl) (by kernel_rfl) (by kernel_rfl) (by kernel_rfl) rfl rfl (Wanted.plain rfl) (Val.of rfl) ?_
    refine DR.take 5 rfl (by repeat (first | exact List.nil_sublist _ | exact List.Sublist.refl _ | apply List.Sublist.cons_cons | apply List.Sublist.cons)) inferInstance (by kernel_rfl) (by kernel_rfl) (by kernel_rfl) (by kernel_rfl) rfl rfl (Wanted.plain rfl) (Val.eq (Val.conv tabOk rfl rfl rfl rfl rfl rfl) (show _ = Value.int .u8 (ib : Int) from congrArg (Value.int .u8) (by rw [wrap_u8]; exact hz))) ?_
    refine DR.take 6 rfl (by repeat (first | exact List.nil_sublist _ | exact List.Sublist.refl _ | apply List.Sublist.cons_cons | apply List.Sublist.cons)) inferInstance (by kernel_rfl) (by kernel_rfl) (by kernel_rfl) (by kernel_rfl) rfl rfl (Wanted.plain rfl) (Val.of rfl) ?_
    refine DR.take 7 rfl (by repeat (first | exact List.nil_sublist _ | exact List.Sublist.refl _ | apply List.Sublist.cons_cons | apply List.Sublist.cons)) inferInstance (by kernel_rfl) (by kernel_rfl) (by kernel_rfl) (by kernel_rfl) rfl rfl (Wanted.plain rfl) (Val.convIn tabOk rfl rfl rfl rfl rfl rfl (by simp only [inK]; omega)) ?_
    refine DR.one (i := 8) (by kernel_rfl) ?_
    refine DOp.op rfl (Wanted.plain rfl) (OpTo.new rfl rfl (New.buildSlice tabOk (parts := [(0, .tmp 42), (1, .tmp 44), (2, .const (.int .u8 0)), (3, .const (.int .u8 0))]) (cells := (u8s [ib, i, 0, 0]).toArray) rfl rfl rfl rfl rfl rfl (fillS_full 1 4 _ [.int .u8 _, .int .u8 _, .int .u8 _, .int .u8 _] rfl (by simp [Value.cells])))) (.inl fun _ => by repeat (first | exact List.nil_sublist _ | exact List.Sublist.refl _ | apply List.Sublist.cons_cons | apply List.Sublist.cons)) ?_
    intro b45
    refine DR.one (i := 9) (by kernel_rfl) ?_
    refine DOp.op rfl (Wanted.plain rfl) (OpTo.new rfl rfl (New.buildSlice tabOk (parts := [(0, .tmp 40), (1, .tmp 45)]) (cells := [Value.slice (some ⟨b2, 0, none⟩) seed.length seed.length, Value.slice (some ⟨b45, 0, none⟩) 4 4].toArray) rfl rfl rfl rfl rfl rfl (fillS_full 1 2 _ [Value.slice (some ⟨b2, 0, none⟩) seed.length seed.length, Value.slice (some ⟨b45, 0, none⟩) 4 4] rfl (by simp [Value.cells])))) (.inl fun _ => by repeat (first | exact List.nil_sublist _ | exact List.Sublist.refl _ | apply List.Sublist.cons_cons | apply List.Sublist.cons)) ?_
    intro b46
    refine DR.one (i := 10) (by kernel_rfl) ?_
    refine DOp.op rfl (Wanted.plain rfl) (OpTo.callV Tryd.func20 rfl rfl rfl rfl rfl rfl (fun w' hm => Digest_calls 115 (by decide) _ _ [seed, [ib, i, 0, 0]] w' (SrcW.row hm m0 rfl (Nat.le_refl 2)) (parts2 (u := .slice (some ⟨b2, 0, none⟩) seed.length seed.length) (v := .slice (some ⟨b45, 0, none⟩) 4 4) (SrcW.row hm (by repeat (first | exact List.mem_cons_self | apply List.mem_cons_of_mem | apply List.mem_append_right)) (by simp [u8s_len]) (Nat.le_refl _)) (SrcW.row hm (by repeat (first | exact List.mem_cons_self | apply List.mem_cons_of_mem | apply List.mem_append_right)) rfl (Nat.le_refl 4))) (by simp [tot, hs]) hparts)) (.inl fun _ => (by repeat (first | exact List.nil_sublist _ | exact List.Sublist.refl _ | apply List.Sublist.cons_cons | apply List.Sublist.cons))) (fun _ => ?_)
    rw [d1]
    refine DR.take 11 rfl (by repeat (first | exact List.nil_sublist _ | exact List.Sublist.refl _ | apply List.Sublist.cons_cons | apply List.Sublist.cons)) inferInstance (by kernel_rfl) (by kernel_rfl) (by kernel_rfl) (by kernel_rfl) rfl rfl (Wanted.plain rfl) (Val.eq (Val.neU (m := 8) (a := secret seed ib i 0) (b := secret seed ib i 0) tabOk rfl rfl rfl (by kernel_rfl) (by kernel_rfl) rfl rfl o7 o7) (show _ = Value.bool false from by simp)) ?_
    refine DR.done (by kernel_rfl) (RQ.next ?_)
    (repeat refine RC.seq ?_); refine RC.condF rfl rfl (RC.skip (RQ.next ?_))
    (repeat refine RC.seq ?_); refine RC.region ?_
    refine Run.v rfl rfl rfl (Val.of rfl) ?_
    refine Run.v rfl rfl rfl (Val.ix tabOk i (off' := i * 8) rfl rfl rfl rfl rfl rfl rfl hi' (by simp [ti23])) ?_
    refine Run.v rfl rfl rfl (Val.sliceA tabOk rfl rfl rfl rfl rfl) ?_
    refine Run.mk rfl rfl rfl (New.buildSlice tabOk (parts := [(0, .tmp 51)]) (cells := [Value.slice (some ⟨b7, i * 8, none⟩) 8 8].toArray) rfl rfl rfl rfl rfl rfl (fillS_full 1 1 _ [Value.slice (some ⟨b7, i * 8, none⟩) 8 8] rfl (by simp [Value.cells]))) ?_
    intro b52
    refine Run.callV Tryd.func20 rfl rfl rfl rfl rfl rfl rfl (fun w' hm => Digest_calls 112 (by decide) _ _ [secret seed ib i 0] w' (SrcW.row hm m0 rfl (Nat.le_refl 1)) (parts1' (u := .slice (some ⟨b7, i * 8, none⟩) 8 8) (by rw [o7, ← f7]; exact SrcW.pc (e := 27) (fz := (0, 0)) hm (by repeat (first | exact List.mem_cons_self | apply List.mem_cons_of_mem | apply List.mem_append_right)) (by rw [f7]; exact o7))) (by simp [tot, o7]) (by simpa using u7)) ?_
    rw [d2]
    refine Run.mk rfl rfl rfl (New.alloc tabOk rfl rfl) ?_
    intro b11
    refine Run.op rfl (OpTo.setAll tabOk rfl rfl rfl rfl rfl (List.Perm.refl _) o9 rfl) (fun _ => ?_)
    refine Run.nil (RQ.next ?_)
    generalize markH (secret seed ib i 0) = x1 at *
    (repeat refine RC.seq ?_); refine RC.draw [] mixed (N := 8) rfl ?_
    refine DR.take 0 rfl (List.nil_sublist _) inferInstance (by kernel_rfl) (by kernel_rfl) (by kernel_rfl) (by kernel_rfl) rfl rfl (Wanted.plain rfl) (Val.of rfl) ?_
    refine DR.take 1 rfl (List.nil_sublist _) inferInstance (by kernel_rfl) (by kernel_rfl) (by kernel_rfl) (by kernel_rfl) rfl rfl (Wanted.plain rfl) (Val.sliceA tabOk rfl rfl rfl rfl rfl) ?_
    refine DR.take 3 rfl (List.nil_sublist _) inferInstance (by kernel_rfl) (by kernel_rfl) (by kernel_rfl) (by kernel_rfl) rfl rfl (Wanted.plain rfl) (Val.of rfl) ?_
    refine DR.take 4 rfl (List.nil_sublist _) inferInstance (by kernel_rfl) (by kernel_rfl) (by kernel_rfl) (by kernel_rfl) rfl rfl (Wanted.plain rfl) (Val.ix tabOk i (off' := i * 8) rfl rfl rfl rfl rfl rfl rfl hi' (by simp [ti23])) ?_
    refine DR.take 5 rfl (List.nil_sublist _) inferInstance (by kernel_rfl) (by kernel_rfl) (by kernel_rfl) (by kernel_rfl) rfl rfl (Wanted.plain rfl) (Val.sliceA tabOk rfl rfl rfl rfl rfl) ?_
    refine DR.one (i := 2) (by kernel_rfl) (DOp.op rfl (Wanted.plain rfl) (OpTo.append tabOk hown (Src.at ⟨b11, 0, none⟩ 8 8 (u8s x1) (by rw [u8s_len, o9]; rfl) (Rd.rowAll m0)) rfl rfl rfl rfl rfl rfl rfl rfl rfl (List.perm_append_comm_assoc [_, _, _, _] bl9 _) (u8s_one _) (by unfold maxLen; omega) (by simp only [ti5]; omega)) (.inl fun _ => List.nil_sublist _) ?_)
    rintro ⟨⟨v10, bl10⟩, hown10⟩
    refine DR.one (i := 6) (by kernel_rfl) (DOp.op rfl (Wanted.plain rfl) (OpTo.append tabOk hown10 (Src.at ⟨b8, i * 8, none⟩ 8 8 (u8s (pc 8 r8 i)) (by rw [f8, u8s_len, o8]; rfl) (Rd.row (by repeat (first | exact List.mem_cons_self | apply List.mem_cons_of_mem | apply List.mem_append_right)) (pc_row i))) rfl rfl rfl rfl rfl rfl rfl rfl rfl (List.Perm.refl _) (u8s_one _) (by unfold maxLen; omega) (by simp only [ti5]; omega)) (.inl fun _ => List.nil_sublist _) ?_)
    rintro ⟨⟨v11, bl11⟩, hown11⟩
    refine DR.one (i := 7) (by kernel_rfl) ?_
    refine DOp.val rfl (.inr (by kernel_rfl)) rfl rfl (Wanted.plain rfl) (Val.of rfl) ?_
    refine DR.done (by kernel_rfl) (RQ.blockNormal (RQ.next ?_))
    refine RC.region ?_
    repeat (first | refine Run.v rfl rfl rfl (Val.ar rfl rfl rfl rfl (by dsimp only [inK]; omega)) ?_ | refine Run.v rfl rfl rfl (Val.of rfl) ?_)
    refine Run.nil (RQ.up (i + 1) (v11, bl11) (Nat.lt_succ_self _) hi' ?_ ⟨rfl, rfl, rfl, rfl, rfl, rfl, rfl, rfl, trivial⟩ (List.Sublist.append (List.Sublist.refl _) (List.Sublist.cons _ (List.Sublist.cons _ (List.Sublist.cons _ (List.Sublist.cons _ (List.Sublist.refl _)))))))
    have h := hown11
    rw [f8, ← u8s_app, ← u8s_app, List.append_assoc, ← e1, show 16 * i + 8 + 8 = 16 * (i + 1) by omega] at h
    exact h
  · have hi' : i = 16 := by have := of_decide_eq_false h; omega
    subst hi'
    have hl : (rowOf (mrks seed ib) 16).length = 256 := rowOf_len (mrks_len seed ib) 16
    have hlt' := rowOf_lt (mrks_lt seed ib) 16
    have hd : (pubKey seed ib).length = 8 := digest_len _ _
    have e : digest 107 [rowOf (mrks seed ib) 16] = pubKey seed ib := rfl
    generalize rowOf (mrks seed ib) 16 = l at *
    (repeat refine RQ.thenExit ?_); refine RQ.blockHere ?_
    refine RQ.next ?_
    obtain ⟨a, c, rfl, hc⟩ := hown.shape
    subst hkk
    (repeat refine RC.seq ?_); refine RC.region ?_
    refine Run.v rfl rfl rfl (Val.of rfl) ?_
    refine Run.callV Tryd.func16 rfl rfl rfl rfl rfl rfl rfl (fun w' hm => Key_Public_calls kb seed ib w' (hK.fr hm.fr (by simp)) (hm.has (kb, _) (by repeat (first | exact List.mem_cons_self | apply List.mem_cons_of_mem | apply List.mem_append_right)))) ?_
    refine Run.v rfl rfl rfl (Val.of rfl) ?_
    refine Run.callV Tryd.func16 rfl rfl rfl rfl rfl rfl rfl (fun w' hm => Key_Public_calls lb seed ib w' (hK.fr hm.fr (by simp)) (hm.has (lb, _) (by repeat (first | exact List.mem_cons_self | apply List.mem_cons_of_mem | apply List.mem_append_right)))) ?_
    refine Run.v rfl rfl rfl (Val.eq (Val.eqU (m := 8) (a := pubKey seed ib) (b := pubKey seed ib) tabOk rfl rfl rfl (by kernel_rfl) (by kernel_rfl) rfl rfl hd hd) (show _ = Value.bool true from by simp)) ?_
    refine Run.v rfl rfl rfl (Val.of rfl) ?_
    refine Run.vG (Wanted.guard rfl rfl rfl rfl) rfl rfl (Val.of rfl) ?_
    refine Run.opG (Wanted.guard rfl rfl rfl rfl) (OpTo.callV Tryd.func16 rfl rfl rfl rfl rfl rfl (fun w' hm => Key_Public_calls kb seed ib w' (hK.fr hm.fr (by simp)) (hm.has (kb, _) (by repeat (first | exact List.mem_cons_self | apply List.mem_cons_of_mem | apply List.mem_append_right))))) ?_
    intro _
    refine Run.vG (Wanted.guard rfl rfl rfl rfl) rfl rfl (Val.of rfl) ?_
    refine Run.opG (Wanted.guard rfl rfl rfl rfl) (OpTo.new rfl rfl (New.buildSlice tabOk (parts := [(0, .tmp 69)]) (cells := [Value.slice a (16 * 16) c].toArray) rfl rfl rfl rfl rfl rfl (fillS_full 1 1 _ [Value.slice a (16 * 16) c] rfl (by simp [Value.cells])))) ?_
    intro b70
    refine Run.opG (Wanted.guard rfl rfl rfl rfl) (OpTo.callV Tryd.func20 rfl rfl rfl rfl rfl rfl (fun w' hm => Digest_calls 107 (by decide) _ _ [l] w' (SrcW.row hm m0 rfl (Nat.le_refl 1)) (parts1' (u := .slice a (16 * 16) c) (by rw [hl]; exact hown.srcW (fun q hq => hm.has q (List.mem_cons_of_mem _ (List.mem_append_left _ hq))))) (by simp [tot, hl]) (by simpa using hlt'))) ?_
    intro _
    rw [e]
    refine Run.vG (Wanted.guard rfl rfl rfl rfl) rfl rfl (Val.eq (Val.eqU (m := 8) (a := pubKey seed ib) (b := pubKey seed ib) tabOk rfl rfl rfl (by kernel_rfl) (by kernel_rfl) rfl rfl hd hd) (show _ = Value.bool true from by simp)) ?_
    refine Run.v rfl rfl rfl (Val.of rfl) ?_
    refine Run.v rfl rfl rfl (Val.of rfl) ?_
    refine Run.nil (RQ.next ?_)
    refine RC.ret ?_; (repeat first | refine RQ.thenRet ?_ | refine RQ.blockRet ?_); exact RQ.ret1 rfl (Res.tmp rfl) fun w' hm => ⟨rfl, hm.fr⟩
end Go.Proofs.YtnkogpfmfmjhoaaDoor
