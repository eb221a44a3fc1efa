/- lamport's awake; LamportSigns, LamportReads. -/
import Derived.Test.YtnkogpfmfmjhoaaDoorLam3
import Derived.Test.YtnkogpfmfmjhoaaDoorRefB
namespace Go.Sha
def sdOne : List Nat := [1, 0, 0, 0, 0, 0, 0, 0]
def msFive : List Nat := [5, 6, 0, 0, 0, 0, 0, 0]
theorem awake_ne : opened sdOne 0 msFive 0 ≠ shutd sdOne 0 msFive 0 := of_decide_eq_false (by kernel_rfl)
end Go.Sha
namespace Go.Proofs.YtnkogpfmfmjhoaaDoor
open Go Go.Vc Go.Sha

theorem lam_awake_calls (w : World) (hK : Laid w) : Gives Tryd.prog 12 [] (.bool true) w := by
  refine enter Tryd.func12 rfl (Mem.nil w []) rfl ?_
  (repeat refine RC.seq ?_); refine RC.region ?_
  refine Run.v rfl rfl rfl (Val.of rfl) ?_
  refine Run.nil (RQ.next ?_)
  (repeat refine RC.seq ?_); refine RC.region ?_
  refine Run.v rfl rfl rfl (Val.buildA tabOk (parts := [(0, .const (.int .u8 1))]) (cells := (u8s sdOne).toArray) rfl rfl rfl rfl rfl rfl) ?_
  have c1 : sdOne.length = 8 := rfl
  have c2 : ∀ x ∈ sdOne, x < 256 := by decide
  have c3 : msFive.length = 8 := rfl
  have c4 : ∀ x ∈ msFive, x < 256 := by decide
  have c5 := awake_ne
  refine Run.op rfl (OpTo.callNew Tryd.func13 rfl rfl rfl rfl rfl rfl (fun w' hm => Make_calls sdOne c1 c2 0 0 rfl w' (hK.fr hm.fr (by simp)))) ?_
  intro kb
  refine Run.v rfl rfl rfl (Val.of rfl) ?_
  refine Run.nil (RQ.next ?_)
  (repeat refine RC.seq ?_); refine RC.region ?_
  refine Run.v rfl rfl rfl (Val.of rfl) ?_
  refine Run.v rfl rfl rfl (Val.ptrNil tabOk rfl rfl rfl rfl rfl) ?_
  refine Run.nil (RQ.next ?_)
  (repeat refine RC.seq ?_); refine RC.condF rfl rfl (RC.skip (RQ.next ?_))
  have ol := opened_len sdOne 0 msFive
  have sl := shutd_len sdOne 0 msFive
  have pe := pubBy_signed sdOne 0 msFive
  have pd : (pubKey sdOne 0).length = 8 := digest_len _ _
  have hol := rowOf_len ol 16
  have hsl := rowOf_len sl 16
  have hop := pc_rowOf ol (n := 16) (i := 0) (by decide)
  have hsp := pc_rowOf sl (n := 16) (i := 0) (by decide)
  have holt := rowOf_lt (opened_lt sdOne 0 msFive) 16
  have hslt := rowOf_lt (shutd_lt sdOne 0 msFive) 16
  (repeat refine RC.seq ?_); refine RC.region ?_
  refine Run.v rfl rfl rfl (Val.of rfl) ?_
  refine Run.v rfl rfl rfl (Val.buildA tabOk (parts := [(0, .const (.int .u8 5)), (1, .const (.int .u8 6))]) (cells := (u8s msFive).toArray) rfl rfl rfl rfl rfl rfl) ?_
  refine Run.callV Tryd.func14 rfl rfl rfl rfl rfl rfl rfl (fun w' hm => Key_Sign_calls kb sdOne msFive 0 c3 c4 w' (hK.fr hm.fr (by simp)) (hm.has _ m0)) ?_
  have ol0 := ol 0
  have sl0 := sl 0
  generalize opened sdOne 0 msFive 0 = o0 at *
  generalize shutd sdOne 0 msFive 0 = s0 at *
  generalize rowOf (opened sdOne 0 msFive) 16 = ro at *
  generalize rowOf (shutd sdOne 0 msFive) 16 = rs at *
  refine Run.v rfl rfl rfl (Val.of rfl) ?_
  refine Run.v rfl rfl rfl (Val.of rfl) ?_
  refine Run.v rfl rfl rfl (Val.of rfl) ?_
  refine Run.mk rfl rfl rfl (New.alloc tabOk rfl rfl) ?_
  intro b2
  refine Run.mk rfl rfl rfl (New.alloc tabOk rfl rfl) ?_
  intro b3
  refine Run.op rfl (OpTo.setAll tabOk rfl rfl rfl rfl rfl p1 hol rfl) (fun _ => ?_)
  refine Run.op rfl (OpTo.setAll tabOk rfl rfl rfl rfl rfl p1 hsl rfl) (fun _ => ?_)
  refine Run.nil (RQ.next ?_)
  (repeat refine RC.seq ?_); refine RC.region ?_
  refine Run.v rfl rfl rfl (Val.buildA tabOk (parts := [(0, .const (.int .u8 5)), (1, .const (.int .u8 6))]) (cells := (u8s msFive).toArray) rfl rfl rfl rfl rfl rfl) ?_
  refine Run.v rfl rfl rfl (Val.loadU tabOk rfl rfl rfl rfl m1 hol) ?_
  refine Run.v rfl rfl rfl (Val.loadU tabOk rfl rfl rfl rfl m0 hsl) ?_
  refine Run.callV Tryd.func18 rfl rfl rfl rfl rfl rfl rfl (fun w' hm => lam_Public_calls msFive ro rs c3 c4 hol holt hsl hslt w' (hK.fr hm.fr (by simp))) ?_
  rw [pe]
  refine Run.v rfl rfl rfl (Val.of rfl) ?_
  refine Run.callV Tryd.func16 rfl rfl rfl rfl rfl rfl rfl (fun w' hm => Key_Public_calls kb sdOne 0 w' (hK.fr hm.fr (by simp)) (hm.has _ m2)) ?_
  generalize pubKey sdOne 0 = pk at *
  refine Run.v rfl rfl rfl (Val.eq (Val.eqU (m := 8) (a := pk) (b := pk) tabOk rfl rfl rfl (by kernel_rfl) (by kernel_rfl) rfl rfl pd pd) (show _ = Value.bool true from by simp)) ?_
  refine Run.v rfl rfl rfl (Val.of rfl) ?_
  refine Run.vG (Wanted.guard rfl rfl rfl rfl) rfl rfl (Val.ix tabOk 0 (off' := 0) rfl rfl rfl rfl rfl rfl rfl (by decide) rfl) ?_
  refine Run.vG (Wanted.guard rfl rfl rfl rfl) rfl rfl (Val.eq (Val.loadPc tabOk 0 (c := 8) rfl rfl rfl rfl m1 rfl rfl (by rw [hop]; exact ol0)) (congrArg (fun l => Value.agg (u8s l).toArray) hop)) ?_
  refine Run.vG (Wanted.guard rfl rfl rfl rfl) rfl rfl (Val.ix tabOk 0 (off' := 0) rfl rfl rfl rfl rfl rfl rfl (by decide) rfl) ?_
  refine Run.vG (Wanted.guard rfl rfl rfl rfl) rfl rfl (Val.eq (Val.loadPc tabOk 0 (c := 8) rfl rfl rfl rfl m0 rfl rfl (by rw [hsp]; exact sl0)) (congrArg (fun l => Value.agg (u8s l).toArray) hsp)) ?_
  refine Run.vG (Wanted.guard rfl rfl rfl rfl) rfl rfl (Val.eq (Val.neU (m := 8) (a := o0) (b := s0) tabOk rfl rfl rfl (by kernel_rfl) (by kernel_rfl) rfl rfl ol0 sl0) (show _ = Value.bool true from by rw [decide_eq_false c5]; rfl)) ?_
  refine Run.v rfl rfl rfl (Val.of rfl) ?_
  refine Run.v rfl rfl rfl (Val.of rfl) ?_
  refine Run.nil (RQ.next ?_)
  refine RC.ret ?_; (repeat first | refine RQ.thenRet ?_ | refine RQ.blockRet ?_); exact RQ.ret1 rfl (Res.tmp rfl) fun w' hm => ⟨rfl, hm.fr⟩

theorem LamportSigns_calls (seed m : List Nat) (hs : seed.length = 8) (hlt : ∀ x ∈ seed, x < 256) (hm8 : m.length = 8) (hmlt : ∀ x ∈ m, x < 256) (z : Int) (w : World) (hK : Laid w) :
    Gives Tryd.prog 3 [.agg (u8s seed).toArray, .int .i64 z, .agg (u8s m).toArray] (.bool true) w := by
  refine enter Tryd.func3 rfl (Mem.nil w []) rfl ?_
  obtain ⟨ib, hz⟩ : ∃ ib : Nat, z % 256 = (ib : Int) := ⟨(z % 256).toNat, by omega⟩
  (repeat refine RC.seq ?_); refine RC.region ?_
  refine Run.mk rfl rfl rfl (New.boxA rfl rfl) ?_
  intro b3
  refine Run.mk rfl rfl rfl (New.boxA rfl rfl) ?_
  intro b5
  refine Run.v rfl rfl rfl (Val.of rfl) ?_
  refine Run.nil (RQ.next ?_)
  (repeat refine RC.seq ?_); refine RC.region ?_
  refine Run.callV Tryd.func12 rfl rfl rfl rfl rfl rfl rfl (fun w' hm => lam_awake_calls w' (hK.fr hm.fr (by simp))) ?_
  refine Run.v rfl rfl rfl (Val.of rfl) ?_
  refine Run.nil (RQ.next ?_)
  (repeat refine RC.seq ?_); refine RC.condF rfl rfl (RC.skip (RQ.next ?_))
  (repeat refine RC.seq ?_); refine RC.region ?_
  refine Run.v rfl rfl rfl (Val.loadU tabOk rfl rfl rfl rfl m1 hs) ?_
  refine Run.v rfl rfl rfl (Val.of rfl) ?_
  refine Run.op rfl (OpTo.callNew Tryd.func13 rfl rfl rfl rfl rfl rfl (fun w' hm => Make_calls seed hs hlt z ib hz w' (hK.fr hm.fr (by simp)))) ?_
  intro kb
  refine Run.v rfl rfl rfl (Val.of rfl) ?_
  refine Run.nil (RQ.next ?_)
  (repeat refine RC.seq ?_); refine RC.region ?_
  refine Run.v rfl rfl rfl (Val.of rfl) ?_
  refine Run.v rfl rfl rfl (Val.ptrNil tabOk rfl rfl rfl rfl rfl) ?_
  refine Run.nil (RQ.next ?_)
  (repeat refine RC.seq ?_); refine RC.condF rfl rfl (RC.skip (RQ.next ?_))
  have hol := rowOf_len (opened_len seed ib m) 16
  have hsl := rowOf_len (shutd_len seed ib m) 16
  have holt := rowOf_lt (opened_lt seed ib m) 16
  have hslt := rowOf_lt (shutd_lt seed ib m) 16
  have pe := pubBy_signed seed ib m
  have pd : (pubKey seed ib).length = 8 := digest_len _ _
  (repeat refine RC.seq ?_); refine RC.region ?_
  refine Run.v rfl rfl rfl (Val.of rfl) ?_
  refine Run.v rfl rfl rfl (Val.loadU tabOk rfl rfl rfl rfl m1 hm8) ?_
  refine Run.callV Tryd.func14 rfl rfl rfl rfl rfl rfl rfl (fun w' hm => Key_Sign_calls kb seed m ib hm8 hmlt w' (hK.fr hm.fr (by simp)) (hm.has _ m0)) ?_
  have rsc := fun w' => ref_Sign_calls seed m hs hlt hm8 hmlt z ib hz w'
  generalize rowOf (opened seed ib m) 16 = ro at *
  generalize rowOf (shutd seed ib m) 16 = rs at *
  refine Run.v rfl rfl rfl (Val.of rfl) ?_
  refine Run.v rfl rfl rfl (Val.of rfl) ?_
  refine Run.v rfl rfl rfl (Val.of rfl) ?_
  refine Run.mk rfl rfl rfl (New.alloc tabOk rfl rfl) ?_
  intro b8
  refine Run.mk rfl rfl rfl (New.alloc tabOk rfl rfl) ?_
  intro b9
  refine Run.op rfl (OpTo.setAll tabOk rfl rfl rfl rfl rfl p1 hol rfl) (fun _ => ?_)
  refine Run.op rfl (OpTo.setAll tabOk rfl rfl rfl rfl rfl p1 hsl rfl) (fun _ => ?_)
  refine Run.nil (RQ.next ?_)
  (repeat refine RC.seq ?_); refine RC.region ?_
  refine Run.v rfl rfl rfl (Val.loadU tabOk rfl rfl rfl rfl m4 hs) ?_
  refine Run.v rfl rfl rfl (Val.of rfl) ?_
  refine Run.v rfl rfl rfl (Val.loadU tabOk rfl rfl rfl rfl m3 hm8) ?_
  refine Run.callV Tryd.func15 rfl rfl rfl rfl rfl rfl rfl (fun w' _ => rsc w') ?_
  refine Run.v rfl rfl rfl (Val.of rfl) ?_
  refine Run.v rfl rfl rfl (Val.of rfl) ?_
  refine Run.v rfl rfl rfl (Val.of rfl) ?_
  refine Run.mk rfl rfl rfl (New.alloc tabOk rfl rfl) ?_
  intro b10
  refine Run.mk rfl rfl rfl (New.alloc tabOk rfl rfl) ?_
  intro b11
  refine Run.op rfl (OpTo.setAll tabOk rfl rfl rfl rfl rfl p1 hol rfl) (fun _ => ?_)
  refine Run.op rfl (OpTo.setAll tabOk rfl rfl rfl rfl rfl p1 hsl rfl) (fun _ => ?_)
  refine Run.nil (RQ.next ?_)
  (repeat refine RC.seq ?_); refine RC.drawS mixed (N := 27) rfl ?_
  refine DR.take 0 rfl (by repeat (first | exact List.nil_sublist _ | exact List.Sublist.refl _ | apply List.Sublist.cons_cons | apply List.Sublist.cons)) inferInstance (by kernel_rfl) (by kernel_rfl) (by kernel_rfl) (by kernel_rfl) rfl rfl (Wanted.plain rfl) (Val.loadU tabOk rfl rfl rfl rfl m3 hol) ?_
  refine DR.take 1 rfl (by repeat (first | exact List.nil_sublist _ | exact List.Sublist.refl _ | apply List.Sublist.cons_cons | apply List.Sublist.cons)) inferInstance (by kernel_rfl) (by kernel_rfl) (by kernel_rfl) (by kernel_rfl) rfl rfl (Wanted.plain rfl) (Val.loadU tabOk rfl rfl rfl rfl m1 hol) ?_
  refine DR.take 2 rfl (by repeat (first | exact List.nil_sublist _ | exact List.Sublist.refl _ | apply List.Sublist.cons_cons | apply List.Sublist.cons)) inferInstance (by kernel_rfl) (by kernel_rfl) (by kernel_rfl) (by kernel_rfl) rfl rfl (Wanted.plain rfl) (Val.eq (Val.eqU (m := 128) (a := ro) (b := ro) tabOk rfl rfl rfl (by kernel_rfl) (by kernel_rfl) rfl rfl hol hol) (show _ = Value.bool true from by simp)) ?_
  refine DR.take 3 rfl (by repeat (first | exact List.nil_sublist _ | exact List.Sublist.refl _ | apply List.Sublist.cons_cons | apply List.Sublist.cons)) inferInstance (by kernel_rfl) (by kernel_rfl) (by kernel_rfl) (by kernel_rfl) rfl rfl (Wanted.plain rfl) (Val.of rfl) ?_
  refine DR.take 4 rfl (by repeat (first | exact List.nil_sublist _ | exact List.Sublist.refl _ | apply List.Sublist.cons_cons | apply List.Sublist.cons)) inferInstance (by kernel_rfl) (by kernel_rfl) (by kernel_rfl) (by kernel_rfl) rfl rfl (Wanted.guard rfl rfl rfl rfl) (Val.loadU tabOk rfl rfl rfl rfl m2 hsl) ?_
  refine DR.take 5 rfl (by repeat (first | exact List.nil_sublist _ | exact List.Sublist.refl _ | apply List.Sublist.cons_cons | apply List.Sublist.cons)) inferInstance (by kernel_rfl) (by kernel_rfl) (by kernel_rfl) (by kernel_rfl) rfl rfl (Wanted.guard rfl rfl rfl rfl) (Val.loadU tabOk rfl rfl rfl rfl m0 hsl) ?_
  refine DR.take 6 rfl (by repeat (first | exact List.nil_sublist _ | exact List.Sublist.refl _ | apply List.Sublist.cons_cons | apply List.Sublist.cons)) inferInstance (by kernel_rfl) (by kernel_rfl) (by kernel_rfl) (by kernel_rfl) rfl rfl (Wanted.guard rfl rfl rfl rfl) (Val.eq (Val.eqU (m := 128) (a := rs) (b := rs) tabOk rfl rfl rfl (by kernel_rfl) (by kernel_rfl) rfl rfl hsl hsl) (show _ = Value.bool true from by simp)) ?_
  refine DR.take 7 rfl (by repeat (first | exact List.nil_sublist _ | exact List.Sublist.refl _ | apply List.Sublist.cons_cons | apply List.Sublist.cons)) inferInstance (by kernel_rfl) (by kernel_rfl) (by kernel_rfl) (by kernel_rfl) rfl rfl (Wanted.plain rfl) (Val.of rfl) ?_
  refine DR.take 8 rfl (by repeat (first | exact List.nil_sublist _ | exact List.Sublist.refl _ | apply List.Sublist.cons_cons | apply List.Sublist.cons)) inferInstance (by kernel_rfl) (by kernel_rfl) (by kernel_rfl) (by kernel_rfl) rfl rfl (Wanted.plain rfl) (Val.of rfl) ?_
  refine DR.take 9 rfl (by repeat (first | exact List.nil_sublist _ | exact List.Sublist.refl _ | apply List.Sublist.cons_cons | apply List.Sublist.cons)) inferInstance (by kernel_rfl) (by kernel_rfl) (by kernel_rfl) (by kernel_rfl) rfl rfl (Wanted.guard rfl rfl rfl rfl) (Val.of rfl) ?_
  refine DR.take 11 rfl (by repeat (first | exact List.nil_sublist _ | exact List.Sublist.refl _ | apply List.Sublist.cons_cons | apply List.Sublist.cons)) inferInstance (by kernel_rfl) (by kernel_rfl) (by kernel_rfl) (by kernel_rfl) rfl rfl (Wanted.guard rfl rfl rfl rfl) (Val.loadU tabOk rfl rfl rfl rfl m5 hm8) ?_
  refine DR.take 12 rfl (by repeat (first | exact List.nil_sublist _ | exact List.Sublist.refl _ | apply List.Sublist.cons_cons | apply List.Sublist.cons)) inferInstance (by kernel_rfl) (by kernel_rfl) (by kernel_rfl) (by kernel_rfl) rfl rfl (Wanted.guard rfl rfl rfl rfl) (Val.loadU tabOk rfl rfl rfl rfl m1 hol) ?_
  refine DR.take 13 rfl (by repeat (first | exact List.nil_sublist _ | exact List.Sublist.refl _ | apply List.Sublist.cons_cons | apply List.Sublist.cons)) inferInstance (by kernel_rfl) (by kernel_rfl) (by kernel_rfl) (by kernel_rfl) rfl rfl (Wanted.guard rfl rfl rfl rfl) (Val.loadU tabOk rfl rfl rfl rfl m0 hsl) ?_
  refine DR.one (i := 10) (by kernel_rfl) ?_
  refine DOp.op rfl (Wanted.guard rfl rfl rfl rfl) (OpTo.callV Tryd.func16 rfl rfl rfl rfl rfl rfl (fun w' hm => Key_Public_calls kb seed ib w' (hK.fr hm.fr (by simp)) (hm.has _ m4))) (.inl fun _ => by repeat (first | exact List.nil_sublist _ | exact List.Sublist.refl _ | apply List.Sublist.cons_cons | apply List.Sublist.cons)) (fun _ => ?_)
  refine DR.one (i := 14) (by kernel_rfl) ?_
  refine DOp.op rfl (Wanted.guard rfl rfl rfl rfl) (OpTo.callV Tryd.func17 rfl rfl rfl rfl rfl rfl (fun w' _ => ref_Public_calls m ro rs hm8 hmlt hol holt hsl hslt w')) (.inl fun _ => by repeat (first | exact List.nil_sublist _ | exact List.Sublist.refl _ | apply List.Sublist.cons_cons | apply List.Sublist.cons)) (fun _ => ?_)
  rw [pe]
  refine DR.take 15 rfl (by repeat (first | exact List.nil_sublist _ | exact List.Sublist.refl _ | apply List.Sublist.cons_cons | apply List.Sublist.cons)) inferInstance (by kernel_rfl) (by kernel_rfl) (by kernel_rfl) (by kernel_rfl) rfl rfl (Wanted.guard rfl rfl rfl rfl) (Val.eq (Val.eqU (m := 8) (a := pubKey seed ib) (b := pubKey seed ib) tabOk rfl rfl rfl (by kernel_rfl) (by kernel_rfl) rfl rfl pd pd) (show _ = Value.bool true from by simp)) ?_
  refine DR.take 16 rfl (by repeat (first | exact List.nil_sublist _ | exact List.Sublist.refl _ | apply List.Sublist.cons_cons | apply List.Sublist.cons)) inferInstance (by kernel_rfl) (by kernel_rfl) (by kernel_rfl) (by kernel_rfl) rfl rfl (Wanted.plain rfl) (Val.of rfl) ?_
  refine DR.take 17 rfl (by repeat (first | exact List.nil_sublist _ | exact List.Sublist.refl _ | apply List.Sublist.cons_cons | apply List.Sublist.cons)) inferInstance (by kernel_rfl) (by kernel_rfl) (by kernel_rfl) (by kernel_rfl) rfl rfl (Wanted.plain rfl) (Val.of rfl) ?_
  refine DR.take 18 rfl (by repeat (first | exact List.nil_sublist _ | exact List.Sublist.refl _ | apply List.Sublist.cons_cons | apply List.Sublist.cons)) inferInstance (by kernel_rfl) (by kernel_rfl) (by kernel_rfl) (by kernel_rfl) rfl rfl (Wanted.guard rfl rfl rfl rfl) (Val.loadU tabOk rfl rfl rfl rfl m5 hm8) ?_
  refine DR.take 19 rfl (by repeat (first | exact List.nil_sublist _ | exact List.Sublist.refl _ | apply List.Sublist.cons_cons | apply List.Sublist.cons)) inferInstance (by kernel_rfl) (by kernel_rfl) (by kernel_rfl) (by kernel_rfl) rfl rfl (Wanted.guard rfl rfl rfl rfl) (Val.loadU tabOk rfl rfl rfl rfl m3 hol) ?_
  refine DR.take 20 rfl (by repeat (first | exact List.nil_sublist _ | exact List.Sublist.refl _ | apply List.Sublist.cons_cons | apply List.Sublist.cons)) inferInstance (by kernel_rfl) (by kernel_rfl) (by kernel_rfl) (by kernel_rfl) rfl rfl (Wanted.guard rfl rfl rfl rfl) (Val.loadU tabOk rfl rfl rfl rfl m2 hsl) ?_
  refine DR.take 22 rfl (by repeat (first | exact List.nil_sublist _ | exact List.Sublist.refl _ | apply List.Sublist.cons_cons | apply List.Sublist.cons)) inferInstance (by kernel_rfl) (by kernel_rfl) (by kernel_rfl) (by kernel_rfl) rfl rfl (Wanted.guard rfl rfl rfl rfl) (Val.of rfl) ?_
  refine DR.one (i := 21) (by kernel_rfl) ?_
  refine DOp.op rfl (Wanted.guard rfl rfl rfl rfl) (OpTo.callV Tryd.func18 rfl rfl rfl rfl rfl rfl (fun w' hm => lam_Public_calls m ro rs hm8 hmlt hol holt hsl hslt w' (hK.fr hm.fr (by simp)))) (.inl fun _ => by repeat (first | exact List.nil_sublist _ | exact List.Sublist.refl _ | apply List.Sublist.cons_cons | apply List.Sublist.cons)) (fun _ => ?_)
  rw [pe]
  refine DR.one (i := 23) (by kernel_rfl) ?_
  refine DOp.op rfl (Wanted.guard rfl rfl rfl rfl) (OpTo.callV Tryd.func16 rfl rfl rfl rfl rfl rfl (fun w' hm => Key_Public_calls kb seed ib w' (hK.fr hm.fr (by simp)) (hm.has _ m4))) (.inl fun _ => by repeat (first | exact List.nil_sublist _ | exact List.Sublist.refl _ | apply List.Sublist.cons_cons | apply List.Sublist.cons)) (fun _ => ?_)
  refine DR.take 24 rfl (by repeat (first | exact List.nil_sublist _ | exact List.Sublist.refl _ | apply List.Sublist.cons_cons | apply List.Sublist.cons)) inferInstance (by kernel_rfl) (by kernel_rfl) (by kernel_rfl) (by kernel_rfl) rfl rfl (Wanted.guard rfl rfl rfl rfl) (Val.eq (Val.eqU (m := 8) (a := pubKey seed ib) (b := pubKey seed ib) tabOk rfl rfl rfl (by kernel_rfl) (by kernel_rfl) rfl rfl pd pd) (show _ = Value.bool true from by simp)) ?_
  refine DR.take 25 rfl (by repeat (first | exact List.nil_sublist _ | exact List.Sublist.refl _ | apply List.Sublist.cons_cons | apply List.Sublist.cons)) inferInstance (by kernel_rfl) (by kernel_rfl) (by kernel_rfl) (by kernel_rfl) rfl rfl (Wanted.plain rfl) (Val.of rfl) ?_
  refine DR.take 26 rfl (by repeat (first | exact List.nil_sublist _ | exact List.Sublist.refl _ | apply List.Sublist.cons_cons | apply List.Sublist.cons)) inferInstance (by kernel_rfl) (by kernel_rfl) (by kernel_rfl) (by kernel_rfl) rfl rfl (Wanted.plain rfl) (Val.of rfl) ?_
  refine DR.done (by kernel_rfl) (RQ.next ?_)
  refine RC.ret ?_; (repeat first | refine RQ.thenRet ?_ | refine RQ.blockRet ?_); exact RQ.ret1 rfl (Res.tmp rfl) fun w' hm => ⟨rfl, hm.fr⟩

theorem LamportReads_calls (m op sh : List Nat) (hm8 : m.length = 8) (hmlt : ∀ x ∈ m, x < 256) (hol : op.length = 128) (holt : ∀ x ∈ op, x < 256) (hsl : sh.length = 128) (hslt : ∀ x ∈ sh, x < 256) (w : World) (hK : Laid w) :
    Gives Tryd.prog 4 [.agg (u8s m).toArray, .agg (u8s op).toArray, .agg (u8s sh).toArray] (.bool true) w := by
  refine enter Tryd.func4 rfl (Mem.nil w []) rfl ?_
  have pd : (pubBy m op sh).length = 8 := digest_len _ _
  (repeat refine RC.seq ?_); refine RC.region ?_
  refine Run.mk rfl rfl rfl (New.boxA rfl rfl) ?_
  intro b3
  refine Run.mk rfl rfl rfl (New.boxA rfl rfl) ?_
  intro b4
  refine Run.mk rfl rfl rfl (New.boxA rfl rfl) ?_
  intro b5
  refine Run.v rfl rfl rfl (Val.of rfl) ?_
  refine Run.nil (RQ.next ?_)
  (repeat refine RC.seq ?_); refine RC.region ?_
  refine Run.callV Tryd.func12 rfl rfl rfl rfl rfl rfl rfl (fun w' hm => lam_awake_calls w' (hK.fr hm.fr (by simp))) ?_
  refine Run.v rfl rfl rfl (Val.of rfl) ?_
  refine Run.nil (RQ.next ?_)
  (repeat refine RC.seq ?_); refine RC.condF rfl rfl (RC.skip (RQ.next ?_))
  (repeat refine RC.seq ?_); refine RC.drawS mixed (N := 10) rfl ?_
  refine DR.take 0 rfl (by repeat (first | exact List.nil_sublist _ | exact List.Sublist.refl _ | apply List.Sublist.cons_cons | apply List.Sublist.cons)) inferInstance (by kernel_rfl) (by kernel_rfl) (by kernel_rfl) (by kernel_rfl) rfl rfl (Wanted.plain rfl) (Val.loadU tabOk rfl rfl rfl rfl m2 hm8) ?_
  refine DR.take 1 rfl (by repeat (first | exact List.nil_sublist _ | exact List.Sublist.refl _ | apply List.Sublist.cons_cons | apply List.Sublist.cons)) inferInstance (by kernel_rfl) (by kernel_rfl) (by kernel_rfl) (by kernel_rfl) rfl rfl (Wanted.plain rfl) (Val.loadU tabOk rfl rfl rfl rfl m1 hol) ?_
  refine DR.take 2 rfl (by repeat (first | exact List.nil_sublist _ | exact List.Sublist.refl _ | apply List.Sublist.cons_cons | apply List.Sublist.cons)) inferInstance (by kernel_rfl) (by kernel_rfl) (by kernel_rfl) (by kernel_rfl) rfl rfl (Wanted.plain rfl) (Val.loadU tabOk rfl rfl rfl rfl m0 hsl) ?_
  refine DR.take 4 rfl (by repeat (first | exact List.nil_sublist _ | exact List.Sublist.refl _ | apply List.Sublist.cons_cons | apply List.Sublist.cons)) inferInstance (by kernel_rfl) (by kernel_rfl) (by kernel_rfl) (by kernel_rfl) rfl rfl (Wanted.plain rfl) (Val.loadU tabOk rfl rfl rfl rfl m2 hm8) ?_
  refine DR.take 5 rfl (by repeat (first | exact List.nil_sublist _ | exact List.Sublist.refl _ | apply List.Sublist.cons_cons | apply List.Sublist.cons)) inferInstance (by kernel_rfl) (by kernel_rfl) (by kernel_rfl) (by kernel_rfl) rfl rfl (Wanted.plain rfl) (Val.loadU tabOk rfl rfl rfl rfl m1 hol) ?_
  refine DR.take 6 rfl (by repeat (first | exact List.nil_sublist _ | exact List.Sublist.refl _ | apply List.Sublist.cons_cons | apply List.Sublist.cons)) inferInstance (by kernel_rfl) (by kernel_rfl) (by kernel_rfl) (by kernel_rfl) rfl rfl (Wanted.plain rfl) (Val.loadU tabOk rfl rfl rfl rfl m0 hsl) ?_
  refine DR.one (i := 3) (by kernel_rfl) ?_
  refine DOp.op rfl (Wanted.plain rfl) (OpTo.callV Tryd.func18 rfl rfl rfl rfl rfl rfl (fun w' hm => lam_Public_calls m op sh hm8 hmlt hol holt hsl hslt w' (hK.fr hm.fr (by simp)))) (.inl fun _ => (by repeat (first | exact List.nil_sublist _ | exact List.Sublist.refl _ | apply List.Sublist.cons_cons | apply List.Sublist.cons))) (fun _ => ?_)
  refine DR.one (i := 7) (by kernel_rfl) ?_
  refine DOp.op rfl (Wanted.plain rfl) (OpTo.callV Tryd.func17 rfl rfl rfl rfl rfl rfl (fun w' _ => ref_Public_calls m op sh hm8 hmlt hol holt hsl hslt w')) (.inl fun _ => (by repeat (first | exact List.nil_sublist _ | exact List.Sublist.refl _ | apply List.Sublist.cons_cons | apply List.Sublist.cons))) (fun _ => ?_)
  refine DR.take 8 rfl (by repeat (first | exact List.nil_sublist _ | exact List.Sublist.refl _ | apply List.Sublist.cons_cons | apply List.Sublist.cons)) inferInstance (by kernel_rfl) (by kernel_rfl) (by kernel_rfl) (by kernel_rfl) rfl rfl (Wanted.plain rfl) (Val.eq (Val.eqU (m := 8) (a := pubBy m op sh) (b := pubBy m op sh) tabOk rfl rfl rfl (by kernel_rfl) (by kernel_rfl) rfl rfl pd pd) (show _ = Value.bool true from by simp)) ?_
  refine DR.take 9 rfl (by repeat (first | exact List.nil_sublist _ | exact List.Sublist.refl _ | apply List.Sublist.cons_cons | apply List.Sublist.cons)) inferInstance (by kernel_rfl) (by kernel_rfl) (by kernel_rfl) (by kernel_rfl) rfl rfl (Wanted.plain rfl) (Val.of rfl) ?_
  refine DR.done (by kernel_rfl) (RQ.next ?_)
  refine RC.ret ?_; (repeat first | refine RQ.thenRet ?_ | refine RQ.blockRet ?_); exact RQ.ret1 rfl (Res.tmp rfl) fun w' hm => ⟨rfl, hm.fr⟩
end Go.Proofs.YtnkogpfmfmjhoaaDoor
