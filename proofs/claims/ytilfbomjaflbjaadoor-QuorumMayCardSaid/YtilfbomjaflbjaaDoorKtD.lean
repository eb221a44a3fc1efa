/- keytree's awake; KeytreeSigns. -/
import Derived.Test.YtilfbomjaflbjaaDoorKtC
namespace Go.Sha
def h8 (k : Nat) : List Nat := [k, 0, 0, 0, 0, 0, 0, 0]
theorem h8_lt {k : Nat} (h : k < 256) : ∀ x ∈ h8 k, x < 256 := by
  intro x hx
  simp only [h8, List.mem_cons, List.not_mem_nil, or_false] at hx
  omega
theorem sigC_app {z : Int} {op sh pa : List Nat} : sigC z op sh pa = .int .i64 z :: u8s (op ++ (sh ++ pa)) := by unfold sigC; rw [u8s_app, u8s_app]
theorem sigC_kinds {z : Int} {op sh pa : List Nat} (h1 : op.length = 128) (h2 : sh.length = 128) (h3 : pa.length = 24) : Go.Vc.HasK (.i64 :: List.replicate 280 .u8) (sigC z op sh pa) := by
  rw [sigC_app]
  exact .cons _ _ (Go.Vc.HasK.u8n (by rw [List.length_append, List.length_append, h1, h2, h3]))
theorem sgo_kinds (seed m : List Nat) {i : Nat} (h : i < 8) : Go.Vc.HasK (.i64 :: List.replicate 280 .u8) (sgo seed i m) := sigC_kinds (rowOf_len (opened_len _ _ _) 16) (rowOf_len (shutd_len _ _ _) 16) (wayOf_flat seed h)
theorem sgz_kinds : Go.Vc.HasK (.i64 :: List.replicate 280 .u8) sgz := sigC_kinds (by simp) (by simp) (by simp)
theorem sgN_kinds (seed m : List Nat) (z : Int) : Go.Vc.HasK (.i64 :: List.replicate 280 .u8) (sgN seed z m) := by
  unfold sgN
  split
  · exact sgo_kinds seed m (by omega)
  · exact sgz_kinds
theorem sgN_one (seed m : List Nat) (z : Int) : ∀ u ∈ sgN seed z m, u.oneCell' = true := by
  unfold sgN
  split
  · exact sigC_one
  · exact sigC_one
end Go.Sha
namespace Go.Proofs.YtilfbomjaflbjaaDoor
open Go Go.Vc Go.Sha

theorem KCheck_sgo (root seed m : List Nat) {i : Nat} (hi : i < 8) (hr8 : root.length = 8) (hm8 : m.length = 8) (hmlt : ∀ x ∈ m, x < 256) (w : World) (hK : Laid w) :
    Gives Tryd.prog 17 [.agg (u8s root).toArray, .agg (u8s m).toArray, .agg (sgo seed i m).toArray] (.bool (checkT root m (i : Int) (rowOf (opened seed i m) 16) (rowOf (shutd seed i m) 16) (wayOf seed i).flatten)) w :=
  KCheck_calls root m i _ _ _ hr8 hm8 hmlt (rowOf_len (opened_len _ _ _) 16) (rowOf_lt (opened_lt _ _ _) 16) (rowOf_len (shutd_len _ _ _) 16) (rowOf_lt (shutd_lt _ _ _) 16) (wayOf_flat seed hi) (wayOf_HL seed i).flat_lt w hK
theorem KCheck_good (seed m : List Nat) {i : Nat} (hi : i < 8) (hm8 : m.length = 8) (hmlt : ∀ x ∈ m, x < 256) (w : World) (hK : Laid w) :
    Gives Tryd.prog 17 [.agg (u8s (treeOf seed)).toArray, .agg (u8s m).toArray, .agg (sgo seed i m).toArray] (.bool true) w := by
  have h := KCheck_sgo (treeOf seed) seed m hi (treeOf_len seed) hm8 hmlt w hK
  rw [checkT_signed seed m hi] at h
  exact h
theorem Sign_good (tb : Nat) (seed m : List Nat) {i : Nat} (hi : i < 8) (hm8 : m.length = 8) (hmlt : ∀ x ∈ m, x < 256) (w : World) (hT : TreeW 88 65 w tb seed) (hK : Laid w) :
    Gives Tryd.prog 13 [.pointer (some ⟨tb, 0, none⟩), .int .i64 (i : Int), .agg (u8s m).toArray] (.tuple #[.agg (sgo seed i m).toArray, .bool true]) w := by
  have h := Tree_Sign_calls tb seed m hm8 hmlt (i : Int) w hT hK
  obtain ⟨e1, e2⟩ := sg_good seed m hi
  rw [e1, e2] at h
  exact h
theorem Sign_bad (tb : Nat) (seed m : List Nat) {z : Int} (hz : z < 0 ∨ 8 ≤ z) (hm8 : m.length = 8) (hmlt : ∀ x ∈ m, x < 256) (w : World) (hT : TreeW 88 65 w tb seed) (hK : Laid w) :
    Gives Tryd.prog 13 [.pointer (some ⟨tb, 0, none⟩), .int .i64 z, .agg (u8s m).toArray] (.tuple #[.agg sgz.toArray, .bool false]) w := by
  have h := Tree_Sign_calls tb seed m hm8 hmlt z w hT hK
  obtain ⟨e1, e2⟩ := sg_bad seed m hz
  rw [e1, e2] at h
  exact h

set_option maxRecDepth 10000 in
theorem kt_awake_calls (w : World) (hK : Laid w) : Gives Tryd.prog 11 [] (.bool true) w := by
  refine enter Tryd.func11 rfl (Mem.nil w []) rfl ?_
  have hN := fun w' hK' => New_calls (h8 1) rfl (h8_lt (by decide)) w' hK'
  have hS := fun tb w' hT hK' => Sign_good tb (h8 1) (h8 7) (i := 2) (by decide) rfl (h8_lt (by decide)) w' hT hK'
  have hS8 := fun tb w' hT hK' => Sign_bad tb (h8 1) (h8 7) (z := 8) (.inr (by decide)) rfl (h8_lt (by decide)) w' hT hK'
  have hC := fun w' hK' => KCheck_good (h8 1) (h8 7) (i := 2) (by decide) rfl (h8_lt (by decide)) w' hK'
  have hR := fun tb w' hT hK' => Tree_Root_calls tb (h8 1) w' hT hK'
  have hrl := treeOf_len (h8 1)
  have hsl := sgo_len (h8 1) (h8 7) (i := 2) (by decide)
  have hone : ∀ u ∈ sgo (h8 1) 2 (h8 7), u.oneCell' = true := sigC_one
  generalize sgo (h8 1) 2 (h8 7) = sg at *
  generalize treeOf (h8 1) = rt at *
  (repeat refine RC.seq ?_); refine RC.region ?_
  refine Run.v rfl rfl rfl (Val.of rfl) ?_
  refine Run.nil (RQ.next ?_)
  (repeat refine RC.seq ?_); refine RC.region ?_
  refine Run.v rfl rfl rfl (Val.buildA tabOk (parts := [(0, .const (.int .u8 1))]) (cells := (u8s (h8 1)).toArray) rfl rfl rfl rfl rfl rfl) ?_
  refine Run.op rfl (OpTo.callTree Tryd.func12 rfl rfl rfl rfl rfl rfl (fun w' hm => hN w' (hK.fr hm.fr (by simp)))) ?_
  rintro ⟨⟨tb, bl⟩, hown⟩
  dsimp only at hown ⊢
  refine Run.v rfl rfl rfl (Val.of rfl) ?_
  refine Run.nil (RQ.next ?_)
  (repeat refine RC.seq ?_); refine RC.region ?_
  refine Run.v rfl rfl rfl (Val.of rfl) ?_
  refine Run.v rfl rfl rfl (Val.ptrNil tabOk rfl rfl rfl rfl rfl) ?_
  refine Run.nil (RQ.next ?_)
  (repeat refine RC.seq ?_); refine RC.condF rfl rfl (RC.skip (RQ.next ?_))
  (repeat refine RC.seq ?_); refine RC.region ?_
  refine Run.v rfl rfl rfl (Val.of rfl) ?_
  refine Run.v rfl rfl rfl (Val.buildA tabOk (parts := [(0, .const (.int .u8 7))]) (cells := (u8s (h8 7)).toArray) rfl rfl rfl rfl rfl rfl) ?_
  refine Run.callV Tryd.func13 rfl rfl rfl rfl rfl rfl rfl (fun w' hm => hS tb w' (hown w' (fun q hq => hm.has q (List.mem_append_left _ hq))) (hK.fr hm.fr (by simp))) ?_
  refine Run.v rfl rfl rfl (Val.of rfl) ?_
  refine Run.v rfl rfl rfl (Val.of rfl) ?_
  refine Run.v rfl rfl rfl (Val.of rfl) ?_
  refine Run.mk rfl rfl rfl (New.allocTo tabOk (cs := sgz.toArray) rfl rfl (by kernel_rfl)) ?_
  intro b2
  refine Run.op rfl (OpTo.setV tabOk [] sgz sg [] rfl rfl rfl rfl rfl (List.Perm.refl _) rfl (by simp) rfl (by rw [sgz_len, hsl]) (by rw [hsl]; rfl) hone) (fun _ => ?_)
  rw [List.nil_append, List.append_nil]
  refine Run.v rfl rfl rfl (Val.of rfl) ?_
  refine Run.nil (RQ.next ?_)
  (repeat refine RC.seq ?_); refine RC.region ?_
  refine Run.v rfl rfl rfl (Val.of rfl) ?_
  refine Run.v rfl rfl rfl (Val.buildA tabOk (parts := [(0, .const (.int .u8 7))]) (cells := (u8s (h8 7)).toArray) rfl rfl rfl rfl rfl rfl) ?_
  refine Run.callV Tryd.func13 rfl rfl rfl rfl rfl rfl rfl (fun w' hm => hS8 tb w' (hown w' (fun q hq => hm.has q (List.mem_cons_of_mem _ (List.mem_append_left _ hq)))) (hK.fr hm.fr (by simp))) ?_
  refine Run.v rfl rfl rfl (Val.of rfl) ?_
  refine Run.v rfl rfl rfl (Val.of rfl) ?_
  refine Run.v rfl rfl rfl (Val.of rfl) ?_
  refine Run.mk rfl rfl rfl (New.allocTo tabOk (cs := sgz.toArray) rfl rfl (by kernel_rfl)) ?_
  intro b4
  refine Run.op rfl (OpTo.setV tabOk [] sgz sgz [] rfl rfl rfl rfl rfl (List.Perm.refl _) rfl (by simp) rfl rfl rfl sigC_one) (fun _ => ?_)
  rw [List.nil_append, List.append_nil]
  refine Run.v rfl rfl rfl (Val.of rfl) ?_
  refine Run.nil (RQ.next ?_)
  (repeat refine RC.seq ?_); refine RC.drawS mixed (N := 17) rfl ?_
  refine DR.take 0 rfl (by repeat (first | exact List.nil_sublist _ | exact List.Sublist.refl _ | apply List.Sublist.cons_cons | apply List.Sublist.cons | apply Go.Vc.subApp)) inferInstance (by kernel_rfl) (by kernel_rfl) (by kernel_rfl) (by kernel_rfl) rfl rfl (Wanted.plain rfl) (Val.of rfl) ?_
  refine DR.take 1 rfl (by repeat (first | exact List.nil_sublist _ | exact List.Sublist.refl _ | apply List.Sublist.cons_cons | apply List.Sublist.cons | apply Go.Vc.subApp)) inferInstance (by kernel_rfl) (by kernel_rfl) (by kernel_rfl) (by kernel_rfl) rfl rfl (Wanted.plain rfl) (Val.of rfl) ?_
  refine DR.take 2 rfl (by repeat (first | exact List.nil_sublist _ | exact List.Sublist.refl _ | apply List.Sublist.cons_cons | apply List.Sublist.cons | apply Go.Vc.subApp)) inferInstance (by kernel_rfl) (by kernel_rfl) (by kernel_rfl) (by kernel_rfl) rfl rfl (Wanted.guard rfl rfl rfl rfl) (Val.of rfl) ?_
  refine DR.take 3 rfl (by repeat (first | exact List.nil_sublist _ | exact List.Sublist.refl _ | apply List.Sublist.cons_cons | apply List.Sublist.cons | apply Go.Vc.subApp)) inferInstance (by kernel_rfl) (by kernel_rfl) (by kernel_rfl) (by kernel_rfl) rfl rfl (Wanted.guard rfl rfl rfl rfl) (Val.of rfl) ?_
  refine DR.take 4 rfl (by repeat (first | exact List.nil_sublist _ | exact List.Sublist.refl _ | apply List.Sublist.cons_cons | apply List.Sublist.cons | apply Go.Vc.subApp)) inferInstance (by kernel_rfl) (by kernel_rfl) (by kernel_rfl) (by kernel_rfl) rfl rfl (Wanted.plain rfl) (Val.of rfl) ?_
  refine DR.take 5 rfl (by repeat (first | exact List.nil_sublist _ | exact List.Sublist.refl _ | apply List.Sublist.cons_cons | apply List.Sublist.cons | apply Go.Vc.subApp)) inferInstance (by kernel_rfl) (by kernel_rfl) (by kernel_rfl) (by kernel_rfl) rfl rfl (Wanted.plain rfl) (Val.of rfl) ?_
  refine DR.take 6 rfl (by repeat (first | exact List.nil_sublist _ | exact List.Sublist.refl _ | apply List.Sublist.cons_cons | apply List.Sublist.cons | apply Go.Vc.subApp)) inferInstance (by kernel_rfl) (by kernel_rfl) (by kernel_rfl) (by kernel_rfl) rfl rfl (Wanted.guard rfl rfl rfl rfl) (Val.of rfl) ?_
  refine DR.take 8 rfl (by repeat (first | exact List.nil_sublist _ | exact List.Sublist.refl _ | apply List.Sublist.cons_cons | apply List.Sublist.cons | apply Go.Vc.subApp)) inferInstance (by kernel_rfl) (by kernel_rfl) (by kernel_rfl) (by kernel_rfl) rfl rfl (Wanted.guard rfl rfl rfl rfl) (Val.buildA tabOk (parts := [(0, .const (.int .u8 7))]) (cells := (u8s (h8 7)).toArray) rfl rfl rfl rfl rfl rfl) ?_
  refine DR.take 9 rfl (by repeat (first | exact List.nil_sublist _ | exact List.Sublist.refl _ | apply List.Sublist.cons_cons | apply List.Sublist.cons | apply Go.Vc.subApp)) inferInstance (by kernel_rfl) (by kernel_rfl) (by kernel_rfl) (by kernel_rfl) rfl rfl (Wanted.guard rfl rfl rfl rfl) (Val.loadAll tabOk rfl rfl rfl rfl m1 (by rw [List.size_toArray, hsl]; rfl)) ?_
  refine DR.one (i := 7) (by kernel_rfl) ?_
  refine DOp.op rfl (Wanted.guard rfl rfl rfl rfl) (OpTo.callV Tryd.func15 rfl rfl rfl rfl rfl rfl (fun w' hm => hR tb w' (hown w' (fun q hq => hm.has q (List.mem_cons_of_mem _ (List.mem_cons_of_mem _ (List.mem_append_left _ hq))))) (hK.fr hm.fr (by simp)))) (.inl fun _ => by repeat (first | exact List.nil_sublist _ | exact List.Sublist.refl _ | apply List.Sublist.cons_cons | apply List.Sublist.cons | apply Go.Vc.subApp)) (fun _ => ?_)
  refine DR.one (i := 10) (by kernel_rfl) ?_
  refine DOp.op rfl (Wanted.guard rfl rfl rfl rfl) (OpTo.callV Tryd.func17 rfl rfl rfl rfl rfl rfl (fun w' hm => hC w' (hK.fr hm.fr (by simp)))) (.inl fun _ => by repeat (first | exact List.nil_sublist _ | exact List.Sublist.refl _ | apply List.Sublist.cons_cons | apply List.Sublist.cons | apply Go.Vc.subApp)) (fun _ => ?_)
  refine DR.take 11 rfl (by repeat (first | exact List.nil_sublist _ | exact List.Sublist.refl _ | apply List.Sublist.cons_cons | apply List.Sublist.cons | apply Go.Vc.subApp)) inferInstance (by kernel_rfl) (by kernel_rfl) (by kernel_rfl) (by kernel_rfl) rfl rfl (Wanted.plain rfl) (Val.of rfl) ?_
  refine DR.take 12 rfl (by repeat (first | exact List.nil_sublist _ | exact List.Sublist.refl _ | apply List.Sublist.cons_cons | apply List.Sublist.cons | apply Go.Vc.subApp)) inferInstance (by kernel_rfl) (by kernel_rfl) (by kernel_rfl) (by kernel_rfl) rfl rfl (Wanted.plain rfl) (Val.of rfl) ?_
  refine DR.one (i := 13) (by kernel_rfl) ?_
  refine DOp.op rfl (Wanted.guard rfl rfl rfl rfl) (OpTo.callV Tryd.func19 rfl rfl rfl rfl rfl rfl (fun w' _ => Times_calls w')) (.inl fun _ => by repeat (first | exact List.nil_sublist _ | exact List.Sublist.refl _ | apply List.Sublist.cons_cons | apply List.Sublist.cons | apply Go.Vc.subApp)) (fun _ => ?_)
  refine DR.take 14 rfl (by repeat (first | exact List.nil_sublist _ | exact List.Sublist.refl _ | apply List.Sublist.cons_cons | apply List.Sublist.cons | apply Go.Vc.subApp)) inferInstance (by kernel_rfl) (by kernel_rfl) (by kernel_rfl) (by kernel_rfl) rfl rfl (Wanted.guard rfl rfl rfl rfl) (Val.of rfl) ?_
  refine DR.take 15 rfl (by repeat (first | exact List.nil_sublist _ | exact List.Sublist.refl _ | apply List.Sublist.cons_cons | apply List.Sublist.cons | apply Go.Vc.subApp)) inferInstance (by kernel_rfl) (by kernel_rfl) (by kernel_rfl) (by kernel_rfl) rfl rfl (Wanted.plain rfl) (Val.of rfl) ?_
  refine DR.take 16 rfl (by repeat (first | exact List.nil_sublist _ | exact List.Sublist.refl _ | apply List.Sublist.cons_cons | apply List.Sublist.cons | apply Go.Vc.subApp)) inferInstance (by kernel_rfl) (by kernel_rfl) (by kernel_rfl) (by kernel_rfl) rfl rfl (Wanted.plain rfl) (Val.of rfl) ?_
  refine DR.done (by kernel_rfl) (RQ.next ?_)
  refine RC.ret ?_; (repeat first | refine RQ.thenRet ?_ | refine RQ.blockRet ?_); exact RQ.ret1 rfl (Res.tmp rfl) fun w' hm => ⟨rfl, hm.fr⟩

set_option maxRecDepth 10000 in
theorem KeytreeSigns_calls (seed m : List Nat) (hs : seed.length = 8) (hlt : ∀ x ∈ seed, x < 256) (hm8 : m.length = 8) (hmlt : ∀ x ∈ m, x < 256) (z : Int) (w : World) (hK : Laid w) :
    Gives Tryd.prog 3 [.agg (u8s seed).toArray, .int .i64 z, .agg (u8s m).toArray] (.bool true) w := by
  refine enter Tryd.func3 rfl (Mem.nil w []) rfl ?_
  have hN := fun w' hK' => New_calls seed hs hlt w' hK'
  have hS := fun tb w' hT hK' => Tree_Sign_calls tb seed m hm8 hmlt z w' hT hK'
  have hS2 := fun w' => SignTree_calls seed m hs hlt hm8 hmlt z w'
  have hR := fun tb w' hT hK' => Tree_Root_calls tb seed w' hT hK'
  have hT2 := fun w' => ref_Tree_calls seed hs hlt w'
  have hC := fun (hB : sgB z = true) w' (hK' : Laid w') => show Gives Tryd.prog 17 [.agg (u8s (treeOf seed)).toArray, .agg (u8s m).toArray, .agg (sgN seed z m).toArray] (.bool true) w' from by
    have h2 := of_decide_eq_true hB
    obtain ⟨i, rfl⟩ := Int.eq_ofNat_of_zero_le h2.1
    have hi : i < 8 := by omega
    rw [(sg_good seed m hi).1]
    exact KCheck_good seed m hi hm8 hmlt w' hK'
  have hrl := treeOf_len seed
  have hsl := sgN_len seed m z
  have hone := sgN_one seed m z
  have hkk := sgN_kinds seed m z
  generalize sgN seed z m = sg at *
  generalize treeOf seed = rt at *
  generalize sgB z = ok at *
  (repeat refine RC.seq ?_); refine RC.region ?_
  refine Run.mk rfl rfl rfl (New.boxA rfl rfl) ?_
  intro b3
  refine Run.mk rfl rfl rfl (New.boxA rfl rfl) ?_
  intro b5
  refine Run.v rfl rfl rfl (Val.of rfl) ?_
  refine Run.nil (RQ.next ?_)
  (repeat refine RC.seq ?_); refine RC.region ?_
  refine Run.callV Tryd.func11 rfl rfl rfl rfl rfl rfl rfl (fun w' hm => kt_awake_calls w' (hK.fr hm.fr (by simp))) ?_
  refine Run.v rfl rfl rfl (Val.of rfl) ?_
  refine Run.nil (RQ.next ?_)
  (repeat refine RC.seq ?_); refine RC.condF rfl rfl (RC.skip (RQ.next ?_))
  (repeat refine RC.seq ?_); refine RC.region ?_
  refine Run.v rfl rfl rfl (Val.loadU tabOk rfl rfl rfl rfl (by repeat (first | exact List.mem_cons_self | apply List.mem_cons_of_mem | apply List.mem_append_right)) hs) ?_
  refine Run.op rfl (OpTo.callTree Tryd.func12 rfl rfl rfl rfl rfl rfl (fun w' hm => hN w' (hK.fr hm.fr (by simp)))) ?_
  rintro ⟨⟨tb, bl⟩, hown⟩
  dsimp only at hown ⊢
  refine Run.v rfl rfl rfl (Val.of rfl) ?_
  refine Run.nil (RQ.next ?_)
  (repeat refine RC.seq ?_); refine RC.region ?_
  refine Run.v rfl rfl rfl (Val.of rfl) ?_
  refine Run.v rfl rfl rfl (Val.ptrNil tabOk rfl rfl rfl rfl rfl) ?_
  refine Run.nil (RQ.next ?_)
  (repeat refine RC.seq ?_); refine RC.condF rfl rfl (RC.skip (RQ.next ?_))
  (repeat refine RC.seq ?_); refine RC.region ?_
  refine Run.v rfl rfl rfl (Val.of rfl) ?_
  refine Run.v rfl rfl rfl (Val.of rfl) ?_
  refine Run.v rfl rfl rfl (Val.loadU tabOk rfl rfl rfl rfl (by repeat (first | exact List.mem_cons_self | apply List.mem_cons_of_mem | apply List.mem_append_right)) hm8) ?_
  refine Run.callV Tryd.func13 rfl rfl rfl rfl rfl rfl rfl (fun w' hm => hS tb w' (hown w' (fun q hq => hm.has q (List.mem_append_left _ hq))) (hK.fr hm.fr (by simp))) ?_
  refine Run.v rfl rfl rfl (Val.of rfl) ?_
  refine Run.v rfl rfl rfl (Val.of rfl) ?_
  refine Run.v rfl rfl rfl (Val.of rfl) ?_
  refine Run.mk rfl rfl rfl (New.allocTo tabOk (cs := sgz.toArray) rfl rfl (by kernel_rfl)) ?_
  intro b8
  refine Run.op rfl (OpTo.setV tabOk [] sgz sg [] rfl rfl rfl rfl rfl (List.Perm.refl _) rfl (by simp) rfl (by rw [sgz_len, hsl]) (by rw [hsl]; rfl) hone) (fun _ => ?_)
  rw [List.nil_append, List.append_nil]
  refine Run.v rfl rfl rfl (Val.of rfl) ?_
  refine Run.nil (RQ.next ?_)
  (repeat refine RC.seq ?_); refine RC.region ?_
  refine Run.v rfl rfl rfl (Val.loadU tabOk rfl rfl rfl rfl (by repeat (first | exact List.mem_cons_self | apply List.mem_cons_of_mem | apply List.mem_append_right)) hs) ?_
  refine Run.v rfl rfl rfl (Val.of rfl) ?_
  refine Run.v rfl rfl rfl (Val.loadU tabOk rfl rfl rfl rfl (by repeat (first | exact List.mem_cons_self | apply List.mem_cons_of_mem | apply List.mem_append_right)) hm8) ?_
  refine Run.callV Tryd.func14 rfl rfl rfl rfl rfl rfl rfl (fun w' _ => hS2 w') ?_
  refine Run.v rfl rfl rfl (Val.of rfl) ?_
  refine Run.v rfl rfl rfl (Val.of rfl) ?_
  refine Run.v rfl rfl rfl (Val.of rfl) ?_
  refine Run.mk rfl rfl rfl (New.allocTo tabOk (cs := sgz.toArray) rfl rfl (by kernel_rfl)) ?_
  intro b10
  refine Run.op rfl (OpTo.setV tabOk [] sgz sg [] rfl rfl rfl rfl rfl (List.Perm.refl _) rfl (by simp) rfl (by rw [sgz_len, hsl]) (by rw [hsl]; rfl) hone) (fun _ => ?_)
  rw [List.nil_append, List.append_nil]
  refine Run.v rfl rfl rfl (Val.of rfl) ?_
  refine Run.nil (RQ.next ?_)
  (repeat refine RC.seq ?_); refine RC.drawS mixed (N := 27) rfl ?_
  refine DR.take 0 rfl (by repeat (first | exact List.nil_sublist _ | exact List.Sublist.refl _ | apply List.Sublist.cons_cons | apply List.Sublist.cons | apply Go.Vc.subApp)) inferInstance (by kernel_rfl) (by kernel_rfl) (by kernel_rfl) (by kernel_rfl) rfl rfl (Wanted.plain rfl) (Val.of rfl) ?_
  refine DR.take 1 rfl (by repeat (first | exact List.nil_sublist _ | exact List.Sublist.refl _ | apply List.Sublist.cons_cons | apply List.Sublist.cons | apply Go.Vc.subApp)) inferInstance (by kernel_rfl) (by kernel_rfl) (by kernel_rfl) (by kernel_rfl) rfl rfl (Wanted.plain rfl) (Val.of rfl) ?_
  refine DR.take 2 rfl (by repeat (first | exact List.nil_sublist _ | exact List.Sublist.refl _ | apply List.Sublist.cons_cons | apply List.Sublist.cons | apply Go.Vc.subApp)) inferInstance (by kernel_rfl) (by kernel_rfl) (by kernel_rfl) (by kernel_rfl) rfl rfl (Wanted.plain rfl) (Val.eq (Val.eqBool tabOk rfl rfl rfl rfl rfl) (show _ = Value.bool true from by cases ok <;> rfl)) ?_
  refine DR.take 3 rfl (by repeat (first | exact List.nil_sublist _ | exact List.Sublist.refl _ | apply List.Sublist.cons_cons | apply List.Sublist.cons | apply Go.Vc.subApp)) inferInstance (by kernel_rfl) (by kernel_rfl) (by kernel_rfl) (by kernel_rfl) rfl rfl (Wanted.plain rfl) (Val.of rfl) ?_
  refine DR.take 4 rfl (by repeat (first | exact List.nil_sublist _ | exact List.Sublist.refl _ | apply List.Sublist.cons_cons | apply List.Sublist.cons | apply Go.Vc.subApp)) inferInstance (by kernel_rfl) (by kernel_rfl) (by kernel_rfl) (by kernel_rfl) rfl rfl (Wanted.guard rfl rfl rfl rfl) (Val.loadAll tabOk rfl rfl rfl rfl m1 (by rw [List.size_toArray, hsl]; rfl)) ?_
  refine DR.take 5 rfl (by repeat (first | exact List.nil_sublist _ | exact List.Sublist.refl _ | apply List.Sublist.cons_cons | apply List.Sublist.cons | apply Go.Vc.subApp)) inferInstance (by kernel_rfl) (by kernel_rfl) (by kernel_rfl) (by kernel_rfl) rfl rfl (Wanted.guard rfl rfl rfl rfl) (Val.loadAll tabOk rfl rfl rfl rfl m0 (by rw [List.size_toArray, hsl]; rfl)) ?_
  refine DR.take 6 rfl (by repeat (first | exact List.nil_sublist _ | exact List.Sublist.refl _ | apply List.Sublist.cons_cons | apply List.Sublist.cons | apply Go.Vc.subApp)) inferInstance (by kernel_rfl) (by kernel_rfl) (by kernel_rfl) (by kernel_rfl) rfl rfl (Wanted.guard rfl rfl rfl rfl) (Val.eqC (p := true) tabOk rfl rfl rfl (by kernel_rfl) (by kernel_rfl) rfl rfl hkk hkk ⟨fun _ => rfl, fun _ => rfl⟩) ?_
  refine DR.take 7 rfl (by repeat (first | exact List.nil_sublist _ | exact List.Sublist.refl _ | apply List.Sublist.cons_cons | apply List.Sublist.cons | apply Go.Vc.subApp)) inferInstance (by kernel_rfl) (by kernel_rfl) (by kernel_rfl) (by kernel_rfl) rfl rfl (Wanted.plain rfl) (Val.of rfl) ?_
  refine DR.take 8 rfl (by repeat (first | exact List.nil_sublist _ | exact List.Sublist.refl _ | apply List.Sublist.cons_cons | apply List.Sublist.cons | apply Go.Vc.subApp)) inferInstance (by kernel_rfl) (by kernel_rfl) (by kernel_rfl) (by kernel_rfl) rfl rfl (Wanted.plain rfl) (Val.of rfl) ?_
  refine DR.take 9 rfl (by repeat (first | exact List.nil_sublist _ | exact List.Sublist.refl _ | apply List.Sublist.cons_cons | apply List.Sublist.cons | apply Go.Vc.subApp)) inferInstance (by kernel_rfl) (by kernel_rfl) (by kernel_rfl) (by kernel_rfl) rfl rfl (Wanted.guard rfl rfl rfl rfl) (Val.of rfl) ?_
  refine DR.take 11 rfl (by repeat (first | exact List.nil_sublist _ | exact List.Sublist.refl _ | apply List.Sublist.cons_cons | apply List.Sublist.cons | apply Go.Vc.subApp)) inferInstance (by kernel_rfl) (by kernel_rfl) (by kernel_rfl) (by kernel_rfl) rfl rfl (Wanted.guard rfl rfl rfl rfl) (Val.loadU tabOk rfl rfl rfl rfl (by repeat (first | exact List.mem_cons_self | apply List.mem_cons_of_mem | apply List.mem_append_right)) hs) ?_
  refine DR.one (i := 10) (by kernel_rfl) ?_
  refine DOp.op rfl (Wanted.guard rfl rfl rfl rfl) (OpTo.callV Tryd.func15 rfl rfl rfl rfl rfl rfl (fun w' hm => hR tb w' (hown w' (fun q hq => hm.has q (List.mem_cons_of_mem _ (List.mem_cons_of_mem _ (List.mem_append_left _ hq))))) (hK.fr hm.fr (by simp)))) (.inl fun _ => by repeat (first | exact List.nil_sublist _ | exact List.Sublist.refl _ | apply List.Sublist.cons_cons | apply List.Sublist.cons | apply Go.Vc.subApp)) (fun _ => ?_)
  refine DR.one (i := 12) (by kernel_rfl) ?_
  refine DOp.op rfl (Wanted.guard rfl rfl rfl rfl) (OpTo.callV Tryd.func16 rfl rfl rfl rfl rfl rfl (fun w' hm => hT2 w')) (.inl fun _ => by repeat (first | exact List.nil_sublist _ | exact List.Sublist.refl _ | apply List.Sublist.cons_cons | apply List.Sublist.cons | apply Go.Vc.subApp)) (fun _ => ?_)
  refine DR.take 13 rfl (by repeat (first | exact List.nil_sublist _ | exact List.Sublist.refl _ | apply List.Sublist.cons_cons | apply List.Sublist.cons | apply Go.Vc.subApp)) inferInstance (by kernel_rfl) (by kernel_rfl) (by kernel_rfl) (by kernel_rfl) rfl rfl (Wanted.guard rfl rfl rfl rfl) (Val.eq (Val.eqU (m := 8) (a := rt) (b := rt) tabOk rfl rfl rfl (by kernel_rfl) (by kernel_rfl) rfl rfl hrl hrl) (show _ = Value.bool true from by simp)) ?_
  refine DR.take 14 rfl (by repeat (first | exact List.nil_sublist _ | exact List.Sublist.refl _ | apply List.Sublist.cons_cons | apply List.Sublist.cons | apply Go.Vc.subApp)) inferInstance (by kernel_rfl) (by kernel_rfl) (by kernel_rfl) (by kernel_rfl) rfl rfl (Wanted.plain rfl) (Val.of rfl) ?_
  refine DR.take 15 rfl (by repeat (first | exact List.nil_sublist _ | exact List.Sublist.refl _ | apply List.Sublist.cons_cons | apply List.Sublist.cons | apply Go.Vc.subApp)) inferInstance (by kernel_rfl) (by kernel_rfl) (by kernel_rfl) (by kernel_rfl) rfl rfl (Wanted.plain rfl) (Val.of rfl) ?_
  refine DR.take 16 rfl (by repeat (first | exact List.nil_sublist _ | exact List.Sublist.refl _ | apply List.Sublist.cons_cons | apply List.Sublist.cons | apply Go.Vc.subApp)) inferInstance (by kernel_rfl) (by kernel_rfl) (by kernel_rfl) (by kernel_rfl) rfl rfl (Wanted.guard rfl rfl rfl rfl) (Val.of rfl) ?_
  refine DR.take 17 rfl (by repeat (first | exact List.nil_sublist _ | exact List.Sublist.refl _ | apply List.Sublist.cons_cons | apply List.Sublist.cons | apply Go.Vc.subApp)) inferInstance (by kernel_rfl) (by kernel_rfl) (by kernel_rfl) (by kernel_rfl) rfl rfl (Wanted.guard rfl rfl rfl rfl) (Val.of rfl) ?_
  cases ok
  · refine DR.take 18 rfl (by repeat (first | exact List.nil_sublist _ | exact List.Sublist.refl _ | apply List.Sublist.cons_cons | apply List.Sublist.cons | apply Go.Vc.subApp)) inferInstance (by kernel_rfl) (by kernel_rfl) (by kernel_rfl) (by kernel_rfl) rfl rfl (Wanted.guard rfl rfl rfl rfl) (Val.of rfl) ?_
    refine DR.pass 19 rfl (by repeat (first | exact List.nil_sublist _ | exact List.Sublist.refl _ | apply List.Sublist.cons_cons | apply List.Sublist.cons | apply Go.Vc.subApp)) inferInstance (by kernel_rfl) (by kernel_rfl) (by kernel_rfl) (by kernel_rfl) rfl rfl (Wanted.guard rfl rfl rfl rfl) ?_
    refine DR.pass 21 rfl (by repeat (first | exact List.nil_sublist _ | exact List.Sublist.refl _ | apply List.Sublist.cons_cons | apply List.Sublist.cons | apply Go.Vc.subApp)) inferInstance (by kernel_rfl) (by kernel_rfl) (by kernel_rfl) (by kernel_rfl) rfl rfl (Wanted.guard rfl rfl rfl rfl) ?_
    refine DR.pass 22 rfl (by repeat (first | exact List.nil_sublist _ | exact List.Sublist.refl _ | apply List.Sublist.cons_cons | apply List.Sublist.cons | apply Go.Vc.subApp)) inferInstance (by kernel_rfl) (by kernel_rfl) (by kernel_rfl) (by kernel_rfl) rfl rfl (Wanted.guard rfl rfl rfl rfl) ?_
    refine DR.one (i := 20) (by kernel_rfl) (DOp.pass rfl (.inl (by repeat (first | exact List.nil_sublist _ | exact List.Sublist.refl _ | apply List.Sublist.cons_cons | apply List.Sublist.cons | apply Go.Vc.subApp))) rfl rfl (Wanted.guard rfl rfl rfl rfl) ?_)
    refine DR.one (i := 23) (by kernel_rfl) (DOp.pass rfl (.inl (by repeat (first | exact List.nil_sublist _ | exact List.Sublist.refl _ | apply List.Sublist.cons_cons | apply List.Sublist.cons | apply Go.Vc.subApp))) rfl rfl (Wanted.guard rfl rfl rfl rfl) ?_)
    refine DR.take 24 rfl (by repeat (first | exact List.nil_sublist _ | exact List.Sublist.refl _ | apply List.Sublist.cons_cons | apply List.Sublist.cons | apply Go.Vc.subApp)) inferInstance (by kernel_rfl) (by kernel_rfl) (by kernel_rfl) (by kernel_rfl) rfl rfl (Wanted.guard rfl rfl rfl rfl) (Val.of rfl) ?_
    refine DR.take 25 rfl (by repeat (first | exact List.nil_sublist _ | exact List.Sublist.refl _ | apply List.Sublist.cons_cons | apply List.Sublist.cons | apply Go.Vc.subApp)) inferInstance (by kernel_rfl) (by kernel_rfl) (by kernel_rfl) (by kernel_rfl) rfl rfl (Wanted.plain rfl) (Val.of rfl) ?_
    refine DR.take 26 rfl (by repeat (first | exact List.nil_sublist _ | exact List.Sublist.refl _ | apply List.Sublist.cons_cons | apply List.Sublist.cons | apply Go.Vc.subApp)) inferInstance (by kernel_rfl) (by kernel_rfl) (by kernel_rfl) (by kernel_rfl) rfl rfl (Wanted.plain rfl) (Val.of rfl) ?_
    refine DR.done (by kernel_rfl) (RQ.next ?_)
    refine RC.ret ?_; (repeat first | refine RQ.thenRet ?_ | refine RQ.blockRet ?_); exact RQ.ret1 rfl (Res.tmp rfl) fun w' hm => ⟨rfl, hm.fr⟩
  · refine DR.take 18 rfl (by repeat (first | exact List.nil_sublist _ | exact List.Sublist.refl _ | apply List.Sublist.cons_cons | apply List.Sublist.cons | apply Go.Vc.subApp)) inferInstance (by kernel_rfl) (by kernel_rfl) (by kernel_rfl) (by kernel_rfl) rfl rfl (Wanted.guard rfl rfl rfl rfl) (Val.of rfl) ?_
    refine DR.take 19 rfl (by repeat (first | exact List.nil_sublist _ | exact List.Sublist.refl _ | apply List.Sublist.cons_cons | apply List.Sublist.cons | apply Go.Vc.subApp)) inferInstance (by kernel_rfl) (by kernel_rfl) (by kernel_rfl) (by kernel_rfl) rfl rfl (Wanted.guard rfl rfl rfl rfl) (Val.of rfl) ?_
    refine DR.take 21 rfl (by repeat (first | exact List.nil_sublist _ | exact List.Sublist.refl _ | apply List.Sublist.cons_cons | apply List.Sublist.cons | apply Go.Vc.subApp)) inferInstance (by kernel_rfl) (by kernel_rfl) (by kernel_rfl) (by kernel_rfl) rfl rfl (Wanted.guard rfl rfl rfl rfl) (Val.loadU tabOk rfl rfl rfl rfl (by repeat (first | exact List.mem_cons_self | apply List.mem_cons_of_mem | apply List.mem_append_right)) hm8) ?_
    refine DR.take 22 rfl (by repeat (first | exact List.nil_sublist _ | exact List.Sublist.refl _ | apply List.Sublist.cons_cons | apply List.Sublist.cons | apply Go.Vc.subApp)) inferInstance (by kernel_rfl) (by kernel_rfl) (by kernel_rfl) (by kernel_rfl) rfl rfl (Wanted.guard rfl rfl rfl rfl) (Val.loadAll tabOk rfl rfl rfl rfl m1 (by rw [List.size_toArray, hsl]; rfl)) ?_
    refine DR.one (i := 20) (by kernel_rfl) ?_
    refine DOp.op rfl (Wanted.guard rfl rfl rfl rfl) (OpTo.callV Tryd.func15 rfl rfl rfl rfl rfl rfl (fun w' hm => hR tb w' (hown w' (fun q hq => hm.has q (List.mem_cons_of_mem _ (List.mem_cons_of_mem _ (List.mem_append_left _ hq))))) (hK.fr hm.fr (by simp)))) (.inl fun _ => by repeat (first | exact List.nil_sublist _ | exact List.Sublist.refl _ | apply List.Sublist.cons_cons | apply List.Sublist.cons | apply Go.Vc.subApp)) (fun _ => ?_)
    refine DR.one (i := 23) (by kernel_rfl) ?_
    refine DOp.op rfl (Wanted.guard rfl rfl rfl rfl) (OpTo.callV Tryd.func17 rfl rfl rfl rfl rfl rfl (fun w' hm => hC rfl w' (hK.fr hm.fr (by simp)))) (.inl fun _ => by repeat (first | exact List.nil_sublist _ | exact List.Sublist.refl _ | apply List.Sublist.cons_cons | apply List.Sublist.cons | apply Go.Vc.subApp)) (fun _ => ?_)
    refine DR.take 24 rfl (by repeat (first | exact List.nil_sublist _ | exact List.Sublist.refl _ | apply List.Sublist.cons_cons | apply List.Sublist.cons | apply Go.Vc.subApp)) inferInstance (by kernel_rfl) (by kernel_rfl) (by kernel_rfl) (by kernel_rfl) rfl rfl (Wanted.guard rfl rfl rfl rfl) (Val.of rfl) ?_
    refine DR.take 25 rfl (by repeat (first | exact List.nil_sublist _ | exact List.Sublist.refl _ | apply List.Sublist.cons_cons | apply List.Sublist.cons | apply Go.Vc.subApp)) inferInstance (by kernel_rfl) (by kernel_rfl) (by kernel_rfl) (by kernel_rfl) rfl rfl (Wanted.plain rfl) (Val.of rfl) ?_
    refine DR.take 26 rfl (by repeat (first | exact List.nil_sublist _ | exact List.Sublist.refl _ | apply List.Sublist.cons_cons | apply List.Sublist.cons | apply Go.Vc.subApp)) inferInstance (by kernel_rfl) (by kernel_rfl) (by kernel_rfl) (by kernel_rfl) rfl rfl (Wanted.plain rfl) (Val.of rfl) ?_
    refine DR.done (by kernel_rfl) (RQ.next ?_)
    refine RC.ret ?_; (repeat first | refine RQ.thenRet ?_ | refine RQ.blockRet ?_); exact RQ.ret1 rfl (Res.tmp rfl) fun w' hm => ⟨rfl, hm.fr⟩
end Go.Proofs.YtilfbomjaflbjaaDoor
