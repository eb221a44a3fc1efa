/- KeytreeAll, KeytreePaths. -/
import Derived.Test.YtilfbomjaflbjaaDoorKtE
namespace Go.Proofs.YtilfbomjaflbjaaDoor
open Go Go.Vc Go.Sha

set_option maxRecDepth 10000 in
theorem KeytreeAll_calls (seed m : List Nat) (hs : seed.length = 8) (hlt : ∀ x ∈ seed, x < 256) (hm8 : m.length = 8) (hmlt : ∀ x ∈ m, x < 256) (w : World) (hK : Laid w) :
    Gives Tryd.prog 5 [.agg (u8s seed).toArray, .agg (u8s m).toArray] (.bool true) w := by
  refine enter Tryd.func5 rfl (Mem.nil w []) rfl ?_
  have hN := fun w' hK' => New_calls seed hs hlt w' hK'
  have hR := fun tb w' hT hK' => Tree_Root_calls tb seed w' hT hK'
  have hSb := fun (z : Int) (hz : z < 0 ∨ 8 ≤ z) tb w' hT hK' => Sign_bad tb seed m hz hm8 hmlt w' hT hK'
  (repeat refine RC.seq ?_); refine RC.region ?_
  refine Run.mk rfl rfl rfl (New.boxA rfl rfl) ?_
  intro b2
  refine Run.mk rfl rfl rfl (New.boxA rfl rfl) ?_
  intro b3
  refine Run.v rfl rfl rfl (Val.of rfl) ?_
  refine Run.nil (RQ.next ?_)
  (repeat refine RC.seq ?_); refine RC.region ?_
  refine Run.callV Tryd.func11 rfl rfl rfl rfl rfl rfl rfl (fun w' hm => kt_awake_calls w' (hK.fr hm.fr (by simp))) ?_
  refine Run.v rfl rfl rfl (Val.of rfl) ?_
  refine Run.nil (RQ.next ?_)
  (repeat refine RC.seq ?_); refine RC.condF rfl rfl (RC.skip (RQ.next ?_))
  (repeat refine RC.seq ?_); refine RC.region ?_
  refine Run.v rfl rfl rfl (Val.loadU tabOk rfl rfl rfl rfl (by repeat (first | exact List.mem_cons_self | apply List.mem_cons_of_mem | apply List.mem_append_right)) hs) ?_
  refine Run.op rfl (OpTo.callTree Tryd.func12 rfl rfl rfl rfl rfl rfl (fun w' hm => hN w' (hK.fr hm.fr (by simp)))) ?_
  rintro ⟨⟨tb, bl⟩, htr⟩
  dsimp only at htr ⊢
  refine Run.v rfl rfl rfl (Val.of rfl) ?_
  refine Run.nil (RQ.next ?_)
  (repeat refine RC.seq ?_); refine RC.region ?_
  refine Run.v rfl rfl rfl (Val.of rfl) ?_
  refine Run.v rfl rfl rfl (Val.ptrNil tabOk rfl rfl rfl rfl rfl) ?_
  refine Run.nil (RQ.next ?_)
  (repeat refine RC.seq ?_); refine RC.condF rfl rfl (RC.skip (RQ.next ?_))
  (repeat refine RC.seq ?_); refine RC.region ?_
  refine Run.v rfl rfl rfl (Val.of rfl) ?_
  refine Run.nil (RQ.next ?_)
  (repeat refine RC.seq ?_); refine RC.region ?_
  refine Run.v rfl rfl rfl (Val.of rfl) ?_
  refine Run.nil (RQ.next ?_)
  (repeat refine RC.seq ?_); refine RC.block ?_
  refine RC.up 8 (D := Value × Hp) (fun i x => Own 23 8 x.1 i (u8s (pubs seed i).flatten) x.2)
    (fun i x => [(7, .int .i64 i), (6, x.1), (5, .pointer (some ⟨tb, 0, none⟩)), (3, .pointer (some ⟨b3, 0, none⟩))])
    (fun i x => x.2 ++ (bl ++ [(b3, .cells (u8s m).toArray 23 (0, 0))]))
    0 (_, _) (Nat.zero_le _) Own.nil ⟨rfl, rfl, rfl, rfl, trivial⟩ (List.Sublist.append (l₁ := bl) (List.Sublist.refl _) (List.Sublist.cons_cons _ (List.nil_sublist _))) ?_
  rintro i ⟨v3, bl3⟩ hi hown
  dsimp only at hown ⊢
  (repeat refine RC.seq ?_); refine RC.region ?_
  refine Run.v rfl rfl rfl (Val.of rfl) ?_
  refine Run.callV Tryd.func19 rfl rfl rfl rfl rfl rfl rfl (fun w' hm => Times_calls w') ?_
  refine Run.v rfl rfl rfl (Val.of rfl) ?_
  refine Run.nil (RQ.next ?_)
  (repeat refine RC.seq ?_); refine RC.wh rfl (fun h => RQ.next ?_) (fun h => ?_)
  · have hi' : i < 8 := by have := of_decide_eq_true h; omega
    clear h
    have hS := fun tb w' hT hK' => Sign_good tb seed m hi' hm8 hmlt w' hT hK'
    have hC := fun w' hK' => KCheck_good seed m hi' hm8 hmlt w' hK'
    have hsl := sgo_len seed m hi'
    rw [show sgo seed i m = sigC (i : Int) (rowOf (opened seed i m) 16) (rowOf (shutd seed i m) 16) (wayOf seed i).flatten from rfl] at hS hC hsl
    have hrl := treeOf_len seed
    have h1 := rowOf_len (opened_len seed i m) 16
    have h2 := rowOf_len (shutd_len seed i m) 16
    have h1' := rowOf_lt (opened_lt seed i m) 16
    have h2' := rowOf_lt (shutd_lt seed i m) 16
    have pe := pubBy_signed seed i m
    have hsu := pubs_succ seed i
    have hk8 := (pubKey_8 seed i).1
    generalize rowOf (opened seed i m) 16 = op at *
    generalize rowOf (shutd seed i m) 16 = sh at *
    generalize (wayOf seed i).flatten = pa at *
    generalize treeOf seed = rt at *
    (repeat refine RC.seq ?_); refine RC.block ?_
    (repeat refine RC.seq ?_); refine RC.region ?_
    refine Run.v rfl rfl rfl (Val.of rfl) ?_
    refine Run.v rfl rfl rfl (Val.of rfl) ?_
    refine Run.v rfl rfl rfl (Val.loadU tabOk rfl rfl rfl rfl (List.mem_append_right _ (List.mem_append_right _ m0)) hm8) ?_
    refine Run.callV Tryd.func13 rfl rfl rfl rfl rfl rfl rfl (fun w' hm => hS tb w' (htr w' (fun q hq => hm.has q (List.mem_append_right _ (List.mem_append_left _ hq)))) (hK.fr hm.fr (by simp))) ?_
    refine Run.v rfl rfl rfl (Val.of rfl) ?_
    refine Run.v rfl rfl rfl (Val.of rfl) ?_
    refine Run.v rfl rfl rfl (Val.of rfl) ?_
    refine Run.mk rfl rfl rfl (New.allocTo tabOk (cs := sgz.toArray) rfl rfl (by kernel_rfl)) ?_
    intro b8
    refine Run.op rfl (OpTo.setV tabOk [] sgz (sigC (i : Int) op sh pa) [] rfl rfl rfl rfl rfl (List.Perm.refl _) rfl (by simp) rfl (by rw [sgz_len, hsl]) (by rw [hsl]; rfl) sigC_one) (fun _ => ?_)
    rw [List.nil_append, List.append_nil]
    refine Run.v rfl rfl rfl (Val.of rfl) ?_
    refine Run.nil (RQ.next ?_)
    (repeat refine RC.seq ?_); refine RC.drawS mixed (N := 16) rfl ?_
    refine DR.take 0 rfl (by repeat (first | exact List.nil_sublist _ | exact List.Sublist.refl _ | apply List.Sublist.cons_cons | apply List.Sublist.cons)) inferInstance (by kernel_rfl) (by kernel_rfl) (by kernel_rfl) (by kernel_rfl) rfl rfl (Wanted.plain rfl) (Val.of rfl) ?_
    refine DR.take 1 rfl (by repeat (first | exact List.nil_sublist _ | exact List.Sublist.refl _ | apply List.Sublist.cons_cons | apply List.Sublist.cons)) inferInstance (by kernel_rfl) (by kernel_rfl) (by kernel_rfl) (by kernel_rfl) rfl rfl (Wanted.plain rfl) (Val.of rfl) ?_
    refine DR.take 2 rfl (by repeat (first | exact List.nil_sublist _ | exact List.Sublist.refl _ | apply List.Sublist.cons_cons | apply List.Sublist.cons)) inferInstance (by kernel_rfl) (by kernel_rfl) (by kernel_rfl) (by kernel_rfl) rfl rfl (Wanted.plain rfl) (Val.of rfl) ?_
    refine DR.take 3 rfl (by repeat (first | exact List.nil_sublist _ | exact List.Sublist.refl _ | apply List.Sublist.cons_cons | apply List.Sublist.cons)) inferInstance (by kernel_rfl) (by kernel_rfl) (by kernel_rfl) (by kernel_rfl) rfl rfl (Wanted.guard rfl rfl rfl rfl) (Val.fieldAddr tabOk rfl rfl rfl rfl rfl rfl rfl rfl) ?_
    refine DR.take 4 rfl (by repeat (first | exact List.nil_sublist _ | exact List.Sublist.refl _ | apply List.Sublist.cons_cons | apply List.Sublist.cons)) inferInstance (by kernel_rfl) (by kernel_rfl) (by kernel_rfl) (by kernel_rfl) rfl rfl (Wanted.guard rfl rfl rfl rfl) (Val.load (v := .int .i64 i) tabOk rfl rfl rfl m0 rfl) ?_
    refine DR.take 5 rfl (by repeat (first | exact List.nil_sublist _ | exact List.Sublist.refl _ | apply List.Sublist.cons_cons | apply List.Sublist.cons)) inferInstance (by kernel_rfl) (by kernel_rfl) (by kernel_rfl) (by kernel_rfl) rfl rfl (Wanted.guard rfl rfl rfl rfl) (Val.of rfl) ?_
    refine DR.take 6 rfl (by repeat (first | exact List.nil_sublist _ | exact List.Sublist.refl _ | apply List.Sublist.cons_cons | apply List.Sublist.cons)) inferInstance (by kernel_rfl) (by kernel_rfl) (by kernel_rfl) (by kernel_rfl) rfl rfl (Wanted.guard rfl rfl rfl rfl) (Val.eq (Val.of rfl) (show _ = Value.bool false from congrArg Value.bool (by simp))) ?_
    refine DR.take 7 rfl (by repeat (first | exact List.nil_sublist _ | exact List.Sublist.refl _ | apply List.Sublist.cons_cons | apply List.Sublist.cons)) inferInstance (by kernel_rfl) (by kernel_rfl) (by kernel_rfl) (by kernel_rfl) rfl rfl (Wanted.plain rfl) (Val.of rfl) ?_
    refine DR.take 8 rfl (by repeat (first | exact List.nil_sublist _ | exact List.Sublist.refl _ | apply List.Sublist.cons_cons | apply List.Sublist.cons)) inferInstance (by kernel_rfl) (by kernel_rfl) (by kernel_rfl) (by kernel_rfl) rfl rfl (Wanted.plain rfl) (Val.of rfl) ?_
    refine DR.take 9 rfl (by repeat (first | exact List.nil_sublist _ | exact List.Sublist.refl _ | apply List.Sublist.cons_cons | apply List.Sublist.cons)) inferInstance (by kernel_rfl) (by kernel_rfl) (by kernel_rfl) (by kernel_rfl) rfl rfl (Wanted.guard rfl rfl rfl rfl) (Val.of rfl) ?_
    refine DR.take 11 rfl (by repeat (first | exact List.nil_sublist _ | exact List.Sublist.refl _ | apply List.Sublist.cons_cons | apply List.Sublist.cons)) inferInstance (by kernel_rfl) (by kernel_rfl) (by kernel_rfl) (by kernel_rfl) rfl rfl (Wanted.guard rfl rfl rfl rfl) (Val.loadU tabOk rfl rfl rfl rfl (List.mem_cons_of_mem _ (List.mem_append_right _ (List.mem_append_right _ m0))) hm8) ?_
    refine DR.take 12 rfl (by repeat (first | exact List.nil_sublist _ | exact List.Sublist.refl _ | apply List.Sublist.cons_cons | apply List.Sublist.cons)) inferInstance (by kernel_rfl) (by kernel_rfl) (by kernel_rfl) (by kernel_rfl) rfl rfl (Wanted.guard rfl rfl rfl rfl) (Val.loadAll tabOk rfl rfl rfl rfl m0 (by rw [List.size_toArray, hsl]; rfl)) ?_
    refine DR.one (i := 10) (by kernel_rfl) ?_
    refine DOp.op rfl (Wanted.guard rfl rfl rfl rfl) (OpTo.callV Tryd.func15 rfl rfl rfl rfl rfl rfl (fun w' hm => hR tb w' (htr w' (fun q hq => hm.has q (List.mem_cons_of_mem _ (List.mem_append_right _ (List.mem_append_left _ hq))))) (hK.fr hm.fr (by simp)))) (.inl fun _ => by repeat (first | exact List.nil_sublist _ | exact List.Sublist.refl _ | apply List.Sublist.cons_cons | apply List.Sublist.cons)) (fun _ => ?_)
    refine DR.one (i := 13) (by kernel_rfl) ?_
    refine DOp.op rfl (Wanted.guard rfl rfl rfl rfl) (OpTo.callV Tryd.func17 rfl rfl rfl rfl rfl rfl (fun w' hm => hC w' (hK.fr hm.fr (by simp)))) (.inl fun _ => by repeat (first | exact List.nil_sublist _ | exact List.Sublist.refl _ | apply List.Sublist.cons_cons | apply List.Sublist.cons)) (fun _ => ?_)
    refine DR.take 14 rfl (by repeat (first | exact List.nil_sublist _ | exact List.Sublist.refl _ | apply List.Sublist.cons_cons | apply List.Sublist.cons)) inferInstance (by kernel_rfl) (by kernel_rfl) (by kernel_rfl) (by kernel_rfl) rfl rfl (Wanted.guard rfl rfl rfl rfl) (Val.of rfl) ?_
    refine DR.take 15 rfl (by repeat (first | exact List.nil_sublist _ | exact List.Sublist.refl _ | apply List.Sublist.cons_cons | apply List.Sublist.cons)) inferInstance (by kernel_rfl) (by kernel_rfl) (by kernel_rfl) (by kernel_rfl) rfl rfl (Wanted.plain rfl) (Val.of rfl) ?_
    refine DR.done (by kernel_rfl) (RQ.next ?_)
    (repeat refine RC.seq ?_); refine RC.condF rfl rfl (RC.skip (RQ.next ?_))
    refine RC.region ?_
    refine Run.v rfl rfl rfl (Val.of rfl) ?_
    refine Run.v rfl rfl rfl (Val.loadU tabOk rfl rfl rfl rfl (List.mem_cons_of_mem _ (List.mem_append_right _ (List.mem_append_right _ m0))) hm8) ?_
    refine Run.v rfl rfl rfl (Val.fieldAddr tabOk rfl rfl rfl rfl rfl rfl rfl rfl) ?_
    refine Run.v rfl rfl rfl (Val.loadR (cs := u8s op) tabOk rfl rfl rfl rfl (by rw [u8s_len, h1]; rfl) (Rd.row m0 sigC_open)) ?_
    refine Run.v rfl rfl rfl (Val.fieldAddr tabOk rfl rfl rfl rfl rfl rfl rfl rfl) ?_
    refine Run.v rfl rfl rfl (Val.loadR (cs := u8s sh) tabOk rfl rfl rfl rfl (by rw [u8s_len, h2]; rfl) (Rd.row m0 (sigC_shut h1))) ?_
    refine Run.callV Tryd.func20 rfl rfl rfl rfl rfl rfl rfl (fun w' _ => ref_Public_calls m op sh hm8 hmlt h1 h1' h2 h2' w') ?_
    rw [pe]
    generalize pubKey seed i = pk at *
    refine Run.mk rfl rfl rfl (New.buildSlice tabOk (parts := [(0, .tmp 54)]) (cells := (u8s pk).toArray) rfl rfl rfl rfl rfl rfl (fillS_one _ _ pk hk8)) ?_
    intro b55
    refine Run.op rfl (OpTo.append tabOk hown (Src.at ⟨b55, 0, none⟩ 1 1 (u8s pk) (by rw [u8s_len, hk8]; rfl) (Rd.rowAll m0)) rfl rfl rfl rfl rfl rfl rfl rfl rfl (List.perm_append_comm_assoc [_, _] bl3 _) (u8s_one _) (by unfold maxLen; omega) (by simp only [ti23]; omega)) ?_
    rintro ⟨⟨v9, bl9⟩, hown9⟩
    refine Run.v rfl rfl rfl (Val.of rfl) ?_
    refine Run.nil (RQ.blockNormal (RQ.next ?_))
    refine RC.region ?_
    repeat (first | refine Run.v rfl rfl rfl (Val.ar rfl rfl rfl rfl (by dsimp only [inK]; omega)) ?_ | refine Run.v rfl rfl rfl (Val.of rfl) ?_)
    refine Run.nil (RQ.up (i + 1) (v9, bl9) (Nat.lt_succ_self _) hi' ?_ ⟨rfl, rfl, rfl, rfl, trivial⟩ (List.Sublist.append (List.Sublist.refl _) (List.Sublist.cons _ (List.Sublist.cons _ (List.Sublist.refl _)))))
    have h : Own 23 8 v9 (i + 1) _ bl9 := hown9
    rw [← u8s_app] at h
    rw [hsu]
    simpa [List.flatten_append] using h
  · have hi' : i = 8 := by have := of_decide_eq_false h; omega
    subst hi'
    clear h
    have hRR := ref_Root_calls _ (pubs seed 8) rfl (pubs_HL seed 8)
    have hrl := treeOf_len seed
    rw [treeOf_root, pubs_len] at hRR
    generalize treeOf seed = rt at *
    obtain ⟨va, vc, rfl, hvc⟩ := hown.shape
    (repeat refine RQ.thenExit ?_); refine RQ.blockHere ?_
    refine RQ.next ?_
    (repeat refine RC.seq ?_); refine RC.region ?_
    refine Run.v rfl rfl rfl (Val.of rfl) ?_
    refine Run.v rfl rfl rfl (Val.loadU tabOk rfl rfl rfl rfl (List.mem_append_right _ (List.mem_append_right _ m0)) hm8) ?_
    refine Run.callV Tryd.func13 rfl rfl rfl rfl rfl rfl rfl (fun w' hm => hSb (-1) (.inl (by decide)) tb w' (htr w' (fun q hq => hm.has q (List.mem_append_right _ (List.mem_append_left _ hq)))) (hK.fr hm.fr (by simp))) ?_
    refine Run.v rfl rfl rfl (Val.of rfl) ?_
    refine Run.v rfl rfl rfl (Val.of rfl) ?_
    refine Run.v rfl rfl rfl (Val.of rfl) ?_
    refine Run.mk rfl rfl rfl (New.allocTo tabOk (cs := sgz.toArray) rfl rfl (by kernel_rfl)) ?_
    intro b10
    refine Run.op rfl (OpTo.setV tabOk [] sgz sgz [] rfl rfl rfl rfl rfl (List.Perm.refl _) rfl (by simp) rfl rfl rfl sigC_one) (fun _ => ?_)
    rw [List.nil_append, List.append_nil]
    refine Run.v rfl rfl rfl (Val.of rfl) ?_
    refine Run.nil (RQ.next ?_)
    (repeat refine RC.seq ?_)
    refine RC.thenCut (Y := Unit) (fun _ => [(5, .pointer (some ⟨tb, 0, none⟩)), (6, .slice va 8 vc), (11, .bool false), (13, .bool false)])
      (fun _ => bl3 ++ (bl ++ [(b3, .cells (u8s m).toArray 23 (0, 0))])) ?_ (fun _ => ?_)
    · (repeat refine RC.seq ?_); refine RC.drawS mixed (N := 10) rfl ?_
      refine DR.take 0 rfl (by repeat (first | exact List.nil_sublist _ | exact List.Sublist.refl _ | apply List.Sublist.cons_cons | apply List.Sublist.cons)) inferInstance (by kernel_rfl) (by kernel_rfl) (by kernel_rfl) (by kernel_rfl) rfl rfl (Wanted.plain rfl) (Val.of rfl) ?_
      refine DR.take 2 rfl (by repeat (first | exact List.nil_sublist _ | exact List.Sublist.refl _ | apply List.Sublist.cons_cons | apply List.Sublist.cons)) inferInstance (by kernel_rfl) (by kernel_rfl) (by kernel_rfl) (by kernel_rfl) rfl rfl (Wanted.plain rfl) (Val.loadU tabOk rfl rfl rfl rfl (List.mem_cons_of_mem _ (List.mem_append_right _ (List.mem_append_right _ m0))) hm8) ?_
      refine DR.two (i := 1) (j := 7) (by kernel_rfl) ?_ ?_
      · refine DOp.op rfl (Wanted.plain rfl) (OpTo.callV Tryd.func19 rfl rfl rfl rfl rfl rfl (fun w' _ => Times_calls w')) (.inl fun _ => (by repeat (first | exact List.nil_sublist _ | exact List.Sublist.refl _ | apply List.Sublist.cons_cons | apply List.Sublist.cons))) (fun _ => ?_)
        refine DR.two (i := 3) (j := 7) (by kernel_rfl) ?_ ?_
        · refine DOp.op rfl (Wanted.plain rfl) (OpTo.callV Tryd.func13 rfl rfl rfl rfl rfl rfl (fun w' hm => hSb 8 (.inr (by decide)) tb w' (htr w' (fun q hq => hm.has q (List.mem_cons_of_mem _ (List.mem_append_right _ (List.mem_append_left _ hq))))) (hK.fr hm.fr (by simp)))) (.inl fun _ => (by repeat (first | exact List.nil_sublist _ | exact List.Sublist.refl _ | apply List.Sublist.cons_cons | apply List.Sublist.cons))) (fun _ => ?_)
          refine DR.take 4 rfl (by repeat (first | exact List.nil_sublist _ | exact List.Sublist.refl _ | apply List.Sublist.cons_cons | apply List.Sublist.cons)) inferInstance (by kernel_rfl) (by kernel_rfl) (by kernel_rfl) (by kernel_rfl) rfl rfl (Wanted.plain rfl) (Val.of rfl) ?_
          refine DR.take 5 rfl (by repeat (first | exact List.nil_sublist _ | exact List.Sublist.refl _ | apply List.Sublist.cons_cons | apply List.Sublist.cons)) inferInstance (by kernel_rfl) (by kernel_rfl) (by kernel_rfl) (by kernel_rfl) rfl rfl (Wanted.plain rfl) (Val.of rfl) ?_
          refine DR.take 6 rfl (by repeat (first | exact List.nil_sublist _ | exact List.Sublist.refl _ | apply List.Sublist.cons_cons | apply List.Sublist.cons)) inferInstance (by kernel_rfl) (by kernel_rfl) (by kernel_rfl) (by kernel_rfl) rfl rfl (Wanted.plain rfl) (Val.of rfl) ?_
          refine DR.one (i := 7) (by kernel_rfl) ?_
          refine DOp.op rfl (Wanted.plain rfl) (OpTo.new rfl rfl (New.allocTo tabOk (cs := sgz.toArray) rfl rfl (by kernel_rfl))) (.inl fun _ => by repeat (first | exact List.nil_sublist _ | exact List.Sublist.refl _ | apply List.Sublist.cons_cons | apply List.Sublist.cons)) ?_
          intro b12
          refine DR.one (i := 8) (by kernel_rfl) ?_
          refine DOp.op rfl (Wanted.plain rfl) (OpTo.setV tabOk [] sgz sgz [] rfl rfl rfl rfl rfl (List.Perm.refl _) rfl (by simp) rfl rfl rfl sigC_one) (.inl fun _ => (by repeat (first | exact List.nil_sublist _ | exact List.Sublist.refl _ | apply List.Sublist.cons_cons | apply List.Sublist.cons))) (fun _ => ?_)
          rw [List.nil_append, List.append_nil]
          refine DR.take 9 rfl (by repeat (first | exact List.nil_sublist _ | exact List.Sublist.refl _ | apply List.Sublist.cons_cons | apply List.Sublist.cons)) inferInstance (by kernel_rfl) (by kernel_rfl) (by kernel_rfl) (by kernel_rfl) rfl rfl (Wanted.plain rfl) (Val.of rfl) ?_
          refine DR.done (by kernel_rfl) ?_
          exact RQ.to () ⟨rfl, rfl, rfl, rfl, trivial⟩ (by repeat (first | exact List.nil_sublist _ | exact List.Sublist.refl _ | apply List.Sublist.cons_cons | apply List.Sublist.cons))
        · refine DOp.op rfl (Wanted.plain rfl) (OpTo.new rfl rfl (New.allocTo tabOk (cs := sgz.toArray) rfl rfl (by kernel_rfl))) (.inl fun _ => by repeat (first | exact List.nil_sublist _ | exact List.Sublist.refl _ | apply List.Sublist.cons_cons | apply List.Sublist.cons)) ?_
          intro b12
          refine DR.one (i := 3) (by kernel_rfl) ?_
          refine DOp.op rfl (Wanted.plain rfl) (OpTo.callV Tryd.func13 rfl rfl rfl rfl rfl rfl (fun w' hm => hSb 8 (.inr (by decide)) tb w' (htr w' (fun q hq => hm.has q (List.mem_cons_of_mem _ (List.mem_cons_of_mem _ (List.mem_append_right _ (List.mem_append_left _ hq)))))) (hK.fr hm.fr (by simp)))) (.inl fun _ => (by repeat (first | exact List.nil_sublist _ | exact List.Sublist.refl _ | apply List.Sublist.cons_cons | apply List.Sublist.cons))) (fun _ => ?_)
          refine DR.take 4 rfl (by repeat (first | exact List.nil_sublist _ | exact List.Sublist.refl _ | apply List.Sublist.cons_cons | apply List.Sublist.cons)) inferInstance (by kernel_rfl) (by kernel_rfl) (by kernel_rfl) (by kernel_rfl) rfl rfl (Wanted.plain rfl) (Val.of rfl) ?_
          refine DR.take 5 rfl (by repeat (first | exact List.nil_sublist _ | exact List.Sublist.refl _ | apply List.Sublist.cons_cons | apply List.Sublist.cons)) inferInstance (by kernel_rfl) (by kernel_rfl) (by kernel_rfl) (by kernel_rfl) rfl rfl (Wanted.plain rfl) (Val.of rfl) ?_
          refine DR.take 6 rfl (by repeat (first | exact List.nil_sublist _ | exact List.Sublist.refl _ | apply List.Sublist.cons_cons | apply List.Sublist.cons)) inferInstance (by kernel_rfl) (by kernel_rfl) (by kernel_rfl) (by kernel_rfl) rfl rfl (Wanted.plain rfl) (Val.of rfl) ?_
          refine DR.one (i := 8) (by kernel_rfl) ?_
          refine DOp.op rfl (Wanted.plain rfl) (OpTo.setV tabOk [] sgz sgz [] rfl rfl rfl rfl rfl (List.Perm.refl _) rfl (by simp) rfl rfl rfl sigC_one) (.inl fun _ => (by repeat (first | exact List.nil_sublist _ | exact List.Sublist.refl _ | apply List.Sublist.cons_cons | apply List.Sublist.cons))) (fun _ => ?_)
          rw [List.nil_append, List.append_nil]
          refine DR.take 9 rfl (by repeat (first | exact List.nil_sublist _ | exact List.Sublist.refl _ | apply List.Sublist.cons_cons | apply List.Sublist.cons)) inferInstance (by kernel_rfl) (by kernel_rfl) (by kernel_rfl) (by kernel_rfl) rfl rfl (Wanted.plain rfl) (Val.of rfl) ?_
          refine DR.done (by kernel_rfl) ?_
          exact RQ.to () ⟨rfl, rfl, rfl, rfl, trivial⟩ (by repeat (first | exact List.nil_sublist _ | exact List.Sublist.refl _ | apply List.Sublist.cons_cons | apply List.Sublist.cons))
      · refine DOp.op rfl (Wanted.plain rfl) (OpTo.new rfl rfl (New.allocTo tabOk (cs := sgz.toArray) rfl rfl (by kernel_rfl))) (.inl fun _ => by repeat (first | exact List.nil_sublist _ | exact List.Sublist.refl _ | apply List.Sublist.cons_cons | apply List.Sublist.cons)) ?_
        intro b12
        refine DR.one (i := 1) (by kernel_rfl) ?_
        refine DOp.op rfl (Wanted.plain rfl) (OpTo.callV Tryd.func19 rfl rfl rfl rfl rfl rfl (fun w' _ => Times_calls w')) (.inl fun _ => (by repeat (first | exact List.nil_sublist _ | exact List.Sublist.refl _ | apply List.Sublist.cons_cons | apply List.Sublist.cons))) (fun _ => ?_)
        refine DR.one (i := 3) (by kernel_rfl) ?_
        refine DOp.op rfl (Wanted.plain rfl) (OpTo.callV Tryd.func13 rfl rfl rfl rfl rfl rfl (fun w' hm => hSb 8 (.inr (by decide)) tb w' (htr w' (fun q hq => hm.has q (List.mem_cons_of_mem _ (List.mem_cons_of_mem _ (List.mem_append_right _ (List.mem_append_left _ hq)))))) (hK.fr hm.fr (by simp)))) (.inl fun _ => (by repeat (first | exact List.nil_sublist _ | exact List.Sublist.refl _ | apply List.Sublist.cons_cons | apply List.Sublist.cons))) (fun _ => ?_)
        refine DR.take 4 rfl (by repeat (first | exact List.nil_sublist _ | exact List.Sublist.refl _ | apply List.Sublist.cons_cons | apply List.Sublist.cons)) inferInstance (by kernel_rfl) (by kernel_rfl) (by kernel_rfl) (by kernel_rfl) rfl rfl (Wanted.plain rfl) (Val.of rfl) ?_
        refine DR.take 5 rfl (by repeat (first | exact List.nil_sublist _ | exact List.Sublist.refl _ | apply List.Sublist.cons_cons | apply List.Sublist.cons)) inferInstance (by kernel_rfl) (by kernel_rfl) (by kernel_rfl) (by kernel_rfl) rfl rfl (Wanted.plain rfl) (Val.of rfl) ?_
        refine DR.take 6 rfl (by repeat (first | exact List.nil_sublist _ | exact List.Sublist.refl _ | apply List.Sublist.cons_cons | apply List.Sublist.cons)) inferInstance (by kernel_rfl) (by kernel_rfl) (by kernel_rfl) (by kernel_rfl) rfl rfl (Wanted.plain rfl) (Val.of rfl) ?_
        refine DR.one (i := 8) (by kernel_rfl) ?_
        refine DOp.op rfl (Wanted.plain rfl) (OpTo.setV tabOk [] sgz sgz [] rfl rfl rfl rfl rfl (List.Perm.refl _) rfl (by simp) rfl rfl rfl sigC_one) (.inl fun _ => (by repeat (first | exact List.nil_sublist _ | exact List.Sublist.refl _ | apply List.Sublist.cons_cons | apply List.Sublist.cons))) (fun _ => ?_)
        rw [List.nil_append, List.append_nil]
        refine DR.take 9 rfl (by repeat (first | exact List.nil_sublist _ | exact List.Sublist.refl _ | apply List.Sublist.cons_cons | apply List.Sublist.cons)) inferInstance (by kernel_rfl) (by kernel_rfl) (by kernel_rfl) (by kernel_rfl) rfl rfl (Wanted.plain rfl) (Val.of rfl) ?_
        refine DR.done (by kernel_rfl) ?_
        exact RQ.to () ⟨rfl, rfl, rfl, rfl, trivial⟩ (by repeat (first | exact List.nil_sublist _ | exact List.Sublist.refl _ | apply List.Sublist.cons_cons | apply List.Sublist.cons))
    · (repeat refine RC.seq ?_); refine RC.region ?_
      refine Run.v rfl rfl rfl (Val.of rfl) ?_
      refine Run.v rfl rfl rfl (Val.len (len := 8) tabOk rfl rfl rfl rfl) ?_
      refine Run.v rfl rfl rfl (Val.of rfl) ?_
      refine Run.v rfl rfl rfl (Val.of rfl) ?_
      refine Run.vG (Wanted.guard rfl rfl rfl rfl) rfl rfl (Val.of rfl) ?_
      refine Run.opG (Wanted.guard rfl rfl rfl rfl) (OpTo.callV Tryd.func15 rfl rfl rfl rfl rfl rfl (fun w' hm => hR tb w' (htr w' (fun q hq => hm.has q (List.mem_append_right _ (List.mem_append_left _ hq)))) (hK.fr hm.fr (by simp)))) (fun _ => ?_)
      refine Run.vG (Wanted.guard rfl rfl rfl rfl) rfl rfl (Val.of rfl) ?_
      refine Run.opG (Wanted.guard rfl rfl rfl rfl) (OpTo.callV Tryd.func21 rfl rfl rfl rfl rfl rfl (fun w' hm => hRR _ w' (hown.srcW (fun q hq => hm.has q (List.mem_append_left _ hq))))) (fun _ => ?_)
      refine Run.vG (Wanted.guard rfl rfl rfl rfl) rfl rfl (Val.eq (Val.eqU (m := 8) (a := rt) (b := rt) tabOk rfl rfl rfl (by kernel_rfl) (by kernel_rfl) rfl rfl hrl hrl) (show _ = Value.bool true from by simp)) ?_
      refine Run.v rfl rfl rfl (Val.of rfl) ?_
      refine Run.v rfl rfl rfl (Val.of rfl) ?_
      refine Run.vG (Wanted.guard rfl rfl rfl rfl) rfl rfl (Val.of rfl) ?_
      refine Run.vG (Wanted.guard rfl rfl rfl rfl) rfl rfl (Val.of rfl) ?_
      refine Run.v rfl rfl rfl (Val.of rfl) ?_
      refine Run.v rfl rfl rfl (Val.of rfl) ?_
      refine Run.vG (Wanted.guard rfl rfl rfl rfl) rfl rfl (Val.of rfl) ?_
      refine Run.vG (Wanted.guard rfl rfl rfl rfl) rfl rfl (Val.of rfl) ?_
      refine Run.v rfl rfl rfl (Val.of rfl) ?_
      refine Run.v rfl rfl rfl (Val.of rfl) ?_
      refine Run.nil (RQ.next ?_)
      refine RC.ret ?_; (repeat first | refine RQ.thenRet ?_ | refine RQ.blockRet ?_); exact RQ.ret1 rfl (Res.tmp rfl) fun w' hm => ⟨rfl, hm.fr⟩

set_option maxRecDepth 10000 in
theorem KeytreePaths_calls (seed B : List Nat) (hs : seed.length = 8) (hlt : ∀ x ∈ seed, x < 256) (hB : B.length = 2) (hBlt : ∀ x ∈ B, x < 256) (w : World) (hK : Laid w) :
    Gives Tryd.prog 6 [.agg (u8s seed).toArray, .agg (u8s B).toArray] (.bool true) w := by
  refine enter Tryd.func6 rfl (Mem.nil w []) rfl ?_
  obtain ⟨x0, x1, rfl⟩ : ∃ x0 x1, B = [x0, x1] := by
    match B, hB with
    | [x0, x1], _ => exact ⟨x0, x1, rfl⟩
  have hx0 := hBlt x0 (by simp)
  have hx1 := hBlt x1 (by simp)
  obtain ⟨m, hm⟩ : ∃ m, m = [2, x0, 0, 0, 0, 0, 0, 0] := ⟨_, rfl⟩
  have hm8 : m.length = 8 := by rw [hm]; rfl
  have hmlt : ∀ x ∈ m, x < 256 := by rw [hm]; intro x hx; simp at hx; omega
  obtain ⟨i, hi, hi'⟩ : ∃ i, i = x0 % 8 ∧ i < 8 := ⟨_, rfl, by omega⟩
  obtain ⟨j, hj, hj'⟩ : ∃ j, j = x1 % 8 ∧ j < 8 := ⟨_, rfl, by omega⟩
  have hN := fun w' hK' => New_calls seed hs hlt w' hK'
  have hR := fun tb w' hT hK' => Tree_Root_calls tb seed w' hT hK'
  have hS1 := fun tb w' hT hK' => Sign_good tb seed m hi' hm8 hmlt w' hT hK'
  have hS2 := fun tb w' hT hK' => Sign_good tb seed m hj' hm8 hmlt w' hT hK'
  rw [show sgo seed i m = sigC (i : Int) (rowOf (opened seed i m) 16) (rowOf (shutd seed i m) 16) (wayOf seed i).flatten from rfl] at hS1
  rw [show sgo seed j m = sigC (j : Int) (rowOf (opened seed j m) 16) (rowOf (shutd seed j m) 16) (wayOf seed j).flatten from rfl] at hS2
  have hrl := treeOf_len seed
  have h1 := rowOf_len (opened_len seed i m) 16
  have h2 := rowOf_len (shutd_len seed i m) 16
  have h3 := wayOf_flat seed hi'
  have h1' := rowOf_lt (opened_lt seed i m) 16
  have h2' := rowOf_lt (shutd_lt seed i m) 16
  have h3' := (wayOf_HL seed i).flat_lt
  have g1 := rowOf_len (opened_len seed j m) 16
  have g2 := rowOf_len (shutd_len seed j m) 16
  have g3 := wayOf_flat seed hj'
  have g3' := (wayOf_HL seed j).flat_lt
  have hsame : i = j → rowOf (opened seed i m) 16 = rowOf (opened seed j m) 16 ∧ rowOf (shutd seed i m) 16 = rowOf (shutd seed j m) 16 ∧ (wayOf seed i).flatten = (wayOf seed j).flatten := by
    intro h; rw [h]; exact ⟨rfl, rfl, rfl⟩
  generalize rowOf (opened seed i m) 16 = op1 at *
  generalize rowOf (shutd seed i m) 16 = sh1 at *
  generalize (wayOf seed i).flatten = pa1 at *
  generalize rowOf (opened seed j m) 16 = op2 at *
  generalize rowOf (shutd seed j m) 16 = sh2 at *
  generalize (wayOf seed j).flatten = pa2 at *
  generalize treeOf seed = rt at *
  have s1 := sigC_len (z := (i : Int)) h1 h2 h3
  have s2 := sigC_len (z := (j : Int)) g1 g2 g3
  have s3 := sigC_len (z := (i : Int)) h1 h2 g3
  have s4 := sigC_len (z := (j : Int)) h1 h2 h3
  have hC3 := fun w' hK' => KCheck_calls rt m i op1 sh1 pa2 hrl hm8 hmlt h1 h1' h2 h2' g3 g3' w' hK'
  have hC4 := fun w' hK' => KCheck_calls rt m j op1 sh1 pa1 hrl hm8 hmlt h1 h1' h2 h2' h3 h3' w' hK'
  have hD3 := fun w' => CheckTree_calls rt m i op1 sh1 pa2 hrl hm8 hmlt h1 h1' h2 h2' g3 g3' w'
  have hD4 := fun w' => CheckTree_calls rt m j op1 sh1 pa1 hrl hm8 hmlt h1 h1' h2 h2' h3 h3' w'
  generalize checkT rt m i op1 sh1 pa2 = ok3 at *
  generalize checkT rt m j op1 sh1 pa1 = ok4 at *
  (repeat refine RC.seq ?_); refine RC.region ?_
  refine Run.mk rfl rfl rfl (New.boxA rfl rfl) ?_
  intro b2
  refine Run.mk rfl rfl rfl (New.boxA rfl rfl) ?_
  intro b3
  refine Run.v rfl rfl rfl (Val.of rfl) ?_
  refine Run.nil (RQ.next ?_)
  (repeat refine RC.seq ?_); refine RC.region ?_
  refine Run.callV Tryd.func11 rfl rfl rfl rfl rfl rfl rfl (fun w' hm => kt_awake_calls w' (hK.fr hm.fr (by simp))) ?_
  refine Run.v rfl rfl rfl (Val.of rfl) ?_
  refine Run.nil (RQ.next ?_)
  (repeat refine RC.seq ?_); refine RC.condF rfl rfl (RC.skip (RQ.next ?_))
  (repeat refine RC.seq ?_); refine RC.region ?_
  refine Run.v rfl rfl rfl (Val.loadU tabOk rfl rfl rfl rfl (by repeat (first | exact List.mem_cons_self | apply List.mem_cons_of_mem | apply List.mem_append_right)) hs) ?_
  refine Run.op rfl (OpTo.callTree Tryd.func12 rfl rfl rfl rfl rfl rfl (fun w' hm => hN w' (hK.fr hm.fr (by simp)))) ?_
  rintro ⟨⟨tb, bl⟩, htr⟩
  dsimp only at htr ⊢
  refine Run.v rfl rfl rfl (Val.of rfl) ?_
  refine Run.nil (RQ.next ?_)
  (repeat refine RC.seq ?_); refine RC.region ?_
  refine Run.v rfl rfl rfl (Val.of rfl) ?_
  refine Run.v rfl rfl rfl (Val.ptrNil tabOk rfl rfl rfl rfl rfl) ?_
  refine Run.nil (RQ.next ?_)
  (repeat refine RC.seq ?_); refine RC.condF rfl rfl (RC.skip (RQ.next ?_))
  (repeat refine RC.seq ?_); refine RC.region ?_
  refine Run.v rfl rfl rfl (Val.ix tabOk 0 (off' := 0) rfl rfl rfl rfl rfl rfl rfl (by decide) rfl) ?_
  refine Run.v rfl rfl rfl (Val.load (v := .int .u8 x0) tabOk rfl rfl rfl (by repeat (first | exact List.mem_cons_self | apply List.mem_cons_of_mem | apply List.mem_append_right)) rfl) ?_
  refine Run.v rfl rfl rfl (Val.buildA tabOk (parts := [(0, .const (.int .u8 2)), (1, .tmp 20)]) (vs := [.int .u8 2, .int .u8 x0]) (cells := (u8s m).toArray) rfl rfl rfl rfl rfl (by rw [hm]; rfl)) ?_
  refine Run.mk rfl rfl rfl (New.alloc tabOk rfl rfl) ?_
  intro b6
  refine Run.op rfl (OpTo.setAll tabOk rfl rfl rfl rfl rfl (List.Perm.refl _) hm8 rfl) (fun _ => ?_)
  refine Run.nil (RQ.next ?_)
  (repeat refine RC.seq ?_); refine RC.region ?_
  refine Run.v rfl rfl rfl (Val.of rfl) ?_
  refine Run.v rfl rfl rfl (Val.ix tabOk 0 (off' := 0) rfl rfl rfl rfl rfl rfl rfl (by decide) rfl) ?_
  refine Run.v rfl rfl rfl (Val.load (v := .int .u8 x0) tabOk rfl rfl rfl (by repeat (first | exact List.mem_cons_self | apply List.mem_cons_of_mem | apply List.mem_append_right)) rfl) ?_
  refine Run.v rfl rfl rfl (Val.convIn tabOk rfl rfl rfl rfl rfl rfl (by dsimp only [inK]; omega)) ?_
  refine Run.v rfl rfl rfl (Val.eq (Val.remN rfl rfl rfl rfl (by decide)) (show _ = Value.int .i64 i from by rw [hi])) ?_
  refine Run.v rfl rfl rfl (Val.loadU tabOk rfl rfl rfl rfl (by repeat (first | exact List.mem_cons_self | apply List.mem_cons_of_mem | apply List.mem_append_right)) hm8) ?_
  refine Run.callV Tryd.func13 rfl rfl rfl rfl rfl rfl rfl (fun w' hm => hS1 tb w' (htr w' (fun q hq => hm.has q (List.mem_cons_of_mem _ (List.mem_append_left _ hq)))) (hK.fr hm.fr (by simp))) ?_
  refine Run.v rfl rfl rfl (Val.of rfl) ?_
  refine Run.v rfl rfl rfl (Val.of rfl) ?_
  refine Run.v rfl rfl rfl (Val.of rfl) ?_
  refine Run.mk rfl rfl rfl (New.allocTo tabOk (cs := sgz.toArray) rfl rfl (by kernel_rfl)) ?_
  intro b7
  refine Run.op rfl (OpTo.setV tabOk [] sgz (sigC (i : Int) op1 sh1 pa1) [] rfl rfl rfl rfl rfl (List.Perm.refl _) rfl (by simp) rfl (by rw [sgz_len, s1]) (by rw [s1]; rfl) sigC_one) (fun _ => ?_)
  rw [List.nil_append, List.append_nil]
  refine Run.v rfl rfl rfl (Val.of rfl) ?_
  refine Run.nil (RQ.next ?_)
  (repeat refine RC.seq ?_); refine RC.region ?_
  refine Run.v rfl rfl rfl (Val.of rfl) ?_
  refine Run.v rfl rfl rfl (Val.ix tabOk 1 (off' := 1) rfl rfl rfl rfl rfl rfl rfl (by decide) rfl) ?_
  refine Run.v rfl rfl rfl (Val.load (v := .int .u8 x1) tabOk rfl rfl rfl (by repeat (first | exact List.mem_cons_self | apply List.mem_cons_of_mem | apply List.mem_append_right)) rfl) ?_
  refine Run.v rfl rfl rfl (Val.convIn tabOk rfl rfl rfl rfl rfl rfl (by dsimp only [inK]; omega)) ?_
  refine Run.v rfl rfl rfl (Val.eq (Val.remN rfl rfl rfl rfl (by decide)) (show _ = Value.int .i64 j from by rw [hj])) ?_
  refine Run.v rfl rfl rfl (Val.loadU tabOk rfl rfl rfl rfl (by repeat (first | exact List.mem_cons_self | apply List.mem_cons_of_mem | apply List.mem_append_right)) hm8) ?_
  refine Run.callV Tryd.func13 rfl rfl rfl rfl rfl rfl rfl (fun w' hm => hS2 tb w' (htr w' (fun q hq => hm.has q (List.mem_cons_of_mem _ (List.mem_cons_of_mem _ (List.mem_append_left _ hq))))) (hK.fr hm.fr (by simp))) ?_
  refine Run.v rfl rfl rfl (Val.of rfl) ?_
  refine Run.v rfl rfl rfl (Val.of rfl) ?_
  refine Run.v rfl rfl rfl (Val.of rfl) ?_
  refine Run.mk rfl rfl rfl (New.allocTo tabOk (cs := sgz.toArray) rfl rfl (by kernel_rfl)) ?_
  intro b9
  refine Run.op rfl (OpTo.setV tabOk [] sgz (sigC (j : Int) op2 sh2 pa2) [] rfl rfl rfl rfl rfl (List.Perm.refl _) rfl (by simp) rfl (by rw [sgz_len, s2]) (by rw [s2]; rfl) sigC_one) (fun _ => ?_)
  rw [List.nil_append, List.append_nil]
  refine Run.v rfl rfl rfl (Val.of rfl) ?_
  refine Run.nil (RQ.next ?_)
  (repeat refine RC.seq ?_); refine RC.region ?_
  refine Run.v rfl rfl rfl (Val.of rfl) ?_
  refine Run.v rfl rfl rfl (Val.of rfl) ?_
  refine Run.v rfl rfl rfl (Val.of rfl) ?_
  refine Run.vG (Wanted.guard rfl rfl rfl rfl) rfl rfl (Val.of rfl) ?_
  refine Run.vG (Wanted.guard rfl rfl rfl rfl) rfl rfl (Val.of rfl) ?_
  refine Run.v rfl rfl rfl (Val.of rfl) ?_
  refine Run.nil (RQ.next ?_)
  (repeat refine RC.seq ?_); refine RC.condF rfl rfl (RC.skip (RQ.next ?_))
  (repeat refine RC.seq ?_); refine RC.region ?_
  refine Run.v rfl rfl rfl (Val.loadAll tabOk rfl rfl rfl rfl m1 (by rw [List.size_toArray, s1]; rfl)) ?_
  refine Run.mk rfl rfl rfl (New.allocTo tabOk (cs := sgz.toArray) rfl rfl (by kernel_rfl)) ?_
  intro b11
  refine Run.op rfl (OpTo.setV tabOk [] sgz (sigC (i : Int) op1 sh1 pa1) [] rfl rfl rfl rfl rfl (List.Perm.refl _) rfl (by simp) rfl (by rw [sgz_len, s1]) (by rw [s1]; rfl) sigC_one) (fun _ => ?_)
  rw [List.nil_append, List.append_nil]
  refine Run.nil (RQ.next ?_)
  (repeat refine RC.seq ?_); refine RC.region ?_
  refine Run.v rfl rfl rfl (Val.fieldAddr tabOk rfl rfl rfl rfl rfl rfl rfl rfl) ?_
  refine Run.v rfl rfl rfl (Val.loadR (cs := u8s pa2) tabOk rfl rfl rfl rfl (by rw [u8s_len, g3]; rfl) (Rd.row m1 (sigC_path g1 g2))) ?_
  refine Run.v rfl rfl rfl (Val.fieldAddr tabOk rfl rfl rfl rfl rfl rfl rfl rfl) ?_
  refine Run.op rfl (OpTo.setV tabOk ([Value.int .i64 i] ++ u8s op1 ++ u8s sh1) (u8s pa1) (u8s pa2) [] rfl rfl rfl rfl rfl (List.Perm.refl _) rfl (by simp [sigC]) (by simp [u8s_len, h1, h2]) (by rw [u8s_len, u8s_len, h3, g3]) (by rw [u8s_len, g3]; rfl) (u8s_one _)) (fun _ => ?_)
  rw [show [Value.int .i64 i] ++ u8s op1 ++ u8s sh1 ++ u8s pa2 ++ [] = sigC (i : Int) op1 sh1 pa2 from by simp [sigC]]
  refine Run.nil (RQ.next ?_)
  (repeat refine RC.seq ?_); refine RC.region ?_
  refine Run.v rfl rfl rfl (Val.loadAll tabOk rfl rfl rfl rfl m2 (by rw [List.size_toArray, s1]; rfl)) ?_
  refine Run.mk rfl rfl rfl (New.allocTo tabOk (cs := sgz.toArray) rfl rfl (by kernel_rfl)) ?_
  intro b12
  refine Run.op rfl (OpTo.setV tabOk [] sgz (sigC (i : Int) op1 sh1 pa1) [] rfl rfl rfl rfl rfl (List.Perm.refl _) rfl (by simp) rfl (by rw [sgz_len, s1]) (by rw [s1]; rfl) sigC_one) (fun _ => ?_)
  rw [List.nil_append, List.append_nil]
  refine Run.nil (RQ.next ?_)
  (repeat refine RC.seq ?_); refine RC.region ?_
  refine Run.v rfl rfl rfl (Val.fieldAddr tabOk rfl rfl rfl rfl rfl rfl rfl rfl) ?_
  refine Run.v rfl rfl rfl (Val.load (v := .int .i64 j) tabOk rfl rfl rfl m2 rfl) ?_
  refine Run.v rfl rfl rfl (Val.fieldAddr tabOk rfl rfl rfl rfl rfl rfl rfl rfl) ?_
  refine Run.op rfl (OpTo.setV tabOk [] [Value.int .i64 i] [Value.int .i64 j] (u8s op1 ++ (u8s sh1 ++ u8s pa1)) rfl rfl rfl rfl rfl (List.Perm.refl _) rfl (sigC_z _ j op1 sh1 pa1).1 rfl rfl rfl (fun u hu => by rw [List.mem_singleton] at hu; subst hu; rfl)) (fun _ => ?_)
  rw [(sigC_z i j op1 sh1 pa1).2]
  refine Run.nil (RQ.next ?_)
  have hto : ∀ {w' : World}, Mem w [] ((b12, .cells (sigC (j : Int) op1 sh1 pa1).toArray 30 (0, 0)) :: (b11, .cells (sigC (i : Int) op1 sh1 pa2).toArray 30 (0, 0)) :: (b9, .cells (sigC (j : Int) op2 sh2 pa2).toArray 30 (0, 0)) :: (b7, .cells (sigC (i : Int) op1 sh1 pa1).toArray 30 (0, 0)) :: (b6, .cells (u8s m).toArray 23 (0, 0)) :: (bl ++ [(b3, .cells (u8s [x0, x1]).toArray 38 (0, 0)), (b2, .cells (u8s seed).toArray 23 (0, 0))])) w' → TreeW 88 65 w' tb seed :=
    fun hm => htr _ (fun q hq => hm.has q (List.mem_cons_of_mem _ (List.mem_cons_of_mem _ (List.mem_cons_of_mem _ (List.mem_cons_of_mem _ (List.mem_cons_of_mem _ (List.mem_append_left _ hq)))))))
  (repeat refine RC.seq ?_); refine RC.drawS mixed (N := 37) rfl ?_
  refine DR.take 0 rfl (by repeat (first | exact List.nil_sublist _ | exact List.Sublist.refl _ | apply List.Sublist.cons_cons | apply List.Sublist.cons)) inferInstance (by kernel_rfl) (by kernel_rfl) (by kernel_rfl) (by kernel_rfl) rfl rfl (Wanted.plain rfl) (Val.of rfl) ?_
  refine DR.take 2 rfl (by repeat (first | exact List.nil_sublist _ | exact List.Sublist.refl _ | apply List.Sublist.cons_cons | apply List.Sublist.cons)) inferInstance (by kernel_rfl) (by kernel_rfl) (by kernel_rfl) (by kernel_rfl) rfl rfl (Wanted.plain rfl) (Val.loadU tabOk rfl rfl rfl rfl m4 hm8) ?_
  refine DR.take 3 rfl (by repeat (first | exact List.nil_sublist _ | exact List.Sublist.refl _ | apply List.Sublist.cons_cons | apply List.Sublist.cons)) inferInstance (by kernel_rfl) (by kernel_rfl) (by kernel_rfl) (by kernel_rfl) rfl rfl (Wanted.plain rfl) (Val.loadAll tabOk rfl rfl rfl rfl m1 (by rw [List.size_toArray, s3]; rfl)) ?_
  refine DR.take 5 rfl (by repeat (first | exact List.nil_sublist _ | exact List.Sublist.refl _ | apply List.Sublist.cons_cons | apply List.Sublist.cons)) inferInstance (by kernel_rfl) (by kernel_rfl) (by kernel_rfl) (by kernel_rfl) rfl rfl (Wanted.plain rfl) (Val.of rfl) ?_
  refine DR.take 7 rfl (by repeat (first | exact List.nil_sublist _ | exact List.Sublist.refl _ | apply List.Sublist.cons_cons | apply List.Sublist.cons)) inferInstance (by kernel_rfl) (by kernel_rfl) (by kernel_rfl) (by kernel_rfl) rfl rfl (Wanted.plain rfl) (Val.loadU tabOk rfl rfl rfl rfl m4 hm8) ?_
  refine DR.take 8 rfl (by repeat (first | exact List.nil_sublist _ | exact List.Sublist.refl _ | apply List.Sublist.cons_cons | apply List.Sublist.cons)) inferInstance (by kernel_rfl) (by kernel_rfl) (by kernel_rfl) (by kernel_rfl) rfl rfl (Wanted.plain rfl) (Val.loadAll tabOk rfl rfl rfl rfl m1 (by rw [List.size_toArray, s3]; rfl)) ?_
  refine DR.one (i := 1) (by kernel_rfl) ?_
  refine DOp.op rfl (Wanted.plain rfl) (OpTo.callV Tryd.func15 rfl rfl rfl rfl rfl rfl (fun w' hm => hR tb w' (hto hm) (hK.fr hm.fr (by simp)))) (.inl fun _ => (by repeat (first | exact List.nil_sublist _ | exact List.Sublist.refl _ | apply List.Sublist.cons_cons | apply List.Sublist.cons))) (fun _ => ?_)
  refine DR.one (i := 4) (by kernel_rfl) ?_
  refine DOp.op rfl (Wanted.plain rfl) (OpTo.callV Tryd.func17 rfl rfl rfl rfl rfl rfl (fun w' hm => hC3 w' (hK.fr hm.fr (by simp)))) (.inl fun _ => (by repeat (first | exact List.nil_sublist _ | exact List.Sublist.refl _ | apply List.Sublist.cons_cons | apply List.Sublist.cons))) (fun _ => ?_)
  refine DR.one (i := 6) (by kernel_rfl) ?_
  refine DOp.op rfl (Wanted.plain rfl) (OpTo.callV Tryd.func15 rfl rfl rfl rfl rfl rfl (fun w' hm => hR tb w' (hto hm) (hK.fr hm.fr (by simp)))) (.inl fun _ => (by repeat (first | exact List.nil_sublist _ | exact List.Sublist.refl _ | apply List.Sublist.cons_cons | apply List.Sublist.cons))) (fun _ => ?_)
  refine DR.one (i := 9) (by kernel_rfl) ?_
  refine DOp.op rfl (Wanted.plain rfl) (OpTo.callV Tryd.func18 rfl rfl rfl rfl rfl rfl (fun w' hm => hD3 w')) (.inl fun _ => (by repeat (first | exact List.nil_sublist _ | exact List.Sublist.refl _ | apply List.Sublist.cons_cons | apply List.Sublist.cons))) (fun _ => ?_)
  refine DR.take 10 rfl (by repeat (first | exact List.nil_sublist _ | exact List.Sublist.refl _ | apply List.Sublist.cons_cons | apply List.Sublist.cons)) inferInstance (by kernel_rfl) (by kernel_rfl) (by kernel_rfl) (by kernel_rfl) rfl rfl (Wanted.plain rfl) (Val.eq (Val.eqBool tabOk rfl rfl rfl rfl rfl) (show _ = Value.bool true from by cases ok3 <;> rfl)) ?_
  refine DR.take 11 rfl (by repeat (first | exact List.nil_sublist _ | exact List.Sublist.refl _ | apply List.Sublist.cons_cons | apply List.Sublist.cons)) inferInstance (by kernel_rfl) (by kernel_rfl) (by kernel_rfl) (by kernel_rfl) rfl rfl (Wanted.plain rfl) (Val.of rfl) ?_
  refine DR.take 12 rfl (by repeat (first | exact List.nil_sublist _ | exact List.Sublist.refl _ | apply List.Sublist.cons_cons | apply List.Sublist.cons)) inferInstance (by kernel_rfl) (by kernel_rfl) (by kernel_rfl) (by kernel_rfl) rfl rfl (Wanted.guard rfl rfl rfl rfl) (Val.of rfl) ?_
  refine DR.take 14 rfl (by repeat (first | exact List.nil_sublist _ | exact List.Sublist.refl _ | apply List.Sublist.cons_cons | apply List.Sublist.cons)) inferInstance (by kernel_rfl) (by kernel_rfl) (by kernel_rfl) (by kernel_rfl) rfl rfl (Wanted.guard rfl rfl rfl rfl) (Val.loadU tabOk rfl rfl rfl rfl m4 hm8) ?_
  refine DR.take 15 rfl (by repeat (first | exact List.nil_sublist _ | exact List.Sublist.refl _ | apply List.Sublist.cons_cons | apply List.Sublist.cons)) inferInstance (by kernel_rfl) (by kernel_rfl) (by kernel_rfl) (by kernel_rfl) rfl rfl (Wanted.guard rfl rfl rfl rfl) (Val.loadAll tabOk rfl rfl rfl rfl m0 (by rw [List.size_toArray, s4]; rfl)) ?_
  refine DR.take 17 rfl (by repeat (first | exact List.nil_sublist _ | exact List.Sublist.refl _ | apply List.Sublist.cons_cons | apply List.Sublist.cons)) inferInstance (by kernel_rfl) (by kernel_rfl) (by kernel_rfl) (by kernel_rfl) rfl rfl (Wanted.guard rfl rfl rfl rfl) (Val.of rfl) ?_
  refine DR.take 19 rfl (by repeat (first | exact List.nil_sublist _ | exact List.Sublist.refl _ | apply List.Sublist.cons_cons | apply List.Sublist.cons)) inferInstance (by kernel_rfl) (by kernel_rfl) (by kernel_rfl) (by kernel_rfl) rfl rfl (Wanted.guard rfl rfl rfl rfl) (Val.loadU tabOk rfl rfl rfl rfl m4 hm8) ?_
  refine DR.take 20 rfl (by repeat (first | exact List.nil_sublist _ | exact List.Sublist.refl _ | apply List.Sublist.cons_cons | apply List.Sublist.cons)) inferInstance (by kernel_rfl) (by kernel_rfl) (by kernel_rfl) (by kernel_rfl) rfl rfl (Wanted.guard rfl rfl rfl rfl) (Val.loadAll tabOk rfl rfl rfl rfl m0 (by rw [List.size_toArray, s4]; rfl)) ?_
  refine DR.one (i := 13) (by kernel_rfl) ?_
  refine DOp.op rfl (Wanted.guard rfl rfl rfl rfl) (OpTo.callV Tryd.func15 rfl rfl rfl rfl rfl rfl (fun w' hm => hR tb w' (hto hm) (hK.fr hm.fr (by simp)))) (.inl fun _ => by repeat (first | exact List.nil_sublist _ | exact List.Sublist.refl _ | apply List.Sublist.cons_cons | apply List.Sublist.cons)) (fun _ => ?_)
  refine DR.one (i := 16) (by kernel_rfl) ?_
  refine DOp.op rfl (Wanted.guard rfl rfl rfl rfl) (OpTo.callV Tryd.func17 rfl rfl rfl rfl rfl rfl (fun w' hm => hC4 w' (hK.fr hm.fr (by simp)))) (.inl fun _ => by repeat (first | exact List.nil_sublist _ | exact List.Sublist.refl _ | apply List.Sublist.cons_cons | apply List.Sublist.cons)) (fun _ => ?_)
  refine DR.one (i := 18) (by kernel_rfl) ?_
  refine DOp.op rfl (Wanted.guard rfl rfl rfl rfl) (OpTo.callV Tryd.func15 rfl rfl rfl rfl rfl rfl (fun w' hm => hR tb w' (hto hm) (hK.fr hm.fr (by simp)))) (.inl fun _ => by repeat (first | exact List.nil_sublist _ | exact List.Sublist.refl _ | apply List.Sublist.cons_cons | apply List.Sublist.cons)) (fun _ => ?_)
  refine DR.one (i := 21) (by kernel_rfl) ?_
  refine DOp.op rfl (Wanted.guard rfl rfl rfl rfl) (OpTo.callV Tryd.func18 rfl rfl rfl rfl rfl rfl (fun w' hm => hD4 w')) (.inl fun _ => by repeat (first | exact List.nil_sublist _ | exact List.Sublist.refl _ | apply List.Sublist.cons_cons | apply List.Sublist.cons)) (fun _ => ?_)
  refine DR.take 22 rfl (by repeat (first | exact List.nil_sublist _ | exact List.Sublist.refl _ | apply List.Sublist.cons_cons | apply List.Sublist.cons)) inferInstance (by kernel_rfl) (by kernel_rfl) (by kernel_rfl) (by kernel_rfl) rfl rfl (Wanted.guard rfl rfl rfl rfl) (Val.eq (Val.eqBool tabOk rfl rfl rfl rfl rfl) (show _ = Value.bool true from by cases ok4 <;> rfl)) ?_
  refine DR.take 23 rfl (by repeat (first | exact List.nil_sublist _ | exact List.Sublist.refl _ | apply List.Sublist.cons_cons | apply List.Sublist.cons)) inferInstance (by kernel_rfl) (by kernel_rfl) (by kernel_rfl) (by kernel_rfl) rfl rfl (Wanted.plain rfl) (Val.of rfl) ?_
  refine DR.take 24 rfl (by repeat (first | exact List.nil_sublist _ | exact List.Sublist.refl _ | apply List.Sublist.cons_cons | apply List.Sublist.cons)) inferInstance (by kernel_rfl) (by kernel_rfl) (by kernel_rfl) (by kernel_rfl) rfl rfl (Wanted.plain rfl) (Val.of rfl) ?_
  refine DR.take 25 rfl (by repeat (first | exact List.nil_sublist _ | exact List.Sublist.refl _ | apply List.Sublist.cons_cons | apply List.Sublist.cons)) inferInstance (by kernel_rfl) (by kernel_rfl) (by kernel_rfl) (by kernel_rfl) rfl rfl (Wanted.guard rfl rfl rfl rfl) (Val.fieldAddr tabOk rfl rfl rfl rfl rfl rfl rfl rfl) ?_
  refine DR.take 26 rfl (by repeat (first | exact List.nil_sublist _ | exact List.Sublist.refl _ | apply List.Sublist.cons_cons | apply List.Sublist.cons)) inferInstance (by kernel_rfl) (by kernel_rfl) (by kernel_rfl) (by kernel_rfl) rfl rfl (Wanted.guard rfl rfl rfl rfl) (Val.load (v := .int .i64 i) tabOk rfl rfl rfl m3 rfl) ?_
  refine DR.take 27 rfl (by repeat (first | exact List.nil_sublist _ | exact List.Sublist.refl _ | apply List.Sublist.cons_cons | apply List.Sublist.cons)) inferInstance (by kernel_rfl) (by kernel_rfl) (by kernel_rfl) (by kernel_rfl) rfl rfl (Wanted.guard rfl rfl rfl rfl) (Val.fieldAddr tabOk rfl rfl rfl rfl rfl rfl rfl rfl) ?_
  refine DR.take 28 rfl (by repeat (first | exact List.nil_sublist _ | exact List.Sublist.refl _ | apply List.Sublist.cons_cons | apply List.Sublist.cons)) inferInstance (by kernel_rfl) (by kernel_rfl) (by kernel_rfl) (by kernel_rfl) rfl rfl (Wanted.guard rfl rfl rfl rfl) (Val.load (v := .int .i64 j) tabOk rfl rfl rfl m2 rfl) ?_
  by_cases hij : i = j
  · obtain ⟨e1, e2, e3⟩ := hsame hij
    have ez : (i : Int) = (j : Int) := by omega
    have hkk := sigC_kinds (z := (i : Int)) h1 h2 h3
    refine DR.take 29 rfl (by repeat (first | exact List.nil_sublist _ | exact List.Sublist.refl _ | apply List.Sublist.cons_cons | apply List.Sublist.cons)) inferInstance (by kernel_rfl) (by kernel_rfl) (by kernel_rfl) (by kernel_rfl) rfl rfl (Wanted.guard rfl rfl rfl rfl) (Val.eq (Val.of rfl) (show _ = Value.bool false from congrArg Value.bool (by simp [hij]))) ?_
    refine DR.take 30 rfl (by repeat (first | exact List.nil_sublist _ | exact List.Sublist.refl _ | apply List.Sublist.cons_cons | apply List.Sublist.cons)) inferInstance (by kernel_rfl) (by kernel_rfl) (by kernel_rfl) (by kernel_rfl) rfl rfl (Wanted.guard rfl rfl rfl rfl) (Val.of rfl) ?_
    refine DR.take 31 rfl (by repeat (first | exact List.nil_sublist _ | exact List.Sublist.refl _ | apply List.Sublist.cons_cons | apply List.Sublist.cons)) inferInstance (by kernel_rfl) (by kernel_rfl) (by kernel_rfl) (by kernel_rfl) rfl rfl (Wanted.guard rfl rfl rfl rfl) (Val.loadAll tabOk rfl rfl rfl rfl m3 (by rw [List.size_toArray, s1]; rfl)) ?_
    refine DR.take 32 rfl (by repeat (first | exact List.nil_sublist _ | exact List.Sublist.refl _ | apply List.Sublist.cons_cons | apply List.Sublist.cons)) inferInstance (by kernel_rfl) (by kernel_rfl) (by kernel_rfl) (by kernel_rfl) rfl rfl (Wanted.guard rfl rfl rfl rfl) (Val.eq (Val.loadAll tabOk rfl rfl rfl rfl m2 (by rw [List.size_toArray, s2]; rfl)) (congrArg (fun c : List Value => Value.agg c.toArray) (show sigC (j : Int) op2 sh2 pa2 = sigC (i : Int) op1 sh1 pa1 from by rw [e1, e2, e3, ez]))) ?_
    refine DR.take 33 rfl (by repeat (first | exact List.nil_sublist _ | exact List.Sublist.refl _ | apply List.Sublist.cons_cons | apply List.Sublist.cons)) inferInstance (by kernel_rfl) (by kernel_rfl) (by kernel_rfl) (by kernel_rfl) rfl rfl (Wanted.guard rfl rfl rfl rfl) (Val.eqC (p := true) tabOk rfl rfl rfl (by kernel_rfl) (by kernel_rfl) rfl rfl hkk hkk ⟨fun _ => rfl, fun _ => rfl⟩) ?_
    refine DR.take 34 rfl (by repeat (first | exact List.nil_sublist _ | exact List.Sublist.refl _ | apply List.Sublist.cons_cons | apply List.Sublist.cons)) inferInstance (by kernel_rfl) (by kernel_rfl) (by kernel_rfl) (by kernel_rfl) rfl rfl (Wanted.guard rfl rfl rfl rfl) (Val.of rfl) ?_
    refine DR.take 35 rfl (by repeat (first | exact List.nil_sublist _ | exact List.Sublist.refl _ | apply List.Sublist.cons_cons | apply List.Sublist.cons)) inferInstance (by kernel_rfl) (by kernel_rfl) (by kernel_rfl) (by kernel_rfl) rfl rfl (Wanted.plain rfl) (Val.of rfl) ?_
    refine DR.take 36 rfl (by repeat (first | exact List.nil_sublist _ | exact List.Sublist.refl _ | apply List.Sublist.cons_cons | apply List.Sublist.cons)) inferInstance (by kernel_rfl) (by kernel_rfl) (by kernel_rfl) (by kernel_rfl) rfl rfl (Wanted.plain rfl) (Val.of rfl) ?_
    refine DR.done (by kernel_rfl) (RQ.next ?_)
    refine RC.ret ?_; (repeat first | refine RQ.thenRet ?_ | refine RQ.blockRet ?_); exact RQ.ret1 rfl (Res.tmp rfl) fun w' hm => ⟨rfl, hm.fr⟩
  · refine DR.take 29 rfl (by repeat (first | exact List.nil_sublist _ | exact List.Sublist.refl _ | apply List.Sublist.cons_cons | apply List.Sublist.cons)) inferInstance (by kernel_rfl) (by kernel_rfl) (by kernel_rfl) (by kernel_rfl) rfl rfl (Wanted.guard rfl rfl rfl rfl) (Val.eq (Val.of rfl) (show _ = Value.bool true from congrArg Value.bool (by simp; omega))) ?_
    refine DR.take 30 rfl (by repeat (first | exact List.nil_sublist _ | exact List.Sublist.refl _ | apply List.Sublist.cons_cons | apply List.Sublist.cons)) inferInstance (by kernel_rfl) (by kernel_rfl) (by kernel_rfl) (by kernel_rfl) rfl rfl (Wanted.guard rfl rfl rfl rfl) (Val.of rfl) ?_
    refine DR.pass 31 rfl (by repeat (first | exact List.nil_sublist _ | exact List.Sublist.refl _ | apply List.Sublist.cons_cons | apply List.Sublist.cons)) inferInstance (by kernel_rfl) (by kernel_rfl) (by kernel_rfl) (by kernel_rfl) rfl rfl (Wanted.guard rfl rfl rfl rfl) ?_
    refine DR.pass 32 rfl (by repeat (first | exact List.nil_sublist _ | exact List.Sublist.refl _ | apply List.Sublist.cons_cons | apply List.Sublist.cons)) inferInstance (by kernel_rfl) (by kernel_rfl) (by kernel_rfl) (by kernel_rfl) rfl rfl (Wanted.guard rfl rfl rfl rfl) ?_
    refine DR.pass 33 rfl (by repeat (first | exact List.nil_sublist _ | exact List.Sublist.refl _ | apply List.Sublist.cons_cons | apply List.Sublist.cons)) inferInstance (by kernel_rfl) (by kernel_rfl) (by kernel_rfl) (by kernel_rfl) rfl rfl (Wanted.guard rfl rfl rfl rfl) ?_
    refine DR.take 34 rfl (by repeat (first | exact List.nil_sublist _ | exact List.Sublist.refl _ | apply List.Sublist.cons_cons | apply List.Sublist.cons)) inferInstance (by kernel_rfl) (by kernel_rfl) (by kernel_rfl) (by kernel_rfl) rfl rfl (Wanted.guard rfl rfl rfl rfl) (Val.of rfl) ?_
    refine DR.take 35 rfl (by repeat (first | exact List.nil_sublist _ | exact List.Sublist.refl _ | apply List.Sublist.cons_cons | apply List.Sublist.cons)) inferInstance (by kernel_rfl) (by kernel_rfl) (by kernel_rfl) (by kernel_rfl) rfl rfl (Wanted.plain rfl) (Val.of rfl) ?_
    refine DR.take 36 rfl (by repeat (first | exact List.nil_sublist _ | exact List.Sublist.refl _ | apply List.Sublist.cons_cons | apply List.Sublist.cons)) inferInstance (by kernel_rfl) (by kernel_rfl) (by kernel_rfl) (by kernel_rfl) rfl rfl (Wanted.plain rfl) (Val.of rfl) ?_
    refine DR.done (by kernel_rfl) (RQ.next ?_)
    refine RC.ret ?_; (repeat first | refine RQ.thenRet ?_ | refine RQ.blockRet ?_); exact RQ.ret1 rfl (Res.tmp rfl) fun w' hm => ⟨rfl, hm.fr⟩
end Go.Proofs.YtilfbomjaflbjaaDoor
