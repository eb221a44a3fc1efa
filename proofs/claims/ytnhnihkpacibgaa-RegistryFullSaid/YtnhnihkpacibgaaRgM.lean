/- registry's law: RegistryTimes. -/
import Derived.Test.YtnhnihkpacibgaaRgL
import Derived.Test.YtnhnihkpacibgaaFin6
set_option linter.unusedSimpArgs false
set_option linter.unusedVariables false
namespace Go.Proofs.Ytnhnihkpacibgaa
attribute [local irreducible] Go.Vc.Run Go.Vc.RC Go.Vc.RQ Go.Vc.DR Go.Vc.DOp
open Go Go.Vc Go.Sha

set_option maxRecDepth 10000 in set_option maxHeartbeats 4000000 in
theorem lawSide_calls (r : Rc) (w : World) : MakesD Try.prog 24 [.agg (r.c (.slice none 0 0) (.slice none 0 0)).toArray] w (fun uv : Value => .agg (r.c (.slice none 0 0) uv).toArray) (fun uv => uv.oneCell' = true) (fun _ _ => True) := by
  refine enter Try.func24 rfl (Mem.nil w []) rfl ?_
  refine z_ ?_
  refine Run.nw nbx ?_
  intro b1
  refine Run.nw nal ?_
  intro b2
  refine z_ ?_
  (repeat refine RC.seq ?_); refine RC.draw ([(b1, .cells (r.c (.slice none 0 0) (.slice none 0 0)).toArray 65 (0, 0))]) mixed (N := 27) rfl ?_
  refine dt 0 ?_
  refine dt 1 ?_
  refine dt 2 ?_
  refine dt 3 ?_
  refine dt 4 ?_
  refine dt 5 ?_
  refine dt 6 ?_
  refine dt 7 ?_
  refine dt 8 ?_
  refine dt 9 ?_
  refine dt 10 ?_
  refine dt 11 ?_
  refine dt 12 ?_
  refine dt 13 ?_
  refine dt 14 ?_
  refine dt 15 ?_
  refine dt 16 ?_
  refine dt 17 ?_
  refine dt 18 ?_
  refine dt 19 ?_
  refine dt 20 ?_
  refine dt 21 ?_
  refine dt 22 ?_
  refine dt 23 ?_
  refine DR.c 24 (DOp.op1 rfl (OpTo.append (L1 := [(b2, .cells zeroC.toArray 44 (0, 0)), (b1, .cells (r.c (.slice none 0 0) (.slice none 0 0)).toArray 65 (0, 0))]) tabOk Own.nil Src.nil rfl rfl rfl rfl rfl rfl rfl rfl rfl (List.Perm.refl _) (fun u hu => by cases hu) (by unfold maxLen; decide) (by decide)) ?_)
  rintro ⟨⟨uv, ub⟩, hu⟩
  dsimp only at hu ⊢
  have huo := hu.one
  refine DR.t 25 rfl (vbs (r.c (.slice none 0 0) uv).toArray (hf := by obtain ⟨a, c, rfl, _⟩ := hu.shape; kernel_rfl)) ?_
  refine DR.c 26 (DOp.op1 rfl (osa (r.c (.slice none 0 0) uv).toArray (r.one rfl huo)) (fun _ => ?_))
  refine DR.done (by kernel_rfl) ?_
  refine z_ ?_
  exact RQ.ret1 rfl (Res.cellAll tabOk rfl rfl rfl m0 rfl) fun w' hm => MakesD.of (V := fun uv : Value => .agg (r.c (.slice none 0 0) uv).toArray) (bl := []) uv hm (fun p hp => by cases hp) List.nodup_nil huo (fun _ _ => trivial)

set_option maxRecDepth 10000 in set_option maxHeartbeats 4000000 in
theorem RegistryTimes_calls (zs : List Int) (hz : zs.length = 5) (h e : Int) (hh : h ≤ 9223372036854775807) (w : World) :
    Gives Try.prog 6 [.agg (i64s zs).toArray, .int .i64 h, .int .i64 e] (.bool true) w := by
  obtain ⟨z0, z1, z2, z3, z4, rfl⟩ : ∃ a b c d e, zs = [a, b, c, d, e] := by
    match zs, hz with
    | [a, b, c, d, e], _ => exact ⟨a, b, c, d, e, rfl⟩
  refine enter Try.func6 rfl (Mem.nil w []) rfl ?_
  obtain ⟨r, hr⟩ : ∃ r : Rc, r = ⟨z1, z2, 0, z0, 0, 0, false, 0, [], []⟩ := ⟨_, rfl⟩
  refine z_ ?_
  refine Run.nw nbx ?_
  intro b3
  refine z_ ?_
  refine Run.op1 (OpTo.cv Try.func9 (fun w' _ => rg_awake_calls w')) (fun _ => ?_)
  refine z_ ?_
  refine Run.a (via 0 0) ?_
  refine z_ ?_
  refine Run.a (via 1 1) ?_
  refine z_ ?_
  refine Run.a (via 2 2) ?_
  refine z_ ?_
  refine Run.a (vbs (prm z1 z2 0 (.slice none 0 0)).toArray) ?_
  refine Run.a (vbs (r.c (.slice none 0 0) (.slice none 0 0)).toArray (hf := by rw [hr]; kernel_rfl)) ?_
  refine Run.nw nal ?_
  intro b7
  refine Run.op1 (osa (r.c (.slice none 0 0) (.slice none 0 0)).toArray (r.one rfl rfl)) (fun _ => ?_)
  refine z_ ?_
  refine Run.op1 (OpTo.callD Try.func24 (fun w' _ => lawSide_calls r w')) ?_
  rintro ⟨⟨uv, bl⟩, huo, -⟩
  dsimp only at huo ⊢
  refine Run.nw nal ?_
  intro b8
  refine Run.op1 (osa (r.c (.slice none 0 0) uv).toArray (r.one rfl huo)) (fun _ => ?_)
  refine z_ ?_
  refine Run.op1 (OpTo.cv Try.func25 (fun w' _ => Epoch_calls r.ln r.wd r.nd r.made (.slice none 0 0) (restC r.bal r.fwd r.ce r.at_ uv) rfl rfl h hh w')) (fun _ => ?_)
  refine z_ ?_
  refine Run.op1 (OpTo.cv Try.func26 (fun w' _ => ref_Epoch_calls r.ln r.wd r.nd r.made (.slice none 0 0) (restC r.bal r.fwd r.ce r.at_ (.slice none 0 0)) rfl rfl h hh w')) (fun _ => ?_)
  refine z_ ?_
  (repeat refine RC.seq ?_); refine RC.drawS mixed (N := 29) rfl ?_
  refine dt 0 ?_
  refine dt 1 ?_
  refine dt 2 ?_
  refine dt 3 ?_
  refine dt 4 ?_
  refine dt 5 ?_
  refine DR.t 6 rfl (veb) ?_
  refine dt 7 ?_
  refine dt 8 ?_
  refine dt 9 ?_
  refine dt 10 ?_
  refine dt 12 ?_
  refine dt 13 ?_
  refine DR.c 11 (DOp.op1 rfl (OpTo.cv Try.func27 (fun w' _ => Ends_calls r.ln r.wd r.nd r.made (.slice none 0 0) (restC r.bal r.fwd r.ce r.at_ uv) rfl rfl e w')) (fun _ => ?_))
  refine DR.c 14 (DOp.op1 rfl (OpTo.cv Try.func28 (fun w' _ => ref_Ends_calls r.ln r.wd r.nd r.made (.slice none 0 0) (restC r.bal r.fwd r.ce r.at_ (.slice none 0 0)) rfl rfl e w')) (fun _ => ?_))
  refine dt 15 ?_
  refine dt 16 ?_
  refine dt 17 ?_
  refine dt 18 ?_
  refine dt 19 ?_
  refine dt 20 ?_
  refine dt 22 ?_
  refine dt 23 ?_
  refine dt 24 ?_
  refine DR.c 21 (DOp.op1 rfl (OpTo.cv Try.func29 (fun w' _ => Open_calls r.ln r.wd r.nd r.made (.slice none 0 0) (restC r.bal r.fwd r.ce r.at_ uv) rfl rfl e h w')) (fun _ => ?_))
  refine DR.c 25 (DOp.op1 rfl (OpTo.cv Try.func30 (fun w' _ => ref_Open_calls r.ln r.wd r.nd r.made (.slice none 0 0) (restC r.bal r.fwd r.ce r.at_ (.slice none 0 0)) rfl rfl e h w')) (fun _ => ?_))
  refine DR.t 26 rfl (veb) ?_
  refine dt 27 ?_
  refine dt 28 ?_
  refine DR.done (by kernel_rfl) ?_
  refine z_ ?_
  exact RQ.ret1 rfl (Res.tmp rfl) fun w' hm => ⟨rfl, hm.fr⟩
end Go.Proofs.Ytnhnihkpacibgaa
