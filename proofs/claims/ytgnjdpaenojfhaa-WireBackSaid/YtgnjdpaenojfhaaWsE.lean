/- wire: WireBack. -/
import Derived.Test.YtgnjdpaenojfhaaWsD
import Derived.Test.YtgnjdpaenojfhaaWrZ
set_option linter.unusedSimpArgs false
set_option linter.unusedVariables false
namespace Go.Proofs.Ytgnjdpaenojfhaa
attribute [local irreducible] Go.Vc.Run Go.Vc.RC Go.Vc.RQ Go.Vc.DR Go.Vc.DOp
open Go Go.Vc Go.Sha
set_option maxRecDepth 10000 in set_option maxHeartbeats 4000000 in
theorem WireBack_calls (ps : List PtD) (hpl : ps.length ≤ 9223372036854775807) (vl : Value) (w : World) (hs : SrcW w 11 vl ps.length (rws PtD.c ps)) (hin : PtIn w ps) :
    Gives Try.prog 5 [vl] (.bool true) w := by
  refine enter Try.func5 rfl (Mem.nil w []) rfl ?_
  obtain ⟨la, lc, rfl, hlc⟩ := hs.shape
  refine z_ ?_
  refine Run.nw (nbs (v := .slice la ps.length lc)) ?_
  intro b1
  refine z_ ?_
  refine Run.op1 (OpTo.cv Try.func8 (fun w' _ => wr_awake_calls w')) (fun _ => ?_)
  refine z_ ?_
  refine Run.op1 (OpTo.cv Try.func9 (fun w' hm => Few_calls ps hpl _ w' (hs.mem hm) (hin.fr hm.fr))) (fun _ => ?_)
  cases hfew : fewB ps with
  | false =>
    refine z_ ?_
    exact RQ.ret1 rfl (Res.tmp rfl) fun w' hm => ⟨rfl, hm.fr⟩
  | true =>
  obtain ⟨h100, h20⟩ := few_len hfew
  have hpb := few_b h20
  have hwr := fun w' h1 h2 => write_calls ps hpl hpb (.slice la ps.length lc) w' h1 h2
  refine z_ ?_
  refine Run.op1 (OpTo.callT Try.func11 (show _ from List.Perm.refl ([] ++ [(b1, Obj.cells #[.slice la ps.length lc] 22 (0, 0))])) (fun w' hm => hwr w' (hs.mem hm) (hin.fr hm.fr))) ?_
  rintro ⟨⟨v, bl⟩, hown⟩
  dsimp only at hown ⊢
  obtain ⟨W, hW⟩ : ∃ W, W = writeW ps := ⟨_, rfl⟩
  rw [← hW] at hown ⊢
  by_cases he : W.2 = 0
  case neg =>
    refine z_ ?_
    exact RQ.ret1 rfl (Res.tmp rfl) fun w' hm => ⟨rfl, hm.fr⟩
  obtain ⟨hok, hcat⟩ := writeW_ok h20 (by rw [← hW]; exact he)
  rw [← hW] at hcat
  obtain ⟨cw, hcw⟩ : ∃ c, c = catW ps := ⟨_, rfl⟩
  rw [he, hcat, ← hcw] at hown
  rw [he]
  rw [show endW cw 0 = cw from if_pos rfl] at hown
  have hcb : ∀ x ∈ cw, x < 256 := by
    intro x hx
    rw [hcw] at hx
    obtain ⟨l1, hl1, hx⟩ := List.mem_flatten.1 hx
    obtain ⟨p, _, rfl⟩ := List.mem_map.1 hl1
    exact plainW_bytes p x hx
  have hcl2 : cw.length ≤ 20000 := by
    have h1 := foldP_len ps [] true
    have h2 := (fold_same ps [] (by simp only [List.length_nil]; omega))
    have h3 : (ps.foldl stepP ([], true)).1.length = cw.length := by
      cases hb : (ps.foldl stepP ([], true)).2 with
      | true =>
        have := (foldP_cat ps [] hb).2
        rw [this, hcw]; rfl
      | false =>
        have := h2.2 hb
        rw [← show writeW ps = ps.foldl stepW ([], 0) from rfl, ← hW, he] at this
        cases this
    rw [h3] at h1
    simp only [List.length_nil] at h1
    omega
  obtain ⟨a, c, rfl, hc⟩ := hown.shape
  refine z_ ?_
  refine Run.nw nal ?_
  intro b5
  refine z_ ?_
  refine Run.op1 (os1 #[.bool true]) (fun _ => ?_)
  refine z_ ?_
  refine Run.a (Val.mkF (us := []) rfl rfl rfl) ?_
  have hz : ([(b5, Obj.cells #[.bool true] 4 (0, 0))] ++ (bl ++ [(b1, Obj.cells #[.slice la ps.length lc] 22 (0, 0))]) : Hp).Perm ([(b5, Obj.cells #[.bool true] 4 (0, 0))] ++ (bl ++ [(b1, Obj.cells #[.slice la ps.length lc] 22 (0, 0))])) := List.Perm.refl _
  have hR : ∀ w', Mem w [] ([(b5, Obj.cells #[.bool true] 4 (0, 0))] ++ (bl ++ [(b1, Obj.cells #[.slice la ps.length lc] 22 (0, 0))])) w' → Turns Try.prog 12 [.slice a cw.length c, .func (.func 14) #[] #[.pointer (some ⟨b1, 0, none⟩), .pointer (some ⟨b5, 0, none⟩)]] w' [(b5, Obj.cells #[.bool true] 4 (0, 0))] (Y := Unit) (fun _ => .int .i64 0) (fun _ => [(b5, Obj.cells #[.bool true] 4 (0, 0))]) := by
    intro w' hm
    have hnd := hm.nd
    have hb5 := hm.lt (p := (b5, Obj.cells #[.bool true] 4 (0, 0))) List.mem_cons_self
    have hb5f := hm.fresh (p := (b5, Obj.cells #[.bool true] 4 (0, 0))) (Lst := []) List.mem_cons_self (by simp)
    have hm1 : (b1, Obj.cells #[.slice la ps.length lc] 22 (0, 0)) ∈ ([(b5, Obj.cells #[.bool true] 4 (0, 0))] ++ (bl ++ [(b1, Obj.cells #[.slice la ps.length lc] 22 (0, 0))]) : Hp) := List.mem_append_right _ (List.mem_append_right _ List.mem_cons_self)
    have hb1 := hm.lt hm1
    have hnb : b5 ∉ (bl ++ [(b1, Obj.cells #[.slice la ps.length lc] 22 (0, 0))] : Hp).map (·.1) := by
      rw [List.cons_append, List.map_cons, List.nodup_cons] at hnd
      exact hnd.1
    have hne15 : b1 ≠ b5 := fun e => hnb (by rw [← e]; exact List.mem_map_of_mem (f := fun x : Nat × Obj => x.1) (a := (b1, Obj.cells #[.slice la ps.length lc] 22 (0, 0))) (List.mem_append_right bl List.mem_cons_self))
    simp only at hb5 hb5f hb1
    have hsw := hown.srcW (w := w') (fun p hp => hm.has p (List.mem_append_right _ (List.mem_append_left _ hp)))
    have he0 : readE none cw.length cw.length = 0 := if_neg (by omega)
    rw [← he0]
    refine ReadF_calls a cw.length c (by omega) hc Try.func14 rfl rfl [.pointer (some ⟨b1, 0, none⟩), .pointer (some ⟨b5, 0, none⟩)] w' _ (fun q hq => hm.has q (List.mem_append_left _ hq)) (by simp) (o := fun _ => none) (k := fun _ => cw.length) (fun _ => Nat.le_refl _) (fun _ _ h => by cases h) (fun rb w'' hf hrb hA hN => ?_)
    refine Back1_calls ps hok cw hcw hcl2 hcb hpb rb b1 b5 a c (.slice la ps.length lc) w'' h100 hA (by omega) (hsw.fr hf) (fun h0 ad had => ?_) (hf.cell (by simp) (by rw [cell_of_row w' b1 0 _ _ _ (hm.has _ hm1)]; rfl)) (by simp only [List.mem_cons, List.not_mem_nil, or_false, not_or]; omega) ((hs.mem hm).fr hf) (fun h0 ad n' c' hv => ?_) ((hin.fr hm.fr).fr hf) (fun p hp h0 ad n' c' hv => ?_)
    · subst had
      have h1 := hsw.lt h0 (by decide)
      obtain ⟨b, cap, rest, hv, hbl, _⟩ := hown.pos h0
      have hab : ad.block ≠ b5 := by
        cases hv
        intro e
        refine hnb ?_
        rw [hbl, ← e]
        exact List.mem_cons_self
      simp only [List.mem_cons, List.not_mem_nil, or_false, not_or]
      omega
    · cases hv
      have := hs.lt h0 (by decide)
      simp only [List.mem_cons, List.not_mem_nil, or_false, not_or]
      have := hm.fr.size
      omega
    · have hsp := hin p hp
      rw [hv] at hsp
      obtain ⟨_, _, hv2, _⟩ := hsp.shape
      cases hv2
      have := hsp.lt h0 (by decide)
      simp only [List.mem_cons, List.not_mem_nil, or_false, not_or]
      have := hm.fr.size
      omega
  refine Run.op1 (OpTo.callT Try.func12 hz hR) ?_
  intro _
  refine z_ ?_
  exact RQ.ret1 rfl (Res.tmp rfl) fun w' hm => ⟨rfl, hm.fr⟩
end Go.Proofs.Ytgnjdpaenojfhaa
