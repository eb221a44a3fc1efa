/- wire: WireCuts. -/
import Derived.Test.YtgnjdpaenojfhaaWsB
import Derived.Test.YtgnjdpaenojfhaaWrZ
set_option linter.unusedSimpArgs false
set_option linter.unusedVariables false
namespace Go.Proofs.Ytgnjdpaenojfhaa
attribute [local irreducible] Go.Vc.Run Go.Vc.RC Go.Vc.RQ Go.Vc.DR Go.Vc.DOp
open Go Go.Vc Go.Sha
theorem _root_.Go.Vc.SrcW.takeU {w : World} {ad : Addr} {n c : Nat} {l : List Nat} (h : SrcW w 1 (.slice (some ad) n c) n (u8s l)) (k : Nat) : SrcW w 1 (.slice (some ad) (l.take k).length c) (l.take k).length (u8s (l.take k)) := by
  cases h with
  | «at» _ _ _ _ hl hm hr =>
    rw [u8s_len] at hl
    refine .at _ _ _ _ (by rw [u8s_len, Nat.mul_one]) (by rw [List.length_take]; omega) fun j u hj => hr j u ?_
    rw [u8s_take, List.getElem?_take] at hj
    split at hj
    · exact hj
    · cases hj
set_option maxRecDepth 10000 in set_option maxHeartbeats 4000000 in
theorem ReadCuts_calls (l : List Nat) (hb : ∀ x ∈ l, x < 256) (hn : l.length ≤ 30000) (ps : List PtD) (hok : okW ps) (hpl : ps.length ≤ 100) (a : Option Addr) (c : Nat) (pv : Value) (b2 : Nat) (e : Int) (w w' : World) (hfr : Fr [] w w') (hs : SrcW w' 1 (.slice a l.length c) l.length (u8s l)) (h2 : w'.heap[b2]? = some (.cells #[pv] 22 (0, 0))) (hpv : SrcW w 11 pv ps.length (rws PtD.c ps))
    (he : readE (endR false ((kindsW ps).foldl (stepR l) (0, 0, true)).2.2) l.length ((kindsW ps).foldl (stepR l) (0, 0, true)).1 = e) :
    Turns Try.prog 12 [.slice a l.length c, .func (.func 21) #[] #[.pointer (some ⟨b2, 0, none⟩)]] w' [] (Y := Unit) (fun _ => .int .i64 e) (fun _ => []) := by
  subst he
  obtain ⟨aa, cc, hv, hcc⟩ := hs.shape
  cases hv
  refine ReadF_calls a l.length c (by omega) hcc Try.func21 rfl rfl [.pointer (some ⟨b2, 0, none⟩)] w' [] (fun _ h => by cases h) List.nodup_nil (o := fun _ => endR false ((kindsW ps).foldl (stepR l) (0, 0, true)).2.2) (k := fun _ => ((kindsW ps).foldl (stepR l) (0, 0, true)).1) (fun _ => foldR_le _ _ (Nat.zero_le _)) (fun _ q h => ?_) (fun rb w'' hf hrb hA hN => ?_)
  · unfold endR at h
    split at h
    · cases h
    · cases h; rfl
  · have hb2 : b2 < w'.heap.size := (Array.getElem?_eq_some_iff.1 h2).1
    refine Cuts1_calls l hb hn ps hok rb b2 a c pv w'' hpl hA (hs.fr hf) (fun h0 ad had => ?_) (hf.cell (by simp) (by rw [cell_of_row w' b2 0 _ _ _ h2]; rfl)) (by rw [List.mem_singleton]; omega) ((hpv.fr hfr).fr hf) (fun h0 ad n' c' hv => ?_)
    · subst had
      have := hs.lt h0 (by decide)
      rw [List.mem_singleton]
      omega
    · subst hv
      have hh := hpv.shape
      obtain ⟨_, _, hv, _⟩ := hh
      cases hv
      have := hpv.lt h0 (by decide)
      have := hfr.size
      rw [List.mem_singleton]
      omega
set_option maxRecDepth 10000 in set_option maxHeartbeats 4000000 in
theorem WireCuts_calls (ps : List PtD) (hpl : ps.length ≤ 9223372036854775807) (cut : Nat) (hcut : cut < 65536) (vl : Value) (w : World) (hs : SrcW w 11 vl ps.length (rws PtD.c ps)) (hin : PtIn w ps) :
    Gives Try.prog 7 [vl, .int .u16 cut] (.bool true) w := by
  refine enter Try.func7 rfl (Mem.nil w []) rfl ?_
  obtain ⟨la, lc, rfl, hlc⟩ := hs.shape
  refine z_ ?_
  refine Run.nw (nbs (v := .slice la ps.length lc)) ?_
  intro b2
  refine z_ ?_
  refine Run.op1 (OpTo.cv Try.func8 (fun w' _ => wr_awake_calls w')) (fun _ => ?_)
  refine z_ ?_
  refine Run.op1 (OpTo.cv Try.func9 (fun w' hm => Few_calls ps hpl _ w' (hs.mem hm) (hin.fr hm.fr))) (fun _ => ?_)
  cases hfew : fewB ps with
  | false =>
    refine z_ ?_
    exact RQ.ret1 rfl (Res.tmp rfl) fun w' hm => ⟨rfl, hm.fr⟩
  | true =>
  obtain ⟨h100, h20⟩ := few_len hfew
  have hpb := few_b h20
  have hwr := fun w' h1 h2 => write_calls ps hpl hpb (.slice la ps.length lc) w' h1 h2
  refine z_ ?_
  refine Run.op1 (OpTo.callT Try.func11 (show _ from List.Perm.refl ([] ++ [(b2, Obj.cells #[.slice la ps.length lc] 22 (0, 0))])) (fun w' hm => hwr w' (hs.mem hm) (hin.fr hm.fr))) ?_
  rintro ⟨⟨v, bl⟩, hown⟩
  dsimp only at hown ⊢
  obtain ⟨W, hW⟩ : ∃ W, W = writeW ps := ⟨_, rfl⟩
  rw [← hW] at hown ⊢
  by_cases he : W.2 = 0
  case neg =>
    refine z_ ?_
    exact RQ.ret1 rfl (Res.tmp rfl) fun w' hm => ⟨rfl, hm.fr⟩
  obtain ⟨hok, hcat⟩ := writeW_ok h20 (by rw [← hW]; exact he)
  rw [← hW] at hcat
  obtain ⟨cw, hcw⟩ : ∃ c, c = catW ps := ⟨_, rfl⟩
  rw [he, hcat, ← hcw] at hown
  rw [he]
  rw [show endW cw 0 = cw from if_pos rfl] at hown
  by_cases h0 : cw.length = 0
  · obtain ⟨a1, c1, rfl, hc1⟩ := hown.shape
    refine z_ ?_
    exact RQ.ret1 rfl (Res.tmp rfl) fun w' hm => ⟨rfl, hm.fr⟩
  obtain ⟨b, cap, rest, rfl, rfl, hcl, hcap, hcm, hrl⟩ := hown.pos (by omega)
  refine z_ ?_
  refine Run.a (Val.mkF (us := []) rfl rfl rfl) ?_
  refine z_ ?_
  have hcb : ∀ x ∈ cw, x < 256 := by
    intro x hx
    rw [hcw] at hx
    obtain ⟨l1, hl1, hx⟩ := List.mem_flatten.1 hx
    obtain ⟨p, _, rfl⟩ := List.mem_map.1 hl1
    exact plainW_bytes p x hx
  have hcl2 : cw.length ≤ 20000 := by
    have h1 := foldP_len ps [] true
    have h2 := (fold_same ps [] (by simp only [List.length_nil]; omega))
    have h3 : (ps.foldl stepP ([], true)).1.length = cw.length := by
      cases hb : (ps.foldl stepP ([], true)).2 with
      | true =>
        have := (foldP_cat ps [] hb).2
        rw [this, hcw]; rfl
      | false =>
        have := h2.2 hb
        rw [← show writeW ps = ps.foldl stepW ([], 0) from rfl, ← hW, he] at this
        cases this
    rw [h3] at h1
    simp only [List.length_nil] at h1
    omega
  have hb32 : ∀ p ∈ ps, p.b.length < 2 ^ 32 := fun p hp => Nat.lt_of_le_of_lt (hpb p hp) (by decide)
  have hm0 : cut % cw.length < cw.length := Nat.mod_lt _ (by omega)
  obtain ⟨pl, hpl1⟩ : ∃ pl, pl = cw.take (cut % cw.length) := ⟨_, rfl⟩
  have hpl2 : pl.length = cut % cw.length := by rw [hpl1, List.length_take]; omega
  have hc1 := (cut_read ps [] [] (cut % cw.length) 0 hok hb32 (Nat.zero_le _)).2 (by rw [← hcw, List.length_nil]; omega)
  rw [List.nil_append, List.append_nil, ← hcw, ← hpl1, List.length_nil] at hc1
  have hc2 := (cut_read ps [] [0] (cw.length + 1) 0 hok hb32 (Nat.zero_le _)).1 (by rw [← hcw, List.length_nil]; omega)
  rw [List.nil_append, ← hcw, List.take_of_length_le (by rw [List.length_append]; exact Nat.le_refl _), List.length_nil] at hc2
  refine Run.a (Val.eq (Val.sliceS' tabOk 0 (cut % cw.length) rfl rfl rfl rfl rfl (.inl ⟨rfl, rfl⟩) (.inr ⟨_, rfl, rfl⟩) (Nat.zero_le _) (by omega) (by omega) rfl) (show _ = Value.slice (some ⟨b, 0, none⟩) pl.length cap from by rw [hpl2]; rfl)) ?_
  refine z_ ?_
  have hR1 : ∀ w', Mem w [] [(b, Obj.cells (u8s cw ++ rest).toArray 5 (0, 0)), (b2, Obj.cells #[.slice la ps.length lc] 22 (0, 0))] w' → Turns Try.prog 12 [.slice (some ⟨b, 0, none⟩) pl.length cap, .func (.func 21) #[] #[.pointer (some ⟨b2, 0, none⟩)]] w' [] (Y := Unit) (fun _ => .int .i64 2) (fun _ => []) := by
    intro w' hm
    have hsp := (hown.srcW (w := w') (fun p hp => hm.has p (List.mem_append_left _ hp))).takeU (cut % cw.length)
    rw [← hpl1] at hsp
    refine ReadCuts_calls pl (fun x hx => hcb x (by rw [hpl1] at hx; exact List.mem_of_mem_take hx)) (by omega) ps hok h100 _ cap _ b2 2 w w' hm.fr hsp (hm.has (b2, _) m1) hs ?_
    rw [hc1]
    rfl
  refine Run.op1 (OpTo.callT Try.func12 (show _ from List.Perm.refl ([] ++ [(b, Obj.cells (u8s cw ++ rest).toArray 5 (0, 0)), (b2, Obj.cells #[.slice la ps.length lc] 22 (0, 0))])) hR1) ?_
  intro _
  refine z_ ?_
  refine Run.nw (nbsl #[] (by kernel_rfl)) ?_
  intro b37
  refine z_ ?_
  refine Run.op1 (OpTo.append (L1 := [(b, Obj.cells (u8s cw ++ rest).toArray 5 (0, 0)), (b2, Obj.cells #[.slice la ps.length lc] 22 (0, 0))]) tabOk (Own.row b37 0 0 [] [] rfl rfl (Nat.le_refl _) (Nat.zero_le _)) (hown.src (fun p hp => by rw [List.mem_singleton] at hp; subst hp; exact (by repeat (first | exact List.mem_cons_self | apply List.mem_cons_of_mem | apply List.mem_append_right)))) rfl rfl rfl rfl rfl rfl rfl rfl rfl (List.Perm.refl _) (u8s_one _) (by unfold maxLen; omega) (by simp only [ti5]; omega)) ?_
  rintro ⟨⟨v39, bl39⟩, hown39⟩
  dsimp only at hown39 ⊢
  refine z_ ?_
  refine Run.nw (nbsl #[.int .u8 0] (by kernel_rfl)) ?_
  intro b40
  have hcl5 : 0 + cw.length + 1 ≤ 20001 := by omega
  refine Run.op1 (OpTo.append (k := 1) (news := u8s [0]) (L1 := [(b40, Obj.cells #[.int .u8 0] 5 (0, 0)), (b, Obj.cells (u8s cw ++ rest).toArray 5 (0, 0)), (b2, Obj.cells #[.slice la ps.length lc] 22 (0, 0))]) tabOk hown39 (Src.at ⟨b40, 0, none⟩ 1 1 (u8s [0]) rfl (Rd.rowAll (arr := #[.int .u8 0]) m0)) rfl rfl rfl rfl rfl rfl rfl rfl rfl (perm_of fun f => by (simp only [List.map_append, List.map_cons, List.map_nil, List.sum_append, List.sum_cons, List.sum_nil] <;> omega)) (u8s_one _) (by unfold maxLen; omega) (by simp only [ti5]; omega)) ?_
  rintro ⟨⟨v41, bl41⟩, hown41⟩
  dsimp only at hown41 ⊢
  have e41 : [] ++ u8s cw ++ u8s [0] = u8s (cw ++ [0]) := by rw [List.nil_append, u8s_app]
  have e42 : 0 + cw.length + 1 = (cw ++ [0]).length := by rw [List.length_append, Nat.zero_add]; rfl
  rw [e41, e42] at hown41
  obtain ⟨a41, c41, rfl, hc41⟩ := hown41.shape
  refine z_ ?_
  have hR2 : ∀ w', Mem w [] (bl41 ++ [(b40, Obj.cells #[.int .u8 0] 5 (0, 0)), (b, Obj.cells (u8s cw ++ rest).toArray 5 (0, 0)), (b2, Obj.cells #[.slice la ps.length lc] 22 (0, 0))]) w' → Turns Try.prog 12 [.slice a41 (cw ++ [0]).length c41, .func (.func 21) #[] #[.pointer (some ⟨b2, 0, none⟩)]] w' [] (Y := Unit) (fun _ => .int .i64 4) (fun _ => []) := by
    intro w' hm
    refine ReadCuts_calls (cw ++ [0]) (fun x hx => ?_) (by rw [← e42]; omega) ps hok h100 _ c41 _ b2 4 w w' hm.fr (hown41.srcW (fun p hp => hm.has p (List.mem_append_left _ hp))) (hm.has (b2, Obj.cells #[.slice la ps.length lc] 22 (0, 0)) (by repeat (first | exact List.mem_cons_self | apply List.mem_cons_of_mem | apply List.mem_append_right))) hs ?_
    · rcases List.mem_append.1 hx with hx | hx
      · exact hcb x hx
      · rw [List.mem_singleton] at hx; subst hx; decide
    · rw [hc2]
      exact if_pos (by rw [List.length_append]; show 0 + cw.length < cw.length + 1; omega)
  refine Run.op1 (OpTo.callT Try.func12 (show _ from List.Perm.refl ([] ++ (bl41 ++ [(b40, Obj.cells #[.int .u8 0] 5 (0, 0)), (b, Obj.cells (u8s cw ++ rest).toArray 5 (0, 0)), (b2, Obj.cells #[.slice la ps.length lc] 22 (0, 0))]))) hR2) ?_
  intro _
  refine z_ ?_
  exact RQ.ret1 rfl (Res.tmp rfl) fun w' hm => ⟨rfl, hm.fr⟩
end Go.Proofs.Ytgnjdpaenojfhaa
