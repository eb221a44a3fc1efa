/- sparse: SparseMany. -/
import Derived.Test.YtaabinhpagbajaaDoorSpP
set_option linter.unusedSimpArgs false
set_option linter.unusedVariables false
namespace Go.Proofs.YtaabinhpagbajaaDoor
attribute [local irreducible] Go.Vc.Run Go.Vc.RC Go.Vc.RQ Go.Vc.DR Go.Vc.DOp
open Go Go.Vc Go.Sha
theorem prL_pc0 {l : Lvs} (ok : LvOk l) {p : Nat × List Nat} (hp : p ∈ l) : pc 8 (prL l ((p.1 ^^^ 1 : Nat) : Int)) 0 = p.2 := by
  have h1 : p.1 ^^^ 1 < 65536 := Nat.xor_lt_two_pow (n := 16) (ok.lt p hp) (by decide)
  unfold prL prfT
  rw [show inB ((p.1 ^^^ 1 : Nat) : Int) = true from decide_eq_true (by omega), if_pos rfl, Int.toNat_natCast, pc_rowOf (fun k => (nodeF_8 (lfF_ok ok) k _).1) (by decide)]
  show lfF l _ = _
  unfold sib
  rw [Nat.pow_zero, Nat.div_one, Nat.xor_assoc, Nat.xor_self, Nat.xor_zero]
  exact lf_mem ok hp
set_option maxRecDepth 10000 in set_option maxHeartbeats 4000000 in
theorem SparseMany_calls (l : List DpD) (hll : l.length ≤ 9223372036854775807) (vl : Value) (w : World) (hs : SrcW w 9 vl l.length (rws DpD.c l)) (hK : Laid w) :
    Gives Tryd.prog 5 [vl] (.bool true) w := by
  refine enter Tryd.func5 rfl (Mem.nil w []) rfl ?_
  obtain ⟨la, lc, rfl, hlc⟩ := hs.shape
  refine z_ ?_
  refine Run.op1 (OpTo.cv Tryd.func8 (fun w' hm => awake_calls w' (hK.fr hm.fr (by simp)))) (fun _ => ?_)
  by_cases hl : l.length ≤ 30
  case neg =>
    refine z_ ?_
    exact RQ.ret1 rfl (Res.tmp rfl) fun w' hm => ⟨rfl, hm.fr⟩
  refine z_ ?_
  have hz0 : ([] : Hp).Perm ([] ++ []) := List.Perm.refl _
  refine Run.op1 (OpTo.callT Tryd.func9 hz0 (fun w' hm => Fill_calls l (by omega) _ w' (hs.fr hm.fr) (hK.fr hm.fr (by simp)))) ?_
  rintro ⟨tb, mb, lb, p, hfin⟩
  dsimp only
  clear hfin
  rw [List.append_nil]
  have ok := p.ok
  have hrl := ok.len
  have h1 := rtL_8 ok
  have h2 := prL_len ok
  have h2' := prL_lt ok
  have h3 := lfI_8 ok
  have hg : ∀ i : Nat, i < 65536 → chkT (rtL p.y.r) (i : Int) (lfI p.y.r i) (prL p.y.r i) = true := fun i hi => chk_good (lfF_ok ok) i hi
  have hp0 := fun (q : Nat × List Nat) (hq : q ∈ p.y.r) => prL_pc0 ok hq
  have hme := fun (q : Nat × List Nat) (hq : q ∈ p.y.r) => lf_mem ok hq
  have c1 := FRoot p
  have c2 := FProve p
  have c3 := FGet p
  have c4 := FLen p
  have hA := p.y.hA
  have hH := p.y.hH
  obtain ⟨aA, cA, evA, hcA⟩ := hA.shape
  obtain ⟨aH, cH, evH, hcH⟩ := hH.shape
  have eL : p.L = (lb, .cells #[.slice aA p.y.r.length cA, .slice aH p.y.r.length cH] 39 (0, 0)) :: ((p.y.bA ++ p.y.bH) ++ p.x.L) := by rw [← evA, ← evH]; rfl
  rw [evA] at hA
  rw [evH] at hH
  rw [eL] at c1 c2 c3 c4 ⊢
  clear eL evA evH
  generalize p.x.L = xL at c1 c2 c3 c4 ⊢
  generalize p.y.bA = bA at c1 c2 c3 c4 hA ⊢
  generalize p.y.bH = bH at c1 c2 c3 c4 hH ⊢
  generalize p.y.r = r at *
  clear p
  generalize rtL r = Rt at h1 c1 hg
  have sR : (u8s Rt).toArray.size = 8 := by rw [List.size_toArray, u8s_len, h1.1]
  have hq : ∀ {A B : Hp} {w' : World}, Mem w [] (A ++ B) w' → Has B w' := fun hm q hq => hm.has q (List.mem_append_right _ hq)
  refine z_ ?_
  refine Run.op1 (OpTo.cv Tryd.func12 (fun w' hm => c1 w' (hq (A := []) hm))) (fun _ => ?_)
  refine Run.nw nal ?_
  intro b6
  refine Run.op1 (osa (u8s Rt).toArray (u8s_one _) (hs := sR)) (fun _ => ?_)
  refine z_ ?_
  refine RC.up r.length (D := Unit) (fun _ _ => True) (fun k _ => [(7, .int .i64 k), (6, .pointer (some ⟨b6, 0, none⟩)), (4, .pointer (some ⟨lb, 0, none⟩)), (3, .pointer (some ⟨tb, 0, none⟩))]) (fun _ _ => (b6, Obj.cells (u8s Rt).toArray 29 (0, 0)) :: (lb, .cells #[.slice aA r.length cA, .slice aH r.length cH] 39 (0, 0)) :: ((bA ++ bH) ++ xL)) 0 () (Nat.zero_le _) trivial ⟨rfl, rfl, rfl, rfl, trivial⟩ (List.Sublist.refl _) ?_
  intro k _ hk _
  (repeat refine RC.seq ?_); refine RC.region ?_
  refine Run.a (Val.of rfl) ?_
  refine Run.a (Val.of rfl) ?_
  refine Run.a (Val.of rfl) ?_
  refine Run.a vf0 ?_
  refine Run.a (vl (.slice aA r.length cA) (arr := #[.slice aA r.length cA, .slice aH r.length cH]) (hm := (by repeat (first | exact List.mem_cons_self | apply List.mem_cons_of_mem | apply List.mem_append_right)))) ?_
  refine Run.a (vlen) ?_
  refine Run.a (Val.of rfl) ?_
  refine Run.nil (RQ.next ?_)
  (repeat refine RC.seq ?_); refine RC.wh rfl (fun h => RQ.next ?_) (fun h => ?_)
  · have hk' : k < r.length := by have := of_decide_eq_true h; omega
    clear h
    obtain ⟨⟨a, hh⟩, hp⟩ : ∃ p, r[k]? = some p := ⟨_, List.getElem?_eq_getElem hk'⟩
    have hpm := List.mem_of_getElem? hp
    have ha16 := ok.lt _ hpm
    have hp8 := ok.h8 _ hpm
    have hp0 := hp0 _ hpm
    have hme := hme _ hpm
    dsimp only at ha16 hp8 hp0 hme
    have hx1 := xor1 ha16
    have hb16 : a ^^^ 1 < 65536 := Nat.xor_lt_two_pow (n := 16) ha16 (by decide)
    have g1 := hg a ha16
    have g2 := hg _ hb16
    change chkT Rt a (lfF r a) _ = true at g1
    rw [hme] at g1
    generalize hbe : a ^^^ 1 = be at *
    obtain ⟨adA, rfl⟩ := hA.adr (by omega)
    obtain ⟨adH, rfl⟩ := hH.adr (by omega)
    have sp : (u8s hh).length = 8 := by rw [u8s_len, hp8.1]
    have rA : ∀ {S0 : List Nat} {L : Hp}, (∀ q ∈ bA, q ∈ L) → ∀ w', Mem w S0 L w' → w'.cell? (adA.add k) = some (.int .i64 a) := fun hL w' hm => hA.rd (fun q hq => hm.has q (hL q hq)) k _ (lvA_at hp)
    have rH : ∀ {S0 : List Nat} {L : Hp}, (∀ q ∈ bH, q ∈ L) → ∀ w', Mem w S0 L w' → ∀ j u, (u8s hh)[j]? = some u → w'.cell? ((adH.add (k * 8)).add j) = some u := fun hL w' hm j u hj => by
      rw [add_add]; exact hH.rd (fun q hq => hm.has q (hL q hq)) _ u (lvH_at ok hp j u hj)
    have c2a := c2 a
    have c2b := c2 be
    have c3b := c3 be
    rw [show inB (a : Int) = true from decide_eq_true (by omega)] at c2a
    rw [show inB (be : Int) = true from decide_eq_true (by omega)] at c2b
    have p1l := h2 a
    have p1t := h2' a
    have p2l := h2 be
    have p2t := h2' be
    have g8 := h3 be
    generalize prL r (a : Int) = Pa at c2a p1l p1t g1
    generalize prL r (be : Int) = Pb at c2b p2l p2t g2 hp0
    generalize lfI r (be : Int) = Gb at c3b g8 g2
    have sPa : (u8s Pa).toArray.size = 128 := by rw [List.size_toArray, u8s_len, p1l]
    have sPb : (u8s Pb).toArray.size = 128 := by rw [List.size_toArray, u8s_len, p2l]
    clear c1 c2 c3 h2 h2' h3 hg
    refine RC.seq ?_
    refine RC.block ?_
    (repeat refine RC.seq ?_); refine RC.region ?_
    refine Run.a (Val.of rfl) ?_
    refine Run.a (Val.of rfl) ?_
    refine Run.a (Val.of rfl) ?_
    refine Run.a vf0 ?_
    refine Run.a (vl (.slice (some adA) r.length cA) (arr := #[.slice (some adA) r.length cA, .slice (some adH) r.length cH]) (hm := (by repeat (first | exact List.mem_cons_self | apply List.mem_cons_of_mem | apply List.mem_append_right)))) ?_
    refine Run.a (Val.of rfl) ?_
    refine Run.a (vix k hk' (adA.add k) (ha := by show adA.add (k * 1) = _; rw [Nat.mul_one])) ?_
    refine Run.a (Val.loadC1 tabOk rfl rfl rfl rfl (rA (fun q hq => by repeat (first | exact hq | exact List.mem_append_left _ (List.mem_append_left _ hq) | exact List.mem_append_left _ (List.mem_append_right _ hq) | exact List.mem_append_left _ hq | exact List.mem_append_right _ hq | apply List.mem_cons_of_mem | apply List.mem_append_right)))) ?_
    refine Run.op1 (OpTo.cv Tryd.func10 (fun w' hm => c2a w' (hq (A := [_]) hm))) (fun _ => ?_)
    refine Run.a (Val.of rfl) ?_
    refine Run.a (Val.of rfl) ?_
    refine Run.a (Val.of rfl) ?_
    refine Run.nw nal ?_
    intro b8
    refine Run.op1 (osa (u8s Pa).toArray (u8s_one _) (hs := sPa) (hf := by kernel_rfl)) (fun _ => ?_)
    refine z_ ?_
    (repeat refine RC.seq ?_); refine RC.drawS mixed (N := 22) rfl ?_
    refine dt 0 ?_
    refine dt 1 ?_
    refine dt 2 ?_
    refine DR.t 3 rfl (vla (arr := (u8s Rt).toArray) (hv := sR) (hm := (by repeat (first | exact List.mem_cons_self | apply List.mem_cons_of_mem | apply List.mem_append_right)))) ?_
    refine dt 4 ?_
    refine dt 5 ?_
    refine dt 6 ?_
    refine DR.t 7 rfl (vl (.slice (some adA) r.length cA) (arr := #[.slice (some adA) r.length cA, .slice (some adH) r.length cH]) (hm := (by repeat (first | exact List.mem_cons_self | apply List.mem_cons_of_mem | apply List.mem_append_right)))) ?_
    refine dt 8 ?_
    refine DR.t 9 rfl (vix k hk' (adA.add k) (ha := by show adA.add (k * 1) = _; rw [Nat.mul_one])) ?_
    refine DR.t 10 rfl (Val.loadC1 tabOk rfl rfl rfl rfl (rA (fun q hq => by repeat (first | exact hq | exact List.mem_append_left _ (List.mem_append_left _ hq) | exact List.mem_append_left _ (List.mem_append_right _ hq) | exact List.mem_append_left _ hq | exact List.mem_append_right _ hq | apply List.mem_cons_of_mem | apply List.mem_append_right)))) ?_
    refine dt 11 ?_
    refine dt 12 ?_
    refine dt 13 ?_
    refine DR.t 14 rfl (vl (.slice (some adH) r.length cH) (arr := #[.slice (some adA) r.length cA, .slice (some adH) r.length cH]) (hm := (by repeat (first | exact List.mem_cons_self | apply List.mem_cons_of_mem | apply List.mem_append_right)))) ?_
    refine dt 15 ?_
    refine DR.t 16 rfl (vix k hk' (adH.add (k * 8))) ?_
    refine DR.t 17 rfl (Val.loadR tabOk (cs := u8s hh) rfl rfl rfl rfl sp (rH (fun q hq => by repeat (first | exact hq | exact List.mem_append_left _ (List.mem_append_left _ hq) | exact List.mem_append_left _ (List.mem_append_right _ hq) | exact List.mem_append_left _ hq | exact List.mem_append_right _ hq | apply List.mem_cons_of_mem | apply List.mem_append_right)))) ?_
    refine DR.t 18 rfl (vla (arr := (u8s Pa).toArray) (hv := sPa)) ?_
    refine DR.c 19 (DOp.op1 rfl (OpTo.cv Tryd.func17 (fun w' hm => TCheck_calls Rt h1 a hh hp8 Pa p1l p1t w' (hK.fr hm.fr (by simp)))) (fun _ => ?_))
    rw [g1]
    refine dt 20 ?_
    refine dt 21 ?_
    refine DR.done (by kernel_rfl) ?_
    refine RQ.next ?_
    (repeat refine RC.seq ?_); refine RC.condF rfl rfl (RC.skip (RQ.next ?_))
    (repeat refine RC.seq ?_); refine RC.region ?_
    refine Run.a (Val.of rfl) ?_
    refine Run.a (Val.of rfl) ?_
    refine Run.a vf0 ?_
    refine Run.a (vl (.slice (some adA) r.length cA) (arr := #[.slice (some adA) r.length cA, .slice (some adH) r.length cH]) (hm := (by repeat (first | exact List.mem_cons_self | apply List.mem_cons_of_mem | apply List.mem_append_right)))) ?_
    refine Run.a (Val.of rfl) ?_
    refine Run.a (vix k hk' (adA.add k) (ha := by show adA.add (k * 1) = _; rw [Nat.mul_one])) ?_
    refine Run.a (Val.loadC1 tabOk rfl rfl rfl rfl (rA (fun q hq => by repeat (first | exact hq | exact List.mem_append_left _ (List.mem_append_left _ hq) | exact List.mem_append_left _ (List.mem_append_right _ hq) | exact List.mem_append_left _ hq | exact List.mem_append_right _ hq | apply List.mem_cons_of_mem | apply List.mem_append_right)))) ?_
    refine Run.a (Val.of rfl) ?_
    rw [hx1]
    refine z_ ?_
    refine Run.op1 (OpTo.cv Tryd.func10 (fun w' hm => c2b w' (hq (A := [_, _]) hm))) (fun _ => ?_)
    refine z_ ?_
    refine Run.nw nal ?_
    intro b11
    refine Run.op1 (osa (u8s Pb).toArray (u8s_one _) (hs := sPb) (hf := by kernel_rfl)) (fun _ => ?_)
    refine z_ ?_
    (repeat refine RC.seq ?_); refine RC.drawS mixed (N := 24) rfl ?_
    refine dt 0 ?_
    refine dt 1 ?_
    refine dt 2 ?_
    refine DR.t 3 rfl (vla (arr := (u8s Rt).toArray) (hv := sR) (hm := (by repeat (first | exact List.mem_cons_self | apply List.mem_cons_of_mem | apply List.mem_append_right)))) ?_
    refine dt 4 ?_
    refine dt 5 ?_
    refine dt 6 ?_
    refine DR.t 8 rfl (vla (arr := (u8s Pb).toArray) (hv := sPb)) ?_
    refine DR.c 7 (DOp.op1 rfl (OpTo.cv Tryd.func14 (fun w' hm => c3b w' (hq (A := [_, _, _]) hm))) (fun _ => ?_))
    refine DR.c 9 (DOp.op1 rfl (OpTo.cv Tryd.func17 (fun w' hm => TCheck_calls Rt h1 be Gb g8 Pb p2l p2t w' (hK.fr hm.fr (by simp)))) (fun _ => ?_))
    rw [g2]
    refine dt 10 ?_
    refine dt 11 ?_
    refine dt 12 ?_
    refine DR.t 13 rfl (via 0 0) ?_
    refine DR.t 14 rfl (Val.loadPc tabOk 0 (c := 8) (l := Pb) rfl rfl rfl rfl (by repeat (first | exact List.mem_cons_self | apply List.mem_cons_of_mem | apply List.mem_append_right)) rfl rfl (by rw [hp0]; exact hp8.1)) ?_
    rw [hp0]
    refine dt 15 ?_
    refine dt 16 ?_
    refine dt 17 ?_
    refine DR.t 18 rfl (vl (.slice (some adH) r.length cH) (arr := #[.slice (some adA) r.length cA, .slice (some adH) r.length cH]) (hm := (by repeat (first | exact List.mem_cons_self | apply List.mem_cons_of_mem | apply List.mem_append_right)))) ?_
    refine dt 19 ?_
    refine DR.t 20 rfl (vix k hk' (adH.add (k * 8))) ?_
    refine DR.t 21 rfl (Val.loadR tabOk (cs := u8s hh) rfl rfl rfl rfl sp (rH (fun q hq => by repeat (first | exact hq | exact List.mem_append_left _ (List.mem_append_left _ hq) | exact List.mem_append_left _ (List.mem_append_right _ hq) | exact List.mem_append_left _ hq | exact List.mem_append_right _ hq | apply List.mem_cons_of_mem | apply List.mem_append_right)))) ?_
    refine DR.t 22 rfl (Val.eq (Val.neU (m := 8) (a := hh) (b := hh) tabOk rfl rfl rfl (by kernel_rfl) (by kernel_rfl) rfl rfl hp8.1 hp8.1) (show _ = Value.bool false from by simp)) ?_
    refine dt 23 ?_
    refine DR.done (by kernel_rfl) ?_
    refine z_ ?_
    exact RQ.upS (k + 1) () (Nat.lt_succ_self _) hk' trivial ⟨rfl, rfl, rfl, rfl, trivial⟩ (L1 := (b11, Obj.cells (u8s Pb).toArray 30 (0, 0)) :: (b8, Obj.cells (u8s Pa).toArray 30 (0, 0)) :: (b6, Obj.cells (u8s Rt).toArray 29 (0, 0)) :: (lb, .cells #[.slice (some adA) r.length cA, .slice (some adH) r.length cH] 39 (0, 0)) :: ((bA ++ bH) ++ xL)) (List.Perm.refl _) (by repeat (first | exact List.nil_sublist _ | exact List.Sublist.refl _ | apply List.Sublist.cons_cons | apply List.Sublist.cons | apply Go.Vc.subApp))
  · have hk' : k = r.length := by have := of_decide_eq_false h; omega
    clear h
    (repeat refine RQ.thenExit ?_); refine RQ.blockHere ?_
    refine RQ.next ?_
    (repeat refine RC.seq ?_); refine RC.drawS mixed (N := 9) rfl ?_
    refine dt 0 ?_
    refine dt 2 ?_
    refine dt 3 ?_
    refine dt 4 ?_
    refine DR.t 5 rfl (vl (.slice aA r.length cA) (arr := #[.slice aA r.length cA, .slice aH r.length cH]) (hm := (by repeat (first | exact List.mem_cons_self | apply List.mem_cons_of_mem | apply List.mem_append_right)))) ?_
    refine DR.t 6 rfl (vlen) ?_
    refine DR.c 1 (DOp.op1 rfl (OpTo.cv Tryd.func16 (fun w' hm => c4 w' (hq (A := [_]) hm))) (fun _ => ?_))
    refine dt 7 ?_
    refine dt 8 ?_
    refine DR.done (by kernel_rfl) ?_
    refine z_ ?_
    exact RQ.ret1 rfl (Res.tmp rfl) fun w' hm => ⟨rfl, hm.fr⟩
end Go.Proofs.YtaabinhpagbajaaDoor
