/- Lemmas. -/
import Derived.Test.YtfoeakgnkfcbjaaGreatDoorPt20
set_option linter.unusedSimpArgs false
set_option linter.unusedVariables false
section
/- tx: the reference's bytes (gen_txu.py prints it). -/
namespace Go.Vc
open Go Go.Sha
section
variable {w0 : World} {S0 : List Nat} {L : Hp}
/-- Eight bytes somewhere in the old world. -/
theorem srcO {ad : Addr} {c : List Nat} (hl : c.length = 8) (hr : ∀ j u, (u8s c)[j]? = some u → w0.cell? (ad.add j) = some u) : Src w0 [] L 1 (.slice (some ad) 8 8) c.length (u8s c) := by
  have h : Src w0 [] L 1 (.slice (some ad) 8 8) 8 (u8s c) := .at ad 8 8 _ (by rw [u8s_len, hl]) (Rd.old List.not_mem_nil hr)
  rw [hl]; exact h
/-- Eight bytes of an own block. -/
theorem srcR {b off : Nat} {F : List Value} {e : TypeId} {fz : Nat × Nat} {c : List Nat} (hl : c.length = 8) (hm : (b, Obj.cells F.toArray e fz) ∈ L) (hc : ∀ j u, (u8s c)[j]? = some u → F[off + j]? = some u) : Src w0 S0 L 1 (.slice (some ⟨b, off, none⟩) 8 8) c.length (u8s c) := by
  have h : Src w0 S0 L 1 (.slice (some ⟨b, off, none⟩) 8 8) 8 (u8s c) := .at ⟨b, off, none⟩ 8 8 _ (by rw [u8s_len, hl]) (Rd.row hm fun j u hj => by rw [List.getElem?_toArray]; exact hc j u hj)
  rw [hl]; exact h
end
theorem at_sub {F cs : List Value} {off : Nat} (h : ∀ j u, cs[j]? = some u → F[off + j]? = some u) (a k : Nat) : ∀ j u, ((cs.drop a).take k)[j]? = some u → F[(off + a) + j]? = some u := fun j u hj => by
  rw [List.getElem?_take] at hj
  split at hj
  · rw [List.getElem?_drop] at hj
    rw [Nat.add_assoc]; exact h _ u hj
  · cases hj
end Go.Vc
namespace Go.Proofs.YtfoeakgnkfcbjaaGreatDoor
attribute [local irreducible] Go.Vc.Run Go.Vc.RC Go.Vc.RQ Go.Vc.DR Go.Vc.DOp Go.Vc.Knows Go.Vc.At
set_option maxHeartbeats 400000
open Go Go.Vc Go.Sha
theorem preB_len {α : Type} {b : α → List Nat} {sz : Nat} (h : ∀ x, (b x).length = sz) {l : List α} {k : Nat} (hk : k ≤ l.length) : (le l.length 1 ++ ((l.take k).map b).flatten).length = 1 + k * sz := by
  rw [List.length_append, le_len, rowTl h hk]
theorem preB_step {α : Type} (b : α → List Nat) {l : List α} {k : Nat} {p : α} (hx : l[k]? = some p) : le l.length 1 ++ ((l.take (k + 1)).map b).flatten = (le l.length 1 ++ ((l.take k).map b).flatten) ++ b p := by
  rw [rowT b hx, List.append_assoc]
theorem mayU8 {c : List Nat} {a k : Nat} : u8s ((c.drop a).take k) = ((u8s c).drop a).take k := by rw [u8s_take, u8s_drop]
set_option maxRecDepth 10000 in set_option maxHeartbeats 4000000 in
theorem Rsig_calls (s : SigD) (hr : s.rg) (w : World) : MakesB 142 [.agg s.c.toArray] w s.b := by
  refine enter Tryz.func142 rfl (Mem.nil w []) rfl ?_
  have r0 : rdAt ti3 s.c.toArray 0 = some (.int .i64 s.z) := rd_one rfl rfl
  have a1 := s.at1
  have a2 := s.at2
  have a3 := s.at3
  have g1 := s.op.2.1
  have g2 := s.sh.2.1
  have g3 := s.pa.2.1
  have hbe : s.b = le s.z.toNat 1 ++ (s.op.1 ++ (s.sh.1 ++ s.pa.1)) := rfl
  rw [hbe]
  generalize s.c = F at r0 a1 a2 a3 ⊢
  generalize s.op.1 = op at a1 g1 ⊢
  generalize s.sh.1 = sh at a2 g2 ⊢
  generalize s.pa.1 = pa at a3 g3 ⊢
  refine z_ ?_
  refine Run.nw nbx ?_
  intro b1
  refine x_ ?_
  refine Run.op1 (mkB Tryz.func36 (fun w' hm => rNum s.z 1 (by decide) hr.1 w')) ?_
  rintro ⟨⟨v1, l1⟩, h1⟩
  dsimp only at h1 ⊢
  refine x_ ?_
  refine RC.up 16 (D := Value × Hp) (fun k d => Own 5 1 d.1 (le s.z.toNat 1 ++ op.take (k * 8)).length (u8s (le s.z.toNat 1 ++ op.take (k * 8))) d.2) (fun k d => [(4, .int .i64 k), (3, d.1), (1, .pointer (some ⟨b1, 0, none⟩))]) (fun _ d => d.2 ++ [(b1, Obj.cells F.toArray 171 (0, 0))]) 0 (v1, l1) (Nat.zero_le _) (by rw [Nat.zero_mul, List.take_zero, List.append_nil]; exact h1) ⟨rfl, rfl, rfl, trivial⟩ (by repeat (first | exact List.nil_sublist _ | exact List.Sublist.refl _ | apply List.Sublist.cons_cons | apply List.Sublist.cons | apply Go.Vc.subApp)) ?_
  rintro k ⟨v2, l2⟩ hk h2
  dsimp only at h2 ⊢
  refine x_ ?_
  (repeat refine RC.seq ?_); refine RC.wh rfl (fun h => RQ.next ?_) (fun h => ?_)
  · have hk' : k < 16 := by have := of_decide_eq_true h; omega
    clear h
    refine x_ ?_
    refine Run.a (via k (1 + k * 8)) ?_
    refine Run.a (vslA) ?_
    have h8 : ((op.drop (k * 8)).take 8).length = 8 := by rw [List.length_take, List.length_drop, g1]; omega
    have hbl : (le s.z.toNat 1 ++ op.take (k * 8)).length ≤ 1000 := by simp only [List.length_append, List.length_take, le_len, g1]; omega
    have hp3 : (l2 ++ ([(b1, Obj.cells F.toArray 171 (0, 0))])).Perm (l2 ++ ([(b1, Obj.cells F.toArray 171 (0, 0))])) := (perm_of fun f => by (simp only [List.map_append, List.map_cons, List.map_nil, List.sum_append, List.sum_cons, List.sum_nil] <;> omega))
    refine Run.op1 (apB (L1 := [(b1, Obj.cells F.toArray 171 (0, 0))]) h2 ((op.drop (k * 8)).take 8) (srcR h8 (List.mem_append_right _ List.mem_cons_self) (fun j u hj => at_sub a1 (k * 8) 8 j u (by rw [← mayU8]; exact hj))) (by omega) hp3) ?_
    rintro ⟨⟨v3, l3⟩, h3⟩
    dsimp only at h3 ⊢
    refine x_ ?_
    exact RQ.up (k + 1) (v3, l3) (Nat.lt_succ_self _) hk' (by rw [List.append_assoc, take_step] at h3; exact h3) ⟨rfl, rfl, rfl, trivial⟩ (List.Sublist.refl _)
  · have hk' : k = 16 := by have := of_decide_eq_false h; omega
    clear h
    subst hk'
    rw [List.take_of_length_le (by rw [g1]; decide)] at h2
    (repeat refine RQ.thenExit ?_); refine RQ.blockHere ?_
    refine x_ ?_
    refine RC.up 16 (D := Value × Hp) (fun k d => Own 5 1 d.1 ((le s.z.toNat 1 ++ op) ++ sh.take (k * 8)).length (u8s ((le s.z.toNat 1 ++ op) ++ sh.take (k * 8))) d.2) (fun k d => [(5, .int .i64 k), (3, d.1), (1, .pointer (some ⟨b1, 0, none⟩))]) (fun _ d => d.2 ++ [(b1, Obj.cells F.toArray 171 (0, 0))]) 0 (v2, l2) (Nat.zero_le _) (by rw [Nat.zero_mul, List.take_zero, List.append_nil]; exact h2) ⟨rfl, rfl, rfl, trivial⟩ (by repeat (first | exact List.nil_sublist _ | exact List.Sublist.refl _ | apply List.Sublist.cons_cons | apply List.Sublist.cons | apply Go.Vc.subApp)) ?_
    rintro k ⟨v3, l3⟩ hk h3
    dsimp only at h3 ⊢
    refine x_ ?_
    (repeat refine RC.seq ?_); refine RC.wh rfl (fun h => RQ.next ?_) (fun h => ?_)
    · have hk' : k < 16 := by have := of_decide_eq_true h; omega
      clear h
      refine x_ ?_
      refine Run.a (via k (129 + k * 8)) ?_
      refine Run.a (vslA) ?_
      have h8 : ((sh.drop (k * 8)).take 8).length = 8 := by rw [List.length_take, List.length_drop, g2]; omega
      have hbl : ((le s.z.toNat 1 ++ op) ++ sh.take (k * 8)).length ≤ 1000 := by simp only [List.length_append, List.length_take, le_len, g1, g2]; omega
      have hp4 : (l3 ++ ([(b1, Obj.cells F.toArray 171 (0, 0))])).Perm (l3 ++ ([(b1, Obj.cells F.toArray 171 (0, 0))])) := (perm_of fun f => by (simp only [List.map_append, List.map_cons, List.map_nil, List.sum_append, List.sum_cons, List.sum_nil] <;> omega))
      refine Run.op1 (apB (L1 := [(b1, Obj.cells F.toArray 171 (0, 0))]) h3 ((sh.drop (k * 8)).take 8) (srcR h8 (List.mem_append_right _ List.mem_cons_self) (fun j u hj => at_sub a2 (k * 8) 8 j u (by rw [← mayU8]; exact hj))) (by omega) hp4) ?_
      rintro ⟨⟨v4, l4⟩, h4⟩
      dsimp only at h4 ⊢
      refine x_ ?_
      exact RQ.up (k + 1) (v4, l4) (Nat.lt_succ_self _) hk' (by rw [List.append_assoc, take_step] at h4; exact h4) ⟨rfl, rfl, rfl, trivial⟩ (List.Sublist.refl _)
    · have hk' : k = 16 := by have := of_decide_eq_false h; omega
      clear h
      subst hk'
      rw [List.take_of_length_le (by rw [g2]; decide)] at h3
      (repeat refine RQ.thenExit ?_); refine RQ.blockHere ?_
      refine x_ ?_
      refine RC.up 3 (D := Value × Hp) (fun k d => Own 5 1 d.1 (((le s.z.toNat 1 ++ op) ++ sh) ++ pa.take (k * 8)).length (u8s (((le s.z.toNat 1 ++ op) ++ sh) ++ pa.take (k * 8))) d.2) (fun k d => [(6, .int .i64 k), (3, d.1), (1, .pointer (some ⟨b1, 0, none⟩))]) (fun _ d => d.2 ++ [(b1, Obj.cells F.toArray 171 (0, 0))]) 0 (v3, l3) (Nat.zero_le _) (by rw [Nat.zero_mul, List.take_zero, List.append_nil]; exact h3) ⟨rfl, rfl, rfl, trivial⟩ (by repeat (first | exact List.nil_sublist _ | exact List.Sublist.refl _ | apply List.Sublist.cons_cons | apply List.Sublist.cons | apply Go.Vc.subApp)) ?_
      rintro k ⟨v4, l4⟩ hk h4
      dsimp only at h4 ⊢
      refine x_ ?_
      (repeat refine RC.seq ?_); refine RC.wh rfl (fun h => RQ.next ?_) (fun h => ?_)
      · have hk' : k < 3 := by have := of_decide_eq_true h; omega
        clear h
        refine x_ ?_
        refine Run.a (via k (257 + k * 8)) ?_
        refine Run.a (vslA) ?_
        have h8 : ((pa.drop (k * 8)).take 8).length = 8 := by rw [List.length_take, List.length_drop, g3]; omega
        have hbl : (((le s.z.toNat 1 ++ op) ++ sh) ++ pa.take (k * 8)).length ≤ 1000 := by simp only [List.length_append, List.length_take, le_len, g1, g2, g3]; omega
        have hp5 : (l4 ++ ([(b1, Obj.cells F.toArray 171 (0, 0))])).Perm (l4 ++ ([(b1, Obj.cells F.toArray 171 (0, 0))])) := (perm_of fun f => by (simp only [List.map_append, List.map_cons, List.map_nil, List.sum_append, List.sum_cons, List.sum_nil] <;> omega))
        refine Run.op1 (apB (L1 := [(b1, Obj.cells F.toArray 171 (0, 0))]) h4 ((pa.drop (k * 8)).take 8) (srcR h8 (List.mem_append_right _ List.mem_cons_self) (fun j u hj => at_sub a3 (k * 8) 8 j u (by rw [← mayU8]; exact hj))) (by omega) hp5) ?_
        rintro ⟨⟨v5, l5⟩, h5⟩
        dsimp only at h5 ⊢
        refine x_ ?_
        exact RQ.up (k + 1) (v5, l5) (Nat.lt_succ_self _) hk' (by rw [List.append_assoc, take_step] at h5; exact h5) ⟨rfl, rfl, rfl, trivial⟩ (List.Sublist.refl _)
      · have hk' : k = 3 := by have := of_decide_eq_false h; omega
        clear h
        subst hk'
        rw [List.take_of_length_le (by rw [g3]; decide)] at h4
        (repeat refine RQ.thenExit ?_); refine RQ.blockHere ?_
        refine x_ ?_
        rw [List.append_assoc, List.append_assoc] at h4
        exact RQ.ret1 rfl (Res.tmp rfl) fun w' hm => Makes.of (L' := [(b1, Obj.cells F.toArray 171 (0, 0))]) h4 hm
set_option maxRecDepth 10000 in set_option maxHeartbeats 4000000 in
theorem Routs_calls (l : List OutD) (hl : l.length < 256 ∧ ∀ p ∈ l, p.rg) (v : Value) (w : World) (hs : SrcW w 9 v l.length (rws OutD.c l)) : MakesB 95 [v] w (rowB OutD.b l) := by
  refine enter Tryz.func95 rfl (Mem.nil w []) rfl ?_
  obtain ⟨aA, cA, rfl, hcA⟩ := hs.shape
  refine x_ ?_
  refine Run.op1 (mkB Tryz.func36 (fun w' hm => rNum (l.length : Int) 1 (by decide) (Int.natCast_nonneg _) w')) ?_
  rintro ⟨⟨v1, l1⟩, h1⟩
  dsimp only at h1 ⊢
  rw [Int.toNat_natCast] at h1
  refine x_ ?_
  refine RC.up l.length (D := Value × Hp) (fun k d => Own 5 1 d.1 (le l.length 1 ++ ((l.take k).map OutD.b).flatten).length (u8s (le l.length 1 ++ ((l.take k).map OutD.b).flatten)) d.2) (fun k d => [(4, .int .i64 k), (3, d.1), (0, .slice aA l.length cA)]) (fun _ d => d.2) 0 (v1, l1) (Nat.zero_le _) (by simpa using h1) ⟨rfl, rfl, rfl, trivial⟩ (List.sublist_append_left _ _) ?_
  rintro k ⟨v2, l2⟩ hk h2
  dsimp only at h2 ⊢
  refine x_ ?_
  (repeat refine RC.seq ?_); refine RC.wh rfl (fun h => RQ.next ?_) (fun h => ?_)
  · have hk' : k < l.length := by have := of_decide_eq_true h; omega
    clear h
    obtain ⟨p, hx⟩ : ∃ p, l[k]? = some p := ⟨_, List.getElem?_eq_getElem hk'⟩
    have hpr := hl.2 p (List.mem_of_getElem? hx)
    have hll := hl.1
    obtain ⟨ad, c', hv', hc', hcl, hr⟩ := hs.pos (by omega)
    cases hv'
    have hbl : (le l.length 1 ++ ((l.take k).map OutD.b).flatten).length = 1 + k * 15 := preB_len OutD.bl hk
    have hst := preB_step OutD.b hx
    have q0 : ∀ j u, (u8s p.t.1)[j]? = some u → w.cell? (((ad.add (k * 9)).add 0).add j) = some u := fun j u hj => by
      rw [add_add, add_add]
      refine hr _ u (rws_at OutD.len hx (0 + j) u ?_)
      rw [Nat.zero_add]; unfold OutD.c
      rw [List.getElem?_append_left (List.getElem?_eq_some_iff.1 hj).1]; exact hj
    have q8 : w.cell? ((ad.add (k * 9)).add 8) = some (.int .i64 p.am) := by
      rw [add_add]
      exact hr _ _ (rws_at OutD.len hx 8 _ (at_mid (pre := u8s p.t.1) (post := []) rfl (by rw [u8s_len, p.t.2.1])))
    have hbe : p.b = p.t.1 ++ le p.am.toNat 7 := rfl
    generalize hB : le l.length 1 ++ ((l.take k).map OutD.b).flatten = B at h2 hbl hst
    have g0 := p.t.2.1
    have g1 := le_len p.am.toNat 7
    refine x_ ?_
    (repeat refine RC.seq ?_); refine RC.draw ([]) mixed (N := 15) rfl ?_
    refine dy 0 ?_
    refine dy 1 ?_
    refine dy 2 ?_
    refine DR.t 3 rfl (vixA) ?_
    refine DR.t 4 rfl (vfAA) ?_
    refine DR.t 5 rfl (vslA) ?_
    refine dy 7 ?_
    refine dy 8 ?_
    refine DR.t 9 rfl (vixA) ?_
    refine DR.t 10 rfl (vfAA) ?_
    refine dy 11 ?_
    have hp3 : (l2).Perm (l2 ++ ([])) := (perm_of fun f => by (simp only [List.map_append, List.map_cons, List.map_nil, List.sum_append, List.sum_cons, List.sum_nil] <;> omega))
    refine DR.c 6 (DOp.op1 rfl (apB (L1 := []) h2 (p.t.1) (srcO g0 q0) (by omega) hp3) ?_)
    rintro ⟨⟨v3, l3⟩, h3⟩
    dsimp only at h3 ⊢
    have n3 : (B ++ p.t.1).length = B.length + 8 := by rw [List.length_append, g0]
    refine DR.c 12 (DOp.op1 rfl (mkB Tryz.func36 (fun w' hm => rNum p.am 7 (by decide) hpr.1 w')) ?_)
    rintro ⟨⟨v4, l4⟩, h4⟩
    dsimp only at h4 ⊢
    have hp5 : (l4 ++ (l3 ++ ([]))).Perm (l3 ++ (l4 ++ ([]))) := (perm_of fun f => by (simp only [List.map_append, List.map_cons, List.map_nil, List.sum_append, List.sum_cons, List.sum_nil] <;> omega))
    refine DR.c 13 (DOp.op1 rfl (apB (L1 := l4 ++ ([])) h3 (le p.am.toNat 7) (h4.src (fun q hq => (by repeat (first | exact List.mem_append_left _ hq | exact hq | apply List.mem_append_right | apply List.mem_cons_of_mem)))) (by omega) hp5) ?_)
    rintro ⟨⟨v5, l5⟩, h5⟩
    dsimp only at h5 ⊢
    refine dy 14 ?_
    refine DR.done (by kernel_rfl) ?_
    refine x_ ?_
    rw [List.append_assoc, ← hbe] at h5
    exact RQ.up (k + 1) (v5, l5) (Nat.lt_succ_self _) hk' (by rw [hst]; exact h5) ⟨rfl, rfl, rfl, trivial⟩ (List.sublist_append_left _ _)
  · have hk' : k = l.length := by have := of_decide_eq_false h; omega
    clear h
    subst hk'
    rw [List.take_length] at h2
    (repeat refine RQ.thenExit ?_); refine RQ.blockHere ?_
    refine x_ ?_
    exact RQ.ret1 rfl (Res.tmp rfl) fun w' hm => Makes.of (L' := []) h2 (by rw [List.append_nil]; exact hm)
set_option maxRecDepth 10000 in set_option maxHeartbeats 4000000 in
theorem Rins_calls (l : List InD) (hl : l.length < 256 ∧ ∀ p ∈ l, p.rg) (v : Value) (w : World) (hs : SrcW w 298 v l.length (rws InD.c l)) : MakesB 96 [v] w (rowB InD.b l) := by
  refine enter Tryz.func96 rfl (Mem.nil w []) rfl ?_
  obtain ⟨aA, cA, rfl, hcA⟩ := hs.shape
  refine x_ ?_
  refine Run.op1 (mkB Tryz.func36 (fun w' hm => rNum (l.length : Int) 1 (by decide) (Int.natCast_nonneg _) w')) ?_
  rintro ⟨⟨v1, l1⟩, h1⟩
  dsimp only at h1 ⊢
  rw [Int.toNat_natCast] at h1
  refine x_ ?_
  refine RC.up l.length (D := Value × Hp) (fun k d => Own 5 1 d.1 (le l.length 1 ++ ((l.take k).map InD.b).flatten).length (u8s (le l.length 1 ++ ((l.take k).map InD.b).flatten)) d.2) (fun k d => [(4, .int .i64 k), (3, d.1), (0, .slice aA l.length cA)]) (fun _ d => d.2) 0 (v1, l1) (Nat.zero_le _) (by simpa using h1) ⟨rfl, rfl, rfl, trivial⟩ (List.sublist_append_left _ _) ?_
  rintro k ⟨v2, l2⟩ hk h2
  dsimp only at h2 ⊢
  refine x_ ?_
  (repeat refine RC.seq ?_); refine RC.wh rfl (fun h => RQ.next ?_) (fun h => ?_)
  · have hk' : k < l.length := by have := of_decide_eq_true h; omega
    clear h
    obtain ⟨p, hx⟩ : ∃ p, l[k]? = some p := ⟨_, List.getElem?_eq_getElem hk'⟩
    have hpr := hl.2 p (List.mem_of_getElem? hx)
    have hll := hl.1
    obtain ⟨ad, c', hv', hc', hcl, hr⟩ := hs.pos (by omega)
    cases hv'
    have hbl : (le l.length 1 ++ ((l.take k).map InD.b).flatten).length = 1 + k * 298 := preB_len InD.bl hk
    have hst := preB_step InD.b hx
    have q0 : ∀ j u, (u8s p.tx.1)[j]? = some u → w.cell? ((((ad.add (k * 298)).add 0).add 0).add j) = some u := fun j u hj => by
      rw [add_add, add_add, add_add]
      refine hr _ u (rws_at InD.len hx (0 + (0 + j)) u ?_)
      rw [Nat.zero_add, Nat.zero_add]; unfold InD.c
      rw [List.getElem?_append_left (List.getElem?_eq_some_iff.1 hj).1]; exact hj
    have q8 : w.cell? (((ad.add (k * 298)).add 0).add 8) = some (.int .i64 p.i) := by
      rw [add_add, add_add]
      exact hr _ _ (rws_at InD.len hx 8 _ (at_mid (pre := u8s p.tx.1) rfl (by rw [u8s_len, p.tx.2.1])))
    have q9 : ∀ j u, (u8s p.key.1)[j]? = some u → w.cell? (((ad.add (k * 298)).add 9).add j) = some u := fun j u hj => by
      rw [add_add, add_add]
      refine hr _ u (rws_at InD.len hx (9 + j) u (mid_at (pre := p.pt) (post := p.s.c) p.c_pt p.pt_len j u hj))
    have q17 : At w ((ad.add (k * 298)).add 17) p.s.c := At.mk fun j u hj => by
      rw [add_add, add_add]
      refine hr _ u (rws_at InD.len hx (17 + j) u (mid_at (pre := p.pt ++ u8s p.key.1) (post := []) (by rw [p.c_pt, List.append_nil, List.append_assoc]) (by rw [List.length_append, p.pt_len, u8s_len, p.key.2.1]) j u hj))
    have hsl : p.s.c.length = 281 := p.s.len
    have hbe : p.b = p.tx.1 ++ (le p.i.toNat 1 ++ (p.key.1 ++ p.s.b)) := rfl
    generalize hB : le l.length 1 ++ ((l.take k).map InD.b).flatten = B at h2 hbl hst
    have g0 := p.tx.2.1
    have g1 := le_len p.i.toNat 1
    have g2 := p.key.2.1
    have g3 := p.s.bl
    refine x_ ?_
    (repeat refine RC.seq ?_); refine RC.draw ([]) mixed (N := 23) rfl ?_
    refine dy 0 ?_
    refine dy 1 ?_
    refine dy 2 ?_
    refine DR.t 3 rfl (vixA) ?_
    refine DR.t 4 rfl (vfAA) ?_
    refine DR.t 5 rfl (vfAA) ?_
    refine DR.t 6 rfl (vslA) ?_
    refine dy 8 ?_
    refine dy 9 ?_
    refine DR.t 10 rfl (vixA) ?_
    refine DR.t 11 rfl (vfAA) ?_
    refine DR.t 12 rfl (vfAA) ?_
    refine dy 13 ?_
    refine dy 16 ?_
    refine dy 17 ?_
    refine DR.t 18 rfl (vixA) ?_
    refine DR.t 19 rfl (vfAA) ?_
    refine DR.t 20 rfl (vslA) ?_
    have hp3 : (l2).Perm (l2 ++ ([])) := (perm_of fun f => by (simp only [List.map_append, List.map_cons, List.map_nil, List.sum_append, List.sum_cons, List.sum_nil] <;> omega))
    refine DR.c 7 (DOp.op1 rfl (apB (L1 := []) h2 (p.tx.1) (srcO g0 q0) (by omega) hp3) ?_)
    rintro ⟨⟨v3, l3⟩, h3⟩
    dsimp only at h3 ⊢
    have n3 : (B ++ p.tx.1).length = B.length + 8 := by rw [List.length_append, g0]
    refine DR.c 14 (DOp.op1 rfl (mkB Tryz.func36 (fun w' hm => rNum p.i 1 (by decide) hpr.1.1 w')) ?_)
    rintro ⟨⟨v4, l4⟩, h4⟩
    dsimp only at h4 ⊢
    have hp5 : (l4 ++ (l3 ++ ([]))).Perm (l3 ++ (l4 ++ ([]))) := (perm_of fun f => by (simp only [List.map_append, List.map_cons, List.map_nil, List.sum_append, List.sum_cons, List.sum_nil] <;> omega))
    refine DR.c 15 (DOp.op1 rfl (apB (L1 := l4 ++ ([])) h3 (le p.i.toNat 1) (h4.src (fun q hq => (by repeat (first | exact List.mem_append_left _ hq | exact hq | apply List.mem_append_right | apply List.mem_cons_of_mem)))) (by omega) hp5) ?_)
    rintro ⟨⟨v5, l5⟩, h5⟩
    dsimp only at h5 ⊢
    have n5 : ((B ++ p.tx.1) ++ le p.i.toNat 1).length = B.length + 9 := by rw [List.length_append, n3, g1]
    have hp6 : (l5 ++ (l4 ++ ([]))).Perm (l5 ++ (l4 ++ ([]))) := (perm_of fun f => by (simp only [List.map_append, List.map_cons, List.map_nil, List.sum_append, List.sum_cons, List.sum_nil] <;> omega))
    refine DR.c 21 (DOp.op1 rfl (apB (L1 := l4 ++ ([])) h5 (p.key.1) (srcO g2 q9) (by omega) hp6) ?_)
    rintro ⟨⟨v6, l6⟩, h6⟩
    dsimp only at h6 ⊢
    have n6 : (((B ++ p.tx.1) ++ le p.i.toNat 1) ++ p.key.1).length = B.length + 17 := by rw [List.length_append, n5, g2]
    refine dy 22 ?_
    refine DR.done (by kernel_rfl) ?_
    refine x_ ?_
    refine Run.op1 (mkB Tryz.func142 (fun w' hm => Rsig_calls p.s hpr.2 w')) ?_
    rintro ⟨⟨v7, l7⟩, h7⟩
    dsimp only at h7 ⊢
    have hp8 : (l7 ++ (l6 ++ (l4 ++ ([])))).Perm (l6 ++ (l7 ++ (l4 ++ ([])))) := (perm_of fun f => by (simp only [List.map_append, List.map_cons, List.map_nil, List.sum_append, List.sum_cons, List.sum_nil] <;> omega))
    refine Run.op1 (apB (L1 := l7 ++ (l4 ++ ([]))) h6 (p.s.b) (h7.src (fun q hq => (by repeat (first | exact List.mem_append_left _ hq | exact hq | apply List.mem_append_right | apply List.mem_cons_of_mem)))) (by omega) hp8) ?_
    rintro ⟨⟨v8, l8⟩, h8⟩
    dsimp only at h8 ⊢
    refine x_ ?_
    rw [List.append_assoc, List.append_assoc, List.append_assoc, ← hbe] at h8
    exact RQ.up (k + 1) (v8, l8) (Nat.lt_succ_self _) hk' (by rw [hst]; exact h8) ⟨rfl, rfl, rfl, trivial⟩ (List.sublist_append_left _ _)
  · have hk' : k = l.length := by have := of_decide_eq_false h; omega
    clear h
    subst hk'
    rw [List.take_length] at h2
    (repeat refine RQ.thenExit ?_); refine RQ.blockHere ?_
    refine x_ ?_
    exact RQ.ret1 rfl (Res.tmp rfl) fun w' hm => Makes.of (L' := []) h2 (by rw [List.append_nil]; exact hm)
set_option maxRecDepth 10000 in set_option maxHeartbeats 4000000 in
theorem Rforwards_calls (l : List FoD) (hl : l.length < 256 ∧ ∀ p ∈ l, p.rg) (v : Value) (w : World) (hs : SrcW w 11 v l.length (rws FoD.c l)) : MakesB 97 [v] w (rowB FoD.b l) := by
  refine enter Tryz.func97 rfl (Mem.nil w []) rfl ?_
  obtain ⟨aA, cA, rfl, hcA⟩ := hs.shape
  refine x_ ?_
  refine Run.op1 (mkB Tryz.func36 (fun w' hm => rNum (l.length : Int) 1 (by decide) (Int.natCast_nonneg _) w')) ?_
  rintro ⟨⟨v1, l1⟩, h1⟩
  dsimp only at h1 ⊢
  rw [Int.toNat_natCast] at h1
  refine x_ ?_
  refine RC.up l.length (D := Value × Hp) (fun k d => Own 5 1 d.1 (le l.length 1 ++ ((l.take k).map FoD.b).flatten).length (u8s (le l.length 1 ++ ((l.take k).map FoD.b).flatten)) d.2) (fun k d => [(4, .int .i64 k), (3, d.1), (0, .slice aA l.length cA)]) (fun _ d => d.2) 0 (v1, l1) (Nat.zero_le _) (by simpa using h1) ⟨rfl, rfl, rfl, trivial⟩ (List.sublist_append_left _ _) ?_
  rintro k ⟨v2, l2⟩ hk h2
  dsimp only at h2 ⊢
  refine x_ ?_
  (repeat refine RC.seq ?_); refine RC.wh rfl (fun h => RQ.next ?_) (fun h => ?_)
  · have hk' : k < l.length := by have := of_decide_eq_true h; omega
    clear h
    obtain ⟨p, hx⟩ : ∃ p, l[k]? = some p := ⟨_, List.getElem?_eq_getElem hk'⟩
    have hpr := hl.2 p (List.mem_of_getElem? hx)
    have hll := hl.1
    obtain ⟨ad, c', hv', hc', hcl, hr⟩ := hs.pos (by omega)
    cases hv'
    have hbl : (le l.length 1 ++ ((l.take k).map FoD.b).flatten).length = 1 + k * 18 := preB_len FoD.bl hk
    have hst := preB_step FoD.b hx
    have q1 : At w (ad.add (k * 11)) p.c := At.mk fun j u hj => by rw [add_add]; exact hr _ u (rws_at FoD.len hx j u hj)
    have hcl2 : p.c.length = 11 := p.len
    have n1 := p.one
    obtain ⟨r0, r1, r2, r10⟩ := fo_rd p
    have a2 : ∀ j u, (u8s p.o.1)[j]? = some u → p.c[2 + j]? = some u := mid_at (pre := [.int .i64 p.sd, .int .i64 p.ac]) (post := [.int .i64 p.am]) rfl rfl
    have hbe : p.b = le p.sd.toNat 1 ++ (le p.ac.toNat 2 ++ (p.o.1 ++ le p.am.toNat 7)) := rfl
    generalize hB : le l.length 1 ++ ((l.take k).map FoD.b).flatten = B at h2 hbl hst
    have g0 := le_len p.sd.toNat 1
    have g1 := le_len p.ac.toNat 2
    have g2 := p.o.2.1
    have g3 := le_len p.am.toNat 7
    generalize p.c = F at q1 hcl2 n1 r0 r1 r2 r10 a2
    refine x_ ?_
    refine Run.nw nal ?_
    intro b5
    refine x_ ?_
    refine Run.op1 (osa (arr := ti177.zero.cells) F.toArray n1 (hs := by rw [List.size_toArray, hcl2]; rfl)) (fun _ => ?_)
    refine x_ ?_
    (repeat refine RC.seq ?_); refine RC.draw ([(b5, Obj.cells F.toArray 177 (0, 0))]) mixed (N := 17) rfl ?_
    refine dy 0 ?_
    refine dy 1 ?_
    refine dy 2 ?_
    refine dy 5 ?_
    refine dy 6 ?_
    refine dy 9 ?_
    refine DR.t 10 rfl (vslA) ?_
    refine dy 12 ?_
    refine dy 13 ?_
    refine DR.c 3 (DOp.op1 rfl (mkB Tryz.func36 (fun w' hm => rNum p.sd 1 (by decide) hpr.1.1 w')) ?_)
    rintro ⟨⟨v3, l3⟩, h3⟩
    dsimp only at h3 ⊢
    have hp4 : (l3 ++ ([(b5, Obj.cells F.toArray 177 (0, 0))] ++ (l2))).Perm (l2 ++ (l3 ++ ([(b5, Obj.cells F.toArray 177 (0, 0))]))) := (perm_of fun f => by (simp only [List.map_append, List.map_cons, List.map_nil, List.sum_append, List.sum_cons, List.sum_nil] <;> omega))
    refine DR.c 4 (DOp.op1 rfl (apB (L1 := l3 ++ ([(b5, Obj.cells F.toArray 177 (0, 0))])) h2 (le p.sd.toNat 1) (h3.src (fun q hq => (by repeat (first | exact List.mem_append_left _ hq | exact hq | apply List.mem_append_right | apply List.mem_cons_of_mem)))) (by omega) hp4) ?_)
    rintro ⟨⟨v4, l4⟩, h4⟩
    dsimp only at h4 ⊢
    have n4 : (B ++ le p.sd.toNat 1).length = B.length + 1 := by rw [List.length_append, g0]
    refine DR.c 7 (DOp.op1 rfl (mkB Tryz.func36 (fun w' hm => rNum p.ac 2 (by decide) hpr.2.1.1 w')) ?_)
    rintro ⟨⟨v5, l5⟩, h5⟩
    dsimp only at h5 ⊢
    have hp6 : (l5 ++ (l4 ++ (l3 ++ ([(b5, Obj.cells F.toArray 177 (0, 0))])))).Perm (l4 ++ (l5 ++ (l3 ++ ([(b5, Obj.cells F.toArray 177 (0, 0))])))) := (perm_of fun f => by (simp only [List.map_append, List.map_cons, List.map_nil, List.sum_append, List.sum_cons, List.sum_nil] <;> omega))
    refine DR.c 8 (DOp.op1 rfl (apB (L1 := l5 ++ (l3 ++ ([(b5, Obj.cells F.toArray 177 (0, 0))]))) h4 (le p.ac.toNat 2) (h5.src (fun q hq => (by repeat (first | exact List.mem_append_left _ hq | exact hq | apply List.mem_append_right | apply List.mem_cons_of_mem)))) (by omega) hp6) ?_)
    rintro ⟨⟨v6, l6⟩, h6⟩
    dsimp only at h6 ⊢
    have n6 : ((B ++ le p.sd.toNat 1) ++ le p.ac.toNat 2).length = B.length + 3 := by rw [List.length_append, n4, g1]
    have hp7 : (l6 ++ (l5 ++ (l3 ++ ([(b5, Obj.cells F.toArray 177 (0, 0))])))).Perm (l6 ++ (l5 ++ (l3 ++ ([(b5, Obj.cells F.toArray 177 (0, 0))])))) := (perm_of fun f => by (simp only [List.map_append, List.map_cons, List.map_nil, List.sum_append, List.sum_cons, List.sum_nil] <;> omega))
    refine DR.c 11 (DOp.op1 rfl (apB (L1 := l5 ++ (l3 ++ ([(b5, Obj.cells F.toArray 177 (0, 0))]))) h6 (p.o.1) (srcR g2 (by repeat (first | exact List.mem_cons_self | apply List.mem_cons_of_mem | apply List.mem_append_right)) a2) (by omega) hp7) ?_)
    rintro ⟨⟨v7, l7⟩, h7⟩
    dsimp only at h7 ⊢
    have n7 : (((B ++ le p.sd.toNat 1) ++ le p.ac.toNat 2) ++ p.o.1).length = B.length + 11 := by rw [List.length_append, n6, g2]
    refine DR.c 14 (DOp.op1 rfl (mkB Tryz.func36 (fun w' hm => rNum p.am 7 (by decide) hpr.2.2.1 w')) ?_)
    rintro ⟨⟨v8, l8⟩, h8⟩
    dsimp only at h8 ⊢
    have hp9 : (l8 ++ (l7 ++ (l5 ++ (l3 ++ ([(b5, Obj.cells F.toArray 177 (0, 0))]))))).Perm (l7 ++ (l8 ++ (l5 ++ (l3 ++ ([(b5, Obj.cells F.toArray 177 (0, 0))]))))) := (perm_of fun f => by (simp only [List.map_append, List.map_cons, List.map_nil, List.sum_append, List.sum_cons, List.sum_nil] <;> omega))
    refine DR.c 15 (DOp.op1 rfl (apB (L1 := l8 ++ (l5 ++ (l3 ++ ([(b5, Obj.cells F.toArray 177 (0, 0))])))) h7 (le p.am.toNat 7) (h8.src (fun q hq => (by repeat (first | exact List.mem_append_left _ hq | exact hq | apply List.mem_append_right | apply List.mem_cons_of_mem)))) (by omega) hp9) ?_)
    rintro ⟨⟨v9, l9⟩, h9⟩
    dsimp only at h9 ⊢
    refine dy 16 ?_
    refine DR.done (by kernel_rfl) ?_
    refine x_ ?_
    rw [List.append_assoc, List.append_assoc, List.append_assoc, ← hbe] at h9
    exact RQ.up (k + 1) (v9, l9) (Nat.lt_succ_self _) hk' (by rw [hst]; exact h9) ⟨rfl, rfl, rfl, trivial⟩ (List.sublist_append_left _ _)
  · have hk' : k = l.length := by have := of_decide_eq_false h; omega
    clear h
    subst hk'
    rw [List.take_length] at h2
    (repeat refine RQ.thenExit ?_); refine RQ.blockHere ?_
    refine x_ ?_
    exact RQ.ret1 rfl (Res.tmp rfl) fun w' hm => Makes.of (L' := []) h2 (by rw [List.append_nil]; exact hm)
end Go.Proofs.YtfoeakgnkfcbjaaGreatDoor

/- tx: the reference's bytes of parameters, certificates, claims, transactions (gen_txv.py prints it). -/
namespace Go.Proofs.YtfoeakgnkfcbjaaGreatDoor
attribute [local irreducible] Go.Vc.Run Go.Vc.RC Go.Vc.RQ Go.Vc.DR Go.Vc.DOp Go.Vc.Knows Go.Vc.At
set_option maxHeartbeats 400000
open Go Go.Vc Go.Sha
theorem ks_row (l : List (By 8)) : u8s (l.map (·.1)).flatten = rws (fun k : By 8 => u8s k.1) l := by
  unfold rws
  induction l with
  | nil => rfl
  | cons x l ih => rw [List.map_cons, List.map_cons, List.flatten_cons, List.flatten_cons, u8s_app, ih]
set_option maxRecDepth 10000 in set_option maxHeartbeats 4000000 in
theorem Rparams_calls (p : PrD) (hr : p.rg) (a : Option Addr) (cap : Nat) (w : World) (hs : SrcW w 8 (.slice a p.ks.length cap) p.ks.length (u8s (p.ks.map (·.1)).flatten)) : MakesB 98 [.agg (prC p (.slice a p.ks.length cap)).toArray] w p.b := by
  refine enter Tryz.func98 rfl (Mem.nil w []) rfl ?_
  have hbe : p.b = le p.ln.toNat 1 ++ (le p.wd.toNat 1 ++ (le p.nd.toNat 1 ++ (le p.ks.length 1 ++ (p.ks.map (fun k : By 8 => k.1)).flatten))) := rfl
  rw [hbe]
  rw [ks_row] at hs
  have r0 : rdAt ti3 (prC p (.slice a p.ks.length cap)).toArray 0 = some (.int .i64 p.ln) := rfl
  have r1 : rdAt ti3 (prC p (.slice a p.ks.length cap)).toArray 1 = some (.int .i64 p.wd) := rfl
  have r2 : rdAt ti3 (prC p (.slice a p.ks.length cap)).toArray 2 = some (.int .i64 p.nd) := rfl
  have r3 : rdAt ti52 (prC p (.slice a p.ks.length cap)).toArray 3 = some (.slice a p.ks.length cap) := rfl
  generalize prC p (.slice a p.ks.length cap) = F at r0 r1 r2 r3 ⊢
  have hll := hr.2.2.2
  have g0 := le_len p.ln.toNat 1
  have g1 := le_len p.wd.toNat 1
  have g2 := le_len p.nd.toNat 1
  have g3 := le_len p.ks.length 1
  refine z_ ?_
  refine Run.nw nbx ?_
  intro b1
  refine x_ ?_
  (repeat refine RC.seq ?_); refine RC.draw ([(b1, Obj.cells F.toArray 54 (0, 0))]) mixed (N := 17) rfl ?_
  refine dy 0 ?_
  refine dy 1 ?_
  refine dy 3 ?_
  refine dy 4 ?_
  refine dy 7 ?_
  refine dy 8 ?_
  refine dy 11 ?_
  refine dy 12 ?_
  refine dy 13 ?_
  refine DR.c 2 (DOp.op1 rfl (mkB Tryz.func36 (fun w' hm => rNum p.ln 1 (by decide) hr.1.1 w')) ?_)
  rintro ⟨⟨v1, l1⟩, h1⟩
  dsimp only at h1 ⊢
  refine DR.c 5 (DOp.op1 rfl (mkB Tryz.func36 (fun w' hm => rNum p.wd 1 (by decide) hr.2.1.1 w')) ?_)
  rintro ⟨⟨v2, l2⟩, h2⟩
  dsimp only at h2 ⊢
  have hp3 : (l2 ++ (l1 ++ ([(b1, Obj.cells F.toArray 54 (0, 0))]))).Perm (l1 ++ (l2 ++ ([(b1, Obj.cells F.toArray 54 (0, 0))]))) := (perm_of fun f => by (simp only [List.map_append, List.map_cons, List.map_nil, List.sum_append, List.sum_cons, List.sum_nil] <;> omega))
  refine DR.c 6 (DOp.op1 rfl (apB (L1 := l2 ++ ([(b1, Obj.cells F.toArray 54 (0, 0))])) h1 (le p.wd.toNat 1) (h2.src (fun q hq => (by repeat (first | exact List.mem_append_left _ hq | exact hq | apply List.mem_append_right | apply List.mem_cons_of_mem)))) (by omega) hp3) ?_)
  rintro ⟨⟨v3, l3⟩, h3⟩
  dsimp only at h3 ⊢
  have n1 : (le p.ln.toNat 1 ++ le p.wd.toNat 1).length = 2 := by rw [List.length_append, g0, g1]
  refine DR.c 9 (DOp.op1 rfl (mkB Tryz.func36 (fun w' hm => rNum p.nd 1 (by decide) hr.2.2.1.1 w')) ?_)
  rintro ⟨⟨v4, l4⟩, h4⟩
  dsimp only at h4 ⊢
  have hp5 : (l4 ++ (l3 ++ (l2 ++ ([(b1, Obj.cells F.toArray 54 (0, 0))])))).Perm (l3 ++ (l4 ++ (l2 ++ ([(b1, Obj.cells F.toArray 54 (0, 0))])))) := (perm_of fun f => by (simp only [List.map_append, List.map_cons, List.map_nil, List.sum_append, List.sum_cons, List.sum_nil] <;> omega))
  refine DR.c 10 (DOp.op1 rfl (apB (L1 := l4 ++ (l2 ++ ([(b1, Obj.cells F.toArray 54 (0, 0))]))) h3 (le p.nd.toNat 1) (h4.src (fun q hq => (by repeat (first | exact List.mem_append_left _ hq | exact hq | apply List.mem_append_right | apply List.mem_cons_of_mem)))) (by omega) hp5) ?_)
  rintro ⟨⟨v5, l5⟩, h5⟩
  dsimp only at h5 ⊢
  have n2 : ((le p.ln.toNat 1 ++ le p.wd.toNat 1) ++ le p.nd.toNat 1).length = 3 := by rw [List.length_append, n1, g2]
  refine DR.c 14 (DOp.op1 rfl (mkB Tryz.func36 (fun w' hm => rNum (p.ks.length : Int) 1 (by decide) (Int.natCast_nonneg _) w')) ?_)
  rintro ⟨⟨v6, l6⟩, h6⟩
  dsimp only at h6 ⊢
  rw [Int.toNat_natCast] at h6
  have hp7 : (l6 ++ (l5 ++ (l4 ++ (l2 ++ ([(b1, Obj.cells F.toArray 54 (0, 0))]))))).Perm (l5 ++ (l6 ++ (l4 ++ (l2 ++ ([(b1, Obj.cells F.toArray 54 (0, 0))]))))) := (perm_of fun f => by (simp only [List.map_append, List.map_cons, List.map_nil, List.sum_append, List.sum_cons, List.sum_nil] <;> omega))
  refine DR.c 15 (DOp.op1 rfl (apB (L1 := l6 ++ (l4 ++ (l2 ++ ([(b1, Obj.cells F.toArray 54 (0, 0))])))) h5 (le p.ks.length 1) (h6.src (fun q hq => (by repeat (first | exact List.mem_append_left _ hq | exact hq | apply List.mem_append_right | apply List.mem_cons_of_mem)))) (by omega) hp7) ?_)
  rintro ⟨⟨v7, l7⟩, h7⟩
  dsimp only at h7 ⊢
  have n3 : (((le p.ln.toNat 1 ++ le p.wd.toNat 1) ++ le p.nd.toNat 1) ++ le p.ks.length 1).length = 4 := by rw [List.length_append, n2, g3]
  refine dy 16 ?_
  refine DR.done (by kernel_rfl) ?_
  generalize hB : (((le p.ln.toNat 1 ++ le p.wd.toNat 1) ++ le p.nd.toNat 1) ++ le p.ks.length 1) = B at h7 n3
  refine x_ ?_
  refine RC.up p.ks.length (D := Value × Hp) (fun k d => Own 5 1 d.1 (B ++ ((p.ks.take k).map (fun k : By 8 => k.1)).flatten).length (u8s (B ++ ((p.ks.take k).map (fun k : By 8 => k.1)).flatten)) d.2) (fun k d => [(4, .int .i64 k), (3, d.1), (1, .pointer (some ⟨b1, 0, none⟩))]) (fun _ d => d.2 ++ [(b1, Obj.cells F.toArray 54 (0, 0))]) 0 (v7, l7) (Nat.zero_le _) (by simpa using h7) ⟨rfl, rfl, rfl, trivial⟩ (List.Sublist.append (List.Sublist.refl _) (by repeat (first | exact List.nil_sublist _ | exact List.Sublist.refl _ | apply List.Sublist.cons_cons | apply List.Sublist.cons | apply Go.Vc.subApp))) ?_
  rintro k ⟨v8, l8⟩ hk h8
  dsimp only at h8 ⊢
  refine x_ ?_
  (repeat refine RC.seq ?_); refine RC.wh rfl (fun h => RQ.next ?_) (fun h => ?_)
  · have hk' : k < p.ks.length := by have := of_decide_eq_true h; omega
    clear h
    obtain ⟨q, hx⟩ : ∃ q, p.ks[k]? = some q := ⟨_, List.getElem?_eq_getElem hk'⟩
    obtain ⟨ad, c', hv', hc', hcl, hrr⟩ := hs.pos (by omega)
    cases hv'
    have q0 : ∀ j u, (u8s q.1)[j]? = some u → w.cell? ((ad.add (k * 8)).add j) = some u := fun j u hj => by rw [add_add]; exact hrr _ u (rws_at (c := fun k : By 8 => u8s k.1) (sz := 8) (fun k => by rw [u8s_len, k.2.1]) hx j u hj)
    have g8 := q.2.1
    have hbl : (B ++ ((p.ks.take k).map (fun k : By 8 => k.1)).flatten).length = 4 + k * 8 := by rw [List.length_append, n3, rowTl (b := fun k : By 8 => k.1) (fun k => k.2.1) hk]
    refine x_ ?_
    refine Run.a (vslA) ?_
    have hp9 : (l8 ++ ([(b1, Obj.cells F.toArray 54 (0, 0))])).Perm (l8 ++ ([(b1, Obj.cells F.toArray 54 (0, 0))])) := (perm_of fun f => by (simp only [List.map_append, List.map_cons, List.map_nil, List.sum_append, List.sum_cons, List.sum_nil] <;> omega))
    refine Run.op1 (apB (L1 := [(b1, Obj.cells F.toArray 54 (0, 0))]) h8 (q.1) (srcO g8 q0) (by omega) hp9) ?_
    rintro ⟨⟨v9, l9⟩, h9⟩
    dsimp only at h9 ⊢
    refine x_ ?_
    exact RQ.up (k + 1) (v9, l9) (Nat.lt_succ_self _) hk' (by rw [rowT (fun k : By 8 => k.1) hx, ← List.append_assoc]; exact h9) ⟨rfl, rfl, rfl, trivial⟩ (List.Sublist.refl _)
  · have hk' : k = p.ks.length := by have := of_decide_eq_false h; omega
    clear h
    rw [hk', List.take_length, ← hB, List.append_assoc, List.append_assoc, List.append_assoc] at h8
    (repeat refine RQ.thenExit ?_); refine RQ.blockHere ?_
    refine x_ ?_
    exact RQ.ret1 rfl (Res.tmp rfl) fun w' hm => Makes.of (L' := [(b1, Obj.cells F.toArray 54 (0, 0))]) h8 hm
set_option maxRecDepth 10000 in set_option maxHeartbeats 4000000 in
theorem RclaimB_calls (l : ClD) (hr : l.rg) (w : World) : MakesB 100 [.agg l.c.toArray] w l.b := by
  refine enter Tryz.func100 rfl (Mem.nil w []) rfl ?_
  have hbe : l.b = le l.sd.toNat 1 ++ (le l.ac.toNat 2 ++ (l.o.1 ++ (le l.am.toNat 7 ++ (le l.no.toNat 1 ++ l.pf.1)))) := rfl
  rw [hbe]
  have a12 := l.at12
  have a2 : ∀ j u, (u8s l.o.1)[j]? = some u → l.c[2 + j]? = some u := mid_at (pre := [.int .i64 l.sd, .int .i64 l.ac]) (post := .int .i64 l.am :: .int .i64 l.no :: u8s l.pf.1) rfl rfl
  obtain ⟨r0, r1, r2, r10, r11⟩ := cl_rd l
  generalize l.c = F at r0 r1 r2 r10 r11 a12 a2 ⊢
  have g0 := le_len l.sd.toNat 1
  have g1 := le_len l.ac.toNat 2
  have g2 := l.o.2.1
  have g3 := le_len l.am.toNat 7
  have g4 := le_len l.no.toNat 1
  have g5 := l.pf.2.1
  refine z_ ?_
  refine Run.nw nbx ?_
  intro b1
  refine x_ ?_
  (repeat refine RC.seq ?_); refine RC.draw ([(b1, Obj.cells F.toArray 62 (0, 0))]) mixed (N := 12) rfl ?_
  refine dy 0 ?_
  refine dy 1 ?_
  refine dy 3 ?_
  refine dy 4 ?_
  refine dy 7 ?_
  refine dy 8 ?_
  refine DR.t 9 rfl (vslA) ?_
  refine DR.c 2 (DOp.op1 rfl (mkB Tryz.func36 (fun w' hm => rNum l.sd 1 (by decide) hr.1.1 w')) ?_)
  rintro ⟨⟨v1, l1⟩, h1⟩
  dsimp only at h1 ⊢
  refine DR.c 5 (DOp.op1 rfl (mkB Tryz.func36 (fun w' hm => rNum l.ac 2 (by decide) hr.2.1.1 w')) ?_)
  rintro ⟨⟨v2, l2⟩, h2⟩
  dsimp only at h2 ⊢
  have hp3 : (l2 ++ (l1 ++ ([(b1, Obj.cells F.toArray 62 (0, 0))]))).Perm (l1 ++ (l2 ++ ([(b1, Obj.cells F.toArray 62 (0, 0))]))) := (perm_of fun f => by (simp only [List.map_append, List.map_cons, List.map_nil, List.sum_append, List.sum_cons, List.sum_nil] <;> omega))
  refine DR.c 6 (DOp.op1 rfl (apB (L1 := l2 ++ ([(b1, Obj.cells F.toArray 62 (0, 0))])) h1 (le l.ac.toNat 2) (h2.src (fun q hq => (by repeat (first | exact List.mem_append_left _ hq | exact hq | apply List.mem_append_right | apply List.mem_cons_of_mem)))) (by omega) hp3) ?_)
  rintro ⟨⟨v3, l3⟩, h3⟩
  dsimp only at h3 ⊢
  have n1 : (le l.sd.toNat 1 ++ le l.ac.toNat 2).length = 3 := by rw [List.length_append, g0, g1]
  have hp4 : (l3 ++ (l2 ++ ([(b1, Obj.cells F.toArray 62 (0, 0))]))).Perm (l3 ++ (l2 ++ ([(b1, Obj.cells F.toArray 62 (0, 0))]))) := (perm_of fun f => by (simp only [List.map_append, List.map_cons, List.map_nil, List.sum_append, List.sum_cons, List.sum_nil] <;> omega))
  refine DR.c 10 (DOp.op1 rfl (apB (L1 := l2 ++ ([(b1, Obj.cells F.toArray 62 (0, 0))])) h3 (l.o.1) (srcR g2 (by repeat (first | exact List.mem_cons_self | apply List.mem_cons_of_mem | apply List.mem_append_right)) a2) (by omega) hp4) ?_)
  rintro ⟨⟨v4, l4⟩, h4⟩
  dsimp only at h4 ⊢
  have n2 : ((le l.sd.toNat 1 ++ le l.ac.toNat 2) ++ l.o.1).length = 11 := by rw [List.length_append, n1, g2]
  refine dy 11 ?_
  refine DR.done (by kernel_rfl) ?_
  refine x_ ?_
  (repeat refine RC.seq ?_); refine RC.draw ([(b1, Obj.cells F.toArray 62 (0, 0))]) mixed (N := 12) rfl ?_
  refine dy 0 ?_
  refine dy 1 ?_
  refine dy 2 ?_
  refine dy 3 ?_
  refine dy 6 ?_
  refine dy 7 ?_
  refine dy 8 ?_
  refine DR.c 4 (DOp.op1 rfl (mkB Tryz.func36 (fun w' hm => rNum l.am 7 (by decide) hr.2.2.1.1 w')) ?_)
  rintro ⟨⟨v5, l5⟩, h5⟩
  dsimp only at h5 ⊢
  have hp6 : (l5 ++ (l4 ++ (l2 ++ ([(b1, Obj.cells F.toArray 62 (0, 0))])))).Perm (l4 ++ (l5 ++ (l2 ++ ([(b1, Obj.cells F.toArray 62 (0, 0))])))) := (perm_of fun f => by (simp only [List.map_append, List.map_cons, List.map_nil, List.sum_append, List.sum_cons, List.sum_nil] <;> omega))
  refine DR.c 5 (DOp.op1 rfl (apB (L1 := l5 ++ (l2 ++ ([(b1, Obj.cells F.toArray 62 (0, 0))]))) h4 (le l.am.toNat 7) (h5.src (fun q hq => (by repeat (first | exact List.mem_append_left _ hq | exact hq | apply List.mem_append_right | apply List.mem_cons_of_mem)))) (by omega) hp6) ?_)
  rintro ⟨⟨v6, l6⟩, h6⟩
  dsimp only at h6 ⊢
  have n3 : (((le l.sd.toNat 1 ++ le l.ac.toNat 2) ++ l.o.1) ++ le l.am.toNat 7).length = 18 := by rw [List.length_append, n2, g3]
  refine DR.c 9 (DOp.op1 rfl (mkB Tryz.func36 (fun w' hm => rNum l.no 1 (by decide) hr.2.2.2.1 w')) ?_)
  rintro ⟨⟨v7, l7⟩, h7⟩
  dsimp only at h7 ⊢
  have hp8 : (l7 ++ (l6 ++ (l5 ++ (l2 ++ ([(b1, Obj.cells F.toArray 62 (0, 0))]))))).Perm (l6 ++ (l7 ++ (l5 ++ (l2 ++ ([(b1, Obj.cells F.toArray 62 (0, 0))]))))) := (perm_of fun f => by (simp only [List.map_append, List.map_cons, List.map_nil, List.sum_append, List.sum_cons, List.sum_nil] <;> omega))
  refine DR.c 10 (DOp.op1 rfl (apB (L1 := l7 ++ (l5 ++ (l2 ++ ([(b1, Obj.cells F.toArray 62 (0, 0))])))) h6 (le l.no.toNat 1) (h7.src (fun q hq => (by repeat (first | exact List.mem_append_left _ hq | exact hq | apply List.mem_append_right | apply List.mem_cons_of_mem)))) (by omega) hp8) ?_)
  rintro ⟨⟨v8, l8⟩, h8⟩
  dsimp only at h8 ⊢
  have n4 : ((((le l.sd.toNat 1 ++ le l.ac.toNat 2) ++ l.o.1) ++ le l.am.toNat 7) ++ le l.no.toNat 1).length = 19 := by rw [List.length_append, n3, g4]
  refine dy 11 ?_
  refine DR.done (by kernel_rfl) ?_
  generalize hB : ((((le l.sd.toNat 1 ++ le l.ac.toNat 2) ++ l.o.1) ++ le l.am.toNat 7) ++ le l.no.toNat 1) = B at h8 n4
  refine x_ ?_
  refine RC.up 16 (D := Value × Hp) (fun k d => Own 5 1 d.1 (B ++ l.pf.1.take (k * 8)).length (u8s (B ++ l.pf.1.take (k * 8))) d.2) (fun k d => [(4, .int .i64 k), (3, d.1), (1, .pointer (some ⟨b1, 0, none⟩))]) (fun _ d => d.2 ++ [(b1, Obj.cells F.toArray 62 (0, 0))]) 0 (v8, l8) (Nat.zero_le _) (by rw [Nat.zero_mul, List.take_zero, List.append_nil]; exact h8) ⟨rfl, rfl, rfl, trivial⟩ (List.Sublist.append (List.Sublist.refl _) (by repeat (first | exact List.nil_sublist _ | exact List.Sublist.refl _ | apply List.Sublist.cons_cons | apply List.Sublist.cons | apply Go.Vc.subApp))) ?_
  rintro k ⟨v9, l9⟩ hk h9
  dsimp only at h9 ⊢
  refine x_ ?_
  (repeat refine RC.seq ?_); refine RC.wh rfl (fun h => RQ.next ?_) (fun h => ?_)
  · have hk' : k < 16 := by have := of_decide_eq_true h; omega
    clear h
    refine x_ ?_
    refine Run.a (via k (12 + k * 8)) ?_
    refine Run.a (vslA) ?_
    have h8 : ((l.pf.1.drop (k * 8)).take 8).length = 8 := by rw [List.length_take, List.length_drop, g5]; omega
    have hbl : (B ++ l.pf.1.take (k * 8)).length ≤ 1000 := by simp only [List.length_append, List.length_take, n4, g5]; omega
    have hp10 : (l9 ++ ([(b1, Obj.cells F.toArray 62 (0, 0))])).Perm (l9 ++ ([(b1, Obj.cells F.toArray 62 (0, 0))])) := (perm_of fun f => by (simp only [List.map_append, List.map_cons, List.map_nil, List.sum_append, List.sum_cons, List.sum_nil] <;> omega))
    refine Run.op1 (apB (L1 := [(b1, Obj.cells F.toArray 62 (0, 0))]) h9 ((l.pf.1.drop (k * 8)).take 8) (srcR h8 (List.mem_append_right _ List.mem_cons_self) (fun j u hj => at_sub a12 (k * 8) 8 j u (by rw [← mayU8]; exact hj))) (by omega) hp10) ?_
    rintro ⟨⟨v10, l10⟩, h10⟩
    dsimp only at h10 ⊢
    refine x_ ?_
    exact RQ.up (k + 1) (v10, l10) (Nat.lt_succ_self _) hk' (by rw [List.append_assoc, take_step] at h10; exact h10) ⟨rfl, rfl, rfl, trivial⟩ (List.Sublist.refl _)
  · have hk' : k = 16 := by have := of_decide_eq_false h; omega
    clear h
    subst hk'
    rw [List.take_of_length_le (by rw [g5]; decide), ← hB, List.append_assoc, List.append_assoc, List.append_assoc, List.append_assoc] at h9
    (repeat refine RQ.thenExit ?_); refine RQ.blockHere ?_
    refine x_ ?_
    exact RQ.ret1 rfl (Res.tmp rfl) fun w' hm => Makes.of (L' := [(b1, Obj.cells F.toArray 62 (0, 0))]) h9 hm
set_option maxRecDepth 10000 in set_option maxHeartbeats 4000000 in
theorem RcertB_calls (c : CeD) (hr : c.rg) (a : Option Addr) (cap : Nat) (aA : Option Addr) (cA : Nat) (w : World) (hs : SrcW w 9 (.slice a c.os.length cap) c.os.length (rws OutD.c c.os)) (hg : SrcW w 282 (.slice aA c.sg.length cA) c.sg.length (rws SgD.c c.sg)) : MakesB 99 [.agg (ceC c (.slice a c.os.length cap) (.slice aA c.sg.length cA)).toArray] w c.b := by
  refine enter Tryz.func99 rfl (Mem.nil w []) rfl ?_
  have hbe : c.b = le c.sd.toNat 1 ++ (le c.ep.toNat 4 ++ (le c.ql.toNat 4 ++ (c.en.1 ++ (c.ro.1 ++ (rowB OutD.b c.os ++ rowB SgD.b c.sg))))) := rfl
  rw [hbe]
  have a3 : ∀ j u, (u8s c.en.1)[j]? = some u → (ceC c (.slice a c.os.length cap) (.slice aA c.sg.length cA))[3 + j]? = some u := mid_at (pre := [.int .i64 c.sd, .int .i64 c.ep, .int .i64 c.ql]) (post := u8s c.ro.1 ++ [.slice a c.os.length cap, .slice aA c.sg.length cA]) rfl rfl
  have a11 : ∀ j u, (u8s c.ro.1)[j]? = some u → (ceC c (.slice a c.os.length cap) (.slice aA c.sg.length cA))[11 + j]? = some u := mid_at (pre := .int .i64 c.sd :: .int .i64 c.ep :: .int .i64 c.ql :: u8s c.en.1) (post := [.slice a c.os.length cap, .slice aA c.sg.length cA]) rfl (by rw [List.length_cons, List.length_cons, List.length_cons, u8s_len, c.en.2.1])
  obtain ⟨r0, r1, r2, r3, r11, r19, r20⟩ := ce_rd c (.slice a c.os.length cap) (.slice aA c.sg.length cA)
  generalize ceC c (.slice a c.os.length cap) (.slice aA c.sg.length cA) = F at r0 r1 r2 r3 r11 r19 r20 a3 a11 ⊢
  have g0 := le_len c.sd.toNat 1
  have g1 := le_len c.ep.toNat 4
  have g2 := le_len c.ql.toNat 4
  have g3 := c.en.2.1
  have g4 := c.ro.2.1
  have g5 := rowB_len OutD.bl c.os
  have g6 := le_len c.sg.length 1
  have hlo := hr.2.2.2.1.1
  have hls := hr.2.2.2.2.1
  refine z_ ?_
  refine Run.nw nbx ?_
  intro b1
  refine x_ ?_
  (repeat refine RC.seq ?_); refine RC.draw ([(b1, Obj.cells F.toArray 57 (0, 0))]) mixed (N := 12) rfl ?_
  refine dy 0 ?_
  refine dy 1 ?_
  refine dy 3 ?_
  refine dy 4 ?_
  refine dy 7 ?_
  refine dy 8 ?_
  refine DR.c 2 (DOp.op1 rfl (mkB Tryz.func36 (fun w' hm => rNum c.sd 1 (by decide) hr.1.1 w')) ?_)
  rintro ⟨⟨v1, l1⟩, h1⟩
  dsimp only at h1 ⊢
  refine DR.c 5 (DOp.op1 rfl (mkB Tryz.func36 (fun w' hm => rNum c.ep 4 (by decide) hr.2.1.1 w')) ?_)
  rintro ⟨⟨v2, l2⟩, h2⟩
  dsimp only at h2 ⊢
  have hp3 : (l2 ++ (l1 ++ ([(b1, Obj.cells F.toArray 57 (0, 0))]))).Perm (l1 ++ (l2 ++ ([(b1, Obj.cells F.toArray 57 (0, 0))]))) := (perm_of fun f => by (simp only [List.map_append, List.map_cons, List.map_nil, List.sum_append, List.sum_cons, List.sum_nil] <;> omega))
  refine DR.c 6 (DOp.op1 rfl (apB (L1 := l2 ++ ([(b1, Obj.cells F.toArray 57 (0, 0))])) h1 (le c.ep.toNat 4) (h2.src (fun q hq => (by repeat (first | exact List.mem_append_left _ hq | exact hq | apply List.mem_append_right | apply List.mem_cons_of_mem)))) (by omega) hp3) ?_)
  rintro ⟨⟨v3, l3⟩, h3⟩
  dsimp only at h3 ⊢
  have n1 : (le c.sd.toNat 1 ++ le c.ep.toNat 4).length = 5 := by rw [List.length_append, g0, g1]
  refine DR.c 9 (DOp.op1 rfl (mkB Tryz.func36 (fun w' hm => rNum c.ql 4 (by decide) hr.2.2.1.1 w')) ?_)
  rintro ⟨⟨v4, l4⟩, h4⟩
  dsimp only at h4 ⊢
  have hp5 : (l4 ++ (l3 ++ (l2 ++ ([(b1, Obj.cells F.toArray 57 (0, 0))])))).Perm (l3 ++ (l4 ++ (l2 ++ ([(b1, Obj.cells F.toArray 57 (0, 0))])))) := (perm_of fun f => by (simp only [List.map_append, List.map_cons, List.map_nil, List.sum_append, List.sum_cons, List.sum_nil] <;> omega))
  refine DR.c 10 (DOp.op1 rfl (apB (L1 := l4 ++ (l2 ++ ([(b1, Obj.cells F.toArray 57 (0, 0))]))) h3 (le c.ql.toNat 4) (h4.src (fun q hq => (by repeat (first | exact List.mem_append_left _ hq | exact hq | apply List.mem_append_right | apply List.mem_cons_of_mem)))) (by omega) hp5) ?_)
  rintro ⟨⟨v5, l5⟩, h5⟩
  dsimp only at h5 ⊢
  have n2 : ((le c.sd.toNat 1 ++ le c.ep.toNat 4) ++ le c.ql.toNat 4).length = 9 := by rw [List.length_append, n1, g2]
  refine dy 11 ?_
  refine DR.done (by kernel_rfl) ?_
  generalize hB : ((le c.sd.toNat 1 ++ le c.ep.toNat 4) ++ le c.ql.toNat 4) = B at h5 n2
  refine x_ ?_
  (repeat refine RC.seq ?_); refine RC.draw ([(b1, Obj.cells F.toArray 57 (0, 0))]) mixed (N := 12) rfl ?_
  refine dy 0 ?_
  refine dy 1 ?_
  refine DR.t 2 rfl (vslA) ?_
  refine dy 4 ?_
  refine DR.t 5 rfl (vslA) ?_
  refine dy 7 ?_
  refine dy 8 ?_
  have hp6 : (l5 ++ (l4 ++ (l2 ++ ([(b1, Obj.cells F.toArray 57 (0, 0))])))).Perm (l5 ++ (l4 ++ (l2 ++ ([(b1, Obj.cells F.toArray 57 (0, 0))])))) := (perm_of fun f => by (simp only [List.map_append, List.map_cons, List.map_nil, List.sum_append, List.sum_cons, List.sum_nil] <;> omega))
  refine DR.c 3 (DOp.op1 rfl (apB (L1 := l4 ++ (l2 ++ ([(b1, Obj.cells F.toArray 57 (0, 0))]))) h5 (c.en.1) (srcR g3 (by repeat (first | exact List.mem_cons_self | apply List.mem_cons_of_mem | apply List.mem_append_right)) a3) (by omega) hp6) ?_)
  rintro ⟨⟨v6, l6⟩, h6⟩
  dsimp only at h6 ⊢
  have n3 : (B ++ c.en.1).length = 17 := by rw [List.length_append, n2, g3]
  have hp7 : (l6 ++ (l4 ++ (l2 ++ ([(b1, Obj.cells F.toArray 57 (0, 0))])))).Perm (l6 ++ (l4 ++ (l2 ++ ([(b1, Obj.cells F.toArray 57 (0, 0))])))) := (perm_of fun f => by (simp only [List.map_append, List.map_cons, List.map_nil, List.sum_append, List.sum_cons, List.sum_nil] <;> omega))
  refine DR.c 6 (DOp.op1 rfl (apB (L1 := l4 ++ (l2 ++ ([(b1, Obj.cells F.toArray 57 (0, 0))]))) h6 (c.ro.1) (srcR g4 (by repeat (first | exact List.mem_cons_self | apply List.mem_cons_of_mem | apply List.mem_append_right)) a11) (by omega) hp7) ?_)
  rintro ⟨⟨v7, l7⟩, h7⟩
  dsimp only at h7 ⊢
  have n4 : ((B ++ c.en.1) ++ c.ro.1).length = 25 := by rw [List.length_append, n3, g4]
  refine DR.c 9 (DOp.op1 rfl (mkB Tryz.func95 (fun w' hm => Routs_calls c.os hr.2.2.2.1 _ w' (hs.fr hm.fr))) ?_)
  rintro ⟨⟨v8, l8⟩, h8⟩
  dsimp only at h8 ⊢
  have hp9 : (l8 ++ (l7 ++ (l4 ++ (l2 ++ ([(b1, Obj.cells F.toArray 57 (0, 0))]))))).Perm (l7 ++ (l8 ++ (l4 ++ (l2 ++ ([(b1, Obj.cells F.toArray 57 (0, 0))]))))) := (perm_of fun f => by (simp only [List.map_append, List.map_cons, List.map_nil, List.sum_append, List.sum_cons, List.sum_nil] <;> omega))
  refine DR.c 10 (DOp.op1 rfl (apB (L1 := l8 ++ (l4 ++ (l2 ++ ([(b1, Obj.cells F.toArray 57 (0, 0))])))) h7 (rowB OutD.b c.os) (h8.src (fun q hq => (by repeat (first | exact List.mem_append_left _ hq | exact hq | apply List.mem_append_right | apply List.mem_cons_of_mem)))) (by omega) hp9) ?_)
  rintro ⟨⟨v9, l9⟩, h9⟩
  dsimp only at h9 ⊢
  have n5 : (((B ++ c.en.1) ++ c.ro.1) ++ rowB OutD.b c.os).length = 26 + c.os.length * 15 := by rw [List.length_append, n4, g5]; omega
  refine dy 11 ?_
  refine DR.done (by kernel_rfl) ?_
  refine x_ ?_
  refine Run.op1 (mkB Tryz.func36 (fun w' hm => rNum (c.sg.length : Int) 1 (by decide) (Int.natCast_nonneg _) w')) ?_
  rintro ⟨⟨v10, l10⟩, h10⟩
  dsimp only at h10 ⊢
  rw [Int.toNat_natCast] at h10
  have hp11 : (l10 ++ (l9 ++ (l8 ++ (l4 ++ (l2 ++ ([(b1, Obj.cells F.toArray 57 (0, 0))])))))).Perm (l9 ++ (l10 ++ (l8 ++ (l4 ++ (l2 ++ ([(b1, Obj.cells F.toArray 57 (0, 0))])))))) := (perm_of fun f => by (simp only [List.map_append, List.map_cons, List.map_nil, List.sum_append, List.sum_cons, List.sum_nil] <;> omega))
  refine Run.op1 (apB (L1 := l10 ++ (l8 ++ (l4 ++ (l2 ++ ([(b1, Obj.cells F.toArray 57 (0, 0))]))))) h9 (le c.sg.length 1) (h10.src (fun q hq => (by repeat (first | exact List.mem_append_left _ hq | exact hq | apply List.mem_append_right | apply List.mem_cons_of_mem)))) (by omega) hp11) ?_
  rintro ⟨⟨v11, l11⟩, h11⟩
  dsimp only at h11 ⊢
  have n6 : ((((B ++ c.en.1) ++ c.ro.1) ++ rowB OutD.b c.os) ++ le c.sg.length 1).length = 27 + c.os.length * 15 := by rw [List.length_append, n5, g6]; omega
  generalize hC : ((((B ++ c.en.1) ++ c.ro.1) ++ rowB OutD.b c.os) ++ le c.sg.length 1) = C at h11 n6
  refine x_ ?_
  refine RC.up c.sg.length (D := Value × Hp) (fun k d => Own 5 1 d.1 (C ++ ((c.sg.take k).map SgD.b).flatten).length (u8s (C ++ ((c.sg.take k).map SgD.b).flatten)) d.2) (fun k d => [(4, .int .i64 k), (3, d.1), (1, .pointer (some ⟨b1, 0, none⟩))]) (fun _ d => d.2 ++ [(b1, Obj.cells F.toArray 57 (0, 0))]) 0 (v11, l11) (Nat.zero_le _) (by simpa using h11) ⟨rfl, rfl, rfl, trivial⟩ (List.Sublist.append (List.Sublist.refl _) (by repeat (first | exact List.nil_sublist _ | exact List.Sublist.refl _ | apply List.Sublist.cons_cons | apply List.Sublist.cons | apply Go.Vc.subApp))) ?_
  rintro k ⟨v12, l12⟩ hk h12
  dsimp only at h12 ⊢
  refine x_ ?_
  (repeat refine RC.seq ?_); refine RC.wh rfl (fun h => RQ.next ?_) (fun h => ?_)
  · have hk' : k < c.sg.length := by have := of_decide_eq_true h; omega
    clear h
    obtain ⟨p, hx⟩ : ∃ p, c.sg[k]? = some p := ⟨_, List.getElem?_eq_getElem hk'⟩
    have hpr := hr.2.2.2.2.2 p (List.mem_of_getElem? hx)
    obtain ⟨ad, c', hv', hc', hcl, hrr⟩ := hg.pos (by omega)
    cases hv'
    have q0 : w.cell? ((ad.add (k * 282)).add 0) = some (.int .i64 p.k) := by rw [add_add]; exact hrr _ _ (rws_at SgD.len hx 0 _ rfl)
    have q1 : At w ((ad.add (k * 282)).add 1) p.s.c := At.mk fun j u hj => by
      rw [add_add, add_add]
      refine hrr _ u (rws_at SgD.len hx (1 + j) u ?_)
      rw [Nat.add_comm]; exact hj
    have hsl : p.s.c.length = 281 := p.s.len
    have hpe : p.b = le p.k.toNat 1 ++ p.s.b := rfl
    have gk := le_len p.k.toNat 1
    have gs := p.s.bl
    have hbl : (C ++ ((c.sg.take k).map SgD.b).flatten).length = 27 + c.os.length * 15 + k * 282 := by rw [List.length_append, n6, rowTl SgD.bl hk]
    generalize hD : C ++ ((c.sg.take k).map SgD.b).flatten = D at h12 hbl
    refine x_ ?_
    (repeat refine RC.seq ?_); refine RC.draw ([(b1, Obj.cells F.toArray 57 (0, 0))]) mixed (N := 18) rfl ?_
    refine dy 0 ?_
    refine dy 1 ?_
    refine dy 2 ?_
    refine dy 3 ?_
    refine DR.t 4 rfl (vixA) ?_
    refine DR.t 5 rfl (vfAA) ?_
    refine dy 6 ?_
    refine dy 9 ?_
    refine dy 10 ?_
    refine dy 11 ?_
    refine DR.t 12 rfl (vixA) ?_
    refine DR.t 13 rfl (vfAA) ?_
    refine dy 14 ?_
    refine DR.c 7 (DOp.op1 rfl (mkB Tryz.func36 (fun w' hm => rNum p.k 1 (by decide) hpr.1.1 w')) ?_)
    rintro ⟨⟨v13, l13⟩, h13⟩
    dsimp only at h13 ⊢
    have hp14 : (l13 ++ (l12 ++ ([(b1, Obj.cells F.toArray 57 (0, 0))]))).Perm (l12 ++ (l13 ++ ([(b1, Obj.cells F.toArray 57 (0, 0))]))) := (perm_of fun f => by (simp only [List.map_append, List.map_cons, List.map_nil, List.sum_append, List.sum_cons, List.sum_nil] <;> omega))
    refine DR.c 8 (DOp.op1 rfl (apB (L1 := l13 ++ ([(b1, Obj.cells F.toArray 57 (0, 0))])) h12 (le p.k.toNat 1) (h13.src (fun q hq => (by repeat (first | exact List.mem_append_left _ hq | exact hq | apply List.mem_append_right | apply List.mem_cons_of_mem)))) (by omega) hp14) ?_)
    rintro ⟨⟨v14, l14⟩, h14⟩
    dsimp only at h14 ⊢
    have m1 : (D ++ le p.k.toNat 1).length = D.length + 1 := by rw [List.length_append, gk]
    refine DR.c 15 (DOp.op1 rfl (mkB Tryz.func142 (fun w' hm => Rsig_calls p.s hpr.2 w')) ?_)
    rintro ⟨⟨v15, l15⟩, h15⟩
    dsimp only at h15 ⊢
    have hp16 : (l15 ++ (l14 ++ (l13 ++ ([(b1, Obj.cells F.toArray 57 (0, 0))])))).Perm (l14 ++ (l15 ++ (l13 ++ ([(b1, Obj.cells F.toArray 57 (0, 0))])))) := (perm_of fun f => by (simp only [List.map_append, List.map_cons, List.map_nil, List.sum_append, List.sum_cons, List.sum_nil] <;> omega))
    refine DR.c 16 (DOp.op1 rfl (apB (L1 := l15 ++ (l13 ++ ([(b1, Obj.cells F.toArray 57 (0, 0))]))) h14 (p.s.b) (h15.src (fun q hq => (by repeat (first | exact List.mem_append_left _ hq | exact hq | apply List.mem_append_right | apply List.mem_cons_of_mem)))) (by omega) hp16) ?_)
    rintro ⟨⟨v16, l16⟩, h16⟩
    dsimp only at h16 ⊢
    refine dy 17 ?_
    refine DR.done (by kernel_rfl) ?_
    refine x_ ?_
    rw [List.append_assoc, ← hpe] at h16
    exact RQ.up (k + 1) (v16, l16) (Nat.lt_succ_self _) hk' (by rw [rowT SgD.b hx, ← List.append_assoc, hD]; exact h16) ⟨rfl, rfl, rfl, trivial⟩ (List.Sublist.append (List.Sublist.refl _) (by repeat (first | exact List.nil_sublist _ | exact List.Sublist.refl _ | apply List.Sublist.cons_cons | apply List.Sublist.cons | apply Go.Vc.subApp)))
  · have hk' : k = c.sg.length := by have := of_decide_eq_false h; omega
    clear h
    have hfin : C ++ (c.sg.map SgD.b).flatten = le c.sd.toNat 1 ++ (le c.ep.toNat 4 ++ (le c.ql.toNat 4 ++ (c.en.1 ++ (c.ro.1 ++ (rowB OutD.b c.os ++ rowB SgD.b c.sg))))) := by
      rw [← hC, ← hB]
      unfold rowB
      simp only [List.append_assoc]
    rw [hk', List.take_length, hfin] at h12
    (repeat refine RQ.thenExit ?_); refine RQ.blockHere ?_
    refine x_ ?_
    exact RQ.ret1 rfl (Res.tmp rfl) fun w' hm => Makes.of (L' := [(b1, Obj.cells F.toArray 57 (0, 0))]) h12 hm
set_option maxRecDepth 10000 in set_option maxHeartbeats 4000000 in
theorem REncode_calls (t : TxD) (v : TxV) (hln : TxLn t) (w : World) (ht : TxAt w t v) : EncT 55 t v w := by
  unfold EncT
  refine enter Tryz.func55 rfl (Mem.nil w []) rfl ?_
  have c0 : Knows Tryz.prog w 48 [.agg (txC t v).toArray] (.bool (decide (TxMay t))) := Knows.mk Tryz.func48 (fun w' hf => RMayTx_calls t v hln w' (ht.fr hf))
  obtain ⟨rk, rh, ri, ro, rf, rp, _, rc, _, _, _, _, rl⟩ := tx_rd t v
  have hFs : (txC t v).toArray.size = 170 := by rw [List.size_toArray, txC_len]
  generalize txC t v = F at rk rh ri ro rf rp rc rl c0 hFs ⊢
  refine z_ ?_
  refine Run.nw nbx ?_
  intro b1
  by_cases hm : TxMay t
  rotate_left
  · rw [decide_eq_false hm] at c0
    have hE : encE t = 1 := if_neg hm
    have hB : encB t = [] := if_neg hm
    rw [hE]
    refine x_ ?_
    exact RQ.ret2 rfl (Res.tmp rfl) (Res.tmp rfl) fun w' hm => Turns.of (Y := EncY t) (V := fun y => .tuple #[y.1.1, .int .i64 1]) (L' := fun y => y.1.2) (Lst := []) ⟨(.slice none 0 0, []), by rw [hB]; exact Own.nil⟩ hm (Lr := _) (List.Perm.refl _)
  rw [decide_eq_true hm] at c0
  have hE : encE t = 0 := if_pos hm
  have hB : encB t = t.b := if_pos hm
  rw [hE]
  have hM := (TxMay.iff t).1 hm
  have hkr : rg 1 t.kd := ⟨by have := hM.k; omega, by have := hM.k; omega⟩
  have g1 := le_len t.kd.toNat 1
  refine x_ ?_
  refine Run.op1 (mkB Tryz.func36 (fun w' hm => rNum t.kd 1 (by decide) hkr.1 w')) ?_
  rintro ⟨⟨v1, l1⟩, h1⟩
  dsimp only at h1 ⊢
  by_cases hk : t.kd = 1
  · have hw2 := (hM.m1 hk).2.2
    refine x_ ?_
    (repeat refine RC.seq ?_); refine RC.draw ([(b1, Obj.cells F.toArray 64 (0, 0))]) mixed (N := 11) rfl ?_
    refine dy 0 ?_
    refine dy 1 ?_
    refine dy 2 ?_
    refine dy 5 ?_
    refine dy 6 ?_
    refine DR.c 3 (DOp.op1 rfl (mkB Tryz.func36 (fun w' hm => rNum t.ht 4 (by decide) (by have := hM.m1 hk; omega) w')) ?_)
    rintro ⟨⟨v2, l2⟩, h2⟩
    dsimp only at h2 ⊢
    have e2 := le_len t.ht.toNat 4
    have hp3 : (l2 ++ (l1 ++ ([(b1, Obj.cells F.toArray 64 (0, 0))]))).Perm (l1 ++ (l2 ++ ([(b1, Obj.cells F.toArray 64 (0, 0))]))) := (perm_of fun f => by (simp only [List.map_append, List.map_cons, List.map_nil, List.sum_append, List.sum_cons, List.sum_nil] <;> omega))
    refine DR.c 4 (DOp.op1 rfl (apB (L1 := l2 ++ ([(b1, Obj.cells F.toArray 64 (0, 0))])) h1 (le t.ht.toNat 4) (h2.src (fun q hq => (by repeat (first | exact List.mem_append_left _ hq | exact hq | apply List.mem_append_right | apply List.mem_cons_of_mem)))) (by omega) hp3) ?_)
    rintro ⟨⟨v3, l3⟩, h3⟩
    dsimp only at h3 ⊢
    have n2 : ((le t.kd.toNat 1) ++ le t.ht.toNat 4).length = (le t.kd.toNat 1).length + (le t.ht.toNat 4).length := List.length_append
    refine DR.c 7 (DOp.op1 rfl (mkB Tryz.func95 (fun w' hm => Routs_calls t.os (mayO_rg (hM.m1 hk).2) _ w' (ht.o.fr hm.fr))) ?_)
    rintro ⟨⟨v4, l4⟩, h4⟩
    dsimp only at h4 ⊢
    have e3 := rowB_len OutD.bl t.os
    have hp5 : (l4 ++ (l3 ++ (l2 ++ ([(b1, Obj.cells F.toArray 64 (0, 0))])))).Perm (l3 ++ (l4 ++ (l2 ++ ([(b1, Obj.cells F.toArray 64 (0, 0))])))) := (perm_of fun f => by (simp only [List.map_append, List.map_cons, List.map_nil, List.sum_append, List.sum_cons, List.sum_nil] <;> omega))
    refine DR.c 8 (DOp.op1 rfl (apB (L1 := l4 ++ (l2 ++ ([(b1, Obj.cells F.toArray 64 (0, 0))]))) h3 (rowB OutD.b t.os) (h4.src (fun q hq => (by repeat (first | exact List.mem_append_left _ hq | exact hq | apply List.mem_append_right | apply List.mem_cons_of_mem)))) (by omega) hp5) ?_)
    rintro ⟨⟨v5, l5⟩, h5⟩
    dsimp only at h5 ⊢
    have n3 : (((le t.kd.toNat 1) ++ le t.ht.toNat 4) ++ rowB OutD.b t.os).length = ((le t.kd.toNat 1) ++ le t.ht.toNat 4).length + (rowB OutD.b t.os).length := List.length_append
    refine dy 9 ?_
    refine dy 10 ?_
    refine DR.done (by kernel_rfl) ?_
    have htb : t.b = le t.kd.toNat 1 ++ (le t.ht.toNat 4 ++ (rowB OutD.b t.os)) := by unfold TxD.b; rw [if_pos hk]
    simp only [List.append_assoc] at h5
    rw [← htb, ← hB] at h5
    refine x_ ?_
    exact RQ.ret2 rfl (Res.tmp rfl) (Res.tmp rfl) fun w' hm => Turns.of (Y := EncY t) (V := fun y => .tuple #[y.1.1, .int .i64 0]) (L' := fun y => y.1.2) (Lst := []) ⟨(v5, l5), h5⟩ hm (Lr := l4 ++ (l2 ++ ([(b1, Obj.cells F.toArray 64 (0, 0))]))) (List.Perm.refl _)
  have hk1 := hk; clear hk
  by_cases hk : t.kd = 2
  · have hw2 := (hM.m2 hk).1.2.2.2
    have hw3 := (hM.m2 hk).2.1.2
    have hw4 := (hM.m2 hk).2.2.1.2
    refine x_ ?_
    (repeat refine RC.seq ?_); refine RC.draw ([(b1, Obj.cells F.toArray 64 (0, 0))]) mixed (N := 15) rfl ?_
    refine dy 0 ?_
    refine dy 1 ?_
    refine dy 2 ?_
    refine dy 5 ?_
    refine dy 6 ?_
    refine dy 9 ?_
    refine dy 10 ?_
    refine DR.c 3 (DOp.op1 rfl (mkB Tryz.func96 (fun w' hm => Rins_calls t.is (mayI_rg (hM.m2 hk).1) _ w' (ht.i.fr hm.fr))) ?_)
    rintro ⟨⟨v2, l2⟩, h2⟩
    dsimp only at h2 ⊢
    have e2 := rowB_len InD.bl t.is
    have hp3 : (l2 ++ (l1 ++ ([(b1, Obj.cells F.toArray 64 (0, 0))]))).Perm (l1 ++ (l2 ++ ([(b1, Obj.cells F.toArray 64 (0, 0))]))) := (perm_of fun f => by (simp only [List.map_append, List.map_cons, List.map_nil, List.sum_append, List.sum_cons, List.sum_nil] <;> omega))
    refine DR.c 4 (DOp.op1 rfl (apB (L1 := l2 ++ ([(b1, Obj.cells F.toArray 64 (0, 0))])) h1 (rowB InD.b t.is) (h2.src (fun q hq => (by repeat (first | exact List.mem_append_left _ hq | exact hq | apply List.mem_append_right | apply List.mem_cons_of_mem)))) (by omega) hp3) ?_)
    rintro ⟨⟨v3, l3⟩, h3⟩
    dsimp only at h3 ⊢
    have n2 : ((le t.kd.toNat 1) ++ rowB InD.b t.is).length = (le t.kd.toNat 1).length + (rowB InD.b t.is).length := List.length_append
    refine DR.c 7 (DOp.op1 rfl (mkB Tryz.func95 (fun w' hm => Routs_calls t.os (mayO_rg (hM.m2 hk).2.1) _ w' (ht.o.fr hm.fr))) ?_)
    rintro ⟨⟨v4, l4⟩, h4⟩
    dsimp only at h4 ⊢
    have e3 := rowB_len OutD.bl t.os
    have hp5 : (l4 ++ (l3 ++ (l2 ++ ([(b1, Obj.cells F.toArray 64 (0, 0))])))).Perm (l3 ++ (l4 ++ (l2 ++ ([(b1, Obj.cells F.toArray 64 (0, 0))])))) := (perm_of fun f => by (simp only [List.map_append, List.map_cons, List.map_nil, List.sum_append, List.sum_cons, List.sum_nil] <;> omega))
    refine DR.c 8 (DOp.op1 rfl (apB (L1 := l4 ++ (l2 ++ ([(b1, Obj.cells F.toArray 64 (0, 0))]))) h3 (rowB OutD.b t.os) (h4.src (fun q hq => (by repeat (first | exact List.mem_append_left _ hq | exact hq | apply List.mem_append_right | apply List.mem_cons_of_mem)))) (by omega) hp5) ?_)
    rintro ⟨⟨v5, l5⟩, h5⟩
    dsimp only at h5 ⊢
    have n3 : (((le t.kd.toNat 1) ++ rowB InD.b t.is) ++ rowB OutD.b t.os).length = ((le t.kd.toNat 1) ++ rowB InD.b t.is).length + (rowB OutD.b t.os).length := List.length_append
    refine DR.c 11 (DOp.op1 rfl (mkB Tryz.func97 (fun w' hm => Rforwards_calls t.fs (mayF_rg (hM.m2 hk).2.2.1) _ w' (ht.f.fr hm.fr))) ?_)
    rintro ⟨⟨v6, l6⟩, h6⟩
    dsimp only at h6 ⊢
    have e4 := rowB_len FoD.bl t.fs
    have hp7 : (l6 ++ (l5 ++ (l4 ++ (l2 ++ ([(b1, Obj.cells F.toArray 64 (0, 0))]))))).Perm (l5 ++ (l6 ++ (l4 ++ (l2 ++ ([(b1, Obj.cells F.toArray 64 (0, 0))]))))) := (perm_of fun f => by (simp only [List.map_append, List.map_cons, List.map_nil, List.sum_append, List.sum_cons, List.sum_nil] <;> omega))
    refine DR.c 12 (DOp.op1 rfl (apB (L1 := l6 ++ (l4 ++ (l2 ++ ([(b1, Obj.cells F.toArray 64 (0, 0))])))) h5 (rowB FoD.b t.fs) (h6.src (fun q hq => (by repeat (first | exact List.mem_append_left _ hq | exact hq | apply List.mem_append_right | apply List.mem_cons_of_mem)))) (by omega) hp7) ?_)
    rintro ⟨⟨v7, l7⟩, h7⟩
    dsimp only at h7 ⊢
    have n4 : ((((le t.kd.toNat 1) ++ rowB InD.b t.is) ++ rowB OutD.b t.os) ++ rowB FoD.b t.fs).length = (((le t.kd.toNat 1) ++ rowB InD.b t.is) ++ rowB OutD.b t.os).length + (rowB FoD.b t.fs).length := List.length_append
    refine dy 13 ?_
    refine dy 14 ?_
    refine DR.done (by kernel_rfl) ?_
    have htb : t.b = le t.kd.toNat 1 ++ (rowB InD.b t.is ++ (rowB OutD.b t.os ++ (rowB FoD.b t.fs))) := by unfold TxD.b; rw [if_neg (by omega), if_pos hk]
    simp only [List.append_assoc] at h7
    rw [← htb, ← hB] at h7
    refine x_ ?_
    exact RQ.ret2 rfl (Res.tmp rfl) (Res.tmp rfl) fun w' hm => Turns.of (Y := EncY t) (V := fun y => .tuple #[y.1.1, .int .i64 0]) (L' := fun y => y.1.2) (Lst := []) ⟨(v7, l7), h7⟩ hm (Lr := l6 ++ (l4 ++ (l2 ++ ([(b1, Obj.cells F.toArray 64 (0, 0))])))) (List.Perm.refl _)
  have hk2 := hk; clear hk
  by_cases hk : t.kd = 3
  · have hw2 := (mayP_in (hM.m3 hk)).1
    rw [List.length_map] at hw2
    refine x_ ?_
    refine Run.op1 (mkB Tryz.func98 (fun w' hm => Rparams_calls t.p (PrD.may_rg (hM.m3 hk)) v.aK v.cK w' (ht.k.fr hm.fr))) ?_
    rintro ⟨⟨v2, l2⟩, h2⟩
    dsimp only at h2 ⊢
    have e2 := PrD.bl t.p
    have hp3 : (l2 ++ (l1 ++ ([(b1, Obj.cells F.toArray 64 (0, 0))]))).Perm (l1 ++ (l2 ++ ([(b1, Obj.cells F.toArray 64 (0, 0))]))) := (perm_of fun f => by (simp only [List.map_append, List.map_cons, List.map_nil, List.sum_append, List.sum_cons, List.sum_nil] <;> omega))
    refine Run.op1 (apB (L1 := l2 ++ ([(b1, Obj.cells F.toArray 64 (0, 0))])) h1 (t.p.b) (h2.src (fun q hq => (by repeat (first | exact List.mem_append_left _ hq | exact hq | apply List.mem_append_right | apply List.mem_cons_of_mem)))) (by omega) hp3) ?_
    rintro ⟨⟨v3, l3⟩, h3⟩
    dsimp only at h3 ⊢
    have n2 : ((le t.kd.toNat 1) ++ t.p.b).length = (le t.kd.toNat 1).length + (t.p.b).length := List.length_append
    have htb : t.b = le t.kd.toNat 1 ++ (t.p.b) := by unfold TxD.b; rw [if_neg (by omega), if_neg (by omega), if_pos hk]
    rw [← htb, ← hB] at h3
    refine x_ ?_
    exact RQ.ret2 rfl (Res.tmp rfl) (Res.tmp rfl) fun w' hm => Turns.of (Y := EncY t) (V := fun y => .tuple #[y.1.1, .int .i64 0]) (L' := fun y => y.1.2) (Lst := []) ⟨(v3, l3), h3⟩ hm (Lr := l2 ++ ([(b1, Obj.cells F.toArray 64 (0, 0))])) (List.Perm.refl _)
  have hk3 := hk; clear hk
  by_cases hk : t.kd = 4
  · have hw2 := (hM.m4 hk).2.2.1.2
    have hw3 := (hM.m4 hk).2.2.2
    refine x_ ?_
    refine Run.op1 (mkB Tryz.func99 (fun w' hm => RcertB_calls t.c (CeD.may_rg (hM.m4 hk)) v.aA v.cA v.aS v.cS w' (ht.a.fr hm.fr) (ht.s.fr hm.fr))) ?_
    rintro ⟨⟨v2, l2⟩, h2⟩
    dsimp only at h2 ⊢
    have e2 := CeD.bl t.c
    have hp3 : (l2 ++ (l1 ++ ([(b1, Obj.cells F.toArray 64 (0, 0))]))).Perm (l1 ++ (l2 ++ ([(b1, Obj.cells F.toArray 64 (0, 0))]))) := (perm_of fun f => by (simp only [List.map_append, List.map_cons, List.map_nil, List.sum_append, List.sum_cons, List.sum_nil] <;> omega))
    refine Run.op1 (apB (L1 := l2 ++ ([(b1, Obj.cells F.toArray 64 (0, 0))])) h1 (t.c.b) (h2.src (fun q hq => (by repeat (first | exact List.mem_append_left _ hq | exact hq | apply List.mem_append_right | apply List.mem_cons_of_mem)))) (by omega) hp3) ?_
    rintro ⟨⟨v3, l3⟩, h3⟩
    dsimp only at h3 ⊢
    have n2 : ((le t.kd.toNat 1) ++ t.c.b).length = (le t.kd.toNat 1).length + (t.c.b).length := List.length_append
    have htb : t.b = le t.kd.toNat 1 ++ (t.c.b) := by unfold TxD.b; rw [if_neg (by omega), if_neg (by omega), if_neg (by omega), if_pos hk]
    rw [← htb, ← hB] at h3
    refine x_ ?_
    exact RQ.ret2 rfl (Res.tmp rfl) (Res.tmp rfl) fun w' hm => Turns.of (Y := EncY t) (V := fun y => .tuple #[y.1.1, .int .i64 0]) (L' := fun y => y.1.2) (Lst := []) ⟨(v3, l3), h3⟩ hm (Lr := l2 ++ ([(b1, Obj.cells F.toArray 64 (0, 0))])) (List.Perm.refl _)
  have hk4 := hk; clear hk
  by_cases hk : t.kd = 5
  · refine x_ ?_
    refine Run.op1 (mkB Tryz.func100 (fun w' hm => RclaimB_calls t.l (ClD.may_rg (hM.m5 hk)) w')) ?_
    rintro ⟨⟨v2, l2⟩, h2⟩
    dsimp only at h2 ⊢
    have e2 := ClD.bl t.l
    have hp3 : (l2 ++ (l1 ++ ([(b1, Obj.cells F.toArray 64 (0, 0))]))).Perm (l1 ++ (l2 ++ ([(b1, Obj.cells F.toArray 64 (0, 0))]))) := (perm_of fun f => by (simp only [List.map_append, List.map_cons, List.map_nil, List.sum_append, List.sum_cons, List.sum_nil] <;> omega))
    refine Run.op1 (apB (L1 := l2 ++ ([(b1, Obj.cells F.toArray 64 (0, 0))])) h1 (t.l.b) (h2.src (fun q hq => (by repeat (first | exact List.mem_append_left _ hq | exact hq | apply List.mem_append_right | apply List.mem_cons_of_mem)))) (by omega) hp3) ?_
    rintro ⟨⟨v3, l3⟩, h3⟩
    dsimp only at h3 ⊢
    have n2 : ((le t.kd.toNat 1) ++ t.l.b).length = (le t.kd.toNat 1).length + (t.l.b).length := List.length_append
    have htb : t.b = le t.kd.toNat 1 ++ (t.l.b) := by unfold TxD.b; rw [if_neg (by omega), if_neg (by omega), if_neg (by omega), if_neg (by omega), if_pos hk]
    rw [← htb, ← hB] at h3
    refine x_ ?_
    exact RQ.ret2 rfl (Res.tmp rfl) (Res.tmp rfl) fun w' hm => Turns.of (Y := EncY t) (V := fun y => .tuple #[y.1.1, .int .i64 0]) (L' := fun y => y.1.2) (Lst := []) ⟨(v3, l3), h3⟩ hm (Lr := l2 ++ ([(b1, Obj.cells F.toArray 64 (0, 0))])) (List.Perm.refl _)
  have hk5 := hk; clear hk
  exfalso
  have := hM.k
  omega
end Go.Proofs.YtfoeakgnkfcbjaaGreatDoor
end
