/- HashSums. -/
import Derived.Test.YtigfcafpoegnjaaDoorLaw1
import Derived.Test.YtigfcafpoegnjaaDoorDigZ
import Derived.Test.YtigfcafpoegnjaaDoorVcN
namespace Go.Sha
/-- How many bytes the first i parts have. -/
theorem flat_succ (ls : List (List Nat)) (i : Nat) (hi : i < ls.length) : (ls.take (i + 1)).flatten = (ls.take i).flatten ++ ls[i] := by
  rw [List.take_succ_eq_append_getElem hi, List.flatten_append, List.flatten_cons, List.flatten_nil, List.append_nil]
theorem flat_le (R : Nat) : ∀ ls : List (List Nat), (∀ l ∈ ls, l.length ≤ R) → ls.flatten.length ≤ ls.length * R
  | [], _ => by simp
  | l :: ls, h => by
    have h1 := h l List.mem_cons_self
    have h2 := flat_le R ls (fun x hx => h x (List.mem_cons_of_mem _ hx))
    rw [List.flatten_cons, List.length_append, List.length_cons, Nat.succ_mul]
    omega
theorem tot_flat : ∀ ls : List (List Nat), tot ls = 4 * ls.length + ls.flatten.length
  | [] => rfl
  | l :: ls => by
    have := tot_flat ls
    have e : tot (l :: ls) = 4 + l.length + tot ls := by simp [tot]
    rw [e, this, List.flatten_cons, List.length_append, List.length_cons]
    omega
end Go.Sha
namespace Go.Proofs.YtigfcafpoegnjaaDoor
open Go Go.Vc Go.Sha

theorem HashSums_calls (p : Nat) (hp : p < 256) (pv : Value) (vs : List Value) (ls : List (List Nat)) (qh : List Nat) (hh : qh.length = 16) (hhlt : ∀ x ∈ qh, x < 256) (w : World) (hs : SrcW w 1 pv ls.length vs) (hps : Parts w vs ls)
    (hb : ∀ l ∈ ls, (∀ x ∈ l, x < 256) ∧ l.length ≤ 140737488351232) (hln : ls.length ≤ 9223372036854775807) (hK : Laid w) :
    Gives Tryd.prog 5 [.int .u8 p, pv, .agg (u8s qh).toArray] (.bool true) w := by
  refine enter Tryd.func5 rfl (Mem.nil w []) rfl ?_
  (repeat refine RC.seq ?_); refine RC.region ?_
  refine Run.mk rfl rfl rfl (New.boxA rfl rfl) ?_
  intro b5
  refine Run.v rfl rfl rfl (Val.of rfl) ?_
  refine Run.nil (RQ.next ?_)
  (repeat refine RC.seq ?_); refine RC.region ?_
  refine Run.callV Tryd.func8 rfl rfl rfl rfl rfl rfl rfl (fun w' hm => awake_calls w' (hK.fr hm.fr (by simp))) ?_
  refine Run.v rfl rfl rfl (Val.of rfl) ?_
  refine Run.nil (RQ.next ?_)
  (repeat refine RC.seq ?_); refine RC.condF rfl rfl (RC.skip (RQ.next ?_))
  obtain ⟨pa, pc', hpv, hpc⟩ := hs.shape
  (repeat refine RC.seq ?_); refine RC.region ?_
  refine Run.v rfl rfl rfl (Val.of rfl) ?_
  refine Run.nil (RQ.next ?_)
  (repeat refine RC.seq ?_); refine RC.region ?_
  refine Run.v rfl rfl rfl (Val.of rfl) ?_
  refine Run.nil (RQ.next ?_)
  (repeat refine RC.seq ?_); refine RC.block ?_
  refine RC.up ls.length (D := Int) (fun i z => ls.length ≤ 20 → z = ((ls.take i).flatten.length : Int))
    (fun i z => [(8, .int .i64 i), (7, .int .i64 z), (0, .int .u8 p), (1, pv), (5, .pointer (some ⟨b5, 0, none⟩))])
    (fun _ _ => [(b5, .cells (u8s qh).toArray 35 (0, 0))])
    0 0 (Nat.zero_le _) (fun _ => by simp) ⟨rfl, rfl, rfl, rfl, rfl, trivial⟩ (List.Sublist.refl _) ?_
  intro i z hi hz
  (repeat refine RC.seq ?_); refine RC.region ?_
  refine Run.v rfl rfl rfl (Val.of rfl) ?_
  refine Run.v rfl rfl rfl (Val.of rfl) ?_
  refine Run.v rfl rfl rfl (Val.len (len := ls.length) tabOk rfl rfl rfl (by rw [hpv]; rfl)) ?_
  refine Run.v rfl rfl rfl (Val.of rfl) ?_
  refine Run.nil (RQ.next ?_)
  (repeat refine RC.seq ?_); refine RC.wh rfl (fun h => RQ.next ?_) (fun h => ?_)
  · have hi' : i < ls.length := by have := of_decide_eq_true h; omega
    clear h
    have hvi := hps.2 i (by rw [hps.1]; exact hi') hi'
    obtain ⟨ai, ci, hav, hac⟩ := hvi.shape
    have hbi := hb ls[i] (List.getElem_mem hi')
    have hsu := flat_succ ls i hi'
    have hle := flat_le 140737488351232 (ls.take i) (fun l hl => (hb l (List.mem_of_mem_take hl)).2)
    rw [List.length_take, Nat.min_eq_left (by omega)] at hle
    have hiv : i < vs.length := by rw [hps.1]; exact hi'
    have hgv : vs[i]? = some vs[i] := List.getElem?_eq_getElem hiv
    generalize hvv : vs[i] = vi at *
    generalize hle' : ls[i] = li at *
    obtain ⟨pa', pc'', hpe, hpc', hpl, hpr⟩ := SrcW.pos hs (Nat.lt_of_le_of_lt (Nat.zero_le _) hi')
    clear hpv hpc
    subst hpe
    (repeat refine RC.seq ?_); refine RC.block ?_
    refine RC.region ?_
    repeat (refine Run.v rfl rfl rfl (Val.of rfl) ?_)
    refine Run.v rfl rfl rfl (Val.ixS tabOk i (ad' := pa'.add i) rfl rfl rfl rfl rfl rfl rfl hi' (by simp [ti28])) ?_
    refine Run.v rfl rfl rfl (Val.loadOld1 (v := vi) tabOk rfl rfl rfl rfl (by simp) (hpr i vi hgv)) ?_
    refine Run.v rfl rfl rfl (Val.len (len := li.length) tabOk rfl rfl rfl (by rw [hav]; rfl)) ?_
    refine Run.v rfl rfl rfl (Val.of rfl) ?_
    refine Run.v rfl rfl rfl (Val.of rfl) ?_
    refine Run.nil (RQ.blockNormal (RQ.next ?_))
    refine RC.region ?_
    repeat (first | refine Run.v rfl rfl rfl (Val.ar rfl rfl rfl rfl (by dsimp only [inK]; omega)) ?_ | refine Run.v rfl rfl rfl (Val.of rfl) ?_)
    refine Run.nil (RQ.up (i + 1) (IntKind.wrap .i64 (z + (li.length : Int))) (Nat.lt_succ_self _) hi' (fun h20 => ?_) ⟨rfl, rfl, rfl, rfl, rfl, trivial⟩ (List.Sublist.refl _))
    have h1 := hz h20
    have h2 := hbi.2
    have h3 : i * 140737488351232 ≤ 20 * 140737488351232 := Nat.mul_le_mul_right _ (by omega)
    rw [wrap_in (by simp only [inK]; omega), hsu, List.length_append, h1]
    omega
  · have hi' : i = ls.length := by have := of_decide_eq_false h; omega
    clear h
    subst hi'
    rw [List.take_length] at hz
    have htot := tot_flat ls
    (repeat refine RQ.thenExit ?_); refine RQ.blockHere ?_
    refine RQ.next ?_
    (repeat refine RC.seq ?_); refine RC.region ?_
    refine Run.v rfl rfl rfl (Val.of rfl) ?_
    refine Run.v rfl rfl rfl (Val.len (len := ls.length) tabOk rfl rfl rfl (by rw [hpv]; rfl)) ?_
    refine Run.v rfl rfl rfl (Val.eq (Val.of rfl) (show _ = Value.bool (decide (20 < ls.length)) from congrArg Value.bool (by rw [decide_eq_decide]; omega))) ?_
    by_cases h20 : 20 < ls.length
    · rw [decide_eq_true h20]
      refine Run.v rfl rfl rfl (Val.of rfl) ?_
      refine Run.skipG (Wanted.guard rfl rfl rfl rfl) rfl rfl ?_
      refine Run.skipG (Wanted.guard rfl rfl rfl rfl) rfl rfl ?_
      refine Run.v rfl rfl rfl (Val.of rfl) ?_
      refine Run.nil (RQ.next ?_)
      (repeat refine RC.seq ?_); refine RC.condT rfl rfl ?_
      (repeat refine RC.seq ?_); refine RC.region ?_
      refine Run.v rfl rfl rfl (Val.of rfl) ?_
      refine Run.nil (RQ.next ?_)
      refine RC.ret ?_; (repeat first | refine RQ.thenRet ?_ | refine RQ.blockRet ?_); exact RQ.ret1 rfl (Res.tmp rfl) fun w' hm => ⟨rfl, hm.fr⟩
    rw [decide_eq_false h20]
    have hz := hz (by omega)
    subst hz
    refine Run.v rfl rfl rfl (Val.of rfl) ?_
    refine Run.vG (Wanted.guard rfl rfl rfl rfl) rfl rfl (Val.of rfl) ?_
    refine Run.vG (Wanted.guard rfl rfl rfl rfl) rfl rfl (Val.eq (Val.of rfl) (show _ = Value.bool (decide (5000 < ls.flatten.length)) from congrArg Value.bool (by rw [decide_eq_decide]; omega))) ?_
    refine Run.v rfl rfl rfl (Val.of rfl) ?_
    refine Run.nil (RQ.next ?_)
    (repeat refine RC.seq ?_); refine RC.cond rfl (fun h => ?_) (fun h => ?_)
    · (repeat refine RC.seq ?_); refine RC.region ?_
      refine Run.v rfl rfl rfl (Val.of rfl) ?_
      refine Run.nil (RQ.next ?_)
      refine RC.ret ?_; (repeat first | refine RQ.thenRet ?_ | refine RQ.blockRet ?_); exact RQ.ret1 rfl (Res.tmp rfl) fun w' hm => ⟨rfl, hm.fr⟩
    have h5 := of_decide_eq_false h
    clear h
    refine RC.skip (RQ.next ?_)
    (repeat refine RC.seq ?_); refine RC.region ?_
    refine Run.v rfl rfl rfl (Val.of rfl) ?_
    refine Run.nil (RQ.next ?_)
    (repeat refine RC.seq ?_); refine RC.region ?_
    refine Run.v rfl rfl rfl (Val.of rfl) ?_
    refine Run.nil (RQ.next ?_)
    (repeat refine RC.seq ?_); refine RC.block ?_
    refine RC.up ls.length (D := Value × Hp) (fun i x => Own 5 1 x.1 ((ls.take i).flatten.length) (u8s (ls.take i).flatten) x.2)
      (fun i x => [(10, .int .i64 i), (9, x.1), (0, .int .u8 p), (1, pv), (5, .pointer (some ⟨b5, 0, none⟩))])
      (fun _ x => x.2 ++ [(b5, .cells (u8s qh).toArray 35 (0, 0))])
      0 (_, _) (Nat.zero_le _) Own.nil ⟨rfl, rfl, rfl, rfl, rfl, trivial⟩ (List.Sublist.refl _) ?_
    rintro i ⟨v9, bl9⟩ hi hown
    dsimp only at hown ⊢
    (repeat refine RC.seq ?_); refine RC.region ?_
    refine Run.v rfl rfl rfl (Val.of rfl) ?_
    refine Run.v rfl rfl rfl (Val.of rfl) ?_
    refine Run.v rfl rfl rfl (Val.len (len := ls.length) tabOk rfl rfl rfl (by rw [hpv]; rfl)) ?_
    refine Run.v rfl rfl rfl (Val.of rfl) ?_
    refine Run.nil (RQ.next ?_)
    (repeat refine RC.seq ?_); refine RC.wh rfl (fun h => RQ.next ?_) (fun h => ?_)
    · have hi' : i < ls.length := by have := of_decide_eq_true h; omega
      clear h
      have hvi := hps.2 i (by rw [hps.1]; exact hi') hi'
      obtain ⟨ai, ci, hav, hac⟩ := hvi.shape
      have hbi := hb ls[i] (List.getElem_mem hi')
      have hsu := flat_succ ls i hi'
      have hle : (ls.take (i + 1)).flatten.length ≤ ls.flatten.length := by
        have e : ls.flatten = (ls.take (i + 1)).flatten ++ (ls.drop (i + 1)).flatten := by rw [← List.flatten_append, List.take_append_drop]
        rw [e, List.length_append]
        exact Nat.le_add_right _ _
      rw [hsu, List.length_append] at hle
      have hiv : i < vs.length := by rw [hps.1]; exact hi'
      have hgv : vs[i]? = some vs[i] := List.getElem?_eq_getElem hiv
      generalize hvv : vs[i] = vi at *
      generalize hle' : ls[i] = li at *
      obtain ⟨pa', pc'', hpe, hpc', hpl, hpr⟩ := SrcW.pos hs (Nat.lt_of_le_of_lt (Nat.zero_le _) hi')
      clear hpv hpc
      subst hpe
      (repeat refine RC.seq ?_); refine RC.block ?_
      refine RC.region ?_
      repeat (refine Run.v rfl rfl rfl (Val.of rfl) ?_)
      refine Run.v rfl rfl rfl (Val.ixS tabOk i (ad' := pa'.add i) rfl rfl rfl rfl rfl rfl rfl hi' (by simp [ti28])) ?_
      refine Run.v rfl rfl rfl (Val.loadOld1 (v := vi) tabOk rfl rfl rfl rfl (by simp) (hpr i vi hgv)) ?_
      refine Run.op rfl (OpTo.append tabOk hown (hvi.src) rfl rfl rfl rfl rfl rfl rfl rfl rfl (List.Perm.refl _) (u8s_one _) (by unfold maxLen; omega) (by simp only [ti5]; omega)) ?_
      rintro ⟨⟨v10, bl10⟩, hown10⟩
      refine Run.v rfl rfl rfl (Val.of rfl) ?_
      refine Run.nil (RQ.blockNormal (RQ.next ?_))
      refine RC.region ?_
      repeat (first | refine Run.v rfl rfl rfl (Val.ar rfl rfl rfl rfl (by dsimp only [inK]; omega)) ?_ | refine Run.v rfl rfl rfl (Val.of rfl) ?_)
      refine Run.nil (RQ.up (i + 1) (v10, bl10) (Nat.lt_succ_self _) hi' ?_ ⟨rfl, rfl, rfl, rfl, rfl, trivial⟩ (List.Sublist.refl _))
      have hq := hown10
      rw [← u8s_app, ← hsu, ← List.length_append, ← hsu] at hq
      exact hq
    · have hi' : i = ls.length := by have := of_decide_eq_false h; omega
      clear h
      subst hi'
      rw [List.take_length] at hown
      have hflt : ∀ x ∈ ls.flatten, x < 256 := by
        intro x hx
        obtain ⟨l, hl, hx⟩ := List.mem_flatten.1 hx
        exact (hb l hl).1 x hx
      have hlb : ∀ l ∈ ls, ∀ x ∈ l, x < 256 := fun l hl => (hb l hl).1
      have hlen := sha_len ls.flatten
      have hof := digest_len p ls
      have p0 := pc_len (c := 8) (n := 2) hh (show 0 < 2 by decide)
      have p1' := pc_len (c := 8) (n := 2) hh (show 1 < 2 by decide)
      have q0 := pc_lt (c := 8) hhlt 0
      have q1 := pc_lt (c := 8) hhlt 1
      have hd2 := digest_len p [pc 8 qh 0, pc 8 qh 1]
      have hf5 : ls.flatten.length ≤ 5000 := by omega
      have hsum := fun w' (hs' : SrcW w' 1 v9 ls.flatten.length (u8s ls.flatten)) hK' => Sum_calls v9 ls.flatten.length ls.flatten w' hs' (by omega) hflt hK'
      have hrsum := fun w' (hs' : SrcW w' 1 v9 ls.flatten.length (u8s ls.flatten)) => ref_Sum_calls v9 ls.flatten.length ls.flatten w' hs' (by omega) hflt
      generalize sha ls.flatten = sm at *
      (repeat refine RQ.thenExit ?_); refine RQ.blockHere ?_
      refine RQ.next ?_
      (repeat refine RC.seq ?_); refine RC.drawS mixed (N := 40) rfl ?_
      refine DR.take 0 rfl (by repeat (first | exact List.nil_sublist _ | exact List.Sublist.refl _ | apply List.Sublist.cons_cons | apply List.Sublist.cons)) inferInstance (by kernel_rfl) (by kernel_rfl) (by kernel_rfl) (by kernel_rfl) rfl rfl (Wanted.plain rfl) (Val.of rfl) ?_
      refine DR.take 2 rfl (by repeat (first | exact List.nil_sublist _ | exact List.Sublist.refl _ | apply List.Sublist.cons_cons | apply List.Sublist.cons)) inferInstance (by kernel_rfl) (by kernel_rfl) (by kernel_rfl) (by kernel_rfl) rfl rfl (Wanted.plain rfl) (Val.of rfl) ?_
      refine DR.one (i := 1) (by kernel_rfl) ?_
      refine DOp.op rfl (Wanted.plain rfl) (OpTo.callV Tryd.func11 rfl rfl rfl rfl rfl rfl (fun w' hm => hsum w' (hown.srcW (fun q hq => hm.has q (List.mem_append_left _ hq))) (hK.fr hm.fr (by simp)))) (.inl fun _ => (by repeat (first | exact List.nil_sublist _ | exact List.Sublist.refl _ | apply List.Sublist.cons_cons | apply List.Sublist.cons))) (fun _ => ?_)
      refine DR.one (i := 3) (by kernel_rfl) ?_
      refine DOp.op rfl (Wanted.plain rfl) (OpTo.callV Tryd.func13 rfl rfl rfl rfl rfl rfl (fun w' hm => hrsum w' (hown.srcW (fun q hq => hm.has q (List.mem_append_left _ hq))))) (.inl fun _ => (by repeat (first | exact List.nil_sublist _ | exact List.Sublist.refl _ | apply List.Sublist.cons_cons | apply List.Sublist.cons))) (fun _ => ?_)
      refine DR.take 4 rfl (by repeat (first | exact List.nil_sublist _ | exact List.Sublist.refl _ | apply List.Sublist.cons_cons | apply List.Sublist.cons)) inferInstance (by kernel_rfl) (by kernel_rfl) (by kernel_rfl) (by kernel_rfl) rfl rfl (Wanted.plain rfl) (Val.eq (Val.eqU (m := 32) (a := sm) (b := sm) tabOk rfl rfl rfl (by kernel_rfl) (by kernel_rfl) rfl rfl hlen hlen) (show _ = Value.bool true from by simp)) ?_
      refine DR.take 5 rfl (by repeat (first | exact List.nil_sublist _ | exact List.Sublist.refl _ | apply List.Sublist.cons_cons | apply List.Sublist.cons)) inferInstance (by kernel_rfl) (by kernel_rfl) (by kernel_rfl) (by kernel_rfl) rfl rfl (Wanted.plain rfl) (Val.of rfl) ?_
      refine DR.take 6 rfl (by repeat (first | exact List.nil_sublist _ | exact List.Sublist.refl _ | apply List.Sublist.cons_cons | apply List.Sublist.cons)) inferInstance (by kernel_rfl) (by kernel_rfl) (by kernel_rfl) (by kernel_rfl) rfl rfl (Wanted.guard rfl rfl rfl rfl) (Val.of rfl) ?_
      refine DR.take 7 rfl (by repeat (first | exact List.nil_sublist _ | exact List.Sublist.refl _ | apply List.Sublist.cons_cons | apply List.Sublist.cons)) inferInstance (by kernel_rfl) (by kernel_rfl) (by kernel_rfl) (by kernel_rfl) rfl rfl (Wanted.guard rfl rfl rfl rfl) (Val.of rfl) ?_
      refine DR.take 9 rfl (by repeat (first | exact List.nil_sublist _ | exact List.Sublist.refl _ | apply List.Sublist.cons_cons | apply List.Sublist.cons)) inferInstance (by kernel_rfl) (by kernel_rfl) (by kernel_rfl) (by kernel_rfl) rfl rfl (Wanted.guard rfl rfl rfl rfl) (Val.of rfl) ?_
      refine DR.take 10 rfl (by repeat (first | exact List.nil_sublist _ | exact List.Sublist.refl _ | apply List.Sublist.cons_cons | apply List.Sublist.cons)) inferInstance (by kernel_rfl) (by kernel_rfl) (by kernel_rfl) (by kernel_rfl) rfl rfl (Wanted.guard rfl rfl rfl rfl) (Val.of rfl) ?_
      refine DR.one (i := 8) (by kernel_rfl) ?_
      refine DOp.op rfl (Wanted.guard rfl rfl rfl rfl) (OpTo.callV Tryd.func12 rfl rfl rfl rfl rfl rfl (fun w' hm => Of_calls p hp pv vs ls w' (hs.mem hm) (hps.fr hm.fr) (by omega) hlb (hK.fr hm.fr (by simp)))) (.inl fun _ => by repeat (first | exact List.nil_sublist _ | exact List.Sublist.refl _ | apply List.Sublist.cons_cons | apply List.Sublist.cons)) (fun _ => ?_)
      refine DR.one (i := 11) (by kernel_rfl) ?_
      refine DOp.op rfl (Wanted.guard rfl rfl rfl rfl) (OpTo.callV Tryd.func14 rfl rfl rfl rfl rfl rfl (fun w' hm => Digest_calls p hp pv vs ls w' (hs.mem hm) (hps.fr hm.fr) (by omega) hlb)) (.inl fun _ => by repeat (first | exact List.nil_sublist _ | exact List.Sublist.refl _ | apply List.Sublist.cons_cons | apply List.Sublist.cons)) (fun _ => ?_)
      generalize digest p ls = dg at *
      refine DR.take 12 rfl (by repeat (first | exact List.nil_sublist _ | exact List.Sublist.refl _ | apply List.Sublist.cons_cons | apply List.Sublist.cons)) inferInstance (by kernel_rfl) (by kernel_rfl) (by kernel_rfl) (by kernel_rfl) rfl rfl (Wanted.guard rfl rfl rfl rfl) (Val.eq (Val.eqU (m := 8) (a := dg) (b := dg) tabOk rfl rfl rfl (by kernel_rfl) (by kernel_rfl) rfl rfl hof hof) (show _ = Value.bool true from by simp)) ?_
      refine DR.take 13 rfl (by repeat (first | exact List.nil_sublist _ | exact List.Sublist.refl _ | apply List.Sublist.cons_cons | apply List.Sublist.cons)) inferInstance (by kernel_rfl) (by kernel_rfl) (by kernel_rfl) (by kernel_rfl) rfl rfl (Wanted.plain rfl) (Val.of rfl) ?_
      refine DR.take 14 rfl (by repeat (first | exact List.nil_sublist _ | exact List.Sublist.refl _ | apply List.Sublist.cons_cons | apply List.Sublist.cons)) inferInstance (by kernel_rfl) (by kernel_rfl) (by kernel_rfl) (by kernel_rfl) rfl rfl (Wanted.plain rfl) (Val.of rfl) ?_
      refine DR.take 15 rfl (by repeat (first | exact List.nil_sublist _ | exact List.Sublist.refl _ | apply List.Sublist.cons_cons | apply List.Sublist.cons)) inferInstance (by kernel_rfl) (by kernel_rfl) (by kernel_rfl) (by kernel_rfl) rfl rfl (Wanted.guard rfl rfl rfl rfl) (Val.of rfl) ?_
      refine DR.take 16 rfl (by repeat (first | exact List.nil_sublist _ | exact List.Sublist.refl _ | apply List.Sublist.cons_cons | apply List.Sublist.cons)) inferInstance (by kernel_rfl) (by kernel_rfl) (by kernel_rfl) (by kernel_rfl) rfl rfl (Wanted.guard rfl rfl rfl rfl) (Val.ix tabOk 0 (off' := 0 * 8) rfl rfl rfl rfl rfl rfl rfl (by decide) rfl) ?_
      refine DR.take 17 rfl (by repeat (first | exact List.nil_sublist _ | exact List.Sublist.refl _ | apply List.Sublist.cons_cons | apply List.Sublist.cons)) inferInstance (by kernel_rfl) (by kernel_rfl) (by kernel_rfl) (by kernel_rfl) rfl rfl (Wanted.guard rfl rfl rfl rfl) (Val.loadPc tabOk 0 (c := 8) rfl rfl rfl rfl (by repeat (first | exact List.mem_cons_self | apply List.mem_cons_of_mem | apply List.mem_append_right)) rfl rfl p0) ?_
      refine DR.take 18 rfl (by repeat (first | exact List.nil_sublist _ | exact List.Sublist.refl _ | apply List.Sublist.cons_cons | apply List.Sublist.cons)) inferInstance (by kernel_rfl) (by kernel_rfl) (by kernel_rfl) (by kernel_rfl) rfl rfl (Wanted.guard rfl rfl rfl rfl) (Val.ix tabOk 1 (off' := 1 * 8) rfl rfl rfl rfl rfl rfl rfl (by decide) rfl) ?_
      refine DR.take 19 rfl (by repeat (first | exact List.nil_sublist _ | exact List.Sublist.refl _ | apply List.Sublist.cons_cons | apply List.Sublist.cons)) inferInstance (by kernel_rfl) (by kernel_rfl) (by kernel_rfl) (by kernel_rfl) rfl rfl (Wanted.guard rfl rfl rfl rfl) (Val.loadPc tabOk 1 (c := 8) rfl rfl rfl rfl (by repeat (first | exact List.mem_cons_self | apply List.mem_cons_of_mem | apply List.mem_append_right)) rfl rfl p1') ?_
      refine DR.take 21 rfl (by repeat (first | exact List.nil_sublist _ | exact List.Sublist.refl _ | apply List.Sublist.cons_cons | apply List.Sublist.cons)) inferInstance (by kernel_rfl) (by kernel_rfl) (by kernel_rfl) (by kernel_rfl) rfl rfl (Wanted.guard rfl rfl rfl rfl) (Val.of rfl) ?_
      refine DR.take 22 rfl (by repeat (first | exact List.nil_sublist _ | exact List.Sublist.refl _ | apply List.Sublist.cons_cons | apply List.Sublist.cons)) inferInstance (by kernel_rfl) (by kernel_rfl) (by kernel_rfl) (by kernel_rfl) rfl rfl (Wanted.guard rfl rfl rfl rfl) (Val.ix tabOk 0 (off' := 0 * 8) rfl rfl rfl rfl rfl rfl rfl (by decide) rfl) ?_
      refine DR.take 23 rfl (by repeat (first | exact List.nil_sublist _ | exact List.Sublist.refl _ | apply List.Sublist.cons_cons | apply List.Sublist.cons)) inferInstance (by kernel_rfl) (by kernel_rfl) (by kernel_rfl) (by kernel_rfl) rfl rfl (Wanted.guard rfl rfl rfl rfl) (Val.loadPc tabOk 0 (c := 8) rfl rfl rfl rfl (by repeat (first | exact List.mem_cons_self | apply List.mem_cons_of_mem | apply List.mem_append_right)) rfl rfl p0) ?_
      refine DR.take 24 rfl (by repeat (first | exact List.nil_sublist _ | exact List.Sublist.refl _ | apply List.Sublist.cons_cons | apply List.Sublist.cons)) inferInstance (by kernel_rfl) (by kernel_rfl) (by kernel_rfl) (by kernel_rfl) rfl rfl (Wanted.guard rfl rfl rfl rfl) (Val.ix tabOk 1 (off' := 1 * 8) rfl rfl rfl rfl rfl rfl rfl (by decide) rfl) ?_
      refine DR.take 25 rfl (by repeat (first | exact List.nil_sublist _ | exact List.Sublist.refl _ | apply List.Sublist.cons_cons | apply List.Sublist.cons)) inferInstance (by kernel_rfl) (by kernel_rfl) (by kernel_rfl) (by kernel_rfl) rfl rfl (Wanted.guard rfl rfl rfl rfl) (Val.loadPc tabOk 1 (c := 8) rfl rfl rfl rfl (by repeat (first | exact List.mem_cons_self | apply List.mem_cons_of_mem | apply List.mem_append_right)) rfl rfl p1') ?_
      refine DR.one (i := 20) (by kernel_rfl) ?_
      refine DOp.op rfl (Wanted.guard rfl rfl rfl rfl) (OpTo.callV Tryd.func15 rfl rfl rfl rfl rfl rfl (fun w' hm => Two_calls p hp _ _ p0 p1' q0 q1 w' (hK.fr hm.fr (by simp)))) (.inl fun _ => by repeat (first | exact List.nil_sublist _ | exact List.Sublist.refl _ | apply List.Sublist.cons_cons | apply List.Sublist.cons)) (fun _ => ?_)
      refine DR.one (i := 26) (by kernel_rfl) ?_
      refine DOp.op rfl (Wanted.guard rfl rfl rfl rfl) (OpTo.callV Tryd.func16 rfl rfl rfl rfl rfl rfl (fun w' _ => ref_Two_calls p hp _ _ p0 p1' q0 q1 w')) (.inl fun _ => by repeat (first | exact List.nil_sublist _ | exact List.Sublist.refl _ | apply List.Sublist.cons_cons | apply List.Sublist.cons)) (fun _ => ?_)
      generalize digest p [pc 8 qh 0, pc 8 qh 1] = d2 at *
      refine DR.take 27 rfl (by repeat (first | exact List.nil_sublist _ | exact List.Sublist.refl _ | apply List.Sublist.cons_cons | apply List.Sublist.cons)) inferInstance (by kernel_rfl) (by kernel_rfl) (by kernel_rfl) (by kernel_rfl) rfl rfl (Wanted.guard rfl rfl rfl rfl) (Val.eq (Val.eqU (m := 8) (a := d2) (b := d2) tabOk rfl rfl rfl (by kernel_rfl) (by kernel_rfl) rfl rfl hd2 hd2) (show _ = Value.bool true from by simp)) ?_
      refine DR.take 28 rfl (by repeat (first | exact List.nil_sublist _ | exact List.Sublist.refl _ | apply List.Sublist.cons_cons | apply List.Sublist.cons)) inferInstance (by kernel_rfl) (by kernel_rfl) (by kernel_rfl) (by kernel_rfl) rfl rfl (Wanted.plain rfl) (Val.of rfl) ?_
      refine DR.take 29 rfl (by repeat (first | exact List.nil_sublist _ | exact List.Sublist.refl _ | apply List.Sublist.cons_cons | apply List.Sublist.cons)) inferInstance (by kernel_rfl) (by kernel_rfl) (by kernel_rfl) (by kernel_rfl) rfl rfl (Wanted.plain rfl) (Val.of rfl) ?_
      refine DR.take 30 rfl (by repeat (first | exact List.nil_sublist _ | exact List.Sublist.refl _ | apply List.Sublist.cons_cons | apply List.Sublist.cons)) inferInstance (by kernel_rfl) (by kernel_rfl) (by kernel_rfl) (by kernel_rfl) rfl rfl (Wanted.guard rfl rfl rfl rfl) (Val.ix tabOk 0 (off' := 0 * 8) rfl rfl rfl rfl rfl rfl rfl (by decide) rfl) ?_
      refine DR.take 31 rfl (by repeat (first | exact List.nil_sublist _ | exact List.Sublist.refl _ | apply List.Sublist.cons_cons | apply List.Sublist.cons)) inferInstance (by kernel_rfl) (by kernel_rfl) (by kernel_rfl) (by kernel_rfl) rfl rfl (Wanted.guard rfl rfl rfl rfl) (Val.loadPc tabOk 0 (c := 8) rfl rfl rfl rfl (by repeat (first | exact List.mem_cons_self | apply List.mem_cons_of_mem | apply List.mem_append_right)) rfl rfl p0) ?_
      refine DR.take 33 rfl (by repeat (first | exact List.nil_sublist _ | exact List.Sublist.refl _ | apply List.Sublist.cons_cons | apply List.Sublist.cons)) inferInstance (by kernel_rfl) (by kernel_rfl) (by kernel_rfl) (by kernel_rfl) rfl rfl (Wanted.guard rfl rfl rfl rfl) (Val.ix tabOk 0 (off' := 0 * 8) rfl rfl rfl rfl rfl rfl rfl (by decide) rfl) ?_
      refine DR.take 34 rfl (by repeat (first | exact List.nil_sublist _ | exact List.Sublist.refl _ | apply List.Sublist.cons_cons | apply List.Sublist.cons)) inferInstance (by kernel_rfl) (by kernel_rfl) (by kernel_rfl) (by kernel_rfl) rfl rfl (Wanted.guard rfl rfl rfl rfl) (Val.loadPc tabOk 0 (c := 8) rfl rfl rfl rfl (by repeat (first | exact List.mem_cons_self | apply List.mem_cons_of_mem | apply List.mem_append_right)) rfl rfl p0) ?_
      refine DR.take 35 rfl (by repeat (first | exact List.nil_sublist _ | exact List.Sublist.refl _ | apply List.Sublist.cons_cons | apply List.Sublist.cons)) inferInstance (by kernel_rfl) (by kernel_rfl) (by kernel_rfl) (by kernel_rfl) rfl rfl (Wanted.guard rfl rfl rfl rfl) (Val.buildA tabOk (parts := []) (cells := (u8s (List.replicate 8 0)).toArray) rfl rfl rfl rfl rfl rfl) ?_
      refine DR.take 36 rfl (by repeat (first | exact List.nil_sublist _ | exact List.Sublist.refl _ | apply List.Sublist.cons_cons | apply List.Sublist.cons)) inferInstance (by kernel_rfl) (by kernel_rfl) (by kernel_rfl) (by kernel_rfl) rfl rfl (Wanted.guard rfl rfl rfl rfl) (Val.eqU (m := 8) (a := pc 8 qh 0) (b := List.replicate 8 0) tabOk rfl rfl rfl (by kernel_rfl) (by kernel_rfl) rfl rfl p0 rfl) ?_
      refine DR.one (i := 32) (by kernel_rfl) ?_
      refine DOp.op rfl (Wanted.guard rfl rfl rfl rfl) (OpTo.callV Tryd.func17 rfl rfl rfl rfl rfl rfl (fun w' _ => Zero_calls _ p0 w')) (.inl fun _ => by repeat (first | exact List.nil_sublist _ | exact List.Sublist.refl _ | apply List.Sublist.cons_cons | apply List.Sublist.cons)) (fun _ => ?_)
      generalize decide (pc 8 qh 0 = List.replicate 8 0) = zz at *
      refine DR.take 37 rfl (by repeat (first | exact List.nil_sublist _ | exact List.Sublist.refl _ | apply List.Sublist.cons_cons | apply List.Sublist.cons)) inferInstance (by kernel_rfl) (by kernel_rfl) (by kernel_rfl) (by kernel_rfl) rfl rfl (Wanted.guard rfl rfl rfl rfl) (Val.eq (Val.eqBool tabOk rfl rfl rfl rfl rfl) (show _ = Value.bool true from by simp)) ?_
      refine DR.take 38 rfl (by repeat (first | exact List.nil_sublist _ | exact List.Sublist.refl _ | apply List.Sublist.cons_cons | apply List.Sublist.cons)) inferInstance (by kernel_rfl) (by kernel_rfl) (by kernel_rfl) (by kernel_rfl) rfl rfl (Wanted.plain rfl) (Val.of rfl) ?_
      refine DR.take 39 rfl (by repeat (first | exact List.nil_sublist _ | exact List.Sublist.refl _ | apply List.Sublist.cons_cons | apply List.Sublist.cons)) inferInstance (by kernel_rfl) (by kernel_rfl) (by kernel_rfl) (by kernel_rfl) rfl rfl (Wanted.plain rfl) (Val.of rfl) ?_
      refine DR.done (by kernel_rfl) (RQ.next ?_)
      refine RC.ret ?_; (repeat first | refine RQ.thenRet ?_ | refine RQ.blockRet ?_); exact RQ.ret1 rfl (Res.tmp rfl) fun w' hm => ⟨rfl, hm.fr⟩
end Go.Proofs.YtigfcafpoegnjaaDoor
