/- Lemmas. -/
import Derived.Test.YtfoeakgnkfcbjaaGreatDoorPt15
set_option linter.unusedSimpArgs false
set_option linter.unusedVariables false
section
/- tx: within, money, account, outs, forwards. -/
namespace Go.Proofs.YtfoeakgnkfcbjaaGreatDoor
attribute [local irreducible] Go.Vc.Run Go.Vc.RC Go.Vc.RQ Go.Vc.DR Go.Vc.DOp Go.Vc.Knows Go.Vc.At
set_option maxHeartbeats 300000
open Go Go.Vc Go.Sha
set_option maxRecDepth 10000 in set_option maxHeartbeats 4000000 in
theorem Twithin_calls (n a b : Int) (w : World) : Gives Tryz.prog 124 [.int .i64 n, .int .i64 a, .int .i64 b] (.bool (decide (a ≤ n ∧ n ≤ b))) w := by
  refine enter Tryz.func124 rfl (Mem.nil w []) rfl ?_
  by_cases h0 : a ≤ n
  · refine z_ ?_
    exact RQ.ret1 rfl (Res.tmp rfl) fun w' hm => ⟨by simp only [h0, true_and]; rfl, hm.fr⟩
  · refine z_ ?_
    exact RQ.ret1 rfl (Res.tmp rfl) fun w' hm => ⟨by simp only [h0, false_and, decide_false]; rfl, hm.fr⟩
set_option maxRecDepth 10000 in set_option maxHeartbeats 4000000 in
theorem Tmoney_calls (n : Int) (w : World) : Gives Tryz.prog 156 [.int .i64 n] (.bool (decide (1 ≤ n ∧ n ≤ maxMo))) w := by
  refine enter Tryz.func156 rfl (Mem.nil w []) rfl ?_
  unfold maxMo
  refine z_ ?_
  refine Run.op1 (OpTo.cv Tryz.func124 (fun w' _ => Twithin_calls n 1 1125899906842624 w')) (fun _ => ?_)
  refine z_ ?_
  exact RQ.ret1 rfl (Res.tmp rfl) fun w' hm => ⟨rfl, hm.fr⟩
set_option maxRecDepth 10000 in set_option maxHeartbeats 4000000 in
theorem Taccount_calls (s a : Int) (w : World) : Gives Tryz.prog 159 [.int .i64 s, .int .i64 a] (.bool (decide ((0 ≤ s ∧ s ≤ 7) ∧ (0 ≤ a ∧ a ≤ 65535)))) w := by
  refine enter Tryz.func159 rfl (Mem.nil w []) rfl ?_
  have c1 : Knows Tryz.prog w 124 [.int .i64 s, .int .i64 0, .int .i64 7] (.bool (decide (0 ≤ s ∧ s ≤ 7))) := Knows.mk Tryz.func124 (fun w' _ => Twithin_calls s 0 7 w')
  have c2 : Knows Tryz.prog w 124 [.int .i64 a, .int .i64 0, .int .i64 65535] (.bool (decide (0 ≤ a ∧ a ≤ 65535))) := Knows.mk Tryz.func124 (fun w' _ => Twithin_calls a 0 65535 w')
  rw [Bool.decide_and (0 ≤ s ∧ s ≤ 7)]
  generalize decide (0 ≤ s ∧ s ≤ 7) = qa at c1 ⊢
  generalize decide (0 ≤ a ∧ a ≤ 65535) = qb at c2 ⊢
  cases qa with
  | false =>
    refine y_ ?_
    exact RQ.ret1 rfl (Res.tmp rfl) fun w' hm => ⟨rfl, hm.fr⟩
  | true =>
    refine y_ ?_
    exact RQ.ret1 rfl (Res.tmp rfl) fun w' hm => ⟨rfl, hm.fr⟩
theorem out_rd (o : OutD) : rdAt ti23 o.c.toArray 0 = some (.agg (u8s o.t.1).toArray) ∧ rdAt ti3 o.c.toArray 8 = some (.int .i64 o.am) := by
  obtain ⟨⟨t, ht, hb⟩, am⟩ := o
  obtain ⟨o0, o1, o2, o3, o4, o5, o6, o7, rfl⟩ := len8 ht
  exact ⟨rfl, rfl⟩
theorem fo_rd (o : FoD) : rdAt ti3 o.c.toArray 0 = some (.int .i64 o.sd) ∧ rdAt ti3 o.c.toArray 1 = some (.int .i64 o.ac) ∧ rdAt ti23 o.c.toArray 2 = some (.agg (u8s o.o.1).toArray) ∧ rdAt ti3 o.c.toArray 10 = some (.int .i64 o.am) := by
  obtain ⟨sd, ac, ⟨t, ht, hb⟩, am⟩ := o
  obtain ⟨o0, o1, o2, o3, o4, o5, o6, o7, rfl⟩ := len8 ht
  exact ⟨rfl, rfl, rfl, rfl⟩
theorem take_all {α : Type} {p : α → Prop} {l : List α} {k : Nat} {x : α} (hx : l[k]? = some x) (h : ∀ o ∈ l.take k, p o) (hp : p x) : ∀ o ∈ l.take (k + 1), p o := by
  intro o ho
  rw [List.take_add_one, hx] at ho
  rcases List.mem_append.1 ho with ho | ho
  · exact h o ho
  · rw [show o = x from by simpa using ho]; exact hp
instance (o : OutD) : Decidable o.may := by unfold OutD.may; infer_instance
instance (o : FoD) : Decidable o.may := by unfold FoD.may; infer_instance
noncomputable instance (l : List OutD) : Decidable (mayO l) := Classical.propDecidable _
noncomputable instance (l : List FoD) : Decidable (mayF l) := Classical.propDecidable _
set_option maxRecDepth 10000 in set_option maxHeartbeats 4000000 in
theorem Touts_calls (l : List OutD) (hll : l.length ≤ 9223372036854775807) (v : Value) (w : World) (hs : SrcW w 9 v l.length (rws OutD.c l)) : Gives Tryz.prog 125 [v] (.bool (decide (mayO l))) w := by
  refine enter Tryz.func125 rfl (Mem.nil w []) rfl ?_
  obtain ⟨aA, cA, rfl, hcA⟩ := hs.shape
  refine z_ ?_
  refine RC.up l.length (D := Unit) (fun k _ => ∀ o ∈ l.take k, o.may) (fun k _ => [(7, .int .i64 k), (6, .int .i64 l.length), (5, .slice aA l.length cA), (0, .slice aA l.length cA)]) (fun _ _ => []) 0 () (Nat.zero_le _) (by simp) ⟨rfl, rfl, rfl, rfl, trivial⟩ (List.Sublist.refl _) ?_
  intro k _ hk hin
  refine z_ ?_
  (repeat refine RC.seq ?_); refine RC.wh rfl (fun h => RQ.next ?_) (fun h => ?_)
  · have hk' : k < l.length := by have := of_decide_eq_true h; omega
    clear h
    obtain ⟨p, hx⟩ : ∃ p, l[k]? = some p := ⟨_, List.getElem?_eq_getElem hk'⟩
    obtain ⟨ad, c', hv', hc', hcl, hr⟩ := hs.pos (by omega)
    cases hv'
    have l1 : ∀ j u, (OutD.c p)[j]? = some u → w.cell? ((ad.add (k * 9)).add j) = some u := fun j u hj => by rw [add_add]; exact hr _ u (rws_at OutD.len hx j u hj)
    have hl := p.len
    have n1 := p.one
    obtain ⟨r0, r8⟩ := out_rd p
    have c1 : Knows Tryz.prog w 155 [.agg (u8s p.t.1).toArray] (.bool (decide (p.t.1 = List.replicate 8 0))) := Knows.mk Tryz.func155 (fun w' _ => Zero_calls p.t.1 p.t.2.1 w')
    have c2 : Knows Tryz.prog w 156 [.int .i64 p.am] (.bool (decide (1 ≤ p.am ∧ p.am ≤ maxMo))) := Knows.mk Tryz.func156 (fun w' _ => Tmoney_calls p.am w')
    have em : decide p.may = (!decide (p.t.1 = List.replicate 8 0) && decide (1 ≤ p.am ∧ p.am ≤ maxMo)) := by
      rw [← decide_not, ← Bool.decide_and]
      exact decide_eq_decide.2 Iff.rfl
    have hno : decide p.may = false → decide (mayO l) = false := fun h => decide_eq_false fun hm => of_decide_eq_false h (hm.1 p (List.mem_of_getElem? hx))
    have hye : decide p.may = true → ∀ o ∈ l.take (k + 1), o.may := fun h => take_all hx hin (of_decide_eq_true h)
    generalize decide (p.t.1 = List.replicate 8 0) = qa at c1 em
    generalize decide (1 ≤ p.am ∧ p.am ≤ maxMo) = qb at c2 em
    rw [em] at hno hye
    generalize p.c = F at l1 hl n1 r0 r8
    refine z_ ?_
    refine Run.a (vix k hk' (ad.add (k * 9))) ?_
    refine Run.a (vloA l1 hl) ?_
    refine Run.nw nal ?_
    intro b4
    refine z_ ?_
    refine Run.op1 (osa (arr := ti164.zero.cells) F.toArray n1 (hs := by rw [List.size_toArray, hl]; rfl)) (fun _ => ?_)
    cases qa with
    | true =>
      have hno := hno rfl
      refine y_ ?_
      exact RQ.ret1 rfl (Res.tmp rfl) fun w' hm => ⟨by rw [hno], hm.fr⟩
    | false =>
      cases qb with
      | false =>
        have hno := hno rfl
        refine y_ ?_
        exact RQ.ret1 rfl (Res.tmp rfl) fun w' hm => ⟨by rw [hno], hm.fr⟩
      | true =>
        refine y_ ?_
        exact RQ.up (k + 1) () (Nat.lt_succ_self _) hk' (hye rfl) ⟨rfl, rfl, rfl, rfl, trivial⟩ (by repeat (first | exact List.nil_sublist _ | exact List.Sublist.refl _ | apply List.Sublist.cons_cons | apply List.Sublist.cons | apply Go.Vc.subApp))
  · have hk' : k = l.length := by have := of_decide_eq_false h; omega
    clear h
    subst hk'
    rw [List.take_length] at hin
    (repeat refine RQ.thenExit ?_); refine RQ.blockHere ?_
    have e : decide ((l.length : Int) ≤ 16) = decide (mayO l) := decide_eq_decide.2 ⟨fun h => ⟨hin, by omega⟩, fun h => by have := h.2; omega⟩
    refine z_ ?_
    exact RQ.ret1 rfl (Res.tmp rfl) fun w' hm => ⟨by rw [← e], hm.fr⟩
set_option maxRecDepth 10000 in set_option maxHeartbeats 4000000 in
theorem Tforwards_calls (l : List FoD) (hll : l.length ≤ 9223372036854775807) (v : Value) (w : World) (hs : SrcW w 11 v l.length (rws FoD.c l)) : Gives Tryz.prog 127 [v] (.bool (decide (mayF l))) w := by
  refine enter Tryz.func127 rfl (Mem.nil w []) rfl ?_
  obtain ⟨aA, cA, rfl, hcA⟩ := hs.shape
  refine z_ ?_
  refine RC.up l.length (D := Unit) (fun k _ => ∀ o ∈ l.take k, o.may) (fun k _ => [(7, .int .i64 k), (6, .int .i64 l.length), (5, .slice aA l.length cA), (0, .slice aA l.length cA)]) (fun _ _ => []) 0 () (Nat.zero_le _) (by simp) ⟨rfl, rfl, rfl, rfl, trivial⟩ (List.Sublist.refl _) ?_
  intro k _ hk hin
  refine z_ ?_
  (repeat refine RC.seq ?_); refine RC.wh rfl (fun h => RQ.next ?_) (fun h => ?_)
  · have hk' : k < l.length := by have := of_decide_eq_true h; omega
    clear h
    obtain ⟨p, hx⟩ : ∃ p, l[k]? = some p := ⟨_, List.getElem?_eq_getElem hk'⟩
    obtain ⟨ad, c', hv', hc', hcl, hr⟩ := hs.pos (by omega)
    cases hv'
    have l1 : ∀ j u, (FoD.c p)[j]? = some u → w.cell? ((ad.add (k * 11)).add j) = some u := fun j u hj => by rw [add_add]; exact hr _ u (rws_at FoD.len hx j u hj)
    have hl := p.len
    have n1 := p.one
    obtain ⟨r0, r1, r2, r10⟩ := fo_rd p
    have c1 : Knows Tryz.prog w 155 [.agg (u8s p.o.1).toArray] (.bool (decide (p.o.1 = List.replicate 8 0))) := Knows.mk Tryz.func155 (fun w' _ => Zero_calls p.o.1 p.o.2.1 w')
    have c2 : Knows Tryz.prog w 156 [.int .i64 p.am] (.bool (decide (1 ≤ p.am ∧ p.am ≤ maxMo))) := Knows.mk Tryz.func156 (fun w' _ => Tmoney_calls p.am w')
    have c3 : Knows Tryz.prog w 159 [.int .i64 p.sd, .int .i64 p.ac] (.bool (decide ((0 ≤ p.sd ∧ p.sd ≤ 7) ∧ (0 ≤ p.ac ∧ p.ac ≤ 65535)))) := Knows.mk Tryz.func159 (fun w' _ => Taccount_calls p.sd p.ac w')
    have em : decide p.may = (decide ((0 ≤ p.sd ∧ p.sd ≤ 7) ∧ (0 ≤ p.ac ∧ p.ac ≤ 65535)) && (!decide (p.o.1 = List.replicate 8 0) && decide (1 ≤ p.am ∧ p.am ≤ maxMo))) := by
      rw [← decide_not, ← Bool.decide_and, ← Bool.decide_and]
      exact decide_eq_decide.2 ⟨fun h => ⟨⟨h.1, h.2.1⟩, h.2.2⟩, fun h => ⟨h.1.1, h.1.2, h.2⟩⟩
    have hno : decide p.may = false → decide (mayF l) = false := fun h => decide_eq_false fun hm => of_decide_eq_false h (hm.1 p (List.mem_of_getElem? hx))
    have hye : decide p.may = true → ∀ o ∈ l.take (k + 1), o.may := fun h => take_all hx hin (of_decide_eq_true h)
    generalize decide (p.o.1 = List.replicate 8 0) = qa at c1 em
    generalize decide (1 ≤ p.am ∧ p.am ≤ maxMo) = qb at c2 em
    generalize decide ((0 ≤ p.sd ∧ p.sd ≤ 7) ∧ (0 ≤ p.ac ∧ p.ac ≤ 65535)) = qc at c3 em
    rw [em] at hno hye
    generalize p.c = F at l1 hl n1 r0 r1 r2 r10
    refine z_ ?_
    refine Run.a (vix k hk' (ad.add (k * 11))) ?_
    refine Run.a (vloA l1 hl) ?_
    refine Run.nw nal ?_
    intro b4
    refine z_ ?_
    refine Run.op1 (osa (arr := ti177.zero.cells) F.toArray n1 (hs := by rw [List.size_toArray, hl]; rfl)) (fun _ => ?_)
    cases qc with
    | false =>
      have hno := hno rfl
      refine y_ ?_
      exact RQ.ret1 rfl (Res.tmp rfl) fun w' hm => ⟨by rw [hno], hm.fr⟩
    | true =>
      cases qa with
      | true =>
        have hno := hno rfl
        refine y_ ?_
        exact RQ.ret1 rfl (Res.tmp rfl) fun w' hm => ⟨by rw [hno], hm.fr⟩
      | false =>
        cases qb with
        | false =>
          have hno := hno rfl
          refine y_ ?_
          exact RQ.ret1 rfl (Res.tmp rfl) fun w' hm => ⟨by rw [hno], hm.fr⟩
        | true =>
          refine y_ ?_
          exact RQ.up (k + 1) () (Nat.lt_succ_self _) hk' (hye rfl) ⟨rfl, rfl, rfl, rfl, trivial⟩ (by repeat (first | exact List.nil_sublist _ | exact List.Sublist.refl _ | apply List.Sublist.cons_cons | apply List.Sublist.cons | apply Go.Vc.subApp))
  · have hk' : k = l.length := by have := of_decide_eq_false h; omega
    clear h
    subst hk'
    rw [List.take_length] at hin
    (repeat refine RQ.thenExit ?_); refine RQ.blockHere ?_
    have e : decide ((l.length : Int) ≤ 16) = decide (mayF l) := decide_eq_decide.2 ⟨fun h => ⟨hin, by omega⟩, fun h => by have := h.2; omega⟩
    refine z_ ?_
    exact RQ.ret1 rfl (Res.tmp rfl) fun w' hm => ⟨by rw [← e], hm.fr⟩
end Go.Proofs.YtfoeakgnkfcbjaaGreatDoor

/- tx: claim. -/
namespace Go.Proofs.YtfoeakgnkfcbjaaGreatDoor
attribute [local irreducible] Go.Vc.Run Go.Vc.RC Go.Vc.RQ Go.Vc.DR Go.Vc.DOp Go.Vc.Knows Go.Vc.At
set_option maxHeartbeats 300000
open Go Go.Vc Go.Sha
theorem cl_rd (l : ClD) : rdAt ti3 l.c.toArray 0 = some (.int .i64 l.sd) ∧ rdAt ti3 l.c.toArray 1 = some (.int .i64 l.ac) ∧ rdAt ti23 l.c.toArray 2 = some (.agg (u8s l.o.1).toArray) ∧ rdAt ti3 l.c.toArray 10 = some (.int .i64 l.am) ∧ rdAt ti3 l.c.toArray 11 = some (.int .i64 l.no) := by
  obtain ⟨sd, ac, ⟨t, ht, hb⟩, am, no, pf⟩ := l
  obtain ⟨o0, o1, o2, o3, o4, o5, o6, o7, rfl⟩ := len8 ht
  exact ⟨rfl, rfl, rfl, rfl, rfl⟩
instance (l : ClD) : Decidable l.may := by unfold ClD.may; infer_instance
set_option maxRecDepth 10000 in set_option maxHeartbeats 4000000 in
theorem Tclaim_calls (l : ClD) (w : World) : Gives Tryz.prog 130 [.agg l.c.toArray] (.bool (decide l.may)) w := by
  refine enter Tryz.func130 rfl (Mem.nil w []) rfl ?_
  obtain ⟨r0, r1, r2, r10, r11⟩ := cl_rd l
  have c1 : Knows Tryz.prog w 159 [.int .i64 l.sd, .int .i64 l.ac] (.bool (decide ((0 ≤ l.sd ∧ l.sd ≤ 7) ∧ (0 ≤ l.ac ∧ l.ac ≤ 65535)))) := Knows.mk Tryz.func159 (fun w' _ => Taccount_calls l.sd l.ac w')
  have c2 : Knows Tryz.prog w 155 [.agg (u8s l.o.1).toArray] (.bool (decide (l.o.1 = List.replicate 8 0))) := Knows.mk Tryz.func155 (fun w' _ => Zero_calls l.o.1 l.o.2.1 w')
  have c3 : Knows Tryz.prog w 156 [.int .i64 l.am] (.bool (decide (1 ≤ l.am ∧ l.am ≤ maxMo))) := Knows.mk Tryz.func156 (fun w' _ => Tmoney_calls l.am w')
  have c4 : Knows Tryz.prog w 124 [.int .i64 l.no, .int .i64 0, .int .i64 255] (.bool (decide (0 ≤ l.no ∧ l.no ≤ 255))) := Knows.mk Tryz.func124 (fun w' _ => Twithin_calls l.no 0 255 w')
  have em : decide l.may = (decide ((0 ≤ l.sd ∧ l.sd ≤ 7) ∧ (0 ≤ l.ac ∧ l.ac ≤ 65535)) && (!decide (l.o.1 = List.replicate 8 0) && (decide (1 ≤ l.am ∧ l.am ≤ maxMo) && decide (0 ≤ l.no ∧ l.no ≤ 255)))) := by
    rw [← decide_not, ← Bool.decide_and (1 ≤ l.am ∧ l.am ≤ maxMo), ← Bool.decide_and, ← Bool.decide_and]
    exact decide_eq_decide.2 Iff.rfl
  rw [em]
  generalize decide ((0 ≤ l.sd ∧ l.sd ≤ 7) ∧ (0 ≤ l.ac ∧ l.ac ≤ 65535)) = qa at c1 ⊢
  generalize decide (l.o.1 = List.replicate 8 0) = qb at c2 ⊢
  generalize decide (1 ≤ l.am ∧ l.am ≤ maxMo) = qc at c3 ⊢
  generalize decide (0 ≤ l.no ∧ l.no ≤ 255) = qd at c4 ⊢
  generalize l.c = F at r0 r1 r2 r10 r11 ⊢
  refine z_ ?_
  refine Run.nw nbx ?_
  intro b1
  cases qa with
  | false =>
    refine y_ ?_
    exact RQ.ret1 rfl (Res.tmp rfl) fun w' hm => ⟨rfl, hm.fr⟩
  | true =>
    cases qb with
    | true =>
      refine y_ ?_
      exact RQ.ret1 rfl (Res.tmp rfl) fun w' hm => ⟨rfl, hm.fr⟩
    | false =>
      cases qc with
      | false =>
        refine y_ ?_
        exact RQ.ret1 rfl (Res.tmp rfl) fun w' hm => ⟨rfl, hm.fr⟩
      | true =>
        refine y_ ?_
        exact RQ.ret1 rfl (Res.tmp rfl) fun w' hm => ⟨rfl, hm.fr⟩
end Go.Proofs.YtfoeakgnkfcbjaaGreatDoor

/- tx: cert. -/
namespace Go.Proofs.YtfoeakgnkfcbjaaGreatDoor
attribute [local irreducible] Go.Vc.Run Go.Vc.RC Go.Vc.RQ Go.Vc.DR Go.Vc.DOp Go.Vc.Knows Go.Vc.At
set_option maxHeartbeats 300000
open Go Go.Vc Go.Sha
/-- The cells of a certificate. -/
def ceC (c : CeD) (vO vS : Value) : List Value := .int .i64 c.sd :: .int .i64 c.ep :: .int .i64 c.ql :: (u8s c.en.1 ++ (u8s c.ro.1 ++ [vO, vS]))
theorem ce_rd (c : CeD) (vO vS : Value) : rdAt ti3 (ceC c vO vS).toArray 0 = some (.int .i64 c.sd) ∧ rdAt ti3 (ceC c vO vS).toArray 1 = some (.int .i64 c.ep) ∧ rdAt ti3 (ceC c vO vS).toArray 2 = some (.int .i64 c.ql) ∧ rdAt ti23 (ceC c vO vS).toArray 3 = some (.agg (u8s c.en.1).toArray) ∧ rdAt ti23 (ceC c vO vS).toArray 11 = some (.agg (u8s c.ro.1).toArray) ∧ rdAt ti50 (ceC c vO vS).toArray 19 = some vO ∧ rdAt ti55 (ceC c vO vS).toArray 20 = some vS := by
  obtain ⟨sd, ep, ql, ⟨en, he, hb⟩, ⟨ro, hr, hc⟩, os, sg⟩ := c
  obtain ⟨o0, o1, o2, o3, o4, o5, o6, o7, rfl⟩ := len8 he
  obtain ⟨q0, q1, q2, q3, q4, q5, q6, q7, rfl⟩ := len8 hr
  exact ⟨rfl, rfl, rfl, rfl, rfl, rfl, rfl⟩
theorem sg_rd (s : SgD) : rdAt ti3 s.c.toArray 0 = some (.int .i64 s.k) ∧ rdAt ti3 s.c.toArray 1 = some (.int .i64 s.s.z) := ⟨rfl, rfl⟩
instance (s : SgD) : Decidable s.may := by unfold SgD.may; infer_instance
noncomputable instance (c : CeD) : Decidable c.may := Classical.propDecidable _
set_option maxRecDepth 10000 in set_option maxHeartbeats 4000000 in
theorem Tcert_calls (c : CeD) (hlo : c.os.length ≤ 9223372036854775807) (hls : c.sg.length ≤ 9223372036854775807) (vO vS : Value) (w : World) (hO : SrcW w 9 vO c.os.length (rws OutD.c c.os)) (hs : SrcW w 282 vS c.sg.length (rws SgD.c c.sg)) : Gives Tryz.prog 129 [.agg (ceC c vO vS).toArray] (.bool (decide c.may)) w := by
  refine enter Tryz.func129 rfl (Mem.nil w []) rfl ?_
  obtain ⟨aA, cA, rfl, hcA⟩ := hs.shape
  obtain ⟨r0, r1, r2, r3, r11, r19, r20⟩ := ce_rd c vO (.slice aA c.sg.length cA)
  generalize ceC c vO (.slice aA c.sg.length cA) = F at r0 r1 r2 r3 r11 r19 r20 ⊢
  have hno' : (∃ s ∈ c.sg, ¬ s.may) → decide c.may = false := fun ⟨s, h1, h2⟩ => decide_eq_false fun hm => h2 (hm.1 s h1)
  have em : (∀ s ∈ c.sg, s.may) → decide c.may = (decide (0 ≤ c.sd ∧ c.sd ≤ 7) && (decide (0 ≤ c.ep ∧ c.ep ≤ 400) && (decide (0 ≤ c.ql ∧ c.ql ≤ 2147483647) && (decide (mayO c.os) && decide (1 ≤ (c.sg.length : Int) ∧ (c.sg.length : Int) ≤ 5))))) := fun hin => by
    rw [← Bool.decide_and (mayO c.os), ← Bool.decide_and, ← Bool.decide_and, ← Bool.decide_and]
    exact decide_eq_decide.2 ⟨fun h => ⟨h.2.1.1, h.2.1.2.1, h.2.1.2.2, h.2.2.1, by have := h.2.2.2; omega⟩, fun h => ⟨hin, ⟨h.1, h.2.1, h.2.2.1⟩, h.2.2.2.1, by have := h.2.2.2.2; omega⟩⟩
  have d1 : Knows Tryz.prog w 124 [.int .i64 c.sd, .int .i64 0, .int .i64 7] (.bool (decide (0 ≤ c.sd ∧ c.sd ≤ 7))) := Knows.mk Tryz.func124 (fun w' _ => Twithin_calls _ 0 7 w')
  have d2 : Knows Tryz.prog w 124 [.int .i64 c.ep, .int .i64 0, .int .i64 400] (.bool (decide (0 ≤ c.ep ∧ c.ep ≤ 400))) := Knows.mk Tryz.func124 (fun w' _ => Twithin_calls _ 0 400 w')
  have d3 : Knows Tryz.prog w 124 [.int .i64 c.ql, .int .i64 0, .int .i64 2147483647] (.bool (decide (0 ≤ c.ql ∧ c.ql ≤ 2147483647))) := Knows.mk Tryz.func124 (fun w' _ => Twithin_calls _ 0 2147483647 w')
  have d4 : Knows Tryz.prog w 125 [vO] (.bool (decide (mayO c.os))) := Knows.mk Tryz.func125 (fun w' hf => Touts_calls c.os hlo vO w' (hO.fr hf))
  have d5 : Knows Tryz.prog w 124 [.int .i64 c.sg.length, .int .i64 1, .int .i64 5] (.bool (decide (1 ≤ (c.sg.length : Int) ∧ (c.sg.length : Int) ≤ 5))) := Knows.mk Tryz.func124 (fun w' _ => Twithin_calls _ 1 5 w')
  generalize decide (0 ≤ c.sd ∧ c.sd ≤ 7) = e1 at d1 em
  generalize decide (0 ≤ c.ep ∧ c.ep ≤ 400) = e2 at d2 em
  generalize decide (0 ≤ c.ql ∧ c.ql ≤ 2147483647) = e3 at d3 em
  generalize decide (mayO c.os) = e4 at d4 em
  generalize decide (1 ≤ (c.sg.length : Int) ∧ (c.sg.length : Int) ≤ 5) = e5 at d5 em
  generalize decide c.may = mm at hno' em ⊢
  generalize c.sd = k1 at r0 d1
  generalize c.ep = k2 at r1 d2
  generalize c.ql = k3 at r2 d3
  generalize c.sg = l at *
  clear hO
  refine z_ ?_
  refine Run.nw nbx ?_
  intro b1
  refine y_ ?_
  refine RC.up l.length (D := Unit) (fun k _ => ∀ o ∈ l.take k, o.may) (fun k _ => [(9, .int .i64 k), (8, .int .i64 l.length), (7, .slice aA l.length cA), (1, .pointer (some ⟨b1, 0, none⟩))]) (fun _ _ => [(b1, Obj.cells F.toArray 57 (0, 0))]) 0 () (Nat.zero_le _) (by simp) ⟨rfl, rfl, rfl, rfl, trivial⟩ (List.Sublist.refl _) ?_
  intro k _ hk hin
  refine z_ ?_
  (repeat refine RC.seq ?_); refine RC.wh rfl (fun h => RQ.next ?_) (fun h => ?_)
  · have hk' : k < l.length := by have := of_decide_eq_true h; omega
    clear h
    obtain ⟨p, hx⟩ : ∃ p, l[k]? = some p := ⟨_, List.getElem?_eq_getElem hk'⟩
    obtain ⟨ad, c', hv', hc', hcl, hr⟩ := hs.pos (by omega)
    cases hv'
    have l1 : ∀ j u, (SgD.c p)[j]? = some u → w.cell? ((ad.add (k * 282)).add j) = some u := fun j u hj => by rw [add_add]; exact hr _ u (rws_at SgD.len hx j u hj)
    have hl := p.len
    have n1 := p.one
    obtain ⟨q0, q1⟩ := sg_rd p
    have c1 : Knows Tryz.prog w 124 [.int .i64 p.k, .int .i64 0, .int .i64 4] (.bool (decide (0 ≤ p.k ∧ p.k ≤ 4))) := Knows.mk Tryz.func124 (fun w' _ => Twithin_calls _ 0 4 w')
    have c2 : Knows Tryz.prog w 124 [.int .i64 p.s.z, .int .i64 0, .int .i64 255] (.bool (decide (0 ≤ p.s.z ∧ p.s.z ≤ 255))) := Knows.mk Tryz.func124 (fun w' _ => Twithin_calls _ 0 255 w')
    have es : decide p.may = (decide (0 ≤ p.k ∧ p.k ≤ 4) && decide (0 ≤ p.s.z ∧ p.s.z ≤ 255)) := by
      rw [← Bool.decide_and]
      exact decide_eq_decide.2 Iff.rfl
    have hno : decide p.may = false → mm = false := fun h => hno' ⟨p, List.mem_of_getElem? hx, of_decide_eq_false h⟩
    have hye : decide p.may = true → ∀ o ∈ l.take (k + 1), o.may := fun h => take_all hx hin (of_decide_eq_true h)
    generalize decide (0 ≤ p.k ∧ p.k ≤ 4) = qa at c1 es
    generalize decide (0 ≤ p.s.z ∧ p.s.z ≤ 255) = qb at c2 es
    rw [es] at hno hye
    generalize p.c = G at l1 hl n1 q0 q1
    refine z_ ?_
    refine Run.a (vix k hk' (ad.add (k * 282))) ?_
    refine Run.a (vloA l1 hl) ?_
    refine Run.nw nal ?_
    intro b4
    refine z_ ?_
    refine Run.op1 (osa (arr := ti188.zero.cells) G.toArray n1 (hs := by rw [List.size_toArray, hl]; rfl)) (fun _ => ?_)
    cases qa with
    | false =>
      have hno := hno rfl
      refine y_ ?_
      exact RQ.ret1 rfl (Res.tmp rfl) fun w' hm => ⟨by rw [hno], hm.fr⟩
    | true =>
      cases qb with
      | false =>
        have hno := hno rfl
        refine y_ ?_
        exact RQ.ret1 rfl (Res.tmp rfl) fun w' hm => ⟨by rw [hno], hm.fr⟩
      | true =>
        refine y_ ?_
        exact RQ.up (k + 1) () (Nat.lt_succ_self _) hk' (hye rfl) ⟨rfl, rfl, rfl, rfl, trivial⟩ (by repeat (first | exact List.nil_sublist _ | exact List.Sublist.refl _ | apply List.Sublist.cons_cons | apply List.Sublist.cons | apply Go.Vc.subApp))
  · have hk' : k = l.length := by have := of_decide_eq_false h; omega
    clear h
    subst hk'
    rw [List.take_length] at hin
    (repeat refine RQ.thenExit ?_); refine RQ.blockHere ?_
    rw [em hin]
    cases e1 with
    | false =>
      refine y_ ?_
      exact RQ.ret1 rfl (Res.tmp rfl) fun w' hm => ⟨rfl, hm.fr⟩
    | true =>
      cases e2 with
      | false =>
        refine y_ ?_
        exact RQ.ret1 rfl (Res.tmp rfl) fun w' hm => ⟨rfl, hm.fr⟩
      | true =>
        cases e3 with
        | false =>
          refine y_ ?_
          exact RQ.ret1 rfl (Res.tmp rfl) fun w' hm => ⟨rfl, hm.fr⟩
        | true =>
          cases e4 with
          | false =>
            refine y_ ?_
            exact RQ.ret1 rfl (Res.tmp rfl) fun w' hm => ⟨rfl, hm.fr⟩
          | true =>
            refine y_ ?_
            exact RQ.ret1 rfl (Res.tmp rfl) fun w' hm => ⟨rfl, hm.fr⟩
end Go.Proofs.YtfoeakgnkfcbjaaGreatDoor

/- tx: the reference's MayOuts. -/
namespace Go.Proofs.YtfoeakgnkfcbjaaGreatDoor
attribute [local irreducible] Go.Vc.Run Go.Vc.RC Go.Vc.RQ Go.Vc.DR Go.Vc.DOp Go.Vc.Knows Go.Vc.At
set_option maxHeartbeats 300000
open Go Go.Vc Go.Sha
set_option maxRecDepth 10000 in set_option maxHeartbeats 4000000 in
theorem RMayOuts_calls (l : List OutD) (hll : l.length ≤ 9223372036854775807) (v : Value) (w : World) (hs : SrcW w 9 v l.length (rws OutD.c l)) : Gives Tryz.prog 85 [v] (.bool (decide (mayO l))) w := by
  refine enter Tryz.func85 rfl (Mem.nil w []) rfl ?_
  obtain ⟨aA, cA, rfl, hcA⟩ := hs.shape
  by_cases h16 : ¬ l.length ≤ 16
  · have e : decide (mayO l) = false := decide_eq_false fun h => h16 h.2
    refine z_ ?_
    exact RQ.ret1 rfl (Res.tmp rfl) fun w' hm => ⟨by rw [e], hm.fr⟩
  refine z_ ?_
  refine RC.up l.length (D := Unit) (fun k _ => ∀ o ∈ l.take k, o.may) (fun k _ => [(3, .int .i64 k), (0, .slice aA l.length cA)]) (fun _ _ => []) 0 () (Nat.zero_le _) (by simp) ⟨rfl, rfl, trivial⟩ (List.Sublist.refl _) ?_
  intro k _ hk hin
  refine z_ ?_
  (repeat refine RC.seq ?_); refine RC.wh rfl (fun h => RQ.next ?_) (fun h => ?_)
  · have hk' : k < l.length := by have := of_decide_eq_true h; omega
    clear h
    obtain ⟨p, hx⟩ : ∃ p, l[k]? = some p := ⟨_, List.getElem?_eq_getElem hk'⟩
    obtain ⟨ad, c', hv', hc', hcl, hr⟩ := hs.pos (by omega)
    cases hv'
    have l1 : ∀ j u, (u8s p.t.1)[j]? = some u → w.cell? (((ad.add (k * 9)).add 0).add j) = some u := fun j u hj => by
      rw [add_add, add_add]
      refine hr _ u (rws_at OutD.len hx (0 + j) u ?_)
      rw [Nat.zero_add]; unfold OutD.c
      rw [List.getElem?_append_left (List.getElem?_eq_some_iff.1 hj).1]; exact hj
    have l8 : w.cell? ((ad.add (k * 9)).add 8) = some (.int .i64 p.am) := by
      rw [add_add]
      refine hr _ _ (rws_at OutD.len hx 8 _ ?_)
      unfold OutD.c
      rw [List.getElem?_append_right (by rw [u8s_len, p.t.2.1]; omega), u8s_len, p.t.2.1]; rfl
    have hl : (u8s p.t.1).length = 8 := by rw [u8s_len, p.t.2.1]
    have hno : ¬ p.may → decide (mayO l) = false := fun h => decide_eq_false fun hm => h (hm.1 p (List.mem_of_getElem? hx))
    have hmm : p.may ↔ p.t.1 ≠ List.replicate 8 0 ∧ 1 ≤ p.am ∧ p.am ≤ 1125899906842624 := Iff.rfl
    have c1 : Knows Tryz.prog w 132 [.agg (u8s p.t.1).toArray] (.bool (decide (p.t.1 = List.replicate 8 0))) := Knows.mk Tryz.func132 (fun w' _ => ref_Zero_calls p.t.1 p.t.2.1 w')
    refine z_ ?_
    refine Run.a (vix k hk' (ad.add (k * 9))) ?_
    refine Run.a (Val.fieldAddrA tabOk rfl rfl rfl rfl rfl rfl rfl rfl) ?_
    refine Run.a (vloA l1 hl) ?_
    by_cases hz : p.t.1 = List.replicate 8 0
    · have e := hno (fun h => (hmm.1 h).1 hz)
      rw [decide_eq_true hz] at c1
      refine y_ ?_
      exact RQ.ret1 rfl (Res.tmp rfl) fun w' hm => ⟨by rw [e], hm.fr⟩
    · rw [decide_eq_false hz] at c1
      refine y_ ?_
      refine Run.a (vix k hk' (ad.add (k * 9))) ?_
      refine Run.a (Val.fieldAddrA tabOk rfl rfl rfl rfl rfl rfl rfl rfl) ?_
      by_cases h1 : p.am < 1
      · have e := hno (fun h => by have := (hmm.1 h).2.1; omega)
        refine y_ ?_
        exact RQ.ret1 rfl (Res.tmp rfl) fun w' hm => ⟨by rw [e], hm.fr⟩
      · refine y_ ?_
        refine Run.a (vix k hk' (ad.add (k * 9))) ?_
        refine Run.a (Val.fieldAddrA tabOk rfl rfl rfl rfl rfl rfl rfl rfl) ?_
        by_cases h2 : 1125899906842624 < p.am
        · have e := hno (fun h => by have := (hmm.1 h).2.2; omega)
          refine y_ ?_
          exact RQ.ret1 rfl (Res.tmp rfl) fun w' hm => ⟨by rw [e], hm.fr⟩
        · refine y_ ?_
          exact RQ.up (k + 1) () (Nat.lt_succ_self _) hk' (take_all hx hin (hmm.2 ⟨hz, by omega, by omega⟩)) ⟨rfl, rfl, trivial⟩ (by repeat (first | exact List.nil_sublist _ | exact List.Sublist.refl _ | apply List.Sublist.cons_cons | apply List.Sublist.cons | apply Go.Vc.subApp))
  · have hk' : k = l.length := by have := of_decide_eq_false h; omega
    clear h
    subst hk'
    rw [List.take_length] at hin
    have e : decide (mayO l) = true := decide_eq_true ⟨hin, Decidable.not_not.1 h16⟩
    (repeat refine RQ.thenExit ?_); refine RQ.blockHere ?_
    refine z_ ?_
    exact RQ.ret1 rfl (Res.tmp rfl) fun w' hm => ⟨by rw [e], hm.fr⟩
end Go.Proofs.YtfoeakgnkfcbjaaGreatDoor

/- tx: the reference's MayClaim (gen_txj.py prints it). -/
namespace Go.Proofs.YtfoeakgnkfcbjaaGreatDoor
attribute [local irreducible] Go.Vc.Run Go.Vc.RC Go.Vc.RQ Go.Vc.DR Go.Vc.DOp Go.Vc.Knows Go.Vc.At
set_option maxHeartbeats 300000
open Go Go.Vc Go.Sha
set_option maxRecDepth 10000 in set_option maxHeartbeats 4000000 in
theorem RMayClaim_calls (l : ClD) (w : World) : Gives Tryz.prog 89 [.agg l.c.toArray] (.bool (decide l.may)) w := by
  refine enter Tryz.func89 rfl (Mem.nil w []) rfl ?_
  obtain ⟨r0, r1, r2, r10, r11⟩ := cl_rd l
  have c1 : Knows Tryz.prog w 132 [.agg (u8s l.o.1).toArray] (.bool (decide (l.o.1 = List.replicate 8 0))) := Knows.mk Tryz.func132 (fun w' _ => ref_Zero_calls l.o.1 l.o.2.1 w')
  have hmm : l.may ↔ ((0 ≤ l.sd ∧ l.sd ≤ 7) ∧ (0 ≤ l.ac ∧ l.ac ≤ 65535)) ∧ l.o.1 ≠ List.replicate 8 0 ∧ (1 ≤ l.am ∧ l.am ≤ 1125899906842624) ∧ (0 ≤ l.no ∧ l.no ≤ 255) := Iff.rfl
  have hno : ∀ (w' : World), Fr [] w w' → ¬ l.may → Ending.returned (.bool false) = Ending.returned (.bool (decide l.may)) ∧ Fr [] w w' := fun w' hf h => ⟨by rw [decide_eq_false h], hf⟩
  generalize l.c = F at r0 r1 r2 r10 r11 ⊢
  refine z_ ?_
  refine Run.nw nbx ?_
  intro b1
  by_cases h0 : ¬ (0 ≤ l.sd)
  · refine y_ ?_
    exact RQ.ret1 rfl (Res.tmp rfl) fun w' hm => hno w' hm.fr (fun h => by have := hmm.1 h; omega)
  have h0 := Decidable.not_not.1 h0
  by_cases h1 : ¬ (l.sd < 8)
  · refine y_ ?_
    exact RQ.ret1 rfl (Res.tmp rfl) fun w' hm => hno w' hm.fr (fun h => by have := hmm.1 h; omega)
  have h1 := Decidable.not_not.1 h1
  by_cases h2 : ¬ (0 ≤ l.ac)
  · refine y_ ?_
    exact RQ.ret1 rfl (Res.tmp rfl) fun w' hm => hno w' hm.fr (fun h => by have := hmm.1 h; omega)
  have h2 := Decidable.not_not.1 h2
  by_cases h3 : ¬ (l.ac < 65536)
  · refine y_ ?_
    exact RQ.ret1 rfl (Res.tmp rfl) fun w' hm => hno w' hm.fr (fun h => by have := hmm.1 h; omega)
  have h3 := Decidable.not_not.1 h3
  by_cases hz : l.o.1 = List.replicate 8 0
  · rw [decide_eq_true hz] at c1
    refine y_ ?_
    exact RQ.ret1 rfl (Res.tmp rfl) fun w' hm => hno w' hm.fr (fun h => (hmm.1 h).2.1 hz)
  rw [decide_eq_false hz] at c1
  by_cases h5 : ¬ (1 ≤ l.am)
  · refine y_ ?_
    exact RQ.ret1 rfl (Res.tmp rfl) fun w' hm => hno w' hm.fr (fun h => by have := hmm.1 h; omega)
  have h5 := Decidable.not_not.1 h5
  by_cases h6 : ¬ (l.am ≤ 1125899906842624)
  · refine y_ ?_
    exact RQ.ret1 rfl (Res.tmp rfl) fun w' hm => hno w' hm.fr (fun h => by have := hmm.1 h; omega)
  have h6 := Decidable.not_not.1 h6
  by_cases h7 : ¬ (0 ≤ l.no)
  · refine y_ ?_
    exact RQ.ret1 rfl (Res.tmp rfl) fun w' hm => hno w' hm.fr (fun h => by have := hmm.1 h; omega)
  have h7 := Decidable.not_not.1 h7
  have e : decide l.may = decide (l.no ≤ 255) := decide_eq_decide.2 ⟨fun h => (hmm.1 h).2.2.2.2, fun h8 => hmm.2 ⟨⟨⟨h0, by omega⟩, ⟨h2, by omega⟩⟩, hz, ⟨h5, h6⟩, ⟨h7, h8⟩⟩⟩
  refine y_ ?_
  exact RQ.ret1 rfl (Res.tmp rfl) fun w' hm => ⟨by rw [e]; rfl, hm.fr⟩
end Go.Proofs.YtfoeakgnkfcbjaaGreatDoor
end
