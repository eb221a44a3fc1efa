/- Lemmas. -/
import Derived.Test.YtfoeakgnkfcbjaaGreatDoorPt16
set_option linter.unusedSimpArgs false
set_option linter.unusedVariables false
section
/- tx: a transaction in memory; the reference's noParams, noCert, MayForward (gen_txk.py prints it). -/
namespace Go.Proofs.YtfoeakgnkfcbjaaGreatDoor
attribute [local irreducible] Go.Vc.Run Go.Vc.RC Go.Vc.RQ Go.Vc.DR Go.Vc.DOp Go.Vc.Knows Go.Vc.At
set_option maxHeartbeats 300000
open Go Go.Vc Go.Sha
def prC (p : PrD) (v : Value) : List Value := prm p.ln p.wd p.nd v
/-- Where the slices of a transaction are. -/
structure TxV where
  aI : Option Addr
  cI : Nat
  aO : Option Addr
  cO : Nat
  aF : Option Addr
  cF : Nat
  aK : Option Addr
  cK : Nat
  aA : Option Addr
  cA : Nat
  aS : Option Addr
  cS : Nat
def txC (t : TxD) (v : TxV) : List Value := .int .i64 t.kd :: .int .i64 t.ht :: .slice v.aI t.is.length v.cI :: .slice v.aO t.os.length v.cO :: .slice v.aF t.fs.length v.cF :: (prC t.p (.slice v.aK t.p.ks.length v.cK) ++ (ceC t.c (.slice v.aA t.c.os.length v.cA) (.slice v.aS t.c.sg.length v.cS) ++ t.l.c))
def PrD.no (p : PrD) : Prop := p.ln = 0 ∧ p.wd = 0 ∧ p.nd = 0 ∧ p.ks.length = 0
instance (p : PrD) : Decidable p.no := by unfold PrD.no; infer_instance
theorem PrD.no_iff (p : PrD) : p.no ↔ p = PrD.nul := by
  obtain ⟨a, b, c, l⟩ := p
  unfold PrD.no PrD.nul
  simp only [PrD.mk.injEq, List.length_eq_zero_iff]
def CeD.no (c : CeD) : Prop := c.sd = 0 ∧ c.ep = 0 ∧ c.ql = 0 ∧ c.en.1 = zero8 ∧ c.ro.1 = zero8 ∧ c.os.length = 0 ∧ c.sg.length = 0
instance (c : CeD) : Decidable c.no := by unfold CeD.no; infer_instance
theorem CeD.no_iff (c : CeD) : c.no ↔ c = CeD.nul := by
  obtain ⟨a, b, d, en, ro, os, sg⟩ := c
  unfold CeD.no CeD.nul
  simp only [CeD.mk.injEq, List.length_eq_zero_iff]
  have e : ∀ h : By 8, h.1 = zero8 ↔ h = By.z 8 := fun h => ⟨fun k => Subtype.ext k, fun k => by rw [k]; rfl⟩
  rw [e, e]
set_option maxRecDepth 10000 in set_option maxHeartbeats 4000000 in
theorem noParams_calls (p : PrD) (a : Option Addr) (cap : Nat) (w : World) : Gives Tryz.prog 83 [.agg (prC p (.slice a p.ks.length cap)).toArray] (.bool (decide p.no)) w := by
  refine enter Tryz.func83 rfl (Mem.nil w []) rfl ?_
  have hmm : p.no ↔ p.ln = 0 ∧ p.wd = 0 ∧ p.nd = 0 ∧ p.ks.length = 0 := Iff.rfl
  have hno : ∀ (w' : World), Fr [] w w' → ¬ p.no → Ending.returned (.bool false) = Ending.returned (.bool (decide p.no)) ∧ Fr [] w w' := fun w' hf h => ⟨by rw [decide_eq_false h], hf⟩
  generalize p.ks.length = n at hmm ⊢
  unfold prC
  refine z_ ?_
  refine Run.nw nbx ?_
  intro b1
  by_cases h0 : ¬ (p.ln = 0)
  · refine x_ ?_
    exact RQ.ret1 rfl (Res.tmp rfl) fun w' hm => hno w' hm.fr (fun h => by have := hmm.1 h; omega)
  have h0 := Decidable.not_not.1 h0
  by_cases h1 : ¬ (p.wd = 0)
  · refine x_ ?_
    exact RQ.ret1 rfl (Res.tmp rfl) fun w' hm => hno w' hm.fr (fun h => by have := hmm.1 h; omega)
  have h1 := Decidable.not_not.1 h1
  by_cases h2 : ¬ (p.nd = 0)
  · refine x_ ?_
    exact RQ.ret1 rfl (Res.tmp rfl) fun w' hm => hno w' hm.fr (fun h => by have := hmm.1 h; omega)
  have h2 := Decidable.not_not.1 h2
  by_cases h3 : ¬ (n = 0)
  · refine x_ ?_
    exact RQ.ret1 rfl (Res.tmp rfl) fun w' hm => hno w' hm.fr (fun h => by have := hmm.1 h; omega)
  have h3 := Decidable.not_not.1 h3
  refine x_ ?_
  exact RQ.ret1 rfl (Res.tmp rfl) fun w' hm => ⟨by rw [decide_eq_true (hmm.2 ⟨h0, h1, h2, h3⟩)]; rfl, hm.fr⟩
set_option maxRecDepth 10000 in set_option maxHeartbeats 4000000 in
theorem noCert_calls (c : CeD) (a a' : Option Addr) (cap cap' : Nat) (w : World) : Gives Tryz.prog 84 [.agg (ceC c (.slice a c.os.length cap) (.slice a' c.sg.length cap')).toArray] (.bool (decide c.no)) w := by
  refine enter Tryz.func84 rfl (Mem.nil w []) rfl ?_
  have hmm : c.no ↔ c.sd = 0 ∧ c.ep = 0 ∧ c.ql = 0 ∧ c.en.1 = zero8 ∧ c.ro.1 = zero8 ∧ c.os.length = 0 ∧ c.sg.length = 0 := Iff.rfl
  have hno : ∀ (w' : World), Fr [] w w' → ¬ c.no → Ending.returned (.bool false) = Ending.returned (.bool (decide c.no)) ∧ Fr [] w w' := fun w' hf h => ⟨by rw [decide_eq_false h], hf⟩
  obtain ⟨r0, r1, r2, r3, r11, r19, r20⟩ := ce_rd c (.slice a c.os.length cap) (.slice a' c.sg.length cap')
  generalize ceC c (.slice a c.os.length cap) (.slice a' c.sg.length cap') = F at *
  generalize c.os.length = n1 at *
  generalize c.sg.length = n2 at *
  refine z_ ?_
  refine Run.nw nbx ?_
  intro b1
  by_cases h0 : ¬ (c.sd = 0)
  · refine x_ ?_
    exact RQ.ret1 rfl (Res.tmp rfl) fun w' hm => hno w' hm.fr (fun h => by have := hmm.1 h; omega)
  have h0 := Decidable.not_not.1 h0
  by_cases h1 : ¬ (c.ep = 0)
  · refine x_ ?_
    exact RQ.ret1 rfl (Res.tmp rfl) fun w' hm => hno w' hm.fr (fun h => by have := hmm.1 h; omega)
  have h1 := Decidable.not_not.1 h1
  by_cases h2 : ¬ (c.ql = 0)
  · refine x_ ?_
    exact RQ.ret1 rfl (Res.tmp rfl) fun w' hm => hno w' hm.fr (fun h => by have := hmm.1 h; omega)
  have h2 := Decidable.not_not.1 h2
  by_cases h3 : c.en.1 = zero8
  rotate_left
  · refine x_ ?_
    refine Run.a (Val.eq (Val.eqU (m := 8) (a := c.en.1) (b := zero8) tabOk rfl rfl rfl (by kernel_rfl) (by kernel_rfl) rfl rfl c.en.2.1 rfl) (show _ = Value.bool false from by rw [decide_eq_false h3])) ?_
    refine x_ ?_
    exact RQ.ret1 rfl (Res.tmp rfl) fun w' hm => hno w' hm.fr (fun h => h3 (hmm.1 h).2.2.2.1)
  by_cases h4 : c.ro.1 = zero8
  rotate_left
  · refine x_ ?_
    refine Run.a (Val.eq (Val.eqU (m := 8) (a := c.en.1) (b := zero8) tabOk rfl rfl rfl (by kernel_rfl) (by kernel_rfl) rfl rfl c.en.2.1 rfl) (show _ = Value.bool true from by rw [decide_eq_true h3])) ?_
    refine x_ ?_
    refine Run.a (Val.eq (Val.eqU (m := 8) (a := c.ro.1) (b := zero8) tabOk rfl rfl rfl (by kernel_rfl) (by kernel_rfl) rfl rfl c.ro.2.1 rfl) (show _ = Value.bool false from by rw [decide_eq_false h4])) ?_
    refine x_ ?_
    exact RQ.ret1 rfl (Res.tmp rfl) fun w' hm => hno w' hm.fr (fun h => h4 (hmm.1 h).2.2.2.2.1)
  refine x_ ?_
  refine Run.a (Val.eq (Val.eqU (m := 8) (a := c.en.1) (b := zero8) tabOk rfl rfl rfl (by kernel_rfl) (by kernel_rfl) rfl rfl c.en.2.1 rfl) (show _ = Value.bool true from by rw [decide_eq_true h3])) ?_
  refine x_ ?_
  refine Run.a (Val.eq (Val.eqU (m := 8) (a := c.ro.1) (b := zero8) tabOk rfl rfl rfl (by kernel_rfl) (by kernel_rfl) rfl rfl c.ro.2.1 rfl) (show _ = Value.bool true from by rw [decide_eq_true h4])) ?_
  by_cases h5 : ¬ (n1 = 0)
  · refine x_ ?_
    exact RQ.ret1 rfl (Res.tmp rfl) fun w' hm => hno w' hm.fr (fun h => by have := hmm.1 h; omega)
  have h5 := Decidable.not_not.1 h5
  by_cases h6 : ¬ (n2 = 0)
  · refine x_ ?_
    exact RQ.ret1 rfl (Res.tmp rfl) fun w' hm => hno w' hm.fr (fun h => by have := hmm.1 h; omega)
  have h6 := Decidable.not_not.1 h6
  refine x_ ?_
  exact RQ.ret1 rfl (Res.tmp rfl) fun w' hm => ⟨by rw [decide_eq_true (hmm.2 ⟨h0, h1, h2, h3, h4, h5, h6⟩)]; rfl, hm.fr⟩
set_option maxRecDepth 10000 in set_option maxHeartbeats 4000000 in
theorem RMayForward_calls (l : FoD) (w : World) : Gives Tryz.prog 133 [.agg l.c.toArray] (.bool (decide l.may)) w := by
  refine enter Tryz.func133 rfl (Mem.nil w []) rfl ?_
  obtain ⟨r0, r1, r2, r10⟩ := fo_rd l
  have c1 : Knows Tryz.prog w 132 [.agg (u8s l.o.1).toArray] (.bool (decide (l.o.1 = List.replicate 8 0))) := Knows.mk Tryz.func132 (fun w' _ => ref_Zero_calls l.o.1 l.o.2.1 w')
  have hmm : l.may ↔ (0 ≤ l.sd ∧ l.sd ≤ 7) ∧ (0 ≤ l.ac ∧ l.ac ≤ 65535) ∧ l.o.1 ≠ List.replicate 8 0 ∧ 1 ≤ l.am ∧ l.am ≤ 1125899906842624 := Iff.rfl
  have hno : ∀ (w' : World), Fr [] w w' → ¬ l.may → Ending.returned (.bool false) = Ending.returned (.bool (decide l.may)) ∧ Fr [] w w' := fun w' hf h => ⟨by rw [decide_eq_false h], hf⟩
  generalize l.c = F at r0 r1 r2 r10 ⊢
  refine z_ ?_
  refine Run.nw nbx ?_
  intro b1
  by_cases h0 : ¬ (0 ≤ l.sd)
  · refine x_ ?_
    exact RQ.ret1 rfl (Res.tmp rfl) fun w' hm => hno w' hm.fr (fun h => by have := hmm.1 h; omega)
  have h0 := Decidable.not_not.1 h0
  by_cases h1 : ¬ (l.sd < 8)
  · refine x_ ?_
    exact RQ.ret1 rfl (Res.tmp rfl) fun w' hm => hno w' hm.fr (fun h => by have := hmm.1 h; omega)
  have h1 := Decidable.not_not.1 h1
  by_cases h2 : ¬ (0 ≤ l.ac)
  · refine x_ ?_
    exact RQ.ret1 rfl (Res.tmp rfl) fun w' hm => hno w' hm.fr (fun h => by have := hmm.1 h; omega)
  have h2 := Decidable.not_not.1 h2
  by_cases h3 : ¬ (l.ac < 65536)
  · refine x_ ?_
    exact RQ.ret1 rfl (Res.tmp rfl) fun w' hm => hno w' hm.fr (fun h => by have := hmm.1 h; omega)
  have h3 := Decidable.not_not.1 h3
  by_cases hz : l.o.1 = List.replicate 8 0
  · rw [decide_eq_true hz] at c1
    refine x_ ?_
    exact RQ.ret1 rfl (Res.tmp rfl) fun w' hm => hno w' hm.fr (fun h => (hmm.1 h).2.2.1 hz)
  rw [decide_eq_false hz] at c1
  by_cases h5 : ¬ (1 ≤ l.am)
  · refine x_ ?_
    exact RQ.ret1 rfl (Res.tmp rfl) fun w' hm => hno w' hm.fr (fun h => by have := hmm.1 h; omega)
  have h5 := Decidable.not_not.1 h5
  have e : decide l.may = decide (l.am ≤ 1125899906842624) := decide_eq_decide.2 ⟨fun h => (hmm.1 h).2.2.2.2, fun h8 => hmm.2 ⟨⟨h0, by omega⟩, ⟨h2, by omega⟩, hz, h5, h8⟩⟩
  refine x_ ?_
  exact RQ.ret1 rfl (Res.tmp rfl) fun w' hm => ⟨by rw [e]; rfl, hm.fr⟩
end Go.Proofs.YtfoeakgnkfcbjaaGreatDoor

/- tx: what is read of a transaction; the reference's MayCert, mayPay. -/
namespace Go.Proofs.YtfoeakgnkfcbjaaGreatDoor
attribute [local irreducible] Go.Vc.Run Go.Vc.RC Go.Vc.RQ Go.Vc.DR Go.Vc.DOp Go.Vc.Knows Go.Vc.At
set_option maxHeartbeats 400000
open Go Go.Vc Go.Sha
theorem prC_len (p : PrD) (v : Value) : (prC p v).length = 4 := rfl
theorem ceC_len (c : CeD) (v v' : Value) : (ceC c v v').length = 21 := by
  unfold ceC
  simp only [List.length_cons, List.length_append, u8s_len, c.en.2.1, c.ro.2.1, List.length_nil]
theorem txC_len (t : TxD) (v : TxV) : (txC t v).length = 170 := by
  unfold txC
  simp only [List.length_cons, List.length_append, prC_len, ceC_len, t.l.len]
/-- Its slices stand there. -/
structure TxAt (w : World) (t : TxD) (v : TxV) : Prop where
  i : SrcW w 298 (.slice v.aI t.is.length v.cI) t.is.length (rws InD.c t.is)
  o : SrcW w 9 (.slice v.aO t.os.length v.cO) t.os.length (rws OutD.c t.os)
  f : SrcW w 11 (.slice v.aF t.fs.length v.cF) t.fs.length (rws FoD.c t.fs)
  k : SrcW w 8 (.slice v.aK t.p.ks.length v.cK) t.p.ks.length (u8s (t.p.ks.map (·.1)).flatten)
  a : SrcW w 9 (.slice v.aA t.c.os.length v.cA) t.c.os.length (rws OutD.c t.c.os)
  s : SrcW w 282 (.slice v.aS t.c.sg.length v.cS) t.c.sg.length (rws SgD.c t.c.sg)
theorem TxAt.fr {w w' : World} {t : TxD} {v : TxV} (h : TxAt w t v) (hf : Fr [] w w') : TxAt w' t v := ⟨h.i.fr hf, h.o.fr hf, h.f.fr hf, h.k.fr hf, h.a.fr hf, h.s.fr hf⟩
/-- Its lists are not long. -/
def TxLn (t : TxD) : Prop := t.is.length ≤ 4096 ∧ t.os.length ≤ 4096 ∧ t.fs.length ≤ 4096 ∧ t.p.ks.length ≤ 4096 ∧ t.c.os.length ≤ 4096 ∧ t.c.sg.length ≤ 4096
structure TxRd (t : TxD) (v : TxV) (F : List Value) : Prop where
  kd : rdAt ti3 F.toArray 0 = some (.int .i64 t.kd)
  ht : rdAt ti3 F.toArray 1 = some (.int .i64 t.ht)
  i : rdAt ti49 F.toArray 2 = some (.slice v.aI t.is.length v.cI)
  o : rdAt ti50 F.toArray 3 = some (.slice v.aO t.os.length v.cO)
  f : rdAt ti51 F.toArray 4 = some (.slice v.aF t.fs.length v.cF)
  p : rdAt ti54 F.toArray 5 = some (.agg (prC t.p (.slice v.aK t.p.ks.length v.cK)).toArray)
  k : rdAt ti52 F.toArray 8 = some (.slice v.aK t.p.ks.length v.cK)
  c : rdAt ti57 F.toArray 9 = some (.agg (ceC t.c (.slice v.aA t.c.os.length v.cA) (.slice v.aS t.c.sg.length v.cS)).toArray)
  ep : rdAt ti3 F.toArray 10 = some (.int .i64 t.c.ep)
  en : rdAt ti23 F.toArray 12 = some (.agg (u8s t.c.en.1).toArray)
  a : rdAt ti50 F.toArray 28 = some (.slice v.aA t.c.os.length v.cA)
  s : rdAt ti55 F.toArray 29 = some (.slice v.aS t.c.sg.length v.cS)
  l : rdAt ti62 F.toArray 30 = some (.agg t.l.c.toArray)
theorem rd_one {ti : TI} (ha : TypeDesc.agg ti.desc = false) {F : List Value} {off : Nat} {v : Value} (h : F[off]? = some v) : rdAt ti F.toArray off = some v := by
  unfold rdAt
  rw [ha, cond_false, List.getElem?_toArray]
  exact h
theorem rd_mid {ti : TI} {F pre cs post : List Value} {off : Nat} (e : F = pre ++ (cs ++ post)) (ho : pre.length = off) (hl : cs.length = ti.size) (hz : 0 < ti.size) (ha : TypeDesc.agg ti.desc = true) : rdAt ti F.toArray off = some (.agg cs.toArray) :=
  rd_agg (fun j u hj => by
    rw [e, List.getElem?_toArray, List.getElem?_append_right (by omega), ← ho, Nat.add_sub_cancel_left, List.getElem?_append_left (List.getElem?_eq_some_iff.1 hj).1]
    exact hj) hl hz ha
theorem at_mid {F pre post : List Value} {off : Nat} {v : Value} (e : F = pre ++ (v :: post)) (ho : pre.length = off) : F[off]? = some v := by
  rw [e, List.getElem?_append_right (by omega), ho, Nat.sub_self]; rfl
def tx5 (t : TxD) (v : TxV) : List Value := [.int .i64 t.kd, .int .i64 t.ht, .slice v.aI t.is.length v.cI, .slice v.aO t.os.length v.cO, .slice v.aF t.fs.length v.cF]
theorem txC_eq (t : TxD) (v : TxV) : txC t v = tx5 t v ++ (prC t.p (.slice v.aK t.p.ks.length v.cK) ++ (ceC t.c (.slice v.aA t.c.os.length v.cA) (.slice v.aS t.c.sg.length v.cS) ++ t.l.c)) := rfl
theorem tx_rd (t : TxD) (v : TxV) : TxRd t v (txC t v) := by
  have hp : (tx5 t v).length = 5 := rfl
  have e9 : txC t v = (tx5 t v ++ prC t.p (Value.slice v.aK t.p.ks.length v.cK)) ++ (ceC t.c (Value.slice v.aA t.c.os.length v.cA) (Value.slice v.aS t.c.sg.length v.cS) ++ t.l.c) := by rw [txC_eq, List.append_assoc]
  have e12 : txC t v = (tx5 t v ++ (prC t.p (Value.slice v.aK t.p.ks.length v.cK) ++ [Value.int .i64 t.c.sd, Value.int .i64 t.c.ep, Value.int .i64 t.c.ql])) ++ (u8s t.c.en.1 ++ (u8s t.c.ro.1 ++ ([Value.slice v.aA t.c.os.length v.cA, Value.slice v.aS t.c.sg.length v.cS] ++ t.l.c))) := by
    rw [txC_eq]; unfold ceC; simp only [List.append_assoc, List.cons_append, List.nil_append]
  have e28 : txC t v = (tx5 t v ++ (prC t.p (Value.slice v.aK t.p.ks.length v.cK) ++ (Value.int .i64 t.c.sd :: Value.int .i64 t.c.ep :: Value.int .i64 t.c.ql :: (u8s t.c.en.1 ++ u8s t.c.ro.1)))) ++ (Value.slice v.aA t.c.os.length v.cA :: (Value.slice v.aS t.c.sg.length v.cS :: t.l.c)) := by
    rw [txC_eq]; unfold ceC; simp only [List.append_assoc, List.cons_append, List.nil_append]
  have e29 : txC t v = (tx5 t v ++ (prC t.p (Value.slice v.aK t.p.ks.length v.cK) ++ (Value.int .i64 t.c.sd :: Value.int .i64 t.c.ep :: Value.int .i64 t.c.ql :: (u8s t.c.en.1 ++ (u8s t.c.ro.1 ++ [Value.slice v.aA t.c.os.length v.cA]))))) ++ (Value.slice v.aS t.c.sg.length v.cS :: t.l.c) := by
    rw [txC_eq]; unfold ceC; simp only [List.append_assoc, List.cons_append, List.nil_append]
  have e30 : txC t v = (tx5 t v ++ (prC t.p (Value.slice v.aK t.p.ks.length v.cK) ++ ceC t.c (Value.slice v.aA t.c.os.length v.cA) (Value.slice v.aS t.c.sg.length v.cS))) ++ (t.l.c ++ []) := by rw [txC_eq, List.append_nil, List.append_assoc, List.append_assoc]
  have l9 : (tx5 t v ++ prC t.p (Value.slice v.aK t.p.ks.length v.cK)).length = 9 := rfl
  have l12 : (tx5 t v ++ (prC t.p (Value.slice v.aK t.p.ks.length v.cK) ++ [Value.int .i64 t.c.sd, Value.int .i64 t.c.ep, Value.int .i64 t.c.ql])).length = 12 := rfl
  have l28 : (tx5 t v ++ (prC t.p (Value.slice v.aK t.p.ks.length v.cK) ++ (Value.int .i64 t.c.sd :: Value.int .i64 t.c.ep :: Value.int .i64 t.c.ql :: (u8s t.c.en.1 ++ u8s t.c.ro.1)))).length = 28 := by
    simp only [List.length_append, List.length_cons, hp, prC_len, u8s_len, t.c.en.2.1, t.c.ro.2.1]
  have l29 : (tx5 t v ++ (prC t.p (Value.slice v.aK t.p.ks.length v.cK) ++ (Value.int .i64 t.c.sd :: Value.int .i64 t.c.ep :: Value.int .i64 t.c.ql :: (u8s t.c.en.1 ++ (u8s t.c.ro.1 ++ [Value.slice v.aA t.c.os.length v.cA]))))).length = 29 := by
    simp only [List.length_append, List.length_cons, List.length_nil, hp, prC_len, u8s_len, t.c.en.2.1, t.c.ro.2.1]
  have l30 : (tx5 t v ++ (prC t.p (Value.slice v.aK t.p.ks.length v.cK) ++ ceC t.c (Value.slice v.aA t.c.os.length v.cA) (Value.slice v.aS t.c.sg.length v.cS))).length = 30 := by
    simp only [List.length_append, hp, prC_len, ceC_len]
  exact ⟨rd_one rfl rfl, rd_one rfl rfl, rd_one rfl rfl, rd_one rfl rfl, rd_one rfl rfl, rd_mid (txC_eq t v) hp rfl (by decide) rfl, rd_one rfl rfl, rd_mid e9 l9 (ceC_len _ _ _) (by decide) rfl, rd_one rfl rfl, rd_mid e12 l12 (by rw [u8s_len, t.c.en.2.1]; rfl) (by decide) rfl, rd_one rfl (at_mid e28 l28), rd_one rfl (at_mid e29 l29), rd_mid e30 l30 t.l.len (by decide) rfl⟩
theorem ks_HL (l : List (By 8)) : HL (l.map (·.1)) := fun x hx => by
  obtain ⟨y, _, rfl⟩ := List.mem_map.1 hx
  exact y.2
set_option maxRecDepth 10000 in set_option maxHeartbeats 4000000 in
theorem RMayCert_calls (c : CeD) (hlo : c.os.length ≤ 4096) (hls : c.sg.length ≤ 4096) (vO : Value) (aA : Option Addr) (cA : Nat) (w : World) (hO : SrcW w 9 vO c.os.length (rws OutD.c c.os)) (hs : SrcW w 282 (.slice aA c.sg.length cA) c.sg.length (rws SgD.c c.sg)) : Gives Tryz.prog 88 [.agg (ceC c vO (.slice aA c.sg.length cA)).toArray] (.bool (decide c.may)) w := by
  refine enter Tryz.func88 rfl (Mem.nil w []) rfl ?_
  obtain ⟨r0, r1, r2, r3, r11, r19, r20⟩ := ce_rd c vO (.slice aA c.sg.length cA)
  generalize ceC c vO (.slice aA c.sg.length cA) = F at r0 r1 r2 r3 r11 r19 r20 ⊢
  have hno' : (∃ s ∈ c.sg, ¬ s.may) → decide c.may = false := fun ⟨s, h1, h2⟩ => decide_eq_false fun hm => h2 (hm.1 s h1)
  have hmm : c.may ↔ (∀ s ∈ c.sg, s.may) ∧ ((0 ≤ c.sd ∧ c.sd ≤ 7) ∧ (0 ≤ c.ep ∧ c.ep ≤ 400) ∧ (0 ≤ c.ql ∧ c.ql ≤ 2147483647)) ∧ mayO c.os ∧ (1 ≤ c.sg.length ∧ c.sg.length ≤ 5) := Iff.rfl
  have hno : ∀ (w' : World), Fr [] w w' → ¬ c.may → Ending.returned (.bool false) = Ending.returned (.bool (decide c.may)) ∧ Fr [] w w' := fun w' hf h => ⟨by rw [decide_eq_false h], hf⟩
  have d4 : Knows Tryz.prog w 85 [vO] (.bool (decide (mayO c.os))) := Knows.mk Tryz.func85 (fun w' hf => RMayOuts_calls c.os (by omega) vO w' (hO.fr hf))
  clear hO
  refine z_ ?_
  refine Run.nw nbx ?_
  intro b1
  refine x_ ?_
  by_cases h0 : c.sd < 0
  · refine x_ ?_
    exact RQ.ret1 rfl (Res.tmp rfl) fun w' hm => hno w' hm.fr (fun h => by have := hmm.1 h; omega)
  refine x_ ?_
  by_cases h1 : 8 ≤ c.sd
  · refine x_ ?_
    exact RQ.ret1 rfl (Res.tmp rfl) fun w' hm => hno w' hm.fr (fun h => by have := hmm.1 h; omega)
  refine x_ ?_
  by_cases h2 : c.ep < 0
  · refine x_ ?_
    exact RQ.ret1 rfl (Res.tmp rfl) fun w' hm => hno w' hm.fr (fun h => by have := hmm.1 h; omega)
  refine x_ ?_
  by_cases h3 : 400 < c.ep
  · refine x_ ?_
    exact RQ.ret1 rfl (Res.tmp rfl) fun w' hm => hno w' hm.fr (fun h => by have := hmm.1 h; omega)
  refine x_ ?_
  by_cases h4 : c.ql < 0
  · refine x_ ?_
    exact RQ.ret1 rfl (Res.tmp rfl) fun w' hm => hno w' hm.fr (fun h => by have := hmm.1 h; omega)
  refine x_ ?_
  by_cases h5 : 2147483647 < c.ql
  · refine x_ ?_
    exact RQ.ret1 rfl (Res.tmp rfl) fun w' hm => hno w' hm.fr (fun h => by have := hmm.1 h; omega)
  refine x_ ?_
  by_cases hmo : ¬ mayO c.os
  · rw [decide_eq_false hmo] at d4
    refine x_ ?_
    exact RQ.ret1 rfl (Res.tmp rfl) fun w' hm => hno w' hm.fr (fun h => hmo (hmm.1 h).2.2.1)
  have hmo := Decidable.not_not.1 hmo
  rw [decide_eq_true hmo] at d4
  refine x_ ?_
  by_cases h6 : c.sg.length < 1
  · refine x_ ?_
    exact RQ.ret1 rfl (Res.tmp rfl) fun w' hm => hno w' hm.fr (fun h => by have := hmm.1 h; omega)
  refine x_ ?_
  by_cases h7 : 5 < c.sg.length
  · refine x_ ?_
    exact RQ.ret1 rfl (Res.tmp rfl) fun w' hm => hno w' hm.fr (fun h => by have := hmm.1 h; omega)
  refine x_ ?_
  refine RC.up c.sg.length (D := Unit) (fun k _ => ∀ o ∈ c.sg.take k, o.may) (fun k _ => [(3, .int .i64 k), (1, .pointer (some ⟨b1, 0, none⟩))]) (fun _ _ => [(b1, Obj.cells F.toArray 57 (0, 0))]) 0 () (Nat.zero_le _) (by simp) ⟨rfl, rfl, trivial⟩ (List.Sublist.refl _) ?_
  intro k _ hk hin
  refine x_ ?_
  (repeat refine RC.seq ?_); refine RC.wh rfl (fun h => RQ.next ?_) (fun h => ?_)
  · have hk' : k < c.sg.length := by have := of_decide_eq_true h; omega
    clear h
    obtain ⟨p, hx⟩ : ∃ p, c.sg[k]? = some p := ⟨_, List.getElem?_eq_getElem hk'⟩
    obtain ⟨ad, c', hv', hc', hcl, hr⟩ := hs.pos (by omega)
    cases hv'
    have l0 : w.cell? ((ad.add (k * 282)).add 0) = some (.int .i64 p.k) := by rw [add_add]; exact hr _ _ (rws_at SgD.len hx 0 _ rfl)
    have l1 : w.cell? (((ad.add (k * 282)).add 1).add 0) = some (.int .i64 p.s.z) := by rw [add_add, add_add]; exact hr _ _ (rws_at SgD.len hx 1 _ rfl)
    have hpm : p.may ↔ (0 ≤ p.k ∧ p.k ≤ 4) ∧ (0 ≤ p.s.z ∧ p.s.z ≤ 255) := Iff.rfl
    have hnp : ∀ (w' : World), Fr [] w w' → ¬ p.may → Ending.returned (.bool false) = Ending.returned (.bool (decide c.may)) ∧ Fr [] w w' := fun w' hf h => hno w' hf (fun hm => h (hm.1 p (List.mem_of_getElem? hx)))
    refine x_ ?_
    by_cases g0 : p.k < 0
    · refine x_ ?_
      exact RQ.ret1 rfl (Res.tmp rfl) fun w' hm => hnp w' hm.fr (fun h => by have := hpm.1 h; omega)
    refine x_ ?_
    by_cases g1 : 5 ≤ p.k
    · refine x_ ?_
      exact RQ.ret1 rfl (Res.tmp rfl) fun w' hm => hnp w' hm.fr (fun h => by have := hpm.1 h; omega)
    refine x_ ?_
    by_cases g2 : p.s.z < 0
    · refine x_ ?_
      exact RQ.ret1 rfl (Res.tmp rfl) fun w' hm => hnp w' hm.fr (fun h => by have := hpm.1 h; omega)
    refine x_ ?_
    by_cases g3 : 255 < p.s.z
    · refine x_ ?_
      exact RQ.ret1 rfl (Res.tmp rfl) fun w' hm => hnp w' hm.fr (fun h => by have := hpm.1 h; omega)
    refine x_ ?_
    exact RQ.up (k + 1) () (Nat.lt_succ_self _) hk' (take_all hx hin (hpm.2 (by omega))) ⟨rfl, rfl, trivial⟩ (by repeat (first | exact List.nil_sublist _ | exact List.Sublist.refl _ | apply List.Sublist.cons_cons | apply List.Sublist.cons | apply Go.Vc.subApp))
  · have hk' : k = c.sg.length := by have := of_decide_eq_false h; omega
    clear h
    subst hk'
    rw [List.take_length] at hin
    (repeat refine RQ.thenExit ?_); refine RQ.blockHere ?_
    refine x_ ?_
    exact RQ.ret1 rfl (Res.tmp rfl) fun w' hm => ⟨by rw [decide_eq_true (hmm.2 ⟨hin, by omega, hmo, by omega⟩)], hm.fr⟩
end Go.Proofs.YtfoeakgnkfcbjaaGreatDoor

/- tx: the reference's mayPay (gen_txm.py prints it). -/
namespace Go.Proofs.YtfoeakgnkfcbjaaGreatDoor
attribute [local irreducible] Go.Vc.Run Go.Vc.RC Go.Vc.RQ Go.Vc.DR Go.Vc.DOp Go.Vc.Knows Go.Vc.At
set_option maxHeartbeats 400000
open Go Go.Vc Go.Sha
/-- Where an input comes from. -/
def InD.pt (x : InD) : List Value := u8s x.tx.1 ++ [.int .i64 x.i]
theorem InD.pt_len (x : InD) : x.pt.length = 9 := by unfold InD.pt; rw [List.length_append, u8s_len, x.tx.2.1]; rfl
theorem InD.pt_k (x : InD) : HasK (List.replicate 8 .u8 ++ [.i64]) x.pt := (HasK.u8n x.tx.2.1).append (.cons .i64 x.i .nil)
theorem InD.pt_iff (x y : InD) : x.fr = y.fr ↔ x.pt = y.pt := by
  unfold InD.fr InD.pt
  constructor
  · intro h
    rw [Prod.mk.injEq] at h
    rw [h.1, h.2]
  · intro h
    obtain ⟨h1, h2⟩ := List.append_inj h (by rw [u8s_len, u8s_len, x.tx.2.1, y.tx.2.1])
    simp only [List.cons.injEq, Value.int.injEq, true_and, and_true] at h2
    rw [u8s_inj.1 h1, h2]
theorem InD.c_pt (x : InD) : x.c = x.pt ++ (u8s x.key.1 ++ x.s.c) := by unfold InD.c InD.pt; simp only [List.append_assoc, List.cons_append, List.nil_append]
structure InRd (x : InD) (F : List Value) : Prop where
  pt : rdAt ti168 F.toArray 0 = some (.agg x.pt.toArray)
  tx : rdAt ti23 F.toArray 0 = some (.agg (u8s x.tx.1).toArray)
  i : rdAt ti3 F.toArray 8 = some (.int .i64 x.i)
  k : rdAt ti23 F.toArray 9 = some (.agg (u8s x.key.1).toArray)
  z : rdAt ti3 F.toArray 17 = some (.int .i64 x.s.z)
  s : rdAt ti171 F.toArray 17 = some (.agg x.s.c.toArray)
theorem in_rd (x : InD) : InRd x x.c := by
  have e9 : x.c = x.pt ++ (u8s x.key.1 ++ x.s.c) := x.c_pt
  have e8 : x.c = u8s x.tx.1 ++ (Value.int .i64 x.i :: (u8s x.key.1 ++ x.s.c)) := rfl
  have e17 : x.c = (x.pt ++ u8s x.key.1) ++ (x.s.c ++ []) := by rw [e9, List.append_nil, List.append_assoc]
  have l8 : (u8s x.tx.1).length = 8 := by rw [u8s_len, x.tx.2.1]
  have l17 : (x.pt ++ u8s x.key.1).length = 17 := by rw [List.length_append, x.pt_len, u8s_len, x.key.2.1]
  have e17' : x.c = (x.pt ++ u8s x.key.1) ++ (Value.int .i64 x.s.z :: (u8s x.s.op.1 ++ (u8s x.s.sh.1 ++ u8s x.s.pa.1))) := by
    rw [e17, List.append_nil]; unfold SigD.c sigC; simp only [List.append_assoc]
  exact ⟨rd_mid (pre := []) (by rw [List.nil_append]; exact e9) rfl x.pt_len (by decide) rfl, rd_mid (pre := []) (by rw [List.nil_append]; exact e8) rfl l8 (by decide) rfl, rd_one rfl (at_mid e8 l8), rd_mid e9 x.pt_len (by rw [u8s_len, x.key.2.1]; rfl) (by decide) rfl, rd_one rfl (at_mid e17' l17), rd_mid e17 l17 x.s.len (by decide) rfl⟩
instance (x : InD) : Decidable x.may := by unfold InD.may; infer_instance
noncomputable instance (l : List InD) : Decidable (mayI l) := Classical.propDecidable _
/-- What a payment must be. -/
def PayM (t : TxD) : Prop := mayI t.is ∧ mayO t.os ∧ mayF t.fs ∧ 0 < t.os.length + t.fs.length
noncomputable instance (t : TxD) : Decidable (PayM t) := Classical.propDecidable _
theorem fr_twice {l : List InD} {i j : Nat} {x y : InD} (hx : l[i]? = some x) (hy : l[j]? = some y) (hji : j < i) (h : y.fr = x.fr) : ¬ (l.map InD.fr).Nodup := fun hn => by
  have h1 := (List.getElem?_eq_some_iff.1 hx)
  have h2 := (List.getElem?_eq_some_iff.1 hy)
  have := (List.getElem?_inj (i := j) (j := i) (by rw [List.length_map]; exact h2.1) hn).1 (by rw [List.getElem?_map, List.getElem?_map, hx, hy, Option.map_some, Option.map_some, h])
  omega
theorem fr_step {l : List InD} {i : Nat} {x : InD} (hx : l[i]? = some x) (h : ((l.take i).map InD.fr).Nodup) (hn : ∀ j, j < i → ∀ y, l[j]? = some y → y.fr ≠ x.fr) : ((l.take (i + 1)).map InD.fr).Nodup := by
  rw [List.take_add_one, hx, List.map_append]
  refine List.nodup_append.2 ⟨h, by simp, ?_⟩
  intro a ha b hb e
  obtain ⟨y, hy, rfl⟩ := List.mem_map.1 ha
  rw [show b = x.fr from by simpa using hb] at e
  obtain ⟨j, hj⟩ := List.mem_iff_getElem?.1 hy
  have hj2 := (List.getElem?_eq_some_iff.1 hj).1
  rw [List.length_take] at hj2
  rw [List.getElem?_take] at hj
  split at hj
  · exact hn j (by omega) y hj e
  · cases hj
set_option maxRecDepth 10000 in set_option maxHeartbeats 4000000 in
theorem RmayPay_calls (t : TxD) (v : TxV) (hln : TxLn t) (w : World) (ht : TxAt w t v) : Gives Tryz.prog 86 [.agg (txC t v).toArray] (.bool (decide (PayM t))) w := by
  refine enter Tryz.func86 rfl (Mem.nil w []) rfl ?_
  obtain ⟨l1, l2, l3, l4, l5, l6⟩ := hln
  obtain ⟨_, _, ri, ro, rf, _, _, _, _, _, _, _, _⟩ := tx_rd t v
  generalize txC t v = F at ri ro rf ⊢
  have hmm : PayM t ↔ mayI t.is ∧ mayO t.os ∧ mayF t.fs ∧ 0 < t.os.length + t.fs.length := Iff.rfl
  have hno : ∀ (w' : World), Fr [] w w' → ¬ PayM t → Ending.returned (.bool false) = Ending.returned (.bool (decide (PayM t))) ∧ Fr [] w w' := fun w' hf h => ⟨by rw [decide_eq_false h], hf⟩
  have d4 : Knows Tryz.prog w 85 [.slice v.aO t.os.length v.cO] (.bool (decide (mayO t.os))) := Knows.mk Tryz.func85 (fun w' hf => RMayOuts_calls t.os (by omega) _ w' (ht.o.fr hf))
  refine z_ ?_
  refine Run.nw nbx ?_
  intro b1
  refine x_ ?_
  by_cases h0 : t.is.length < 1
  · refine x_ ?_
    exact RQ.ret1 rfl (Res.tmp rfl) fun w' hm => hno w' hm.fr (fun h => by have h := hmm.1 h; have h1 := h.1.2.2; have h2 := h.2.2.1.2; have h3 := h.2.2.2; omega)
  refine x_ ?_
  by_cases h1 : 8 < t.is.length
  · refine x_ ?_
    exact RQ.ret1 rfl (Res.tmp rfl) fun w' hm => hno w' hm.fr (fun h => by have h := hmm.1 h; have h1 := h.1.2.2; have h2 := h.2.2.1.2; have h3 := h.2.2.2; omega)
  refine x_ ?_
  by_cases h2 : 16 < t.fs.length
  · refine x_ ?_
    exact RQ.ret1 rfl (Res.tmp rfl) fun w' hm => hno w' hm.fr (fun h => by have h := hmm.1 h; have h1 := h.1.2.2; have h2 := h.2.2.1.2; have h3 := h.2.2.2; omega)
  refine x_ ?_
  by_cases h3 : t.os.length + t.fs.length = 0
  · refine x_ ?_
    exact RQ.ret1 rfl (Res.tmp rfl) fun w' hm => hno w' hm.fr (fun h => by have h := hmm.1 h; have h1 := h.1.2.2; have h2 := h.2.2.1.2; have h3 := h.2.2.2; omega)
  refine x_ ?_
  by_cases hmo : ¬ mayO t.os
  · rw [decide_eq_false hmo] at d4
    refine x_ ?_
    exact RQ.ret1 rfl (Res.tmp rfl) fun w' hm => hno w' hm.fr (fun h => hmo (hmm.1 h).2.1)
  have hmo := Decidable.not_not.1 hmo
  rw [decide_eq_true hmo] at d4
  refine x_ ?_
  refine RC.up t.is.length (D := Unit) (fun k _ => (∀ o ∈ t.is.take k, o.may) ∧ ((t.is.take k).map InD.fr).Nodup) (fun k _ => [(3, .int .i64 k), (1, .pointer (some ⟨b1, 0, none⟩))]) (fun _ _ => [(b1, Obj.cells F.toArray 64 (0, 0))]) 0 () (Nat.zero_le _) (by simp) ⟨rfl, rfl, trivial⟩ (List.Sublist.refl _) ?_
  rintro k _ hk ⟨hin, hnd⟩
  refine x_ ?_
  (repeat refine RC.seq ?_); refine RC.wh rfl (fun h => RQ.next ?_) (fun h => ?_)
  · have hk' : k < t.is.length := by have := of_decide_eq_true h; omega
    clear h
    obtain ⟨x, hx⟩ : ∃ p, t.is[k]? = some p := ⟨_, List.getElem?_eq_getElem hk'⟩
    obtain ⟨ad, c', hv', hc', hcl, hr⟩ := ht.i.pos (by omega)
    rw [hv'] at ri
    have q1 : At w (ad.add (k * 298)) x.c := At.mk fun j u hj => by rw [add_add]; exact hr _ u (rws_at InD.len hx j u hj)
    have hxl := x.len
    have n1 := x.one
    obtain ⟨qp, _, qi, _, qz, _⟩ := in_rd x
    have hpm : x.may ↔ (0 ≤ x.i ∧ x.i ≤ 255) ∧ (0 ≤ x.s.z ∧ x.s.z ≤ 255) := Iff.rfl
    have hnp : ∀ (w' : World), Fr [] w w' → ¬ x.may → Ending.returned (.bool false) = Ending.returned (.bool (decide (PayM t))) ∧ Fr [] w w' := fun w' hf h => hno w' hf (fun hm => h ((hmm.1 hm).1.1 x (List.mem_of_getElem? hx)))
    generalize x.c = G at q1 hxl n1 qp qi qz
    refine x_ ?_
    refine Run.nw nal ?_
    intro b4
    refine x_ ?_
    refine Run.op1 (osa (arr := ti173.zero.cells) G.toArray n1 (hs := by rw [List.size_toArray, hxl]; rfl)) (fun _ => ?_)
    refine x_ ?_
    by_cases g0 : x.i < 0
    · refine x_ ?_
      exact RQ.ret1 rfl (Res.tmp rfl) fun w' hm => hnp w' hm.fr (fun h => by have := hpm.1 h; omega)
    refine x_ ?_
    by_cases g1 : 255 < x.i
    · refine x_ ?_
      exact RQ.ret1 rfl (Res.tmp rfl) fun w' hm => hnp w' hm.fr (fun h => by have := hpm.1 h; omega)
    refine x_ ?_
    by_cases g2 : x.s.z < 0
    · refine x_ ?_
      exact RQ.ret1 rfl (Res.tmp rfl) fun w' hm => hnp w' hm.fr (fun h => by have := hpm.1 h; omega)
    refine x_ ?_
    by_cases g3 : 255 < x.s.z
    · refine x_ ?_
      exact RQ.ret1 rfl (Res.tmp rfl) fun w' hm => hnp w' hm.fr (fun h => by have := hpm.1 h; omega)
    refine x_ ?_
    refine RC.up k (D := Unit) (fun j _ => ∀ j', j' < j → ∀ y, t.is[j']? = some y → y.fr ≠ x.fr) (fun j _ => [(5, .int .i64 j), (3, .int .i64 k), (4, .pointer (some ⟨b4, 0, none⟩)), (1, .pointer (some ⟨b1, 0, none⟩))]) (fun _ _ => [(b4, Obj.cells G.toArray 173 (0, 0)), (b1, Obj.cells F.toArray 64 (0, 0))]) 0 () (Nat.zero_le _) (fun j h => absurd h (Nat.not_lt_zero _)) ⟨rfl, rfl, rfl, rfl, trivial⟩ (List.Sublist.refl _) ?_
    intro j _ hj hne
    refine x_ ?_
    (repeat refine RC.seq ?_); refine RC.wh rfl (fun h => RQ.next ?_) (fun h => ?_)
    · have hj' : j < k := by have := of_decide_eq_true h; omega
      clear h
      have hjl : j < t.is.length := by omega
      obtain ⟨y, hy⟩ : ∃ p, t.is[j]? = some p := ⟨_, List.getElem?_eq_getElem hjl⟩
      have q2 : At w ((ad.add (j * 298)).add 0) y.pt := At.mk fun i u hi => by
        rw [add_add, add_add]
        refine hr _ u (rws_at InD.len hy (0 + i) u ?_)
        rw [Nat.zero_add, y.c_pt, List.getElem?_append_left (List.getElem?_eq_some_iff.1 hi).1]
        exact hi
      have hyl : y.pt.length = 9 := y.pt_len
      refine x_ ?_
      (repeat refine RC.seq ?_); refine RC.drawS mixed (N := 9) rfl ?_
      refine dy 0 ?_
      refine dy 1 ?_
      refine dy 2 ?_
      refine DR.t 3 rfl (vixA) ?_
      refine DR.t 4 rfl (vfAA) ?_
      refine dy 5 ?_
      refine dy 6 ?_
      refine dy 7 ?_
      by_cases he : y.fr = x.fr
      · refine DR.t 8 rfl (Val.eqC (p := true) (ks := List.replicate 8 .u8 ++ [.i64]) tabOk rfl rfl rfl (by kernel_rfl) (by kernel_rfl) rfl rfl y.pt_k x.pt_k (by rw [← InD.pt_iff]; simp [he])) ?_
        refine DR.done (by kernel_rfl) ?_
        refine x_ ?_
        exact RQ.ret1 rfl (Res.tmp rfl) fun w' hm => hno w' hm.fr (fun h => fr_twice hx hy hj' he (hmm.1 h).1.2.1)
      · refine DR.t 8 rfl (Val.eqC (p := false) (ks := List.replicate 8 .u8 ++ [.i64]) tabOk rfl rfl rfl (by kernel_rfl) (by kernel_rfl) rfl rfl y.pt_k x.pt_k (by rw [← InD.pt_iff]; simp [he])) ?_
        refine DR.done (by kernel_rfl) ?_
        refine x_ ?_
        exact RQ.up (j + 1) () (Nat.lt_succ_self _) hj' (fun j' h' y' hy' => by
          rcases Nat.lt_succ_iff_lt_or_eq.1 h' with h' | rfl
          · exact hne j' h' y' hy'
          · rw [hy] at hy'; cases hy'; exact he) ⟨rfl, rfl, rfl, rfl, trivial⟩ (by repeat (first | exact List.nil_sublist _ | exact List.Sublist.refl _ | apply List.Sublist.cons_cons | apply List.Sublist.cons | apply Go.Vc.subApp))
    · have hj' : k = j := by have := of_decide_eq_false h; omega
      clear h
      subst hj'
      (repeat refine RQ.thenExit ?_); refine RQ.blockHere ?_
      refine x_ ?_
      exact RQ.up (k + 1) () (Nat.lt_succ_self _) hk' ⟨take_all hx hin (hpm.2 (by omega)), fr_step hx hnd hne⟩ ⟨rfl, rfl, trivial⟩ (by repeat (first | exact List.nil_sublist _ | exact List.Sublist.refl _ | apply List.Sublist.cons_cons | apply List.Sublist.cons | apply Go.Vc.subApp))
  · have hk' : k = t.is.length := by have := of_decide_eq_false h; omega
    clear h
    rw [hk', List.take_length] at hin hnd
    clear hk' hk
    have hmi : mayI t.is := ⟨hin, hnd, by omega, by omega⟩
    (repeat refine RQ.thenExit ?_); refine RQ.blockHere ?_
    refine x_ ?_
    refine RC.up t.fs.length (D := Unit) (fun k _ => ∀ o ∈ t.fs.take k, o.may) (fun k _ => [(6, .int .i64 k), (1, .pointer (some ⟨b1, 0, none⟩))]) (fun _ _ => [(b1, Obj.cells F.toArray 64 (0, 0))]) 0 () (Nat.zero_le _) (by simp) ⟨rfl, rfl, trivial⟩ (List.Sublist.refl _) ?_
    intro k _ hk hif
    refine x_ ?_
    (repeat refine RC.seq ?_); refine RC.wh rfl (fun h => RQ.next ?_) (fun h => ?_)
    · have hk' : k < t.fs.length := by have := of_decide_eq_true h; omega
      clear h
      obtain ⟨x, hx⟩ : ∃ p, t.fs[k]? = some p := ⟨_, List.getElem?_eq_getElem hk'⟩
      obtain ⟨ad, c', hv', hc', hcl, hr⟩ := ht.f.pos (by omega)
      rw [hv'] at rf
      have q1 : At w (ad.add (k * 11)) x.c := At.mk fun j u hj => by rw [add_add]; exact hr _ u (rws_at FoD.len hx j u hj)
      have hxl := x.len
      have c1 : Knows Tryz.prog w 133 [.agg x.c.toArray] (.bool (decide x.may)) := Knows.mk Tryz.func133 (fun w' _ => RMayForward_calls x w')
      generalize x.c = G at q1 hxl c1
      by_cases hm : x.may
      · rw [decide_eq_true hm] at c1
        refine x_ ?_
        exact RQ.up (k + 1) () (Nat.lt_succ_self _) hk' (take_all hx hif hm) ⟨rfl, rfl, trivial⟩ (by repeat (first | exact List.nil_sublist _ | exact List.Sublist.refl _ | apply List.Sublist.cons_cons | apply List.Sublist.cons | apply Go.Vc.subApp))
      · rw [decide_eq_false hm] at c1
        refine x_ ?_
        exact RQ.ret1 rfl (Res.tmp rfl) fun w' hm' => hno w' hm'.fr (fun h => hm ((hmm.1 h).2.2.1.1 x (List.mem_of_getElem? hx)))
    · have hk' : k = t.fs.length := by have := of_decide_eq_false h; omega
      clear h
      rw [hk', List.take_length] at hif
      (repeat refine RQ.thenExit ?_); refine RQ.blockHere ?_
      refine x_ ?_
      exact RQ.ret1 rfl (Res.tmp rfl) fun w' hm => ⟨by rw [decide_eq_true (hmm.2 ⟨hmi, hmo, ⟨hif, by omega⟩, by omega⟩)], hm.fr⟩
end Go.Proofs.YtfoeakgnkfcbjaaGreatDoor

/- tx: the reference's MayTx (gen_txn.py prints it). -/
namespace Go.Proofs.YtfoeakgnkfcbjaaGreatDoor
attribute [local irreducible] Go.Vc.Run Go.Vc.RC Go.Vc.RQ Go.Vc.DR Go.Vc.DOp Go.Vc.Knows Go.Vc.At
set_option maxHeartbeats 400000
open Go Go.Vc Go.Sha
/-- What a transaction must be, by its fields. -/
structure TxM (t : TxD) : Prop where
  e1 : t.kd ≠ 1 → t.ht = 0
  e2 : t.kd ≠ 2 → t.is.length + t.fs.length = 0
  e3 : t.kd ≠ 2 → t.kd ≠ 1 → t.os.length = 0
  e4 : t.kd ≠ 3 → t.p.no
  e5 : t.kd ≠ 4 → t.c.no
  e6 : t.kd ≠ 5 → t.l = ClD.nul
  k : 1 ≤ t.kd ∧ t.kd ≤ 5
  m1 : t.kd = 1 → (1 ≤ t.ht ∧ t.ht ≤ 400) ∧ mayO t.os
  m2 : t.kd = 2 → PayM t
  m3 : t.kd = 3 → t.p.may
  m4 : t.kd = 4 → t.c.may
  m5 : t.kd = 5 → t.l.may
theorem PrD.nul_no : PrD.nul.no := (PrD.no_iff _).2 rfl
theorem CeD.nul_no : CeD.nul.no := (CeD.no_iff _).2 rfl
theorem TxMay.iff (t : TxD) : TxMay t ↔ TxM t := by
  constructor
  · intro h
    cases h with
    | coin ht os h1 h2 => exact ⟨fun h => absurd rfl h, fun _ => rfl, fun _ h => absurd rfl h, fun _ => PrD.nul_no, fun _ => CeD.nul_no, fun _ => rfl, by show (1 : Int) ≤ 1 ∧ (1 : Int) ≤ 5; decide, fun _ => ⟨h1, h2⟩, fun h => absurd h (by show ¬ (1 : Int) = 2; decide), fun h => absurd h (by show ¬ (1 : Int) = 3; decide), fun h => absurd h (by show ¬ (1 : Int) = 4; decide), fun h => absurd h (by show ¬ (1 : Int) = 5; decide)⟩
    | pay is os fs h1 h2 h3 h4 => exact ⟨fun _ => rfl, fun h => absurd rfl h, fun h => absurd rfl h, fun _ => PrD.nul_no, fun _ => CeD.nul_no, fun _ => rfl, by show (1 : Int) ≤ 2 ∧ (2 : Int) ≤ 5; decide, fun h => absurd h (by show ¬ (2 : Int) = 1; decide), fun _ => ⟨h1, h2, h3, h4⟩, fun h => absurd h (by show ¬ (2 : Int) = 3; decide), fun h => absurd h (by show ¬ (2 : Int) = 4; decide), fun h => absurd h (by show ¬ (2 : Int) = 5; decide)⟩
    | create p h => exact ⟨fun _ => rfl, fun _ => rfl, fun _ _ => rfl, fun h => absurd rfl h, fun _ => CeD.nul_no, fun _ => rfl, by show (1 : Int) ≤ 3 ∧ (3 : Int) ≤ 5; decide, fun h => absurd h (by show ¬ (3 : Int) = 1; decide), fun h => absurd h (by show ¬ (3 : Int) = 2; decide), fun _ => h, fun h => absurd h (by show ¬ (3 : Int) = 4; decide), fun h => absurd h (by show ¬ (3 : Int) = 5; decide)⟩
    | cert c h => exact ⟨fun _ => rfl, fun _ => rfl, fun _ _ => rfl, fun _ => PrD.nul_no, fun h => absurd rfl h, fun _ => rfl, by show (1 : Int) ≤ 4 ∧ (4 : Int) ≤ 5; decide, fun h => absurd h (by show ¬ (4 : Int) = 1; decide), fun h => absurd h (by show ¬ (4 : Int) = 2; decide), fun h => absurd h (by show ¬ (4 : Int) = 3; decide), fun _ => h, fun h => absurd h (by show ¬ (4 : Int) = 5; decide)⟩
    | claim l h => exact ⟨fun _ => rfl, fun _ => rfl, fun _ _ => rfl, fun _ => PrD.nul_no, fun _ => CeD.nul_no, fun h => absurd rfl h, by show (1 : Int) ≤ 5 ∧ (5 : Int) ≤ 5; decide, fun h => absurd h (by show ¬ (5 : Int) = 1; decide), fun h => absurd h (by show ¬ (5 : Int) = 2; decide), fun h => absurd h (by show ¬ (5 : Int) = 3; decide), fun h => absurd h (by show ¬ (5 : Int) = 4; decide), fun _ => h⟩
  · rintro ⟨e1, e2, e3, e4, e5, e6, k, m1, m2, m3, m4, m5⟩
    obtain ⟨kd, ht, is, os, fs, p, c, l⟩ := t
    simp only [PrD.no_iff, CeD.no_iff, Nat.add_eq_zero_iff, List.length_eq_zero_iff] at *
    have hk : kd = 1 ∨ kd = 2 ∨ kd = 3 ∨ kd = 4 ∨ kd = 5 := by omega
    rcases hk with rfl | rfl | rfl | rfl | rfl
    · obtain ⟨rfl, rfl⟩ := e2 (by decide)
      obtain rfl := e4 (by decide)
      obtain rfl := e5 (by decide)
      obtain rfl := e6 (by decide)
      exact .coin ht os (m1 rfl).1 (m1 rfl).2
    · obtain rfl := e1 (by decide)
      obtain rfl := e4 (by decide)
      obtain rfl := e5 (by decide)
      obtain rfl := e6 (by decide)
      obtain ⟨h1, h2, h3, h4⟩ := m2 rfl
      exact .pay is os fs h1 h2 h3 h4
    · obtain rfl := e1 (by decide)
      obtain ⟨rfl, rfl⟩ := e2 (by decide)
      obtain rfl := e3 (by decide) (by decide)
      obtain rfl := e5 (by decide)
      obtain rfl := e6 (by decide)
      exact .create p (m3 rfl)
    · obtain rfl := e1 (by decide)
      obtain ⟨rfl, rfl⟩ := e2 (by decide)
      obtain rfl := e3 (by decide) (by decide)
      obtain rfl := e4 (by decide)
      obtain rfl := e6 (by decide)
      exact .cert c (m4 rfl)
    · obtain rfl := e1 (by decide)
      obtain ⟨rfl, rfl⟩ := e2 (by decide)
      obtain rfl := e3 (by decide) (by decide)
      obtain rfl := e4 (by decide)
      obtain rfl := e5 (by decide)
      exact .claim l (m5 rfl)
def clK : List IntKind := .i64 :: .i64 :: (List.replicate 8 .u8 ++ (.i64 :: .i64 :: List.replicate 128 .u8))
theorem ClD.c_k (l : ClD) : HasK clK l.c := .cons _ _ (.cons _ _ ((HasK.u8n l.o.2.1).append (.cons _ _ (.cons _ _ (HasK.u8n l.pf.2.1)))))
theorem ClD.c_inj {l m : ClD} (h : l.c = m.c) : l = m := by
  obtain ⟨sd, ac, ⟨o, ho, hb⟩, am, no, ⟨pf, hp, hq⟩⟩ := l
  obtain ⟨sd', ac', ⟨o', ho', hb'⟩, am', no', ⟨pf', hp', hq'⟩⟩ := m
  unfold ClD.c at h
  dsimp only at h
  simp only [List.cons.injEq, Value.int.injEq, true_and] at h
  obtain ⟨rfl, rfl, h⟩ := h
  obtain ⟨h1, h2⟩ := List.append_inj h (by rw [u8s_len, u8s_len, ho, ho'])
  simp only [List.cons.injEq, Value.int.injEq, true_and] at h2
  obtain ⟨rfl, rfl, h2⟩ := h2
  have := u8s_inj.1 h1
  subst this
  have := u8s_inj.1 h2
  subst this
  rfl
theorem cl_zero : ti62.zero.cells = ClD.nul.c.toArray := by kernel_rfl
theorem cl_cmp (l : ClD) : l = ClD.nul ↔ l.c.toArray.toList = ti62.zero.cells.toList := by
  rw [cl_zero]
  exact ⟨fun h => by rw [h], fun h => ClD.c_inj h⟩
theorem cl_zk : HasK clK ti62.zero.cells.toList := by
  rw [cl_zero]
  exact ClD.nul.c_k
set_option maxRecDepth 10000 in set_option maxHeartbeats 4000000 in
theorem RMayTx_calls (t : TxD) (v : TxV) (hln : TxLn t) (w : World) (ht : TxAt w t v) : Gives Tryz.prog 48 [.agg (txC t v).toArray] (.bool (decide (TxMay t))) w := by
  refine enter Tryz.func48 rfl (Mem.nil w []) rfl ?_
  have d4 : Knows Tryz.prog w 85 [.slice v.aO t.os.length v.cO] (.bool (decide (mayO t.os))) := Knows.mk Tryz.func85 (fun w' hf => RMayOuts_calls t.os (by have := hln.2.1; omega) _ w' (ht.o.fr hf))
  have dp : Knows Tryz.prog w 86 [.agg (txC t v).toArray] (.bool (decide (PayM t))) := Knows.mk Tryz.func86 (fun w' hf => RmayPay_calls t v hln w' (ht.fr hf))
  obtain ⟨l1, l2, l3, l4, l5, l6⟩ := hln
  have dn : Knows Tryz.prog w 83 [.agg (prC t.p (.slice v.aK t.p.ks.length v.cK)).toArray] (.bool (decide t.p.no)) := Knows.mk Tryz.func83 (fun w' hf => noParams_calls t.p _ _ w')
  have dc : Knows Tryz.prog w 84 [.agg (ceC t.c (.slice v.aA t.c.os.length v.cA) (.slice v.aS t.c.sg.length v.cS)).toArray] (.bool (decide t.c.no)) := Knows.mk Tryz.func84 (fun w' hf => noCert_calls t.c _ _ _ _ w')
  have dm : Knows Tryz.prog w 87 [.agg (prC t.p (.slice v.aK t.p.ks.length v.cK)).toArray] (.bool (mayP t.p.ln t.p.wd t.p.nd (t.p.ks.map (·.1)))) := Knows.mk Tryz.func87 (fun w' hf => MayParams_calls t.p.ln t.p.wd t.p.nd (t.p.ks.map (fun k : By 8 => k.1)) (ks_HL t.p.ks) (by rw [List.length_map]; omega) _ w' (by rw [List.length_map]; exact ht.k.fr hf))
  have de : Knows Tryz.prog w 88 [.agg (ceC t.c (.slice v.aA t.c.os.length v.cA) (.slice v.aS t.c.sg.length v.cS)).toArray] (.bool (decide t.c.may)) := Knows.mk Tryz.func88 (fun w' hf => RMayCert_calls t.c l5 l6 _ _ _ w' (ht.a.fr hf) (ht.s.fr hf))
  have dl : Knows Tryz.prog w 89 [.agg t.l.c.toArray] (.bool (decide t.l.may)) := Knows.mk Tryz.func89 (fun w' hf => RMayClaim_calls t.l w')
  obtain ⟨rk, rh, ri, ro, rf, rp, _, rc, _, _, _, _, rl⟩ := tx_rd t v
  have hFl : (txC t v).toArray.size = 170 := by rw [List.size_toArray, txC_len]
  generalize txC t v = F at rk rh ri ro rf rp rc rl dp hFl ⊢
  have hno : ∀ (w' : World), Fr [] w w' → ¬ TxM t → Ending.returned (.bool false) = Ending.returned (.bool (decide (TxMay t))) ∧ Fr [] w w' := fun w' hf h => ⟨by rw [decide_eq_false (fun k => h ((TxMay.iff t).1 k))], hf⟩
  have hye : ∀ {b : Bool} (w' : World), Fr [] w w' → (b = true → TxM t) → (b = false → ¬ TxM t) → Ending.returned (.bool b) = Ending.returned (.bool (decide (TxMay t))) ∧ Fr [] w w' := fun {b} w' hf h1 h2 => ⟨by
    cases b with
    | true => rw [decide_eq_true ((TxMay.iff t).2 (h1 rfl))]
    | false => rw [decide_eq_false (fun k => h2 rfl ((TxMay.iff t).1 k))], hf⟩
  refine x_ ?_
  refine Run.nw nbx ?_
  intro b1
  by_cases hk : t.kd = 1
  · refine x_ ?_
    by_cases g2 : 0 < t.is.length + t.fs.length
    · refine x_ ?_
      exact RQ.ret1 rfl (Res.tmp rfl) fun w' hm => hno w' hm.fr (fun h => by have := h.e2 (by omega); omega)
    refine x_ ?_
    by_cases g4 : t.p.no
    rotate_left
    · rw [decide_eq_false g4] at dn
      refine x_ ?_
      exact RQ.ret1 rfl (Res.tmp rfl) fun w' hm => hno w' hm.fr (fun h => g4 (h.e4 (by omega)))
    rw [decide_eq_true g4] at dn
    refine x_ ?_
    by_cases g5 : t.c.no
    rotate_left
    · rw [decide_eq_false g5] at dc
      refine x_ ?_
      exact RQ.ret1 rfl (Res.tmp rfl) fun w' hm => hno w' hm.fr (fun h => g5 (h.e5 (by omega)))
    rw [decide_eq_true g5] at dc
    refine x_ ?_
    by_cases g6 : t.l = ClD.nul
    rotate_left
    · refine Run.a (Val.neC (p := false) (ks := clK) (a := t.l.c.toArray) tabOk rfl rfl rfl (by kernel_rfl) (by kernel_rfl) rfl rfl t.l.c_k cl_zk (by rw [← cl_cmp]; simp [g6])) ?_
      refine x_ ?_
      exact RQ.ret1 rfl (Res.tmp rfl) fun w' hm => hno w' hm.fr (fun h => g6 (h.e6 (by omega)))
    refine Run.a (Val.neC (p := true) (ks := clK) (a := t.l.c.toArray) tabOk rfl rfl rfl (by kernel_rfl) (by kernel_rfl) rfl rfl t.l.c_k cl_zk (by rw [← cl_cmp]; simp [g6])) ?_
    refine x_ ?_
    by_cases m1 : ¬ 1 ≤ t.ht
    · refine x_ ?_
      exact RQ.ret1 rfl (Res.tmp rfl) fun w' hm => hno w' hm.fr (fun h => by have := h.m1 hk; omega)
    refine x_ ?_
    by_cases m2 : ¬ t.ht ≤ 400
    · refine x_ ?_
      exact RQ.ret1 rfl (Res.tmp rfl) fun w' hm => hno w' hm.fr (fun h => by have := h.m1 hk; omega)
    refine x_ ?_
    exact RQ.ret1 rfl (Res.tmp rfl) fun w' hm => hye w' hm.fr (fun h => have mm := of_decide_eq_true h; ⟨fun h => by first | exact Decidable.not_not.1 g1 | omega, fun h => by omega, fun h h' => by omega, fun h => by first | exact g4 | omega, fun h => by first | exact g5 | omega, fun h => by first | exact g6 | omega, by omega, fun h => by first | exact ⟨by omega, mm⟩ | omega, fun h => by first | exact ⟨by omega, mm⟩ | omega, fun h => by first | exact ⟨by omega, mm⟩ | omega, fun h => by first | exact ⟨by omega, mm⟩ | omega, fun h => by first | exact ⟨by omega, mm⟩ | omega⟩) (fun h k => of_decide_eq_false h (k.m1 hk).2)
  have hk1 := hk; clear hk
  by_cases hk : t.kd = 2
  · by_cases g1 : ¬ t.ht = 0
    · refine x_ ?_
      exact RQ.ret1 rfl (Res.tmp rfl) fun w' hm => hno w' hm.fr (fun h => by exact g1 (h.e1 (by omega)))
    refine x_ ?_
    by_cases g4 : t.p.no
    rotate_left
    · rw [decide_eq_false g4] at dn
      refine x_ ?_
      exact RQ.ret1 rfl (Res.tmp rfl) fun w' hm => hno w' hm.fr (fun h => g4 (h.e4 (by omega)))
    rw [decide_eq_true g4] at dn
    refine x_ ?_
    by_cases g5 : t.c.no
    rotate_left
    · rw [decide_eq_false g5] at dc
      refine x_ ?_
      exact RQ.ret1 rfl (Res.tmp rfl) fun w' hm => hno w' hm.fr (fun h => g5 (h.e5 (by omega)))
    rw [decide_eq_true g5] at dc
    refine x_ ?_
    by_cases g6 : t.l = ClD.nul
    rotate_left
    · refine Run.a (Val.neC (p := false) (ks := clK) (a := t.l.c.toArray) tabOk rfl rfl rfl (by kernel_rfl) (by kernel_rfl) rfl rfl t.l.c_k cl_zk (by rw [← cl_cmp]; simp [g6])) ?_
      refine x_ ?_
      exact RQ.ret1 rfl (Res.tmp rfl) fun w' hm => hno w' hm.fr (fun h => g6 (h.e6 (by omega)))
    refine Run.a (Val.neC (p := true) (ks := clK) (a := t.l.c.toArray) tabOk rfl rfl rfl (by kernel_rfl) (by kernel_rfl) rfl rfl t.l.c_k cl_zk (by rw [← cl_cmp]; simp [g6])) ?_
    refine x_ ?_
    exact RQ.ret1 rfl (Res.tmp rfl) fun w' hm => hye w' hm.fr (fun h => have mm := of_decide_eq_true h; ⟨fun h => by first | exact Decidable.not_not.1 g1 | omega, fun h => by omega, fun h h' => by omega, fun h => by first | exact g4 | omega, fun h => by first | exact g5 | omega, fun h => by first | exact g6 | omega, by omega, fun h => by first | exact mm | omega, fun h => by first | exact mm | omega, fun h => by first | exact mm | omega, fun h => by first | exact mm | omega, fun h => by first | exact mm | omega⟩) (fun h k => of_decide_eq_false h (k.m2 hk))
  have hk2 := hk; clear hk
  by_cases hk : t.kd = 3
  · by_cases g1 : ¬ t.ht = 0
    · refine x_ ?_
      exact RQ.ret1 rfl (Res.tmp rfl) fun w' hm => hno w' hm.fr (fun h => by exact g1 (h.e1 (by omega)))
    refine x_ ?_
    by_cases g2 : 0 < t.is.length + t.fs.length
    · refine x_ ?_
      exact RQ.ret1 rfl (Res.tmp rfl) fun w' hm => hno w' hm.fr (fun h => by have := h.e2 (by omega); omega)
    refine x_ ?_
    by_cases g3 : 0 < t.os.length
    · refine x_ ?_
      exact RQ.ret1 rfl (Res.tmp rfl) fun w' hm => hno w' hm.fr (fun h => by have := h.e3 (by omega) (by omega); omega)
    refine x_ ?_
    by_cases g5 : t.c.no
    rotate_left
    · rw [decide_eq_false g5] at dc
      refine x_ ?_
      exact RQ.ret1 rfl (Res.tmp rfl) fun w' hm => hno w' hm.fr (fun h => g5 (h.e5 (by omega)))
    rw [decide_eq_true g5] at dc
    refine x_ ?_
    by_cases g6 : t.l = ClD.nul
    rotate_left
    · refine Run.a (Val.neC (p := false) (ks := clK) (a := t.l.c.toArray) tabOk rfl rfl rfl (by kernel_rfl) (by kernel_rfl) rfl rfl t.l.c_k cl_zk (by rw [← cl_cmp]; simp [g6])) ?_
      refine x_ ?_
      exact RQ.ret1 rfl (Res.tmp rfl) fun w' hm => hno w' hm.fr (fun h => g6 (h.e6 (by omega)))
    refine Run.a (Val.neC (p := true) (ks := clK) (a := t.l.c.toArray) tabOk rfl rfl rfl (by kernel_rfl) (by kernel_rfl) rfl rfl t.l.c_k cl_zk (by rw [← cl_cmp]; simp [g6])) ?_
    refine x_ ?_
    exact RQ.ret1 rfl (Res.tmp rfl) fun w' hm => hye w' hm.fr (fun h => have mm : t.p.may := h; ⟨fun h => by first | exact Decidable.not_not.1 g1 | omega, fun h => by omega, fun h h' => by omega, fun h => by first | exact g4 | omega, fun h => by first | exact g5 | omega, fun h => by first | exact g6 | omega, by omega, fun h => by first | exact mm | omega, fun h => by first | exact mm | omega, fun h => by first | exact mm | omega, fun h => by first | exact mm | omega, fun h => by first | exact mm | omega⟩) (fun h k => by have h2 := k.m3 hk; unfold PrD.may at h2; rw [h2] at h; cases h)
  have hk3 := hk; clear hk
  by_cases hk : t.kd = 4
  · by_cases g1 : ¬ t.ht = 0
    · refine x_ ?_
      exact RQ.ret1 rfl (Res.tmp rfl) fun w' hm => hno w' hm.fr (fun h => by exact g1 (h.e1 (by omega)))
    refine x_ ?_
    by_cases g2 : 0 < t.is.length + t.fs.length
    · refine x_ ?_
      exact RQ.ret1 rfl (Res.tmp rfl) fun w' hm => hno w' hm.fr (fun h => by have := h.e2 (by omega); omega)
    refine x_ ?_
    by_cases g3 : 0 < t.os.length
    · refine x_ ?_
      exact RQ.ret1 rfl (Res.tmp rfl) fun w' hm => hno w' hm.fr (fun h => by have := h.e3 (by omega) (by omega); omega)
    refine x_ ?_
    by_cases g4 : t.p.no
    rotate_left
    · rw [decide_eq_false g4] at dn
      refine x_ ?_
      exact RQ.ret1 rfl (Res.tmp rfl) fun w' hm => hno w' hm.fr (fun h => g4 (h.e4 (by omega)))
    rw [decide_eq_true g4] at dn
    refine x_ ?_
    by_cases g6 : t.l = ClD.nul
    rotate_left
    · refine Run.a (Val.neC (p := false) (ks := clK) (a := t.l.c.toArray) tabOk rfl rfl rfl (by kernel_rfl) (by kernel_rfl) rfl rfl t.l.c_k cl_zk (by rw [← cl_cmp]; simp [g6])) ?_
      refine x_ ?_
      exact RQ.ret1 rfl (Res.tmp rfl) fun w' hm => hno w' hm.fr (fun h => g6 (h.e6 (by omega)))
    refine Run.a (Val.neC (p := true) (ks := clK) (a := t.l.c.toArray) tabOk rfl rfl rfl (by kernel_rfl) (by kernel_rfl) rfl rfl t.l.c_k cl_zk (by rw [← cl_cmp]; simp [g6])) ?_
    refine x_ ?_
    exact RQ.ret1 rfl (Res.tmp rfl) fun w' hm => hye w' hm.fr (fun h => have mm := of_decide_eq_true h; ⟨fun h => by first | exact Decidable.not_not.1 g1 | omega, fun h => by omega, fun h h' => by omega, fun h => by first | exact g4 | omega, fun h => by first | exact g5 | omega, fun h => by first | exact g6 | omega, by omega, fun h => by first | exact mm | omega, fun h => by first | exact mm | omega, fun h => by first | exact mm | omega, fun h => by first | exact mm | omega, fun h => by first | exact mm | omega⟩) (fun h k => of_decide_eq_false h (k.m4 hk))
  have hk4 := hk; clear hk
  by_cases hk : t.kd = 5
  · by_cases g1 : ¬ t.ht = 0
    · refine x_ ?_
      exact RQ.ret1 rfl (Res.tmp rfl) fun w' hm => hno w' hm.fr (fun h => by exact g1 (h.e1 (by omega)))
    refine x_ ?_
    by_cases g2 : 0 < t.is.length + t.fs.length
    · refine x_ ?_
      exact RQ.ret1 rfl (Res.tmp rfl) fun w' hm => hno w' hm.fr (fun h => by have := h.e2 (by omega); omega)
    refine x_ ?_
    by_cases g3 : 0 < t.os.length
    · refine x_ ?_
      exact RQ.ret1 rfl (Res.tmp rfl) fun w' hm => hno w' hm.fr (fun h => by have := h.e3 (by omega) (by omega); omega)
    refine x_ ?_
    by_cases g4 : t.p.no
    rotate_left
    · rw [decide_eq_false g4] at dn
      refine x_ ?_
      exact RQ.ret1 rfl (Res.tmp rfl) fun w' hm => hno w' hm.fr (fun h => g4 (h.e4 (by omega)))
    rw [decide_eq_true g4] at dn
    refine x_ ?_
    by_cases g5 : t.c.no
    rotate_left
    · rw [decide_eq_false g5] at dc
      refine x_ ?_
      exact RQ.ret1 rfl (Res.tmp rfl) fun w' hm => hno w' hm.fr (fun h => g5 (h.e5 (by omega)))
    rw [decide_eq_true g5] at dc
    refine x_ ?_
    exact RQ.ret1 rfl (Res.tmp rfl) fun w' hm => hye w' hm.fr (fun h => have mm := of_decide_eq_true h; ⟨fun h => by first | exact Decidable.not_not.1 g1 | omega, fun h => by omega, fun h h' => by omega, fun h => by first | exact g4 | omega, fun h => by first | exact g5 | omega, fun h => by first | exact g6 | omega, by omega, fun h => by first | exact mm | omega, fun h => by first | exact mm | omega, fun h => by first | exact mm | omega, fun h => by first | exact mm | omega, fun h => by first | exact mm | omega⟩) (fun h k => of_decide_eq_false h (k.m5 hk))
  have hk5 := hk; clear hk
  by_cases g1 : ¬ t.ht = 0
  · refine x_ ?_
    exact RQ.ret1 rfl (Res.tmp rfl) fun w' hm => hno w' hm.fr (fun h => by exact g1 (h.e1 (by omega)))
  refine x_ ?_
  by_cases g2 : 0 < t.is.length + t.fs.length
  · refine x_ ?_
    exact RQ.ret1 rfl (Res.tmp rfl) fun w' hm => hno w' hm.fr (fun h => by have := h.e2 (by omega); omega)
  refine x_ ?_
  by_cases g3 : 0 < t.os.length
  · refine x_ ?_
    exact RQ.ret1 rfl (Res.tmp rfl) fun w' hm => hno w' hm.fr (fun h => by have := h.e3 (by omega) (by omega); omega)
  refine x_ ?_
  by_cases g4 : t.p.no
  rotate_left
  · rw [decide_eq_false g4] at dn
    refine x_ ?_
    exact RQ.ret1 rfl (Res.tmp rfl) fun w' hm => hno w' hm.fr (fun h => g4 (h.e4 (by omega)))
  rw [decide_eq_true g4] at dn
  refine x_ ?_
  by_cases g5 : t.c.no
  rotate_left
  · rw [decide_eq_false g5] at dc
    refine x_ ?_
    exact RQ.ret1 rfl (Res.tmp rfl) fun w' hm => hno w' hm.fr (fun h => g5 (h.e5 (by omega)))
  rw [decide_eq_true g5] at dc
  refine x_ ?_
  by_cases g6 : t.l = ClD.nul
  rotate_left
  · refine Run.a (Val.neC (p := false) (ks := clK) (a := t.l.c.toArray) tabOk rfl rfl rfl (by kernel_rfl) (by kernel_rfl) rfl rfl t.l.c_k cl_zk (by rw [← cl_cmp]; simp [g6])) ?_
    refine x_ ?_
    exact RQ.ret1 rfl (Res.tmp rfl) fun w' hm => hno w' hm.fr (fun h => g6 (h.e6 (by omega)))
  refine Run.a (Val.neC (p := true) (ks := clK) (a := t.l.c.toArray) tabOk rfl rfl rfl (by kernel_rfl) (by kernel_rfl) rfl rfl t.l.c_k cl_zk (by rw [← cl_cmp]; simp [g6])) ?_
  refine x_ ?_
  exact RQ.ret1 rfl (Res.tmp rfl) fun w' hm => hno w' hm.fr (fun h => by have := h.k; omega)
end Go.Proofs.YtfoeakgnkfcbjaaGreatDoor

/- tx: the program's ins. -/
namespace Go.Proofs.YtfoeakgnkfcbjaaGreatDoor
attribute [local irreducible] Go.Vc.Run Go.Vc.RC Go.Vc.RQ Go.Vc.DR Go.Vc.DOp Go.Vc.Knows Go.Vc.At
set_option maxHeartbeats 400000
open Go Go.Vc Go.Sha
/-- A row of inputs has one from there. -/
def hasF (l : List InD) (x : InD) : Prop := ∃ y ∈ l, y.fr = x.fr
noncomputable instance (l : List InD) (x : InD) : Decidable (hasF l x) := Classical.propDecidable _
set_option maxRecDepth 10000 in set_option maxHeartbeats 4000000 in
theorem Tins1_calls (x y : InD) (b4 : Nat) (w : World) (h4 : w.heap[b4]? = some (.cells x.c.toArray 173 (0, 0))) : Gives Tryz.prog 158 [.agg y.c.toArray, .pointer (some ⟨b4, 0, none⟩)] (.bool (decide (y.fr = x.fr))) w := by
  refine enter Tryz.func158 rfl (Mem.nil w []) rfl ?_
  obtain ⟨q, _, _, _, _, _⟩ := in_rd y
  have q2 : At w ⟨b4, 0, none⟩ x.pt := At.mk fun j u hj => by
    rw [add_lit, cell_of_row w b4 (0 + j) _ _ _ h4, Nat.zero_add, List.getElem?_toArray, x.c_pt, List.getElem?_append_left (List.getElem?_eq_some_iff.1 hj).1]
    exact hj
  have hxl : x.pt.length = 9 := x.pt_len
  generalize y.c = G at q ⊢
  refine x_ ?_
  refine Run.nw nbx ?_
  intro b2
  refine x_ ?_
  by_cases he : y.fr = x.fr
  · refine Run.a (Val.eqC (p := true) (ks := List.replicate 8 .u8 ++ [.i64]) tabOk rfl rfl rfl (by kernel_rfl) (by kernel_rfl) rfl rfl y.pt_k x.pt_k (by rw [← InD.pt_iff]; simp [he])) ?_
    refine x_ ?_
    exact RQ.ret1 rfl (Res.tmp rfl) fun w' hm => ⟨by rw [decide_eq_true he], hm.fr⟩
  · refine Run.a (Val.eqC (p := false) (ks := List.replicate 8 .u8 ++ [.i64]) tabOk rfl rfl rfl (by kernel_rfl) (by kernel_rfl) rfl rfl y.pt_k x.pt_k (by rw [← InD.pt_iff]; simp [he])) ?_
    refine x_ ?_
    exact RQ.ret1 rfl (Res.tmp rfl) fun w' hm => ⟨by rw [decide_eq_false he], hm.fr⟩
set_option maxRecDepth 10000 in set_option maxHeartbeats 4000000 in
theorem TIndexF_calls (l : List InD) (hll : l.length ≤ 4096) (x : InD) (a : Option Addr) (cap b4 : Nat) (w : World) (hs : SrcW w 298 (.slice a l.length cap) l.length (rws InD.c l)) (h4 : w.heap[b4]? = some (.cells x.c.toArray 173 (0, 0))) :
    Calls Tryz.prog 166 #[.slice a l.length cap, .func (.func 158) #[] #[.pointer (some ⟨b4, 0, none⟩)]] w fun e w' => ∃ z : Int, e = .returned (.int .i64 z) ∧ decide (0 ≤ z) = decide (hasF l x) ∧ Fr [] w w' := by
  refine enter (vs := [.slice a l.length cap, .func (.func 158) #[] #[.pointer (some ⟨b4, 0, none⟩)]]) Tryz.func166 rfl (Mem.nil w []) rfl ?_
  refine x_ ?_
  refine RC.up l.length (D := Unit) (fun k _ => ∀ y ∈ l.take k, y.fr ≠ x.fr) (fun k _ => [(8, .int .i64 k), (7, .int .i64 l.length), (6, .slice a l.length cap), (1, .func (.func 158) #[] #[.pointer (some ⟨b4, 0, none⟩)]), (0, .slice a l.length cap)]) (fun _ _ => []) 0 () (Nat.zero_le _) (by simp) ⟨rfl, rfl, rfl, rfl, rfl, trivial⟩ (List.Sublist.refl _) ?_
  intro k _ hk hin
  refine x_ ?_
  (repeat refine RC.seq ?_); refine RC.wh rfl (fun h => RQ.next ?_) (fun h => ?_)
  · have hk' : k < l.length := by have := of_decide_eq_true h; omega
    clear h
    obtain ⟨p, hx⟩ : ∃ p, l[k]? = some p := ⟨_, List.getElem?_eq_getElem hk'⟩
    obtain ⟨ad, c', hv', hc', hcl, hr⟩ := hs.pos (by omega)
    cases hv'
    have q1 : At w (ad.add (k * 298)) p.c := At.mk fun j u hj => by rw [add_add]; exact hr _ u (rws_at InD.len hx j u hj)
    have hl := p.len
    refine x_ ?_
    refine Run.op1 (OpTo.callFV [.agg p.c.toArray, .pointer (some ⟨b4, 0, none⟩)] Tryz.func158 (fun w' hm => Tins1_calls x p b4 w' (hm.old h4))) (fun _ => ?_)
    by_cases he : p.fr = x.fr
    · rw [decide_eq_true he]
      refine x_ ?_
      exact RQ.ret1 rfl (Res.tmp rfl) fun w' hm => ⟨_, rfl, by rw [decide_eq_true (by omega), decide_eq_true (show hasF l x from ⟨p, List.mem_of_getElem? hx, he⟩)], hm.fr⟩
    · rw [decide_eq_false he]
      refine x_ ?_
      exact RQ.up (k + 1) () (Nat.lt_succ_self _) hk' (take_all hx hin he) ⟨rfl, rfl, rfl, rfl, rfl, trivial⟩ (by repeat (first | exact List.nil_sublist _ | exact List.Sublist.refl _ | apply List.Sublist.cons_cons | apply List.Sublist.cons | apply Go.Vc.subApp))
  · have hk' : k = l.length := by have := of_decide_eq_false h; omega
    clear h
    subst hk'
    rw [List.take_length] at hin
    (repeat refine RQ.thenExit ?_); refine RQ.blockHere ?_
    refine x_ ?_
    exact RQ.ret1 rfl (Res.tmp rfl) fun w' hm => ⟨_, rfl, by rw [decide_eq_false (show ¬ hasF l x from fun ⟨y, h1, h2⟩ => hin y h1 h2)]; rfl, hm.fr⟩
set_option maxRecDepth 10000 in set_option maxHeartbeats 4000000 in
theorem TContainsF_calls (l : List InD) (hll : l.length ≤ 4096) (x : InD) (a : Option Addr) (cap b4 : Nat) (w : World) (hs : SrcW w 298 (.slice a l.length cap) l.length (rws InD.c l)) (h4 : w.heap[b4]? = some (.cells x.c.toArray 173 (0, 0))) :
    Gives Tryz.prog 157 [.slice a l.length cap, .func (.func 158) #[] #[.pointer (some ⟨b4, 0, none⟩)]] (.bool (decide (hasF l x))) w := by
  refine enter Tryz.func157 rfl (Mem.nil w []) rfl ?_
  refine x_ ?_
  refine Run.op1 (OpTo.call (Y := {z : Int // decide (0 ≤ z) = decide (hasF l x)}) (V := fun z => .int .i64 z.1) (L' := fun _ => []) Tryz.func166 rfl rfl rfl rfl rfl rfl (fun w' hm => (TIndexF_calls l hll x a cap b4 w' (hs.fr hm.fr) (hm.old h4)).mono (by
    rintro e w'' ⟨z, rfl, hz, hf⟩
    exact ⟨⟨z, hz⟩, rfl, hm.ext hf⟩))) ?_
  rintro ⟨z, hz⟩
  dsimp only
  refine x_ ?_
  exact RQ.ret1 rfl (Res.tmp rfl) fun w' hm => ⟨by rw [← hz], hm.fr⟩
set_option maxRecDepth 10000 in set_option maxHeartbeats 4000000 in
theorem Tins_calls (l : List InD) (hll : l.length ≤ 4096) (aA : Option Addr) (cA : Nat) (w : World) (hs : SrcW w 298 (.slice aA l.length cA) l.length (rws InD.c l)) : Gives Tryz.prog 126 [.slice aA l.length cA] (.bool (decide (mayI l))) w := by
  refine enter Tryz.func126 rfl (Mem.nil w []) rfl ?_
  have hno : ∀ (w' : World), Fr [] w w' → ¬ mayI l → Ending.returned (.bool false) = Ending.returned (.bool (decide (mayI l))) ∧ Fr [] w w' := fun w' hf h => ⟨by rw [decide_eq_false h], hf⟩
  refine x_ ?_
  refine RC.up l.length (D := Unit) (fun k _ => (∀ o ∈ l.take k, o.may) ∧ ((l.take k).map InD.fr).Nodup) (fun k _ => [(8, .int .i64 k), (7, .int .i64 l.length), (6, .slice aA l.length cA), (0, .slice aA l.length cA)]) (fun _ _ => []) 0 () (Nat.zero_le _) (by simp) ⟨rfl, rfl, rfl, rfl, trivial⟩ (List.Sublist.refl _) ?_
  rintro k _ hk ⟨hin, hnd⟩
  refine x_ ?_
  (repeat refine RC.seq ?_); refine RC.wh rfl (fun h => RQ.next ?_) (fun h => ?_)
  · have hk' : k < l.length := by have := of_decide_eq_true h; omega
    clear h
    obtain ⟨x, hx⟩ : ∃ p, l[k]? = some p := ⟨_, List.getElem?_eq_getElem hk'⟩
    obtain ⟨ad, c', hv', hc', hcl, hr⟩ := hs.pos (by omega)
    cases hv'
    have q1 : At w (ad.add (k * 298)) x.c := At.mk fun j u hj => by rw [add_add]; exact hr _ u (rws_at InD.len hx j u hj)
    have hxl := x.len
    have n1 := x.one
    obtain ⟨_, _, qi, _, qz, _⟩ := in_rd x
    have hpm : x.may ↔ (0 ≤ x.i ∧ x.i ≤ 255) ∧ (0 ≤ x.s.z ∧ x.s.z ≤ 255) := Iff.rfl
    have c1 : Knows Tryz.prog w 124 [.int .i64 x.i, .int .i64 0, .int .i64 255] (.bool (decide (0 ≤ x.i ∧ x.i ≤ 255))) := Knows.mk Tryz.func124 (fun w' _ => Twithin_calls _ 0 255 w')
    have c2 : Knows Tryz.prog w 124 [.int .i64 x.s.z, .int .i64 0, .int .i64 255] (.bool (decide (0 ≤ x.s.z ∧ x.s.z ≤ 255))) := Knows.mk Tryz.func124 (fun w' _ => Twithin_calls _ 0 255 w')
    have hG : ∀ b4 w', w'.heap[b4]? = some (.cells x.c.toArray 173 (0, 0)) → Fr [] w w' → Gives Tryz.prog 157 [.slice (some ad) k cA, .func (.func 158) #[] #[.pointer (some ⟨b4, 0, none⟩)]] (.bool (decide (hasF (l.take k) x))) w' := fun b4 w' h4 hf => by
      have hkl : (l.take k).length = k := by rw [List.length_take]; omega
      have := TContainsF_calls (l.take k) (by omega) x (some ad) cA b4 w' (by
        have := (hs.fr hf).tk (k := k) (by omega)
        rw [hkl]
        rw [show rws InD.c (l.take k) = (rws InD.c l).take (k * 298) from by
          conv => rhs; rw [← List.take_append_drop k l, rws_app]
          rw [List.take_left' (by rw [rws_len InD.len, hkl])]]
        exact this) h4
      rw [hkl] at this
      exact this
    generalize hxc : x.c = G at q1 hxl n1 qi qz hG
    refine x_ ?_
    refine Run.nw nal ?_
    intro b4
    refine x_ ?_
    refine Run.op1 (osa (arr := ti173.zero.cells) G.toArray n1 (hs := by rw [List.size_toArray, hxl]; rfl)) (fun _ => ?_)
    refine x_ ?_
    refine Run.a (Val.sHi tabOk k rfl rfl rfl rfl rfl rfl (by omega) (by omega)) ?_
    refine Run.a (Val.mkFn (fs := []) (cs := [.tmp 4])) ?_
    refine Run.op1 (OpTo.cv Tryz.func157 (fun w' hm => hG b4 w' (hm.has (b4, _) (by repeat (first | exact List.mem_cons_self | apply List.mem_cons_of_mem | apply List.mem_append_right))) hm.fr)) (fun _ => ?_)
    by_cases hf : hasF (l.take k) x
    · rw [decide_eq_true hf]
      refine x_ ?_
      obtain ⟨y, hy, he⟩ := hf
      obtain ⟨j, hj⟩ := List.mem_iff_getElem?.1 hy
      have hj2 := (List.getElem?_eq_some_iff.1 hj).1
      rw [List.length_take] at hj2
      rw [List.getElem?_take, if_pos (by omega)] at hj
      exact RQ.ret1 rfl (Res.tmp rfl) fun w' hm => hno w' hm.fr (fun h => fr_twice hx hj (by omega) he h.2.1)
    rw [decide_eq_false hf]
    by_cases h1 : 0 ≤ x.i ∧ x.i ≤ 255
    rotate_left
    · rw [decide_eq_false h1] at c1
      refine x_ ?_
      exact RQ.ret1 rfl (Res.tmp rfl) fun w' hm => hno w' hm.fr (fun h => h1 (h.1 x (List.mem_of_getElem? hx)).1)
    rw [decide_eq_true h1] at c1
    by_cases h2 : 0 ≤ x.s.z ∧ x.s.z ≤ 255
    rotate_left
    · rw [decide_eq_false h2] at c2
      refine x_ ?_
      exact RQ.ret1 rfl (Res.tmp rfl) fun w' hm => hno w' hm.fr (fun h => h2 (h.1 x (List.mem_of_getElem? hx)).2)
    rw [decide_eq_true h2] at c2
    refine x_ ?_
    exact RQ.up (k + 1) () (Nat.lt_succ_self _) hk' ⟨take_all hx hin ⟨h1, h2⟩, fr_step hx hnd (fun j hj y hy he => hf ⟨y, List.mem_iff_getElem?.2 ⟨j, by rw [List.getElem?_take, if_pos hj]; exact hy⟩, he⟩)⟩ ⟨rfl, rfl, rfl, rfl, trivial⟩ (by repeat (first | exact List.nil_sublist _ | exact List.Sublist.refl _ | apply List.Sublist.cons_cons | apply List.Sublist.cons | apply Go.Vc.subApp))
  · have hk' : k = l.length := by have := of_decide_eq_false h; omega
    clear h
    rw [hk', List.take_length] at hin hnd
    clear hk' hk
    have c1 : Knows Tryz.prog w 124 [.int .i64 l.length, .int .i64 1, .int .i64 8] (.bool (decide (1 ≤ (l.length : Int) ∧ (l.length : Int) ≤ 8))) := Knows.mk Tryz.func124 (fun w' _ => Twithin_calls _ 1 8 w')
    have e : decide (1 ≤ (l.length : Int) ∧ (l.length : Int) ≤ 8) = decide (mayI l) := decide_eq_decide.2 ⟨fun h => ⟨hin, hnd, by omega, by omega⟩, fun h => by have := h.2.2; omega⟩
    (repeat refine RQ.thenExit ?_); refine RQ.blockHere ?_
    refine x_ ?_
    exact RQ.ret1 rfl (Res.tmp rfl) fun w' hm => ⟨by rw [e], hm.fr⟩
end Go.Proofs.YtfoeakgnkfcbjaaGreatDoor
end
