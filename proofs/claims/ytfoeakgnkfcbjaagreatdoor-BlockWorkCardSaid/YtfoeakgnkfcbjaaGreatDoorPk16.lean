/- Lemmas. -/
import Derived.Test.YtfoeakgnkfcbjaaGreatDoorPk15
set_option linter.unusedSimpArgs false
set_option linter.unusedVariables false
section
/- tx: a transaction in memory; the reference's noParams, noCert, MayForward (gen_txk.py prints it). -/
namespace Go.Proofs.YtfoeakgnkfcbjaaGreatDoor
attribute [local irreducible] Go.Vc.Run Go.Vc.RC Go.Vc.RQ Go.Vc.DR Go.Vc.DOp Go.Vc.Knows Go.Vc.At
set_option maxHeartbeats 300000
open Go Go.Vc Go.Sha
def prC (p : PrD) (v : Value) : List Value := prm p.ln p.wd p.nd v
/-- Where the slices of a transaction are. -/
structure TxV where
  aI : Option Addr
  cI : Nat
  aO : Option Addr
  cO : Nat
  aF : Option Addr
  cF : Nat
  aK : Option Addr
  cK : Nat
  aA : Option Addr
  cA : Nat
  aS : Option Addr
  cS : Nat
def txC (t : TxD) (v : TxV) : List Value := .int .i64 t.kd :: .int .i64 t.ht :: .slice v.aI t.is.length v.cI :: .slice v.aO t.os.length v.cO :: .slice v.aF t.fs.length v.cF :: (prC t.p (.slice v.aK t.p.ks.length v.cK) ++ (ceC t.c (.slice v.aA t.c.os.length v.cA) (.slice v.aS t.c.sg.length v.cS) ++ t.l.c))
def PrD.no (p : PrD) : Prop := p.ln = 0 ∧ p.wd = 0 ∧ p.nd = 0 ∧ p.ks.length = 0
instance (p : PrD) : Decidable p.no := by unfold PrD.no; infer_instance
theorem PrD.no_iff (p : PrD) : p.no ↔ p = PrD.nul := by
  obtain ⟨a, b, c, l⟩ := p
  unfold PrD.no PrD.nul
  simp only [PrD.mk.injEq, List.length_eq_zero_iff]
def CeD.no (c : CeD) : Prop := c.sd = 0 ∧ c.ep = 0 ∧ c.ql = 0 ∧ c.en.1 = zero8 ∧ c.ro.1 = zero8 ∧ c.os.length = 0 ∧ c.sg.length = 0
instance (c : CeD) : Decidable c.no := by unfold CeD.no; infer_instance
theorem CeD.no_iff (c : CeD) : c.no ↔ c = CeD.nul := by
  obtain ⟨a, b, d, en, ro, os, sg⟩ := c
  unfold CeD.no CeD.nul
  simp only [CeD.mk.injEq, List.length_eq_zero_iff]
  have e : ∀ h : By 8, h.1 = zero8 ↔ h = By.z 8 := fun h => ⟨fun k => Subtype.ext k, fun k => by rw [k]; rfl⟩
  rw [e, e]
end Go.Proofs.YtfoeakgnkfcbjaaGreatDoor

/- tx: what is read of a transaction; the reference's MayCert, mayPay. -/
namespace Go.Proofs.YtfoeakgnkfcbjaaGreatDoor
attribute [local irreducible] Go.Vc.Run Go.Vc.RC Go.Vc.RQ Go.Vc.DR Go.Vc.DOp Go.Vc.Knows Go.Vc.At
set_option maxHeartbeats 400000
open Go Go.Vc Go.Sha
theorem prC_len (p : PrD) (v : Value) : (prC p v).length = 4 := rfl
theorem ceC_len (c : CeD) (v v' : Value) : (ceC c v v').length = 21 := by
  unfold ceC
  simp only [List.length_cons, List.length_append, u8s_len, c.en.2.1, c.ro.2.1, List.length_nil]
theorem txC_len (t : TxD) (v : TxV) : (txC t v).length = 170 := by
  unfold txC
  simp only [List.length_cons, List.length_append, prC_len, ceC_len, t.l.len]
/-- Its slices stand there. -/
structure TxAt (w : World) (t : TxD) (v : TxV) : Prop where
  i : SrcW w 298 (.slice v.aI t.is.length v.cI) t.is.length (rws InD.c t.is)
  o : SrcW w 9 (.slice v.aO t.os.length v.cO) t.os.length (rws OutD.c t.os)
  f : SrcW w 11 (.slice v.aF t.fs.length v.cF) t.fs.length (rws FoD.c t.fs)
  k : SrcW w 8 (.slice v.aK t.p.ks.length v.cK) t.p.ks.length (u8s (t.p.ks.map (·.1)).flatten)
  a : SrcW w 9 (.slice v.aA t.c.os.length v.cA) t.c.os.length (rws OutD.c t.c.os)
  s : SrcW w 282 (.slice v.aS t.c.sg.length v.cS) t.c.sg.length (rws SgD.c t.c.sg)
theorem TxAt.fr {w w' : World} {t : TxD} {v : TxV} (h : TxAt w t v) (hf : Fr [] w w') : TxAt w' t v := ⟨h.i.fr hf, h.o.fr hf, h.f.fr hf, h.k.fr hf, h.a.fr hf, h.s.fr hf⟩
/-- Its lists are not long. -/
def TxLn (t : TxD) : Prop := t.is.length ≤ 4096 ∧ t.os.length ≤ 4096 ∧ t.fs.length ≤ 4096 ∧ t.p.ks.length ≤ 4096 ∧ t.c.os.length ≤ 4096 ∧ t.c.sg.length ≤ 4096
structure TxRd (t : TxD) (v : TxV) (F : List Value) : Prop where
  kd : rdAt ti3 F.toArray 0 = some (.int .i64 t.kd)
  ht : rdAt ti3 F.toArray 1 = some (.int .i64 t.ht)
  i : rdAt ti49 F.toArray 2 = some (.slice v.aI t.is.length v.cI)
  o : rdAt ti50 F.toArray 3 = some (.slice v.aO t.os.length v.cO)
  f : rdAt ti51 F.toArray 4 = some (.slice v.aF t.fs.length v.cF)
  p : rdAt ti54 F.toArray 5 = some (.agg (prC t.p (.slice v.aK t.p.ks.length v.cK)).toArray)
  k : rdAt ti52 F.toArray 8 = some (.slice v.aK t.p.ks.length v.cK)
  c : rdAt ti57 F.toArray 9 = some (.agg (ceC t.c (.slice v.aA t.c.os.length v.cA) (.slice v.aS t.c.sg.length v.cS)).toArray)
  ep : rdAt ti3 F.toArray 10 = some (.int .i64 t.c.ep)
  en : rdAt ti23 F.toArray 12 = some (.agg (u8s t.c.en.1).toArray)
  a : rdAt ti50 F.toArray 28 = some (.slice v.aA t.c.os.length v.cA)
  s : rdAt ti55 F.toArray 29 = some (.slice v.aS t.c.sg.length v.cS)
  l : rdAt ti62 F.toArray 30 = some (.agg t.l.c.toArray)
theorem rd_one {ti : TI} (ha : TypeDesc.agg ti.desc = false) {F : List Value} {off : Nat} {v : Value} (h : F[off]? = some v) : rdAt ti F.toArray off = some v := by
  unfold rdAt
  rw [ha, cond_false, List.getElem?_toArray]
  exact h
theorem rd_mid {ti : TI} {F pre cs post : List Value} {off : Nat} (e : F = pre ++ (cs ++ post)) (ho : pre.length = off) (hl : cs.length = ti.size) (hz : 0 < ti.size) (ha : TypeDesc.agg ti.desc = true) : rdAt ti F.toArray off = some (.agg cs.toArray) :=
  rd_agg (fun j u hj => by
    rw [e, List.getElem?_toArray, List.getElem?_append_right (by omega), ← ho, Nat.add_sub_cancel_left, List.getElem?_append_left (List.getElem?_eq_some_iff.1 hj).1]
    exact hj) hl hz ha
theorem at_mid {F pre post : List Value} {off : Nat} {v : Value} (e : F = pre ++ (v :: post)) (ho : pre.length = off) : F[off]? = some v := by
  rw [e, List.getElem?_append_right (by omega), ho, Nat.sub_self]; rfl
def tx5 (t : TxD) (v : TxV) : List Value := [.int .i64 t.kd, .int .i64 t.ht, .slice v.aI t.is.length v.cI, .slice v.aO t.os.length v.cO, .slice v.aF t.fs.length v.cF]
theorem txC_eq (t : TxD) (v : TxV) : txC t v = tx5 t v ++ (prC t.p (.slice v.aK t.p.ks.length v.cK) ++ (ceC t.c (.slice v.aA t.c.os.length v.cA) (.slice v.aS t.c.sg.length v.cS) ++ t.l.c)) := rfl
theorem tx_rd (t : TxD) (v : TxV) : TxRd t v (txC t v) := by
  have hp : (tx5 t v).length = 5 := rfl
  have e9 : txC t v = (tx5 t v ++ prC t.p (Value.slice v.aK t.p.ks.length v.cK)) ++ (ceC t.c (Value.slice v.aA t.c.os.length v.cA) (Value.slice v.aS t.c.sg.length v.cS) ++ t.l.c) := by rw [txC_eq, List.append_assoc]
  have e12 : txC t v = (tx5 t v ++ (prC t.p (Value.slice v.aK t.p.ks.length v.cK) ++ [Value.int .i64 t.c.sd, Value.int .i64 t.c.ep, Value.int .i64 t.c.ql])) ++ (u8s t.c.en.1 ++ (u8s t.c.ro.1 ++ ([Value.slice v.aA t.c.os.length v.cA, Value.slice v.aS t.c.sg.length v.cS] ++ t.l.c))) := by
    rw [txC_eq]; unfold ceC; simp only [List.append_assoc, List.cons_append, List.nil_append]
  have e28 : txC t v = (tx5 t v ++ (prC t.p (Value.slice v.aK t.p.ks.length v.cK) ++ (Value.int .i64 t.c.sd :: Value.int .i64 t.c.ep :: Value.int .i64 t.c.ql :: (u8s t.c.en.1 ++ u8s t.c.ro.1)))) ++ (Value.slice v.aA t.c.os.length v.cA :: (Value.slice v.aS t.c.sg.length v.cS :: t.l.c)) := by
    rw [txC_eq]; unfold ceC; simp only [List.append_assoc, List.cons_append, List.nil_append]
  have e29 : txC t v = (tx5 t v ++ (prC t.p (Value.slice v.aK t.p.ks.length v.cK) ++ (Value.int .i64 t.c.sd :: Value.int .i64 t.c.ep :: Value.int .i64 t.c.ql :: (u8s t.c.en.1 ++ (u8s t.c.ro.1 ++ [Value.slice v.aA t.c.os.length v.cA]))))) ++ (Value.slice v.aS t.c.sg.length v.cS :: t.l.c) := by
    rw [txC_eq]; unfold ceC; simp only [List.append_assoc, List.cons_append, List.nil_append]
  have e30 : txC t v = (tx5 t v ++ (prC t.p (Value.slice v.aK t.p.ks.length v.cK) ++ ceC t.c (Value.slice v.aA t.c.os.length v.cA) (Value.slice v.aS t.c.sg.length v.cS))) ++ (t.l.c ++ []) := by rw [txC_eq, List.append_nil, List.append_assoc, List.append_assoc]
  have l9 : (tx5 t v ++ prC t.p (Value.slice v.aK t.p.ks.length v.cK)).length = 9 := rfl
  have l12 : (tx5 t v ++ (prC t.p (Value.slice v.aK t.p.ks.length v.cK) ++ [Value.int .i64 t.c.sd, Value.int .i64 t.c.ep, Value.int .i64 t.c.ql])).length = 12 := rfl
  have l28 : (tx5 t v ++ (prC t.p (Value.slice v.aK t.p.ks.length v.cK) ++ (Value.int .i64 t.c.sd :: Value.int .i64 t.c.ep :: Value.int .i64 t.c.ql :: (u8s t.c.en.1 ++ u8s t.c.ro.1)))).length = 28 := by
    simp only [List.length_append, List.length_cons, hp, prC_len, u8s_len, t.c.en.2.1, t.c.ro.2.1]
  have l29 : (tx5 t v ++ (prC t.p (Value.slice v.aK t.p.ks.length v.cK) ++ (Value.int .i64 t.c.sd :: Value.int .i64 t.c.ep :: Value.int .i64 t.c.ql :: (u8s t.c.en.1 ++ (u8s t.c.ro.1 ++ [Value.slice v.aA t.c.os.length v.cA]))))).length = 29 := by
    simp only [List.length_append, List.length_cons, List.length_nil, hp, prC_len, u8s_len, t.c.en.2.1, t.c.ro.2.1]
  have l30 : (tx5 t v ++ (prC t.p (Value.slice v.aK t.p.ks.length v.cK) ++ ceC t.c (Value.slice v.aA t.c.os.length v.cA) (Value.slice v.aS t.c.sg.length v.cS))).length = 30 := by
    simp only [List.length_append, hp, prC_len, ceC_len]
  exact ⟨rd_one rfl rfl, rd_one rfl rfl, rd_one rfl rfl, rd_one rfl rfl, rd_one rfl rfl, rd_mid (txC_eq t v) hp rfl (by decide) rfl, rd_one rfl rfl, rd_mid e9 l9 (ceC_len _ _ _) (by decide) rfl, rd_one rfl rfl, rd_mid e12 l12 (by rw [u8s_len, t.c.en.2.1]; rfl) (by decide) rfl, rd_one rfl (at_mid e28 l28), rd_one rfl (at_mid e29 l29), rd_mid e30 l30 t.l.len (by decide) rfl⟩
theorem ks_HL (l : List (By 8)) : HL (l.map (·.1)) := fun x hx => by
  obtain ⟨y, _, rfl⟩ := List.mem_map.1 hx
  exact y.2
end Go.Proofs.YtfoeakgnkfcbjaaGreatDoor

/- tx: the reference's mayPay (gen_txm.py prints it). -/
namespace Go.Proofs.YtfoeakgnkfcbjaaGreatDoor
attribute [local irreducible] Go.Vc.Run Go.Vc.RC Go.Vc.RQ Go.Vc.DR Go.Vc.DOp Go.Vc.Knows Go.Vc.At
set_option maxHeartbeats 400000
open Go Go.Vc Go.Sha
/-- Where an input comes from. -/
def InD.pt (x : InD) : List Value := u8s x.tx.1 ++ [.int .i64 x.i]
theorem InD.pt_len (x : InD) : x.pt.length = 9 := by unfold InD.pt; rw [List.length_append, u8s_len, x.tx.2.1]; rfl
theorem InD.pt_k (x : InD) : HasK (List.replicate 8 .u8 ++ [.i64]) x.pt := (HasK.u8n x.tx.2.1).append (.cons .i64 x.i .nil)
theorem InD.pt_iff (x y : InD) : x.fr = y.fr ↔ x.pt = y.pt := by
  unfold InD.fr InD.pt
  constructor
  · intro h
    rw [Prod.mk.injEq] at h
    rw [h.1, h.2]
  · intro h
    obtain ⟨h1, h2⟩ := List.append_inj h (by rw [u8s_len, u8s_len, x.tx.2.1, y.tx.2.1])
    simp only [List.cons.injEq, Value.int.injEq, true_and, and_true] at h2
    rw [u8s_inj.1 h1, h2]
theorem InD.c_pt (x : InD) : x.c = x.pt ++ (u8s x.key.1 ++ x.s.c) := by unfold InD.c InD.pt; simp only [List.append_assoc, List.cons_append, List.nil_append]
structure InRd (x : InD) (F : List Value) : Prop where
  pt : rdAt ti168 F.toArray 0 = some (.agg x.pt.toArray)
  tx : rdAt ti23 F.toArray 0 = some (.agg (u8s x.tx.1).toArray)
  i : rdAt ti3 F.toArray 8 = some (.int .i64 x.i)
  k : rdAt ti23 F.toArray 9 = some (.agg (u8s x.key.1).toArray)
  z : rdAt ti3 F.toArray 17 = some (.int .i64 x.s.z)
  s : rdAt ti171 F.toArray 17 = some (.agg x.s.c.toArray)
theorem in_rd (x : InD) : InRd x x.c := by
  have e9 : x.c = x.pt ++ (u8s x.key.1 ++ x.s.c) := x.c_pt
  have e8 : x.c = u8s x.tx.1 ++ (Value.int .i64 x.i :: (u8s x.key.1 ++ x.s.c)) := rfl
  have e17 : x.c = (x.pt ++ u8s x.key.1) ++ (x.s.c ++ []) := by rw [e9, List.append_nil, List.append_assoc]
  have l8 : (u8s x.tx.1).length = 8 := by rw [u8s_len, x.tx.2.1]
  have l17 : (x.pt ++ u8s x.key.1).length = 17 := by rw [List.length_append, x.pt_len, u8s_len, x.key.2.1]
  have e17' : x.c = (x.pt ++ u8s x.key.1) ++ (Value.int .i64 x.s.z :: (u8s x.s.op.1 ++ (u8s x.s.sh.1 ++ u8s x.s.pa.1))) := by
    rw [e17, List.append_nil]; unfold SigD.c sigC; simp only [List.append_assoc]
  exact ⟨rd_mid (pre := []) (by rw [List.nil_append]; exact e9) rfl x.pt_len (by decide) rfl, rd_mid (pre := []) (by rw [List.nil_append]; exact e8) rfl l8 (by decide) rfl, rd_one rfl (at_mid e8 l8), rd_mid e9 x.pt_len (by rw [u8s_len, x.key.2.1]; rfl) (by decide) rfl, rd_one rfl (at_mid e17' l17), rd_mid e17 l17 x.s.len (by decide) rfl⟩
instance (x : InD) : Decidable x.may := by unfold InD.may; infer_instance
noncomputable instance (l : List InD) : Decidable (mayI l) := Classical.propDecidable _
/-- What a payment must be. -/
def PayM (t : TxD) : Prop := mayI t.is ∧ mayO t.os ∧ mayF t.fs ∧ 0 < t.os.length + t.fs.length
noncomputable instance (t : TxD) : Decidable (PayM t) := Classical.propDecidable _
theorem fr_twice {l : List InD} {i j : Nat} {x y : InD} (hx : l[i]? = some x) (hy : l[j]? = some y) (hji : j < i) (h : y.fr = x.fr) : ¬ (l.map InD.fr).Nodup := fun hn => by
  have h1 := (List.getElem?_eq_some_iff.1 hx)
  have h2 := (List.getElem?_eq_some_iff.1 hy)
  have := (List.getElem?_inj (i := j) (j := i) (by rw [List.length_map]; exact h2.1) hn).1 (by rw [List.getElem?_map, List.getElem?_map, hx, hy, Option.map_some, Option.map_some, h])
  omega
theorem fr_step {l : List InD} {i : Nat} {x : InD} (hx : l[i]? = some x) (h : ((l.take i).map InD.fr).Nodup) (hn : ∀ j, j < i → ∀ y, l[j]? = some y → y.fr ≠ x.fr) : ((l.take (i + 1)).map InD.fr).Nodup := by
  rw [List.take_add_one, hx, List.map_append]
  refine List.nodup_append.2 ⟨h, by simp, ?_⟩
  intro a ha b hb e
  obtain ⟨y, hy, rfl⟩ := List.mem_map.1 ha
  rw [show b = x.fr from by simpa using hb] at e
  obtain ⟨j, hj⟩ := List.mem_iff_getElem?.1 hy
  have hj2 := (List.getElem?_eq_some_iff.1 hj).1
  rw [List.length_take] at hj2
  rw [List.getElem?_take] at hj
  split at hj
  · exact hn j (by omega) y hj e
  · cases hj
end Go.Proofs.YtfoeakgnkfcbjaaGreatDoor

/- tx: the reference's MayTx (gen_txn.py prints it). -/
namespace Go.Proofs.YtfoeakgnkfcbjaaGreatDoor
attribute [local irreducible] Go.Vc.Run Go.Vc.RC Go.Vc.RQ Go.Vc.DR Go.Vc.DOp Go.Vc.Knows Go.Vc.At
set_option maxHeartbeats 400000
open Go Go.Vc Go.Sha
/-- What a transaction must be, by its fields. -/
structure TxM (t : TxD) : Prop where
  e1 : t.kd ≠ 1 → t.ht = 0
  e2 : t.kd ≠ 2 → t.is.length + t.fs.length = 0
  e3 : t.kd ≠ 2 → t.kd ≠ 1 → t.os.length = 0
  e4 : t.kd ≠ 3 → t.p.no
  e5 : t.kd ≠ 4 → t.c.no
  e6 : t.kd ≠ 5 → t.l = ClD.nul
  k : 1 ≤ t.kd ∧ t.kd ≤ 5
  m1 : t.kd = 1 → (1 ≤ t.ht ∧ t.ht ≤ 400) ∧ mayO t.os
  m2 : t.kd = 2 → PayM t
  m3 : t.kd = 3 → t.p.may
  m4 : t.kd = 4 → t.c.may
  m5 : t.kd = 5 → t.l.may
theorem PrD.nul_no : PrD.nul.no := (PrD.no_iff _).2 rfl
theorem CeD.nul_no : CeD.nul.no := (CeD.no_iff _).2 rfl
theorem TxMay.iff (t : TxD) : TxMay t ↔ TxM t := by
  constructor
  · intro h
    cases h with
    | coin ht os h1 h2 => exact ⟨fun h => absurd rfl h, fun _ => rfl, fun _ h => absurd rfl h, fun _ => PrD.nul_no, fun _ => CeD.nul_no, fun _ => rfl, by show (1 : Int) ≤ 1 ∧ (1 : Int) ≤ 5; decide, fun _ => ⟨h1, h2⟩, fun h => absurd h (by show ¬ (1 : Int) = 2; decide), fun h => absurd h (by show ¬ (1 : Int) = 3; decide), fun h => absurd h (by show ¬ (1 : Int) = 4; decide), fun h => absurd h (by show ¬ (1 : Int) = 5; decide)⟩
    | pay is os fs h1 h2 h3 h4 => exact ⟨fun _ => rfl, fun h => absurd rfl h, fun h => absurd rfl h, fun _ => PrD.nul_no, fun _ => CeD.nul_no, fun _ => rfl, by show (1 : Int) ≤ 2 ∧ (2 : Int) ≤ 5; decide, fun h => absurd h (by show ¬ (2 : Int) = 1; decide), fun _ => ⟨h1, h2, h3, h4⟩, fun h => absurd h (by show ¬ (2 : Int) = 3; decide), fun h => absurd h (by show ¬ (2 : Int) = 4; decide), fun h => absurd h (by show ¬ (2 : Int) = 5; decide)⟩
    | create p h => exact ⟨fun _ => rfl, fun _ => rfl, fun _ _ => rfl, fun h => absurd rfl h, fun _ => CeD.nul_no, fun _ => rfl, by show (1 : Int) ≤ 3 ∧ (3 : Int) ≤ 5; decide, fun h => absurd h (by show ¬ (3 : Int) = 1; decide), fun h => absurd h (by show ¬ (3 : Int) = 2; decide), fun _ => h, fun h => absurd h (by show ¬ (3 : Int) = 4; decide), fun h => absurd h (by show ¬ (3 : Int) = 5; decide)⟩
    | cert c h => exact ⟨fun _ => rfl, fun _ => rfl, fun _ _ => rfl, fun _ => PrD.nul_no, fun h => absurd rfl h, fun _ => rfl, by show (1 : Int) ≤ 4 ∧ (4 : Int) ≤ 5; decide, fun h => absurd h (by show ¬ (4 : Int) = 1; decide), fun h => absurd h (by show ¬ (4 : Int) = 2; decide), fun h => absurd h (by show ¬ (4 : Int) = 3; decide), fun _ => h, fun h => absurd h (by show ¬ (4 : Int) = 5; decide)⟩
    | claim l h => exact ⟨fun _ => rfl, fun _ => rfl, fun _ _ => rfl, fun _ => PrD.nul_no, fun _ => CeD.nul_no, fun h => absurd rfl h, by show (1 : Int) ≤ 5 ∧ (5 : Int) ≤ 5; decide, fun h => absurd h (by show ¬ (5 : Int) = 1; decide), fun h => absurd h (by show ¬ (5 : Int) = 2; decide), fun h => absurd h (by show ¬ (5 : Int) = 3; decide), fun h => absurd h (by show ¬ (5 : Int) = 4; decide), fun _ => h⟩
  · rintro ⟨e1, e2, e3, e4, e5, e6, k, m1, m2, m3, m4, m5⟩
    obtain ⟨kd, ht, is, os, fs, p, c, l⟩ := t
    simp only [PrD.no_iff, CeD.no_iff, Nat.add_eq_zero_iff, List.length_eq_zero_iff] at *
    have hk : kd = 1 ∨ kd = 2 ∨ kd = 3 ∨ kd = 4 ∨ kd = 5 := by omega
    rcases hk with rfl | rfl | rfl | rfl | rfl
    · obtain ⟨rfl, rfl⟩ := e2 (by decide)
      obtain rfl := e4 (by decide)
      obtain rfl := e5 (by decide)
      obtain rfl := e6 (by decide)
      exact .coin ht os (m1 rfl).1 (m1 rfl).2
    · obtain rfl := e1 (by decide)
      obtain rfl := e4 (by decide)
      obtain rfl := e5 (by decide)
      obtain rfl := e6 (by decide)
      obtain ⟨h1, h2, h3, h4⟩ := m2 rfl
      exact .pay is os fs h1 h2 h3 h4
    · obtain rfl := e1 (by decide)
      obtain ⟨rfl, rfl⟩ := e2 (by decide)
      obtain rfl := e3 (by decide) (by decide)
      obtain rfl := e5 (by decide)
      obtain rfl := e6 (by decide)
      exact .create p (m3 rfl)
    · obtain rfl := e1 (by decide)
      obtain ⟨rfl, rfl⟩ := e2 (by decide)
      obtain rfl := e3 (by decide) (by decide)
      obtain rfl := e4 (by decide)
      obtain rfl := e6 (by decide)
      exact .cert c (m4 rfl)
    · obtain rfl := e1 (by decide)
      obtain ⟨rfl, rfl⟩ := e2 (by decide)
      obtain rfl := e3 (by decide) (by decide)
      obtain rfl := e4 (by decide)
      obtain rfl := e5 (by decide)
      exact .claim l (m5 rfl)
def clK : List IntKind := .i64 :: .i64 :: (List.replicate 8 .u8 ++ (.i64 :: .i64 :: List.replicate 128 .u8))
theorem ClD.c_k (l : ClD) : HasK clK l.c := .cons _ _ (.cons _ _ ((HasK.u8n l.o.2.1).append (.cons _ _ (.cons _ _ (HasK.u8n l.pf.2.1)))))
theorem ClD.c_inj {l m : ClD} (h : l.c = m.c) : l = m := by
  obtain ⟨sd, ac, ⟨o, ho, hb⟩, am, no, ⟨pf, hp, hq⟩⟩ := l
  obtain ⟨sd', ac', ⟨o', ho', hb'⟩, am', no', ⟨pf', hp', hq'⟩⟩ := m
  unfold ClD.c at h
  dsimp only at h
  simp only [List.cons.injEq, Value.int.injEq, true_and] at h
  obtain ⟨rfl, rfl, h⟩ := h
  obtain ⟨h1, h2⟩ := List.append_inj h (by rw [u8s_len, u8s_len, ho, ho'])
  simp only [List.cons.injEq, Value.int.injEq, true_and] at h2
  obtain ⟨rfl, rfl, h2⟩ := h2
  have := u8s_inj.1 h1
  subst this
  have := u8s_inj.1 h2
  subst this
  rfl
theorem cl_zero : ti62.zero.cells = ClD.nul.c.toArray := by kernel_rfl
theorem cl_cmp (l : ClD) : l = ClD.nul ↔ l.c.toArray.toList = ti62.zero.cells.toList := by
  rw [cl_zero]
  exact ⟨fun h => by rw [h], fun h => ClD.c_inj h⟩
theorem cl_zk : HasK clK ti62.zero.cells.toList := by
  rw [cl_zero]
  exact ClD.nul.c_k
end Go.Proofs.YtfoeakgnkfcbjaaGreatDoor

/- tx: the program's ins. -/
namespace Go.Proofs.YtfoeakgnkfcbjaaGreatDoor
attribute [local irreducible] Go.Vc.Run Go.Vc.RC Go.Vc.RQ Go.Vc.DR Go.Vc.DOp Go.Vc.Knows Go.Vc.At
set_option maxHeartbeats 400000
open Go Go.Vc Go.Sha
/-- A row of inputs has one from there. -/
def hasF (l : List InD) (x : InD) : Prop := ∃ y ∈ l, y.fr = x.fr
noncomputable instance (l : List InD) (x : InD) : Decidable (hasF l x) := Classical.propDecidable _
set_option maxRecDepth 10000 in set_option maxHeartbeats 4000000 in
theorem Tins1_calls (x y : InD) (b4 : Nat) (w : World) (h4 : w.heap[b4]? = some (.cells x.c.toArray 173 (0, 0))) : Gives Tryz.prog 158 [.agg y.c.toArray, .pointer (some ⟨b4, 0, none⟩)] (.bool (decide (y.fr = x.fr))) w := by
  refine enter Tryz.func158 rfl (Mem.nil w []) rfl ?_
  obtain ⟨q, _, _, _, _, _⟩ := in_rd y
  have q2 : At w ⟨b4, 0, none⟩ x.pt := At.mk fun j u hj => by
    rw [add_lit, cell_of_row w b4 (0 + j) _ _ _ h4, Nat.zero_add, List.getElem?_toArray, x.c_pt, List.getElem?_append_left (List.getElem?_eq_some_iff.1 hj).1]
    exact hj
  have hxl : x.pt.length = 9 := x.pt_len
  generalize y.c = G at q ⊢
  refine x_ ?_
  refine Run.nw nbx ?_
  intro b2
  refine x_ ?_
  by_cases he : y.fr = x.fr
  · refine Run.a (Val.eqC (p := true) (ks := List.replicate 8 .u8 ++ [.i64]) tabOk rfl rfl rfl (by kernel_rfl) (by kernel_rfl) rfl rfl y.pt_k x.pt_k (by rw [← InD.pt_iff]; simp [he])) ?_
    refine x_ ?_
    exact RQ.ret1 rfl (Res.tmp rfl) fun w' hm => ⟨by rw [decide_eq_true he], hm.fr⟩
  · refine Run.a (Val.eqC (p := false) (ks := List.replicate 8 .u8 ++ [.i64]) tabOk rfl rfl rfl (by kernel_rfl) (by kernel_rfl) rfl rfl y.pt_k x.pt_k (by rw [← InD.pt_iff]; simp [he])) ?_
    refine x_ ?_
    exact RQ.ret1 rfl (Res.tmp rfl) fun w' hm => ⟨by rw [decide_eq_false he], hm.fr⟩
set_option maxRecDepth 10000 in set_option maxHeartbeats 4000000 in
theorem TIndexF_calls (l : List InD) (hll : l.length ≤ 4096) (x : InD) (a : Option Addr) (cap b4 : Nat) (w : World) (hs : SrcW w 298 (.slice a l.length cap) l.length (rws InD.c l)) (h4 : w.heap[b4]? = some (.cells x.c.toArray 173 (0, 0))) :
    Calls Tryz.prog 166 #[.slice a l.length cap, .func (.func 158) #[] #[.pointer (some ⟨b4, 0, none⟩)]] w fun e w' => ∃ z : Int, e = .returned (.int .i64 z) ∧ decide (0 ≤ z) = decide (hasF l x) ∧ Fr [] w w' := by
  refine enter (vs := [.slice a l.length cap, .func (.func 158) #[] #[.pointer (some ⟨b4, 0, none⟩)]]) Tryz.func166 rfl (Mem.nil w []) rfl ?_
  refine x_ ?_
  refine RC.up l.length (D := Unit) (fun k _ => ∀ y ∈ l.take k, y.fr ≠ x.fr) (fun k _ => [(8, .int .i64 k), (7, .int .i64 l.length), (6, .slice a l.length cap), (1, .func (.func 158) #[] #[.pointer (some ⟨b4, 0, none⟩)]), (0, .slice a l.length cap)]) (fun _ _ => []) 0 () (Nat.zero_le _) (by simp) ⟨rfl, rfl, rfl, rfl, rfl, trivial⟩ (List.Sublist.refl _) ?_
  intro k _ hk hin
  refine x_ ?_
  (repeat refine RC.seq ?_); refine RC.wh rfl (fun h => RQ.next ?_) (fun h => ?_)
  · have hk' : k < l.length := by have := of_decide_eq_true h; omega
    clear h
    obtain ⟨p, hx⟩ : ∃ p, l[k]? = some p := ⟨_, List.getElem?_eq_getElem hk'⟩
    obtain ⟨ad, c', hv', hc', hcl, hr⟩ := hs.pos (by omega)
    cases hv'
    have q1 : At w (ad.add (k * 298)) p.c := At.mk fun j u hj => by rw [add_add]; exact hr _ u (rws_at InD.len hx j u hj)
    have hl := p.len
    refine x_ ?_
    refine Run.op1 (OpTo.callFV [.agg p.c.toArray, .pointer (some ⟨b4, 0, none⟩)] Tryz.func158 (fun w' hm => Tins1_calls x p b4 w' (hm.old h4))) (fun _ => ?_)
    by_cases he : p.fr = x.fr
    · rw [decide_eq_true he]
      refine x_ ?_
      exact RQ.ret1 rfl (Res.tmp rfl) fun w' hm => ⟨_, rfl, by rw [decide_eq_true (by omega), decide_eq_true (show hasF l x from ⟨p, List.mem_of_getElem? hx, he⟩)], hm.fr⟩
    · rw [decide_eq_false he]
      refine x_ ?_
      exact RQ.up (k + 1) () (Nat.lt_succ_self _) hk' (take_all hx hin he) ⟨rfl, rfl, rfl, rfl, rfl, trivial⟩ (by repeat (first | exact List.nil_sublist _ | exact List.Sublist.refl _ | apply List.Sublist.cons_cons | apply List.Sublist.cons | apply Go.Vc.subApp))
  · have hk' : k = l.length := by have := of_decide_eq_false h; omega
    clear h
    subst hk'
    rw [List.take_length] at hin
    (repeat refine RQ.thenExit ?_); refine RQ.blockHere ?_
    refine x_ ?_
    exact RQ.ret1 rfl (Res.tmp rfl) fun w' hm => ⟨_, rfl, by rw [decide_eq_false (show ¬ hasF l x from fun ⟨y, h1, h2⟩ => hin y h1 h2)]; rfl, hm.fr⟩
set_option maxRecDepth 10000 in set_option maxHeartbeats 4000000 in
theorem TContainsF_calls (l : List InD) (hll : l.length ≤ 4096) (x : InD) (a : Option Addr) (cap b4 : Nat) (w : World) (hs : SrcW w 298 (.slice a l.length cap) l.length (rws InD.c l)) (h4 : w.heap[b4]? = some (.cells x.c.toArray 173 (0, 0))) :
    Gives Tryz.prog 157 [.slice a l.length cap, .func (.func 158) #[] #[.pointer (some ⟨b4, 0, none⟩)]] (.bool (decide (hasF l x))) w := by
  refine enter Tryz.func157 rfl (Mem.nil w []) rfl ?_
  refine x_ ?_
  refine Run.op1 (OpTo.call (Y := {z : Int // decide (0 ≤ z) = decide (hasF l x)}) (V := fun z => .int .i64 z.1) (L' := fun _ => []) Tryz.func166 rfl rfl rfl rfl rfl rfl (fun w' hm => (TIndexF_calls l hll x a cap b4 w' (hs.fr hm.fr) (hm.old h4)).mono (by
    rintro e w'' ⟨z, rfl, hz, hf⟩
    exact ⟨⟨z, hz⟩, rfl, hm.ext hf⟩))) ?_
  rintro ⟨z, hz⟩
  dsimp only
  refine x_ ?_
  exact RQ.ret1 rfl (Res.tmp rfl) fun w' hm => ⟨by rw [← hz], hm.fr⟩
set_option maxRecDepth 10000 in set_option maxHeartbeats 4000000 in
theorem Tins_calls (l : List InD) (hll : l.length ≤ 4096) (aA : Option Addr) (cA : Nat) (w : World) (hs : SrcW w 298 (.slice aA l.length cA) l.length (rws InD.c l)) : Gives Tryz.prog 126 [.slice aA l.length cA] (.bool (decide (mayI l))) w := by
  refine enter Tryz.func126 rfl (Mem.nil w []) rfl ?_
  have hno : ∀ (w' : World), Fr [] w w' → ¬ mayI l → Ending.returned (.bool false) = Ending.returned (.bool (decide (mayI l))) ∧ Fr [] w w' := fun w' hf h => ⟨by rw [decide_eq_false h], hf⟩
  refine x_ ?_
  refine RC.up l.length (D := Unit) (fun k _ => (∀ o ∈ l.take k, o.may) ∧ ((l.take k).map InD.fr).Nodup) (fun k _ => [(8, .int .i64 k), (7, .int .i64 l.length), (6, .slice aA l.length cA), (0, .slice aA l.length cA)]) (fun _ _ => []) 0 () (Nat.zero_le _) (by simp) ⟨rfl, rfl, rfl, rfl, trivial⟩ (List.Sublist.refl _) ?_
  rintro k _ hk ⟨hin, hnd⟩
  refine x_ ?_
  (repeat refine RC.seq ?_); refine RC.wh rfl (fun h => RQ.next ?_) (fun h => ?_)
  · have hk' : k < l.length := by have := of_decide_eq_true h; omega
    clear h
    obtain ⟨x, hx⟩ : ∃ p, l[k]? = some p := ⟨_, List.getElem?_eq_getElem hk'⟩
    obtain ⟨ad, c', hv', hc', hcl, hr⟩ := hs.pos (by omega)
    cases hv'
    have q1 : At w (ad.add (k * 298)) x.c := At.mk fun j u hj => by rw [add_add]; exact hr _ u (rws_at InD.len hx j u hj)
    have hxl := x.len
    have n1 := x.one
    obtain ⟨_, _, qi, _, qz, _⟩ := in_rd x
    have hpm : x.may ↔ (0 ≤ x.i ∧ x.i ≤ 255) ∧ (0 ≤ x.s.z ∧ x.s.z ≤ 255) := Iff.rfl
    have c1 : Knows Tryz.prog w 124 [.int .i64 x.i, .int .i64 0, .int .i64 255] (.bool (decide (0 ≤ x.i ∧ x.i ≤ 255))) := Knows.mk Tryz.func124 (fun w' _ => Twithin_calls _ 0 255 w')
    have c2 : Knows Tryz.prog w 124 [.int .i64 x.s.z, .int .i64 0, .int .i64 255] (.bool (decide (0 ≤ x.s.z ∧ x.s.z ≤ 255))) := Knows.mk Tryz.func124 (fun w' _ => Twithin_calls _ 0 255 w')
    have hG : ∀ b4 w', w'.heap[b4]? = some (.cells x.c.toArray 173 (0, 0)) → Fr [] w w' → Gives Tryz.prog 157 [.slice (some ad) k cA, .func (.func 158) #[] #[.pointer (some ⟨b4, 0, none⟩)]] (.bool (decide (hasF (l.take k) x))) w' := fun b4 w' h4 hf => by
      have hkl : (l.take k).length = k := by rw [List.length_take]; omega
      have := TContainsF_calls (l.take k) (by omega) x (some ad) cA b4 w' (by
        have := (hs.fr hf).tk (k := k) (by omega)
        rw [hkl]
        rw [show rws InD.c (l.take k) = (rws InD.c l).take (k * 298) from by
          conv => rhs; rw [← List.take_append_drop k l, rws_app]
          rw [List.take_left' (by rw [rws_len InD.len, hkl])]]
        exact this) h4
      rw [hkl] at this
      exact this
    generalize hxc : x.c = G at q1 hxl n1 qi qz hG
    refine x_ ?_
    refine Run.nw nal ?_
    intro b4
    refine x_ ?_
    refine Run.op1 (osa (arr := ti173.zero.cells) G.toArray n1 (hs := by rw [List.size_toArray, hxl]; rfl)) (fun _ => ?_)
    refine x_ ?_
    refine Run.a (Val.sHi tabOk k rfl rfl rfl rfl rfl rfl (by omega) (by omega)) ?_
    refine Run.a (Val.mkFn (fs := []) (cs := [.tmp 4])) ?_
    refine Run.op1 (OpTo.cv Tryz.func157 (fun w' hm => hG b4 w' (hm.has (b4, _) (by repeat (first | exact List.mem_cons_self | apply List.mem_cons_of_mem | apply List.mem_append_right))) hm.fr)) (fun _ => ?_)
    by_cases hf : hasF (l.take k) x
    · rw [decide_eq_true hf]
      refine x_ ?_
      obtain ⟨y, hy, he⟩ := hf
      obtain ⟨j, hj⟩ := List.mem_iff_getElem?.1 hy
      have hj2 := (List.getElem?_eq_some_iff.1 hj).1
      rw [List.length_take] at hj2
      rw [List.getElem?_take, if_pos (by omega)] at hj
      exact RQ.ret1 rfl (Res.tmp rfl) fun w' hm => hno w' hm.fr (fun h => fr_twice hx hj (by omega) he h.2.1)
    rw [decide_eq_false hf]
    by_cases h1 : 0 ≤ x.i ∧ x.i ≤ 255
    rotate_left
    · rw [decide_eq_false h1] at c1
      refine x_ ?_
      exact RQ.ret1 rfl (Res.tmp rfl) fun w' hm => hno w' hm.fr (fun h => h1 (h.1 x (List.mem_of_getElem? hx)).1)
    rw [decide_eq_true h1] at c1
    by_cases h2 : 0 ≤ x.s.z ∧ x.s.z ≤ 255
    rotate_left
    · rw [decide_eq_false h2] at c2
      refine x_ ?_
      exact RQ.ret1 rfl (Res.tmp rfl) fun w' hm => hno w' hm.fr (fun h => h2 (h.1 x (List.mem_of_getElem? hx)).2)
    rw [decide_eq_true h2] at c2
    refine x_ ?_
    exact RQ.up (k + 1) () (Nat.lt_succ_self _) hk' ⟨take_all hx hin ⟨h1, h2⟩, fr_step hx hnd (fun j hj y hy he => hf ⟨y, List.mem_iff_getElem?.2 ⟨j, by rw [List.getElem?_take, if_pos hj]; exact hy⟩, he⟩)⟩ ⟨rfl, rfl, rfl, rfl, trivial⟩ (by repeat (first | exact List.nil_sublist _ | exact List.Sublist.refl _ | apply List.Sublist.cons_cons | apply List.Sublist.cons | apply Go.Vc.subApp))
  · have hk' : k = l.length := by have := of_decide_eq_false h; omega
    clear h
    rw [hk', List.take_length] at hin hnd
    clear hk' hk
    have c1 : Knows Tryz.prog w 124 [.int .i64 l.length, .int .i64 1, .int .i64 8] (.bool (decide (1 ≤ (l.length : Int) ∧ (l.length : Int) ≤ 8))) := Knows.mk Tryz.func124 (fun w' _ => Twithin_calls _ 1 8 w')
    have e : decide (1 ≤ (l.length : Int) ∧ (l.length : Int) ≤ 8) = decide (mayI l) := decide_eq_decide.2 ⟨fun h => ⟨hin, hnd, by omega, by omega⟩, fun h => by have := h.2.2; omega⟩
    (repeat refine RQ.thenExit ?_); refine RQ.blockHere ?_
    refine x_ ?_
    exact RQ.ret1 rfl (Res.tmp rfl) fun w' hm => ⟨by rw [e], hm.fr⟩
end Go.Proofs.YtfoeakgnkfcbjaaGreatDoor
end
section
/- floats: Of. -/
namespace Go.Proofs.YtfoeakgnkfcbjaaGreatDoor
attribute [local irreducible] Go.Vc.Run Go.Vc.RC Go.Vc.RQ Go.Vc.DR Go.Vc.DOp Go.Vc.Knows Go.Vc.At
set_option maxHeartbeats 400000
set_option maxRecDepth 10000
open Go Go.Vc Go.Sha
theorem num8_take {z : Nat} : ∀ (l : List Nat) (k : Nat), l[k]? = some z → num8 (l.take (k + 1)) = num8 (l.take k) + z * 2 ^ (8 * k)
  | [], k, h => by cases h
  | a :: l, 0, h => by
    obtain rfl : a = z := by injection h
    show a + 256 * num8 (l.take 0) = num8 [] + a * 1
    show a + 256 * 0 = 0 + a * 1
    omega
  | a :: l, k + 1, h => by
    have ih := num8_take l k (by simpa using h)
    show a + 256 * num8 (l.take (k + 1)) = a + 256 * num8 (l.take k) + z * 2 ^ (8 * (k + 1))
    rw [ih, show 8 * (k + 1) = 8 * k + 8 by omega, Nat.pow_add, Nat.mul_add, show 256 * (z * 2 ^ (8 * k)) = z * (2 ^ (8 * k) * 2 ^ 8) from by rw [Nat.mul_comm (2 ^ (8 * k)) (2 ^ 8), ← Nat.mul_assoc, ← Nat.mul_assoc, Nat.mul_comm z (2 ^ 8)], Nat.add_assoc]
theorem orV {a b k : Nat} (ha : a < 2 ^ (8 * k)) (hb : b < 256) (hk : k < 8) : IntKind.u64.wrap ((BitVec.ofInt IntKind.u64.bits (a : Int) ||| BitVec.ofInt IntKind.u64.bits (IntKind.u64.wrap ((b : Int) * 2 ^ min (8 * (k : Int)).toNat IntKind.u64.bits))).toNat : Nat) = ((a + b * 2 ^ (8 * k) : Nat) : Int) := by
  have hp : 2 ^ (8 * k) ≤ 2 ^ 56 := Nat.pow_le_pow_right (by decide) (by omega)
  have hp8 : b * 2 ^ (8 * k) ≤ 255 * 2 ^ 56 := Nat.mul_le_mul (by omega) hp
  have hlt : b * 2 ^ (8 * k) < 18446744073709551616 := by omega
  have hal : a < 18446744073709551616 := by omega
  have hs : (b + 1) * 2 ^ (8 * k) ≤ 256 * 2 ^ 56 := Nat.mul_le_mul (by omega) hp
  rw [Nat.add_mul, Nat.one_mul] at hs
  have e1 : IntKind.u64.wrap ((b : Int) * 2 ^ min (8 * (k : Int)).toNat IntKind.u64.bits) = ((b * 2 ^ (8 * k) : Nat) : Int) := by
    rw [show min (8 * (k : Int)).toNat IntKind.u64.bits = 8 * k from by show min (8 * (k : Int)).toNat 64 = 8 * k; omega]
    rw [show (b : Int) * 2 ^ (8 * k) = ((b * 2 ^ (8 * k) : Nat) : Int) from by rw [Int.natCast_mul, Int.natCast_pow]; rfl]
    exact wrap_in (by simp only [inK]; omega)
  have o64 : ∀ n : Nat, n < 18446744073709551616 → (BitVec.ofInt IntKind.u64.bits (n : Int)).toNat = n := fun n h => by
    rw [BitVec.toNat_ofInt]
    show ((n : Int) % 18446744073709551616).toNat = n
    omega
  have e2 : (BitVec.ofInt IntKind.u64.bits (a : Int) ||| BitVec.ofInt IntKind.u64.bits ((b * 2 ^ (8 * k) : Nat) : Int)).toNat = a + b * 2 ^ (8 * k) := by
    rw [BitVec.toNat_or, o64 a hal, o64 _ hlt, Nat.or_comm, Nat.mul_comm b, ← Nat.two_pow_add_eq_or_of_lt ha, Nat.add_comm]
  rw [e1, e2]
  exact wrap_in (by simp only [inK]; omega)
set_option maxRecDepth 10000 in set_option maxHeartbeats 4000000 in
theorem FOf_calls (b : List Nat) (hb8 : b.length = 8) (hb : ∀ z ∈ b, z < 256) (w : World) : Gives Tryz.prog 43 [.agg (u8s b).toArray] (.float .f64 (num8 b)) w := by
  refine enter Tryz.func43 rfl (Mem.nil w []) rfl ?_
  have hb1 : (u8s b).toArray.size = 8 := by rw [List.size_toArray, u8s_len, hb8]
  refine z_ ?_
  refine Run.nw nbx ?_
  intro b1
  refine x_ ?_
  refine RC.up 8 (D := Unit) (fun _ _ => True) (fun k _ => [(7, .int .i64 k), (6, .agg (u8s b).toArray), (3, .int .u64 (num8 (b.take k) : Nat)), (1, .pointer (some ⟨b1, 0, none⟩))]) (fun k _ => [(b1, Obj.cells (u8s b).toArray 22 (0, 0))]) 0 () (by decide) trivial ⟨rfl, rfl, rfl, rfl, trivial⟩ (List.Sublist.refl _) ?_
  intro k _ hk _
  by_cases hk' : k < 8
  · obtain ⟨z, hz⟩ : ∃ z, b[k]? = some z := ⟨_, List.getElem?_eq_getElem (by omega)⟩
    have hz2 := hb z (List.mem_of_getElem? hz)
    have hn := num8_take b k hz
    have hlt := num8_lt (b.take k) (fun y hy => hb y (List.mem_of_mem_take hy))
    rw [List.length_take, Nat.min_eq_left (by omega)] at hlt
    have hat : partOf ti5 (u8s b).toArray k = some (.int .u8 (z : Int)) := by
      have hc : (u8s b)[k]? = some (.int .u8 (z : Int)) := by unfold u8s; rw [List.getElem?_map, hz]; rfl
      show (u8s b).toArray[k]? = _
      rw [List.getElem?_toArray]
      exact hc
    refine x_ ?_
    refine Run.a (Val.indexN tabOk k (v := .int .u8 (z : Int)) rfl rfl rfl rfl rfl rfl rfl hk' (by simp only [ti5, Nat.mul_one]; exact hat)) ?_
    refine x_ ?_
    rw [orV hlt hz2 hk', ← hn]
    exact RQ.up (k + 1) () (Nat.lt_succ_self _) hk' trivial ⟨rfl, rfl, rfl, rfl, trivial⟩ (List.Sublist.refl _)
  · obtain rfl : k = 8 := by omega
    rw [List.take_of_length_le (Nat.le_of_eq hb8)]
    refine x_ ?_
    refine Run.a (Val.ext (v := .float .f64 (num8 b)) Tryz.func78 xFrom (fun w => rfl) nFrom) ?_
    refine x_ ?_
    exact RQ.ret1 rfl (Res.tmp rfl) fun w' hm => ⟨rfl, hm.fr⟩
end Go.Proofs.YtfoeakgnkfcbjaaGreatDoor
end
