/- Lemmas. -/
import Derived.Test.YtkkfaffehbjdgaaGreatDoorPk20
set_option linter.unusedSimpArgs false
set_option linter.unusedVariables false
section
/- tx: the plain law: transactions, their bytes, whether they may be; reading. -/
namespace Go.Proofs.YtkkfaffehbjdgaaGreatDoor
open Go Go.Vc Go.Sha
/-- So many bytes. -/
abbrev By (n : Nat) := {l : List Nat // l.length = n ∧ ∀ x ∈ l, x < 256}
def By.z (n : Nat) : By n := ⟨List.replicate n 0, List.length_replicate, fun x hx => by rw [(List.mem_replicate.1 hx).2]; decide⟩
/-- A signature. -/
structure SigD where
  z : Int
  op : By 128
  sh : By 128
  pa : By 24
def SigD.c (s : SigD) : List Value := sigC s.z s.op.1 s.sh.1 s.pa.1
theorem SigD.len (s : SigD) : s.c.length = 281 := sigC_len s.op.2.1 s.sh.2.1 s.pa.2.1
theorem SigD.one (s : SigD) : ∀ u ∈ s.c, u.oneCell' = true := sigC_one
def SigD.b (s : SigD) : List Nat := le s.z.toNat 1 ++ (s.op.1 ++ (s.sh.1 ++ s.pa.1))
def SigD.nul : SigD := ⟨0, By.z _, By.z _, By.z _⟩
/-- An input. -/
structure InD where
  tx : By 8
  i : Int
  key : By 8
  s : SigD
def InD.c (x : InD) : List Value := u8s x.tx.1 ++ (.int .i64 x.i :: (u8s x.key.1 ++ x.s.c))
theorem InD.len (x : InD) : x.c.length = 298 := by
  unfold InD.c
  simp only [List.length_cons, List.length_append, u8s_len, x.tx.2.1, x.key.2.1, x.s.len]
theorem InD.one (x : InD) : ∀ u ∈ x.c, u.oneCell' = true := by
  intro u hu
  unfold InD.c at hu
  simp only [List.mem_cons, List.mem_append] at hu
  rcases hu with hu | rfl | hu | hu
  · exact u8s_one _ u hu
  · rfl
  · exact u8s_one _ u hu
  · exact x.s.one u hu
def InD.b (x : InD) : List Nat := x.tx.1 ++ (le x.i.toNat 1 ++ (x.key.1 ++ x.s.b))
/-- An output. -/
structure OutD where
  t : By 8
  am : Int
def OutD.c (x : OutD) : List Value := u8s x.t.1 ++ [.int .i64 x.am]
theorem OutD.len (x : OutD) : x.c.length = 9 := by unfold OutD.c; rw [List.length_append, u8s_len, x.t.2.1]; rfl
theorem OutD.one (x : OutD) : ∀ u ∈ x.c, u.oneCell' = true := by
  intro u hu
  unfold OutD.c at hu
  rcases List.mem_append.1 hu with hu | hu
  · exact u8s_one _ u hu
  · rw [List.mem_singleton] at hu; subst hu; rfl
def OutD.b (x : OutD) : List Nat := x.t.1 ++ le x.am.toNat 7
/-- A forward. -/
structure FoD where
  sd : Int
  ac : Int
  o : By 8
  am : Int
def FoD.c (x : FoD) : List Value := .int .i64 x.sd :: .int .i64 x.ac :: (u8s x.o.1 ++ [.int .i64 x.am])
theorem FoD.len (x : FoD) : x.c.length = 11 := by
  unfold FoD.c
  simp only [List.length_cons, List.length_append, u8s_len, x.o.2.1, List.length_nil]
theorem FoD.one (x : FoD) : ∀ u ∈ x.c, u.oneCell' = true := by
  intro u hu
  unfold FoD.c at hu
  simp only [List.mem_cons, List.mem_append, List.not_mem_nil, or_false] at hu
  rcases hu with rfl | rfl | hu | rfl
  · rfl
  · rfl
  · exact u8s_one _ u hu
  · rfl
def FoD.b (x : FoD) : List Nat := le x.sd.toNat 1 ++ (le x.ac.toNat 2 ++ (x.o.1 ++ le x.am.toNat 7))
/-- A signature of one of several. -/
structure SgD where
  k : Int
  s : SigD
def SgD.c (x : SgD) : List Value := .int .i64 x.k :: x.s.c
theorem SgD.len (x : SgD) : x.c.length = 282 := by unfold SgD.c; rw [List.length_cons, x.s.len]
theorem SgD.one (x : SgD) : ∀ u ∈ x.c, u.oneCell' = true := by
  intro u hu
  unfold SgD.c at hu
  rcases List.mem_cons.1 hu with rfl | hu
  · rfl
  · exact x.s.one u hu
def SgD.b (x : SgD) : List Nat := le x.k.toNat 1 ++ x.s.b
/-- How many there are, and each of them. -/
def rowB {α : Type} (b : α → List Nat) (l : List α) : List Nat := le l.length 1 ++ (l.map b).flatten
/-- Parameters. -/
structure PrD where
  ln : Int
  wd : Int
  nd : Int
  ks : List (By 8)
def PrD.nul : PrD := ⟨0, 0, 0, []⟩
def PrD.b (p : PrD) : List Nat := le p.ln.toNat 1 ++ (le p.wd.toNat 1 ++ (le p.nd.toNat 1 ++ rowB (fun k : By 8 => k.1) p.ks))
/-- A certificate. -/
structure CeD where
  sd : Int
  ep : Int
  ql : Int
  en : By 8
  ro : By 8
  os : List OutD
  sg : List SgD
def CeD.nul : CeD := ⟨0, 0, 0, By.z _, By.z _, [], []⟩
def CeD.b (c : CeD) : List Nat := le c.sd.toNat 1 ++ (le c.ep.toNat 4 ++ (le c.ql.toNat 4 ++ (c.en.1 ++ (c.ro.1 ++ (rowB OutD.b c.os ++ rowB SgD.b c.sg)))))
/-- A claim. -/
structure ClD where
  sd : Int
  ac : Int
  o : By 8
  am : Int
  no : Int
  pf : By 128
def ClD.nul : ClD := ⟨0, 0, By.z _, 0, 0, By.z _⟩
def ClD.c (l : ClD) : List Value := .int .i64 l.sd :: .int .i64 l.ac :: (u8s l.o.1 ++ (.int .i64 l.am :: .int .i64 l.no :: u8s l.pf.1))
theorem ClD.len (l : ClD) : l.c.length = 140 := by
  unfold ClD.c
  simp only [List.length_cons, List.length_append, u8s_len, l.o.2.1, l.pf.2.1]
def ClD.b (l : ClD) : List Nat := le l.sd.toNat 1 ++ (le l.ac.toNat 2 ++ (l.o.1 ++ (le l.am.toNat 7 ++ (le l.no.toNat 1 ++ l.pf.1))))
/-- A transaction. -/
structure TxD where
  kd : Int
  ht : Int
  is : List InD
  os : List OutD
  fs : List FoD
  p : PrD
  c : CeD
  l : ClD
def TxD.nul (kd : Int) : TxD := ⟨kd, 0, [], [], [], PrD.nul, CeD.nul, ClD.nul⟩
/-- Its bytes. -/
def TxD.b (t : TxD) : List Nat := le t.kd.toNat 1 ++
  (if t.kd = 1 then le t.ht.toNat 4 ++ rowB OutD.b t.os
  else if t.kd = 2 then rowB InD.b t.is ++ (rowB OutD.b t.os ++ rowB FoD.b t.fs)
  else if t.kd = 3 then t.p.b
  else if t.kd = 4 then t.c.b
  else if t.kd = 5 then t.l.b
  else [])
def maxMo : Int := 1125899906842624
def OutD.may (o : OutD) : Prop := o.t.1 ≠ zero8 ∧ 1 ≤ o.am ∧ o.am ≤ maxMo
def FoD.may (f : FoD) : Prop := (0 ≤ f.sd ∧ f.sd ≤ 7) ∧ (0 ≤ f.ac ∧ f.ac ≤ 65535) ∧ f.o.1 ≠ zero8 ∧ 1 ≤ f.am ∧ f.am ≤ maxMo
def InD.may (x : InD) : Prop := (0 ≤ x.i ∧ x.i ≤ 255) ∧ (0 ≤ x.s.z ∧ x.s.z ≤ 255)
def SgD.may (x : SgD) : Prop := (0 ≤ x.k ∧ x.k ≤ 4) ∧ (0 ≤ x.s.z ∧ x.s.z ≤ 255)
def InD.fr (x : InD) : List Nat × Int := (x.tx.1, x.i)
def mayO (l : List OutD) : Prop := (∀ o ∈ l, o.may) ∧ l.length ≤ 16
def mayF (l : List FoD) : Prop := (∀ f ∈ l, f.may) ∧ l.length ≤ 16
def mayI (l : List InD) : Prop := (∀ x ∈ l, x.may) ∧ (l.map InD.fr).Nodup ∧ 1 ≤ l.length ∧ l.length ≤ 8
def CeD.may (c : CeD) : Prop := (∀ s ∈ c.sg, s.may) ∧ ((0 ≤ c.sd ∧ c.sd ≤ 7) ∧ (0 ≤ c.ep ∧ c.ep ≤ 400) ∧ (0 ≤ c.ql ∧ c.ql ≤ 2147483647)) ∧ mayO c.os ∧ (1 ≤ c.sg.length ∧ c.sg.length ≤ 5)
def ClD.may (l : ClD) : Prop := ((0 ≤ l.sd ∧ l.sd ≤ 7) ∧ (0 ≤ l.ac ∧ l.ac ≤ 65535)) ∧ l.o.1 ≠ zero8 ∧ (1 ≤ l.am ∧ l.am ≤ maxMo) ∧ (0 ≤ l.no ∧ l.no ≤ 255)
end Go.Proofs.YtkkfaffehbjdgaaGreatDoor

/- tx: the plain law of reading. -/
namespace Go.Proofs.YtkkfaffehbjdgaaGreatDoor
open Go Go.Vc Go.Sha
theorem le_lt (n : Nat) : ∀ k, ∀ x ∈ le n k, x < 256
  | 0, x, hx => by cases hx
  | k + 1, x, hx => by
    rcases List.mem_append.1 hx with hx | hx
    · exact le_lt n k x hx
    · rw [List.mem_singleton] at hx; subst hx; exact Nat.mod_lt _ (by decide)
def Bt (l : List Nat) : Prop := ∀ x ∈ l, x < 256
/-- It fits in so many bytes. -/
def rg (k : Nat) (n : Int) : Prop := 0 ≤ n ∧ n.toNat < 2 ^ (8 * k)
theorem bt_app {a b : List Nat} (h : Bt a) (k : Bt b) : Bt (a ++ b) := fun x hx => (List.mem_append.1 hx).elim (h x) (k x)
theorem bt_row {α : Type} {E : α → List Nat} {xs : List α} (h : ∀ x ∈ xs, Bt (E x)) : Bt (rowB E xs) := bt_app (le_lt _ _) fun z hz => by
  obtain ⟨m, hm, hz⟩ := List.mem_flatten.1 hz
  obtain ⟨y, hy, rfl⟩ := List.mem_map.1 hm
  exact h y hy z hz
end Go.Proofs.YtkkfaffehbjdgaaGreatDoor

/- tx: the plain law: reading of each part, and of a whole transaction. -/
namespace Go.Proofs.YtkkfaffehbjdgaaGreatDoor
open Go Go.Vc Go.Sha
theorem bt_by {n : Nat} (b : By n) : Bt b.1 := b.2.2
theorem bt_le (n k : Nat) : Bt (le n k) := le_lt n k
/-- Signatures. -/
def SigD.rg (s : SigD) : Prop := Go.Proofs.YtkkfaffehbjdgaaGreatDoor.rg 1 s.z
theorem SigD.bt (s : SigD) : Bt s.b := bt_app (bt_le _ _) (bt_app (bt_by _) (bt_app (bt_by _) (bt_by _)))
/-- Inputs. -/
def InD.rg (x : InD) : Prop := Go.Proofs.YtkkfaffehbjdgaaGreatDoor.rg 1 x.i ∧ x.s.rg
theorem InD.bt (x : InD) : Bt x.b := bt_app (bt_by _) (bt_app (bt_le _ _) (bt_app (bt_by _) x.s.bt))
/-- Outputs. -/
def OutD.rg (x : OutD) : Prop := Go.Proofs.YtkkfaffehbjdgaaGreatDoor.rg 7 x.am
theorem OutD.bt (x : OutD) : Bt x.b := bt_app (bt_by _) (bt_le _ _)
/-- Forwards. -/
def FoD.rg (x : FoD) : Prop := Go.Proofs.YtkkfaffehbjdgaaGreatDoor.rg 1 x.sd ∧ Go.Proofs.YtkkfaffehbjdgaaGreatDoor.rg 2 x.ac ∧ Go.Proofs.YtkkfaffehbjdgaaGreatDoor.rg 7 x.am
theorem FoD.bt (x : FoD) : Bt x.b := bt_app (bt_le _ _) (bt_app (bt_le _ _) (bt_app (bt_by _) (bt_le _ _)))
/-- Signatures of several. -/
def SgD.rg (x : SgD) : Prop := Go.Proofs.YtkkfaffehbjdgaaGreatDoor.rg 1 x.k ∧ x.s.rg
theorem SgD.bt (x : SgD) : Bt x.b := bt_app (bt_le _ _) x.s.bt
/-- Parameters. -/
def PrD.rg (p : PrD) : Prop := Go.Proofs.YtkkfaffehbjdgaaGreatDoor.rg 1 p.ln ∧ Go.Proofs.YtkkfaffehbjdgaaGreatDoor.rg 1 p.wd ∧ Go.Proofs.YtkkfaffehbjdgaaGreatDoor.rg 1 p.nd ∧ p.ks.length < 256
theorem PrD.bt (p : PrD) : Bt p.b := bt_app (bt_le _ _) (bt_app (bt_le _ _) (bt_app (bt_le _ _) (bt_row fun _ _ => bt_by _)))
/-- Certificates. -/
def CeD.rg (c : CeD) : Prop := Go.Proofs.YtkkfaffehbjdgaaGreatDoor.rg 1 c.sd ∧ Go.Proofs.YtkkfaffehbjdgaaGreatDoor.rg 4 c.ep ∧ Go.Proofs.YtkkfaffehbjdgaaGreatDoor.rg 4 c.ql ∧ (c.os.length < 256 ∧ ∀ o ∈ c.os, o.rg) ∧ (c.sg.length < 256 ∧ ∀ s ∈ c.sg, s.rg)
theorem bt_outs (l : List OutD) : Bt (rowB OutD.b l) := bt_row fun o _ => o.bt
theorem bt_sgs (l : List SgD) : Bt (rowB SgD.b l) := bt_row fun o _ => o.bt
theorem CeD.bt (c : CeD) : Bt c.b := bt_app (bt_le _ _) (bt_app (bt_le _ _) (bt_app (bt_le _ _) (bt_app (bt_by _) (bt_app (bt_by _) (bt_app (bt_outs _) (bt_sgs _))))))
/-- Claims. -/
def ClD.rg (l : ClD) : Prop := Go.Proofs.YtkkfaffehbjdgaaGreatDoor.rg 1 l.sd ∧ Go.Proofs.YtkkfaffehbjdgaaGreatDoor.rg 2 l.ac ∧ Go.Proofs.YtkkfaffehbjdgaaGreatDoor.rg 7 l.am ∧ Go.Proofs.YtkkfaffehbjdgaaGreatDoor.rg 1 l.no
theorem ClD.bt (l : ClD) : Bt l.b := bt_app (bt_le _ _) (bt_app (bt_le _ _) (bt_app (bt_by _) (bt_app (bt_le _ _) (bt_app (bt_le _ _) (bt_by _)))))
/-- What a kind has. -/
def tCoin (ht : Int) (os : List OutD) : TxD := { TxD.nul 1 with ht := ht, os := os }
def tPay (is : List InD) (os : List OutD) (fs : List FoD) : TxD := { TxD.nul 2 with is := is, os := os, fs := fs }
def tCreate (p : PrD) : TxD := { TxD.nul 3 with p := p }
def tCert (c : CeD) : TxD := { TxD.nul 4 with c := c }
def tClaim (l : ClD) : TxD := { TxD.nul 5 with l := l }
inductive TxRg : TxD → Prop
  | coin (ht : Int) (os : List OutD) (h1 : rg 4 ht) (h2 : os.length < 256 ∧ ∀ o ∈ os, o.rg) : TxRg (tCoin ht os)
  | pay (is : List InD) (os : List OutD) (fs : List FoD) (h1 : is.length < 256 ∧ ∀ x ∈ is, x.rg) (h2 : os.length < 256 ∧ ∀ o ∈ os, o.rg) (h3 : fs.length < 256 ∧ ∀ f ∈ fs, f.rg) : TxRg (tPay is os fs)
  | create (p : PrD) (h : p.rg) : TxRg (tCreate p)
  | cert (c : CeD) (h : c.rg) : TxRg (tCert c)
  | claim (l : ClD) (h : l.rg) : TxRg (tClaim l)
  | none (k : Int) (h : 0 ≤ k ∧ k < 256) (h2 : k ≠ 1 ∧ k ≠ 2 ∧ k ≠ 3 ∧ k ≠ 4 ∧ k ≠ 5) : TxRg (TxD.nul k)
theorem bt_fos (l : List FoD) : Bt (rowB FoD.b l) := bt_row fun o _ => o.bt
theorem bt_ins (l : List InD) : Bt (rowB InD.b l) := bt_row fun o _ => o.bt
theorem b_coin (ht : Int) (os : List OutD) : (tCoin ht os).b = le 1 1 ++ (le ht.toNat 4 ++ rowB OutD.b os) := rfl
theorem b_pay (is : List InD) (os : List OutD) (fs : List FoD) : (tPay is os fs).b = le 2 1 ++ (rowB InD.b is ++ (rowB OutD.b os ++ rowB FoD.b fs)) := rfl
theorem b_create (p : PrD) : (tCreate p).b = le 3 1 ++ p.b := rfl
theorem b_cert (c : CeD) : (tCert c).b = le 4 1 ++ c.b := rfl
theorem b_claim (l : ClD) : (tClaim l).b = le 5 1 ++ l.b := rfl
theorem b_none {k : Int} (h : k ≠ 1 ∧ k ≠ 2 ∧ k ≠ 3 ∧ k ≠ 4 ∧ k ≠ 5) : (TxD.nul k).b = le k.toNat 1 := by
  unfold TxD.b
  have e : (TxD.nul k).kd = k := rfl
  rw [e, if_neg h.1, if_neg h.2.1, if_neg h.2.2.1, if_neg h.2.2.2.1, if_neg h.2.2.2.2, List.append_nil]
end Go.Proofs.YtkkfaffehbjdgaaGreatDoor

/- tx: the plain law: which transactions may be. -/
namespace Go.Proofs.YtkkfaffehbjdgaaGreatDoor
open Go Go.Vc Go.Sha
def PrD.may (p : PrD) : Prop := mayP p.ln p.wd p.nd (p.ks.map (·.1)) = true
/-- Whether a transaction may be. -/
inductive TxMay : TxD → Prop
  | coin (ht : Int) (os : List OutD) (h1 : 1 ≤ ht ∧ ht ≤ 400) (h2 : mayO os) : TxMay (tCoin ht os)
  | pay (is : List InD) (os : List OutD) (fs : List FoD) (h1 : mayI is) (h2 : mayO os) (h3 : mayF fs) (h4 : 0 < os.length + fs.length) : TxMay (tPay is os fs)
  | create (p : PrD) (h : p.may) : TxMay (tCreate p)
  | cert (c : CeD) (h : c.may) : TxMay (tCert c)
  | claim (l : ClD) (h : l.may) : TxMay (tClaim l)
noncomputable instance (t : TxD) : Decidable (TxMay t) := Classical.propDecidable _
theorem mayP_in {ln wd nd : Int} {l : List (List Nat)} (h : mayP ln wd nd l = true) : (1 ≤ l.length ∧ l.length ≤ 5) ∧ (1 ≤ nd ∧ nd ≤ l.length) ∧ (2 ≤ ln ∧ ln ≤ 64) ∧ (1 ≤ wd ∧ wd ≤ ln) := by
  unfold mayP at h
  simp only [Bool.and_eq_true, decide_eq_true_eq] at h
  omega
theorem rg_of {k : Nat} {n : Int} (h : 0 ≤ n) (h2 : n < 2 ^ (8 * k)) : rg k n := ⟨h, by
  have : n.toNat < 2 ^ (8 * k) := by
    have e : ((2 ^ (8 * k) : Nat) : Int) = 2 ^ (8 * k) := by norm_cast
    omega
  exact this⟩
theorem OutD.may_rg {o : OutD} (h : o.may) : o.rg := rg_of (by have := h.2.1; omega) (by have := h.2.2; unfold maxMo at this; show o.am < 72057594037927936; omega)
theorem FoD.may_rg {o : FoD} (h : o.may) : o.rg := by
  obtain ⟨h1, h2, h3, h4, h5⟩ := h
  unfold maxMo at h5
  exact ⟨rg_of h1.1 (by show o.sd < 256; omega), rg_of h2.1 (by show o.ac < 65536; omega), rg_of (by omega) (by show o.am < 72057594037927936; omega)⟩
theorem InD.may_rg {o : InD} (h : o.may) : o.rg := ⟨rg_of h.1.1 (by have := h.1.2; show o.i < 256; omega), rg_of h.2.1 (by have := h.2.2; show o.s.z < 256; omega)⟩
theorem SgD.may_rg {o : SgD} (h : o.may) : o.rg := ⟨rg_of h.1.1 (by have := h.1.2; show o.k < 256; omega), rg_of h.2.1 (by have := h.2.2; show o.s.z < 256; omega)⟩
theorem mayO_rg {l : List OutD} (h : mayO l) : l.length < 256 ∧ ∀ o ∈ l, o.rg := ⟨by have := h.2; omega, fun o ho => OutD.may_rg (h.1 o ho)⟩
theorem mayF_rg {l : List FoD} (h : mayF l) : l.length < 256 ∧ ∀ o ∈ l, o.rg := ⟨by have := h.2; omega, fun o ho => FoD.may_rg (h.1 o ho)⟩
theorem mayI_rg {l : List InD} (h : mayI l) : l.length < 256 ∧ ∀ o ∈ l, o.rg := ⟨by have := h.2.2.2; omega, fun o ho => InD.may_rg (h.1 o ho)⟩
theorem CeD.may_rg {c : CeD} (h : c.may) : c.rg := by
  obtain ⟨h1, ⟨h2, h3, h4⟩, h5, h6⟩ := h
  exact ⟨rg_of h2.1 (by show c.sd < 256; omega), rg_of h3.1 (by show c.ep < 4294967296; omega), rg_of h4.1 (by show c.ql < 4294967296; omega), mayO_rg h5, by omega, fun s hs => SgD.may_rg (h1 s hs)⟩
theorem ClD.may_rg {l : ClD} (h : l.may) : l.rg := by
  obtain ⟨⟨h1, h2⟩, h3, h4, h5⟩ := h
  unfold maxMo at h4
  exact ⟨rg_of h1.1 (by show l.sd < 256; omega), rg_of h2.1 (by show l.ac < 65536; omega), rg_of (by omega) (by show l.am < 72057594037927936; omega), rg_of h5.1 (by show l.no < 256; omega)⟩
theorem PrD.may_rg {p : PrD} (h : p.may) : p.rg := by
  obtain ⟨h1, h2, h3, h4⟩ := mayP_in h
  rw [List.length_map] at h1 h2
  exact ⟨rg_of (by omega) (by show p.ln < 256; omega), rg_of (by omega) (by show p.wd < 256; omega), rg_of (by omega) (by show p.nd < 256; omega), by omega⟩
theorem TxMay.rg {t : TxD} (h : TxMay t) : TxRg t := by
  cases h with
  | coin ht os h1 h2 => exact .coin _ _ (rg_of (by omega) (by show ht < 4294967296; omega)) (mayO_rg h2)
  | pay is os fs h1 h2 h3 h4 => exact .pay _ _ _ (mayI_rg h1) (mayO_rg h2) (mayF_rg h3)
  | create p h => exact .create _ (PrD.may_rg h)
  | cert c h => exact .cert _ (CeD.may_rg h)
  | claim l h => exact .claim _ (ClD.may_rg h)
/-- How long they are. -/
theorem SigD.bl (s : SigD) : s.b.length = 281 := by
  unfold SigD.b
  simp only [List.length_append, le_len, s.op.2.1, s.sh.2.1, s.pa.2.1]
theorem InD.bl (x : InD) : x.b.length = 298 := by
  unfold InD.b
  simp only [List.length_append, le_len, x.tx.2.1, x.key.2.1, x.s.bl]
theorem OutD.bl (x : OutD) : x.b.length = 15 := by
  unfold OutD.b
  simp only [List.length_append, le_len, x.t.2.1]
theorem FoD.bl (x : FoD) : x.b.length = 18 := by
  unfold FoD.b
  simp only [List.length_append, le_len, x.o.2.1]
theorem SgD.bl (x : SgD) : x.b.length = 282 := by
  unfold SgD.b
  simp only [List.length_append, le_len, x.s.bl]
theorem rowB_len {α : Type} {b : α → List Nat} {k : Nat} (h : ∀ x, (b x).length = k) (l : List α) : (rowB b l).length = 1 + l.length * k := by
  unfold rowB
  rw [List.length_append, le_len]
  congr 1
  induction l with
  | nil => simp
  | cons x l ih => rw [List.map_cons, List.flatten_cons, List.length_append, h, ih, List.length_cons, Nat.add_mul, Nat.one_mul, Nat.add_comm]
theorem PrD.bl (p : PrD) : p.b.length = 4 + p.ks.length * 8 := by
  unfold PrD.b
  rw [List.length_append, List.length_append, List.length_append, le_len, le_len, le_len, rowB_len (k := 8) (fun k => k.2.1)]
  omega
theorem CeD.bl (c : CeD) : c.b.length = 27 + c.os.length * 15 + c.sg.length * 282 := by
  unfold CeD.b
  simp only [List.length_append, le_len, c.en.2.1, c.ro.2.1, rowB_len OutD.bl, rowB_len SgD.bl]
  omega
theorem ClD.bl (l : ClD) : l.b.length = 147 := by
  unfold ClD.b
  simp only [List.length_append, le_len, l.o.2.1, l.pf.2.1]
theorem TxMay.bl {t : TxD} (h : TxMay t) : t.b.length ≤ 3000 := by
  cases h with
  | coin ht os h1 h2 =>
    have := h2.2
    rw [b_coin]
    simp only [List.length_append, le_len, rowB_len OutD.bl]
    omega
  | pay is os fs h1 h2 h3 h4 =>
    have := h2.2
    have := h3.2
    have := h1.2.2.2
    rw [b_pay]
    simp only [List.length_append, le_len, rowB_len OutD.bl, rowB_len InD.bl, rowB_len FoD.bl]
    omega
  | create p h =>
    have := (mayP_in h).1
    rw [List.length_map] at this
    rw [b_create, List.length_append, le_len, PrD.bl]
    omega
  | cert c h =>
    have := h.2.2.1.2
    have := h.2.2.2.2
    rw [b_cert, List.length_append, le_len, CeD.bl]
    omega
  | claim l h =>
    rw [b_claim, List.length_append, le_len, ClD.bl]
    omega
theorem TxD.bt {t : TxD} (h : TxRg t) : Bt t.b := by
  cases h with
  | coin ht os h1 h2 => rw [b_coin]; exact bt_app (bt_le _ _) (bt_app (bt_le _ _) (bt_outs _))
  | pay is os fs h1 h2 h3 => rw [b_pay]; exact bt_app (bt_le _ _) (bt_app (bt_ins _) (bt_app (bt_outs _) (bt_fos _)))
  | create p h => rw [b_create]; exact bt_app (bt_le _ _) p.bt
  | cert c h => rw [b_cert]; exact bt_app (bt_le _ _) c.bt
  | claim l h => rw [b_claim]; exact bt_app (bt_le _ _) l.bt
  | none k h h2 => rw [b_none h2]; exact bt_le _ _
end Go.Proofs.YtkkfaffehbjdgaaGreatDoor

/- tx: the plain law: kinds, what is signed. -/
namespace Go.Proofs.YtkkfaffehbjdgaaGreatDoor
open Go Go.Vc Go.Sha
end Go.Proofs.YtkkfaffehbjdgaaGreatDoor
end
