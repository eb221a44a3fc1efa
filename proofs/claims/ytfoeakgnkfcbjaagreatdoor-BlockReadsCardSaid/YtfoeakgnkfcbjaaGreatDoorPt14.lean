/- Lemmas. -/
import Derived.Test.YtfoeakgnkfcbjaaGreatDoorPt13
set_option linter.unusedSimpArgs false
set_option linter.unusedVariables false
section
/- tx: the plain law: transactions, their bytes, whether they may be; reading. -/
namespace Go.Proofs.YtfoeakgnkfcbjaaGreatDoor
open Go Go.Vc Go.Sha
/-- So many bytes. -/
abbrev By (n : Nat) := {l : List Nat // l.length = n ∧ ∀ x ∈ l, x < 256}
def By.z (n : Nat) : By n := ⟨List.replicate n 0, List.length_replicate, fun x hx => by rw [(List.mem_replicate.1 hx).2]; decide⟩
/-- A signature. -/
structure SigD where
  z : Int
  op : By 128
  sh : By 128
  pa : By 24
def SigD.c (s : SigD) : List Value := sigC s.z s.op.1 s.sh.1 s.pa.1
theorem SigD.len (s : SigD) : s.c.length = 281 := sigC_len s.op.2.1 s.sh.2.1 s.pa.2.1
theorem SigD.one (s : SigD) : ∀ u ∈ s.c, u.oneCell' = true := sigC_one
def SigD.b (s : SigD) : List Nat := le s.z.toNat 1 ++ (s.op.1 ++ (s.sh.1 ++ s.pa.1))
def SigD.nul : SigD := ⟨0, By.z _, By.z _, By.z _⟩
/-- An input. -/
structure InD where
  tx : By 8
  i : Int
  key : By 8
  s : SigD
def InD.c (x : InD) : List Value := u8s x.tx.1 ++ (.int .i64 x.i :: (u8s x.key.1 ++ x.s.c))
theorem InD.len (x : InD) : x.c.length = 298 := by
  unfold InD.c
  simp only [List.length_cons, List.length_append, u8s_len, x.tx.2.1, x.key.2.1, x.s.len]
theorem InD.one (x : InD) : ∀ u ∈ x.c, u.oneCell' = true := by
  intro u hu
  unfold InD.c at hu
  simp only [List.mem_cons, List.mem_append] at hu
  rcases hu with hu | rfl | hu | hu
  · exact u8s_one _ u hu
  · rfl
  · exact u8s_one _ u hu
  · exact x.s.one u hu
def InD.b (x : InD) : List Nat := x.tx.1 ++ (le x.i.toNat 1 ++ (x.key.1 ++ x.s.b))
/-- An output. -/
structure OutD where
  t : By 8
  am : Int
def OutD.c (x : OutD) : List Value := u8s x.t.1 ++ [.int .i64 x.am]
theorem OutD.len (x : OutD) : x.c.length = 9 := by unfold OutD.c; rw [List.length_append, u8s_len, x.t.2.1]; rfl
theorem OutD.one (x : OutD) : ∀ u ∈ x.c, u.oneCell' = true := by
  intro u hu
  unfold OutD.c at hu
  rcases List.mem_append.1 hu with hu | hu
  · exact u8s_one _ u hu
  · rw [List.mem_singleton] at hu; subst hu; rfl
def OutD.b (x : OutD) : List Nat := x.t.1 ++ le x.am.toNat 7
/-- A forward. -/
structure FoD where
  sd : Int
  ac : Int
  o : By 8
  am : Int
def FoD.c (x : FoD) : List Value := .int .i64 x.sd :: .int .i64 x.ac :: (u8s x.o.1 ++ [.int .i64 x.am])
theorem FoD.len (x : FoD) : x.c.length = 11 := by
  unfold FoD.c
  simp only [List.length_cons, List.length_append, u8s_len, x.o.2.1, List.length_nil]
theorem FoD.one (x : FoD) : ∀ u ∈ x.c, u.oneCell' = true := by
  intro u hu
  unfold FoD.c at hu
  simp only [List.mem_cons, List.mem_append, List.not_mem_nil, or_false] at hu
  rcases hu with rfl | rfl | hu | rfl
  · rfl
  · rfl
  · exact u8s_one _ u hu
  · rfl
def FoD.b (x : FoD) : List Nat := le x.sd.toNat 1 ++ (le x.ac.toNat 2 ++ (x.o.1 ++ le x.am.toNat 7))
/-- A signature of one of several. -/
structure SgD where
  k : Int
  s : SigD
def SgD.c (x : SgD) : List Value := .int .i64 x.k :: x.s.c
theorem SgD.len (x : SgD) : x.c.length = 282 := by unfold SgD.c; rw [List.length_cons, x.s.len]
theorem SgD.one (x : SgD) : ∀ u ∈ x.c, u.oneCell' = true := by
  intro u hu
  unfold SgD.c at hu
  rcases List.mem_cons.1 hu with rfl | hu
  · rfl
  · exact x.s.one u hu
def SgD.b (x : SgD) : List Nat := le x.k.toNat 1 ++ x.s.b
/-- How many there are, and each of them. -/
def rowB {α : Type} (b : α → List Nat) (l : List α) : List Nat := le l.length 1 ++ (l.map b).flatten
/-- Parameters. -/
structure PrD where
  ln : Int
  wd : Int
  nd : Int
  ks : List (By 8)
def PrD.nul : PrD := ⟨0, 0, 0, []⟩
def PrD.b (p : PrD) : List Nat := le p.ln.toNat 1 ++ (le p.wd.toNat 1 ++ (le p.nd.toNat 1 ++ rowB (fun k : By 8 => k.1) p.ks))
/-- A certificate. -/
structure CeD where
  sd : Int
  ep : Int
  ql : Int
  en : By 8
  ro : By 8
  os : List OutD
  sg : List SgD
def CeD.nul : CeD := ⟨0, 0, 0, By.z _, By.z _, [], []⟩
def CeD.b (c : CeD) : List Nat := le c.sd.toNat 1 ++ (le c.ep.toNat 4 ++ (le c.ql.toNat 4 ++ (c.en.1 ++ (c.ro.1 ++ (rowB OutD.b c.os ++ rowB SgD.b c.sg)))))
/-- A claim. -/
structure ClD where
  sd : Int
  ac : Int
  o : By 8
  am : Int
  no : Int
  pf : By 128
def ClD.nul : ClD := ⟨0, 0, By.z _, 0, 0, By.z _⟩
def ClD.c (l : ClD) : List Value := .int .i64 l.sd :: .int .i64 l.ac :: (u8s l.o.1 ++ (.int .i64 l.am :: .int .i64 l.no :: u8s l.pf.1))
theorem ClD.len (l : ClD) : l.c.length = 140 := by
  unfold ClD.c
  simp only [List.length_cons, List.length_append, u8s_len, l.o.2.1, l.pf.2.1]
def ClD.b (l : ClD) : List Nat := le l.sd.toNat 1 ++ (le l.ac.toNat 2 ++ (l.o.1 ++ (le l.am.toNat 7 ++ (le l.no.toNat 1 ++ l.pf.1))))
/-- A transaction. -/
structure TxD where
  kd : Int
  ht : Int
  is : List InD
  os : List OutD
  fs : List FoD
  p : PrD
  c : CeD
  l : ClD
def TxD.nul (kd : Int) : TxD := ⟨kd, 0, [], [], [], PrD.nul, CeD.nul, ClD.nul⟩
/-- Its bytes. -/
def TxD.b (t : TxD) : List Nat := le t.kd.toNat 1 ++
  (if t.kd = 1 then le t.ht.toNat 4 ++ rowB OutD.b t.os
  else if t.kd = 2 then rowB InD.b t.is ++ (rowB OutD.b t.os ++ rowB FoD.b t.fs)
  else if t.kd = 3 then t.p.b
  else if t.kd = 4 then t.c.b
  else if t.kd = 5 then t.l.b
  else [])
def maxMo : Int := 1125899906842624
def OutD.may (o : OutD) : Prop := o.t.1 ≠ zero8 ∧ 1 ≤ o.am ∧ o.am ≤ maxMo
def FoD.may (f : FoD) : Prop := (0 ≤ f.sd ∧ f.sd ≤ 7) ∧ (0 ≤ f.ac ∧ f.ac ≤ 65535) ∧ f.o.1 ≠ zero8 ∧ 1 ≤ f.am ∧ f.am ≤ maxMo
def InD.may (x : InD) : Prop := (0 ≤ x.i ∧ x.i ≤ 255) ∧ (0 ≤ x.s.z ∧ x.s.z ≤ 255)
def SgD.may (x : SgD) : Prop := (0 ≤ x.k ∧ x.k ≤ 4) ∧ (0 ≤ x.s.z ∧ x.s.z ≤ 255)
def InD.fr (x : InD) : List Nat × Int := (x.tx.1, x.i)
def mayO (l : List OutD) : Prop := (∀ o ∈ l, o.may) ∧ l.length ≤ 16
def mayF (l : List FoD) : Prop := (∀ f ∈ l, f.may) ∧ l.length ≤ 16
def mayI (l : List InD) : Prop := (∀ x ∈ l, x.may) ∧ (l.map InD.fr).Nodup ∧ 1 ≤ l.length ∧ l.length ≤ 8
def CeD.may (c : CeD) : Prop := (∀ s ∈ c.sg, s.may) ∧ ((0 ≤ c.sd ∧ c.sd ≤ 7) ∧ (0 ≤ c.ep ∧ c.ep ≤ 400) ∧ (0 ≤ c.ql ∧ c.ql ≤ 2147483647)) ∧ mayO c.os ∧ (1 ≤ c.sg.length ∧ c.sg.length ≤ 5)
def ClD.may (l : ClD) : Prop := ((0 ≤ l.sd ∧ l.sd ≤ 7) ∧ (0 ≤ l.ac ∧ l.ac ≤ 65535)) ∧ l.o.1 ≠ zero8 ∧ (1 ≤ l.am ∧ l.am ≤ maxMo) ∧ (0 ≤ l.no ∧ l.no ≤ 255)
end Go.Proofs.YtfoeakgnkfcbjaaGreatDoor

/- tx: the plain law of reading. -/
namespace Go.Proofs.YtfoeakgnkfcbjaaGreatDoor
open Go Go.Vc Go.Sha
theorem le_consT (n : Nat) : ∀ k, le n (k + 1) = n % 256 :: le (n / 256) k
  | 0 => by simp [le]
  | k + 1 => by
    show le n (k + 1) ++ [n / 2 ^ (8 * (k + 1)) % 256] = _
    rw [le_consT n k]
    show _ = n % 256 :: (le (n / 256) k ++ [n / 256 / 2 ^ (8 * k) % 256])
    rw [Nat.div_div_eq_div_mul, show 256 * 2 ^ (8 * k) = 2 ^ (8 * (k + 1)) from by rw [Nat.mul_add, Nat.pow_add, Nat.mul_comm]]
    rfl
theorem num8_leT : ∀ (k n : Nat), n < 2 ^ (8 * k) → num8 (le n k) = n
  | 0, n, h => by
    have : n = 0 := by simpa using h
    subst this; rfl
  | k + 1, n, h => by
    rw [le_consT]
    show n % 256 + 256 * num8 (le (n / 256) k) = n
    rw [num8_leT k (n / 256) (by
      rw [Nat.div_lt_iff_lt_mul (by decide)]
      rw [Nat.mul_add, Nat.pow_add] at h
      exact h)]
    omega
theorem le_num8 : ∀ l : List Nat, (∀ x ∈ l, x < 256) → le (num8 l) l.length = l
  | [], _ => rfl
  | x :: l, h => by
    have hx := h x List.mem_cons_self
    have ih := le_num8 l fun y hy => h y (List.mem_cons_of_mem _ hy)
    rw [List.length_cons, le_consT]
    show (x + 256 * num8 l) % 256 :: le ((x + 256 * num8 l) / 256) l.length = x :: l
    rw [show (x + 256 * num8 l) % 256 = x by omega, show (x + 256 * num8 l) / 256 = num8 l by omega, ih]
theorem le_lt (n : Nat) : ∀ k, ∀ x ∈ le n k, x < 256
  | 0, x, hx => by cases hx
  | k + 1, x, hx => by
    rcases List.mem_append.1 hx with hx | hx
    · exact le_lt n k x hx
    · rw [List.mem_singleton] at hx; subst hx; exact Nat.mod_lt _ (by decide)
def Bt (l : List Nat) : Prop := ∀ x ∈ l, x < 256
theorem Bt.drop {l : List Nat} (h : Bt l) (k : Nat) : Bt (l.drop k) := fun x hx => h x (List.mem_of_mem_drop hx)
theorem Bt.take {l : List Nat} (h : Bt l) (k : Nat) : Bt (l.take k) := fun x hx => h x (List.mem_of_mem_take hx)
/-- A reader of bytes: what is read, and what is left. -/
abbrev Ps (α : Type) := List Nat → Option (α × List Nat)
/-- It reads what is written of those in R, and nothing else. -/
structure Good {α : Type} (P : Ps α) (E : α → List Nat) (R : α → Prop) : Prop where
  a : ∀ x r, R x → Bt r → P (E x ++ r) = some (x, r)
  b : ∀ l x r, Bt l → P l = some (x, r) → l = E x ++ r ∧ R x
theorem Good.lt {α : Type} {P : Ps α} {E : α → List Nat} {R : α → Prop} (g : Good P E R) {l r : List Nat} {x : α} (hl : Bt l) (h : P l = some (x, r)) : Bt r := fun y hy => hl y (by rw [(g.b l x r hl h).1]; exact List.mem_append_right _ hy)
/-- It fits in so many bytes. -/
def rg (k : Nat) (n : Int) : Prop := 0 ≤ n ∧ n.toNat < 2 ^ (8 * k)
def pN (k : Nat) : Ps Int := fun l => if k ≤ l.length then some ((num8 (l.take k) : Int), l.drop k) else none
theorem good_N (k : Nat) : Good (pN k) (fun n => le n.toNat k) (rg k) where
  a := fun n r h hr => by
    have hl : (le n.toNat k ++ r).take k = le n.toNat k := by rw [List.take_append_of_le_length (by rw [le_len]; exact Nat.le_refl _), List.take_of_length_le (by rw [le_len]; exact Nat.le_refl _)]
    have hd : (le n.toNat k ++ r).drop k = r := by
      have := List.drop_left (l₁ := le n.toNat k) (l₂ := r)
      rwa [le_len] at this
    unfold pN
    rw [if_pos (by rw [List.length_append, le_len]; omega), hl, hd, num8_leT k _ h.2, Int.toNat_of_nonneg h.1]
  b := fun l n r hl h => by
    unfold pN at h
    by_cases hk : k ≤ l.length
    · rw [if_pos hk] at h
      simp only [Option.some.injEq, Prod.mk.injEq] at h
      obtain ⟨rfl, rfl⟩ := h
      have h1 := le_num8 (l.take k) (hl.take k)
      have h2 := num8_lt (l.take k) (hl.take k)
      rw [List.length_take, Nat.min_eq_left hk] at h1 h2
      rw [Int.toNat_natCast, h1, List.take_append_drop]
      exact ⟨rfl, Int.natCast_nonneg _, h2⟩
    · rw [if_neg hk] at h; cases h
def pB (k : Nat) : Ps (By k) := fun l => if h : (l.take k).length = k ∧ ∀ x ∈ l.take k, x < 256 then some (⟨l.take k, h⟩, l.drop k) else none
theorem good_B (k : Nat) : Good (pB k) (fun n => n.1) (fun _ => True) where
  a := fun n r _ hr => by
    obtain ⟨n, h1, h2⟩ := n
    have hl : (n ++ r).take k = n := by rw [← h1, List.take_left]
    have hd : (n ++ r).drop k = r := by rw [← h1, List.drop_left]
    unfold pB
    dsimp only
    rw [dif_pos (by rw [hl]; exact ⟨h1, h2⟩), hd]
    simp only [hl]
  b := fun l n r hl h => by
    unfold pB at h
    split at h
    · simp only [Option.some.injEq, Prod.mk.injEq] at h
      obtain ⟨rfl, rfl⟩ := h
      exact ⟨(List.take_append_drop k l).symm, trivial⟩
    · cases h
def pAnd {α β : Type} (P : Ps α) (Q : Ps β) : Ps (α × β) := fun l => match P l with
  | none => none
  | some (x, r) => match Q r with
    | none => none
    | some (y, q) => some ((x, y), q)
theorem Good.and {α β : Type} {P : Ps α} {Q : Ps β} {E : α → List Nat} {F : β → List Nat} {R : α → Prop} {S : β → Prop} (g : Good P E R) (h : Good Q F S) (hF : ∀ y, S y → Bt (F y)) : Good (pAnd P Q) (fun x => E x.1 ++ F x.2) (fun x => R x.1 ∧ S x.2) where
  a := fun x r hx hr => by
    unfold pAnd
    rw [List.append_assoc, g.a x.1 (F x.2 ++ r) hx.1 (fun z hz => by
      rcases List.mem_append.1 hz with hz | hz
      · exact hF _ hx.2 z hz
      · exact hr z hz)]
    dsimp only
    rw [h.a x.2 r hx.2 hr]
  b := fun l x r hl hp => by
    unfold pAnd at hp
    cases h1 : P l with
    | none => rw [h1] at hp; cases hp
    | some q =>
      obtain ⟨u, s⟩ := q
      rw [h1] at hp
      dsimp only at hp
      cases h2 : Q s with
      | none => rw [h2] at hp; cases hp
      | some q =>
        obtain ⟨v, t⟩ := q
        rw [h2] at hp
        simp only [Option.some.injEq, Prod.mk.injEq] at hp
        obtain ⟨rfl, rfl⟩ := hp
        obtain ⟨e1, r1⟩ := g.b l u s hl h1
        obtain ⟨e2, r2⟩ := h.b s v t (g.lt hl h1) h2
        exact ⟨by rw [e1, e2, List.append_assoc], r1, r2⟩
def pMap {α β : Type} (f : α → β) (P : Ps α) : Ps β := fun l => (P l).map fun q => (f q.1, q.2)
theorem Good.map {α β : Type} {P : Ps α} {E : α → List Nat} {R : α → Prop} (g : Good P E R) (f : α → β) (k : β → α) (F : β → List Nat) (S : β → Prop) (hfk : ∀ y, S y → f (k y) = y) (hF : ∀ y, S y → F y = E (k y)) (hS : ∀ y, S y → R (k y)) (hR : ∀ x, R x → S (f x)) (hE : ∀ x, R x → E x = F (f x)) : Good (pMap f P) F S where
  a := fun y r hy hr => by
    unfold pMap
    rw [hF y hy, g.a (k y) r (hS y hy) hr]
    dsimp only [Option.map]
    rw [hfk y hy]
  b := fun l y r hl h => by
    unfold pMap at h
    cases h1 : P l with
    | none => rw [h1] at h; cases h
    | some q =>
      obtain ⟨x, s⟩ := q
      rw [h1] at h
      simp only [Option.map_some, Option.some.injEq, Prod.mk.injEq] at h
      obtain ⟨rfl, rfl⟩ := h
      obtain ⟨e, hx⟩ := g.b l x s hl h1
      exact ⟨by rw [e, hE x hx], hR x hx⟩
/-- So many of them. -/
def pRep {α : Type} (P : Ps α) : Nat → Ps (List α)
  | 0 => fun l => some ([], l)
  | n + 1 => fun l => match P l with
    | none => none
    | some (x, r) => match pRep P n r with
      | none => none
      | some (xs, q) => some (x :: xs, q)
theorem Good.rep {α : Type} {P : Ps α} {E : α → List Nat} {R : α → Prop} (g : Good P E R) (hE : ∀ x, R x → Bt (E x)) : ∀ n, Good (pRep P n) (fun xs => (xs.map E).flatten) (fun xs => xs.length = n ∧ ∀ x ∈ xs, R x)
  | 0 => ⟨fun xs r hx _ => by
      have : xs = [] := List.eq_nil_of_length_eq_zero hx.1
      subst this; rfl, fun l xs r _ h => by
      simp only [pRep, Option.some.injEq, Prod.mk.injEq] at h
      obtain ⟨rfl, rfl⟩ := h
      exact ⟨rfl, rfl, fun x hx => by cases hx⟩⟩
  | n + 1 => ⟨fun xs r hx hr => by
      match xs, hx with
      | [], hx => exact absurd hx.1 (by simp)
      | x :: xs, hx =>
        have hxs : xs.length = n ∧ ∀ y ∈ xs, R y := ⟨by simpa using hx.1, fun y hy => hx.2 y (List.mem_cons_of_mem _ hy)⟩
        have ih := (Good.rep g hE n).a xs r hxs hr
        unfold pRep
        rw [List.map_cons, List.flatten_cons, List.append_assoc, g.a x _ (hx.2 x List.mem_cons_self) (fun z hz => by
          rcases List.mem_append.1 hz with hz | hz
          · obtain ⟨m, hm, hz⟩ := List.mem_flatten.1 hz
            obtain ⟨y, hy, rfl⟩ := List.mem_map.1 hm
            exact hE y (hxs.2 y hy) z hz
          · exact hr z hz)]
        dsimp only at ih ⊢
        rw [ih], fun l xs r hl h => by
      unfold pRep at h
      cases h1 : P l with
      | none => rw [h1] at h; cases h
      | some q =>
        obtain ⟨u, s⟩ := q
        rw [h1] at h
        dsimp only at h
        cases h2 : pRep P n s with
        | none => rw [h2] at h; cases h
        | some q =>
          obtain ⟨v, t⟩ := q
          rw [h2] at h
          simp only [Option.some.injEq, Prod.mk.injEq] at h
          obtain ⟨rfl, rfl⟩ := h
          obtain ⟨e1, r1⟩ := g.b l u s hl h1
          obtain ⟨e2, r2, r3⟩ := (Good.rep g hE n).b s v t (g.lt hl h1) h2
          refine ⟨by rw [e1, e2, List.map_cons, List.flatten_cons, List.append_assoc], by rw [List.length_cons, r2], fun y hy => ?_⟩
          rcases List.mem_cons.1 hy with rfl | hy
          · exact r1
          · exact r3 y hy⟩
def pRow {α : Type} (P : Ps α) : Ps (List α) := fun l => match pN 1 l with
  | none => none
  | some (n, r) => pRep P n.toNat r
theorem Good.row {α : Type} {P : Ps α} {E : α → List Nat} {R : α → Prop} (g : Good P E R) (hE : ∀ x, R x → Bt (E x)) : Good (pRow P) (rowB E) (fun xs => xs.length < 256 ∧ ∀ x ∈ xs, R x) where
  a := fun xs r hx hr => by
    have h1 := (good_N 1).a (xs.length : Int) ((xs.map E).flatten ++ r) ⟨Int.natCast_nonneg _, by rw [Int.toNat_natCast]; omega⟩ (fun z hz => by
      rcases List.mem_append.1 hz with hz | hz
      · obtain ⟨m, hm, hz⟩ := List.mem_flatten.1 hz
        obtain ⟨y, hy, rfl⟩ := List.mem_map.1 hm
        exact hE y (hx.2 y hy) z hz
      · exact hr z hz)
    rw [Int.toNat_natCast] at h1
    unfold pRow rowB
    rw [List.append_assoc, h1]
    dsimp only
    rw [Int.toNat_natCast]
    exact (g.rep hE xs.length).a xs r ⟨rfl, hx.2⟩ hr
  b := fun l xs r hl h => by
    unfold pRow at h
    cases h1 : pN 1 l with
    | none => rw [h1] at h; cases h
    | some q =>
      obtain ⟨n, s⟩ := q
      rw [h1] at h
      dsimp only at h
      obtain ⟨e1, r1, r2⟩ := (good_N 1).b l n s hl h1
      obtain ⟨e2, r3, r4⟩ := (g.rep hE n.toNat).b s xs r ((good_N 1).lt hl h1) h
      refine ⟨?_, by omega, r4⟩
      unfold rowB
      rw [e1, e2, r3, List.append_assoc]
theorem bt_app {a b : List Nat} (h : Bt a) (k : Bt b) : Bt (a ++ b) := fun x hx => (List.mem_append.1 hx).elim (h x) (k x)
theorem bt_row {α : Type} {E : α → List Nat} {xs : List α} (h : ∀ x ∈ xs, Bt (E x)) : Bt (rowB E xs) := bt_app (le_lt _ _) fun z hz => by
  obtain ⟨m, hm, hz⟩ := List.mem_flatten.1 hz
  obtain ⟨y, hy, rfl⟩ := List.mem_map.1 hm
  exact h y hy z hz
end Go.Proofs.YtfoeakgnkfcbjaaGreatDoor

/- tx: the plain law: reading of each part, and of a whole transaction. -/
namespace Go.Proofs.YtfoeakgnkfcbjaaGreatDoor
open Go Go.Vc Go.Sha
theorem bt_by {n : Nat} (b : By n) : Bt b.1 := b.2.2
theorem bt_le (n k : Nat) : Bt (le n k) := le_lt n k
/-- Signatures. -/
def SigD.rg (s : SigD) : Prop := Go.Proofs.YtfoeakgnkfcbjaaGreatDoor.rg 1 s.z
def pSig : Ps SigD := pMap (fun q => ⟨q.1, q.2.1, q.2.2.1, q.2.2.2⟩) (pAnd (pN 1) (pAnd (pB 128) (pAnd (pB 128) (pB 24))))
theorem SigD.bt (s : SigD) : Bt s.b := bt_app (bt_le _ _) (bt_app (bt_by _) (bt_app (bt_by _) (bt_by _)))
theorem good_sig : Good pSig SigD.b SigD.rg :=
  ((good_N 1).and ((good_B 128).and ((good_B 128).and (good_B 24) (fun y _ => bt_by y)) (fun y _ => bt_app (bt_by _) (bt_by _))) (fun y _ => bt_app (bt_by _) (bt_app (bt_by _) (bt_by _)))).map _ (fun s : SigD => (s.z, s.op, s.sh, s.pa)) _ _
    (fun _ _ => rfl) (fun _ _ => rfl) (fun _ h => ⟨h, trivial, trivial, trivial⟩) (fun _ h => h.1) (fun _ _ => rfl)
/-- Inputs. -/
def InD.rg (x : InD) : Prop := Go.Proofs.YtfoeakgnkfcbjaaGreatDoor.rg 1 x.i ∧ x.s.rg
def pIn : Ps InD := pMap (fun q => ⟨q.1, q.2.1, q.2.2.1, q.2.2.2⟩) (pAnd (pB 8) (pAnd (pN 1) (pAnd (pB 8) pSig)))
theorem InD.bt (x : InD) : Bt x.b := bt_app (bt_by _) (bt_app (bt_le _ _) (bt_app (bt_by _) x.s.bt))
theorem good_in : Good pIn InD.b InD.rg :=
  ((good_B 8).and ((good_N 1).and ((good_B 8).and good_sig (fun y _ => y.bt)) (fun y _ => bt_app (bt_by _) y.2.bt)) (fun y _ => bt_app (bt_le _ _) (bt_app (bt_by _) y.2.2.bt))).map _ (fun x : InD => (x.tx, x.i, x.key, x.s)) _ _
    (fun _ _ => rfl) (fun _ _ => rfl) (fun _ h => ⟨trivial, h.1, trivial, h.2⟩) (fun _ h => ⟨h.2.1, h.2.2.2⟩) (fun _ _ => rfl)
/-- Outputs. -/
def OutD.rg (x : OutD) : Prop := Go.Proofs.YtfoeakgnkfcbjaaGreatDoor.rg 7 x.am
def pOut : Ps OutD := pMap (fun q => ⟨q.1, q.2⟩) (pAnd (pB 8) (pN 7))
theorem OutD.bt (x : OutD) : Bt x.b := bt_app (bt_by _) (bt_le _ _)
theorem good_out : Good pOut OutD.b OutD.rg :=
  ((good_B 8).and (good_N 7) (fun y _ => bt_le _ _)).map _ (fun x : OutD => (x.t, x.am)) _ _ (fun _ _ => rfl) (fun _ _ => rfl) (fun _ h => ⟨trivial, h⟩) (fun _ h => h.2) (fun _ _ => rfl)
/-- Forwards. -/
def FoD.rg (x : FoD) : Prop := Go.Proofs.YtfoeakgnkfcbjaaGreatDoor.rg 1 x.sd ∧ Go.Proofs.YtfoeakgnkfcbjaaGreatDoor.rg 2 x.ac ∧ Go.Proofs.YtfoeakgnkfcbjaaGreatDoor.rg 7 x.am
def pFo : Ps FoD := pMap (fun q => ⟨q.1, q.2.1, q.2.2.1, q.2.2.2⟩) (pAnd (pN 1) (pAnd (pN 2) (pAnd (pB 8) (pN 7))))
theorem FoD.bt (x : FoD) : Bt x.b := bt_app (bt_le _ _) (bt_app (bt_le _ _) (bt_app (bt_by _) (bt_le _ _)))
theorem good_fo : Good pFo FoD.b FoD.rg :=
  ((good_N 1).and ((good_N 2).and ((good_B 8).and (good_N 7) (fun y _ => bt_le _ _)) (fun y _ => bt_app (bt_by _) (bt_le _ _))) (fun y _ => bt_app (bt_le _ _) (bt_app (bt_by _) (bt_le _ _)))).map _ (fun x : FoD => (x.sd, x.ac, x.o, x.am)) _ _
    (fun _ _ => rfl) (fun _ _ => rfl) (fun _ h => ⟨h.1, h.2.1, trivial, h.2.2⟩) (fun _ h => ⟨h.1, h.2.1, h.2.2.2⟩) (fun _ _ => rfl)
/-- Signatures of several. -/
def SgD.rg (x : SgD) : Prop := Go.Proofs.YtfoeakgnkfcbjaaGreatDoor.rg 1 x.k ∧ x.s.rg
def pSg : Ps SgD := pMap (fun q => ⟨q.1, q.2⟩) (pAnd (pN 1) pSig)
theorem SgD.bt (x : SgD) : Bt x.b := bt_app (bt_le _ _) x.s.bt
theorem good_sg : Good pSg SgD.b SgD.rg :=
  ((good_N 1).and good_sig (fun y _ => y.bt)).map _ (fun x : SgD => (x.k, x.s)) _ _ (fun _ _ => rfl) (fun _ _ => rfl) (fun _ h => h) (fun _ h => h) (fun _ _ => rfl)
/-- Parameters. -/
def PrD.rg (p : PrD) : Prop := Go.Proofs.YtfoeakgnkfcbjaaGreatDoor.rg 1 p.ln ∧ Go.Proofs.YtfoeakgnkfcbjaaGreatDoor.rg 1 p.wd ∧ Go.Proofs.YtfoeakgnkfcbjaaGreatDoor.rg 1 p.nd ∧ p.ks.length < 256
def pPr : Ps PrD := pMap (fun q => ⟨q.1, q.2.1, q.2.2.1, q.2.2.2⟩) (pAnd (pN 1) (pAnd (pN 1) (pAnd (pN 1) (pRow (pB 8)))))
theorem PrD.bt (p : PrD) : Bt p.b := bt_app (bt_le _ _) (bt_app (bt_le _ _) (bt_app (bt_le _ _) (bt_row fun _ _ => bt_by _)))
theorem good_pr : Good pPr PrD.b PrD.rg :=
  ((good_N 1).and ((good_N 1).and ((good_N 1).and ((good_B 8).row (fun y _ => bt_by y)) (fun y _ => bt_row fun _ _ => bt_by _)) (fun y _ => bt_app (bt_le _ _) (bt_row fun _ _ => bt_by _))) (fun y _ => bt_app (bt_le _ _) (bt_app (bt_le _ _) (bt_row fun _ _ => bt_by _)))).map _ (fun p : PrD => (p.ln, p.wd, p.nd, p.ks)) _ _
    (fun _ _ => rfl) (fun _ _ => rfl) (fun _ h => ⟨h.1, h.2.1, h.2.2.1, h.2.2.2, fun _ _ => trivial⟩) (fun _ h => ⟨h.1, h.2.1, h.2.2.1, h.2.2.2.1⟩) (fun _ _ => rfl)
/-- Certificates. -/
def CeD.rg (c : CeD) : Prop := Go.Proofs.YtfoeakgnkfcbjaaGreatDoor.rg 1 c.sd ∧ Go.Proofs.YtfoeakgnkfcbjaaGreatDoor.rg 4 c.ep ∧ Go.Proofs.YtfoeakgnkfcbjaaGreatDoor.rg 4 c.ql ∧ (c.os.length < 256 ∧ ∀ o ∈ c.os, o.rg) ∧ (c.sg.length < 256 ∧ ∀ s ∈ c.sg, s.rg)
def pCe : Ps CeD := pMap (fun q => ⟨q.1, q.2.1, q.2.2.1, q.2.2.2.1, q.2.2.2.2.1, q.2.2.2.2.2.1, q.2.2.2.2.2.2⟩) (pAnd (pN 1) (pAnd (pN 4) (pAnd (pN 4) (pAnd (pB 8) (pAnd (pB 8) (pAnd (pRow pOut) (pRow pSg)))))))
theorem bt_outs (l : List OutD) : Bt (rowB OutD.b l) := bt_row fun o _ => o.bt
theorem bt_sgs (l : List SgD) : Bt (rowB SgD.b l) := bt_row fun o _ => o.bt
theorem CeD.bt (c : CeD) : Bt c.b := bt_app (bt_le _ _) (bt_app (bt_le _ _) (bt_app (bt_le _ _) (bt_app (bt_by _) (bt_app (bt_by _) (bt_app (bt_outs _) (bt_sgs _))))))
theorem good_ce : Good pCe CeD.b CeD.rg :=
  ((good_N 1).and ((good_N 4).and ((good_N 4).and ((good_B 8).and ((good_B 8).and ((good_out.row fun y _ => y.bt).and (good_sg.row fun y _ => y.bt) (fun y _ => bt_sgs _)) (fun y _ => bt_app (bt_outs _) (bt_sgs _))) (fun y _ => bt_app (bt_by _) (bt_app (bt_outs _) (bt_sgs _)))) (fun y _ => bt_app (bt_by _) (bt_app (bt_by _) (bt_app (bt_outs _) (bt_sgs _))))) (fun y _ => bt_app (bt_le _ _) (bt_app (bt_by _) (bt_app (bt_by _) (bt_app (bt_outs _) (bt_sgs _)))))) (fun y _ => bt_app (bt_le _ _) (bt_app (bt_le _ _) (bt_app (bt_by _) (bt_app (bt_by _) (bt_app (bt_outs _) (bt_sgs _))))))).map _ (fun c : CeD => (c.sd, c.ep, c.ql, c.en, c.ro, c.os, c.sg)) _ _
    (fun _ _ => rfl) (fun _ _ => rfl) (fun _ h => ⟨h.1, h.2.1, h.2.2.1, trivial, trivial, h.2.2.2.1, h.2.2.2.2⟩) (fun _ h => ⟨h.1, h.2.1, h.2.2.1, h.2.2.2.2.2.1, h.2.2.2.2.2.2⟩) (fun _ _ => rfl)
/-- Claims. -/
def ClD.rg (l : ClD) : Prop := Go.Proofs.YtfoeakgnkfcbjaaGreatDoor.rg 1 l.sd ∧ Go.Proofs.YtfoeakgnkfcbjaaGreatDoor.rg 2 l.ac ∧ Go.Proofs.YtfoeakgnkfcbjaaGreatDoor.rg 7 l.am ∧ Go.Proofs.YtfoeakgnkfcbjaaGreatDoor.rg 1 l.no
def pCl : Ps ClD := pMap (fun q => ⟨q.1, q.2.1, q.2.2.1, q.2.2.2.1, q.2.2.2.2.1, q.2.2.2.2.2⟩) (pAnd (pN 1) (pAnd (pN 2) (pAnd (pB 8) (pAnd (pN 7) (pAnd (pN 1) (pB 128))))))
theorem ClD.bt (l : ClD) : Bt l.b := bt_app (bt_le _ _) (bt_app (bt_le _ _) (bt_app (bt_by _) (bt_app (bt_le _ _) (bt_app (bt_le _ _) (bt_by _)))))
theorem good_cl : Good pCl ClD.b ClD.rg :=
  ((good_N 1).and ((good_N 2).and ((good_B 8).and ((good_N 7).and ((good_N 1).and (good_B 128) (fun y _ => bt_by _)) (fun y _ => bt_app (bt_le _ _) (bt_by _))) (fun y _ => bt_app (bt_le _ _) (bt_app (bt_le _ _) (bt_by _)))) (fun y _ => bt_app (bt_by _) (bt_app (bt_le _ _) (bt_app (bt_le _ _) (bt_by _))))) (fun y _ => bt_app (bt_le _ _) (bt_app (bt_by _) (bt_app (bt_le _ _) (bt_app (bt_le _ _) (bt_by _)))))).map _ (fun l : ClD => (l.sd, l.ac, l.o, l.am, l.no, l.pf)) _ _
    (fun _ _ => rfl) (fun _ _ => rfl) (fun _ h => ⟨h.1, h.2.1, trivial, h.2.2.1, h.2.2.2, trivial⟩) (fun _ h => ⟨h.1, h.2.1, h.2.2.2.1, h.2.2.2.2.1⟩) (fun _ _ => rfl)
/-- What a kind has. -/
def tCoin (ht : Int) (os : List OutD) : TxD := { TxD.nul 1 with ht := ht, os := os }
def tPay (is : List InD) (os : List OutD) (fs : List FoD) : TxD := { TxD.nul 2 with is := is, os := os, fs := fs }
def tCreate (p : PrD) : TxD := { TxD.nul 3 with p := p }
def tCert (c : CeD) : TxD := { TxD.nul 4 with c := c }
def tClaim (l : ClD) : TxD := { TxD.nul 5 with l := l }
inductive TxRg : TxD → Prop
  | coin (ht : Int) (os : List OutD) (h1 : rg 4 ht) (h2 : os.length < 256 ∧ ∀ o ∈ os, o.rg) : TxRg (tCoin ht os)
  | pay (is : List InD) (os : List OutD) (fs : List FoD) (h1 : is.length < 256 ∧ ∀ x ∈ is, x.rg) (h2 : os.length < 256 ∧ ∀ o ∈ os, o.rg) (h3 : fs.length < 256 ∧ ∀ f ∈ fs, f.rg) : TxRg (tPay is os fs)
  | create (p : PrD) (h : p.rg) : TxRg (tCreate p)
  | cert (c : CeD) (h : c.rg) : TxRg (tCert c)
  | claim (l : ClD) (h : l.rg) : TxRg (tClaim l)
  | none (k : Int) (h : 0 ≤ k ∧ k < 256) (h2 : k ≠ 1 ∧ k ≠ 2 ∧ k ≠ 3 ∧ k ≠ 4 ∧ k ≠ 5) : TxRg (TxD.nul k)
def pTx : Ps TxD := fun l => match pN 1 l with
  | none => none
  | some (k, r) =>
    if k = 1 then pMap (fun q => tCoin q.1 q.2) (pAnd (pN 4) (pRow pOut)) r
    else if k = 2 then pMap (fun q => tPay q.1 q.2.1 q.2.2) (pAnd (pRow pIn) (pAnd (pRow pOut) (pRow pFo))) r
    else if k = 3 then pMap tCreate pPr r
    else if k = 4 then pMap tCert pCe r
    else if k = 5 then pMap tClaim pCl r
    else some (TxD.nul k, r)
theorem good_coin : Good (pAnd (pN 4) (pRow pOut)) (fun q => le q.1.toNat 4 ++ rowB OutD.b q.2) (fun q => rg 4 q.1 ∧ (q.2.length < 256 ∧ ∀ o ∈ q.2, o.rg)) :=
  (good_N 4).and (good_out.row fun y _ => y.bt) (fun y _ => bt_outs _)
theorem bt_fos (l : List FoD) : Bt (rowB FoD.b l) := bt_row fun o _ => o.bt
theorem bt_ins (l : List InD) : Bt (rowB InD.b l) := bt_row fun o _ => o.bt
theorem good_pay : Good (pAnd (pRow pIn) (pAnd (pRow pOut) (pRow pFo))) (fun q => rowB InD.b q.1 ++ (rowB OutD.b q.2.1 ++ rowB FoD.b q.2.2)) (fun q => (q.1.length < 256 ∧ ∀ x ∈ q.1, x.rg) ∧ (q.2.1.length < 256 ∧ ∀ x ∈ q.2.1, x.rg) ∧ (q.2.2.length < 256 ∧ ∀ x ∈ q.2.2, x.rg)) :=
  (good_in.row fun y _ => y.bt).and ((good_out.row fun y _ => y.bt).and (good_fo.row fun y _ => y.bt) (fun y _ => bt_fos _)) (fun y _ => bt_app (bt_outs _) (bt_fos _))
theorem b_coin (ht : Int) (os : List OutD) : (tCoin ht os).b = le 1 1 ++ (le ht.toNat 4 ++ rowB OutD.b os) := rfl
theorem b_pay (is : List InD) (os : List OutD) (fs : List FoD) : (tPay is os fs).b = le 2 1 ++ (rowB InD.b is ++ (rowB OutD.b os ++ rowB FoD.b fs)) := rfl
theorem b_create (p : PrD) : (tCreate p).b = le 3 1 ++ p.b := rfl
theorem b_cert (c : CeD) : (tCert c).b = le 4 1 ++ c.b := rfl
theorem b_claim (l : ClD) : (tClaim l).b = le 5 1 ++ l.b := rfl
theorem b_none {k : Int} (h : k ≠ 1 ∧ k ≠ 2 ∧ k ≠ 3 ∧ k ≠ 4 ∧ k ≠ 5) : (TxD.nul k).b = le k.toNat 1 := by
  unfold TxD.b
  have e : (TxD.nul k).kd = k := rfl
  rw [e, if_neg h.1, if_neg h.2.1, if_neg h.2.2.1, if_neg h.2.2.2.1, if_neg h.2.2.2.2, List.append_nil]
theorem good_tx : Good pTx TxD.b TxRg where
  a := fun t r h hr => by
    have key : ∀ (k : Nat) (X : List Nat), k < 256 → Bt (X ++ r) → pN 1 (le k 1 ++ X ++ r) = some ((k : Int), X ++ r) := fun k X hk hX => by
      rw [List.append_assoc]
      exact (good_N 1).a (k : Int) (X ++ r) ⟨Int.natCast_nonneg _, by rw [Int.toNat_natCast]; exact hk⟩ hX
    unfold pTx
    cases h with
    | coin ht os h1 h2 =>
      have h3 := good_coin.a (ht, os) r ⟨h1, h2⟩ hr
      rw [b_coin, key 1 _ (by decide) (bt_app (bt_app (bt_le _ _) (bt_outs _)) hr)]
      show pMap (fun q => tCoin q.1 q.2) (pAnd (pN 4) (pRow pOut)) (le ht.toNat 4 ++ rowB OutD.b os ++ r) = _
      unfold pMap
      rw [h3]; rfl
    | pay is os fs h1 h2 h3 =>
      have h4 := good_pay.a (is, os, fs) r ⟨h1, h2, h3⟩ hr
      rw [b_pay, key 2 _ (by decide) (bt_app (bt_app (bt_ins _) (bt_app (bt_outs _) (bt_fos _))) hr)]
      show pMap (fun q => tPay q.1 q.2.1 q.2.2) (pAnd (pRow pIn) (pAnd (pRow pOut) (pRow pFo))) (rowB InD.b is ++ (rowB OutD.b os ++ rowB FoD.b fs) ++ r) = _
      unfold pMap
      rw [h4]; rfl
    | create p h1 =>
      have h4 := good_pr.a p r h1 hr
      rw [b_create, key 3 _ (by decide) (bt_app p.bt hr)]
      show pMap tCreate pPr (p.b ++ r) = _
      unfold pMap
      rw [h4]; rfl
    | cert c h1 =>
      have h4 := good_ce.a c r h1 hr
      rw [b_cert, key 4 _ (by decide) (bt_app c.bt hr)]
      show pMap tCert pCe (c.b ++ r) = _
      unfold pMap
      rw [h4]; rfl
    | claim l h1 =>
      have h4 := good_cl.a l r h1 hr
      rw [b_claim, key 5 _ (by decide) (bt_app l.bt hr)]
      show pMap tClaim pCl (l.b ++ r) = _
      unfold pMap
      rw [h4]; rfl
    | none k h1 h2 =>
      rw [b_none h2, (good_N 1).a k r ⟨h1.1, by show k.toNat < 256; omega⟩ hr]
      dsimp only
      rw [if_neg h2.1, if_neg h2.2.1, if_neg h2.2.2.1, if_neg h2.2.2.2.1, if_neg h2.2.2.2.2]
  b := fun l t r hl h => by
    unfold pTx at h
    cases h1 : pN 1 l with
    | none => rw [h1] at h; cases h
    | some q =>
      obtain ⟨k, s⟩ := q
      rw [h1] at h
      dsimp only at h
      obtain ⟨e1, k1, k2⟩ := (good_N 1).b l k s hl h1
      have hs := (good_N 1).lt hl h1
      have k3 : k < 256 := by omega
      by_cases c1 : k = 1
      · rw [if_pos c1] at h
        unfold pMap at h
        cases h2 : pAnd (pN 4) (pRow pOut) s with
        | none => rw [h2] at h; cases h
        | some q =>
          rw [h2] at h
          simp only [Option.map_some, Option.some.injEq, Prod.mk.injEq] at h
          obtain ⟨rfl, rfl⟩ := h
          obtain ⟨e2, r1, r2⟩ := good_coin.b s q.1 q.2 hs h2
          subst c1
          exact ⟨by rw [e1, e2, b_coin, List.append_assoc]; rfl, .coin _ _ r1 r2⟩
      rw [if_neg c1] at h
      by_cases c2 : k = 2
      · rw [if_pos c2] at h
        unfold pMap at h
        cases h2 : pAnd (pRow pIn) (pAnd (pRow pOut) (pRow pFo)) s with
        | none => rw [h2] at h; cases h
        | some q =>
          rw [h2] at h
          simp only [Option.map_some, Option.some.injEq, Prod.mk.injEq] at h
          obtain ⟨rfl, rfl⟩ := h
          obtain ⟨e2, r1, r2, r3⟩ := good_pay.b s q.1 q.2 hs h2
          subst c2
          exact ⟨by rw [e1, e2, b_pay, List.append_assoc (le 2 1)]; rfl, .pay _ _ _ r1 r2 r3⟩
      rw [if_neg c2] at h
      by_cases c3 : k = 3
      · rw [if_pos c3] at h
        unfold pMap at h
        cases h2 : pPr s with
        | none => rw [h2] at h; cases h
        | some q =>
          rw [h2] at h
          simp only [Option.map_some, Option.some.injEq, Prod.mk.injEq] at h
          obtain ⟨rfl, rfl⟩ := h
          obtain ⟨e2, r1⟩ := good_pr.b s q.1 q.2 hs h2
          subst c3
          exact ⟨by rw [e1, e2, b_create, List.append_assoc]; rfl, .create _ r1⟩
      rw [if_neg c3] at h
      by_cases c4 : k = 4
      · rw [if_pos c4] at h
        unfold pMap at h
        cases h2 : pCe s with
        | none => rw [h2] at h; cases h
        | some q =>
          rw [h2] at h
          simp only [Option.map_some, Option.some.injEq, Prod.mk.injEq] at h
          obtain ⟨rfl, rfl⟩ := h
          obtain ⟨e2, r1⟩ := good_ce.b s q.1 q.2 hs h2
          subst c4
          exact ⟨by rw [e1, e2, b_cert, List.append_assoc]; rfl, .cert _ r1⟩
      rw [if_neg c4] at h
      by_cases c5 : k = 5
      · rw [if_pos c5] at h
        unfold pMap at h
        cases h2 : pCl s with
        | none => rw [h2] at h; cases h
        | some q =>
          rw [h2] at h
          simp only [Option.map_some, Option.some.injEq, Prod.mk.injEq] at h
          obtain ⟨rfl, rfl⟩ := h
          obtain ⟨e2, r1⟩ := good_cl.b s q.1 q.2 hs h2
          subst c5
          exact ⟨by rw [e1, e2, b_claim, List.append_assoc]; rfl, .claim _ r1⟩
      rw [if_neg c5] at h
      simp only [Option.some.injEq, Prod.mk.injEq] at h
      obtain ⟨rfl, rfl⟩ := h
      refine ⟨?_, .none k ⟨k1, k3⟩ ⟨c1, c2, c3, c4, c5⟩⟩
      rw [b_none ⟨c1, c2, c3, c4, c5⟩]
      exact e1
end Go.Proofs.YtfoeakgnkfcbjaaGreatDoor

/- tx: the plain law: which transactions may be. -/
namespace Go.Proofs.YtfoeakgnkfcbjaaGreatDoor
open Go Go.Vc Go.Sha
def PrD.may (p : PrD) : Prop := mayP p.ln p.wd p.nd (p.ks.map (·.1)) = true
/-- Whether a transaction may be. -/
inductive TxMay : TxD → Prop
  | coin (ht : Int) (os : List OutD) (h1 : 1 ≤ ht ∧ ht ≤ 400) (h2 : mayO os) : TxMay (tCoin ht os)
  | pay (is : List InD) (os : List OutD) (fs : List FoD) (h1 : mayI is) (h2 : mayO os) (h3 : mayF fs) (h4 : 0 < os.length + fs.length) : TxMay (tPay is os fs)
  | create (p : PrD) (h : p.may) : TxMay (tCreate p)
  | cert (c : CeD) (h : c.may) : TxMay (tCert c)
  | claim (l : ClD) (h : l.may) : TxMay (tClaim l)
noncomputable instance (t : TxD) : Decidable (TxMay t) := Classical.propDecidable _
theorem mayP_in {ln wd nd : Int} {l : List (List Nat)} (h : mayP ln wd nd l = true) : (1 ≤ l.length ∧ l.length ≤ 5) ∧ (1 ≤ nd ∧ nd ≤ l.length) ∧ (2 ≤ ln ∧ ln ≤ 64) ∧ (1 ≤ wd ∧ wd ≤ ln) := by
  unfold mayP at h
  simp only [Bool.and_eq_true, decide_eq_true_eq] at h
  omega
theorem rg_of {k : Nat} {n : Int} (h : 0 ≤ n) (h2 : n < 2 ^ (8 * k)) : rg k n := ⟨h, by
  have : n.toNat < 2 ^ (8 * k) := by
    have e : ((2 ^ (8 * k) : Nat) : Int) = 2 ^ (8 * k) := by norm_cast
    omega
  exact this⟩
theorem OutD.may_rg {o : OutD} (h : o.may) : o.rg := rg_of (by have := h.2.1; omega) (by have := h.2.2; unfold maxMo at this; show o.am < 72057594037927936; omega)
theorem FoD.may_rg {o : FoD} (h : o.may) : o.rg := by
  obtain ⟨h1, h2, h3, h4, h5⟩ := h
  unfold maxMo at h5
  exact ⟨rg_of h1.1 (by show o.sd < 256; omega), rg_of h2.1 (by show o.ac < 65536; omega), rg_of (by omega) (by show o.am < 72057594037927936; omega)⟩
theorem InD.may_rg {o : InD} (h : o.may) : o.rg := ⟨rg_of h.1.1 (by have := h.1.2; show o.i < 256; omega), rg_of h.2.1 (by have := h.2.2; show o.s.z < 256; omega)⟩
theorem SgD.may_rg {o : SgD} (h : o.may) : o.rg := ⟨rg_of h.1.1 (by have := h.1.2; show o.k < 256; omega), rg_of h.2.1 (by have := h.2.2; show o.s.z < 256; omega)⟩
theorem mayO_rg {l : List OutD} (h : mayO l) : l.length < 256 ∧ ∀ o ∈ l, o.rg := ⟨by have := h.2; omega, fun o ho => OutD.may_rg (h.1 o ho)⟩
theorem mayF_rg {l : List FoD} (h : mayF l) : l.length < 256 ∧ ∀ o ∈ l, o.rg := ⟨by have := h.2; omega, fun o ho => FoD.may_rg (h.1 o ho)⟩
theorem mayI_rg {l : List InD} (h : mayI l) : l.length < 256 ∧ ∀ o ∈ l, o.rg := ⟨by have := h.2.2.2; omega, fun o ho => InD.may_rg (h.1 o ho)⟩
theorem CeD.may_rg {c : CeD} (h : c.may) : c.rg := by
  obtain ⟨h1, ⟨h2, h3, h4⟩, h5, h6⟩ := h
  exact ⟨rg_of h2.1 (by show c.sd < 256; omega), rg_of h3.1 (by show c.ep < 4294967296; omega), rg_of h4.1 (by show c.ql < 4294967296; omega), mayO_rg h5, by omega, fun s hs => SgD.may_rg (h1 s hs)⟩
theorem ClD.may_rg {l : ClD} (h : l.may) : l.rg := by
  obtain ⟨⟨h1, h2⟩, h3, h4, h5⟩ := h
  unfold maxMo at h4
  exact ⟨rg_of h1.1 (by show l.sd < 256; omega), rg_of h2.1 (by show l.ac < 65536; omega), rg_of (by omega) (by show l.am < 72057594037927936; omega), rg_of h5.1 (by show l.no < 256; omega)⟩
theorem PrD.may_rg {p : PrD} (h : p.may) : p.rg := by
  obtain ⟨h1, h2, h3, h4⟩ := mayP_in h
  rw [List.length_map] at h1 h2
  exact ⟨rg_of (by omega) (by show p.ln < 256; omega), rg_of (by omega) (by show p.wd < 256; omega), rg_of (by omega) (by show p.nd < 256; omega), by omega⟩
theorem TxMay.rg {t : TxD} (h : TxMay t) : TxRg t := by
  cases h with
  | coin ht os h1 h2 => exact .coin _ _ (rg_of (by omega) (by show ht < 4294967296; omega)) (mayO_rg h2)
  | pay is os fs h1 h2 h3 h4 => exact .pay _ _ _ (mayI_rg h1) (mayO_rg h2) (mayF_rg h3)
  | create p h => exact .create _ (PrD.may_rg h)
  | cert c h => exact .cert _ (CeD.may_rg h)
  | claim l h => exact .claim _ (ClD.may_rg h)
/-- How long they are. -/
theorem SigD.bl (s : SigD) : s.b.length = 281 := by
  unfold SigD.b
  simp only [List.length_append, le_len, s.op.2.1, s.sh.2.1, s.pa.2.1]
theorem InD.bl (x : InD) : x.b.length = 298 := by
  unfold InD.b
  simp only [List.length_append, le_len, x.tx.2.1, x.key.2.1, x.s.bl]
theorem OutD.bl (x : OutD) : x.b.length = 15 := by
  unfold OutD.b
  simp only [List.length_append, le_len, x.t.2.1]
theorem FoD.bl (x : FoD) : x.b.length = 18 := by
  unfold FoD.b
  simp only [List.length_append, le_len, x.o.2.1]
theorem SgD.bl (x : SgD) : x.b.length = 282 := by
  unfold SgD.b
  simp only [List.length_append, le_len, x.s.bl]
theorem rowB_len {α : Type} {b : α → List Nat} {k : Nat} (h : ∀ x, (b x).length = k) (l : List α) : (rowB b l).length = 1 + l.length * k := by
  unfold rowB
  rw [List.length_append, le_len]
  congr 1
  induction l with
  | nil => simp
  | cons x l ih => rw [List.map_cons, List.flatten_cons, List.length_append, h, ih, List.length_cons, Nat.add_mul, Nat.one_mul, Nat.add_comm]
theorem PrD.bl (p : PrD) : p.b.length = 4 + p.ks.length * 8 := by
  unfold PrD.b
  rw [List.length_append, List.length_append, List.length_append, le_len, le_len, le_len, rowB_len (k := 8) (fun k => k.2.1)]
  omega
theorem CeD.bl (c : CeD) : c.b.length = 27 + c.os.length * 15 + c.sg.length * 282 := by
  unfold CeD.b
  simp only [List.length_append, le_len, c.en.2.1, c.ro.2.1, rowB_len OutD.bl, rowB_len SgD.bl]
  omega
theorem ClD.bl (l : ClD) : l.b.length = 147 := by
  unfold ClD.b
  simp only [List.length_append, le_len, l.o.2.1, l.pf.2.1]
theorem TxMay.bl {t : TxD} (h : TxMay t) : t.b.length ≤ 3000 := by
  cases h with
  | coin ht os h1 h2 =>
    have := h2.2
    rw [b_coin]
    simp only [List.length_append, le_len, rowB_len OutD.bl]
    omega
  | pay is os fs h1 h2 h3 h4 =>
    have := h2.2
    have := h3.2
    have := h1.2.2.2
    rw [b_pay]
    simp only [List.length_append, le_len, rowB_len OutD.bl, rowB_len InD.bl, rowB_len FoD.bl]
    omega
  | create p h =>
    have := (mayP_in h).1
    rw [List.length_map] at this
    rw [b_create, List.length_append, le_len, PrD.bl]
    omega
  | cert c h =>
    have := h.2.2.1.2
    have := h.2.2.2.2
    rw [b_cert, List.length_append, le_len, CeD.bl]
    omega
  | claim l h =>
    rw [b_claim, List.length_append, le_len, ClD.bl]
    omega
theorem TxD.bt {t : TxD} (h : TxRg t) : Bt t.b := by
  cases h with
  | coin ht os h1 h2 => rw [b_coin]; exact bt_app (bt_le _ _) (bt_app (bt_le _ _) (bt_outs _))
  | pay is os fs h1 h2 h3 => rw [b_pay]; exact bt_app (bt_le _ _) (bt_app (bt_ins _) (bt_app (bt_outs _) (bt_fos _)))
  | create p h => rw [b_create]; exact bt_app (bt_le _ _) p.bt
  | cert c h => rw [b_cert]; exact bt_app (bt_le _ _) c.bt
  | claim l h => rw [b_claim]; exact bt_app (bt_le _ _) l.bt
  | none k h h2 => rw [b_none h2]; exact bt_le _ _
end Go.Proofs.YtfoeakgnkfcbjaaGreatDoor

/- tx: the plain law: kinds, what is signed. -/
namespace Go.Proofs.YtfoeakgnkfcbjaaGreatDoor
open Go Go.Vc Go.Sha
/-- What a kind has not. -/
theorem TxMay.has {t : TxD} (h : TxMay t) : (1 ≤ t.kd ∧ t.kd ≤ 5) ∧ (t.kd ≠ 1 → t.ht = 0) ∧ (t.kd ≠ 2 → t.is = []) ∧ (t.kd ≠ 3 → t.p = PrD.nul) ∧ (t.kd ≠ 4 → t.c = CeD.nul) ∧ (t.kd ≠ 5 → t.l = ClD.nul) ∧
    (t.kd = 1 → t.ht ≠ 0) ∧ (t.kd = 2 → t.is ≠ []) ∧ (t.kd = 3 → t.p ≠ PrD.nul) ∧ (t.kd = 4 → t.c ≠ CeD.nul) ∧ (t.kd = 5 → t.l ≠ ClD.nul) := by
  have c1 : (TxD.nul 1).kd = 1 := rfl
  cases h with
  | coin ht os h1 h2 =>
    have e : (tCoin ht os).kd = 1 := rfl
    rw [e]
    refine ⟨by decide, fun h => absurd rfl h, fun _ => rfl, fun _ => rfl, fun _ => rfl, fun _ => rfl, fun _ => ?_, fun h => absurd h (by decide), fun h => absurd h (by decide), fun h => absurd h (by decide), fun h => absurd h (by decide)⟩
    show ht ≠ 0
    omega
  | pay is os fs h1 h2 h3 h4 =>
    have e : (tPay is os fs).kd = 2 := rfl
    rw [e]
    refine ⟨by decide, fun _ => rfl, fun h => absurd rfl h, fun _ => rfl, fun _ => rfl, fun _ => rfl, fun h => absurd h (by decide), fun _ => ?_, fun h => absurd h (by decide), fun h => absurd h (by decide), fun h => absurd h (by decide)⟩
    show is ≠ []
    intro e
    have := h1.2.2.1
    rw [e] at this
    exact absurd this (by decide)
  | create p h =>
    have e : (tCreate p).kd = 3 := rfl
    rw [e]
    refine ⟨by decide, fun _ => rfl, fun _ => rfl, fun h => absurd rfl h, fun _ => rfl, fun _ => rfl, fun h => absurd h (by decide), fun h => absurd h (by decide), fun _ => ?_, fun h => absurd h (by decide), fun h => absurd h (by decide)⟩
    show p ≠ PrD.nul
    intro e
    have := (mayP_in h).2.2.1.1
    rw [e] at this
    exact absurd this (by decide)
  | cert c h =>
    have e : (tCert c).kd = 4 := rfl
    rw [e]
    refine ⟨by decide, fun _ => rfl, fun _ => rfl, fun _ => rfl, fun h => absurd rfl h, fun _ => rfl, fun h => absurd h (by decide), fun h => absurd h (by decide), fun h => absurd h (by decide), fun _ => ?_, fun h => absurd h (by decide)⟩
    show c ≠ CeD.nul
    intro e
    have := h.2.2.2.1
    rw [e] at this
    exact absurd this (by decide)
  | claim l h =>
    have e : (tClaim l).kd = 5 := rfl
    rw [e]
    refine ⟨by decide, fun _ => rfl, fun _ => rfl, fun _ => rfl, fun _ => rfl, fun h => absurd rfl h, fun h => absurd h (by decide), fun h => absurd h (by decide), fun h => absurd h (by decide), fun h => absurd h (by decide), fun _ => ?_⟩
    show l ≠ ClD.nul
    intro e
    have := h.2.1
    rw [e] at this
    exact this rfl
/-- What Decode answers. -/
noncomputable def decE (b : List Nat) : Int := if 131072 < b.length then 3 else match pTx b with
  | none => 2
  | some (t, r) => if r ≠ [] ∨ ¬ TxMay t then 4 else 0
theorem dec_back {t : TxD} (h : TxMay t) : pTx t.b = some (t, []) ∧ decE t.b = 0 := by
  have h1 := good_tx.a t [] h.rg (fun x hx => by cases hx)
  rw [List.append_nil] at h1
  refine ⟨h1, ?_⟩
  unfold decE
  have := h.bl
  rw [if_neg (by omega), h1]
  exact if_neg (by rintro (h' | h'); exact h' rfl; exact h' h)
end Go.Proofs.YtfoeakgnkfcbjaaGreatDoor
end
