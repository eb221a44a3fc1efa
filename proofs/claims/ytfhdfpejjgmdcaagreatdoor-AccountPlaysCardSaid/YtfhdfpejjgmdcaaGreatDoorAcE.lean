import Derived.Test.YtfhdfpejjgmdcaaGreatDoorSpT
import Derived.Test.YtfhdfpejjgmdcaaGreatDoorSpV
import Derived.Test.YtfhdfpejjgmdcaaGreatDoorVxB
import Derived.Test.YtfhdfpejjgmdcaaGreatDoorKtC
set_option linter.unusedSimpArgs false
set_option linter.unusedVariables false
/- account: the plain law of a ledger. -/
namespace Go.Proofs.YtfhdfpejjgmdcaaGreatDoor
open Go Go.Vc Go.Sha
/-- An account. -/
structure AcD where
  o : List Nat
  am : Int
  no : Int
  h8 : H8 o
def AcD.v (a : AcD) : Value := .agg (acC a.o a.am a.no).toArray
abbrev Acs := List (Int × AcD)
def acGet (i : Int) (l : Acs) : Option AcD := (l.find? fun p => p.1 == i).map (·.2)
/-- An account is set: where it stands, or at the end. -/
def acSet (i : Int) (a : AcD) : Acs → Acs
  | [] => [(i, a)]
  | p :: l => if p.1 = i then (i, a) :: l else p :: acSet i a l
def acLf (i : Int) (a : AcD) : List Nat := leafV i a.o a.am a.no
def acF (l : Acs) : Nat → List Nat := fun j => match acGet j l with
  | some a => acLf j a
  | none => Z8
structure AcOk (l : Acs) : Prop where
  nd : (l.map (·.1)).Nodup
  lt : ∀ p ∈ l, 0 ≤ p.1 ∧ p.1 < 65536
theorem acOk_nil : AcOk [] where
  nd := List.nodup_nil
  lt := fun _ h => by cases h
theorem acGet_cons (i : Int) (p : Int × AcD) (l : Acs) : acGet i (p :: l) = if p.1 = i then some p.2 else acGet i l := by
  unfold acGet
  rw [List.find?_cons]
  by_cases h : p.1 = i
  · rw [if_pos h, show (p.1 == i) = true from by rw [h]; exact beq_self_eq_true i]; rfl
  · rw [if_neg h, show (p.1 == i) = false from beq_eq_false_iff_ne.2 h]
theorem acGet_set (i : Int) (a : AcD) (j : Int) : ∀ l : Acs, acGet j (acSet i a l) = if j = i then some a else acGet j l
  | [] => by
    unfold acSet
    rw [acGet_cons]
    by_cases h : j = i
    · rw [if_pos h.symm, if_pos h]
    · rw [if_neg (fun e => h e.symm), if_neg h]
  | p :: l => by
    unfold acSet
    by_cases hp : p.1 = i
    · rw [if_pos hp, acGet_cons, acGet_cons]
      by_cases h : j = i
      · rw [if_pos h.symm, if_pos h]
      · rw [if_neg (fun e => h e.symm), if_neg h, if_neg (fun e => h (e.symm.trans hp))]
    · rw [if_neg hp, acGet_cons, acGet_cons, acGet_set i a j l]
      by_cases h : p.1 = j
      · rw [if_pos h, if_pos h, if_neg (fun e => hp (h.trans e))]
      · rw [if_neg h, if_neg h]
theorem acSet_mem (i : Int) (a : AcD) : ∀ (l : Acs), (acSet i a l).map (·.1) = if (l.map (·.1)).contains i then l.map (·.1) else l.map (·.1) ++ [i]
  | [] => rfl
  | p :: l => by
    unfold acSet
    by_cases hp : p.1 = i
    · rw [if_pos hp, List.map_cons, List.map_cons, List.contains_cons, show (i == p.1) = true from by rw [hp]; exact beq_self_eq_true i, Bool.true_or, if_pos rfl, hp]
    · rw [if_neg hp, List.map_cons, List.map_cons, acSet_mem i a l, List.contains_cons, show (i == p.1) = false from beq_eq_false_iff_ne.2 (fun e => hp e.symm), Bool.false_or]
      split <;> simp
theorem acSet_ok {l : Acs} (ok : AcOk l) {i : Int} (hi : 0 ≤ i ∧ i < 65536) (a : AcD) : AcOk (acSet i a l) := by
  have hm := acSet_mem i a l
  constructor
  · rw [hm]
    split
    · exact ok.nd
    · rename_i h
      rw [List.nodup_append]
      refine ⟨ok.nd, by simp, fun x hx y hy => ?_⟩
      rw [List.mem_singleton] at hy
      subst hy
      rintro rfl
      exact h (by simpa using hx)
  · intro p hp
    have h1 : p.1 ∈ (acSet i a l).map (·.1) := List.mem_map_of_mem hp
    rw [hm] at h1
    have key : ∀ x ∈ l.map (·.1), 0 ≤ x ∧ x < 65536 := fun x hx => by
      obtain ⟨q, hq, rfl⟩ := List.mem_map.1 hx
      exact ok.lt q hq
    split at h1
    · exact key _ h1
    · rcases List.mem_append.1 h1 with h1 | h1
      · exact key _ h1
      · rw [List.mem_singleton] at h1; rw [h1]; exact hi
theorem acLf_8 (i : Int) (a : AcD) : H8 (acLf i a) := leafV_8 _ _ _ _
theorem acF_ok (l : Acs) : okF (acF l) := fun j => by
  unfold acF
  split
  · exact acLf_8 _ _
  · exact H8.z
theorem acF_set (l : Acs) (i : Nat) (a : AcD) : acF (acSet (i : Int) a l) = updF (acF l) i (acLf i a) := by
  funext j
  unfold acF updF
  rw [acGet_set]
  by_cases h : j = i
  · rw [if_pos h, if_pos (by omega), h]
  · rw [if_neg h, if_neg (by omega)]
/-- The leaves of all accounts, put one after another. -/
def acDp (p : Int × AcD) : DpD := ⟨p.1, acLf p.1 p.2, acLf_8 _ _⟩
theorem acF_fin {l : Acs} (ok : AcOk l) : lfF (finL (l.map acDp)) = acF l := by
  have ok0 : LvOk [] := lvOk_nil
  have hpw : (l.map acDp).Pairwise (fun x y => x.i ≠ y.i) := by
    rw [List.pairwise_map]
    have := ok.nd
    rw [List.Nodup, List.pairwise_map] at this
    exact this
  have hget : ∀ (l : Acs), (l.map (·.1)).Nodup → ∀ p ∈ l, acGet p.1 l = some p.2 := by
    intro l
    induction l with
    | nil => intro _ p hp; cases hp
    | cons q l ih =>
      intro nd p hp
      rw [List.map_cons, List.nodup_cons] at nd
      rw [acGet_cons]
      rcases List.mem_cons.1 hp with rfl | hp
      · rw [if_pos rfl]
      · rw [if_neg (fun e => nd.1 (by rw [e]; exact List.mem_map_of_mem hp)), ih nd.2 p hp]
  have hno : ∀ (l : Acs) (j : Int), (∀ p ∈ l, p.1 ≠ j) → acGet j l = none := by
    intro l j
    induction l with
    | nil => intro _; rfl
    | cons q l ih =>
      intro h
      rw [acGet_cons, if_neg (h q List.mem_cons_self), ih fun p hp => h p (List.mem_cons_of_mem _ hp)]
  funext j
  unfold acF
  by_cases hx : ∃ p ∈ l, p.1 = (j : Int)
  · obtain ⟨p, hp, hj⟩ := hx
    have hj2 : j < 65536 := by have := (ok.lt p hp).2; omega
    unfold finL
    rw [fold_in j hj2 _ [] ok0 hpw (acDp p) (List.mem_map_of_mem hp) hj, ← hj, hget l ok.nd p hp]
    rfl
  · unfold finL
    rw [fold_no j _ [] ok0 (fun d hd => by
      obtain ⟨p, hp, rfl⟩ := List.mem_map.1 hd
      exact fun e => hx ⟨p, hp, e⟩), hno l j fun p hp e => hx ⟨p, hp, e⟩]
    rfl
end Go.Proofs.YtfhdfpejjgmdcaaGreatDoor

/- account: the plain law: what is credited, done, closed. -/
namespace Go.Proofs.YtfhdfpejjgmdcaaGreatDoor
open Go Go.Vc Go.Sha
/-- A transaction of a side. -/
structure SxD where
  kd : Int
  fr : Int
  tt : Int
  ou : List Nat
  am : Int
  z : Int
  op : List Nat
  sh : List Nat
  pa : List Nat
  h8 : H8 ou
  h1 : op.length = 128 ∧ ∀ x ∈ op, x < 256
  h2 : sh.length = 128 ∧ ∀ x ∈ sh, x < 256
  h3 : pa.length = 24 ∧ ∀ x ∈ pa, x < 256
def sxC (kd fr tt : Int) (ou : List Nat) (am z : Int) (op sh pa : List Nat) : List Go.Value := .int .i64 kd :: .int .i64 fr :: .int .i64 tt :: (u8s ou ++ (.int .i64 am :: sigC z op sh pa))
def SxD.c (t : SxD) : List Go.Value := sxC t.kd t.fr t.tt t.ou t.am t.z t.op t.sh t.pa
theorem SxD.len (t : SxD) : t.c.length = 293 := by
  unfold SxD.c sxC sigC
  simp only [List.length_cons, List.length_append, u8s_len, t.h8.1, t.h1.1, t.h2.1, t.h3.1]
theorem SxD.one (t : SxD) : ∀ u ∈ t.c, u.oneCell' = true := by
  intro u hu
  unfold SxD.c sxC sigC at hu
  simp only [List.mem_cons, List.mem_append] at hu
  rcases hu with rfl | rfl | rfl | hu | rfl | rfl | hu | hu | hu
  · rfl
  · rfl
  · rfl
  · exact u8s_one _ u hu
  · rfl
  · rfl
  · exact u8s_one _ u hu
  · exact u8s_one _ u hu
  · exact u8s_one _ u hu
def maxM : Int := 1125899906842624
/-- May a transaction be? -/
def fitsX (t : SxD) : Prop := (0 ≤ t.fr ∧ t.fr < 65536) ∧ (1 ≤ t.am ∧ t.am ≤ maxM) ∧ (0 ≤ t.z ∧ t.z ≤ 255)
def kindX (t : SxD) : Prop := (t.kd = 1 ∧ (0 ≤ t.tt ∧ t.tt < 65536) ∧ t.tt ≠ t.fr ∧ t.ou = Z8) ∨ (t.kd = 2 ∧ t.tt = 0 ∧ t.ou ≠ Z8)
def maySx (t : SxD) : Prop := fitsX t ∧ kindX t
instance (t : SxD) : Decidable (maySx t) := by unfold maySx fitsX kindX; infer_instance
/-- What is signed. -/
def msgX (side : Int) (t : SxD) : List Nat := digest 121 [le side.toNat 1, le t.kd.toNat 1, le t.fr.toNat 2, le t.tt.toNat 2, t.ou, le t.am.toNat 7, le t.z.toNat 1]
def mokX (side : Int) (t : SxD) : Prop := maySx t ∧ 0 ≤ side ∧ side < 8
instance (side : Int) (t : SxD) : Decidable (mokX side t) := by unfold mokX; infer_instance
def messX (side : Int) (t : SxD) : List Nat := if mokX side t then msgX side t else Z8
theorem messX_8 (side : Int) (t : SxD) : H8 (messX side t) := by
  unfold messX
  split
  · exact ⟨digest_len _ _, digest_lt _ _⟩
  · exact H8.z
/-- What leaves. -/
structure OuD where
  t : List Nat
  am : Int
  h8 : H8 t
def OuD.c (x : OuD) : List Go.Value := u8s x.t ++ [.int .i64 x.am]
theorem OuD.len (x : OuD) : x.c.length = 9 := by unfold OuD.c; rw [List.length_append, u8s_len, x.h8.1]; rfl
theorem OuD.one (x : OuD) : ∀ u ∈ x.c, u.oneCell' = true := by
  intro u hu
  unfold OuD.c at hu
  rcases List.mem_append.1 hu with hu | hu
  · exact u8s_one _ u hu
  · rw [List.mem_singleton] at hu; subst hu; rfl
/-- A ledger. -/
structure LS where
  side : Int
  acs : Acs
  out : List OuD
/-- Amounts that may be. -/
structure LsOk (s : LS) : Prop where
  ok : AcOk s.acs
  am : ∀ p ∈ s.acs, 0 ≤ p.2.am ∧ p.2.am ≤ maxM
  no : ∀ p ∈ s.acs, 0 ≤ p.2.no ∧ p.2.no ≤ 8
  ol : s.out.length ≤ 16
  oa : ∀ x ∈ s.out, 1 ≤ x.am ∧ x.am ≤ maxM
/-- A credit. -/
def crOk (s : LS) (sd ac : Int) (o : List Nat) (am : Int) : Prop :=
  sd = s.side ∧ (0 ≤ ac ∧ ac < 65536) ∧ (1 ≤ am ∧ am ≤ maxM) ∧ o ≠ Z8 ∧ (match acGet ac s.acs with | some a => a.am + am ≤ maxM | none => True)
instance (s : LS) (sd ac : Int) (o : List Nat) (am : Int) : Decidable (crOk s sd ac o am) := by
  unfold crOk
  cases acGet ac s.acs <;> infer_instance
def crTo (s : LS) (ac : Int) (o : List Nat) (h : H8 o) (am : Int) : AcD := match acGet ac s.acs with
  | some a => { a with am := a.am + am }
  | none => ⟨o, am, 0, h⟩
def crS (s : LS) (sd ac : Int) (o : List Nat) (h : H8 o) (am : Int) : LS := if crOk s sd ac o am then { s with acs := acSet ac (crTo s ac o h am) s.acs } else s
def toAm (s : LS) (t : SxD) : Int := match acGet t.tt s.acs with
  | some g => g.am
  | none => 0
/-- What is wrong with a transaction; nothing: 0. -/
def erX (s : LS) (t : SxD) : Int :=
  if ¬ maySx t then 4 else match acGet t.fr s.acs with
  | none => 19
  | some f => if t.kd = 1 ∧ (acGet t.tt s.acs).isNone then 19
    else if t.z ≠ f.no then 13
    else if ¬ (mokX s.side t ∧ checkT f.o (messX s.side t) t.z t.op t.sh t.pa = true) then 7
    else if t.am > f.am ∨ t.kd = 1 ∧ toAm s t + t.am > maxM then 5
    else if t.kd ≠ 1 ∧ s.out.length ≥ 16 then 18 else 0
/-- A transaction is done. -/
def doX (s : LS) (t : SxD) : LS := if erX s t ≠ 0 then s else match acGet t.fr s.acs with
  | none => s
  | some f =>
    if t.kd = 1 then match acGet t.tt s.acs with
      | none => s
      | some g => { s with acs := acSet t.tt { g with am := g.am + t.am } (acSet t.fr { f with am := f.am - t.am, no := f.no + 1 } s.acs) }
    else { s with acs := acSet t.fr { f with am := f.am - t.am, no := f.no + 1 } s.acs, out := s.out ++ [⟨t.ou, t.am, t.h8⟩] }
theorem acGet_in {i : Int} {a : AcD} : ∀ {l : Acs}, acGet i l = some a → (i, a) ∈ l
  | [], h => by cases h
  | p :: l, h => by
    rw [acGet_cons] at h
    split at h
    · rename_i e
      cases h
      rw [← e]
      exact List.mem_cons_self
    · exact List.mem_cons_of_mem _ (acGet_in h)
theorem acSet_in {i : Int} {a : AcD} : ∀ {l : Acs} {p : Int × AcD}, p ∈ acSet i a l → p = (i, a) ∨ p ∈ l
  | [], p, h => by
    unfold acSet at h
    rw [List.mem_singleton] at h
    exact .inl h
  | q :: l, p, h => by
    unfold acSet at h
    split at h
    · rcases List.mem_cons.1 h with h | h
      · exact .inl h
      · exact .inr (List.mem_cons_of_mem _ h)
    · rcases List.mem_cons.1 h with h | h
      · exact .inr (by rw [h]; exact List.mem_cons_self)
      · rcases acSet_in h with h | h
        · exact .inl h
        · exact .inr (List.mem_cons_of_mem _ h)
theorem crS_ok {s : LS} (ok : LsOk s) (sd ac : Int) (o : List Nat) (h : H8 o) (am : Int) : LsOk (crS s sd ac o h am) := by
  unfold crS
  by_cases hc : crOk s sd ac o am
  · rw [if_pos hc]
    obtain ⟨_, hac, ham, _, hm⟩ := hc
    have key : (0 ≤ (crTo s ac o h am).am ∧ (crTo s ac o h am).am ≤ maxM) ∧ (0 ≤ (crTo s ac o h am).no ∧ (crTo s ac o h am).no ≤ 8) := by
      unfold crTo
      cases hg : acGet ac s.acs with
      | none => exact ⟨⟨by show 0 ≤ am; omega, ham.2⟩, by show (0 : Int) ≤ 0 ∧ (0 : Int) ≤ 8; omega⟩
      | some a =>
        rw [hg] at hm
        dsimp only at hm ⊢
        have h1 := ok.am _ (acGet_in hg)
        have h2 := ok.no _ (acGet_in hg)
        dsimp only at h1 h2
        omega
    refine ⟨acSet_ok ok.ok hac _, fun p hp => ?_, fun p hp => ?_, ok.ol, ok.oa⟩
    · rcases acSet_in hp with rfl | hp
      · exact key.1
      · exact ok.am p hp
    · rcases acSet_in hp with rfl | hp
      · exact key.2
      · exact ok.no p hp
  · rw [if_neg hc]; exact ok
theorem erX_zero {s : LS} {t : SxD} (h : erX s t = 0) : maySx t ∧ ∃ f, acGet t.fr s.acs = some f ∧ (t.kd = 1 → ∃ g, acGet t.tt s.acs = some g ∧ g.am + t.am ≤ maxM) ∧ t.z = f.no ∧ mokX s.side t ∧ checkT f.o (messX s.side t) t.z t.op t.sh t.pa = true ∧ t.am ≤ f.am ∧ (t.kd ≠ 1 → s.out.length < 16) := by
  unfold erX at h
  by_cases h1 : maySx t
  · rw [if_neg (fun h => h h1)] at h
    refine ⟨h1, ?_⟩
    cases hf : acGet t.fr s.acs with
    | none => rw [hf] at h; dsimp only at h; omega
    | some f =>
      rw [hf] at h
      dsimp only at h
      by_cases h2 : t.kd = 1 ∧ (acGet t.tt s.acs).isNone
      · rw [if_pos h2] at h; omega
      rw [if_neg h2] at h
      by_cases h3 : t.z ≠ f.no
      · rw [if_pos h3] at h; omega
      rw [if_neg h3] at h
      by_cases h4 : mokX s.side t ∧ checkT f.o (messX s.side t) t.z t.op t.sh t.pa = true
      · rw [if_neg (fun h => h h4)] at h
        by_cases h5 : t.am > f.am ∨ t.kd = 1 ∧ toAm s t + t.am > maxM
        · rw [if_pos h5] at h; omega
        rw [if_neg h5] at h
        by_cases h6 : t.kd ≠ 1 ∧ s.out.length ≥ 16
        · rw [if_pos h6] at h; omega
        refine ⟨f, rfl, fun hk => ?_, by omega, h4.1, h4.2, by omega, fun hk => by omega⟩
        cases hg : acGet t.tt s.acs with
        | none => exact absurd ⟨hk, by rw [hg]; rfl⟩ h2
        | some g =>
          unfold toAm at h5
          rw [hg] at h5
          exact ⟨g, rfl, by dsimp only at h5; omega⟩
      · rw [if_pos h4] at h; omega
  · rw [if_pos h1] at h; omega
theorem checkT_in {root m : List Nat} {z : Int} {op sh pa : List Nat} (h : checkT root m z op sh pa = true) : 0 ≤ z ∧ z < 8 := by
  by_cases hz : 0 ≤ z ∧ z < 8
  · exact hz
  · rw [checkT_bad (by omega)] at h; cases h
theorem acUp_ok {s : LS} (ok : LsOk s) {i : Int} {a : AcD} (hi : 0 ≤ i ∧ i < 65536) (h1 : 0 ≤ a.am ∧ a.am ≤ maxM) (h2 : 0 ≤ a.no ∧ a.no ≤ 8) : LsOk { s with acs := acSet i a s.acs } :=
  ⟨acSet_ok ok.ok hi a, fun p hp => by
    rcases acSet_in hp with rfl | hp
    · exact h1
    · exact ok.am p hp, fun p hp => by
    rcases acSet_in hp with rfl | hp
    · exact h2
    · exact ok.no p hp, ok.ol, ok.oa⟩
theorem doX_ok {s : LS} (ok : LsOk s) (t : SxD) : LsOk (doX s t) := by
  unfold doX
  by_cases he : erX s t ≠ 0
  · rw [if_pos he]; exact ok
  · rw [if_neg he]
    obtain ⟨hm, f, hf, hto, hz, _, hch, ham, hout⟩ := erX_zero (Decidable.not_not.1 he)
    obtain ⟨⟨hfr, hta, _⟩, hk⟩ := hm
    rw [hf]
    dsimp only
    have f1 := ok.am _ (acGet_in hf)
    have f2 := ok.no _ (acGet_in hf)
    have hz8 := checkT_in hch
    dsimp only at f1 f2
    have hup : LsOk { s with acs := acSet t.fr { f with am := f.am - t.am, no := f.no + 1 } s.acs } := acUp_ok ok hfr (by show 0 ≤ f.am - t.am ∧ f.am - t.am ≤ maxM; omega) (by show 0 ≤ f.no + 1 ∧ f.no + 1 ≤ 8; omega)
    by_cases hk1 : t.kd = 1
    · rw [if_pos hk1]
      obtain ⟨g, hg, hgm⟩ := hto hk1
      rw [hg]
      have g1 := ok.am _ (acGet_in hg)
      have g2 := ok.no _ (acGet_in hg)
      dsimp only at g1 g2 ⊢
      have htt : 0 ≤ t.tt ∧ t.tt < 65536 := by
        rcases hk with hk | hk
        · exact hk.2.1
        · rw [hk.2.1]; omega
      exact acUp_ok hup htt (by show 0 ≤ g.am + t.am ∧ g.am + t.am ≤ maxM; omega) (by show 0 ≤ g.no ∧ g.no ≤ 8; omega)
    · rw [if_neg hk1]
      have ho := hout hk1
      refine ⟨hup.ok, hup.am, hup.no, ?_, fun x hx => ?_⟩
      · show (s.out ++ [_]).length ≤ 16
        rw [List.length_append, List.length_singleton]; omega
      · rcases List.mem_append.1 hx with hx | hx
        · exact ok.oa x hx
        · rw [List.mem_singleton] at hx; subst hx; exact hta
/-- All that accounts have; all that leaves. -/
def totX (s : LS) : Int := (s.acs.map fun p => p.2.am).sum
def leavX (s : LS) : Int := (s.out.map (·.am)).sum
theorem sum_set {i : Int} {a : AcD} : ∀ {l : Acs}, (l.map (·.1)).Nodup → ((acSet i a l).map fun p => p.2.am).sum = (l.map fun p => p.2.am).sum + a.am - (match acGet i l with | some b => b.am | none => 0)
  | [], _ => by
    unfold acSet
    show a.am + 0 = 0 + a.am - 0
    omega
  | p :: l, nd => by
    rw [List.map_cons, List.nodup_cons] at nd
    rw [acGet_cons]
    unfold acSet
    by_cases h : p.1 = i
    · rw [if_pos h, if_pos h, List.map_cons, List.map_cons, List.sum_cons, List.sum_cons]
      dsimp only
      omega
    · rw [if_neg h, if_neg h, List.map_cons, List.map_cons, List.sum_cons, List.sum_cons, sum_set nd.2]
      omega
end Go.Proofs.YtfhdfpejjgmdcaaGreatDoor

/- account: the plain law: sums. -/
namespace Go.Proofs.YtfhdfpejjgmdcaaGreatDoor
open Go Go.Vc Go.Sha
theorem totX_set {s : LS} (ok : LsOk s) {i : Int} {a : AcD} : totX { s with acs := acSet i a s.acs } = totX s + a.am - (match acGet i s.acs with | some b => b.am | none => 0) := sum_set ok.ok.nd
theorem crS_sum {s : LS} (ok : LsOk s) {sd ac : Int} {o : List Nat} {h : H8 o} {am : Int} : totX (crS s sd ac o h am) = totX s + (if crOk s sd ac o am then am else 0) ∧ leavX (crS s sd ac o h am) = leavX s := by
  unfold crS
  by_cases hc : crOk s sd ac o am
  · rw [if_pos hc, if_pos hc]
    refine ⟨?_, rfl⟩
    rw [totX_set ok]
    unfold crTo
    cases acGet ac s.acs with
    | none => dsimp only; omega
    | some a => dsimp only; omega
  · rw [if_neg hc, if_neg hc]
    exact ⟨by omega, rfl⟩
theorem doX_sum {s : LS} (ok : LsOk s) (t : SxD) : totX (doX s t) + leavX (doX s t) = totX s + leavX s := by
  unfold doX
  by_cases he : erX s t ≠ 0
  · rw [if_pos he]
  · rw [if_neg he]
    obtain ⟨hm, f, hf, hto, hz, _, hch, ham, hout⟩ := erX_zero (Decidable.not_not.1 he)
    obtain ⟨⟨hfr, hta, _⟩, hk⟩ := hm
    have f1 := ok.am _ (acGet_in hf)
    have f2 := ok.no _ (acGet_in hf)
    have hz8 := checkT_in hch
    dsimp only at f1 f2
    have hup : LsOk { s with acs := acSet t.fr { f with am := f.am - t.am, no := f.no + 1 } s.acs } := acUp_ok ok hfr (by show 0 ≤ f.am - t.am ∧ f.am - t.am ≤ maxM; omega) (by show 0 ≤ f.no + 1 ∧ f.no + 1 ≤ 8; omega)
    have h1 := totX_set ok (i := t.fr) (a := { f with am := f.am - t.am, no := f.no + 1 })
    rw [hf] at h1 ⊢
    dsimp only at h1 ⊢
    by_cases hk1 : t.kd = 1
    · rw [if_pos hk1]
      obtain ⟨g, hg, hgm⟩ := hto hk1
      have hne : t.tt ≠ t.fr := by
        rcases hk with hk | hk
        · exact hk.2.2.1
        · omega
      have h2 := totX_set hup (i := t.tt) (a := { g with am := g.am + t.am })
      dsimp only at h2
      rw [acGet_set, if_neg hne, hg] at h2
      rw [hg]
      dsimp only at h2 ⊢
      rw [h2, h1]
      show _ + leavX s = _
      omega
    · rw [if_neg hk1]
      have h3 : leavX { s with acs := acSet t.fr { f with am := f.am - t.am, no := f.no + 1 } s.acs, out := s.out ++ [⟨t.ou, t.am, t.h8⟩] } = leavX s + t.am := by
        unfold leavX
        show ((s.out ++ [_]).map OuD.am).sum = _
        rw [List.map_append, List.sum_append]
        simp
      have h4 : totX { s with acs := acSet t.fr { f with am := f.am - t.am, no := f.no + 1 } s.acs, out := s.out ++ [⟨t.ou, t.am, t.h8⟩] } = totX { s with acs := acSet t.fr { f with am := f.am - t.am, no := f.no + 1 } s.acs } := rfl
      rw [h3, h4, h1]
      omega
end Go.Proofs.YtfhdfpejjgmdcaaGreatDoor

/- account, money: the small functions. -/
namespace Go.Proofs.YtfhdfpejjgmdcaaGreatDoor
attribute [local irreducible] Go.Vc.Run Go.Vc.RC Go.Vc.RQ Go.Vc.DR Go.Vc.DOp
open Go Go.Vc Go.Sha
set_option maxRecDepth 10000 in set_option maxHeartbeats 4000000 in
theorem within_calls (n a b : Int) (w : World) : Gives Tryz.prog 40 [.int .i64 n, .int .i64 a, .int .i64 b] (.bool (decide (a ≤ n ∧ n ≤ b))) w := by
  refine enter Tryz.func40 rfl (Mem.nil w []) rfl ?_
  by_cases h0 : a ≤ n
  · refine z_ ?_
    exact RQ.ret1 rfl (Res.tmp rfl) fun w' hm => ⟨by simp only [h0, true_and]; rfl, hm.fr⟩
  · refine z_ ?_
    exact RQ.ret1 rfl (Res.tmp rfl) fun w' hm => ⟨by simp only [h0, false_and, decide_false]; rfl, hm.fr⟩
set_option maxRecDepth 10000 in set_option maxHeartbeats 4000000 in
theorem place_calls (n : Int) (w : World) : Gives Tryz.prog 32 [.int .i64 n] (.bool (decide (0 ≤ n ∧ n ≤ 65535))) w := by
  refine enter Tryz.func32 rfl (Mem.nil w []) rfl ?_
  refine z_ ?_
  refine Run.op1 (OpTo.cv Tryz.func40 (fun w' _ => within_calls n 0 65535 w')) (fun _ => ?_)
  refine z_ ?_
  exact RQ.ret1 rfl (Res.tmp rfl) fun w' hm => ⟨rfl, hm.fr⟩
def mayM (n : Int) : Bool := decide (0 ≤ n ∧ n ≤ maxM)
set_option maxRecDepth 10000 in set_option maxHeartbeats 4000000 in
theorem MMay_calls (n : Int) (w : World) : Gives Tryz.prog 81 [.int .i64 n] (.bool (mayM n)) w := by
  refine enter Tryz.func81 rfl (Mem.nil w []) rfl ?_
  unfold mayM maxM
  by_cases h0 : 0 ≤ n
  · refine z_ ?_
    exact RQ.ret1 rfl (Res.tmp rfl) fun w' hm => ⟨by simp only [h0, true_and]; rfl, hm.fr⟩
  · refine z_ ?_
    exact RQ.ret1 rfl (Res.tmp rfl) fun w' hm => ⟨by simp only [h0, false_and, decide_false]; rfl, hm.fr⟩
def bothM (a b n : Int) : Bool := mayM a && mayM b && mayM n
set_option maxRecDepth 10000 in set_option maxHeartbeats 4000000 in
theorem both_calls (a b n : Int) (w : World) : Gives Tryz.prog 64 [.int .i64 a, .int .i64 b, .int .i64 n] (.tuple #[.int .i64 (if bothM a b n then n else 0), .bool (bothM a b n)]) w := by
  refine enter Tryz.func64 rfl (Mem.nil w []) rfl ?_
  have c1 := fun w' => MMay_calls a w'
  have c2 := fun w' => MMay_calls b w'
  have c3 := fun w' => MMay_calls n w'
  unfold bothM
  generalize mayM a = qa at c1 ⊢
  generalize mayM b = qb at c2 ⊢
  generalize mayM n = qn at c3 ⊢
  refine z_ ?_
  refine Run.op1 (OpTo.cv Tryz.func81 (fun w' _ => c1 w')) (fun _ => ?_)
  cases qa with
  | false =>
    refine z_ ?_
    exact RQ.ret2 rfl (Res.tmp rfl) (Res.tmp rfl) fun w' hm => ⟨rfl, hm.fr⟩
  | true =>
    refine z_ ?_
    refine Run.op1 (OpTo.cv Tryz.func81 (fun w' _ => c2 w')) (fun _ => ?_)
    cases qb with
    | false =>
      refine z_ ?_
      exact RQ.ret2 rfl (Res.tmp rfl) (Res.tmp rfl) fun w' hm => ⟨rfl, hm.fr⟩
    | true =>
      refine z_ ?_
      refine Run.op1 (OpTo.cv Tryz.func81 (fun w' _ => c3 w')) (fun _ => ?_)
      cases qn with
      | false =>
        refine z_ ?_
        exact RQ.ret2 rfl (Res.tmp rfl) (Res.tmp rfl) fun w' hm => ⟨rfl, hm.fr⟩
      | true =>
        refine z_ ?_
        exact RQ.ret2 rfl (Res.tmp rfl) (Res.tmp rfl) fun w' hm => ⟨rfl, hm.fr⟩
set_option maxRecDepth 10000 in set_option maxHeartbeats 4000000 in
theorem MAdd_calls (a b : Int) (h : -9223372036854775808 ≤ a + b ∧ a + b ≤ 9223372036854775807) (w : World) : Gives Tryz.prog 34 [.int .i64 a, .int .i64 b] (.tuple #[.int .i64 (if bothM a b (a + b) then a + b else 0), .bool (bothM a b (a + b))]) w := by
  refine enter Tryz.func34 rfl (Mem.nil w []) rfl ?_
  refine z_ ?_
  refine Run.op1 (OpTo.cv Tryz.func64 (fun w' _ => both_calls a b (a + b) w')) (fun _ => ?_)
  refine z_ ?_
  exact RQ.ret2 rfl (Res.tmp rfl) (Res.tmp rfl) fun w' hm => ⟨rfl, hm.fr⟩
set_option maxRecDepth 10000 in set_option maxHeartbeats 4000000 in
theorem MSub_calls (a b : Int) (h : -9223372036854775808 ≤ a - b ∧ a - b ≤ 9223372036854775807) (w : World) : Gives Tryz.prog 71 [.int .i64 a, .int .i64 b] (.tuple #[.int .i64 (if bothM a b (a - b) then a - b else 0), .bool (bothM a b (a - b))]) w := by
  refine enter Tryz.func71 rfl (Mem.nil w []) rfl ?_
  refine z_ ?_
  refine Run.op1 (OpTo.cv Tryz.func64 (fun w' _ => both_calls a b (a - b) w')) (fun _ => ?_)
  refine z_ ?_
  exact RQ.ret2 rfl (Res.tmp rfl) (Res.tmp rfl) fun w' hm => ⟨rfl, hm.fr⟩
end Go.Proofs.YtfhdfpejjgmdcaaGreatDoor
