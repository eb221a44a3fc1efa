/- sparse: Fill. -/
import Derived.Test.YtfhdfpejjgmdcaaGreatDoorSpN
set_option linter.unusedSimpArgs false
set_option linter.unusedVariables false
namespace Go.Sha
open Go.Vc
/-- A Put. -/
structure DpD where
  i : Int
  h : List Nat
  h8 : H8 h
def DpD.c (d : DpD) : List Go.Value := .int .i64 d.i :: u8s d.h
theorem DpD.len (d : DpD) : d.c.length = 9 := by unfold DpD.c; rw [List.length_cons, u8s_len, d.h8.1]
def finL (l : List DpD) : Lvs := l.foldl (fun a d => putL a d.i d.h) []
theorem fin_ok (l : List DpD) : LvOk (finL l) := by
  unfold finL
  have : ∀ (l : List DpD) (a : Lvs), LvOk a → LvOk (l.foldl (fun a d => putL a d.i d.h) a) := by
    intro l
    induction l with
    | nil => intro a h; exact h
    | cons d l ih => intro a h; exact ih _ (putL_ok h d.i d.h8)
  exact this l [] ⟨List.nodup_nil, fun _ h => (by cases h), fun _ h => (by cases h), fun _ h => (by cases h)⟩
end Go.Sha
namespace Go.Proofs.YtfhdfpejjgmdcaaGreatDoor
attribute [local irreducible] Go.Vc.Run Go.Vc.RC Go.Vc.RQ Go.Vc.DR Go.Vc.DOp
open Go Go.Vc Go.Sha
/-- A tree and its leaves, each as the other. -/
structure FilP (tb mb lb : Nat) where
  x : Tr tb mb
  y : OwT
  ok : LvOk y.r
  rp : RepT x (lfF y.r)
def FilP.L {tb mb lb : Nat} (p : FilP tb mb lb) : Hp := LvL lb p.y ++ p.x.L
/-- What Fill leaves. -/
structure FilY (l : Lvs) where
  tb : Nat
  mb : Nat
  lb : Nat
  p : FilP tb mb lb
  e : p.y.r = l
end Go.Proofs.YtfhdfpejjgmdcaaGreatDoor
