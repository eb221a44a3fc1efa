/- Lemmas. -/
import Derived.Test.YtfoeakgnkfcbjaaGreatDoorPt09
set_option linter.unusedSimpArgs false
set_option linter.unusedVariables false
section
/- Trees of keys: plain, and how they lie in memory. -/
namespace Go.Sha
/-- A signature, as cells. -/
def sigC (z : Int) (op sh pa : List Nat) : List Go.Value := .int .i64 z :: (u8s op ++ (u8s sh ++ u8s pa))
theorem sigC_len {z : Int} {op sh pa : List Nat} (h1 : op.length = 128) (h2 : sh.length = 128) (h3 : pa.length = 24) : (sigC z op sh pa).length = 281 := by
  simp [sigC, u8s_len, h1, h2, h3]
theorem sigC_one {z : Int} {op sh pa : List Nat} : ∀ u ∈ sigC z op sh pa, u.oneCell' = true := by
  intro u hu
  rcases List.mem_cons.1 hu with rfl | hu
  · rfl
  · rw [← u8s_app, ← u8s_app] at hu
    exact u8s_one _ u hu
end Go.Sha
namespace Go.Vc
open Go Go.Sha
section
variable {P : Program} {n : Nat} {w0 : World} {S0 : List Nat} {Q : Exit → Act → World → Prop} {E : Env} {L : Hp} {o : Oper} {d : Nat} {T : List (Nat × TI)} {t : Nat} {ti : TI}
end
section
variable {P : Program} {n : Nat} {w0 : World} {S0 : List Nat} {Q : Exit → Act → World → Prop} {E : Env} {L : Hp} {o : Oper} {d : Nat}
end
end Go.Vc

/- keytree: New, Root, Sign. -/
namespace Go.Sha
open Go
end Go.Sha
namespace Go.Vc
open Go Go.Sha
end Go.Vc
namespace Go.Proofs.YtfoeakgnkfcbjaaGreatDoor
open Go Go.Vc Go.Sha

end Go.Proofs.YtfoeakgnkfcbjaaGreatDoor

/- The reference's SignTree, CheckTree; keytree.Check, Times. -/
namespace Go.Proofs.YtfoeakgnkfcbjaaGreatDoor
open Go Go.Vc Go.Sha

end Go.Proofs.YtfoeakgnkfcbjaaGreatDoor
end
section
/- keytree's awake; KeytreeSigns. -/
namespace Go.Sha
def h8 (k : Nat) : List Nat := [k, 0, 0, 0, 0, 0, 0, 0]
end Go.Sha
namespace Go.Proofs.YtfoeakgnkfcbjaaGreatDoor
open Go Go.Vc Go.Sha

end Go.Proofs.YtfoeakgnkfcbjaaGreatDoor
end
section
/- KeytreeChecks. -/
namespace Go.Sha
end Go.Sha
namespace Go.Proofs.YtfoeakgnkfcbjaaGreatDoor
open Go Go.Vc Go.Sha

end Go.Proofs.YtfoeakgnkfcbjaaGreatDoor
end
