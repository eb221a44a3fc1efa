/- The reference's cut, Root, Prove. -/
import Derived.Test.YtmajfapnbchecaaGreatDoorMer2
set_option linter.unusedSimpArgs false
set_option linter.unusedVariables false
namespace Go.Vc
open Go
section
variable {P : Program} {n : Nat} {w0 : World} {S0 : List Nat} {E : Env} {L : Hp} {o : Oper} {T : List (Nat × TI)} {t : Nat} {ti : TI}
/-- p[:] of an array somewhere. -/
theorem Val.sliceAd (hT : TabOk P T) {x : Operand} {ad : Addr} {len el : Nat} {ei : TI} (ho : o.op = .slice t x none none none) (ht : tiGet T t = some ti) (hd : ti.desc = .array len el) (he : tiGet T el = some ei)
    (hx : lk E x = some (.pointer (some ad))) : Val P n w0 S0 E L o (.slice (some ad) len len) := by
  intro a w hs _
  have h2 := (hT _ _ ht).1
  rw [hd] at h2
  by_cases hl : len = 0 <;> simp [execOp, ho, hs.eval hx, Instr.sliceAt, run_underlying h2, Instr.sureAddr, Instr.sliceBounds, (hT _ _ he).size, hl, Addr.add]
end
end Go.Vc
namespace Go.Proofs.YtmajfapnbchecaaGreatDoor
open Go Go.Vc Go.Sha

end Go.Proofs.YtmajfapnbchecaaGreatDoor
