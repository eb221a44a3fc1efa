/- sparse: SparsePuts, SparseProves. -/
import Derived.Test.YtfhdfpejjgmdcaaGreatDoorSpO
set_option linter.unusedSimpArgs false
set_option linter.unusedVariables false
namespace Go.Proofs.YtfhdfpejjgmdcaaGreatDoor
attribute [local irreducible] Go.Vc.Run Go.Vc.RC Go.Vc.RQ Go.Vc.DR Go.Vc.DOp
open Go Go.Vc Go.Sha
def rtL (l : Lvs) : List Nat := nodeF (lfF l) 16 0
def prL (l : Lvs) (i : Int) : List Nat := prfT (nodeF (lfF l)) i
theorem rtL_8 {l : Lvs} (ok : LvOk l) : H8 (rtL l) := nodeF_8 (lfF_ok ok) 16 0
theorem prL_len {l : Lvs} (ok : LvOk l) (i : Int) : (prL l i).length = 128 := prfT_len (fun q j => (nodeF_8 (lfF_ok ok) q j).1) i
theorem prL_lt {l : Lvs} (ok : LvOk l) (i : Int) : ∀ x ∈ prL l i, x < 256 := prfT_lt (lfF_ok ok) i
section
variable {tb mb lb : Nat} (p : FilP tb mb lb)
theorem FilP.hx {w : World} (hw : Has p.L w) : Has p.x.L w := fun q hq => hw q (List.mem_append_right _ hq)
theorem FilP.hy {w : World} (hw : Has p.L w) : LvW 96 w lb p.y.r := p.y.lvW fun q hq => hw q (List.mem_append_left _ hq)
theorem FRoot (w : World) (hw : Has p.L w) : Gives Tryz.prog 59 [.pointer (some ⟨tb, 0, none⟩)] (.agg (u8s (rtL p.y.r)).toArray) w := by
  have := TRoot_calls p.x w (p.hx hw)
  rw [p.rp.1 16 (Nat.le_refl _) 0] at this
  exact this
theorem FProve (i : Int) (w : World) (hw : Has p.L w) : Gives Tryz.prog 55 [.pointer (some ⟨tb, 0, none⟩), .int .i64 i] (.tuple #[.agg (u8s (prL p.y.r i)).toArray, .bool (inB i)]) w := by
  have := TProve_calls p.x i w (p.hx hw)
  rw [rep_prf p.rp] at this
  exact this
theorem FTop (w : World) (hw : Has p.L w) : Gives Tryz.prog 48 [.pointer (some ⟨lb, 0, none⟩)] (.agg (u8s (rtL p.y.r)).toArray) w := Top_calls _ p.ok lb w (p.hy hw)
theorem FPLeaf (i : Int) (w : World) (hw : Has p.L w) : Gives Tryz.prog 24 [.pointer (some ⟨lb, 0, none⟩), .int .i64 i] (.tuple #[.agg (u8s (prL p.y.r i)).toArray, .bool (inB i)]) w := ProveLeaf_calls _ p.ok lb i w (p.hy hw)
theorem FLGet (i : Int) (w : World) (hw : Has p.L w) : Gives Tryz.prog 76 [.pointer (some ⟨lb, 0, none⟩), .int .i64 i] (.agg (u8s (lfI p.y.r i)).toArray) w := LGet_calls _ p.ok lb i w (p.hy hw)
end
end Go.Proofs.YtfhdfpejjgmdcaaGreatDoor
