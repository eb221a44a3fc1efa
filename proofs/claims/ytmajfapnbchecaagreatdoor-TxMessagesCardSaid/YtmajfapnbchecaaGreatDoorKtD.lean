/- keytree's awake; KeytreeSigns. -/
import Derived.Test.YtmajfapnbchecaaGreatDoorKtC
set_option linter.unusedSimpArgs false
set_option linter.unusedVariables false
namespace Go.Sha
def h8 (k : Nat) : List Nat := [k, 0, 0, 0, 0, 0, 0, 0]
theorem h8_lt {k : Nat} (h : k < 256) : ∀ x ∈ h8 k, x < 256 := by
  intro x hx
  simp only [h8, List.mem_cons, List.not_mem_nil, or_false] at hx
  omega
theorem sigC_app {z : Int} {op sh pa : List Nat} : sigC z op sh pa = .int .i64 z :: u8s (op ++ (sh ++ pa)) := by unfold sigC; rw [u8s_app, u8s_app]
theorem sigC_kinds {z : Int} {op sh pa : List Nat} (h1 : op.length = 128) (h2 : sh.length = 128) (h3 : pa.length = 24) : Go.Vc.HasK (.i64 :: List.replicate 280 .u8) (sigC z op sh pa) := by
  rw [sigC_app]
  exact .cons _ _ (Go.Vc.HasK.u8n (by rw [List.length_append, List.length_append, h1, h2, h3]))
theorem sgo_kinds (seed m : List Nat) {i : Nat} (h : i < 8) : Go.Vc.HasK (.i64 :: List.replicate 280 .u8) (sgo seed i m) := sigC_kinds (rowOf_len (opened_len _ _ _) 16) (rowOf_len (shutd_len _ _ _) 16) (wayOf_flat seed h)
theorem sgz_kinds : Go.Vc.HasK (.i64 :: List.replicate 280 .u8) sgz := sigC_kinds (by simp) (by simp) (by simp)
theorem sgN_kinds (seed m : List Nat) (z : Int) : Go.Vc.HasK (.i64 :: List.replicate 280 .u8) (sgN seed z m) := by
  unfold sgN
  split
  · exact sgo_kinds seed m (by omega)
  · exact sgz_kinds
theorem sgN_one (seed m : List Nat) (z : Int) : ∀ u ∈ sgN seed z m, u.oneCell' = true := by
  unfold sgN
  split
  · exact sigC_one
  · exact sigC_one
end Go.Sha
namespace Go.Proofs.YtmajfapnbchecaaGreatDoor
open Go Go.Vc Go.Sha

end Go.Proofs.YtmajfapnbchecaaGreatDoor
