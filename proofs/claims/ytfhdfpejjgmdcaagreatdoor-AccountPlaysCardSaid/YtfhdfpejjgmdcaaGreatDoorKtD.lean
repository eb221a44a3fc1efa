/- keytree's awake; KeytreeSigns. -/
import Derived.Test.YtfhdfpejjgmdcaaGreatDoorKtC
set_option linter.unusedSimpArgs false
set_option linter.unusedVariables false
namespace Go.Sha
def h8 (k : Nat) : List Nat := [k, 0, 0, 0, 0, 0, 0, 0]
theorem h8_lt {k : Nat} (h : k < 256) : ∀ x ∈ h8 k, x < 256 := by
  intro x hx
  simp only [h8, List.mem_cons, List.not_mem_nil, or_false] at hx
  omega
theorem sigC_app {z : Int} {op sh pa : List Nat} : sigC z op sh pa = .int .i64 z :: u8s (op ++ (sh ++ pa)) := by unfold sigC; rw [u8s_app, u8s_app]
theorem sigC_kinds {z : Int} {op sh pa : List Nat} (h1 : op.length = 128) (h2 : sh.length = 128) (h3 : pa.length = 24) : Go.Vc.HasK (.i64 :: List.replicate 280 .u8) (sigC z op sh pa) := by
  rw [sigC_app]
  exact .cons _ _ (Go.Vc.HasK.u8n (by rw [List.length_append, List.length_append, h1, h2, h3]))
theorem sgo_kinds (seed m : List Nat) {i : Nat} (h : i < 8) : Go.Vc.HasK (.i64 :: List.replicate 280 .u8) (sgo seed i m) := sigC_kinds (rowOf_len (opened_len _ _ _) 16) (rowOf_len (shutd_len _ _ _) 16) (wayOf_flat seed h)
theorem sgz_kinds : Go.Vc.HasK (.i64 :: List.replicate 280 .u8) sgz := sigC_kinds (by simp) (by simp) (by simp)
theorem sgN_kinds (seed m : List Nat) (z : Int) : Go.Vc.HasK (.i64 :: List.replicate 280 .u8) (sgN seed z m) := by
  unfold sgN
  split
  · exact sgo_kinds seed m (by omega)
  · exact sgz_kinds
theorem sgN_one (seed m : List Nat) (z : Int) : ∀ u ∈ sgN seed z m, u.oneCell' = true := by
  unfold sgN
  split
  · exact sigC_one
  · exact sigC_one
end Go.Sha
namespace Go.Proofs.YtfhdfpejjgmdcaaGreatDoor
open Go Go.Vc Go.Sha

theorem KCheck_sgo (root seed m : List Nat) {i : Nat} (hi : i < 8) (hr8 : root.length = 8) (hm8 : m.length = 8) (hmlt : ∀ x ∈ m, x < 256) (w : World) (hK : Laid w) :
    Gives Tryz.prog 70 [.agg (u8s root).toArray, .agg (u8s m).toArray, .agg (sgo seed i m).toArray] (.bool (checkT root m (i : Int) (rowOf (opened seed i m) 16) (rowOf (shutd seed i m) 16) (wayOf seed i).flatten)) w :=
  KCheck_calls root m i _ _ _ hr8 hm8 hmlt (rowOf_len (opened_len _ _ _) 16) (rowOf_lt (opened_lt _ _ _) 16) (rowOf_len (shutd_len _ _ _) 16) (rowOf_lt (shutd_lt _ _ _) 16) (wayOf_flat seed hi) (wayOf_HL seed i).flat_lt w hK
theorem KCheck_good (seed m : List Nat) {i : Nat} (hi : i < 8) (hm8 : m.length = 8) (hmlt : ∀ x ∈ m, x < 256) (w : World) (hK : Laid w) :
    Gives Tryz.prog 70 [.agg (u8s (treeOf seed)).toArray, .agg (u8s m).toArray, .agg (sgo seed i m).toArray] (.bool true) w := by
  have h := KCheck_sgo (treeOf seed) seed m hi (treeOf_len seed) hm8 hmlt w hK
  rw [checkT_signed seed m hi] at h
  exact h
end Go.Proofs.YtfhdfpejjgmdcaaGreatDoor
