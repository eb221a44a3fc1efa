/- KeytreeChecks. -/
import Derived.Test.YtmajfapnbchecaaGreatDoorKtD
set_option linter.unusedSimpArgs false
set_option linter.unusedVariables false
namespace Go.Sha
/-- Eight bytes put over a piece. -/
def put8 (l : List Nat) (j : Nat) (h : List Nat) : List Nat := l.take (j * 8) ++ h ++ l.drop (j * 8 + 8)
theorem put8_len {l h : List Nat} {j n : Nat} (hl : l.length = n * 8) (hj : j < n) (h8 : h.length = 8) : (put8 l j h).length = n * 8 := by
  unfold put8
  simp only [List.length_append, List.length_take, List.length_drop, h8, hl]
  omega
theorem put8_lt {l h : List Nat} {j : Nat} (hl : ∀ x ∈ l, x < 256) (hh : ∀ x ∈ h, x < 256) : ∀ x ∈ put8 l j h, x < 256 := by
  intro x hx
  simp only [put8, List.mem_append] at hx
  rcases hx with (hx | hx) | hx
  · exact hl x (List.mem_of_mem_take hx)
  · exact hh x hx
  · exact hl x (List.mem_of_mem_drop hx)
theorem put8_old (l : List Nat) (j : Nat) : l.take (j * 8) ++ pc 8 l j ++ l.drop (j * 8 + 8) = l := by
  unfold pc
  rw [List.append_assoc, ← List.drop_drop, List.take_append_drop, List.take_append_drop]
theorem put8_take {l : List Nat} {j n : Nat} (hl : l.length = n * 8) (hj : j < n) : (l.take (j * 8)).length = j * 8 := by
  rw [List.length_take, hl]; omega
/-- What a switch leaves: root, message, signature. -/
structure Ck where
  root : List Nat
  m : List Nat
  z : Int
  op : List Nat
  sh : List Nat
  pa : List Nat
  hr : root.length = 8
  hm : m.length = 8
  hmlt : ∀ x ∈ m, x < 256
  h1 : op.length = 128
  h1' : ∀ x ∈ op, x < 256
  h2 : sh.length = 128
  h2' : ∀ x ∈ sh, x < 256
  h3 : pa.length = 24
  h3' : ∀ x ∈ pa, x < 256
theorem sigC_z (z z' : Int) (op sh pa : List Nat) : sigC z op sh pa = [] ++ [Go.Value.int .i64 z] ++ (u8s op ++ (u8s sh ++ u8s pa)) ∧ [] ++ [Go.Value.int .i64 z'] ++ (u8s op ++ (u8s sh ++ u8s pa)) = sigC z' op sh pa := ⟨rfl, rfl⟩
theorem sigC_putO (z : Int) (op sh pa h : List Nat) (j : Nat) : sigC z op sh pa = (.int .i64 z :: u8s (op.take (j * 8))) ++ u8s (pc 8 op j) ++ (u8s (op.drop (j * 8 + 8)) ++ (u8s sh ++ u8s pa)) ∧
    (Go.Value.int .i64 z :: u8s (op.take (j * 8))) ++ u8s h ++ (u8s (op.drop (j * 8 + 8)) ++ (u8s sh ++ u8s pa)) = sigC z (put8 op j h) sh pa := by
  refine ⟨?_, ?_⟩
  · rw [sigC]
    conv => lhs; rw [← put8_old op j]
    rw [u8s_app, u8s_app]
    simp only [List.append_assoc, List.cons_append]
  · unfold sigC put8
    rw [u8s_app, u8s_app]
    simp only [List.append_assoc, List.cons_append]
theorem sigC_putS (z : Int) (op sh pa h : List Nat) (j : Nat) : sigC z op sh pa = (.int .i64 z :: (u8s op ++ u8s (sh.take (j * 8)))) ++ u8s (pc 8 sh j) ++ (u8s (sh.drop (j * 8 + 8)) ++ u8s pa) ∧
    (Go.Value.int .i64 z :: (u8s op ++ u8s (sh.take (j * 8)))) ++ u8s h ++ (u8s (sh.drop (j * 8 + 8)) ++ u8s pa) = sigC z op (put8 sh j h) pa := by
  refine ⟨?_, ?_⟩
  · rw [sigC]
    conv => lhs; rw [← put8_old sh j]
    rw [u8s_app, u8s_app]
    simp only [List.append_assoc, List.cons_append]
  · unfold sigC put8
    rw [u8s_app, u8s_app]
    simp only [List.append_assoc, List.cons_append]
theorem sigC_putP (z : Int) (op sh pa h : List Nat) (j : Nat) : sigC z op sh pa = (.int .i64 z :: (u8s op ++ (u8s sh ++ u8s (pa.take (j * 8))))) ++ u8s (pc 8 pa j) ++ u8s (pa.drop (j * 8 + 8)) ∧
    (Go.Value.int .i64 z :: (u8s op ++ (u8s sh ++ u8s (pa.take (j * 8))))) ++ u8s h ++ u8s (pa.drop (j * 8 + 8)) = sigC z op sh (put8 pa j h) := by
  refine ⟨?_, ?_⟩
  · rw [sigC]
    conv => lhs; rw [← put8_old pa j]
    rw [u8s_app, u8s_app]
    simp only [List.append_assoc, List.cons_append]
  · unfold sigC put8
    rw [u8s_app, u8s_app]
    simp only [List.append_assoc, List.cons_append]
end Go.Sha
namespace Go.Proofs.YtmajfapnbchecaaGreatDoor
open Go Go.Vc Go.Sha

end Go.Proofs.YtmajfapnbchecaaGreatDoor
