import Derived.Test.YtmajfapnbchecaaGreatDoorRefB
import Derived.Test.YtmajfapnbchecaaGreatDoorVcN
set_option linter.unusedSimpArgs false
set_option linter.unusedVariables false
/- lamport: bit, markH, public, Make, Sign, Public. -/
namespace Go.Sha
theorem pc_secs (seed : List Nat) (ib i b : Nat) (hb : b < 2) : pc 8 (secs seed ib i) b = secret seed ib i b := by
  have e : secs seed ib i = rowOf (fun b => secret seed ib i b) 2 := by simp [rowOf, secs]
  rw [e]
  exact pc_rowOf (fun b => secret_len seed ib i b) hb
theorem secs_row (seed : List Nat) (ib i : Nat) : rowOf (fun b => secret seed ib i b) 2 = secs seed ib i := by simp [rowOf, secs]
theorem mrks_row (seed : List Nat) (ib i : Nat) : rowOf (fun b => markH (secret seed ib i b)) 2 = mrks seed ib i := by simp [rowOf, mrks]
/-- What two rounds of 8 have written. -/
theorem zrow2 (f : Nat → List Nat) (g : Nat → List Nat) (i b : Nat) (hg : ∀ b, (g b).length = 8) (hi : i < 16) (hb : b < 2) : rowOf f i ++ rowOf g b ++ List.replicate ((16 - i) * 16 - b * 8) 0 = rowOf f i ++ rowOf g b ++ List.replicate (g b).length 0 ++ List.replicate ((16 - i) * 16 - (b + 1) * 8) 0 := by
  rw [List.append_assoc (rowOf f i ++ rowOf g b), List.replicate_append_replicate, hg]
  congr 2
  omega
end Go.Sha
namespace Go.Proofs.YtmajfapnbchecaaGreatDoor
open Go Go.Vc Go.Sha

end Go.Proofs.YtmajfapnbchecaaGreatDoor

/- lamport: public, Public; the reference's Public. -/
namespace Go.Sha
theorem pc_pc (l : List Nat) (i b : Nat) (hb : b < 2) : pc 8 (pc 16 l i) b = pc 8 l (2 * i + b) := by
  unfold pc
  rw [List.drop_take, List.drop_drop, List.take_take]
  congr 1
  · omega
  · congr 1; omega
theorem row_pc2 (l : List Nat) (i : Nat) : rowOf (pc 8 l) (2 * i) ++ rowOf (pc 8 (pc 16 l i)) 2 = rowOf (pc 8 l) (2 * (i + 1)) := by
  have e : rowOf (pc 8 (pc 16 l i)) 2 = pc 8 l (2 * i) ++ pc 8 l (2 * i + 1) := by
    simp only [rowOf, List.nil_append, pc_pc l i 0 (by decide), pc_pc l i 1 (by decide), Nat.add_zero]
  rw [e, show 2 * (i + 1) = 2 * i + 1 + 1 by omega]
  simp only [rowOf, List.append_assoc]
end Go.Sha
namespace Go.Proofs.YtmajfapnbchecaaGreatDoor
open Go Go.Vc Go.Sha

end Go.Proofs.YtmajfapnbchecaaGreatDoor

/- lamport: a key's Public; Public; the reference's Public. -/
namespace Go.Sha
theorem zeros16 (k : Nat) : List.replicate (16 + k) 0 = List.replicate 8 0 ++ (List.replicate 8 0 ++ List.replicate k (0 : Nat)) := by
  rw [List.replicate_append_replicate, List.replicate_append_replicate]
  congr 1
  omega
/-- Two pieces of 8, written in the order of a bit. -/
theorem turn_wr (m op sh ro rest : List Nat) (i : Nat) (hro : ro.length = i * 16) :
    ∃ p1 q1 p2 q2 : List Nat, ro ++ (List.replicate 8 0 ++ (List.replicate 8 0 ++ rest)) = p1 ++ List.replicate 8 0 ++ q1 ∧ i * 16 + bitOf m i * 8 = p1.length ∧ p1 ++ markH (pc 8 op i) ++ q1 = p2 ++ List.replicate 8 0 ++ q2 ∧ i * 16 + (1 - bitOf m i) * 8 = p2.length ∧
      p2 ++ pc 8 sh i ++ q2 = ro ++ turnd m op sh i ++ rest := by
  have hb := bitOf_lt m i
  have hm := mark_len (pc 8 op i)
  by_cases h : bitOf m i = 1
  · refine ⟨ro ++ List.replicate 8 0, rest, ro, markH (pc 8 op i) ++ rest, ?_, ?_, ?_, ?_, ?_⟩
    · simp only [List.append_assoc]
    · rw [h, List.length_append, hro]; simp
    · simp only [List.append_assoc]
    · rw [h, hro]; simp
    · unfold turnd; rw [if_pos h]; simp only [List.append_assoc]
  · have h0 : bitOf m i = 0 := by omega
    refine ⟨ro, List.replicate 8 0 ++ rest, ro ++ markH (pc 8 op i), rest, ?_, ?_, ?_, ?_, ?_⟩
    · simp only [List.append_assoc]
    · rw [h0, hro]; simp
    · simp only [List.append_assoc]
    · rw [h0, List.length_append, hro, hm]
    · unfold turnd; rw [if_neg h]; simp only [List.append_assoc]
theorem turnd_len (m op sh : List Nat) (i : Nat) (ho : (pc 8 sh i).length = 8) : (turnd m op sh i).length = 16 := by
  unfold turnd
  split <;> simp [mark_len, ho]
end Go.Sha
namespace Go.Proofs.YtmajfapnbchecaaGreatDoor
open Go Go.Vc Go.Sha

end Go.Proofs.YtmajfapnbchecaaGreatDoor
