import Derived.Test.YtmajfapnbchecaaGreatDoorMer2
import Derived.Test.YtmajfapnbchecaaGreatDoorMerR
set_option linter.unusedSimpArgs false
set_option linter.unusedVariables false
/- merkle.turns, Check. -/
namespace Go.Sha
/-- Whether a proof leads from a leaf to a root, for any numbers. -/
def checkM (root x : List Nat) (zi zn : Int) (ps : List (List Nat)) : Bool := decide (1 ≤ zn ∧ zn ≤ 65536 ∧ 0 ≤ zi ∧ zi < zn) && leads root x zi.toNat zn.toNat ps
theorem chk_bad {root x : List Nat} {zi zn : Int} {ps : List (List Nat)} (h : zn < 1 ∨ 65536 < zn ∨ zi < 0 ∨ zn ≤ zi) : checkM root x zi zn ps = false := by
  unfold checkM
  rw [decide_eq_false (by omega)]; rfl
theorem chk_good {root x : List Nat} {i n : Nat} {ps : List (List Nat)} (h : i < n) (hn : n ≤ 65536) : checkM root x (i : Int) (n : Int) ps = leads root x i n ps := by
  unfold checkM
  rw [decide_eq_true (by omega)]; rfl
/-- Bools, as cells. -/
def bls (l : List Bool) : List Go.Value := l.map Go.Value.bool
theorem bls_len (l : List Bool) : (bls l).length = l.length := by simp [bls]
theorem upAll_take_succ (h : List Nat) (ts : List Bool) (ps : List (List Nat)) (k : Nat) (t : Bool) (p : List Nat) (ht : ts[k]? = some t) (hp : ps[k]? = some p) : upAll h (ts.take (k + 1)) (ps.take (k + 1)) = upStep (upAll h (ts.take k) (ps.take k)) t p := by
  have h1 := (List.getElem?_eq_some_iff.1 ht).1
  have h2 := (List.getElem?_eq_some_iff.1 hp).1
  rw [List.take_succ_eq_append_getElem h1, List.take_succ_eq_append_getElem h2, (List.getElem?_eq_some_iff.1 ht).2, (List.getElem?_eq_some_iff.1 hp).2]
  exact upAll_snoc _ _ _ _ _ (by rw [List.length_take, List.length_take]; omega)
theorem upAll_8 : ∀ (ts : List Bool) (ps : List (List Nat)) (h : List Nat), h.length = 8 → (∀ x ∈ h, x < 256) → (upAll h ts ps).length = 8 ∧ ∀ x ∈ upAll h ts ps, x < 256
  | [], [], h, h1, h2 => ⟨h1, h2⟩
  | [], _ :: _, h, h1, h2 => ⟨h1, h2⟩
  | _ :: _, [], h, h1, h2 => ⟨h1, h2⟩
  | t :: ts, p :: ps, h, _, _ => by
    show (upAll (upStep h t p) ts ps).length = 8 ∧ ∀ x ∈ upAll (upStep h t p) ts ps, x < 256
    refine upAll_8 ts ps _ ?_ ?_ <;> unfold upStep <;> split
    · exact digest_len _ _
    · exact digest_len _ _
    · exact digest_lt _ _
    · exact digest_lt _ _
end Go.Sha
namespace Go.Proofs.YtmajfapnbchecaaGreatDoor
open Go Go.Vc Go.Sha

end Go.Proofs.YtmajfapnbchecaaGreatDoor

/- The reference's up, CheckRow. -/
namespace Go.Sha
theorem upRef_one (x : List Nat) (i : Nat) (ps : List (List Nat)) : upRef x i 1 ps = (leafN x, decide (ps.length = 0)) := by rw [upRef, dif_pos (Nat.le_refl 1)]
theorem upRef_nil (x : List Nat) (i n : Nat) (h : 2 ≤ n) : upRef x i n [] = (zero8, false) := by rw [upRef, dif_neg (by omega)]; rfl
theorem upRef_last {ps : List (List Nat)} {p : List Nat} (hp : ps[ps.length - 1]? = some p) : ps.getLast? = some p ∧ ps.dropLast = ps.take (ps.length - 1) := ⟨by rw [List.getLast?_eq_getElem?, hp], List.dropLast_eq_take⟩
theorem upRef_left (x : List Nat) (i n : Nat) {ps : List (List Nat)} {p : List Nat} (h : 2 ≤ n) (hp : ps[ps.length - 1]? = some p) (hk : i < cut n) :
    upRef x i n ps = (joinN (upRef x i (cut n) (ps.take (ps.length - 1))).1 p, (upRef x i (cut n) (ps.take (ps.length - 1))).2) := by
  rw [upRef, dif_neg (by omega), (upRef_last hp).1, (upRef_last hp).2]
  simp only [if_pos hk]
theorem upRef_right (x : List Nat) (i n : Nat) {ps : List (List Nat)} {p : List Nat} (h : 2 ≤ n) (hp : ps[ps.length - 1]? = some p) (hk : ¬ i < cut n) :
    upRef x i n ps = (joinN p (upRef x (i - cut n) (n - cut n) (ps.take (ps.length - 1))).1, (upRef x (i - cut n) (n - cut n) (ps.take (ps.length - 1))).2) := by
  rw [upRef, dif_neg (by omega), (upRef_last hp).1, (upRef_last hp).2]
  simp only [if_neg hk]
theorem upRef_8 (x : List Nat) (i n : Nat) (ps : List (List Nat)) : (upRef x i n ps).1.length = 8 ∧ ∀ b ∈ (upRef x i n ps).1, b < 256 := by
  rw [upRef]
  split
  · exact ⟨digest_len _ _, digest_lt _ _⟩
  · split
    · refine ⟨rfl, ?_⟩
      intro b hb
      simp [zero8] at hb
      omega
    · split
      · exact ⟨digest_len _ _, digest_lt _ _⟩
      · exact ⟨digest_len _ _, digest_lt _ _⟩
end Go.Sha
namespace Go.Proofs.YtmajfapnbchecaaGreatDoor
open Go Go.Vc Go.Sha

end Go.Proofs.YtmajfapnbchecaaGreatDoor
