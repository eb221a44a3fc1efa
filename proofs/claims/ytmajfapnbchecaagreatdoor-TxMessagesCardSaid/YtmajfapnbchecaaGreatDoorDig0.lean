/- Digests: plain. -/
import Derived.Test.YtmajfapnbchecaaGreatDoorSha0
set_option linter.unusedSimpArgs false
set_option linter.unusedVariables false
namespace Go.Sha

/-- A number's four lowest bytes, the lowest first. -/
def le4 (n : Nat) : List Nat := [n % 256, n / 256 % 256, n / 65536 % 256, n / 16777216 % 256]
/-- What is summed of a purpose and its parts. -/
def text (p : Nat) (ls : List (List Nat)) : List Nat := p :: ls.flatMap fun l => le4 l.length ++ l
def digest (p : Nat) (ls : List (List Nat)) : List Nat := (sha (text p ls)).take 8
theorem le4_len (n : Nat) : (le4 n).length = 4 := rfl
theorem le4_lt (n : Nat) : ∀ x ∈ le4 n, x < 256 := by
  intro x hx
  simp only [le4, List.mem_cons, List.not_mem_nil, or_false] at hx
  rcases hx with rfl | rfl | rfl | rfl <;> exact Nat.mod_lt _ (by decide)
theorem text_lt (p : Nat) (hp : p < 256) (ls : List (List Nat)) (h : ∀ l ∈ ls, ∀ x ∈ l, x < 256) : ∀ x ∈ text p ls, x < 256 := by
  intro x hx
  simp only [text, List.mem_cons, List.mem_flatMap, List.mem_append] at hx
  rcases hx with rfl | ⟨l, hl, hx | hx⟩
  · exact hp
  · exact le4_lt _ x hx
  · exact h l hl x hx
theorem digest_len (p : Nat) (ls : List (List Nat)) : (digest p ls).length = 8 := by simp [digest, sha_len]
theorem digest_lt (p : Nat) (ls : List (List Nat)) : ∀ x ∈ digest p ls, x < 256 := fun x hx => sha_lt _ x (List.mem_of_mem_take hx)
/-- How long what is summed is. -/
def tot (ls : List (List Nat)) : Nat := (ls.map fun l => 4 + l.length).sum
theorem text_len (p : Nat) (ls : List (List Nat)) : (text p ls).length = 1 + tot ls := by
  simp [text, tot, List.length_flatMap, le4_len, Nat.add_comm]
theorem text_take_succ (p : Nat) (ls : List (List Nat)) (i : Nat) (hi : i < ls.length) : text p (ls.take (i + 1)) = text p (ls.take i) ++ (le4 ls[i].length ++ ls[i]) := by
  rw [List.take_succ_eq_append_getElem hi]
  simp only [text, List.flatMap_append, List.flatMap_cons, List.flatMap_nil, List.append_nil, List.cons_append]
theorem tot_take_le (ls : List (List Nat)) (i : Nat) (hi : i < ls.length) : 1 + tot (ls.take i) + 4 + ls[i].length ≤ 1 + tot ls := by
  have h : tot ls = tot (ls.take i) + (4 + ls[i].length + tot (ls.drop (i + 1))) := by
    have e : ls = ls.take i ++ (ls[i] :: ls.drop (i + 1)) := by rw [← List.drop_eq_getElem_cons hi, List.take_append_drop]
    have e2 : tot ls = tot (ls.take i ++ (ls[i] :: ls.drop (i + 1))) := congrArg tot e
    rw [e2]
    simp only [tot, List.map_append, List.sum_append, List.map_cons, List.sum_cons]
  omega
theorem tot_take_succ (ls : List (List Nat)) (i : Nat) (hi : i < ls.length) : tot (ls.take (i + 1)) = tot (ls.take i) + (4 + ls[i].length) := by
  rw [List.take_succ_eq_append_getElem hi]
  simp only [tot, List.map_append, List.sum_append, List.map_cons, List.map_nil, List.sum_cons, List.sum_nil, Nat.add_zero]
theorem tot_ge : ∀ ls : List (List Nat), 4 * ls.length ≤ tot ls
  | [] => Nat.zero_le _
  | l :: ls => by
    have := tot_ge ls
    have e : tot (l :: ls) = 4 + l.length + tot ls := by simp [tot]
    rw [e, List.length_cons]
    omega
end Go.Sha
