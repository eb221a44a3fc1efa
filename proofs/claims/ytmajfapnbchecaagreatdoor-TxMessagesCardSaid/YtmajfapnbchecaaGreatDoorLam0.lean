/- Keys that sign once: plain. -/
import Derived.Test.YtmajfapnbchecaaGreatDoorDig0
import Derived.Test.YtmajfapnbchecaaGreatDoorVcM
set_option linter.unusedSimpArgs false
set_option linter.unusedVariables false
namespace Go.Sha
open Go.Vc

/-- Rows side by side. -/
def rowOf (f : Nat → List Nat) : Nat → List Nat
  | 0 => []
  | n + 1 => rowOf f n ++ f n
theorem rowOf_len {f : Nat → List Nat} {c : Nat} (h : ∀ i, (f i).length = c) : ∀ n, (rowOf f n).length = n * c
  | 0 => by simp [rowOf]
  | n + 1 => by rw [rowOf, List.length_append, rowOf_len h n, h, Nat.succ_mul]
theorem rowOf_lt {f : Nat → List Nat} (h : ∀ i, ∀ x ∈ f i, x < 256) : ∀ n, ∀ x ∈ rowOf f n, x < 256
  | 0, x, hx => by cases hx
  | n + 1, x, hx => by
    rw [rowOf, List.mem_append] at hx
    rcases hx with hx | hx
    · exact rowOf_lt h n x hx
    · exact h n x hx
theorem rowOf_congr {f g : Nat → List Nat} : ∀ {n}, (∀ i, i < n → f i = g i) → rowOf f n = rowOf g n
  | 0, _ => rfl
  | n + 1, h => by rw [rowOf, rowOf, rowOf_congr (n := n) (fun i hi => h i (Nat.lt_succ_of_lt hi)), h n (Nat.lt_succ_self n)]
/-- The piece of c at number i. -/
def pc (c : Nat) (l : List Nat) (i : Nat) : List Nat := (l.drop (i * c)).take c
theorem pc_rowOf {f : Nat → List Nat} {c : Nat} (h : ∀ i, (f i).length = c) : ∀ {n i}, i < n → pc c (rowOf f n) i = f i
  | 0, _, hi => by cases hi
  | n + 1, i, hi => by
    have hl := rowOf_len h n
    by_cases e : i = n
    · subst e
      unfold pc
      rw [rowOf, ← hl, List.drop_left, List.take_of_length_le (Nat.le_of_eq (h i))]
    · have hi' : i < n := by omega
      rw [← pc_rowOf h hi']
      unfold pc
      have h1 : i * c + c ≤ n * c := by rw [← Nat.succ_mul]; exact Nat.mul_le_mul_right _ hi'
      rw [rowOf, List.drop_append_of_le_length (by omega), List.take_append_of_le_length (by rw [List.length_drop]; omega)]
theorem pc_len {c : Nat} {l : List Nat} {n i : Nat} (h : l.length = n * c) (hi : i < n) : (pc c l i).length = c := by
  have h1 : i * c + c ≤ n * c := by rw [← Nat.succ_mul]; exact Nat.mul_le_mul_right _ hi
  unfold pc
  rw [List.length_take, List.length_drop]
  omega
theorem pc_lt {c : Nat} {l : List Nat} (h : ∀ x ∈ l, x < 256) (i : Nat) : ∀ x ∈ pc c l i, x < 256 := fun x hx => h x (List.mem_of_mem_drop (List.mem_of_mem_take hx))
theorem pc_row {c : Nat} {l : List Nat} (i : Nat) : ∀ j u, (u8s (pc c l i))[j]? = some u → (u8s l).toArray[i * c + j]? = some u := by
  intro j u hj
  rw [pc, u8s_take, u8s_drop, List.getElem?_take] at hj
  split at hj
  · rw [List.getElem?_drop] at hj
    rw [List.getElem?_toArray]
    exact hj
  · cases hj
/-- A row is its pieces. -/
theorem rowOf_pc {c : Nat} : ∀ {n : Nat} {l : List Nat}, l.length = n * c → rowOf (pc c l) n = l := by
  intro n l h
  have key : ∀ k, k ≤ n → rowOf (pc c l) k = l.take (k * c) := by
    intro k
    induction k with
    | zero => intro _; simp [rowOf]
    | succ k ih =>
      intro hk
      rw [rowOf, ih (by omega), pc, Nat.succ_mul, List.take_add]
  rw [key n (Nat.le_refl n), List.take_of_length_le (Nat.le_of_eq h)]
theorem ext_pc {c n : Nat} {a b : List Nat} (ha : a.length = n * c) (hb : b.length = n * c) (h : ∀ i, i < n → pc c a i = pc c b i) : a = b := by
  rw [← rowOf_pc ha, ← rowOf_pc hb]
  exact rowOf_congr h

/-- A piece of a row is written anew. -/
theorem wr_mid (pre old new post : List Nat) (h : old.length = new.length) : wrAt (u8s (pre ++ old ++ post)).toArray pre.length (u8s new) = (u8s (pre ++ new ++ post)).toArray := by
  unfold wrAt
  congr 1
  show List.take pre.length (u8s (pre ++ old ++ post)) ++ u8s new ++ List.drop (pre.length + (u8s new).length) (u8s (pre ++ old ++ post)) = _
  have e1 : List.take pre.length (pre ++ old ++ post) = pre := by rw [List.append_assoc, List.take_left]
  have e2 : List.drop (pre.length + new.length) (pre ++ old ++ post) = post := by rw [← h, ← List.length_append, List.drop_left]
  rw [← u8s_take, u8s_len, ← u8s_drop, e1, e2, ← u8s_app, ← u8s_app]
theorem wr_next (pre new : List Nat) (k : Nat) : wrAt (u8s (pre ++ List.replicate (new.length + k) 0)).toArray pre.length (u8s new) = (u8s (pre ++ new ++ List.replicate k 0)).toArray := by
  rw [← List.replicate_append_replicate, ← List.append_assoc]
  exact wr_mid pre _ new _ (by simp)

/-- A secret of a key: chapter 7. -/
def secret (seed : List Nat) (ib i b : Nat) : List Nat := digest 115 [seed, [ib, i, b, 0]]
def markH (h : List Nat) : List Nat := digest 112 [h]
def bitOf (m : List Nat) (i : Nat) : Nat := m.getD (i / 8) 0 / 2 ^ (i % 8) % 2
def secs (seed : List Nat) (ib : Nat) : Nat → List Nat := fun i => secret seed ib i 0 ++ secret seed ib i 1
def mrks (seed : List Nat) (ib : Nat) : Nat → List Nat := fun i => markH (secret seed ib i 0) ++ markH (secret seed ib i 1)
def opened (seed : List Nat) (ib : Nat) (m : List Nat) : Nat → List Nat := fun i => secret seed ib i (bitOf m i)
def shutd (seed : List Nat) (ib : Nat) (m : List Nat) : Nat → List Nat := fun i => markH (secret seed ib i (1 - bitOf m i))
/-- The marks by what is opened and what is shut. -/
def turnd (m op sh : List Nat) : Nat → List Nat := fun i => if bitOf m i = 1 then pc 8 sh i ++ markH (pc 8 op i) else markH (pc 8 op i) ++ pc 8 sh i
def pubOf (all : List Nat) : List Nat := digest 107 [all]
def pubKey (seed : List Nat) (ib : Nat) : List Nat := pubOf (rowOf (mrks seed ib) 16)
def pubBy (m op sh : List Nat) : List Nat := pubOf (rowOf (turnd m op sh) 16)
theorem bitOf_lt (m : List Nat) (i : Nat) : bitOf m i < 2 := Nat.mod_lt _ (by decide)
theorem secret_len (seed : List Nat) (ib i b : Nat) : (secret seed ib i b).length = 8 := digest_len _ _
theorem secret_lt (seed : List Nat) (ib i b : Nat) : ∀ x ∈ secret seed ib i b, x < 256 := digest_lt _ _
theorem mark_len (h : List Nat) : (markH h).length = 8 := digest_len _ _
theorem mark_lt (h : List Nat) : ∀ x ∈ markH h, x < 256 := digest_lt _ _
theorem secs_len (seed : List Nat) (ib i : Nat) : (secs seed ib i).length = 16 := by simp [secs, secret_len]
theorem mrks_len (seed : List Nat) (ib i : Nat) : (mrks seed ib i).length = 16 := by simp [mrks, mark_len]
theorem opened_len (seed : List Nat) (ib : Nat) (m : List Nat) (i : Nat) : (opened seed ib m i).length = 8 := secret_len _ _ _ _
theorem shutd_len (seed : List Nat) (ib : Nat) (m : List Nat) (i : Nat) : (shutd seed ib m i).length = 8 := mark_len _
theorem opened_lt (seed : List Nat) (ib : Nat) (m : List Nat) (i : Nat) : ∀ x ∈ opened seed ib m i, x < 256 := secret_lt _ _ _ _
theorem shutd_lt (seed : List Nat) (ib : Nat) (m : List Nat) (i : Nat) : ∀ x ∈ shutd seed ib m i, x < 256 := mark_lt _
theorem mrks_lt (seed : List Nat) (ib i : Nat) : ∀ x ∈ mrks seed ib i, x < 256 := fun x hx => by
  rcases List.mem_append.1 hx with h | h <;> exact mark_lt _ x h
theorem secs_lt (seed : List Nat) (ib i : Nat) : ∀ x ∈ secs seed ib i, x < 256 := fun x hx => by
  rcases List.mem_append.1 hx with h | h <;> exact secret_lt _ _ _ _ x h
theorem turnd_lt {m op sh : List Nat} (hs : ∀ x ∈ sh, x < 256) (i : Nat) : ∀ x ∈ turnd m op sh i, x < 256 := fun x hx => by
  unfold turnd at hx
  split at hx <;> rcases List.mem_append.1 hx with h | h
  · exact pc_lt hs i x h
  · exact mark_lt _ x h
  · exact mark_lt _ x h
  · exact pc_lt hs i x h
/-- What is signed gives the key. -/
theorem turnd_signed (seed : List Nat) (ib : Nat) (m : List Nat) (i : Nat) (hi : i < 16) : turnd m (rowOf (opened seed ib m) 16) (rowOf (shutd seed ib m) 16) i = mrks seed ib i := by
  unfold turnd
  rw [pc_rowOf (opened_len _ _ _) hi, pc_rowOf (shutd_len _ _ _) hi]
  have hb := bitOf_lt m i
  unfold opened shutd mrks
  by_cases h : bitOf m i = 1
  · rw [if_pos h, h]
  · have h0 : bitOf m i = 0 := by omega
    rw [if_neg h, h0]
theorem pubBy_signed (seed : List Nat) (ib : Nat) (m : List Nat) : pubBy m (rowOf (opened seed ib m) 16) (rowOf (shutd seed ib m) 16) = pubKey seed ib := by
  unfold pubBy pubKey
  rw [rowOf_congr (fun i hi => turnd_signed seed ib m i hi)]
end Go.Sha
