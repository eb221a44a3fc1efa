/- Numbers as cells. -/
import Derived.Test.YtilfbomjaflbjaaDoorVcG
namespace Go.Sha
open Go Go.Vc

def u32s (l : List Nat) : List Value := l.map fun n : Nat => Value.int .u32 (n : Int)
def u8s (l : List Nat) : List Value := l.map fun n : Nat => Value.int .u8 (n : Int)
theorem u32s_len (l : List Nat) : (u32s l).length = l.length := by simp [u32s]
theorem u8s_len (l : List Nat) : (u8s l).length = l.length := by simp [u8s]
theorem u32s_at (l : List Nat) (i : Nat) (h : i < l.length) : (u32s l).toArray[i]? = some (.int .u32 (l.getD i 0)) := by
  simp [u32s, List.getD_eq_getElem?_getD, h]
theorem u8s_at (l : List Nat) (i : Nat) (h : i < l.length) : (u8s l)[i]? = some (.int .u8 (l.getD i 0)) := by
  simp [u8s, List.getD_eq_getElem?_getD, h]
theorem u32s_set (l : List Nat) (i x : Nat) (h : i < l.length) : wrAt (u32s l).toArray i [.int .u32 x] = (u32s (l.set i x)).toArray := by
  unfold wrAt
  congr 1
  rw [List.set_eq_take_append_cons_drop, if_pos h]
  simp [u32s]
theorem u32s_one (l : List Nat) : ∀ u ∈ u32s l, u.oneCell' = true := by
  intro u hu
  simp only [u32s, List.mem_map] at hu
  obtain ⟨n, _, rfl⟩ := hu
  rfl
theorem u8s_one (l : List Nat) : ∀ u ∈ u8s l, u.oneCell' = true := by
  intro u hu
  simp only [u8s, List.mem_map] at hu
  obtain ⟨n, _, rfl⟩ := hu
  rfl

theorem u8s_app (a b : List Nat) : u8s (a ++ b) = u8s a ++ u8s b := by simp [u8s]
theorem u8s_take (l : List Nat) (k : Nat) : u8s (l.take k) = (u8s l).take k := by simp [u8s, List.map_take]
theorem u8s_drop (l : List Nat) (k : Nat) : u8s (l.drop k) = (u8s l).drop k := by simp [u8s, List.map_drop]
theorem u8s_set (l : List Nat) (i x : Nat) (h : i < l.length) : wrAt (u8s l).toArray i [.int .u8 x] = (u8s (l.set i x)).toArray := by
  unfold wrAt
  congr 1
  rw [List.set_eq_take_append_cons_drop, if_pos h]
  simp [u8s]
end Go.Sha
