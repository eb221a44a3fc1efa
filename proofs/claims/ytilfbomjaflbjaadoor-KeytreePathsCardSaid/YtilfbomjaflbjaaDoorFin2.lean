/- Arguments that are slices of bytes, slices of such, strings. -/
import Derived.Test.YtilfbomjaflbjaaDoorFin1
import Derived.Deep.Slices
namespace Go.Vc
open Go Go.Sha Go.ChangeShapes Go.WideShapes Go.ChangeAt Go.RowKit Go.Deep
section
variable {H : Type} {enc : TypeId × Value → H} {P : Program}

/-- One cell that reads as a byte. -/
theorem byte_cell {w : World} {base n e : Nat} {sp : Nat → Bool} {held : Bool} {v : Value} {x : DataW H × List MemPlace} (he : P.underlying e = some (.int .u8)) (h : DataW.trod enc P w base sp held n e [v] = some x) : ∃ k : Nat, k < 256 ∧ v = .int .u8 k := by
  obtain ⟨z, hcs, _, hw⟩ := DataW.trod_int he h
  have hb := bounds_u8 hw
  cases hcs
  exact ⟨z.toNat, by omega, by rw [Int.toNat_of_nonneg hb.1]⟩

/-- A slice value that reads as data reads as bytes. -/
theorem slice_cell {w : World} {t e n : Nat} {held : Bool} {v : Value} {x : DataW H × List MemPlace} (hu : P.underlying t = some (.slice e)) (he : P.underlying e = some (.int .u8)) (hc : P.cellsOf e = 1)
    (h : DataW.trod enc P w 0 (fun _ => true) held n t [v] = some x) : ∃ (m : Nat) (l : List Nat), SrcW w 1 v m (u8s l) ∧ ∀ y ∈ l, y < 256 := by
  rcases open_slice1 hu hc h with ⟨h0, _⟩ | ⟨a, len, cap, m, n', V, D, Pl, h0, _, hl, _, hm, _, hx⟩
  · cases h0
    exact ⟨0, [], .nil, fun _ h => by cases h⟩
  · cases h0
    rw [if_pos rfl] at hm
    subst hm
    have hB : AllB ((List.range len).map V) := by
      intro v hv
      simp only [List.mem_map, List.mem_range] at hv
      obtain ⟨i, hi, rfl⟩ := hv
      exact byte_cell he (hx i (by omega)).2
    obtain ⟨l, hl', hb⟩ := hB.list
    have hlen : (u8s l).length = len := by rw [← hl']; simp
    refine ⟨len, l, .at a len _ (u8s l) (by rw [hlen, Nat.mul_one]) hl (fun j u hj => ?_), hb⟩
    have hjl : j < len := by rw [← hlen]; exact (List.getElem?_eq_some_iff.1 hj).1
    rw [← hl', List.getElem?_map, List.getElem?_range hjl] at hj
    cases hj
    exact (hx j (by omega)).1
/-- A slice of bytes as argument. -/
theorem slice_arg {w : World} {t e b0 : Nat} {r : Reach} {held : Bool} {v : Value} {d : DataW H} {ps : List MemPlace} (hu : P.underlying t = some (.slice e)) (he : P.underlying e = some (.int .u8)) (hc : P.cellsOf e = 1)
    (hval : Value.okWide P w r b0 t v) (h : DataW.Trod enc P w 0 (fun _ => true) held t v d ps) : ∃ (m : Nat) (l : List Nat), SrcW w 1 v m (u8s l) ∧ ∀ y ∈ l, y < 256 := by
  obtain ⟨a, len, cap, rfl⟩ := okWide_slice hu hval
  obtain ⟨n, h⟩ := h
  exact slice_cell hu he hc h
end
end Go.Vc
