/- Arguments that are slices of slices of bytes; how long they can be. -/
import Derived.Test.YtgnjdpaenojfhaaDig1
import Derived.Test.YtgnjdpaenojfhaaFin3
set_option linter.unusedSimpArgs false
set_option linter.unusedVariables false
namespace Go.Vc
open Go Go.Sha Go.ChangeShapes Go.WideShapes Go.ChangeAt Go.RowKit Go.Deep
section
variable {H : Type} {enc : TypeId × Value → H} {P : Program}

/-- A slice value that reads as data reads as bytes; it is no longer than its weight. -/
theorem slice_cellW {w : World} {t e n : Nat} {held : Bool} {v : Value} {x : DataW H × List MemPlace} (hu : P.underlying t = some (.slice e)) (he : P.underlying e = some (.int .u8)) (hc : P.cellsOf e = 1) (hby : P.bytesOf e = 1)
    (h : DataW.trod enc P w 0 (fun _ => true) held n t [v] = some x) : ∃ l : List Nat, SrcW w 1 v l.length (u8s l) ∧ (∀ y ∈ l, y < 256) ∧ ∀ R, (∀ y ∈ DataW.weights P t x.1, y ≤ R) → l.length ≤ R := by
  rcases open_slice1 hu hc h with ⟨h0, _⟩ | ⟨a, len, cap, m, n', V, D, Pl, h0, _, hl, _, hm, hxd, hx⟩
  · cases h0
    exact ⟨[], .nil, (fun _ h => by cases h), fun R _ => Nat.zero_le _⟩
  · cases h0
    rw [if_pos rfl] at hm
    subst hm
    have hB : AllB ((List.range len).map V) := by
      intro v hv
      simp only [List.mem_map, List.mem_range] at hv
      obtain ⟨i, hi, rfl⟩ := hv
      exact byte_cell he (hx i (by omega)).2
    obtain ⟨l, hl', hb⟩ := hB.list
    have hlen : l.length = len := by rw [← u8s_len, ← hl']; simp
    subst hlen
    refine ⟨l, .at a _ _ (u8s l) (by rw [u8s_len, Nat.mul_one]) hl (fun j u hj => ?_), hb, fun R hR => ?_⟩
    · have hjl : j < l.length := by have := (List.getElem?_eq_some_iff.1 hj).1; rwa [u8s_len] at this
      rw [← hl', List.getElem?_map, List.getElem?_range hjl] at hj
      cases hj
      exact (hx j (by omega)).1
    · have := hR ((l.length + (m - l.length)) * P.bytesOf e) (by
        rw [hxd]
        simp [DataW.weights, hu])
      rw [hby] at this
      omega
theorem weights_mem {t : TypeId} {d : DataW H} {y : Nat} (hy : y ∈ DataW.weights P t d) : ∀ {l : List (DataW H)}, d ∈ l → y ∈ DataW.weightsAll P t l
  | x :: l, h => by
    simp only [DataW.weightsAll, List.mem_append]
    rcases List.mem_cons.1 h with rfl | h
    · exact .inl hy
    · exact .inr (weights_mem hy h)
end
end Go.Vc
namespace Go.Proofs.Ytgnjdpaenojfhaa
open Go Go.Vc Go.Sha Go.ChangeShapes Go.WideShapes Go.ChangeAt Go.RowKit Go.Deep
/-- A slice of slices of bytes as argument. -/
theorem parts_arg {H : Type} {enc : TypeId × Value → H} {P : Program} {w : World} {t s e b0 R : Nat} {r : Reach} {held : Bool} {v : Value} {d : DataW H} {ps : List MemPlace} (hut : P.underlying t = some (.slice s)) (hcs : P.cellsOf s = 1) (hu : P.underlying s = some (.slice e)) (he : P.underlying e = some (.int .u8)) (hc : P.cellsOf e = 1) (hby : P.bytesOf e = 1)
    (hval : Value.okWide P w r b0 t v) (h : DataW.Trod enc P w 0 (fun _ => true) held t v d ps) (hw : ∀ y ∈ DataW.weights P t d, y ≤ R) :
    ∃ (vs : List Value) (ls : List (List Nat)), SrcW w 1 v ls.length vs ∧ Parts w vs ls ∧ (∀ l ∈ ls, (∀ y ∈ l, y < 256) ∧ l.length ≤ R) ∧ ls.length ≤ maxLen := by
  obtain ⟨a, len, cap, rfl⟩ := okWide_slice hut hval
  obtain ⟨n, h⟩ := h
  rcases open_slice1 hut hcs h with ⟨h0, _⟩ | ⟨a, len, cap, m, n', V, D, Pl, h0, _, hl, hml, hm, hxd, hx⟩
  · cases h0
    exact ⟨[], [], .nil, ⟨rfl, fun i h => (by cases h)⟩, (fun l hl => by cases hl), Nat.zero_le _⟩
  · cases h0
    rw [if_pos rfl] at hm
    subst hm
    have hex : ∀ i, ∃ l : List Nat, i < len → SrcW w 1 (V i) l.length (u8s l) ∧ (∀ y ∈ l, y < 256) ∧ l.length ≤ R := by
      intro i
      by_cases hi : i < len
      · obtain ⟨l, h1, h2, h3⟩ := slice_cellW hu he hc hby (hx i (by omega)).2
        refine ⟨l, fun _ => ⟨h1, h2, h3 R fun y hy => hw y ?_⟩⟩
        have hd : d = .slice ((List.range len).map D) ((List.range (m - len)).map fun j => D (len + j)) := congrArg Prod.fst hxd
        rw [hd]
        simp only [DataW.weights, hut, List.mem_cons, List.mem_append]
        exact .inr (.inl (weights_mem hy (List.mem_map_of_mem (List.mem_range.2 hi))))
      · exact ⟨[], fun h => absurd h hi⟩
    obtain ⟨F, hF⟩ : ∃ F : Nat → List Nat, ∀ i, i < len → SrcW w 1 (V i) (F i).length (u8s (F i)) ∧ (∀ y ∈ F i, y < 256) ∧ (F i).length ≤ R := ⟨fun i => Classical.choose (hex i), fun i => Classical.choose_spec (hex i)⟩
    refine ⟨(List.range len).map V, (List.range len).map F, ?_, ⟨by simp, fun i h1 h2 => ?_⟩, fun l hl => ?_, by simp; omega⟩
    · rw [show ((List.range len).map F).length = len by simp]
      refine .at a _ _ _ (by simp) hl fun j u hj => ?_
      have hjl : j < len := by have := (List.getElem?_eq_some_iff.1 hj).1; simpa using this
      rw [List.getElem?_map, List.getElem?_range hjl] at hj
      cases hj
      exact (hx j (by omega)).1
    · have hi : i < len := by simpa using h1
      simpa using (hF i hi).1
    · simp only [List.mem_map, List.mem_range] at hl
      obtain ⟨i, hi, rfl⟩ := hl
      exact (hF i hi).2
end Go.Proofs.Ytgnjdpaenojfhaa
