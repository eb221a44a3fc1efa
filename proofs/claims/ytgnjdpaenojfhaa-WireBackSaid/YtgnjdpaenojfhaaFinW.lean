/- Arguments that are slices of parts. -/
import Derived.Test.YtgnjdpaenojfhaaFin8
import Derived.Test.YtgnjdpaenojfhaaFin4
import Derived.Test.YtgnjdpaenojfhaaWrT
set_option linter.unusedSimpArgs false
set_option linter.unusedVariables false
namespace Go.Vc
open Go Go.Sha Go.ChangeShapes Go.WideShapes Go.ChangeAt Go.RowKit Go.Deep
section
variable {H : Type} {enc : TypeId × Value → H} {P : Program}
/-- A slice of records as argument; what a record holds is no longer than its weight. -/
theorem rows_sliceW {α : Type} [Inhabited α] (c : α → List Value) (sz : Nat) (hsz : 0 < sz) (hcl : ∀ a, (c a).length = sz) {w : World} {t e b0 R : Nat} {r : Reach} {held : Bool} {v : Value} {d : DataW H} {ps : List MemPlace} (hu : P.underlying t = some (.slice e)) (hc : P.cellsOf e = sz)
    (hf : ∀ n cs x, cs.length = sz → DataW.trod enc P w 0 (fun _ => true) held n e cs = some x → (∀ y ∈ DataW.weights P e x.1, y ≤ R) → ∃ a, cs = c a)
    (hval : Value.okWide P w r b0 t v) (h : DataW.Trod enc P w 0 (fun _ => true) held t v d ps) (hw : ∀ y ∈ DataW.weights P t d, y ≤ R) : ∃ l : List α, SrcW w sz v l.length (rws c l) ∧ l.length ≤ 9223372036854775807 := by
  obtain ⟨a, len, cap, rfl⟩ := okWide_slice hu hval
  obtain ⟨n, h⟩ := h
  rcases open_slice hu h with ⟨h0, _⟩ | ⟨a, len, cap, m, n', D, Pl, h0, _, hlc, hml, hmm, hxd, hx⟩
  · cases h0
    exact ⟨[], .nil, Nat.zero_le _⟩
  · cases h0
    rw [if_pos rfl] at hmm
    subst hmm
    rw [hc] at hx
    have hex : ∀ i, i < len → ∃ y : α, ∀ j, j < sz → w.cell? (a.add (i * sz + j)) = (c y)[j]? := by
      intro i hi
      obtain ⟨cs', h1, h2⟩ := hx i (by omega)
      obtain ⟨_, hlen, hcell⟩ := World.cells?_some h1
      obtain ⟨y, rfl⟩ := hf _ _ _ (by rw [hlen]) h2 (fun y hy => hw y (by
        have hd := congrArg Prod.fst hxd
        dsimp only at hd
        rw [hd]
        simp only [DataW.weights, hu, List.mem_cons, List.mem_append]
        exact .inr (.inl (weights_mem hy (List.mem_map_of_mem (List.mem_range.2 hi))))))
      exact ⟨y, fun j hj => by rw [← add_add]; exact hcell j hj⟩
    obtain ⟨F, hF⟩ := choose_lt hex
    have hlen : ((List.range len).map F).length = len := by simp
    refine ⟨(List.range len).map F, ?_, by rw [hlen]; simp only [maxLen] at hml; omega⟩
    rw [hlen]
    refine .at a _ _ _ (by rw [rws_len hcl, hlen]) hlc fun j u hj => ?_
    have hjl : j < len * sz := by
      have := (List.getElem?_eq_some_iff.1 hj).1
      rwa [rws_len hcl, hlen] at this
    have hi : j / sz < len := (Nat.div_lt_iff_lt_mul hsz).2 hjl
    have h2 := Nat.mod_lt j hsz
    have h3 := hF (j / sz) hi (j % sz) h2
    have h4 : j / sz * sz + j % sz = j := by rw [Nat.mul_comm]; exact Nat.div_add_mod j sz
    rw [h4] at h3
    rw [h3]
    have h5 : (c (F (j / sz)))[j % sz]? = some ((c (F (j / sz)))[j % sz]'(by rw [hcl]; exact h2)) := List.getElem?_eq_getElem _
    have h6 := rws_at hcl (l := (List.range len).map F) (i := j / sz) (s := F (j / sz)) (by simp [hi]) (j % sz) _ h5
    rw [h4, hj] at h6
    rw [h5, Option.some.inj h6]
end
theorem list11 {cs : List Value} (h : cs.length = 11) {x y v : Value} {z : List Value} (h0 : (cs.drop 0).take 1 = [x]) (h1 : (cs.drop 1).take 1 = [y]) (h2 : (cs.drop 2).take 8 = z) (h3 : (cs.drop 10).take 1 = [v]) : cs = x :: y :: (z ++ [v]) := by
  match cs, h with
  | [a0, a1, a2, a3, a4, a5, a6, a7, a8, a9, a10], _ =>
    cases h0
    cases h1
    cases h3
    subst h2
    rfl
end Go.Vc
namespace Go.Proofs.Ytgnjdpaenojfhaa
open Go Go.Vc Go.Sha Go.ChangeShapes Go.WideShapes Go.ChangeAt Go.RowKit Go.Deep
variable {H : Type} {enc : TypeId × Value → H}
theorem kBytesW : Try.prog.bytesOf 5 = 1 := by kernel_rfl
theorem kCellsP : Try.prog.cellsOf 31 = 11 := by kernel_rfl
theorem kCellsI : Try.prog.cellsOf 3 = 1 := by kernel_rfl
theorem kCellsH9 : Try.prog.cellsOf 29 = 8 := by kernel_rfl
theorem kCellsBS : Try.prog.cellsOf 25 = 1 := by kernel_rfl
theorem kOnlyH : onlyB Try.prog 3 29 = true := by kernel_rfl
theorem kSizeH : Nat.blt 29 Try.prog.types.size = true := by kernel_rfl
/-- A part as data reads. -/
theorem part_trod {w : World} {n : Nat} {held : Bool} {cs : List Value} {x : DataW H × List MemPlace} (hl : cs.length = 11) (h : DataW.trod enc Try.prog w 0 (fun _ => true) held n 31 cs = some x) (hw : ∀ y ∈ DataW.weights Try.prog 31 x.1, y ≤ 140737488351232) :
    ∃ p : PtD, cs = p.c ∧ SrcW w 1 p.v p.b.length (u8s p.b) := by
  obtain ⟨xs, n', _, hx, _, hxl, hf⟩ := DataW.trod_struct Try.underlying31 h
  match xs, hxl with
  | [x0, x1, x2, x3], _ =>
    have e0 : DataW.trod enc Try.prog w 0 (fun _ => true) held n' 3 ((cs.drop 0).take (Try.prog.cellsOf 3)) = some x0 := hf 0 _ rfl
    have e1 : DataW.trod enc Try.prog w 0 (fun _ => true) held n' 3 ((cs.drop 1).take (Try.prog.cellsOf 3)) = some x1 := hf 1 _ rfl
    have e2 : DataW.trod enc Try.prog w 0 (fun _ => true) held n' 29 ((cs.drop 2).take (Try.prog.cellsOf 29)) = some x2 := hf 2 _ rfl
    have e3 : DataW.trod enc Try.prog w 0 (fun _ => true) held n' 25 ((cs.drop 10).take (Try.prog.cellsOf 25)) = some x3 := hf 3 _ rfl
    rw [kCellsI] at e0 e1
    rw [kCellsH9] at e2
    rw [kCellsBS] at e3
    obtain ⟨z0, h0, _, w0⟩ := DataW.trod_int Try.underlying3 e0
    obtain ⟨z1, h1, _, w1⟩ := DataW.trod_int Try.underlying3 e1
    obtain ⟨l, h2, hb⟩ := (bytes_of_trod kLaidOut kMaps n' 3 29 _ _ (Nat.blt_eq.mp kSizeH) kOnlyH e2).list
    obtain ⟨v, h3⟩ : ∃ v, (cs.drop 10).take 1 = [v] := by
      match cs, hl with
      | [a0, a1, a2, a3, a4, a5, a6, a7, a8, a9, a10], _ => exact ⟨a10, rfl⟩
    rw [h3] at e3
    obtain ⟨b, hs, hbb, hR⟩ := slice_cellW Try.underlying25 Try.underlying5 kCellsB kBytesW e3
    have hl8 : l.length = 8 := by
      have := congrArg List.length h2
      rw [u8s_len, List.length_take, List.length_drop, hl] at this
      omega
    refine ⟨⟨z0, z1, l, b, v, hl8, hb, hbb, bounds_i w0, bounds_i w1, hR _ fun y hy => hw y ?_⟩, list11 hl h0 h1 h2 h3, hs⟩
    rw [hx]
    simp only [DataW.weights, Try.underlying31, List.map_cons, List.map_nil, DataW.weightsEach, List.mem_append]
    exact .inr (.inr (.inr (.inl hy)))
theorem pts_arg {W : World} {b0 : Nat} {r : Reach} {held : Bool} {v : Value} {d : DataW H} {ps : List MemPlace} (hval : Value.okWide Try.prog W r b0 22 v) (h : DataW.Trod enc Try.prog W 0 (fun _ => true) held 22 v d ps) (hw : ∀ y ∈ DataW.weights Try.prog 22 d, y ≤ 140737488351232) :
    ∃ l : List PtD, SrcW W 11 v l.length (rws PtD.c l) ∧ PtIn W l ∧ l.length ≤ 9223372036854775807 := by
  haveI : Inhabited {p : PtD // SrcW W 1 p.v p.b.length (u8s p.b)} := ⟨⟨⟨0, 0, [0, 0, 0, 0, 0, 0, 0, 0], [], .slice none 0 0, rfl, by decide, by decide, by decide, by decide, by decide⟩, .nil⟩⟩
  obtain ⟨l, h1, h2⟩ := rows_sliceW (α := {p : PtD // SrcW W 1 p.v p.b.length (u8s p.b)}) (fun p => p.1.c) 11 (by decide) (fun p => p.1.len) Try.underlying22 kCellsP (fun n cs x hl h hw => by
    obtain ⟨p, hp, hs⟩ := part_trod hl h hw
    exact ⟨⟨p, hs⟩, hp⟩) hval h hw
  refine ⟨l.map (·.1), ?_, fun p hp => ?_, by rw [List.length_map]; exact h2⟩
  · rw [List.length_map]
    have e : rws PtD.c (l.map (·.1)) = rws (fun p : {p : PtD // SrcW W 1 p.v p.b.length (u8s p.b)} => p.1.c) l := by unfold rws; rw [List.map_map]; rfl
    rw [e]; exact h1
  · obtain ⟨q, _, rfl⟩ := List.mem_map.1 hp
    exact q.2
end Go.Proofs.Ytgnjdpaenojfhaa
