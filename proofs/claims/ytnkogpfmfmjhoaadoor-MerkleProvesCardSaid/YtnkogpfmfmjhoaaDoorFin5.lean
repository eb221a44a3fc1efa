/- Arguments that are slices of hashes, arrays of numbers. -/
import Derived.Test.YtnkogpfmfmjhoaaDoorFin2
import Derived.Test.YtnkogpfmfmjhoaaDoorMer1
namespace Go.Vc
open Go Go.Sha Go.ChangeShapes Go.WideShapes Go.ChangeAt Go.RowKit Go.Deep
section
variable {H : Type} {enc : TypeId × Value → H} {P : Program}
/-- A slice of hashes as argument. -/
theorem hash_slice (hl : laidOutB P = true) (hm : mapsRowed P = true) {w : World} {t e b0 : Nat} {r : Reach} {held : Bool} {v : Value} {d : DataW H} {ps : List MemPlace} (hu : P.underlying t = some (.slice e)) (het : Nat.blt e P.types.size = true) (ho : onlyB P 3 e = true) (hc : P.cellsOf e = 8)
    (hval : Value.okWide P w r b0 t v) (h : DataW.Trod enc P w 0 (fun _ => true) held t v d ps) : ∃ ls : List (List Nat), SrcW w 8 v ls.length (u8s ls.flatten) ∧ HL ls ∧ ls.length ≤ 9223372036854775807 := by
  obtain ⟨a, len, cap, rfl⟩ := okWide_slice hu hval
  obtain ⟨n, h⟩ := h
  rcases open_slice hu h with ⟨h0, _⟩ | ⟨a, len, cap, m, n', D, Pl, h0, _, hlc, hml, hmm, hxd, hx⟩
  · cases h0
    exact ⟨[], .nil, (fun h hh => by cases hh), Nat.zero_le _⟩
  · cases h0
    rw [if_pos rfl] at hmm
    subst hmm
    rw [hc] at hx
    have hex : ∀ i, i < len → ∃ l : List Nat, l.length = 8 ∧ (∀ x ∈ l, x < 256) ∧ ∀ j, j < 8 → w.cell? (a.add (i * 8 + j)) = (u8s l)[j]? := by
      intro i hi
      obtain ⟨cs', h1, h2⟩ := hx i (by omega)
      obtain ⟨_, hlen, hcell⟩ := World.cells?_some h1
      obtain ⟨l, rfl, hb⟩ := (bytes_of_trod hl hm n' 3 e _ _ (by simpa [Nat.blt_eq] using het) ho h2).list
      refine ⟨l, by rw [← u8s_len]; exact hlen, hb, fun j hj => ?_⟩
      rw [← add_add]
      exact hcell j hj
    obtain ⟨F, hF⟩ := choose_lt hex
    have hHL : HL ((List.range len).map F) := by
      intro x hx
      simp only [List.mem_map, List.mem_range] at hx
      obtain ⟨i, hi, rfl⟩ := hx
      exact ⟨(hF i hi).1, (hF i hi).2.1⟩
    have hlen : ((List.range len).map F).length = len := by simp
    refine ⟨(List.range len).map F, ?_, hHL, by rw [hlen]; simp only [maxLen] at hml; omega⟩
    rw [hlen]
    refine .at a _ _ _ (by rw [u8s_len, hHL.len, hlen]) hlc fun j u hj => ?_
    have hjl : j < len * 8 := by
      have := (List.getElem?_eq_some_iff.1 hj).1
      rwa [u8s_len, hHL.len, hlen] at this
    have hi : j / 8 < len := by omega
    have hpf := pc_flat (i := j / 8) (x := F (j / 8)) hHL (by simp [hi])
    have h3 := (hF (j / 8) hi).2.2 (j % 8) (Nat.mod_lt _ (by decide))
    rw [show j / 8 * 8 + j % 8 = j by omega] at h3
    rw [h3]
    have e1 : (u8s (F (j / 8)))[j % 8]? = some u := by
      rw [← hpf]
      unfold pc
      rw [u8s_take, u8s_drop, List.getElem?_take, if_pos (Nat.mod_lt _ (by decide)), List.getElem?_drop, show j / 8 * 8 + j % 8 = j by omega]
      exact hj
    exact e1
/-- Numbers, as cells. -/
def i64s (l : List Int) : List Value := l.map (Value.int .i64)
/-- An argument that is an array of ints. -/
theorem ints_arg (hl : laidOutB P = true) (hm : mapsRowed P = true) {w : World} {base b0 : Nat} {sp : Nat → Bool} {held : Bool} {r : Reach} {t e len : Nat} {v : Value} {dd : DataW H} {ps : List MemPlace} (hu : P.underlying t = some (.array len e)) (ht : Nat.blt t P.types.size = true) (he : P.underlying e = some (.int .i64)) (hce : P.cellsOf e = 1)
    (hval : Value.okWide P w r b0 t v) (h : DataW.Trod enc P w base sp held t v dd ps) : ∃ l : List Int, v = .agg (i64s l).toArray ∧ l.length = len := by
  unfold Value.okWide at hval
  rw [hu] at hval
  obtain ⟨cs, rfl, hs, _⟩ := hval
  obtain ⟨n, h⟩ := h
  have ht' : t < P.types.size := by simpa [Nat.blt_eq] using ht
  have K := (kids_rows hl hm).array ht' hu
  rw [K.2, hce, Nat.mul_one] at hs
  have hall : ∀ v ∈ cs.toList, ∃ z : Int, v = .int .i64 z := by
    cases n with
    | zero => simp [DataW.trod] at h
    | succ n =>
      unfold DataW.trod at h
      simp only [hu] at h
      split at h
      · rename_i hlen
        simp only [Option.map_eq_some_iff] at h
        obtain ⟨xs, hx, _⟩ := h
        intro v hv
        obtain ⟨j, hj, rfl⟩ := List.mem_iff_getElem.1 hv
        have hj' : j < len := by
          have : cs.toList.length = len := by simpa using hs
          simpa [Value.cells] using (this ▸ hj)
        obtain ⟨y, hy⟩ := mapM_all hx j (List.mem_range.2 hj')
        obtain ⟨z, hcs, _, _⟩ := DataW.trod_int he hy
        refine ⟨z, ?_⟩
        rw [hce, Nat.mul_one] at hcs
        have h5 : ((cs.toList.drop j).take 1)[0]? = some (Value.int .i64 z) := by
          have : (Value.agg cs).cells.toList = cs.toList := rfl
          rw [this] at hcs
          rw [hcs]; rfl
        rw [List.getElem?_take, if_pos (by decide), List.getElem?_drop, Nat.add_zero] at h5
        exact (List.getElem?_eq_some_iff.1 h5).2
      · cases h
  have key : ∀ l : List Value, (∀ v ∈ l, ∃ z : Int, v = .int .i64 z) → ∃ zs : List Int, l = i64s zs := by
    intro l
    induction l with
    | nil => intro _; exact ⟨[], rfl⟩
    | cons v l ih =>
      intro h
      obtain ⟨z, rfl⟩ := h v List.mem_cons_self
      obtain ⟨zs, rfl⟩ := ih (fun v hv => h v (List.mem_cons_of_mem _ hv))
      exact ⟨z :: zs, rfl⟩
  obtain ⟨zs, hzs⟩ := key _ hall
  have hcs : cs = (i64s zs).toArray := Array.toList_inj.1 hzs
  subst hcs
  exact ⟨zs, rfl, by simpa [i64s] using hs⟩
end
end Go.Vc
