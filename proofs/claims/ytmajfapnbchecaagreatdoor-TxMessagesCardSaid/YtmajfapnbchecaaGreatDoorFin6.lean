import Derived.Test.YtmajfapnbchecaaGreatDoorFin3
import Derived.Test.YtmajfapnbchecaaGreatDoorMer2
import Derived.Test.YtmajfapnbchecaaGreatDoorQuC
set_option linter.unusedSimpArgs false
set_option linter.unusedVariables false
/- Arguments that are slices of hashes, arrays of numbers. -/
namespace Go.Vc
open Go Go.Sha Go.ChangeShapes Go.WideShapes Go.ChangeAt Go.RowKit Go.Deep
section
variable {H : Type} {enc : TypeId × Value → H} {P : Program}
/-- A slice of hashes as argument. -/
theorem hash_slice (hl : laidOutB P = true) (hm : mapsRowed P = true) {w : World} {t e b0 : Nat} {r : Reach} {held : Bool} {v : Value} {d : DataW H} {ps : List MemPlace} (hu : P.underlying t = some (.slice e)) (het : Nat.blt e P.types.size = true) (ho : onlyB P 3 e = true) (hc : P.cellsOf e = 8)
    (hval : Value.okWide P w r b0 t v) (h : DataW.Trod enc P w 0 (fun _ => true) held t v d ps) : ∃ ls : List (List Nat), SrcW w 8 v ls.length (u8s ls.flatten) ∧ HL ls ∧ ls.length ≤ 9223372036854775807 := by
  obtain ⟨a, len, cap, rfl⟩ := okWide_slice hu hval
  obtain ⟨n, h⟩ := h
  rcases open_slice hu h with ⟨h0, _⟩ | ⟨a, len, cap, m, n', D, Pl, h0, _, hlc, hml, hmm, hxd, hx⟩
  · cases h0
    exact ⟨[], .nil, (fun h hh => by cases hh), Nat.zero_le _⟩
  · cases h0
    rw [if_pos rfl] at hmm
    subst hmm
    rw [hc] at hx
    have hex : ∀ i, i < len → ∃ l : List Nat, l.length = 8 ∧ (∀ x ∈ l, x < 256) ∧ ∀ j, j < 8 → w.cell? (a.add (i * 8 + j)) = (u8s l)[j]? := by
      intro i hi
      obtain ⟨cs', h1, h2⟩ := hx i (by omega)
      obtain ⟨_, hlen, hcell⟩ := World.cells?_some h1
      obtain ⟨l, rfl, hb⟩ := (bytes_of_trod hl hm n' 3 e _ _ (by simpa [Nat.blt_eq] using het) ho h2).list
      refine ⟨l, by rw [← u8s_len]; exact hlen, hb, fun j hj => ?_⟩
      rw [← add_add]
      exact hcell j hj
    obtain ⟨F, hF⟩ := choose_lt hex
    have hHL : HL ((List.range len).map F) := by
      intro x hx
      simp only [List.mem_map, List.mem_range] at hx
      obtain ⟨i, hi, rfl⟩ := hx
      exact ⟨(hF i hi).1, (hF i hi).2.1⟩
    have hlen : ((List.range len).map F).length = len := by simp
    refine ⟨(List.range len).map F, ?_, hHL, by rw [hlen]; simp only [maxLen] at hml; omega⟩
    rw [hlen]
    refine .at a _ _ _ (by rw [u8s_len, hHL.len, hlen]) hlc fun j u hj => ?_
    have hjl : j < len * 8 := by
      have := (List.getElem?_eq_some_iff.1 hj).1
      rwa [u8s_len, hHL.len, hlen] at this
    have hi : j / 8 < len := by omega
    have hpf := pc_flat (i := j / 8) (x := F (j / 8)) hHL (by simp [hi])
    have h3 := (hF (j / 8) hi).2.2 (j % 8) (Nat.mod_lt _ (by decide))
    rw [show j / 8 * 8 + j % 8 = j by omega] at h3
    rw [h3]
    have e1 : (u8s (F (j / 8)))[j % 8]? = some u := by
      rw [← hpf]
      unfold pc
      rw [u8s_take, u8s_drop, List.getElem?_take, if_pos (Nat.mod_lt _ (by decide)), List.getElem?_drop, show j / 8 * 8 + j % 8 = j by omega]
      exact hj
    exact e1
/-- Numbers, as cells. -/
def i64s (l : List Int) : List Value := l.map (Value.int .i64)
/-- An argument that is an array of ints. -/
theorem ints_arg (hl : laidOutB P = true) (hm : mapsRowed P = true) {w : World} {base b0 : Nat} {sp : Nat → Bool} {held : Bool} {r : Reach} {t e len : Nat} {v : Value} {dd : DataW H} {ps : List MemPlace} (hu : P.underlying t = some (.array len e)) (ht : Nat.blt t P.types.size = true) (he : P.underlying e = some (.int .i64)) (hce : P.cellsOf e = 1)
    (hval : Value.okWide P w r b0 t v) (h : DataW.Trod enc P w base sp held t v dd ps) : ∃ l : List Int, v = .agg (i64s l).toArray ∧ l.length = len := by
  unfold Value.okWide at hval
  rw [hu] at hval
  obtain ⟨cs, rfl, hs, _⟩ := hval
  obtain ⟨n, h⟩ := h
  have ht' : t < P.types.size := by simpa [Nat.blt_eq] using ht
  have K := (kids_rows hl hm).array ht' hu
  rw [K.2, hce, Nat.mul_one] at hs
  have hall : ∀ v ∈ cs.toList, ∃ z : Int, v = .int .i64 z := by
    cases n with
    | zero => simp [DataW.trod] at h
    | succ n =>
      unfold DataW.trod at h
      simp only [hu] at h
      split at h
      · rename_i hlen
        simp only [Option.map_eq_some_iff] at h
        obtain ⟨xs, hx, _⟩ := h
        intro v hv
        obtain ⟨j, hj, rfl⟩ := List.mem_iff_getElem.1 hv
        have hj' : j < len := by
          have : cs.toList.length = len := by simpa using hs
          simpa [Value.cells] using (this ▸ hj)
        obtain ⟨y, hy⟩ := mapM_all hx j (List.mem_range.2 hj')
        obtain ⟨z, hcs, _, _⟩ := DataW.trod_int he hy
        refine ⟨z, ?_⟩
        rw [hce, Nat.mul_one] at hcs
        have h5 : ((cs.toList.drop j).take 1)[0]? = some (Value.int .i64 z) := by
          have : (Value.agg cs).cells.toList = cs.toList := rfl
          rw [this] at hcs
          rw [hcs]; rfl
        rw [List.getElem?_take, if_pos (by decide), List.getElem?_drop, Nat.add_zero] at h5
        exact (List.getElem?_eq_some_iff.1 h5).2
      · cases h
  have key : ∀ l : List Value, (∀ v ∈ l, ∃ z : Int, v = .int .i64 z) → ∃ zs : List Int, l = i64s zs := by
    intro l
    induction l with
    | nil => intro _; exact ⟨[], rfl⟩
    | cons v l ih =>
      intro h
      obtain ⟨z, rfl⟩ := h v List.mem_cons_self
      obtain ⟨zs, rfl⟩ := ih (fun v hv => h v (List.mem_cons_of_mem _ hv))
      exact ⟨z :: zs, rfl⟩
  obtain ⟨zs, hzs⟩ := key _ hall
  have hcs : cs = (i64s zs).toArray := Array.toList_inj.1 hzs
  subst hcs
  exact ⟨zs, rfl, by simpa [i64s] using hs⟩
end
end Go.Vc

/- Arguments that are slices of ints, of bools, and parameters. -/
namespace Go.Vc
open Go Go.Sha Go.ChangeShapes Go.WideShapes Go.ChangeAt Go.RowKit Go.Deep
section
variable {H : Type} {enc : TypeId × Value → H} {P : Program}
theorem hash_trod (hl : laidOutB P = true) (hm : mapsRowed P = true) {w : World} {t e fuel : Nat} {held : Bool} {cs : List Value} {x : DataW H × List MemPlace} (hu : P.underlying t = some (.slice e)) (het : Nat.blt e P.types.size = true) (ho : onlyB P 3 e = true) (hc : P.cellsOf e = 8)
    (h : DataW.trod enc P w 0 (fun _ => true) held fuel t cs = some x) : ∃ (v : Value) (ls : List (List Nat)), cs = [v] ∧ SrcW w 8 v ls.length (u8s ls.flatten) ∧ HL ls ∧ ls.length ≤ 9223372036854775807 := by
  rcases open_slice hu h with ⟨rfl, _⟩ | ⟨a, len, cap, m, n', D, Pl, rfl, _, hlc, hml, hmm, hxd, hx⟩
  · exact ⟨_, [], rfl, .nil, (fun h hh => by cases hh), Nat.zero_le _⟩
  · rw [if_pos rfl] at hmm
    subst hmm
    rw [hc] at hx
    have hex : ∀ i, i < len → ∃ l : List Nat, l.length = 8 ∧ (∀ x ∈ l, x < 256) ∧ ∀ j, j < 8 → w.cell? (a.add (i * 8 + j)) = (u8s l)[j]? := by
      intro i hi
      obtain ⟨cs', h1, h2⟩ := hx i (by omega)
      obtain ⟨_, hlen, hcell⟩ := World.cells?_some h1
      obtain ⟨l, rfl, hb⟩ := (bytes_of_trod hl hm n' 3 e _ _ (by simpa [Nat.blt_eq] using het) ho h2).list
      refine ⟨l, by rw [← u8s_len]; exact hlen, hb, fun j hj => ?_⟩
      rw [← add_add]
      exact hcell j hj
    obtain ⟨F, hF⟩ := choose_lt hex
    have hHL : HL ((List.range len).map F) := by
      intro x hx
      simp only [List.mem_map, List.mem_range] at hx
      obtain ⟨i, hi, rfl⟩ := hx
      exact ⟨(hF i hi).1, (hF i hi).2.1⟩
    have hlen : ((List.range len).map F).length = len := by simp
    refine ⟨_, (List.range len).map F, rfl, ?_, hHL, by rw [hlen]; simp only [maxLen] at hml; omega⟩
    rw [hlen]
    refine .at a _ _ _ (by rw [u8s_len, hHL.len, hlen]) hlc fun j u hj => ?_
    have hjl : j < len * 8 := by
      have := (List.getElem?_eq_some_iff.1 hj).1
      rwa [u8s_len, hHL.len, hlen] at this
    have hi : j / 8 < len := by omega
    have hpf := pc_flat (i := j / 8) (x := F (j / 8)) hHL (by simp [hi])
    have h3 := (hF (j / 8) hi).2.2 (j % 8) (Nat.mod_lt _ (by decide))
    rw [show j / 8 * 8 + j % 8 = j by omega] at h3
    rw [h3]
    have e1 : (u8s (F (j / 8)))[j % 8]? = some u := by
      rw [← hpf]
      unfold pc
      rw [u8s_take, u8s_drop, List.getElem?_take, if_pos (Nat.mod_lt _ (by decide)), List.getElem?_drop, show j / 8 * 8 + j % 8 = j by omega]
      exact hj
    exact e1
/-- Cells that are each of one shape. -/
theorem one_trod {α : Type} [Inhabited α] (f : α → Value) {w : World} {t e fuel : Nat} {held : Bool} {cs : List Value} {x : DataW H × List MemPlace} (hu : P.underlying t = some (.slice e)) (hc : P.cellsOf e = 1)
    (hf : ∀ n V D Pl, DataW.trod enc P w 0 (fun _ => true) held n e [V] = some (D, Pl) → ∃ z, V = f z)
    (h : DataW.trod enc P w 0 (fun _ => true) held fuel t cs = some x) : ∃ (v : Value) (l : List α), cs = [v] ∧ SrcW w 1 v l.length (l.map f) ∧ l.length ≤ 9223372036854775807 := by
  rcases open_slice1 hu hc h with ⟨rfl, _⟩ | ⟨a, len, cap, m, n', V, D, Pl, rfl, _, hlc, hml, hmm, hxd, hx⟩
  · exact ⟨_, [], rfl, .nil, Nat.zero_le _⟩
  · rw [if_pos rfl] at hmm
    subst hmm
    have hex : ∀ i, i < len → ∃ z : α, w.cell? (a.add i) = some (f z) := by
      intro i hi
      obtain ⟨h1, h2⟩ := hx i (by omega)
      obtain ⟨z, hz⟩ := hf _ _ _ _ h2
      exact ⟨z, by rw [h1, hz]⟩
    obtain ⟨F, hF⟩ := choose_lt hex
    have hlen : ((List.range len).map F).length = len := by simp
    refine ⟨_, (List.range len).map F, rfl, ?_, by rw [hlen]; simp only [maxLen] at hml; omega⟩
    rw [hlen]
    refine .at a _ _ _ (by simp) hlc fun j u hj => ?_
    rw [List.map_map, List.getElem?_map] at hj
    by_cases hjl : j < len
    · rw [List.getElem?_range hjl] at hj
      simp only [Option.map_some, Option.some.injEq, Function.comp] at hj
      rw [← hj]
      exact hF j hjl
    · rw [List.getElem?_eq_none (by simpa using hjl)] at hj
      cases hj
theorem ints_slice {w : World} {t e b0 : Nat} {r : Reach} {held : Bool} {v : Value} {d : DataW H} {ps : List MemPlace} (hu : P.underlying t = some (.slice e)) (he : P.underlying e = some (.int .i64)) (hc : P.cellsOf e = 1)
    (hval : Value.okWide P w r b0 t v) (h : DataW.Trod enc P w 0 (fun _ => true) held t v d ps) : ∃ l : List Int, SrcW w 1 v l.length (i64L l) ∧ l.length ≤ 9223372036854775807 := by
  obtain ⟨a, len, cap, rfl⟩ := okWide_slice hu hval
  obtain ⟨n, h⟩ := h
  obtain ⟨v, l, hv, hs, hl⟩ := one_trod (Value.int .i64) hu hc (fun n V D Pl h => by
    obtain ⟨z, hcs, _, _⟩ := DataW.trod_int he h
    exact ⟨z, by simpa using hcs⟩) h
  cases hv
  exact ⟨l, hs, hl⟩
theorem bools_slice {w : World} {t e b0 : Nat} {r : Reach} {held : Bool} {v : Value} {d : DataW H} {ps : List MemPlace} (hu : P.underlying t = some (.slice e)) (he : P.underlying e = some .bool) (hc : P.cellsOf e = 1)
    (hval : Value.okWide P w r b0 t v) (h : DataW.Trod enc P w 0 (fun _ => true) held t v d ps) : ∃ l : List Bool, SrcW w 1 v l.length (boolL l) ∧ l.length ≤ 9223372036854775807 := by
  obtain ⟨a, len, cap, rfl⟩ := okWide_slice hu hval
  obtain ⟨n, h⟩ := h
  obtain ⟨v, l, hv, hs, hl⟩ := one_trod Value.bool hu hc (fun n V D Pl h => by
    obtain ⟨z, hcs, _⟩ := DataW.trod_bool he h
    exact ⟨z, by simpa using hcs⟩) h
  cases hv
  exact ⟨l, hs, hl⟩
theorem four_list {l : List Value} {a b c d : Value} (h : l.length = 4) (h0 : (l.drop 0).take 1 = [a]) (h1 : (l.drop 1).take 1 = [b]) (h2 : (l.drop 2).take 1 = [c]) (h3 : (l.drop 3).take 1 = [d]) : l = [a, b, c, d] := by
  match l, h with
  | [x, y, z, u], _ =>
    simp at h0 h1 h2 h3
    subst h0 h1 h2 h3
    rfl
/-- Parameters as argument. -/
theorem params_arg (hl : laidOutB P = true) (hm : mapsRowed P = true) {w : World} {t e b0 : Nat} {r : Reach} {held : Bool} {v : Value} {d : DataW H} {ps : List MemPlace} {f0 f1 f2 f3 : Field} (hu : P.underlying t = some (.struct #[f0, f1, f2, f3])) (hct : P.cellsOf t = 4)
    (o0 : f0.offset = 0) (o1 : f1.offset = 1) (o2 : f2.offset = 2) (o3 : f3.offset = 3) (t0 : P.underlying f0.type = some (.int .i64)) (t1 : P.underlying f1.type = some (.int .i64)) (t2 : P.underlying f2.type = some (.int .i64)) (t3 : P.underlying f3.type = some (.slice e))
    (c0 : P.cellsOf f0.type = 1) (c1 : P.cellsOf f1.type = 1) (c2 : P.cellsOf f2.type = 1) (c3 : P.cellsOf f3.type = 1) (het : Nat.blt e P.types.size = true) (ho : onlyB P 3 e = true) (hc : P.cellsOf e = 8)
    (hval : Value.okWide P w r b0 t v) (h : DataW.Trod enc P w 0 (fun _ => true) held t v d ps) :
    ∃ (z0 z1 z2 : Int) (v3 : Value) (ls : List (List Nat)), v = .agg (prm z0 z1 z2 v3).toArray ∧ SrcW w 8 v3 ls.length (u8s ls.flatten) ∧ HL ls ∧ ls.length ≤ 9223372036854775807 := by
  unfold Value.okWide at hval
  rw [hu] at hval
  obtain ⟨cs, rfl, hs, _⟩ := hval
  obtain ⟨n, h⟩ := h
  obtain ⟨xs, n', _, _, hlen, hxl, hf⟩ := DataW.trod_struct hu h
  have e0 := hf 0 f0 rfl
  have e1 := hf 1 f1 rfl
  have e2 := hf 2 f2 rfl
  have e3 := hf 3 f3 rfl
  rw [o0, c0] at e0
  rw [o1, c1] at e1
  rw [o2, c2] at e2
  rw [o3, c3] at e3
  have hx0 : xs[0]? = some (xs[0]'(by rw [hxl]; show 0 < 4; decide)) := List.getElem?_eq_getElem _
  have hx1 : xs[1]? = some (xs[1]'(by rw [hxl]; show 1 < 4; decide)) := List.getElem?_eq_getElem _
  have hx2 : xs[2]? = some (xs[2]'(by rw [hxl]; show 2 < 4; decide)) := List.getElem?_eq_getElem _
  have hx3 : xs[3]? = some (xs[3]'(by rw [hxl]; show 3 < 4; decide)) := List.getElem?_eq_getElem _
  obtain ⟨z0, h0, _, _⟩ := DataW.trod_int t0 (e0.trans hx0)
  obtain ⟨z1, h1, _, _⟩ := DataW.trod_int t1 (e1.trans hx1)
  obtain ⟨z2, h2, _, _⟩ := DataW.trod_int t2 (e2.trans hx2)
  obtain ⟨v3, ls, h3, hsr, hH, hll⟩ := hash_trod hl hm t3 het ho hc (e3.trans hx3)
  refine ⟨z0, z1, z2, v3, ls, ?_, hsr, hH, hll⟩
  have : cs.toList = prm z0 z1 z2 v3 := four_list (by rw [hct] at hlen; exact hlen) h0 h1 h2 h3
  rw [← this]
end
end Go.Vc
namespace Go.Proofs.YtmajfapnbchecaaGreatDoor
open Go Go.Vc
theorem qCellsH : Tryz.prog.cellsOf 31 = 8 := by kernel_rfl
theorem qCellsI : Tryz.prog.cellsOf 3 = 1 := by kernel_rfl
theorem qCellsL : Tryz.prog.cellsOf 4 = 1 := by kernel_rfl
end Go.Proofs.YtmajfapnbchecaaGreatDoor
theorem bounds_i {z : Int} (h : (Go.Lit.int .i64 z).wf = true) : -9223372036854775808 ≤ z ∧ z ≤ 9223372036854775807 := by
  simp [Go.Lit.wf, Go.IntKind.min, Go.IntKind.max, Go.IntKind.bits, Go.IntKind.signed] at h
  omega
