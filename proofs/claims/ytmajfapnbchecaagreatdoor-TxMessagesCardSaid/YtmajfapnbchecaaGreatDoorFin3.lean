import Derived.Test.YtmajfapnbchecaaGreatDoorVcM
import Derived.ChangeStays
import Derived.ChangeOld
import Derived.ChangeSame
import Derived.RowKit
import Derived.OpenShut
import Derived.ProofKit
import Derived.Deep.DeepHandedRow
import GoSem.ClaimSeven
import Derived.Deep.Slices
import Derived.Test.YtmajfapnbchecaaGreatDoorSha5
import Derived.Test.YtmajfapnbchecaaGreatDoorCards
import Derived.Test.YtmajfapnbchecaaGreatDoorTie
import Derived.WalkKit
import Derived.Lib.LaidTab
set_option linter.unusedSimpArgs false
set_option linter.unusedVariables false
/- From a walk to what the row asks: the arguments read as before, nothing old has turned. -/
namespace Go.Vc
open Go Go.ChangeShapes Go.WideShapes Go.ChangeAt Go.RowKit

/-- No slice's elements are nothing at all. -/
def slicesFull (P : Program) : Bool := (List.range P.types.size).all fun t => match P.underlying t with
  | some (.slice e) => Nat.blt 0 (P.cellsOf e)
  | _ => true
theorem slicesFull_spec {P : Program} (h : slicesFull P = true) {t e : TypeId} (ht : t < P.types.size) (hu : P.underlying t = some (.slice e)) : 0 < P.cellsOf e := by
  have := List.all_eq_true.1 h t (List.mem_range.2 ht)
  simp only [hu] at this
  simpa [Nat.blt_eq] using this

section
variable {H : Type} {enc : TypeId × Value → H} {P : Program}

theorem sameAt_below {w w' : World} (h : Below w.heap.size w w') {p : MemPlace} (hp : p.block < w.heap.size) : w.sameAt w' p := by
  cases p with
  | cell b o => 
    have := h.block b hp
    simp [World.sameAt, World.cell?, this]
  | map b =>
    have := h.block b hp
    simp [World.sameAt, this]

theorem trodAll_stay (hl : laidOutB P = true) (hm : mapsRowed P = true) (hsl : slicesFull P = true) {w w' : World} (hb : Below w.heap.size w w') {sp : Nat → Bool} :
    ∀ (ts : List TypeId) (vs : List Value) (ds : List (DataW H)) (ps : List MemPlace), (∀ t ∈ ts, t < P.types.size) → DataW.TrodAll enc P w 0 (fun _ => true) true ts vs ds ps →
      (∀ p ∈ ps, p.block < w.heap.size) → (∀ p ∈ ps, sp p.block = true) → DataW.TrodAll enc P w' 0 sp true ts vs ds ps
  | [], vs, ds, ps, _, h, _, _ => by
    obtain ⟨rfl, rfl, rfl⟩ := trodAll_nil h
    exact trodAll_mk0
  | t :: ts, vs, ds, ps, ht, h, hlt, hs => by
    obtain ⟨v, vs', d, ds', p, q, rfl, rfl, rfl, ⟨n, h1⟩, h2⟩ := trodAll_cons h
    refine ⟨p, q, ⟨n, ?_⟩, trodAll_stay hl hm hsl hb ts vs' ds' q (fun t ht' => ht t (List.mem_cons_of_mem _ ht')) h2 (fun x hx => hlt x (List.mem_append_right _ hx)) (fun x hx => hs x (List.mem_append_right _ hx)), rfl⟩
    exact DataW.trod_stays (kids_rows hl hm) (fun h1 h2 => slicesFull_spec hsl h1 h2) (fun h => by cases h) (ht t List.mem_cons_self) h1
      (fun x hx => sameAt_below hb (hlt x (List.mem_append_left _ hx))) (fun x hx => hs x (List.mem_append_left _ hx))

/-- What a law's row asks behind a call that returns true and turns nothing old. -/
theorem post_true {f : Func} {s : ChangeSpec} {apart fresh handsOn : Bool} {W W' : World} {args : Array Value} {ds gs : List (DataW H)} {before : List MemPlace} {tb : TypeId}
    (hl : laidOutB P = true) (hm : mapsRowed P = true) (hsl : slicesFull P = true) (hts : f.params.toList.all (fun t => Nat.blt t P.types.size) = true) (hrt : f.resultTypes = #[tb]) (hub : P.underlying tb = some .bool)
    (hW : DataW.Whole enc P f.params.toList s.vars apart W args.toList ds gs before) (hv : s.vars = []) (hsr : (s.fn H ds).results = [.lit (.bool true)]) (hsa : (s.fn H ds).args = ds) (hsv : (s.fn H ds).vars = [])
    (hf : Fr [] W W') : s.post enc P f apart fresh handsOn false W args (.bool true) W' := by
  have hb := hf.below
  have hlt := hW.lt
  have hW' := hW
  obtain ⟨p, q, hA, hV, rfl, hz, hn⟩ := hW'
  rw [hv] at hV
  obtain ⟨rfl, rfl⟩ := trodVars_none hV
  have hts' : ∀ t ∈ f.params.toList, t < P.types.size := fun t ht => by simpa [Nat.blt_eq] using List.all_eq_true.1 hts t ht
  have hag : ∀ sp : Nat → Bool, (∀ x ∈ p ++ [], sp x.block = true) → DataW.TrodAll enc P W' 0 sp true f.params.toList args.toList ds p := fun sp hsp =>
    trodAll_stay hl hm hsl hb _ _ _ _ hts' hA (fun x hx => hlt x (List.mem_append_left _ hx)) (fun x hx => hsp x (List.mem_append_left _ hx))
  have hres : ∀ (b : Nat) (sp : Nat → Bool) (hd : Bool), DataW.TrodAll enc P W' b sp hd f.resultTypes.toList ((Value.bool true).resultList f.resultTypes.size) [.lit (.bool true)] [] := fun b sp hd => by
    rw [hrt]
    exact trodAll_cons_mk (shut_bool hub _) trodAll_mk0
  have hold : ∀ x ∈ p ++ [], (fun b => decide (b < W.heap.size)) x.block = true := fun x hx => by simpa using hlt x hx
  refine ⟨ds, [], p ++ [], [], p, [], hW, ?_, ?_, ?_, World.keptBut_mono (fun x hx => ⟨hx, ?_⟩) (hb.frame (· ∈ p ++ [])), fun h => by cases h⟩
  · rw [List.append_nil, hsr]; exact hres _ _ _
  · rw [List.append_nil, hsa]; exact hag _ hold
  · rw [List.append_nil, hsv, hv]; exact rfl
  · simpa using hx
end
end Go.Vc

/- Arguments that are bytes in arrays; what is laid. -/
namespace Go.Vc
open Go Go.Sha Go.ChangeShapes Go.WideShapes Go.ChangeAt Go.RowKit

def AllB (cs : List Value) : Prop := ∀ v ∈ cs, ∃ n : Nat, n < 256 ∧ v = .int .u8 n
theorem AllB.list : ∀ {cs : List Value}, AllB cs → ∃ l : List Nat, cs = u8s l ∧ ∀ x ∈ l, x < 256
  | [], _ => ⟨[], rfl, fun _ h => by cases h⟩
  | v :: cs, h => by
    obtain ⟨n, hn, rfl⟩ := h v List.mem_cons_self
    obtain ⟨l, rfl, hl⟩ := AllB.list (cs := cs) (fun v hv => h v (List.mem_cons_of_mem _ hv))
    exact ⟨n :: l, rfl, fun x hx => by
      rcases List.mem_cons.1 hx with rfl | hx
      · exact hn
      · exact hl x hx⟩
/-- Nothing but bytes, in arrays. -/
def onlyB (P : Program) : Nat → TypeId → Bool
  | 0, _ => false
  | d + 1, t => match P.underlying t with
    | some (.int .u8) => true
    | some (.array _ e) => onlyB P d e
    | _ => false
section
variable {H : Type} {enc : TypeId × Value → H} {P : Program}
theorem mapM_all {α β : Type} {f : α → Option β} : ∀ {l : List α} {r : List β}, l.mapM f = some r → ∀ x ∈ l, ∃ y, f x = some y
  | [], _, _, _, h => by cases h
  | a :: l, r, h, x, hx => by
    rw [List.mapM_cons] at h
    simp only [bind, Option.bind_eq_some_iff, pure, Option.some.injEq] at h
    obtain ⟨y, hy, ys, hys, _⟩ := h
    rcases List.mem_cons.1 hx with rfl | hx
    · exact ⟨y, hy⟩
    · exact mapM_all hys x hx
theorem bytes_of_trod (hl : laidOutB P = true) (hm : mapsRowed P = true) {w : World} {base : Nat} {sp : Nat → Bool} {held : Bool} : ∀ (n d : Nat) (t : TypeId) (cs : List Value) (x : DataW H × List MemPlace),
    t < P.types.size → onlyB P d t = true → DataW.trod enc P w base sp held n t cs = some x → AllB cs
  | 0, _, _, _, _, _, _, h => by simp [DataW.trod] at h
  | n + 1, 0, _, _, _, _, ho, _ => by cases ho
  | n + 1, d + 1, t, cs, x, ht, ho, h => by
    unfold onlyB at ho
    cases hu : P.underlying t with
    | none => rw [hu] at ho; cases ho
    | some kd =>
      rw [hu] at ho
      cases kd with
      | int k =>
        cases k <;> simp at ho
        obtain ⟨z, hcs, _, hw⟩ := DataW.trod_int hu h
        have hb := bounds_u8 hw
        rw [hcs]
        intro v hv
        rw [List.mem_singleton] at hv
        exact ⟨z.toNat, by omega, by rw [hv, Int.toNat_of_nonneg hb.1]⟩
      | array m e =>
        simp only at ho
        unfold DataW.trod at h
        simp only [hu] at h
        split at h
        · rename_i hlen
          simp only [Option.map_eq_some_iff] at h
          obtain ⟨xs, hx, rfl⟩ := h
          have K := (kids_rows hl hm).array ht hu
          intro v hv
          obtain ⟨j, hj, rfl⟩ := List.mem_iff_getElem.1 hv
          rw [hlen, K.2] at hj
          have hc : 0 < P.cellsOf e := by
            rcases Nat.eq_zero_or_pos (P.cellsOf e) with h0 | h0
            · rw [h0, Nat.mul_zero] at hj; omega
            · exact h0
          have hi : j / P.cellsOf e < m := Nat.div_lt_of_lt_mul (by rw [Nat.mul_comm]; exact hj)
          obtain ⟨y, hy⟩ := mapM_all hx (j / P.cellsOf e) (List.mem_range.2 hi)
          have ih := bytes_of_trod hl hm n d e _ y K.1 ho hy
          refine ih _ ?_
          have h1 := Nat.div_add_mod j (P.cellsOf e)
          have h2 := Nat.mod_lt j hc
          refine List.mem_of_getElem? (i := j % P.cellsOf e) ?_
          rw [List.getElem?_take, if_pos h2, List.getElem?_drop]
          rw [show j / P.cellsOf e * P.cellsOf e + j % P.cellsOf e = j by rw [Nat.mul_comm]; exact h1]
          exact List.getElem?_eq_getElem _
        · cases h
      | _ => cases ho
/-- An argument that is an array of bytes. -/
theorem bytes_arg (hl : laidOutB P = true) (hm : mapsRowed P = true) {w : World} {base b0 : Nat} {sp : Nat → Bool} {held : Bool} {r : Reach} {t e d len : Nat} {v : Value} {dd : DataW H} {ps : List MemPlace} (hu : P.underlying t = some (.array len e)) (ht : Nat.blt t P.types.size = true) (ho : onlyB P d t = true)
    (hval : Value.okWide P w r b0 t v) (h : DataW.Trod enc P w base sp held t v dd ps) : ∃ l : List Nat, v = .agg (u8s l).toArray ∧ l.length = P.cellsOf t ∧ ∀ x ∈ l, x < 256 := by
  unfold Value.okWide at hval
  rw [hu] at hval
  obtain ⟨cs, rfl, hs, _⟩ := hval
  obtain ⟨n, h⟩ := h
  obtain ⟨l, hl', hb⟩ := (bytes_of_trod hl hm n d t _ _ (by simpa [Nat.blt_eq] using ht) ho h).list
  have hcs : cs = (u8s l).toArray := Array.toList_inj.1 hl'
  subst hcs
  exact ⟨l, rfl, by rw [← hs]; simp [u8s_len], hb⟩
theorem params_plain {fn : Func} (h : fn.params.all (fun t => !P.wantsStandIn t) = true) (j : Nat) (t : TypeId) (ht : fn.params[j]? = some t) : P.wantsStandIn t = false := by
  have := Array.all_eq_true_iff_forall_mem.1 h t (Array.mem_of_getElem? ht)
  simpa using this
end
end Go.Vc

/- Arguments that are slices of bytes, slices of such, strings. -/
namespace Go.Vc
open Go Go.Sha Go.ChangeShapes Go.WideShapes Go.ChangeAt Go.RowKit Go.Deep
section
variable {H : Type} {enc : TypeId × Value → H} {P : Program}

/-- One cell that reads as a byte. -/
theorem byte_cell {w : World} {base n e : Nat} {sp : Nat → Bool} {held : Bool} {v : Value} {x : DataW H × List MemPlace} (he : P.underlying e = some (.int .u8)) (h : DataW.trod enc P w base sp held n e [v] = some x) : ∃ k : Nat, k < 256 ∧ v = .int .u8 k := by
  obtain ⟨z, hcs, _, hw⟩ := DataW.trod_int he h
  have hb := bounds_u8 hw
  cases hcs
  exact ⟨z.toNat, by omega, by rw [Int.toNat_of_nonneg hb.1]⟩

/-- A slice value that reads as data reads as bytes. -/
theorem slice_cell {w : World} {t e n : Nat} {held : Bool} {v : Value} {x : DataW H × List MemPlace} (hu : P.underlying t = some (.slice e)) (he : P.underlying e = some (.int .u8)) (hc : P.cellsOf e = 1)
    (h : DataW.trod enc P w 0 (fun _ => true) held n t [v] = some x) : ∃ (m : Nat) (l : List Nat), SrcW w 1 v m (u8s l) ∧ ∀ y ∈ l, y < 256 := by
  rcases open_slice1 hu hc h with ⟨h0, _⟩ | ⟨a, len, cap, m, n', V, D, Pl, h0, _, hl, _, hm, _, hx⟩
  · cases h0
    exact ⟨0, [], .nil, fun _ h => by cases h⟩
  · cases h0
    rw [if_pos rfl] at hm
    subst hm
    have hB : AllB ((List.range len).map V) := by
      intro v hv
      simp only [List.mem_map, List.mem_range] at hv
      obtain ⟨i, hi, rfl⟩ := hv
      exact byte_cell he (hx i (by omega)).2
    obtain ⟨l, hl', hb⟩ := hB.list
    have hlen : (u8s l).length = len := by rw [← hl']; simp
    refine ⟨len, l, .at a len _ (u8s l) (by rw [hlen, Nat.mul_one]) hl (fun j u hj => ?_), hb⟩
    have hjl : j < len := by rw [← hlen]; exact (List.getElem?_eq_some_iff.1 hj).1
    rw [← hl', List.getElem?_map, List.getElem?_range hjl] at hj
    cases hj
    exact (hx j (by omega)).1
/-- A slice of bytes as argument. -/
theorem slice_arg {w : World} {t e b0 : Nat} {r : Reach} {held : Bool} {v : Value} {d : DataW H} {ps : List MemPlace} (hu : P.underlying t = some (.slice e)) (he : P.underlying e = some (.int .u8)) (hc : P.cellsOf e = 1)
    (hval : Value.okWide P w r b0 t v) (h : DataW.Trod enc P w 0 (fun _ => true) held t v d ps) : ∃ (m : Nat) (l : List Nat), SrcW w 1 v m (u8s l) ∧ ∀ y ∈ l, y < 256 := by
  obtain ⟨a, len, cap, rfl⟩ := okWide_slice hu hval
  obtain ⟨n, h⟩ := h
  exact slice_cell hu he hc h
end
end Go.Vc

/- What is laid: hash.steps; closed facts of the program. -/
namespace Go.Proofs.YtmajfapnbchecaaGreatDoor
open Go Go.Vc Go.Sha Go.ChangeShapes Go.WideShapes Go.ChangeAt Go.RowKit

theorem kLaidOut : laidOutB Tryz.prog = true := by kernel_rfl
theorem kMaps : mapsRowed Tryz.prog = true := by kernel_rfl
theorem kSlices : slicesFull Tryz.prog = true := by kernel_rfl
theorem kOwn : ownKnob Tryz.prog.godebug = Option.none := by kernel_rfl
theorem kTab : Tryz.prog.globalNamed "drawbridge/hash.steps" = some 0 := by kernel_rfl
theorem kTabType : (Tryz.prog.globals[0]?).map (·.type) = some 161 := by kernel_rfl
theorem kCellsT : Tryz.prog.cellsOf 161 = 64 := by kernel_rfl
theorem kCellsE : Tryz.prog.cellsOf 159 = 1 := by kernel_rfl
theorem kCellsB : Tryz.prog.cellsOf 5 = 1 := by kernel_rfl

/-- What the row's list gives. -/
theorem laid_of {W : World} (h : laidMet Tryz.prog [("drawbridge/hash.steps", Rows.laid_drawbridge_hash_steps)] W) : Laid W := fun i hi => by
  have h1 : Lib.TabIs Tryz.prog W "drawbridge/hash.steps" .u32 (K.map Int.ofNat) :=
    Lib.tabIs_of_head (rest := []) kTab kTabType Tryz.underlying161 Tryz.underlying159 kCellsE kCellsT h
  have := h1.cell kTab i (by rw [List.length_map, K_len]; exact hi)
  rw [this]
  have hk : i < K.length := by rw [K_len]; exact hi
  simp [List.getD_eq_getElem?_getD, hk]

/-- A world for the witness: the table holds what its initialiser lays. -/
noncomputable def laidWorld (os : Os) : World :=
  { World.holding Tryz.prog os ⟨#[], #[], []⟩ with heap := (World.holding Tryz.prog os ⟨#[], #[], []⟩).heap.modify 0 fun
      | .cells _ t frozen => .cells (u32s K).toArray t frozen
      | o => o }
end Go.Proofs.YtmajfapnbchecaaGreatDoor
