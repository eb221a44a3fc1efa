/- Lemmas. -/
import Derived.ChangeStays
import Derived.ChangeOld
import Derived.ChangeSame
import Derived.RowKit
import Derived.OpenShut
import Derived.ProofKit
import Derived.Deep.DeepHandedRow
import GoSem.ClaimSeven
import Derived.Deep.Slices
import Derived.Test.YtfoeakgnkfcbjaaGreatDoorCards
import Derived.Test.YtfoeakgnkfcbjaaGreatDoorTie
import Derived.WalkKit
import Derived.Lib.LaidTab
import Derived.Test.YtfoeakgnkfcbjaaGreatDoorPq32
set_option linter.unusedSimpArgs false
set_option linter.unusedVariables false
section
/- From a walk to what the row asks: the arguments read as before, nothing old has turned. -/
namespace Go.Vc
open Go Go.ChangeShapes Go.WideShapes Go.ChangeAt Go.RowKit

/-- No slice's elements are nothing at all. -/
def slicesFull (P : Program) : Bool := (List.range P.types.size).all fun t => match P.underlying t with
  | some (.slice e) => Nat.blt 0 (P.cellsOf e)
  | _ => true
theorem slicesFull_spec {P : Program} (h : slicesFull P = true) {t e : TypeId} (ht : t < P.types.size) (hu : P.underlying t = some (.slice e)) : 0 < P.cellsOf e := by
  have := List.all_eq_true.1 h t (List.mem_range.2 ht)
  simp only [hu] at this
  simpa [Nat.blt_eq] using this

section
variable {H : Type} {enc : TypeId × Value → H} {P : Program}

theorem sameAt_below {w w' : World} (h : Below w.heap.size w w') {p : MemPlace} (hp : p.block < w.heap.size) : w.sameAt w' p := by
  cases p with
  | cell b o => 
    have := h.block b hp
    simp [World.sameAt, World.cell?, this]
  | map b =>
    have := h.block b hp
    simp [World.sameAt, this]

theorem trodAll_stay (hl : laidOutB P = true) (hm : mapsRowed P = true) (hsl : slicesFull P = true) {w w' : World} (hb : Below w.heap.size w w') {sp : Nat → Bool} :
    ∀ (ts : List TypeId) (vs : List Value) (ds : List (DataW H)) (ps : List MemPlace), (∀ t ∈ ts, t < P.types.size) → DataW.TrodAll enc P w 0 (fun _ => true) true ts vs ds ps →
      (∀ p ∈ ps, p.block < w.heap.size) → (∀ p ∈ ps, sp p.block = true) → DataW.TrodAll enc P w' 0 sp true ts vs ds ps
  | [], vs, ds, ps, _, h, _, _ => by
    obtain ⟨rfl, rfl, rfl⟩ := trodAll_nil h
    exact trodAll_mk0
  | t :: ts, vs, ds, ps, ht, h, hlt, hs => by
    obtain ⟨v, vs', d, ds', p, q, rfl, rfl, rfl, ⟨n, h1⟩, h2⟩ := trodAll_cons h
    refine ⟨p, q, ⟨n, ?_⟩, trodAll_stay hl hm hsl hb ts vs' ds' q (fun t ht' => ht t (List.mem_cons_of_mem _ ht')) h2 (fun x hx => hlt x (List.mem_append_right _ hx)) (fun x hx => hs x (List.mem_append_right _ hx)), rfl⟩
    exact DataW.trod_stays (kids_rows hl hm) (fun h1 h2 => slicesFull_spec hsl h1 h2) (fun h => by cases h) (ht t List.mem_cons_self) h1
      (fun x hx => sameAt_below hb (hlt x (List.mem_append_left _ hx))) (fun x hx => hs x (List.mem_append_left _ hx))

/-- What a law's row asks behind a call that returns true and turns nothing old. -/
theorem post_true {f : Func} {s : ChangeSpec} {apart fresh handsOn : Bool} {W W' : World} {args : Array Value} {ds gs : List (DataW H)} {before : List MemPlace} {tb : TypeId}
    (hl : laidOutB P = true) (hm : mapsRowed P = true) (hsl : slicesFull P = true) (hts : f.params.toList.all (fun t => Nat.blt t P.types.size) = true) (hrt : f.resultTypes = #[tb]) (hub : P.underlying tb = some .bool)
    (hW : DataW.Whole enc P f.params.toList s.vars apart W args.toList ds gs before) (hv : s.vars = []) (hsr : (s.fn H ds).results = [.lit (.bool true)]) (hsa : (s.fn H ds).args = ds) (hsv : (s.fn H ds).vars = [])
    (hf : Fr [] W W') : s.post enc P f apart fresh handsOn false W args (.bool true) W' := by
  have hb := hf.below
  have hlt := hW.lt
  have hW' := hW
  obtain ⟨p, q, hA, hV, rfl, hz, hn⟩ := hW'
  rw [hv] at hV
  obtain ⟨rfl, rfl⟩ := trodVars_none hV
  have hts' : ∀ t ∈ f.params.toList, t < P.types.size := fun t ht => by simpa [Nat.blt_eq] using List.all_eq_true.1 hts t ht
  have hag : ∀ sp : Nat → Bool, (∀ x ∈ p ++ [], sp x.block = true) → DataW.TrodAll enc P W' 0 sp true f.params.toList args.toList ds p := fun sp hsp =>
    trodAll_stay hl hm hsl hb _ _ _ _ hts' hA (fun x hx => hlt x (List.mem_append_left _ hx)) (fun x hx => hsp x (List.mem_append_left _ hx))
  have hres : ∀ (b : Nat) (sp : Nat → Bool) (hd : Bool), DataW.TrodAll enc P W' b sp hd f.resultTypes.toList ((Value.bool true).resultList f.resultTypes.size) [.lit (.bool true)] [] := fun b sp hd => by
    rw [hrt]
    exact trodAll_cons_mk (shut_bool hub _) trodAll_mk0
  have hold : ∀ x ∈ p ++ [], (fun b => decide (b < W.heap.size)) x.block = true := fun x hx => by simpa using hlt x hx
  refine ⟨ds, [], p ++ [], [], p, [], hW, ?_, ?_, ?_, World.keptBut_mono (fun x hx => ⟨hx, ?_⟩) (hb.frame (· ∈ p ++ [])), fun h => by cases h⟩
  · rw [List.append_nil, hsr]; exact hres _ _ _
  · rw [List.append_nil, hsa]; exact hag _ hold
  · rw [List.append_nil, hsv, hv]; exact rfl
  · simpa using hx
end
end Go.Vc

/- Arguments that are bytes in arrays; what is laid. -/
namespace Go.Vc
open Go Go.Sha Go.ChangeShapes Go.WideShapes Go.ChangeAt Go.RowKit

section
variable {H : Type} {enc : TypeId × Value → H} {P : Program}
theorem mapM_all {α β : Type} {f : α → Option β} : ∀ {l : List α} {r : List β}, l.mapM f = some r → ∀ x ∈ l, ∃ y, f x = some y
  | [], _, _, _, h => by cases h
  | a :: l, r, h, x, hx => by
    rw [List.mapM_cons] at h
    simp only [bind, Option.bind_eq_some_iff, pure, Option.some.injEq] at h
    obtain ⟨y, hy, ys, hys, _⟩ := h
    rcases List.mem_cons.1 hx with rfl | hx
    · exact ⟨y, hy⟩
    · exact mapM_all hys x hx
theorem params_plain {fn : Func} (h : fn.params.all (fun t => !P.wantsStandIn t) = true) (j : Nat) (t : TypeId) (ht : fn.params[j]? = some t) : P.wantsStandIn t = false := by
  have := Array.all_eq_true_iff_forall_mem.1 h t (Array.mem_of_getElem? ht)
  simpa using this
end
end Go.Vc

/- Arguments that are slices of bytes, slices of such, strings. -/
namespace Go.Vc
open Go Go.Sha Go.ChangeShapes Go.WideShapes Go.ChangeAt Go.RowKit Go.Deep
section
variable {H : Type} {enc : TypeId × Value → H} {P : Program}

end
end Go.Vc

/- What is laid: hash.steps; closed facts of the program. -/
namespace Go.Proofs.YtfoeakgnkfcbjaaGreatDoor
open Go Go.Vc Go.Sha Go.ChangeShapes Go.WideShapes Go.ChangeAt Go.RowKit

theorem kLaidOut : laidOutB Tryz.prog = true := by kernel_rfl
theorem kMaps : mapsRowed Tryz.prog = true := by kernel_rfl
theorem kSlices : slicesFull Tryz.prog = true := by kernel_rfl
theorem kOwn : ownKnob Tryz.prog.godebug = Option.none := by kernel_rfl
theorem kTab : Tryz.prog.globalNamed "drawbridge/hash.steps" = some 1 := by kernel_rfl
theorem kTabType : (Tryz.prog.globals[1]?).map (·.type) = some 111 := by kernel_rfl
theorem kCellsT : Tryz.prog.cellsOf 111 = 64 := by kernel_rfl
theorem kCellsE : Tryz.prog.cellsOf 109 = 1 := by kernel_rfl
/-- What the row's list gives. -/
theorem laid_of {W : World} (h : laidMet Tryz.prog [("drawbridge/hash.steps", Rows.laid_drawbridge_hash_steps)] W) : Laid W := fun i hi => by
  have h1 : Lib.TabIs Tryz.prog W "drawbridge/hash.steps" .u32 (K.map Int.ofNat) :=
    Lib.tabIs_of_head (rest := []) kTab kTabType Tryz.underlying111 Tryz.underlying109 kCellsE kCellsT h
  have := h1.cell kTab i (by rw [List.length_map, K_len]; exact hi)
  rw [this]
  have hk : i < K.length := by rw [K_len]; exact hi
  simp [List.getD_eq_getElem?_getD, hk]

/-- A world for the witness: the table holds what its initialiser lays. -/
noncomputable def laidWorld (os : Os) : World :=
  { World.holding Tryz.prog os ⟨#[], #[], []⟩ with heap := (World.holding Tryz.prog os ⟨#[], #[], []⟩).heap.modify 1 fun
      | .cells _ t frozen => .cells (u32s K).toArray t frozen
      | o => o }
end Go.Proofs.YtfoeakgnkfcbjaaGreatDoor
end
section
/- Arguments that are slices of hashes, arrays of numbers. -/
namespace Go.Vc
open Go Go.Sha Go.ChangeShapes Go.WideShapes Go.ChangeAt Go.RowKit Go.Deep
section
variable {H : Type} {enc : TypeId × Value → H} {P : Program}
end
end Go.Vc

/- Arguments that are slices of ints, of bools, and parameters. -/
namespace Go.Vc
open Go Go.Sha Go.ChangeShapes Go.WideShapes Go.ChangeAt Go.RowKit Go.Deep
section
variable {H : Type} {enc : TypeId × Value → H} {P : Program}
end
end Go.Vc
namespace Go.Proofs.YtfoeakgnkfcbjaaGreatDoor
open Go Go.Vc
end Go.Proofs.YtfoeakgnkfcbjaaGreatDoor
end
section
/- Arguments that are slices of records of numbers. -/
namespace Go.Vc
open Go Go.Sha Go.ChangeShapes Go.WideShapes Go.ChangeAt Go.RowKit Go.Deep
def Ok1 (v : Value) : Prop := ∀ k z, v = .int k z → (Lit.int k z).wf = true
section
variable {H : Type} {enc : TypeId × Value → H} {P : Program}
theorem flat_trod (hl : laidOutB P = true) (hm : mapsRowed P = true) {w : World} {base : Nat} {sp : Nat → Bool} {held : Bool} : ∀ (d n : Nat) (t : TypeId) (ks : List IntKind) (cs : List Value) (x : DataW H × List MemPlace),
    t < P.types.size → kindsOf P d t = some ks → ks.length = P.cellsOf t → DataW.trod enc P w base sp held n t cs = some x → HasK ks cs ∧ ∀ v ∈ cs, Ok1 v
  | 0, _, _, _, _, _, _, hk, _, _ => by cases hk
  | d + 1, n, t, ks, cs, x, ht, hk, hc, h => by
    unfold kindsOf at hk
    cases hu : P.underlying t with
    | none => rw [hu] at hk; cases hk
    | some kd =>
      rw [hu] at hk
      cases kd with
      | int k =>
        cases hk
        cases n with
        | zero => simp [DataW.trod] at h
        | succ n =>
          obtain ⟨z, hcs, _, hw⟩ := DataW.trod_int hu h
          rw [hcs]
          refine ⟨.cons k z .nil, fun v hv k' z' e => ?_⟩
          rw [List.mem_singleton] at hv
          subst hv
          cases e
          exact hw
      | array m e =>
        simp only at hk
        cases hke : kindsOf P d e with
        | none => rw [hke] at hk; cases hk
        | some ke =>
          rw [hke] at hk
          simp only at hk
          cases hb : Nat.beq ke.length (P.cellsOf e) with
          | false => rw [hb] at hk; cases hk
          | true =>
            rw [hb] at hk
            simp only [cond_true, Option.some.injEq] at hk
            have hce : ke.length = P.cellsOf e := Nat.eq_of_beq_eq_true hb
            have K := (kids_rows hl hm).array ht hu
            cases n with
            | zero => simp [DataW.trod] at h
            | succ n =>
              unfold DataW.trod at h
              simp only [hu] at h
              split at h
              · rename_i hlen
                simp only [Option.map_eq_some_iff] at h
                obtain ⟨xs, hx, rfl⟩ := h
                have hpart : ∀ i, i < m → HasK ke ((cs.drop (i * P.cellsOf e)).take (P.cellsOf e)) ∧ ∀ v ∈ (cs.drop (i * P.cellsOf e)).take (P.cellsOf e), Ok1 v := fun i hi => by
                  obtain ⟨y, hy⟩ := mapM_all hx i (List.mem_range.2 hi)
                  exact flat_trod hl hm d n e ke _ y K.1 hke hce hy
                rw [K.2] at hlen
                have key : ∀ j, j ≤ m → HasK (List.replicate j ke).flatten (cs.drop ((m - j) * P.cellsOf e)) ∧ ∀ v ∈ cs.drop ((m - j) * P.cellsOf e), Ok1 v := by
                  intro j
                  induction j with
                  | zero =>
                    intro _
                    rw [Nat.sub_zero, List.drop_of_length_le (by omega)]
                    exact ⟨.nil, fun v hv => by cases hv⟩
                  | succ j ih =>
                    intro hj
                    obtain ⟨i1, i2⟩ := ih (by omega)
                    obtain ⟨p1, p2⟩ := hpart (m - (j + 1)) (by omega)
                    have e1 : cs.drop ((m - (j + 1)) * P.cellsOf e) = (cs.drop ((m - (j + 1)) * P.cellsOf e)).take (P.cellsOf e) ++ cs.drop ((m - j) * P.cellsOf e) := by
                      conv => lhs; rw [← List.take_append_drop (P.cellsOf e) (cs.drop ((m - (j + 1)) * P.cellsOf e)), List.drop_drop]
                      rw [show m - j = m - (j + 1) + 1 by omega, Nat.add_mul (m - (j + 1)) 1, Nat.one_mul]
                    rw [e1, List.replicate_succ, List.flatten_cons]
                    refine ⟨p1.append i1, fun v hv => ?_⟩
                    rcases List.mem_append.1 hv with hv | hv
                    · exact p2 v hv
                    · exact i2 v hv
                obtain ⟨k1, k2⟩ := key m (Nat.le_refl _)
                rw [Nat.sub_self, Nat.zero_mul, List.drop_zero] at k1 k2
                rw [← hk]
                exact ⟨k1, k2⟩
              · cases h
      | struct fs =>
        simp only at hk
        cases hst : P.stoodInHeld t with
        | true => rw [hst] at hk; cases hk
        | false =>
          rw [hst] at hk
          simp only [cond_false] at hk
          obtain ⟨xs, n', _, _, hlen, hxl, hf⟩ := DataW.trod_struct hu h
          have K := (kids_rows hl hm).struct ht hu
          have key : ∀ (gs : List Field) (off : Nat) (kg : List IntKind), (∀ f ∈ gs, f.type < P.types.size ∧ ∃ y, DataW.trod enc P w base sp held n' f.type ((cs.drop f.offset).take (P.cellsOf f.type)) = some y) → kindsF P (kindsOf P d) gs off = some kg →
              HasK kg ((cs.drop off).take kg.length) ∧ ∀ v ∈ (cs.drop off).take kg.length, Ok1 v := by
            intro gs
            induction gs with
            | nil =>
              intro off kg _ hg
              cases hg
              exact ⟨by simpa using HasK.nil, fun v hv => by simp at hv⟩
            | cons f gs ih =>
              intro off kg hfs hg
              unfold kindsF at hg
              cases hkf : kindsOf P d f.type with
              | none => rw [hkf] at hg; cases hg
              | some kf =>
                rw [hkf] at hg
                simp only at hg
                cases hb : (f.name != "_" && (Nat.beq f.offset off && Nat.beq kf.length (P.cellsOf f.type))) with
                | false => rw [hb] at hg; cases hg
                | true =>
                  rw [hb] at hg
                  simp only [cond_true, Option.map_eq_some_iff] at hg
                  obtain ⟨kr, hr, rfl⟩ := hg
                  simp only [Bool.and_eq_true] at hb
                  have ho : f.offset = off := Nat.eq_of_beq_eq_true hb.2.1
                  have hcl : kf.length = P.cellsOf f.type := Nat.eq_of_beq_eq_true hb.2.2
                  obtain ⟨ht1, y, hy⟩ := hfs f List.mem_cons_self
                  obtain ⟨p1, p2⟩ := flat_trod hl hm d n' f.type kf _ y ht1 hkf hcl hy
                  obtain ⟨i1, i2⟩ := ih (off + kf.length) kr (fun g hg => hfs g (List.mem_cons_of_mem _ hg)) hr
                  rw [ho, ← hcl] at p1 p2
                  have e1 : (cs.drop off).take (kf ++ kr).length = (cs.drop off).take kf.length ++ (cs.drop (off + kf.length)).take kr.length := by
                    rw [List.length_append, List.take_add, List.drop_drop]
                  rw [e1]
                  refine ⟨p1.append i1, fun v hv => ?_⟩
                  rcases List.mem_append.1 hv with hv | hv
                  · exact p2 v hv
                  · exact i2 v hv
          obtain ⟨k1, k2⟩ := key fs.toList 0 ks (fun f hfm => by
            refine ⟨K.1 f hfm, ?_⟩
            obtain ⟨i, hi, hfi⟩ := List.mem_iff_getElem.1 hfm
            have h1 := hf i f (by rw [← Array.getElem?_toList, List.getElem?_eq_getElem hi, hfi])
            have h2 : i < xs.length := by rw [hxl]; simpa using hi
            exact ⟨xs[i], h1.trans (List.getElem?_eq_getElem h2)⟩) hk
          rw [List.drop_zero, List.take_of_length_le (by omega)] at k1 k2
          exact ⟨k1, k2⟩
      | _ => cases hk
end
theorem u8list_of : ∀ {n : Nat} {cs : List Value}, HasK (List.replicate n .u8) cs → (∀ v ∈ cs, Ok1 v) → ∃ l : List Nat, cs = u8s l ∧ l.length = n ∧ ∀ x ∈ l, x < 256
  | 0, _, .nil, _ => ⟨[], rfl, rfl, fun x hx => by cases hx⟩
  | n + 1, _, .cons _ z h, ho => by
    obtain ⟨l, rfl, hl, hb⟩ := u8list_of h (fun v hv => ho v (List.mem_cons_of_mem _ hv))
    have := bounds_u8 (ho _ List.mem_cons_self .u8 z rfl)
    refine ⟨z.toNat :: l, ?_, by simp [hl], fun x hx => ?_⟩
    · show _ = Value.int .u8 (z.toNat : Int) :: u8s l
      rw [Int.toNat_of_nonneg this.1]
    · rcases List.mem_cons.1 hx with rfl | hx
      · omega
      · exact hb x hx
end Go.Vc
end
section
/- Arguments that are transactions, signatures. -/
namespace Go.Vc
open Go Go.Sha Go.ChangeShapes Go.WideShapes Go.ChangeAt Go.RowKit Go.Deep
section
variable {H : Type} {enc : TypeId × Value → H} {P : Program}
/-- A slice of records among the cells of an argument. -/
theorem rows_trod {α : Type} [Inhabited α] (c : α → List Value) (sz : Nat) (hsz : 0 < sz) (hcl : ∀ a, (c a).length = sz) {w : World} {t e fuel : Nat} {held : Bool} {cs0 : List Value} {x : DataW H × List MemPlace} (hu : P.underlying t = some (.slice e)) (hc : P.cellsOf e = sz)
    (hf : ∀ n cs x, cs.length = sz → DataW.trod enc P w 0 (fun _ => true) held n e cs = some x → ∃ a, cs = c a)
    (h : DataW.trod enc P w 0 (fun _ => true) held fuel t cs0 = some x) : ∃ (a : Option Addr) (cap : Nat) (l : List α), cs0 = [.slice a l.length cap] ∧ SrcW w sz (.slice a l.length cap) l.length (rws c l) := by
  rcases open_slice hu h with ⟨rfl, _⟩ | ⟨a, len, cap, m, n', D, Pl, rfl, _, hlc, hml, hmm, hxd, hx⟩
  · exact ⟨none, 0, [], rfl, .nil⟩
  · rw [if_pos rfl] at hmm
    subst hmm
    rw [hc] at hx
    have hex : ∀ i, i < len → ∃ y : α, ∀ j, j < sz → w.cell? (a.add (i * sz + j)) = (c y)[j]? := by
      intro i hi
      obtain ⟨cs', h1, h2⟩ := hx i (by omega)
      obtain ⟨_, hlen, hcell⟩ := World.cells?_some h1
      obtain ⟨y, rfl⟩ := hf _ _ _ (by rw [hlen]) h2
      exact ⟨y, fun j hj => by rw [← add_add]; exact hcell j hj⟩
    obtain ⟨F, hF⟩ := choose_lt hex
    have hlen : ((List.range len).map F).length = len := by simp
    refine ⟨some a, _, (List.range len).map F, by rw [hlen], ?_⟩
    rw [hlen]
    refine .at a _ _ _ (by rw [rws_len hcl, hlen]) hlc fun j u hj => ?_
    have hjl : j < len * sz := by
      have := (List.getElem?_eq_some_iff.1 hj).1
      rwa [rws_len hcl, hlen] at this
    have hi : j / sz < len := (Nat.div_lt_iff_lt_mul hsz).2 hjl
    have h2 := Nat.mod_lt j hsz
    have h3 := hF (j / sz) hi (j % sz) h2
    have h4 : j / sz * sz + j % sz = j := by rw [Nat.mul_comm]; exact Nat.div_add_mod j sz
    rw [h4] at h3
    rw [h3]
    have h5 : (c (F (j / sz)))[j % sz]? = some ((c (F (j / sz)))[j % sz]'(by rw [hcl]; exact h2)) := List.getElem?_eq_getElem _
    have h6 := rws_at hcl (l := (List.range len).map F) (i := j / sz) (s := F (j / sz)) (by simp [hi]) (j % sz) _ h5
    rw [h4, hj] at h6
    rw [h5, Option.some.inj h6]
theorem cut_at (l : List Value) (k n : Nat) : l.drop k = (l.drop k).take n ++ l.drop (k + n) := by rw [← List.drop_drop, List.take_append_drop]
theorem hkU8 {n : Nat} {ks : List IntKind} {cs : List Value} (h : HasK (List.replicate n .u8 ++ ks) cs) (ho : ∀ v ∈ cs, Ok1 v) : ∃ l r, cs = u8s l ++ r ∧ (l.length = n ∧ ∀ x ∈ l, x < 256) ∧ HasK ks r ∧ ∀ v ∈ r, Ok1 v := by
  obtain ⟨h1, h2⟩ := h.split
  obtain ⟨l, hl, h8, hb⟩ := u8list_of h1 (fun v hv => ho v (List.mem_of_mem_take hv))
  refine ⟨l, cs.drop (List.replicate n IntKind.u8).length, ?_, ⟨h8, hb⟩, h2, fun v hv => ho v (List.mem_of_mem_drop hv)⟩
  conv => lhs; rw [← List.take_append_drop (List.replicate n IntKind.u8).length cs, hl]
theorem hkI64 {ks : List IntKind} {cs : List Value} (h : HasK (.i64 :: ks) cs) (ho : ∀ v ∈ cs, Ok1 v) : ∃ z r, cs = .int .i64 z :: r ∧ HasK ks r ∧ ∀ v ∈ r, Ok1 v := by
  cases h with
  | cons _ z h => exact ⟨z, _, rfl, h, fun v hv => ho v (List.mem_cons_of_mem _ hv)⟩
end
end Go.Vc
namespace Go.Proofs.YtfoeakgnkfcbjaaGreatDoor
open Go Go.Vc Go.Sha Go.ChangeShapes Go.WideShapes Go.ChangeAt Go.RowKit Go.Deep
set_option maxRecDepth 10000
def sgK : List IntKind := .i64 :: (List.replicate 128 .u8 ++ (List.replicate 128 .u8 ++ (List.replicate 24 .u8 ++ [])))
theorem sg_kinds {cs : List Value} {ks : List IntKind} (h : HasK (.i64 :: (List.replicate 128 .u8 ++ (List.replicate 128 .u8 ++ (List.replicate 24 .u8 ++ ks)))) cs) (ho : ∀ v ∈ cs, Ok1 v) : ∃ (s : SigD) (r : List Value), cs = s.c ++ r ∧ HasK ks r ∧ ∀ v ∈ r, Ok1 v := by
  obtain ⟨z, cs, rfl, h, ho⟩ := hkI64 h ho
  obtain ⟨op, cs, rfl, h1, h, ho⟩ := hkU8 h ho
  obtain ⟨sh, cs, rfl, h2, h, ho⟩ := hkU8 h ho
  obtain ⟨pa, cs, rfl, h3, h, ho⟩ := hkU8 h ho
  exact ⟨⟨z, ⟨op, h1⟩, ⟨sh, h2⟩, ⟨pa, h3⟩⟩, cs, by rw [SigD.eq]; simp only [List.cons_append, List.append_assoc], h, ho⟩
theorem hk_nil {r : List Value} (h : HasK [] r) : r = [] := by cases h; rfl
variable {H : Type} {enc : TypeId × Value → H}
theorem in_trod {w : World} {n : Nat} {held : Bool} {cs : List Value} {x : DataW H × List MemPlace} (h : DataW.trod enc Tryz.prog w 0 (fun _ => true) held n 173 cs = some x) : ∃ a : InD, cs = a.c := by
  obtain ⟨h1, ho⟩ := flat_trod kLaidOut kMaps 8 n 173 (List.replicate 8 .u8 ++ (.i64 :: (List.replicate 8 .u8 ++ sgK))) cs x (Nat.blt_eq.mp (show Nat.blt 173 Tryz.prog.types.size = true by kernel_rfl)) (by kernel_rfl) (by kernel_rfl) h
  obtain ⟨t, cs, rfl, ht, h1, ho⟩ := hkU8 h1 ho
  obtain ⟨i, cs, rfl, h1, ho⟩ := hkI64 h1 ho
  obtain ⟨k, cs, rfl, hk, h1, ho⟩ := hkU8 h1 ho
  obtain ⟨s, cs, rfl, h1, ho⟩ := sg_kinds (ks := []) h1 ho
  rw [hk_nil h1, List.append_nil]
  exact ⟨⟨⟨t, ht⟩, i, ⟨k, hk⟩, s⟩, rfl⟩
theorem out_trod {w : World} {n : Nat} {held : Bool} {cs : List Value} {x : DataW H × List MemPlace} (h : DataW.trod enc Tryz.prog w 0 (fun _ => true) held n 164 cs = some x) : ∃ a : OutD, cs = a.c := by
  obtain ⟨h1, ho⟩ := flat_trod kLaidOut kMaps 8 n 164 (List.replicate 8 .u8 ++ [.i64]) cs x (Nat.blt_eq.mp (show Nat.blt 164 Tryz.prog.types.size = true by kernel_rfl)) (by kernel_rfl) (by kernel_rfl) h
  obtain ⟨t, cs, rfl, ht, h1, ho⟩ := hkU8 h1 ho
  obtain ⟨i, cs, rfl, h1, ho⟩ := hkI64 h1 ho
  rw [hk_nil h1]
  exact ⟨⟨⟨t, ht⟩, i⟩, rfl⟩
theorem fo_trod {w : World} {n : Nat} {held : Bool} {cs : List Value} {x : DataW H × List MemPlace} (h : DataW.trod enc Tryz.prog w 0 (fun _ => true) held n 177 cs = some x) : ∃ a : FoD, cs = a.c := by
  obtain ⟨h1, ho⟩ := flat_trod kLaidOut kMaps 8 n 177 (.i64 :: .i64 :: (List.replicate 8 .u8 ++ [.i64])) cs x (Nat.blt_eq.mp (show Nat.blt 177 Tryz.prog.types.size = true by kernel_rfl)) (by kernel_rfl) (by kernel_rfl) h
  obtain ⟨s, cs, rfl, h1, ho⟩ := hkI64 h1 ho
  obtain ⟨a, cs, rfl, h1, ho⟩ := hkI64 h1 ho
  obtain ⟨t, cs, rfl, ht, h1, ho⟩ := hkU8 h1 ho
  obtain ⟨i, cs, rfl, h1, ho⟩ := hkI64 h1 ho
  rw [hk_nil h1]
  exact ⟨⟨s, a, ⟨t, ht⟩, i⟩, rfl⟩
theorem sd_trod {w : World} {n : Nat} {held : Bool} {cs : List Value} {x : DataW H × List MemPlace} (h : DataW.trod enc Tryz.prog w 0 (fun _ => true) held n 188 cs = some x) : ∃ a : SgD, cs = a.c := by
  obtain ⟨h1, ho⟩ := flat_trod kLaidOut kMaps 8 n 188 (.i64 :: sgK) cs x (Nat.blt_eq.mp (show Nat.blt 188 Tryz.prog.types.size = true by kernel_rfl)) (by kernel_rfl) (by kernel_rfl) h
  obtain ⟨k, cs, rfl, h1, ho⟩ := hkI64 h1 ho
  obtain ⟨s, cs, rfl, h1, ho⟩ := sg_kinds (ks := []) h1 ho
  rw [hk_nil h1, List.append_nil]
  exact ⟨⟨k, s⟩, rfl⟩
theorem hs_trod {w : World} {n : Nat} {held : Bool} {cs : List Value} {x : DataW H × List MemPlace} (h : DataW.trod enc Tryz.prog w 0 (fun _ => true) held n 23 cs = some x) : ∃ a : By 8, cs = hsC a := by
  obtain ⟨h1, ho⟩ := flat_trod kLaidOut kMaps 8 n 23 (List.replicate 8 .u8) cs x (Nat.blt_eq.mp (show Nat.blt 23 Tryz.prog.types.size = true by kernel_rfl)) (by kernel_rfl) (by kernel_rfl) h
  obtain ⟨l, rfl, hl⟩ := u8list_of h1 ho
  exact ⟨⟨l, hl⟩, rfl⟩
theorem cl_trod {w : World} {n : Nat} {held : Bool} {cs : List Value} {x : DataW H × List MemPlace} (h : DataW.trod enc Tryz.prog w 0 (fun _ => true) held n 62 cs = some x) : ∃ a : ClD, cs = a.c := by
  obtain ⟨h1, ho⟩ := flat_trod kLaidOut kMaps 8 n 62 clK cs x (Nat.blt_eq.mp (show Nat.blt 62 Tryz.prog.types.size = true by kernel_rfl)) (by kernel_rfl) (by kernel_rfl) h
  obtain ⟨s, cs, rfl, h1, ho⟩ := hkI64 h1 ho
  obtain ⟨a, cs, rfl, h1, ho⟩ := hkI64 h1 ho
  obtain ⟨t, cs, rfl, ht, h1, ho⟩ := hkU8 h1 ho
  obtain ⟨i, cs, rfl, h1, ho⟩ := hkI64 h1 ho
  obtain ⟨j, cs, rfl, h1, ho⟩ := hkI64 h1 ho
  obtain ⟨l, rfl, hl⟩ := u8list_of (n := 128) h1 ho
  exact ⟨⟨s, a, ⟨t, ht⟩, i, j, ⟨l, hl⟩⟩, rfl⟩
instance : Inhabited SigD := ⟨SigD.nul⟩
instance : Inhabited (By 8) := ⟨By.z 8⟩
instance : Inhabited InD := ⟨⟨By.z 8, 0, By.z 8, SigD.nul⟩⟩
instance : Inhabited OutD := ⟨⟨By.z 8, 0⟩⟩
instance : Inhabited FoD := ⟨⟨0, 0, By.z 8, 0⟩⟩
instance : Inhabited SgD := ⟨⟨0, SigD.nul⟩⟩
theorem cTx : Tryz.prog.cellsOf 64 = 170 := by kernel_rfl
theorem cPr : Tryz.prog.cellsOf 54 = 4 := by kernel_rfl
theorem cCe : Tryz.prog.cellsOf 57 = 21 := by kernel_rfl
theorem cCl : Tryz.prog.cellsOf 62 = 140 := by kernel_rfl
theorem cI : Tryz.prog.cellsOf 3 = 1 := by kernel_rfl
theorem cHs : Tryz.prog.cellsOf 23 = 8 := by kernel_rfl
theorem cSI : Tryz.prog.cellsOf 49 = 1 := by kernel_rfl
theorem cSO : Tryz.prog.cellsOf 50 = 1 := by kernel_rfl
theorem cSF : Tryz.prog.cellsOf 51 = 1 := by kernel_rfl
theorem cSH : Tryz.prog.cellsOf 52 = 1 := by kernel_rfl
theorem cSS : Tryz.prog.cellsOf 55 = 1 := by kernel_rfl
theorem pr_trod {w : World} {n : Nat} {held : Bool} {cs : List Value} {x : DataW H × List MemPlace} (h : DataW.trod enc Tryz.prog w 0 (fun _ => true) held n 54 cs = some x) : ∃ (p : PrD) (a : Option Addr) (c : Nat), cs = prC p (.slice a p.ks.length c) ∧ SrcW w 8 (.slice a p.ks.length c) p.ks.length (rws hsC p.ks) := by
  obtain ⟨xs, n', _, _, hlen, hxl, hf⟩ := DataW.trod_struct Tryz.underlying54 h
  rw [cPr] at hlen
  match xs, hxl with
  | [x0, x1, x2, x3], _ =>
    have e0 : DataW.trod enc Tryz.prog w 0 (fun _ => true) held n' 3 ((cs.drop 0).take (Tryz.prog.cellsOf 3)) = some x0 := hf 0 _ rfl
    have e1 : DataW.trod enc Tryz.prog w 0 (fun _ => true) held n' 3 ((cs.drop 1).take (Tryz.prog.cellsOf 3)) = some x1 := hf 1 _ rfl
    have e2 : DataW.trod enc Tryz.prog w 0 (fun _ => true) held n' 3 ((cs.drop 2).take (Tryz.prog.cellsOf 3)) = some x2 := hf 2 _ rfl
    have e3 : DataW.trod enc Tryz.prog w 0 (fun _ => true) held n' 52 ((cs.drop 3).take (Tryz.prog.cellsOf 52)) = some x3 := hf 3 _ rfl
    rw [cI] at e0 e1 e2
    rw [cSH] at e3
    obtain ⟨z0, h0, _, _⟩ := DataW.trod_int Tryz.underlying3 e0
    obtain ⟨z1, h1, _, _⟩ := DataW.trod_int Tryz.underlying3 e1
    obtain ⟨z2, h2, _, _⟩ := DataW.trod_int Tryz.underlying3 e2
    obtain ⟨a, c, l, h3, hs⟩ := rows_trod hsC 8 (by decide) hsC_len Tryz.underlying52 cHs (fun n cs x _ h => hs_trod h) e3
    refine ⟨⟨z0, z1, z2, l⟩, a, c, ?_, hs⟩
    have hend : cs.drop 4 = [] := List.drop_of_length_le (by omega)
    show cs = [.int .i64 z0, .int .i64 z1, .int .i64 z2, .slice a l.length c]
    calc cs = cs.drop 0 := rfl
      _ = _ := by rw [cut_at cs 0 1, cut_at cs (0 + 1) 1, cut_at cs (0 + 1 + 1) 1, cut_at cs (0 + 1 + 1 + 1) 1, h0, h1, h2, h3, hend]; rfl
theorem ce_trod {w : World} {n : Nat} {held : Bool} {cs : List Value} {x : DataW H × List MemPlace} (h : DataW.trod enc Tryz.prog w 0 (fun _ => true) held n 57 cs = some x) : ∃ (e : CeD) (a : Option Addr) (c : Nat) (a' : Option Addr) (c' : Nat), cs = ceC e (.slice a e.os.length c) (.slice a' e.sg.length c') ∧ SrcW w 9 (.slice a e.os.length c) e.os.length (rws OutD.c e.os) ∧ SrcW w 282 (.slice a' e.sg.length c') e.sg.length (rws SgD.c e.sg) := by
  obtain ⟨xs, n', _, _, hlen, hxl, hf⟩ := DataW.trod_struct Tryz.underlying57 h
  rw [cCe] at hlen
  match xs, hxl with
  | [x0, x1, x2, x3, x4, x5, x6], _ =>
    have e0 : DataW.trod enc Tryz.prog w 0 (fun _ => true) held n' 3 ((cs.drop 0).take (Tryz.prog.cellsOf 3)) = some x0 := hf 0 _ rfl
    have e1 : DataW.trod enc Tryz.prog w 0 (fun _ => true) held n' 3 ((cs.drop 1).take (Tryz.prog.cellsOf 3)) = some x1 := hf 1 _ rfl
    have e2 : DataW.trod enc Tryz.prog w 0 (fun _ => true) held n' 3 ((cs.drop 2).take (Tryz.prog.cellsOf 3)) = some x2 := hf 2 _ rfl
    have e3 : DataW.trod enc Tryz.prog w 0 (fun _ => true) held n' 23 ((cs.drop 3).take (Tryz.prog.cellsOf 23)) = some x3 := hf 3 _ rfl
    have e4 : DataW.trod enc Tryz.prog w 0 (fun _ => true) held n' 23 ((cs.drop 11).take (Tryz.prog.cellsOf 23)) = some x4 := hf 4 _ rfl
    have e5 : DataW.trod enc Tryz.prog w 0 (fun _ => true) held n' 50 ((cs.drop 19).take (Tryz.prog.cellsOf 50)) = some x5 := hf 5 _ rfl
    have e6 : DataW.trod enc Tryz.prog w 0 (fun _ => true) held n' 55 ((cs.drop 20).take (Tryz.prog.cellsOf 55)) = some x6 := hf 6 _ rfl
    rw [cI] at e0 e1 e2
    rw [cHs] at e3 e4
    rw [cSO] at e5
    rw [cSS] at e6
    obtain ⟨z0, h0, _, _⟩ := DataW.trod_int Tryz.underlying3 e0
    obtain ⟨z1, h1, _, _⟩ := DataW.trod_int Tryz.underlying3 e1
    obtain ⟨z2, h2, _, _⟩ := DataW.trod_int Tryz.underlying3 e2
    obtain ⟨en, h3⟩ := hs_trod e3
    obtain ⟨ro, h4⟩ := hs_trod e4
    obtain ⟨a, c, l, h5, hs⟩ := rows_trod OutD.c 9 (by decide) OutD.len Tryz.underlying50 (e := 164) (by kernel_rfl) (fun n cs x _ h => out_trod h) e5
    obtain ⟨a', c', l', h6, hs'⟩ := rows_trod SgD.c 282 (by decide) SgD.len Tryz.underlying55 (e := 188) (by kernel_rfl) (fun n cs x _ h => sd_trod h) e6
    refine ⟨⟨z0, z1, z2, en, ro, l, l'⟩, a, c, a', c', ?_, hs, hs'⟩
    have hend : cs.drop 21 = [] := List.drop_of_length_le (by omega)
    show cs = .int .i64 z0 :: .int .i64 z1 :: .int .i64 z2 :: (u8s en.1 ++ (u8s ro.1 ++ [.slice a l.length c, .slice a' l'.length c']))
    calc cs = cs.drop 0 := rfl
      _ = _ := by
        rw [cut_at cs 0 1, cut_at cs (0 + 1) 1, cut_at cs (0 + 1 + 1) 1, cut_at cs (0 + 1 + 1 + 1) 8, cut_at cs (0 + 1 + 1 + 1 + 8) 8, cut_at cs (0 + 1 + 1 + 1 + 8 + 8) 1, cut_at cs (0 + 1 + 1 + 1 + 8 + 8 + 1) 1, h0, h1, h2, h3, h4, h5, h6, hend]
        rfl
end Go.Proofs.YtfoeakgnkfcbjaaGreatDoor
end
section
/- Arguments that are blocks, floats. -/
namespace Go.Vc
open Go Go.Sha Go.ChangeShapes Go.WideShapes Go.ChangeAt Go.RowKit Go.Deep
section
variable {H : Type} {enc : TypeId × Value → H} {P : Program}
/-- A slice of records among the cells of an argument. -/
theorem rows_trodP {α : Type} [Inhabited α] (Pr : α → Prop) (c : α → List Value) (sz : Nat) (hsz : 0 < sz) (hcl : ∀ a, (c a).length = sz) {w : World} {t e fuel : Nat} {held : Bool} {cs0 : List Value} {x : DataW H × List MemPlace} (hu : P.underlying t = some (.slice e)) (hc : P.cellsOf e = sz)
    (hf : ∀ n cs x, cs.length = sz → DataW.trod enc P w 0 (fun _ => true) held n e cs = some x → ∃ a, cs = c a ∧ Pr a)
    (h : DataW.trod enc P w 0 (fun _ => true) held fuel t cs0 = some x) : ∃ (a : Option Addr) (cap : Nat) (l : List α), cs0 = [.slice a l.length cap] ∧ SrcW w sz (.slice a l.length cap) l.length (rws c l) ∧ ∀ y ∈ l, Pr y := by
  rcases open_slice hu h with ⟨rfl, _⟩ | ⟨a, len, cap, m, n', D, Pl, rfl, _, hlc, hml, hmm, hxd, hx⟩
  · exact ⟨none, 0, [], rfl, .nil, fun y hy => by cases hy⟩
  · rw [if_pos rfl] at hmm
    subst hmm
    rw [hc] at hx
    have hex : ∀ i, i < len → ∃ y : α, Pr y ∧ ∀ j, j < sz → w.cell? (a.add (i * sz + j)) = (c y)[j]? := by
      intro i hi
      obtain ⟨cs', h1, h2⟩ := hx i (by omega)
      obtain ⟨_, hlen, hcell⟩ := World.cells?_some h1
      obtain ⟨y, rfl, hp⟩ := hf _ _ _ (by rw [hlen]) h2
      exact ⟨y, hp, fun j hj => by rw [← add_add]; exact hcell j hj⟩
    obtain ⟨F, hF⟩ := choose_lt hex
    have hlen : ((List.range len).map F).length = len := by simp
    refine ⟨some a, _, (List.range len).map F, by rw [hlen], ?_, fun y hy => by
      obtain ⟨i, hi, rfl⟩ := List.mem_map.1 hy
      exact (hF i (List.mem_range.1 hi)).1⟩
    rw [hlen]
    refine .at a _ _ _ (by rw [rws_len hcl, hlen]) hlc fun j u hj => ?_
    have hjl : j < len * sz := by
      have := (List.getElem?_eq_some_iff.1 hj).1
      rwa [rws_len hcl, hlen] at this
    have hi : j / sz < len := (Nat.div_lt_iff_lt_mul hsz).2 hjl
    have h2 := Nat.mod_lt j hsz
    have h3 := (hF (j / sz) hi).2 (j % sz) h2
    have h4 : j / sz * sz + j % sz = j := by rw [Nat.mul_comm]; exact Nat.div_add_mod j sz
    rw [h4] at h3
    rw [h3]
    have h5 : (c (F (j / sz)))[j % sz]? = some ((c (F (j / sz)))[j % sz]'(by rw [hcl]; exact h2)) := List.getElem?_eq_getElem _
    have h6 := rws_at hcl (l := (List.range len).map F) (i := j / sz) (s := F (j / sz)) (by simp [hi]) (j % sz) _ h5
    rw [h4, hj] at h6
    rw [h5, Option.some.inj h6]
theorem trod_float {w : World} {n : Nat} {held : Bool} {t : TypeId} {k : FloatKind} {v : Value} {x : DataW H × List MemPlace} (ht : P.underlying t = some (.float k)) (hf : DataW.trod enc P w 0 (fun _ => true) held n t [v] = some x) : ∃ b, v = .float k b ∧ (Lit.float k b).wf = true := by
  cases n with
  | zero => simp [DataW.trod] at hf
  | succ n =>
    simp only [DataW.trod, ht] at hf
    cases v <;> simp_all
theorem flt_lt {b : Nat} (h : (Lit.float .f64 b).wf = true) : b < 18446744073709551616 := by
  unfold Lit.wf at h
  exact of_decide_eq_true h
end
end Go.Vc
namespace Go.Proofs.YtfoeakgnkfcbjaaGreatDoor
open Go Go.Vc Go.Sha Go.ChangeShapes Go.WideShapes Go.ChangeAt Go.RowKit Go.Deep
set_option maxRecDepth 10000
variable {H : Type} {enc : TypeId × Value → H}
/-- The cells of a transaction. -/
theorem tx_trod {w : World} {n : Nat} {held : Bool} {cs : List Value} {x : DataW H × List MemPlace} (h : DataW.trod enc Tryz.prog w 0 (fun _ => true) held n 64 cs = some x) : ∃ (t : TxD) (u : TxV), cs = txC t u ∧ TxAt w t u := by
  obtain ⟨xs, n', _, _, hlen, hxl, hf⟩ := DataW.trod_struct Tryz.underlying64 h
  rw [cTx] at hlen
  match xs, hxl with
  | [x0, x1, x2, x3, x4, x5, x6, x7], _ =>
    have e0 : DataW.trod enc Tryz.prog w 0 (fun _ => true) held n' 3 ((cs.drop 0).take (Tryz.prog.cellsOf 3)) = some x0 := hf 0 _ rfl
    have e1 : DataW.trod enc Tryz.prog w 0 (fun _ => true) held n' 3 ((cs.drop 1).take (Tryz.prog.cellsOf 3)) = some x1 := hf 1 _ rfl
    have e2 : DataW.trod enc Tryz.prog w 0 (fun _ => true) held n' 49 ((cs.drop 2).take (Tryz.prog.cellsOf 49)) = some x2 := hf 2 _ rfl
    have e3 : DataW.trod enc Tryz.prog w 0 (fun _ => true) held n' 50 ((cs.drop 3).take (Tryz.prog.cellsOf 50)) = some x3 := hf 3 _ rfl
    have e4 : DataW.trod enc Tryz.prog w 0 (fun _ => true) held n' 51 ((cs.drop 4).take (Tryz.prog.cellsOf 51)) = some x4 := hf 4 _ rfl
    have e5 : DataW.trod enc Tryz.prog w 0 (fun _ => true) held n' 54 ((cs.drop 5).take (Tryz.prog.cellsOf 54)) = some x5 := hf 5 _ rfl
    have e6 : DataW.trod enc Tryz.prog w 0 (fun _ => true) held n' 57 ((cs.drop 9).take (Tryz.prog.cellsOf 57)) = some x6 := hf 6 _ rfl
    have e7 : DataW.trod enc Tryz.prog w 0 (fun _ => true) held n' 62 ((cs.drop 30).take (Tryz.prog.cellsOf 62)) = some x7 := hf 7 _ rfl
    rw [cI] at e0 e1
    rw [cSI] at e2
    rw [cSO] at e3
    rw [cSF] at e4
    rw [cPr] at e5
    rw [cCe] at e6
    rw [cCl] at e7
    obtain ⟨z0, h0, _, _⟩ := DataW.trod_int Tryz.underlying3 e0
    obtain ⟨z1, h1, _, _⟩ := DataW.trod_int Tryz.underlying3 e1
    obtain ⟨a2, c2, l2, h2, s2⟩ := rows_trod InD.c 298 (by decide) InD.len Tryz.underlying49 (e := 173) (by kernel_rfl) (fun n cs x _ h => in_trod h) e2
    obtain ⟨a3, c3, l3, h3, s3⟩ := rows_trod OutD.c 9 (by decide) OutD.len Tryz.underlying50 (e := 164) (by kernel_rfl) (fun n cs x _ h => out_trod h) e3
    obtain ⟨a4, c4, l4, h4, s4⟩ := rows_trod FoD.c 11 (by decide) FoD.len Tryz.underlying51 (e := 177) (by kernel_rfl) (fun n cs x _ h => fo_trod h) e4
    obtain ⟨p, a5, c5, h5, s5⟩ := pr_trod e5
    obtain ⟨e, a6, c6, a7, c7, h6, s6, s7⟩ := ce_trod e6
    obtain ⟨l, h7⟩ := cl_trod e7
    refine ⟨⟨z0, z1, l2, l3, l4, p, e, l⟩, ⟨a2, c2, a3, c3, a4, c4, a5, c5, a6, c6, a7, c7⟩, ?_, s2, s3, s4, at_ks s5, s6, s7⟩
    have hend : cs.drop 170 = [] := List.drop_of_length_le (by omega)
    have hall : cs = txC ⟨z0, z1, l2, l3, l4, p, e, l⟩ ⟨a2, c2, a3, c3, a4, c4, a5, c5, a6, c6, a7, c7⟩ := by
      show cs = .int .i64 z0 :: .int .i64 z1 :: .slice a2 l2.length c2 :: .slice a3 l3.length c3 :: .slice a4 l4.length c4 :: (prC p (.slice a5 p.ks.length c5) ++ (ceC e (.slice a6 e.os.length c6) (.slice a7 e.sg.length c7) ++ l.c))
      calc cs = cs.drop 0 := rfl
        _ = _ := by
          rw [cut_at cs 0 1, cut_at cs (0 + 1) 1, cut_at cs (0 + 1 + 1) 1, cut_at cs (0 + 1 + 1 + 1) 1, cut_at cs (0 + 1 + 1 + 1 + 1) 1, cut_at cs (0 + 1 + 1 + 1 + 1 + 1) 4, cut_at cs (0 + 1 + 1 + 1 + 1 + 1 + 4) 21, cut_at cs (0 + 1 + 1 + 1 + 1 + 1 + 4 + 21) 140, h0, h1, h2, h3, h4, h5, h6, h7, hend, List.append_nil]
          rfl
    exact hall
theorem cBk : Tryz.prog.cellsOf 27 = 10 := by kernel_rfl
theorem cFl : Tryz.prog.cellsOf 24 = 1 := by kernel_rfl
theorem cST : Tryz.prog.cellsOf 25 = 1 := by kernel_rfl
instance : Inhabited TxP := ⟨(TxD.nul 0, TxV.z)⟩
def BkV.nil0 : BkV := ⟨By.z 8, 0, by decide, []⟩
/-- A block as argument. -/
theorem bk_arg {w : World} {b0 : Nat} {r : Reach} {held : Bool} {v : Value} {d : DataW H} {ps : List MemPlace} (hval : Value.okWide Tryz.prog w r b0 27 v) (h : DataW.Trod enc Tryz.prog w 0 (fun _ => true) held 27 v d ps) : ∃ (b : BkV) (a : Option Addr) (c : Nat), v = .agg (bkC b a c).toArray ∧ BkAt w b a c := by
  unfold Value.okWide at hval
  rw [Tryz.underlying27] at hval
  obtain ⟨ca, rfl, hs, _⟩ := hval
  obtain ⟨n, h⟩ := h
  obtain ⟨xs, n', _, _, hlen, hxl, hf⟩ := DataW.trod_struct Tryz.underlying27 h
  obtain ⟨cs, hcs⟩ : ∃ cs, cs = (Value.agg ca).cells.toList := ⟨_, rfl⟩
  rw [← hcs] at hlen hf
  rw [cBk] at hlen
  match xs, hxl with
  | [x0, x1, x2], _ =>
    have e0 : DataW.trod enc Tryz.prog w 0 (fun _ => true) held n' 23 ((cs.drop 0).take (Tryz.prog.cellsOf 23)) = some x0 := hf 0 _ rfl
    have e1 : DataW.trod enc Tryz.prog w 0 (fun _ => true) held n' 24 ((cs.drop 8).take (Tryz.prog.cellsOf 24)) = some x1 := hf 1 _ rfl
    have e2 : DataW.trod enc Tryz.prog w 0 (fun _ => true) held n' 25 ((cs.drop 9).take (Tryz.prog.cellsOf 25)) = some x2 := hf 2 _ rfl
    rw [cHs] at e0
    rw [cFl] at e1
    rw [cST] at e2
    obtain ⟨pv, h0⟩ := hs_trod e0
    obtain ⟨v1, hv1⟩ : ∃ v1, (cs.drop 8).take 1 = [v1] := by
      have : ((cs.drop 8).take 1).length = 1 := by rw [List.length_take, List.length_drop]; omega
      match (cs.drop 8).take 1, this with
      | [q], _ => exact ⟨q, rfl⟩
    rw [hv1] at e1
    obtain ⟨x, rfl, hw⟩ := trod_float Tryz.underlying24 e1
    obtain ⟨a, c, l, h2, hs2, ht⟩ := rows_trodP (fun q : TxP => TxAt w q.1 q.2) txR 170 (by decide) txR_len Tryz.underlying25 cTx (fun n cs x _ h => by
      obtain ⟨t, u, rfl, hu⟩ := tx_trod h
      exact ⟨(t, u), rfl, hu⟩) e2
    refine ⟨⟨pv, x, flt_lt hw, l⟩, a, c, ?_, hs2, ht⟩
    have hend : cs.drop 10 = [] := List.drop_of_length_le (by omega)
    have hall : cs = bkC ⟨pv, x, flt_lt hw, l⟩ a c := by
      show cs = u8s pv.1 ++ [.float .f64 x, .slice a l.length c]
      calc cs = cs.drop 0 := rfl
        _ = _ := by
          rw [cut_at cs 0 8, cut_at cs (0 + 8) 1, cut_at cs (0 + 8 + 1) 1, h0, hv1, h2, hend]
          rfl
    rw [← hall, hcs]
    rfl
end Go.Proofs.YtfoeakgnkfcbjaaGreatDoor
end
