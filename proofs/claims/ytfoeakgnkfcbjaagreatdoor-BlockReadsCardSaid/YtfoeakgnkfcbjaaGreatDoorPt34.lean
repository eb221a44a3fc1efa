/- Lemmas. -/
import Derived.ChangeStays
import Derived.ChangeOld
import Derived.ChangeSame
import Derived.RowKit
import Derived.OpenShut
import Derived.ProofKit
import Derived.Deep.DeepHandedRow
import GoSem.ClaimSeven
import Derived.Deep.Slices
import Derived.Test.YtfoeakgnkfcbjaaGreatDoorCards
import Derived.Test.YtfoeakgnkfcbjaaGreatDoorTie
import Derived.WalkKit
import Derived.Lib.LaidTab
import Derived.Test.YtfoeakgnkfcbjaaGreatDoorPt33
set_option linter.unusedSimpArgs false
set_option linter.unusedVariables false
section
/- block: BlockReads. -/
namespace Go.Proofs.YtfoeakgnkfcbjaaGreatDoor
attribute [local irreducible] Go.Vc.Run Go.Vc.RC Go.Vc.RQ Go.Vc.DR Go.Vc.DOp Go.Vc.Knows Go.Vc.At
set_option maxHeartbeats 400000
set_option maxRecDepth 10000
open Go Go.Vc Go.Sha
theorem dk_ok {l : List Nat} (h : dkE l = 0) : MayB (dkB l) ∧ bkB (dkB l) = l := by
  unfold dkE at h
  unfold dkB
  rcases hp : pBk l with _ | ⟨⟨p, q, rows⟩, r⟩
  · rw [hp] at h; cases h
  · rw [hp] at h
    dsimp only at h ⊢
    by_cases hc : r = [] ∧ MayB (kOf p q rows) ∧ bkB (kOf p q rows) = l
    · rw [if_pos hc]; exact hc.2
    · rw [if_neg hc] at h; cases h
theorem dk_nz {l : List Nat} (h : dkE l ≠ 0) : dkB l = BkV.nul := by
  unfold dkE at h
  unfold dkB
  rcases hp : pBk l with _ | ⟨⟨p, q, rows⟩, r⟩
  · rfl
  · rw [hp] at h
    dsimp only at h ⊢
    by_cases hc : r = [] ∧ MayB (kOf p q rows) ∧ bkB (kOf p q rows) = l
    · rw [if_pos hc] at h; exact absurd rfl h
    · rw [if_neg hc]
set_option maxRecDepth 10000 in set_option maxHeartbeats 4000000 in
theorem BlockReads_calls (l : List Nat) (hb : Bt l) (v : Value) (w : World) (hs : SrcW w 1 v l.length (u8s l)) (hK : Laid w) : Gives Tryz.prog 6 [v] (.bool true) w := by
  refine enter Tryz.func6 rfl (Mem.nil w []) rfl ?_
  have ca : Knows Tryz.prog w 9 [] (.bool true) := Knows.mk Tryz.func9 (fun w' hf => awake17_calls w' (hK.fr hf (by simp)))
  obtain ⟨a, c, rfl, hc⟩ := hs.shape
  by_cases hl : l.length ≤ 30000
  rotate_left
  · refine x_ ?_
    exact RQ.ret1 rfl (Res.tmp rfl) fun w' hm => ⟨rfl, hm.fr⟩
  have d1 := fun w' (hf : Fr [] w w') => DecBk_calls l (by omega) hb _ w' (hs.fr hf)
  have d2 := fun w' (hf : Fr [] w w') => RDecBk_calls l (by omega) hb _ w' (hs.fr hf)
  have hok := dk_ok (l := l)
  have hnz := dk_nz (l := l)
  obtain ⟨e, he⟩ : ∃ e, e = dkE l := ⟨_, rfl⟩
  rw [← he] at d1 d2 hok hnz
  refine x_ ?_
  have hz0 : ([] : Hp).Perm ([] ++ []) := List.Perm.refl _
  refine Run.op1 (OpTo.callT Tryz.func17 hz0 (fun w' hm => d1 w' hm.fr)) ?_
  intro y3
  have g3 : (bkC y3.b y3.a y3.c).toArray.size = 10 := by rw [List.size_toArray, bkC_len]
  have o3 := bkC_one y3.b y3.a y3.c
  have r8 := bk_r8 y3.b y3.a y3.c
  have r9 := bk_r9 y3.b y3.a y3.c
  refine x_ ?_
  refine Run.nw nal ?_
  intro b3
  refine x_ ?_
  refine Run.op1 (osa (arr := ti27.zero.cells) (bkC y3.b y3.a y3.c).toArray o3 (hs := by exact g3)) (fun _ => ?_)
  refine x_ ?_
  have hz1 : ((b3, Obj.cells (bkC y3.b y3.a y3.c).toArray 27 (0, 0)) :: (y3.bl ++ []) : Hp).Perm ([] ++ ((b3, Obj.cells (bkC y3.b y3.a y3.c).toArray 27 (0, 0)) :: (y3.bl ++ []))) := List.Perm.refl _
  refine Run.op1 (OpTo.callT Tryz.func23 hz1 (fun w' hm => d2 w' hm.fr)) ?_
  intro y5
  have g5 : (bkC y5.b y5.a y5.c).toArray.size = 10 := by rw [List.size_toArray, bkC_len]
  have o5 := bkC_one y5.b y5.a y5.c
  have cE := fun w' h => EncBk_calls y3.b y3.ln y3.a y3.c w' h
  unfold EncK at cE
  have cS := fun w' h h' => RSameBk_calls y3.b y5.b y3.ln y5.ln y3.a y3.c y5.a y5.c w' h h'
  generalize bkC y3.b y3.a y3.c = F at g3 o3 r8 r9 cE cS ⊢
  generalize bkC y5.b y5.a y5.c = G at g5 o5 cS ⊢
  refine x_ ?_
  refine Run.nw nal ?_
  intro b5
  refine x_ ?_
  refine Run.op1 (osa (arr := ti27.zero.cells) G.toArray o5 (hs := by exact g5)) (fun _ => ?_)
  by_cases h0 : e = 0
  rotate_left
  · have hn := hnz h0
    have hw0 : y3.b.wk = 0 := by have := y3.key.w; rw [hn] at this; exact this
    have ht0 : y3.b.ts.length = 0 := by have := y3.key.len; rw [hn] at this; exact this
    rw [hw0] at r8
    rw [ht0] at r9
    refine x_ ?_
    refine Run.a Val.feql ?_
    rw [show (Ieee.double.order 0 0 == some .eq) = true from by decide +kernel]
    refine x_ ?_
    exact RQ.ret1 rfl (Res.tmp rfl) fun w' hm => ⟨rfl, hm.fr⟩
  subst h0
  obtain ⟨hm, hbb⟩ := hok rfl
  have hm3 : MayB y3.b := y3.key.may.2 hm
  have hm5 : MayB y5.b := y5.key.may.2 hm
  have hb3 : bkB y3.b = l := y3.key.by.trans hbb
  have hb5 : bkB y5.b = l := y5.key.by.trans hbb
  rw [show ebE y3.b = 0 from if_pos hm3] at cE
  rw [decide_eq_true (show SameK y3.b y5.b from ⟨hm3, hm5, hb3.trans hb5.symm⟩)] at cS
  refine x_ ?_
  have hz2 : ((b5, Obj.cells G.toArray 27 (0, 0)) :: (y5.bl ++ ((b3, Obj.cells F.toArray 27 (0, 0)) :: (y3.bl ++ []))) : Hp).Perm ([] ++ ((b5, Obj.cells G.toArray 27 (0, 0)) :: (y5.bl ++ ((b3, Obj.cells F.toArray 27 (0, 0)) :: (y3.bl ++ []))))) := List.Perm.refl _
  refine Run.op1 (OpTo.callT Tryz.func16 hz2 (fun w' hm => cE w' (y3.hat w' (fun q hq => hm.has q (by repeat (first | exact List.mem_append_left _ hq | exact hq | apply List.mem_append_right | apply List.mem_cons_of_mem)))))) ?_
  rintro ⟨⟨v7, l7⟩, h7⟩
  dsimp only at h7 ⊢
  rw [show wrB y3.b = l from (if_pos hm3).trans hb3] at h7
  refine x_ ?_
  refine Run.a (Val.bytesStr (a := l) tabOk rfl rfl rfl rfl rfl rfl rfl rfl (h7.src (fun q hq => (by repeat (first | exact List.mem_append_left _ hq | exact hq | apply List.mem_append_right | apply List.mem_cons_of_mem))))) ?_
  refine x_ ?_
  refine Run.a (Val.bytesStr (a := l) tabOk rfl rfl rfl rfl rfl rfl rfl rfl hs.src) ?_
  refine Run.a (Val.eq (Val.eqStr (a := l) (b := l) rfl rfl rfl hb hb) (show _ = Value.bool true from by rw [decide_eq_true rfl])) ?_
  refine x_ ?_
  refine Run.opG (Wanted.guard rfl rfl rfl rfl) (OpTo.cv Tryz.func24 (fun w' hm => cS w' (y3.hat w' (fun q hq => hm.has q (by repeat (first | exact List.mem_append_left _ hq | exact hq | apply List.mem_append_right | apply List.mem_cons_of_mem)))) (y5.hat w' (fun q hq => hm.has q (by repeat (first | exact List.mem_append_left _ hq | exact hq | apply List.mem_append_right | apply List.mem_cons_of_mem)))))) (fun _ => ?_)
  refine x_ ?_
  exact RQ.ret1 rfl (Res.tmp rfl) fun w' hm => ⟨rfl, hm.fr⟩
end Go.Proofs.YtfoeakgnkfcbjaaGreatDoor
end
section
/- From a walk to what the row asks: the arguments read as before, nothing old has turned. -/
namespace Go.Vc
open Go Go.ChangeShapes Go.WideShapes Go.ChangeAt Go.RowKit

/-- No slice's elements are nothing at all. -/
def slicesFull (P : Program) : Bool := (List.range P.types.size).all fun t => match P.underlying t with
  | some (.slice e) => Nat.blt 0 (P.cellsOf e)
  | _ => true
theorem slicesFull_spec {P : Program} (h : slicesFull P = true) {t e : TypeId} (ht : t < P.types.size) (hu : P.underlying t = some (.slice e)) : 0 < P.cellsOf e := by
  have := List.all_eq_true.1 h t (List.mem_range.2 ht)
  simp only [hu] at this
  simpa [Nat.blt_eq] using this

section
variable {H : Type} {enc : TypeId × Value → H} {P : Program}

theorem sameAt_below {w w' : World} (h : Below w.heap.size w w') {p : MemPlace} (hp : p.block < w.heap.size) : w.sameAt w' p := by
  cases p with
  | cell b o => 
    have := h.block b hp
    simp [World.sameAt, World.cell?, this]
  | map b =>
    have := h.block b hp
    simp [World.sameAt, this]

theorem trodAll_stay (hl : laidOutB P = true) (hm : mapsRowed P = true) (hsl : slicesFull P = true) {w w' : World} (hb : Below w.heap.size w w') {sp : Nat → Bool} :
    ∀ (ts : List TypeId) (vs : List Value) (ds : List (DataW H)) (ps : List MemPlace), (∀ t ∈ ts, t < P.types.size) → DataW.TrodAll enc P w 0 (fun _ => true) true ts vs ds ps →
      (∀ p ∈ ps, p.block < w.heap.size) → (∀ p ∈ ps, sp p.block = true) → DataW.TrodAll enc P w' 0 sp true ts vs ds ps
  | [], vs, ds, ps, _, h, _, _ => by
    obtain ⟨rfl, rfl, rfl⟩ := trodAll_nil h
    exact trodAll_mk0
  | t :: ts, vs, ds, ps, ht, h, hlt, hs => by
    obtain ⟨v, vs', d, ds', p, q, rfl, rfl, rfl, ⟨n, h1⟩, h2⟩ := trodAll_cons h
    refine ⟨p, q, ⟨n, ?_⟩, trodAll_stay hl hm hsl hb ts vs' ds' q (fun t ht' => ht t (List.mem_cons_of_mem _ ht')) h2 (fun x hx => hlt x (List.mem_append_right _ hx)) (fun x hx => hs x (List.mem_append_right _ hx)), rfl⟩
    exact DataW.trod_stays (kids_rows hl hm) (fun h1 h2 => slicesFull_spec hsl h1 h2) (fun h => by cases h) (ht t List.mem_cons_self) h1
      (fun x hx => sameAt_below hb (hlt x (List.mem_append_left _ hx))) (fun x hx => hs x (List.mem_append_left _ hx))

/-- What a law's row asks behind a call that returns true and turns nothing old. -/
theorem post_true {f : Func} {s : ChangeSpec} {apart fresh handsOn : Bool} {W W' : World} {args : Array Value} {ds gs : List (DataW H)} {before : List MemPlace} {tb : TypeId}
    (hl : laidOutB P = true) (hm : mapsRowed P = true) (hsl : slicesFull P = true) (hts : f.params.toList.all (fun t => Nat.blt t P.types.size) = true) (hrt : f.resultTypes = #[tb]) (hub : P.underlying tb = some .bool)
    (hW : DataW.Whole enc P f.params.toList s.vars apart W args.toList ds gs before) (hv : s.vars = []) (hsr : (s.fn H ds).results = [.lit (.bool true)]) (hsa : (s.fn H ds).args = ds) (hsv : (s.fn H ds).vars = [])
    (hf : Fr [] W W') : s.post enc P f apart fresh handsOn false W args (.bool true) W' := by
  have hb := hf.below
  have hlt := hW.lt
  have hW' := hW
  obtain ⟨p, q, hA, hV, rfl, hz, hn⟩ := hW'
  rw [hv] at hV
  obtain ⟨rfl, rfl⟩ := trodVars_none hV
  have hts' : ∀ t ∈ f.params.toList, t < P.types.size := fun t ht => by simpa [Nat.blt_eq] using List.all_eq_true.1 hts t ht
  have hag : ∀ sp : Nat → Bool, (∀ x ∈ p ++ [], sp x.block = true) → DataW.TrodAll enc P W' 0 sp true f.params.toList args.toList ds p := fun sp hsp =>
    trodAll_stay hl hm hsl hb _ _ _ _ hts' hA (fun x hx => hlt x (List.mem_append_left _ hx)) (fun x hx => hsp x (List.mem_append_left _ hx))
  have hres : ∀ (b : Nat) (sp : Nat → Bool) (hd : Bool), DataW.TrodAll enc P W' b sp hd f.resultTypes.toList ((Value.bool true).resultList f.resultTypes.size) [.lit (.bool true)] [] := fun b sp hd => by
    rw [hrt]
    exact trodAll_cons_mk (shut_bool hub _) trodAll_mk0
  have hold : ∀ x ∈ p ++ [], (fun b => decide (b < W.heap.size)) x.block = true := fun x hx => by simpa using hlt x hx
  refine ⟨ds, [], p ++ [], [], p, [], hW, ?_, ?_, ?_, World.keptBut_mono (fun x hx => ⟨hx, ?_⟩) (hb.frame (· ∈ p ++ [])), fun h => by cases h⟩
  · rw [List.append_nil, hsr]; exact hres _ _ _
  · rw [List.append_nil, hsa]; exact hag _ hold
  · rw [List.append_nil, hsv, hv]; exact rfl
  · simpa using hx
end
end Go.Vc

/- Arguments that are bytes in arrays; what is laid. -/
namespace Go.Vc
open Go Go.Sha Go.ChangeShapes Go.WideShapes Go.ChangeAt Go.RowKit

def AllB (cs : List Value) : Prop := ∀ v ∈ cs, ∃ n : Nat, n < 256 ∧ v = .int .u8 n
theorem AllB.list : ∀ {cs : List Value}, AllB cs → ∃ l : List Nat, cs = u8s l ∧ ∀ x ∈ l, x < 256
  | [], _ => ⟨[], rfl, fun _ h => by cases h⟩
  | v :: cs, h => by
    obtain ⟨n, hn, rfl⟩ := h v List.mem_cons_self
    obtain ⟨l, rfl, hl⟩ := AllB.list (cs := cs) (fun v hv => h v (List.mem_cons_of_mem _ hv))
    exact ⟨n :: l, rfl, fun x hx => by
      rcases List.mem_cons.1 hx with rfl | hx
      · exact hn
      · exact hl x hx⟩
section
variable {H : Type} {enc : TypeId × Value → H} {P : Program}
theorem params_plain {fn : Func} (h : fn.params.all (fun t => !P.wantsStandIn t) = true) (j : Nat) (t : TypeId) (ht : fn.params[j]? = some t) : P.wantsStandIn t = false := by
  have := Array.all_eq_true_iff_forall_mem.1 h t (Array.mem_of_getElem? ht)
  simpa using this
end
end Go.Vc

/- Arguments that are slices of bytes, slices of such, strings. -/
namespace Go.Vc
open Go Go.Sha Go.ChangeShapes Go.WideShapes Go.ChangeAt Go.RowKit Go.Deep
section
variable {H : Type} {enc : TypeId × Value → H} {P : Program}

/-- One cell that reads as a byte. -/
theorem byte_cell {w : World} {base n e : Nat} {sp : Nat → Bool} {held : Bool} {v : Value} {x : DataW H × List MemPlace} (he : P.underlying e = some (.int .u8)) (h : DataW.trod enc P w base sp held n e [v] = some x) : ∃ k : Nat, k < 256 ∧ v = .int .u8 k := by
  obtain ⟨z, hcs, _, hw⟩ := DataW.trod_int he h
  have hb := bounds_u8 hw
  cases hcs
  exact ⟨z.toNat, by omega, by rw [Int.toNat_of_nonneg hb.1]⟩

/-- A slice value that reads as data reads as bytes. -/
theorem slice_cell {w : World} {t e n : Nat} {held : Bool} {v : Value} {x : DataW H × List MemPlace} (hu : P.underlying t = some (.slice e)) (he : P.underlying e = some (.int .u8)) (hc : P.cellsOf e = 1)
    (h : DataW.trod enc P w 0 (fun _ => true) held n t [v] = some x) : ∃ (m : Nat) (l : List Nat), SrcW w 1 v m (u8s l) ∧ ∀ y ∈ l, y < 256 := by
  rcases open_slice1 hu hc h with ⟨h0, _⟩ | ⟨a, len, cap, m, n', V, D, Pl, h0, _, hl, _, hm, _, hx⟩
  · cases h0
    exact ⟨0, [], .nil, fun _ h => by cases h⟩
  · cases h0
    rw [if_pos rfl] at hm
    subst hm
    have hB : AllB ((List.range len).map V) := by
      intro v hv
      simp only [List.mem_map, List.mem_range] at hv
      obtain ⟨i, hi, rfl⟩ := hv
      exact byte_cell he (hx i (by omega)).2
    obtain ⟨l, hl', hb⟩ := hB.list
    have hlen : (u8s l).length = len := by rw [← hl']; simp
    refine ⟨len, l, .at a len _ (u8s l) (by rw [hlen, Nat.mul_one]) hl (fun j u hj => ?_), hb⟩
    have hjl : j < len := by rw [← hlen]; exact (List.getElem?_eq_some_iff.1 hj).1
    rw [← hl', List.getElem?_map, List.getElem?_range hjl] at hj
    cases hj
    exact (hx j (by omega)).1
/-- A slice of bytes as argument. -/
theorem slice_arg {w : World} {t e b0 : Nat} {r : Reach} {held : Bool} {v : Value} {d : DataW H} {ps : List MemPlace} (hu : P.underlying t = some (.slice e)) (he : P.underlying e = some (.int .u8)) (hc : P.cellsOf e = 1)
    (hval : Value.okWide P w r b0 t v) (h : DataW.Trod enc P w 0 (fun _ => true) held t v d ps) : ∃ (m : Nat) (l : List Nat), SrcW w 1 v m (u8s l) ∧ ∀ y ∈ l, y < 256 := by
  obtain ⟨a, len, cap, rfl⟩ := okWide_slice hu hval
  obtain ⟨n, h⟩ := h
  exact slice_cell hu he hc h
end
end Go.Vc

/- What is laid: hash.steps; closed facts of the program. -/
namespace Go.Proofs.YtfoeakgnkfcbjaaGreatDoor
open Go Go.Vc Go.Sha Go.ChangeShapes Go.WideShapes Go.ChangeAt Go.RowKit

theorem kLaidOut : laidOutB Tryz.prog = true := by kernel_rfl
theorem kMaps : mapsRowed Tryz.prog = true := by kernel_rfl
theorem kSlices : slicesFull Tryz.prog = true := by kernel_rfl
theorem kOwn : ownKnob Tryz.prog.godebug = Option.none := by kernel_rfl
theorem kTab : Tryz.prog.globalNamed "drawbridge/hash.steps" = some 1 := by kernel_rfl
theorem kTabType : (Tryz.prog.globals[1]?).map (·.type) = some 111 := by kernel_rfl
theorem kCellsT : Tryz.prog.cellsOf 111 = 64 := by kernel_rfl
theorem kCellsE : Tryz.prog.cellsOf 109 = 1 := by kernel_rfl
theorem kCellsB : Tryz.prog.cellsOf 5 = 1 := by kernel_rfl

/-- What the row's list gives. -/
theorem laid_of {W : World} (h : laidMet Tryz.prog [("drawbridge/hash.steps", Rows.laid_drawbridge_hash_steps)] W) : Laid W := fun i hi => by
  have h1 : Lib.TabIs Tryz.prog W "drawbridge/hash.steps" .u32 (K.map Int.ofNat) :=
    Lib.tabIs_of_head (rest := []) kTab kTabType Tryz.underlying111 Tryz.underlying109 kCellsE kCellsT h
  have := h1.cell kTab i (by rw [List.length_map, K_len]; exact hi)
  rw [this]
  have hk : i < K.length := by rw [K_len]; exact hi
  simp [List.getD_eq_getElem?_getD, hk]

/-- A world for the witness: the table holds what its initialiser lays. -/
noncomputable def laidWorld (os : Os) : World :=
  { World.holding Tryz.prog os ⟨#[], #[], []⟩ with heap := (World.holding Tryz.prog os ⟨#[], #[], []⟩).heap.modify 1 fun
      | .cells _ t frozen => .cells (u32s K).toArray t frozen
      | o => o }
end Go.Proofs.YtfoeakgnkfcbjaaGreatDoor
end
section
/- Arguments that are slices of hashes, arrays of numbers. -/
namespace Go.Vc
open Go Go.Sha Go.ChangeShapes Go.WideShapes Go.ChangeAt Go.RowKit Go.Deep
section
variable {H : Type} {enc : TypeId × Value → H} {P : Program}
end
end Go.Vc

/- Arguments that are slices of ints, of bools, and parameters. -/
namespace Go.Vc
open Go Go.Sha Go.ChangeShapes Go.WideShapes Go.ChangeAt Go.RowKit Go.Deep
section
variable {H : Type} {enc : TypeId × Value → H} {P : Program}
end
end Go.Vc
namespace Go.Proofs.YtfoeakgnkfcbjaaGreatDoor
open Go Go.Vc
end Go.Proofs.YtfoeakgnkfcbjaaGreatDoor
end
section
/- Arguments that are slices of records of numbers. -/
namespace Go.Vc
open Go Go.Sha Go.ChangeShapes Go.WideShapes Go.ChangeAt Go.RowKit Go.Deep
section
variable {H : Type} {enc : TypeId × Value → H} {P : Program}
end
end Go.Vc
end
section
/- Arguments that are transactions, signatures. -/
namespace Go.Vc
open Go Go.Sha Go.ChangeShapes Go.WideShapes Go.ChangeAt Go.RowKit Go.Deep
section
variable {H : Type} {enc : TypeId × Value → H} {P : Program}
end
end Go.Vc
namespace Go.Proofs.YtfoeakgnkfcbjaaGreatDoor
open Go Go.Vc Go.Sha Go.ChangeShapes Go.WideShapes Go.ChangeAt Go.RowKit Go.Deep
set_option maxRecDepth 10000
variable {H : Type} {enc : TypeId × Value → H}
instance : Inhabited SigD := ⟨SigD.nul⟩
instance : Inhabited (By 8) := ⟨By.z 8⟩
instance : Inhabited InD := ⟨⟨By.z 8, 0, By.z 8, SigD.nul⟩⟩
instance : Inhabited OutD := ⟨⟨By.z 8, 0⟩⟩
instance : Inhabited FoD := ⟨⟨0, 0, By.z 8, 0⟩⟩
instance : Inhabited SgD := ⟨⟨0, SigD.nul⟩⟩
theorem cI : Tryz.prog.cellsOf 3 = 1 := by kernel_rfl
end Go.Proofs.YtfoeakgnkfcbjaaGreatDoor
end
section
/- Arguments that are blocks, floats. -/
namespace Go.Vc
open Go Go.Sha Go.ChangeShapes Go.WideShapes Go.ChangeAt Go.RowKit Go.Deep
section
variable {H : Type} {enc : TypeId × Value → H} {P : Program}
end
end Go.Vc
namespace Go.Proofs.YtfoeakgnkfcbjaaGreatDoor
open Go Go.Vc Go.Sha Go.ChangeShapes Go.WideShapes Go.ChangeAt Go.RowKit Go.Deep
set_option maxRecDepth 10000
variable {H : Type} {enc : TypeId × Value → H}
instance : Inhabited TxP := ⟨(TxD.nul 0, TxV.z)⟩
end Go.Proofs.YtfoeakgnkfcbjaaGreatDoor
end
