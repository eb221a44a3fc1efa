import Derived.Test.YtfhdfpejjgmdcaaGreatDoorVcV
import Derived.Test.YtfhdfpejjgmdcaaGreatDoorDigT
import Derived.Test.YtfhdfpejjgmdcaaGreatDoorDigZ
import Derived.Test.YtfhdfpejjgmdcaaGreatDoorVcS
set_option linter.unusedSimpArgs false
set_option linter.unusedVariables false
/- sparse: the plain law. -/
namespace Go.Sha
open Go.Vc
def Z8 : List Nat := List.replicate 8 0
/-- The node above two. -/
def overH (a b : List Nat) : List Nat := if a = Z8 ∧ b = Z8 then Z8 else digest 110 [a, b]
/-- A node, by the leaves. -/
def nodeF (F : Nat → List Nat) : Nat → Nat → List Nat
  | 0, j => F j
  | q + 1, j => overH (nodeF F q (2 * j)) (nodeF F q (2 * j + 1))
def H8 (h : List Nat) : Prop := h.length = 8 ∧ ∀ x ∈ h, x < 256
def okF (F : Nat → List Nat) : Prop := ∀ i, H8 (F i)
theorem H8.z : H8 Z8 := ⟨rfl, fun x hx => by rw [List.eq_of_mem_replicate hx]; decide⟩
theorem nodeF_same {F G : Nat → List Nat} : ∀ (q j : Nat), (∀ i, i / 2 ^ q = j → F i = G i) → nodeF F q j = nodeF G q j
  | 0, j, h => h j (by simp)
  | q + 1, j, h => by
    have key : ∀ c, c < 2 → nodeF F q (2 * j + c) = nodeF G q (2 * j + c) := fun c hc => nodeF_same q _ fun i hi => h i (by
      rw [Nat.pow_succ, ← Nat.div_div_eq_div_mul, hi]
      omega)
    show overH _ _ = overH _ _
    rw [show 2 * j = 2 * j + 0 from rfl, key 0 (by decide), key 1 (by decide)]
theorem nodeF_z : ∀ (q j : Nat), nodeF (fun _ => Z8) q j = Z8
  | 0, _ => rfl
  | q + 1, j => by
    show overH _ _ = _
    rw [nodeF_z q, nodeF_z q]
    exact if_pos ⟨rfl, rfl⟩
theorem nodeF_zero {F : Nat → List Nat} {q j : Nat} (h : ∀ i, i / 2 ^ q = j → F i = Z8) : nodeF F q j = Z8 := (nodeF_same q j h).trans (nodeF_z q j)
def updF (F : Nat → List Nat) (i : Nat) (h : List Nat) : Nat → List Nat := fun j => if j = i then h else F j
theorem nodeF_upd {F : Nat → List Nat} {i : Nat} {h : List Nat} {q j : Nat} (hj : j ≠ i / 2 ^ q) : nodeF (updF F i h) q j = nodeF F q j :=
  nodeF_same q j fun m hm => by
    unfold updF
    rw [if_neg]
    rintro rfl
    exact hj hm.symm
end Go.Sha
namespace Go.Vc
open Go Go.Sha
/-- A map that holds nothing twice, and no zeros. -/
structure MpOk (es : List MpE) (clock : Nat) : Prop where
  nd : (es.map fun x => (x.k, x.i)).Nodup
  nz : ∀ x ∈ es, x.h ≠ Z8
  h8 : ∀ x ∈ es, H8 x.h
  bn : ∀ x ∈ es, x.born < clock
  bd : (es.map (·.born)).Nodup
theorem mpAt_none {k i : Nat} : ∀ {es : List MpE} {j : Nat}, mpAt k i es j = none → ∀ x ∈ es, ¬ (x.k = k ∧ x.i = i)
  | [], _, _, x, hx => by cases hx
  | y :: es, j, h, x, hx => by
    unfold mpAt at h
    split at h
    · cases h
    · rename_i hy
      rcases List.mem_cons.1 hx with rfl | hx
      · exact hy
      · exact mpAt_none h x hx
theorem key_inj {es : List MpE} (nd : (es.map fun x => (x.k, x.i)).Nodup) {a b : Nat} {x y : MpE} (hx : es[a]? = some x) (hy : es[b]? = some y) (hk : x.k = y.k) (hi : x.i = y.i) : a = b := by
  obtain ⟨h1, e1⟩ := List.getElem?_eq_some_iff.1 hx
  obtain ⟨h2, e2⟩ := List.getElem?_eq_some_iff.1 hy
  have l1 : a < (es.map fun x => (x.k, x.i)).length := by rw [List.length_map]; exact h1
  have l2 : b < (es.map fun x => (x.k, x.i)).length := by rw [List.length_map]; exact h2
  exact (List.getElem_inj (h₀ := l1) (h₁ := l2) nd).1 (by simp [e1, e2, hk, hi])
theorem mpGet_mem {es : List MpE} (nd : (es.map fun x => (x.k, x.i)).Nodup) {x : MpE} (hx : x ∈ es) : mpGet x.k x.i es = x.h := by
  unfold mpGet
  cases h : mpAt x.k x.i es 0 with
  | none => exact absurd ⟨rfl, rfl⟩ (mpAt_none h x hx)
  | some p =>
    obtain ⟨_, h2, h3, h4⟩ := mpAt_some (x := p.2) (j' := p.1) h
    rw [Nat.sub_zero] at h2
    obtain ⟨a, ha⟩ := List.mem_iff_getElem?.1 hx
    have e := key_inj nd ha h2 h3.symm h4.symm
    subst e
    rw [ha] at h2
    cases h2
    rfl
theorem mpGet_no {k i : Nat} {es : List MpE} (h : ∀ x ∈ es, ¬ (x.k = k ∧ x.i = i)) : mpGet k i es = Z8 := by
  unfold mpGet
  cases hm : mpAt k i es 0 with
  | none => rfl
  | some p =>
    obtain ⟨_, h2, h3⟩ := mpAt_some (x := p.2) (j' := p.1) hm
    exact absurd h3 (h _ (List.mem_of_getElem? h2))
theorem mpGet_h8 {es : List MpE} {clock : Nat} (ok : MpOk es clock) (k i : Nat) : H8 (mpGet k i es) := by
  by_cases h : ∃ x ∈ es, x.k = k ∧ x.i = i
  · obtain ⟨x, hx, rfl, rfl⟩ := h
    rw [mpGet_mem ok.nd hx]
    exact ok.h8 x hx
  · rw [mpGet_no fun x hx hk => h ⟨x, hx, hk⟩]
    exact H8.z
/-- Two maps, of which one holds what the other holds but for one key. -/
theorem mpGet_but {es es' : List MpE} (nd : (es.map fun x => (x.k, x.i)).Nodup) (nd' : (es'.map fun x => (x.k, x.i)).Nodup) {k i : Nat} (h : ∀ x, ¬ (x.k = k ∧ x.i = i) → (x ∈ es' ↔ x ∈ es)) {k' i' : Nat} (hne : ¬ (k' = k ∧ i' = i)) : mpGet k' i' es' = mpGet k' i' es := by
  by_cases hx : ∃ x ∈ es, x.k = k' ∧ x.i = i'
  · obtain ⟨x, hx, rfl, rfl⟩ := hx
    rw [mpGet_mem nd hx, mpGet_mem nd' ((h x hne).2 hx)]
  · rw [mpGet_no fun x hx' hk => hx ⟨x, hx', hk⟩, mpGet_no fun x hx' hk => hx ⟨x, (h x (by rw [hk.1, hk.2]; exact hne)).1 hx', hk⟩]
/-- What a key is set to; nothing, where it is zeros. -/
def mpSet (k i : Nat) (h : List Nat) (es : List MpE) (clock : Nat) : List MpE × Nat := if h = Z8 then (mpDel k i es, clock) else mpUpd k i h es clock
theorem mem_set_other {es : List MpE} {j : Nat} {x v y : MpE} (hx : es[j]? = some x) (hy : y ≠ x) (hv : y ≠ v) : y ∈ es.set j v ↔ y ∈ es := by
  constructor
  · intro h
    rcases List.mem_or_eq_of_mem_set h with h | h
    · exact h
    · exact absurd h hv
  · intro h
    obtain ⟨a, ha⟩ := List.mem_iff_getElem?.1 h
    have : j ≠ a := by
      rintro rfl
      rw [hx] at ha
      exact hy (Option.some.inj ha).symm
    exact List.mem_iff_getElem?.2 ⟨a, by rw [List.getElem?_set_ne this]; exact ha⟩
theorem mpSet_ok {k i : Nat} {h : List Nat} (hh : H8 h) {es : List MpE} {clock : Nat} (ok : MpOk es clock) : MpOk (mpSet k i h es clock).1 (mpSet k i h es clock).2 ∧ ∀ k' i', mpGet k' i' (mpSet k i h es clock).1 = if k' = k ∧ i' = i then h else mpGet k' i' es := by
  unfold mpSet
  by_cases hz : h = Z8
  · rw [if_pos hz]
    unfold mpDel
    cases hm : mpAt k i es 0 with
    | none =>
      refine ⟨ok, fun k' i' => ?_⟩
      dsimp only
      by_cases e : k' = k ∧ i' = i
      · rw [if_pos e]
        rw [e.1, e.2, hz]
        exact mpGet_no (mpAt_none hm)
      · rw [if_neg e]
    | some p =>
      obtain ⟨j, x⟩ := p
      obtain ⟨_, hx, hk, hi⟩ := mpAt_some hm
      rw [Nat.sub_zero] at hx
      have hsub : (es.eraseIdx j).Sublist es := List.eraseIdx_sublist _ _
      have nd' : ((es.eraseIdx j).map fun x => (x.k, x.i)).Nodup := ok.nd.sublist (hsub.map _)
      have hmem : ∀ y, y ∈ es.eraseIdx j ↔ y ∈ es ∧ ¬ (y.k = k ∧ y.i = i) := by
        intro y
        rw [List.mem_eraseIdx_iff_getElem?]
        constructor
        · rintro ⟨a, ha, hy⟩
          refine ⟨List.mem_of_getElem? hy, fun e => ha (key_inj ok.nd hy hx (by rw [hk, e.1]) (by rw [hi, e.2]))⟩
        · rintro ⟨hy, hne⟩
          obtain ⟨a, ha⟩ := List.mem_iff_getElem?.1 hy
          refine ⟨a, ?_, ha⟩
          rintro rfl
          rw [hx] at ha
          cases ha
          exact hne ⟨hk, hi⟩
      refine ⟨⟨nd', fun y hy => ok.nz y (hsub.subset hy), fun y hy => ok.h8 y (hsub.subset hy), fun y hy => ok.bn y (hsub.subset hy), ok.bd.sublist (hsub.map _)⟩, fun k' i' => ?_⟩
      dsimp only
      by_cases e : k' = k ∧ i' = i
      · rw [if_pos e]
        rw [e.1, e.2, hz]
        exact mpGet_no fun y hy => ((hmem y).1 hy).2
      · rw [if_neg e]
        exact mpGet_but ok.nd nd' (fun y hy => by rw [hmem y]; exact ⟨fun h => h.1, fun h => ⟨h, hy⟩⟩) e
  · rw [if_neg hz]
    unfold mpUpd
    cases hm : mpAt k i es 0 with
    | none =>
      have hno := mpAt_none hm
      have nd' : ((es ++ [(⟨k, i, h, clock⟩ : MpE)]).map fun x => (x.k, x.i)).Nodup := by
        rw [List.map_append, List.nodup_append]
        refine ⟨ok.nd, by simp, fun a ha b hb => ?_⟩
        obtain ⟨y, hy, rfl⟩ := List.mem_map.1 ha
        rw [List.map_cons, List.map_nil, List.mem_singleton] at hb
        subst hb
        intro e
        exact hno y hy ⟨congrArg Prod.fst e, congrArg Prod.snd e⟩
      have hmem : ∀ y : MpE, y ∈ es ++ [(⟨k, i, h, clock⟩ : MpE)] ↔ y ∈ es ∨ y = ⟨k, i, h, clock⟩ := fun y => by rw [List.mem_append, List.mem_singleton]
      refine ⟨⟨nd', fun y hy => ?_, fun y hy => ?_, fun y hy => ?_, ?_⟩, fun k' i' => ?_⟩
      · rcases (hmem y).1 hy with hy | rfl
        · exact ok.nz y hy
        · exact hz
      · rcases (hmem y).1 hy with hy | rfl
        · exact ok.h8 y hy
        · exact hh
      · rcases (hmem y).1 hy with hy | rfl
        · exact Nat.lt_succ_of_lt (ok.bn y hy)
        · exact Nat.lt_succ_self _
      · rw [List.map_append, List.nodup_append]
        refine ⟨ok.bd, by simp, fun a ha b hb => ?_⟩
        obtain ⟨y, hy, rfl⟩ := List.mem_map.1 ha
        rw [List.map_cons, List.map_nil, List.mem_singleton] at hb
        subst hb
        exact Nat.ne_of_lt (ok.bn y hy)
      · dsimp only
        by_cases e : k' = k ∧ i' = i
        · rw [if_pos e, e.1, e.2]
          exact mpGet_mem nd' (x := ⟨k, i, h, clock⟩) ((hmem _).2 (.inr rfl))
        · rw [if_neg e]
          refine mpGet_but ok.nd nd' (k := k) (i := i) (fun y hy => ?_) e
          rw [hmem y]
          refine ⟨fun h => h.resolve_right ?_, .inl⟩
          rintro rfl
          exact hy ⟨rfl, rfl⟩
    | some p =>
      obtain ⟨j, x⟩ := p
      obtain ⟨_, hx, hk, hi⟩ := mpAt_some hm
      rw [Nat.sub_zero] at hx
      have hj := (List.getElem?_eq_some_iff.1 hx).1
      have hxe := (List.getElem?_eq_some_iff.1 hx).2
      have hxm := List.mem_of_getElem? hx
      have ekeys : (es.set j { x with h := h }).map (fun x => (x.k, x.i)) = es.map fun x => (x.k, x.i) := by
        rw [List.map_set]
        apply List.ext_getElem?
        intro m
        rw [List.getElem?_set]
        split
        · rename_i e
          subst e
          simp [hj, hxe]
        · rfl
      have eborn : (es.set j { x with h := h }).map (·.born) = es.map (·.born) := by
        rw [List.map_set]
        apply List.ext_getElem?
        intro m
        rw [List.getElem?_set]
        split
        · rename_i e
          subst e
          simp [hj, hxe]
        · rfl
      have nd' : ((es.set j { x with h := h }).map fun x => (x.k, x.i)).Nodup := by rw [ekeys]; exact ok.nd
      refine ⟨⟨nd', fun y hy => ?_, fun y hy => ?_, fun y hy => ?_, by rw [eborn]; exact ok.bd⟩, fun k' i' => ?_⟩
      · rcases List.mem_or_eq_of_mem_set hy with hy | rfl
        · exact ok.nz y hy
        · exact hz
      · rcases List.mem_or_eq_of_mem_set hy with hy | rfl
        · exact ok.h8 y hy
        · exact hh
      · rcases List.mem_or_eq_of_mem_set hy with hy | rfl
        · exact ok.bn y hy
        · exact ok.bn x hxm
      · dsimp only
        by_cases e : k' = k ∧ i' = i
        · rw [if_pos e, e.1, e.2]
          rw [← hk, ← hi]
          exact mpGet_mem nd' (x := { x with h := h }) (List.mem_iff_getElem?.2 ⟨j, by rw [List.getElem?_set_self hj]⟩)
        · rw [if_neg e]
          refine mpGet_but ok.nd nd' (k := k) (i := i) (fun y hy => mem_set_other hx ?_ ?_) e
          · rintro rfl; exact hy ⟨hk, hi⟩
          · rintro rfl; exact hy ⟨hk, hi⟩
end Go.Vc

/- sparse: over, in, set, New. -/
namespace Go.Vc
open Go Go.Sha
/-- A tree. -/
structure TrD (tT : TypeId) (tb mb : Nat) where
  es : List MpE
  clock : Nat
  ok : MpOk es clock
def TrD.L {tT : TypeId} {tb mb : Nat} (x : TrD tT tb mb) : Hp := [(tb, .cells #[.map (some mb)] tT (0, 0)), (mb, mpO x.es x.clock)]
/-- What a tree holds at a place. -/
def TrD.at {tT : TypeId} {tb mb : Nat} (x : TrD tT tb mb) (q j : Nat) : List Nat := mpGet q j x.es
end Go.Vc
namespace Go.Sha
theorem overH_8 {a b : List Nat} : H8 (overH a b) := by
  unfold overH
  split
  · exact H8.z
  · exact ⟨digest_len _ _, digest_lt _ _⟩
theorem nodeF_8 {F : Nat → List Nat} (h : okF F) : ∀ q j, H8 (nodeF F q j)
  | 0, j => h j
  | _ + 1, _ => overH_8
end Go.Sha
namespace Go.Proofs.YtfhdfpejjgmdcaaGreatDoor
attribute [local irreducible] Go.Vc.Run Go.Vc.RC Go.Vc.RQ Go.Vc.DR Go.Vc.DOp
open Go Go.Vc Go.Sha
abbrev Tr (tb mb : Nat) := TrD 103 tb mb
theorem mapTy : MapTy Tryz.prog 101 118 33 (.agg (u8s (List.replicate 8 0)).toArray) where
  hu := Tryz.underlying101
  ck := fun w em k i => run_checkKey_two Tryz.underlying118 (by decide) (by decide) Tryz.underlying3 Tryz.underlying3 rfl rfl 9998 w em k i
  ks := ⟨_, Tryz.underlying118⟩
  hk := by kernel_rfl
  hz := fun w => by
    obtain ⟨_, i, hi, _, _, hz⟩ := tabOk _ _ (show tiGet tab 33 = some _ from rfl)
    simp [zeroValue, typeInfo, hi, hz]
    rfl
set_option maxRecDepth 10000 in set_option maxHeartbeats 4000000 in
theorem over_calls (a b : List Nat) (ha : H8 a) (hb : H8 b) (w : World) (hK : Laid w) : Gives Tryz.prog 83 [.agg (u8s a).toArray, .agg (u8s b).toArray] (.agg (u8s (overH a b)).toArray) w := by
  refine enter Tryz.func83 rfl (Mem.nil w []) rfl ?_
  have ha8 := ha.1
  have hb8 := hb.1
  have sa : (u8s a).toArray.size = 8 := by rw [List.size_toArray, u8s_len, ha8]
  have sb : (u8s b).toArray.size = 8 := by rw [List.size_toArray, u8s_len, hb8]
  refine z_ ?_
  refine Run.nw nbx ?_
  intro b2
  refine Run.nw nbx ?_
  intro b3
  refine Run.nw nal ?_
  intro b4
  refine z_ ?_
  refine Run.a (vla (hv := sa)) ?_
  refine Run.op1 (OpTo.cv Tryz.func33 (fun w' _ => Zero_calls a ha8 w')) (fun _ => ?_)
  unfold overH
  by_cases h1 : a = Z8
  · have h1' : decide (a = List.replicate 8 0) = true := decide_eq_true h1
    rw [h1']
    refine z_ ?_
    refine Run.a (vla (hv := sb)) ?_
    refine Run.op1 (OpTo.cv Tryz.func33 (fun w' _ => Zero_calls b hb8 w')) (fun _ => ?_)
    by_cases h2 : b = Z8
    · have h2' : decide (b = List.replicate 8 0) = true := decide_eq_true h2
      rw [h2', if_pos ⟨h1, h2⟩]
      refine z_ ?_
      refine Run.a (vba (u8s Z8).toArray) ?_
      refine Run.op1 (osa (u8s Z8).toArray (u8s_one _)) (fun _ => ?_)
      refine z_ ?_
      exact RQ.ret1 rfl (Res.cellAll tabOk rfl rfl rfl m0 rfl) fun w' hm => ⟨rfl, hm.fr⟩
    · have h2' : decide (b = List.replicate 8 0) = false := decide_eq_false h2
      rw [h2', if_neg (fun h => h2 h.2)]
      have hd := digest_len 110 [a, b]
      have sd : (u8s (digest 110 [a, b])).toArray.size = 8 := by rw [List.size_toArray, u8s_len, hd]
      refine z_ ?_
      refine Run.a (vla (hv := sa)) ?_
      refine Run.a (vla (hv := sb)) ?_
      refine Run.op1 (OpTo.cv Tryz.func93 (fun w' hm => Two_calls 110 (by decide) a b ha8 hb8 ha.2 hb.2 w' (hK.fr hm.fr (by simp)))) (fun _ => ?_)
      refine Run.op1 (osa (u8s (digest 110 [a, b])).toArray (u8s_one _) (hs := sd)) (fun _ => ?_)
      refine z_ ?_
      exact RQ.ret1 rfl (Res.cellAll tabOk rfl rfl rfl m0 sd) fun w' hm => ⟨rfl, hm.fr⟩
  · have h1' : decide (a = List.replicate 8 0) = false := decide_eq_false h1
    rw [h1', if_neg (fun h => h1 h.1)]
    have hd := digest_len 110 [a, b]
    have sd : (u8s (digest 110 [a, b])).toArray.size = 8 := by rw [List.size_toArray, u8s_len, hd]
    refine z_ ?_
    refine Run.a (vla (hv := sa)) ?_
    refine Run.a (vla (hv := sb)) ?_
    refine Run.op1 (OpTo.cv Tryz.func93 (fun w' hm => Two_calls 110 (by decide) a b ha8 hb8 ha.2 hb.2 w' (hK.fr hm.fr (by simp)))) (fun _ => ?_)
    refine Run.op1 (osa (u8s (digest 110 [a, b])).toArray (u8s_one _) (hs := sd)) (fun _ => ?_)
    refine z_ ?_
    exact RQ.ret1 rfl (Res.cellAll tabOk rfl rfl rfl m0 sd) fun w' hm => ⟨rfl, hm.fr⟩
set_option maxRecDepth 10000 in set_option maxHeartbeats 4000000 in
theorem in_calls (i : Int) (w : World) : Gives Tryz.prog 75 [.int .i64 i] (.bool (decide (0 ≤ i ∧ i < 65536))) w := by
  refine enter Tryz.func75 rfl (Mem.nil w []) rfl ?_
  by_cases h0 : 0 ≤ i
  · refine z_ ?_
    exact RQ.ret1 rfl (Res.tmp rfl) fun w' hm => ⟨by simp only [h0, true_and]; rfl, hm.fr⟩
  · refine z_ ?_
    exact RQ.ret1 rfl (Res.tmp rfl) fun w' hm => ⟨by simp only [h0, false_and, decide_false]; rfl, hm.fr⟩
end Go.Proofs.YtfhdfpejjgmdcaaGreatDoor

/- sparse: set, New, Get, Root. -/
namespace Go.Proofs.YtfhdfpejjgmdcaaGreatDoor
attribute [local irreducible] Go.Vc.Run Go.Vc.RC Go.Vc.RQ Go.Vc.DR Go.Vc.DOp
open Go Go.Vc Go.Sha
set_option maxRecDepth 10000 in set_option maxHeartbeats 4000000 in
theorem TNew_calls (w : World) : Turns Tryz.prog 28 [] w [] (Y := Nat × Nat) (fun y => .pointer (some ⟨y.1, 0, none⟩)) (fun y => [(y.1, Obj.cells #[.map (some y.2)] 103 (0, 0)), (y.2, mpO [] 0)]) := by
  refine enter Tryz.func28 rfl (Mem.nil w []) rfl ?_
  refine z_ ?_
  refine Run.nw (New.makeMap2 rfl) ?_
  intro mb
  refine Run.a (vbs #[.map (some mb)]) ?_
  refine Run.nw nbx ?_
  intro tb
  refine z_ ?_
  exact RQ.ret1 rfl (Res.tmp rfl) fun w' hm => Turns.of (Y := Nat × Nat) (V := fun y => .pointer (some ⟨y.1, 0, none⟩)) (L' := fun y => [(y.1, Obj.cells #[.map (some y.2)] 103 (0, 0)), (y.2, mpO [] 0)]) (Lst := []) (tb, mb) hm (Lr := []) (List.Perm.refl _)
abbrev SetY (tb mb : Nat) (x : Tr tb mb) (q j : Nat) (h : List Nat) := {y : Tr tb mb // ∀ q' j', y.at q' j' = if q' = q ∧ j' = j then h else x.at q' j'}
def setY {tb mb : Nat} (x : Tr tb mb) (q j : Nat) (h : List Nat) (hh : H8 h) : SetY tb mb x q j h := ⟨⟨(mpSet q j h x.es x.clock).1, (mpSet q j h x.es x.clock).2, (mpSet_ok hh x.ok).1⟩, (mpSet_ok hh x.ok).2⟩
set_option maxRecDepth 10000 in set_option maxHeartbeats 4000000 in
theorem set_calls {tb mb : Nat} (x : Tr tb mb) (q j : Nat) (h : List Nat) (hh : H8 h) (w : World) (hw : Has x.L w) (hnd : (x.L.map (·.1)).Nodup) :
    Turns Tryz.prog 82 [.pointer (some ⟨tb, 0, none⟩), mkey q j, .agg (u8s h).toArray] w x.L (Y := SetY tb mb x q j h) (fun _ => .tuple #[]) (fun y => y.1.L) := by
  refine enter Tryz.func82 rfl (Mem.init (S0 := x.L.map (·.1)) hw (fun p hp => List.mem_map_of_mem hp) hnd) rfl ?_
  have h8 := hh.1
  have hsz : (u8s h).toArray.size = 8 := by rw [List.size_toArray, u8s_len, h8]
  refine z_ ?_
  refine Run.nw (nbx) ?_
  intro b4
  refine Run.nw nbx ?_
  intro b5
  refine z_ ?_
  refine Run.a (vla (hv := hsz)) ?_
  refine Run.op1 (OpTo.cv Tryz.func33 (fun w' _ => Zero_calls h h8 w')) (fun _ => ?_)
  by_cases hz : h = Z8
  · have hz' : decide (h = List.replicate 8 0) = true := decide_eq_true hz
    rw [hz']
    refine z_ ?_
    (repeat refine RC.seq ?_); refine RC.drawS mixed (N := 6) rfl ?_
    refine dt 0 ?_
    refine dt 1 ?_
    refine dt 2 ?_
    refine DR.t 3 rfl (vl (.map (some mb)) (arr := #[.map (some mb)]) (hm := (by repeat (first | exact List.mem_cons_self | apply List.mem_cons_of_mem | apply List.mem_append_right)))) ?_
    refine dt 4 ?_
    refine DR.c 5 ?_
    refine DOp.op1 rfl (OpTo.mapDel (k := q) (i := j) (es := x.es) (clock := x.clock) (L' := [(b5, Obj.cells (u8s h).toArray 33 (0, 0)), (b4, Obj.cells #[.int .i64 q, .int .i64 j] 118 (0, 0)), (tb, Obj.cells #[.map (some mb)] 103 (0, 0))]) mapTy rfl rfl rfl rfl (by unfold TrD.L; exact (perm_of fun f => by (simp only [List.map_append, List.map_cons, List.map_nil, List.sum_append, List.sum_cons, List.sum_nil] <;> omega)))) (fun _ => ?_)
    refine DR.done (by kernel_rfl) ?_
    refine z_ ?_
    refine RQ.ret0 rfl fun w' hm => Turns.of (Y := SetY tb mb x q j h) (V := fun _ => .tuple #[]) (L' := fun y => y.1.L) (Lst := x.L) (setY x q j h hh) hm (Lr := [(b5, Obj.cells (u8s h).toArray 33 (0, 0)), (b4, Obj.cells #[.int .i64 q, .int .i64 j] 118 (0, 0))]) ?_
    unfold setY TrD.L mpSet
    simp only [if_pos hz]
    exact (perm_of fun f => by (simp only [List.map_append, List.map_cons, List.map_nil, List.sum_append, List.sum_cons, List.sum_nil] <;> omega))
  · have hz' : decide (h = List.replicate 8 0) = false := decide_eq_false hz
    rw [hz']
    refine z_ ?_
    refine Run.a (Val.mapNil Tryz.underlying101 rfl rfl rfl) ?_
    refine z_ ?_
    (repeat refine RC.seq ?_); refine RC.drawS mixed (N := 7) rfl ?_
    refine dt 0 ?_
    refine dt 1 ?_
    refine dt 2 ?_
    refine DR.t 3 rfl (vl (.map (some mb)) (arr := #[.map (some mb)]) (hm := (by repeat (first | exact List.mem_cons_self | apply List.mem_cons_of_mem | apply List.mem_append_right)))) ?_
    refine dt 4 ?_
    refine DR.t 5 rfl (vla (hv := hsz)) ?_
    refine DR.c 6 ?_
    refine DOp.op1 rfl (OpTo.mapUpd (k := q) (i := j) (h := h) (es := x.es) (clock := x.clock) (L' := [(b5, Obj.cells (u8s h).toArray 33 (0, 0)), (b4, Obj.cells #[.int .i64 q, .int .i64 j] 118 (0, 0)), (tb, Obj.cells #[.map (some mb)] 103 (0, 0))]) mapTy rfl rfl rfl rfl rfl (by unfold TrD.L; exact (perm_of fun f => by (simp only [List.map_append, List.map_cons, List.map_nil, List.sum_append, List.sum_cons, List.sum_nil] <;> omega)))) (fun _ => ?_)
    refine DR.done (by kernel_rfl) ?_
    refine z_ ?_
    refine RQ.endN rfl fun w' hm => Turns.of (Y := SetY tb mb x q j h) (V := fun _ => .tuple #[]) (L' := fun y => y.1.L) (Lst := x.L) (setY x q j h hh) hm (Lr := [(b5, Obj.cells (u8s h).toArray 33 (0, 0)), (b4, Obj.cells #[.int .i64 q, .int .i64 j] 118 (0, 0))]) ?_
    unfold setY TrD.L mpSet
    simp only [if_neg hz]
    exact (perm_of fun f => by (simp only [List.map_append, List.map_cons, List.map_nil, List.sum_append, List.sum_cons, List.sum_nil] <;> omega))
set_option maxRecDepth 10000 in set_option maxHeartbeats 4000000 in
theorem TRoot_calls {tb mb : Nat} (x : Tr tb mb) (w : World) (hw : Has x.L w) :
    Gives Tryz.prog 59 [.pointer (some ⟨tb, 0, none⟩)] (.agg (u8s (x.at 16 0)).toArray) w := by
  refine enter Tryz.func59 rfl (Mem.nil w []) rfl ?_
  have hc : w.cell? ⟨tb, 0, none⟩ = some (.map (some mb)) := by rw [cell_of_row w tb 0 _ _ _ (hw _ List.mem_cons_self)]; rfl
  have hh := mpGet_h8 x.ok 16 0
  have hsz : (u8s (x.at 16 0)).toArray.size = 8 := by rw [List.size_toArray, u8s_len]; exact hh.1
  refine z_ ?_
  refine Run.nw nal ?_
  intro b2
  refine z_ ?_
  refine Run.a (vlo hc) ?_
  refine z_ ?_
  refine Run.a (vbs #[.int .i64 (16 : Nat), .int .i64 (0 : Nat)]) ?_
  refine Run.a (Val.lookupOld (k := 16) (i := 0) mapTy rfl rfl rfl (hw (mb, mpO x.es x.clock) m1) (by simp)) ?_
  refine Run.op1 (osa (u8s (x.at 16 0)).toArray (u8s_one _) (hs := hsz)) (fun _ => ?_)
  refine z_ ?_
  exact RQ.ret1 rfl (Res.cellAll tabOk rfl rfl rfl m0 hsz) fun w' hm => ⟨rfl, hm.fr⟩
end Go.Proofs.YtfhdfpejjgmdcaaGreatDoor

/- sparse: Put. -/
namespace Go.Proofs.YtfhdfpejjgmdcaaGreatDoor
attribute [local irreducible] Go.Vc.Run Go.Vc.RC Go.Vc.RQ Go.Vc.DR Go.Vc.DOp
open Go Go.Vc Go.Sha
/-- A tree is that of leaves. -/
def RepT {tb mb : Nat} (x : Tr tb mb) (F : Nat → List Nat) : Prop := (∀ q, q ≤ 16 → ∀ j, x.at q j = nodeF F q j) ∧ ∀ q, 16 < q → ∀ j, x.at q j = Z8
def putF (F : Nat → List Nat) (i : Int) (h : List Nat) : Nat → List Nat := if 0 ≤ i ∧ i < 65536 then updF F i.toNat h else F
abbrev PutT (tb mb : Nat) (F : Nat → List Nat) := {y : Tr tb mb // RepT y F}
theorem updF_ok {F : Nat → List Nat} (h : okF F) {i : Nat} {x : List Nat} (hx : H8 x) : okF (updF F i x) := fun j => by
  unfold updF
  split
  · exact hx
  · exact h j
set_option maxRecDepth 10000 in set_option maxHeartbeats 4000000 in
theorem TPut_calls {tb mb : Nat} (x : Tr tb mb) (F : Nat → List Nat) (hF : okF F) (hx : RepT x F) (i : Int) (h : List Nat) (hh : H8 h) (w : World) (hw : Has x.L w) (hnd : (x.L.map (·.1)).Nodup) (hK : Laid w) (hst : 0 ∉ x.L.map (·.1)) :
    Turns Tryz.prog 65 [.pointer (some ⟨tb, 0, none⟩), .int .i64 i, .agg (u8s h).toArray] w x.L (Y := PutT tb mb (putF F i h)) (fun _ => .bool (decide (0 ≤ i ∧ i < 65536))) (fun y => y.1.L) := by
  refine enter Tryz.func65 rfl (Mem.init (S0 := x.L.map (·.1)) hw (fun p hp => List.mem_map_of_mem hp) hnd) rfl ?_
  have hsz : (u8s h).toArray.size = 8 := by rw [List.size_toArray, u8s_len, hh.1]
  refine z_ ?_
  refine Run.nw nbx ?_
  intro b5
  refine z_ ?_
  refine Run.op1 (OpTo.cv Tryz.func75 (fun w' _ => in_calls i w')) (fun _ => ?_)
  by_cases hi : 0 ≤ i ∧ i < 65536
  case neg =>
    rw [decide_eq_false hi]
    have e : putF F i h = F := if_neg hi
    refine z_ ?_
    exact RQ.ret1 rfl (Res.tmp rfl) fun w' hm => Turns.of (Y := PutT tb mb (putF F i h)) (V := fun _ => .bool false) (L' := fun y => y.1.L) (Lst := x.L) ⟨x, by rw [e]; exact hx⟩ hm (Lr := [(b5, Obj.cells (u8s h).toArray 33 (0, 0))]) (perm_of fun f => by (simp only [List.map_append, List.map_cons, List.map_nil, List.sum_append, List.sum_cons, List.sum_nil] <;> omega))
  obtain ⟨i, rfl⟩ := Int.eq_ofNat_of_zero_le hi.1
  have hi16 : i < 65536 := by omega
  have e : putF F i h = updF F i h := if_pos hi
  rw [decide_eq_true hi, e]
  have hF' := updF_ok hF (i := i) hh
  obtain ⟨G, hG⟩ : ∃ G, G = updF F i h := ⟨_, rfl⟩
  rw [← hG] at hF' ⊢
  have hz : ((b5, Obj.cells (u8s h).toArray 33 (0, 0)) :: x.L).Perm (x.L ++ [(b5, Obj.cells (u8s h).toArray 33 (0, 0))]) := (perm_of fun f => by (simp only [List.map_append, List.map_cons, List.map_nil, List.sum_append, List.sum_cons, List.sum_nil] <;> omega))
  refine z_ ?_
  refine Run.a (vbs #[.int .i64 (0 : Nat), .int .i64 i]) ?_
  refine Run.a (vla (hv := hsz)) ?_
  refine Run.op1 (OpTo.callT Tryz.func82 hz (fun w' hm => set_calls x 0 i h hh w' (hm.part hz).1 (hm.part hz).2)) ?_
  rintro ⟨y0, hy0⟩
  dsimp only
  refine z_ ?_
  refine RC.up 16 (D := Tr tb mb) (fun k d => ∀ q j, d.at q j = if q ≤ k then nodeF G q j else x.at q j) (fun k _ => [(7, .int .i64 ((k + 1 : Nat) : Int)), (1, .int .i64 ((i / 2 ^ k : Nat) : Int)), (0, .pointer (some ⟨tb, 0, none⟩))]) (fun _ d => d.L) 0 y0 (Nat.zero_le _) ?_ ⟨rfl, ?_, rfl, trivial⟩ (List.sublist_append_left _ _) ?_
  · intro q j
    rw [hy0]
    by_cases hq : q = 0
    · subst hq
      rw [if_pos (Nat.le_refl _)]
      show _ = G j
      rw [hG]
      unfold updF
      by_cases hj : j = i
      · rw [if_pos ⟨rfl, hj⟩, if_pos hj]
      · rw [if_neg (fun h => hj h.2), if_neg hj]
        exact hx.1 0 (Nat.zero_le _) j
    · rw [if_neg (fun h => hq h.1), if_neg (by omega)]
  · exact congrArg (fun z => some (Value.int .i64 z)) (by simp)
  intro k d hk hd
  obtain ⟨ik, hik⟩ : ∃ ik, ik = i / 2 ^ k := ⟨_, rfl⟩
  rw [← hik]
  have hik' : Hd (ik = i / 2 ^ k) := ⟨hik⟩
  clear hik
  refine RC.seq ?_
  refine RC.seq ?_
  refine RC.region ?_
  refine Run.a (Val.of rfl) ?_
  refine Run.a (Val.of rfl) ?_
  refine Run.nil (RQ.next ?_)
  (repeat refine RC.seq ?_); refine RC.wh rfl (fun h => RQ.next ?_) (fun h => ?_)
  · have hk' : k < 16 := by have := of_decide_eq_true h; omega
    clear h
    have hik := hik'.h
    obtain ⟨I, hI⟩ : ∃ I, I = i / 2 ^ (k + 1) := ⟨_, rfl⟩
    have hI2 : I = ik / 2 := by rw [hI, hik, Nat.pow_succ, Nat.div_div_eq_div_mul]
    have hib : ik < 65536 := by rw [hik]; exact Nat.lt_of_le_of_lt (Nat.div_le_self _ _) hi16
    clear hik
    have hI' : Hd (I = i / 2 ^ (k + 1)) := ⟨hI⟩
    clear hI
    have hIb : I < 65536 := by omega
    have hv : (ik : Int).fdiv (2 ^ min (1 : Int).toNat IntKind.i64.bits) = (I : Int) := by
      rw [show min (1 : Int).toNat IntKind.i64.bits = 1 from rfl, Int.fdiv_eq_ediv_of_nonneg _ (by decide), hI2]
      rfl
    have a1 : H8 (d.at k (2 * I)) := mpGet_h8 d.ok _ _
    have a2 : H8 (d.at k (2 * I + 1)) := mpGet_h8 d.ok _ _
    refine z_ ?_
    rw [hv]
    refine z_ ?_
    (repeat refine RC.seq ?_); refine RC.drawS mixed (N := 27) rfl ?_
    refine dt 0 ?_
    refine dt 1 ?_
    refine dt 2 ?_
    refine DR.t 3 rfl (vbs #[.int .i64 ((k + 1 : Nat) : Int), .int .i64 I]) ?_
    refine dt 4 ?_
    refine dt 5 ?_
    refine dt 6 ?_
    refine DR.t 7 rfl (vl (.map (some mb)) (arr := #[.map (some mb)]) (hm := (by repeat (first | exact List.mem_cons_self | apply List.mem_cons_of_mem | apply List.mem_append_right)))) ?_
    refine dt 8 ?_
    refine dt 9 ?_
    refine dt 10 ?_
    refine dt 11 ?_
    rw [show ((k + 1 : Nat) : Int) - 1 = (k : Int) from by omega, show (2 : Int) * (I : Int) = ((2 * I : Nat) : Int) from by omega]
    refine DR.t 12 rfl (vbs #[.int .i64 (k : Nat), .int .i64 ((2 * I : Nat) : Int)]) ?_
    refine DR.t 13 rfl (Val.lookup2 (b := mb) (k := k) (i := 2 * I) (es := d.es) (clock := d.clock) mapTy rfl rfl rfl (by unfold TrD.L; exact (by repeat (first | exact List.mem_cons_self | apply List.mem_cons_of_mem | apply List.mem_append_right)))) ?_
    refine dt 14 ?_
    refine dt 15 ?_
    refine dt 16 ?_
    refine DR.t 17 rfl (vl (.map (some mb)) (arr := #[.map (some mb)]) (hm := (by repeat (first | exact List.mem_cons_self | apply List.mem_cons_of_mem | apply List.mem_append_right)))) ?_
    refine dt 18 ?_
    refine dt 19 ?_
    refine dt 20 ?_
    refine dt 21 ?_
    refine dt 22 ?_
    rw [show ((k + 1 : Nat) : Int) - 1 = (k : Int) from by omega, show (2 : Int) * (I : Int) + 1 = ((2 * I + 1 : Nat) : Int) from by omega]
    refine DR.t 23 rfl (vbs #[.int .i64 (k : Nat), .int .i64 ((2 * I + 1 : Nat) : Int)]) ?_
    refine DR.t 24 rfl (Val.lookup2 (b := mb) (k := k) (i := 2 * I + 1) (es := d.es) (clock := d.clock) mapTy rfl rfl rfl (by unfold TrD.L; exact (by repeat (first | exact List.mem_cons_self | apply List.mem_cons_of_mem | apply List.mem_append_right)))) ?_
    refine DR.c 25 (DOp.op1 rfl (OpTo.cv Tryz.func83 (fun w' hm => over_calls (d.at k (2 * I)) (d.at k (2 * I + 1)) a1 a2 w' (hK.fr hm.fr hst))) (fun _ => ?_))
    have hz9 : (d.L).Perm (d.L ++ []) := by rw [List.append_nil]
    refine DR.c 26 (DOp.op1 rfl (OpTo.callT Tryz.func82 hz9 (fun w' hm => set_calls d (k + 1) I (overH (d.at k (2 * I)) (d.at k (2 * I + 1))) overH_8 w' hm.has hm.nd)) ?_)
    rintro ⟨y, hy⟩
    dsimp only
    refine DR.done (by kernel_rfl) ?_
    refine z_ ?_
    refine RQ.upS (k + 1) y (Nat.lt_succ_self _) hk' (fun q j => ?_) ⟨congrArg (fun z => some (Value.int .i64 z)) (by omega), by rw [← hI'.h]; rfl, rfl, trivial⟩ (L1 := y.L ++ []) (List.Perm.refl _) (List.sublist_append_left _ _)
    have e1 : d.at k (2 * I) = nodeF G k (2 * I) := by rw [hd, if_pos (Nat.le_refl k)]
    have e2 : d.at k (2 * I + 1) = nodeF G k (2 * I + 1) := by rw [hd, if_pos (Nat.le_refl k)]
    rw [hy, e1, e2, hd]
    by_cases hq : q = k + 1
    · subst hq
      rw [if_pos (show k + 1 ≤ k + 1 from Nat.le_refl _), if_neg (show ¬ k + 1 ≤ k by omega)]
      by_cases hj : j = I
      · rw [if_pos ⟨rfl, hj⟩, hj]
        rfl
      · rw [if_neg (fun h => hj h.2), hx.1 _ (by omega), hG]
        exact (nodeF_upd (by rw [← hI'.h]; exact hj)).symm
    · rw [if_neg (fun h => hq h.1)]
      by_cases hq2 : q ≤ k
      · rw [if_pos hq2, if_pos (by omega)]
      · rw [if_neg hq2, if_neg (by omega)]
  · have hk' : k = 16 := by have := of_decide_eq_false h; omega
    subst hk'
    refine z_ ?_
    exact RQ.ret1 rfl (Res.tmp rfl) fun w' hm => Turns.of (Y := PutT tb mb G) (V := fun _ => .bool true) (L' := fun y => y.1.L) (Lst := x.L) ⟨d, fun q hq j => by rw [hd, if_pos hq], fun q hq j => by rw [hd, if_neg (by omega)]; exact hx.2 q hq j⟩ hm (Lr := []) (by rw [List.append_nil])
end Go.Proofs.YtfhdfpejjgmdcaaGreatDoor
