/- sparse: the plain law. -/
import Derived.Test.YtaabinhpagbajaaDoorVcV
import Derived.Test.YtaabinhpagbajaaDoorDigT
set_option linter.unusedSimpArgs false
set_option linter.unusedVariables false
namespace Go.Sha
open Go.Vc
def Z8 : List Nat := List.replicate 8 0
/-- The node above two. -/
def overH (a b : List Nat) : List Nat := if a = Z8 ∧ b = Z8 then Z8 else digest 110 [a, b]
/-- A node, by the leaves. -/
def nodeF (F : Nat → List Nat) : Nat → Nat → List Nat
  | 0, j => F j
  | q + 1, j => overH (nodeF F q (2 * j)) (nodeF F q (2 * j + 1))
def H8 (h : List Nat) : Prop := h.length = 8 ∧ ∀ x ∈ h, x < 256
def okF (F : Nat → List Nat) : Prop := ∀ i, H8 (F i)
theorem H8.z : H8 Z8 := ⟨rfl, fun x hx => by rw [List.eq_of_mem_replicate hx]; decide⟩
theorem nodeF_same {F G : Nat → List Nat} : ∀ (q j : Nat), (∀ i, i / 2 ^ q = j → F i = G i) → nodeF F q j = nodeF G q j
  | 0, j, h => h j (by simp)
  | q + 1, j, h => by
    have key : ∀ c, c < 2 → nodeF F q (2 * j + c) = nodeF G q (2 * j + c) := fun c hc => nodeF_same q _ fun i hi => h i (by
      rw [Nat.pow_succ, ← Nat.div_div_eq_div_mul, hi]
      omega)
    show overH _ _ = overH _ _
    rw [show 2 * j = 2 * j + 0 from rfl, key 0 (by decide), key 1 (by decide)]
theorem nodeF_z : ∀ (q j : Nat), nodeF (fun _ => Z8) q j = Z8
  | 0, _ => rfl
  | q + 1, j => by
    show overH _ _ = _
    rw [nodeF_z q, nodeF_z q]
    exact if_pos ⟨rfl, rfl⟩
theorem nodeF_zero {F : Nat → List Nat} {q j : Nat} (h : ∀ i, i / 2 ^ q = j → F i = Z8) : nodeF F q j = Z8 := (nodeF_same q j h).trans (nodeF_z q j)
def updF (F : Nat → List Nat) (i : Nat) (h : List Nat) : Nat → List Nat := fun j => if j = i then h else F j
theorem nodeF_upd {F : Nat → List Nat} {i : Nat} {h : List Nat} {q j : Nat} (hj : j ≠ i / 2 ^ q) : nodeF (updF F i h) q j = nodeF F q j :=
  nodeF_same q j fun m hm => by
    unfold updF
    rw [if_neg]
    rintro rfl
    exact hj hm.symm
end Go.Sha
namespace Go.Vc
open Go Go.Sha
/-- A map that holds nothing twice, and no zeros. -/
structure MpOk (es : List MpE) (clock : Nat) : Prop where
  nd : (es.map fun x => (x.k, x.i)).Nodup
  nz : ∀ x ∈ es, x.h ≠ Z8
  h8 : ∀ x ∈ es, H8 x.h
  bn : ∀ x ∈ es, x.born < clock
  bd : (es.map (·.born)).Nodup
theorem mpAt_none {k i : Nat} : ∀ {es : List MpE} {j : Nat}, mpAt k i es j = none → ∀ x ∈ es, ¬ (x.k = k ∧ x.i = i)
  | [], _, _, x, hx => by cases hx
  | y :: es, j, h, x, hx => by
    unfold mpAt at h
    split at h
    · cases h
    · rename_i hy
      rcases List.mem_cons.1 hx with rfl | hx
      · exact hy
      · exact mpAt_none h x hx
theorem key_inj {es : List MpE} (nd : (es.map fun x => (x.k, x.i)).Nodup) {a b : Nat} {x y : MpE} (hx : es[a]? = some x) (hy : es[b]? = some y) (hk : x.k = y.k) (hi : x.i = y.i) : a = b := by
  obtain ⟨h1, e1⟩ := List.getElem?_eq_some_iff.1 hx
  obtain ⟨h2, e2⟩ := List.getElem?_eq_some_iff.1 hy
  have l1 : a < (es.map fun x => (x.k, x.i)).length := by rw [List.length_map]; exact h1
  have l2 : b < (es.map fun x => (x.k, x.i)).length := by rw [List.length_map]; exact h2
  exact (List.getElem_inj (h₀ := l1) (h₁ := l2) nd).1 (by simp [e1, e2, hk, hi])
theorem mpGet_mem {es : List MpE} (nd : (es.map fun x => (x.k, x.i)).Nodup) {x : MpE} (hx : x ∈ es) : mpGet x.k x.i es = x.h := by
  unfold mpGet
  cases h : mpAt x.k x.i es 0 with
  | none => exact absurd ⟨rfl, rfl⟩ (mpAt_none h x hx)
  | some p =>
    obtain ⟨_, h2, h3, h4⟩ := mpAt_some (x := p.2) (j' := p.1) h
    rw [Nat.sub_zero] at h2
    obtain ⟨a, ha⟩ := List.mem_iff_getElem?.1 hx
    have e := key_inj nd ha h2 h3.symm h4.symm
    subst e
    rw [ha] at h2
    cases h2
    rfl
theorem mpGet_no {k i : Nat} {es : List MpE} (h : ∀ x ∈ es, ¬ (x.k = k ∧ x.i = i)) : mpGet k i es = Z8 := by
  unfold mpGet
  cases hm : mpAt k i es 0 with
  | none => rfl
  | some p =>
    obtain ⟨_, h2, h3⟩ := mpAt_some (x := p.2) (j' := p.1) hm
    exact absurd h3 (h _ (List.mem_of_getElem? h2))
theorem mpGet_h8 {es : List MpE} {clock : Nat} (ok : MpOk es clock) (k i : Nat) : H8 (mpGet k i es) := by
  by_cases h : ∃ x ∈ es, x.k = k ∧ x.i = i
  · obtain ⟨x, hx, rfl, rfl⟩ := h
    rw [mpGet_mem ok.nd hx]
    exact ok.h8 x hx
  · rw [mpGet_no fun x hx hk => h ⟨x, hx, hk⟩]
    exact H8.z
/-- Two maps, of which one holds what the other holds but for one key. -/
theorem mpGet_but {es es' : List MpE} (nd : (es.map fun x => (x.k, x.i)).Nodup) (nd' : (es'.map fun x => (x.k, x.i)).Nodup) {k i : Nat} (h : ∀ x, ¬ (x.k = k ∧ x.i = i) → (x ∈ es' ↔ x ∈ es)) {k' i' : Nat} (hne : ¬ (k' = k ∧ i' = i)) : mpGet k' i' es' = mpGet k' i' es := by
  by_cases hx : ∃ x ∈ es, x.k = k' ∧ x.i = i'
  · obtain ⟨x, hx, rfl, rfl⟩ := hx
    rw [mpGet_mem nd hx, mpGet_mem nd' ((h x hne).2 hx)]
  · rw [mpGet_no fun x hx' hk => hx ⟨x, hx', hk⟩, mpGet_no fun x hx' hk => hx ⟨x, (h x (by rw [hk.1, hk.2]; exact hne)).1 hx', hk⟩]
/-- What a key is set to; nothing, where it is zeros. -/
def mpSet (k i : Nat) (h : List Nat) (es : List MpE) (clock : Nat) : List MpE × Nat := if h = Z8 then (mpDel k i es, clock) else mpUpd k i h es clock
theorem mem_set_other {es : List MpE} {j : Nat} {x v y : MpE} (hx : es[j]? = some x) (hy : y ≠ x) (hv : y ≠ v) : y ∈ es.set j v ↔ y ∈ es := by
  constructor
  · intro h
    rcases List.mem_or_eq_of_mem_set h with h | h
    · exact h
    · exact absurd h hv
  · intro h
    obtain ⟨a, ha⟩ := List.mem_iff_getElem?.1 h
    have : j ≠ a := by
      rintro rfl
      rw [hx] at ha
      exact hy (Option.some.inj ha).symm
    exact List.mem_iff_getElem?.2 ⟨a, by rw [List.getElem?_set_ne this]; exact ha⟩
theorem mpSet_ok {k i : Nat} {h : List Nat} (hh : H8 h) {es : List MpE} {clock : Nat} (ok : MpOk es clock) : MpOk (mpSet k i h es clock).1 (mpSet k i h es clock).2 ∧ ∀ k' i', mpGet k' i' (mpSet k i h es clock).1 = if k' = k ∧ i' = i then h else mpGet k' i' es := by
  unfold mpSet
  by_cases hz : h = Z8
  · rw [if_pos hz]
    unfold mpDel
    cases hm : mpAt k i es 0 with
    | none =>
      refine ⟨ok, fun k' i' => ?_⟩
      dsimp only
      by_cases e : k' = k ∧ i' = i
      · rw [if_pos e]
        rw [e.1, e.2, hz]
        exact mpGet_no (mpAt_none hm)
      · rw [if_neg e]
    | some p =>
      obtain ⟨j, x⟩ := p
      obtain ⟨_, hx, hk, hi⟩ := mpAt_some hm
      rw [Nat.sub_zero] at hx
      have hsub : (es.eraseIdx j).Sublist es := List.eraseIdx_sublist _ _
      have nd' : ((es.eraseIdx j).map fun x => (x.k, x.i)).Nodup := ok.nd.sublist (hsub.map _)
      have hmem : ∀ y, y ∈ es.eraseIdx j ↔ y ∈ es ∧ ¬ (y.k = k ∧ y.i = i) := by
        intro y
        rw [List.mem_eraseIdx_iff_getElem?]
        constructor
        · rintro ⟨a, ha, hy⟩
          refine ⟨List.mem_of_getElem? hy, fun e => ha (key_inj ok.nd hy hx (by rw [hk, e.1]) (by rw [hi, e.2]))⟩
        · rintro ⟨hy, hne⟩
          obtain ⟨a, ha⟩ := List.mem_iff_getElem?.1 hy
          refine ⟨a, ?_, ha⟩
          rintro rfl
          rw [hx] at ha
          cases ha
          exact hne ⟨hk, hi⟩
      refine ⟨⟨nd', fun y hy => ok.nz y (hsub.subset hy), fun y hy => ok.h8 y (hsub.subset hy), fun y hy => ok.bn y (hsub.subset hy), ok.bd.sublist (hsub.map _)⟩, fun k' i' => ?_⟩
      dsimp only
      by_cases e : k' = k ∧ i' = i
      · rw [if_pos e]
        rw [e.1, e.2, hz]
        exact mpGet_no fun y hy => ((hmem y).1 hy).2
      · rw [if_neg e]
        exact mpGet_but ok.nd nd' (fun y hy => by rw [hmem y]; exact ⟨fun h => h.1, fun h => ⟨h, hy⟩⟩) e
  · rw [if_neg hz]
    unfold mpUpd
    cases hm : mpAt k i es 0 with
    | none =>
      have hno := mpAt_none hm
      have nd' : ((es ++ [(⟨k, i, h, clock⟩ : MpE)]).map fun x => (x.k, x.i)).Nodup := by
        rw [List.map_append, List.nodup_append]
        refine ⟨ok.nd, by simp, fun a ha b hb => ?_⟩
        obtain ⟨y, hy, rfl⟩ := List.mem_map.1 ha
        rw [List.map_cons, List.map_nil, List.mem_singleton] at hb
        subst hb
        intro e
        exact hno y hy ⟨congrArg Prod.fst e, congrArg Prod.snd e⟩
      have hmem : ∀ y : MpE, y ∈ es ++ [(⟨k, i, h, clock⟩ : MpE)] ↔ y ∈ es ∨ y = ⟨k, i, h, clock⟩ := fun y => by rw [List.mem_append, List.mem_singleton]
      refine ⟨⟨nd', fun y hy => ?_, fun y hy => ?_, fun y hy => ?_, ?_⟩, fun k' i' => ?_⟩
      · rcases (hmem y).1 hy with hy | rfl
        · exact ok.nz y hy
        · exact hz
      · rcases (hmem y).1 hy with hy | rfl
        · exact ok.h8 y hy
        · exact hh
      · rcases (hmem y).1 hy with hy | rfl
        · exact Nat.lt_succ_of_lt (ok.bn y hy)
        · exact Nat.lt_succ_self _
      · rw [List.map_append, List.nodup_append]
        refine ⟨ok.bd, by simp, fun a ha b hb => ?_⟩
        obtain ⟨y, hy, rfl⟩ := List.mem_map.1 ha
        rw [List.map_cons, List.map_nil, List.mem_singleton] at hb
        subst hb
        exact Nat.ne_of_lt (ok.bn y hy)
      · dsimp only
        by_cases e : k' = k ∧ i' = i
        · rw [if_pos e, e.1, e.2]
          exact mpGet_mem nd' (x := ⟨k, i, h, clock⟩) ((hmem _).2 (.inr rfl))
        · rw [if_neg e]
          refine mpGet_but ok.nd nd' (k := k) (i := i) (fun y hy => ?_) e
          rw [hmem y]
          refine ⟨fun h => h.resolve_right ?_, .inl⟩
          rintro rfl
          exact hy ⟨rfl, rfl⟩
    | some p =>
      obtain ⟨j, x⟩ := p
      obtain ⟨_, hx, hk, hi⟩ := mpAt_some hm
      rw [Nat.sub_zero] at hx
      have hj := (List.getElem?_eq_some_iff.1 hx).1
      have hxe := (List.getElem?_eq_some_iff.1 hx).2
      have hxm := List.mem_of_getElem? hx
      have ekeys : (es.set j { x with h := h }).map (fun x => (x.k, x.i)) = es.map fun x => (x.k, x.i) := by
        rw [List.map_set]
        apply List.ext_getElem?
        intro m
        rw [List.getElem?_set]
        split
        · rename_i e
          subst e
          simp [hj, hxe]
        · rfl
      have eborn : (es.set j { x with h := h }).map (·.born) = es.map (·.born) := by
        rw [List.map_set]
        apply List.ext_getElem?
        intro m
        rw [List.getElem?_set]
        split
        · rename_i e
          subst e
          simp [hj, hxe]
        · rfl
      have nd' : ((es.set j { x with h := h }).map fun x => (x.k, x.i)).Nodup := by rw [ekeys]; exact ok.nd
      refine ⟨⟨nd', fun y hy => ?_, fun y hy => ?_, fun y hy => ?_, by rw [eborn]; exact ok.bd⟩, fun k' i' => ?_⟩
      · rcases List.mem_or_eq_of_mem_set hy with hy | rfl
        · exact ok.nz y hy
        · exact hz
      · rcases List.mem_or_eq_of_mem_set hy with hy | rfl
        · exact ok.h8 y hy
        · exact hh
      · rcases List.mem_or_eq_of_mem_set hy with hy | rfl
        · exact ok.bn y hy
        · exact ok.bn x hxm
      · dsimp only
        by_cases e : k' = k ∧ i' = i
        · rw [if_pos e, e.1, e.2]
          rw [← hk, ← hi]
          exact mpGet_mem nd' (x := { x with h := h }) (List.mem_iff_getElem?.2 ⟨j, by rw [List.getElem?_set_self hj]⟩)
        · rw [if_neg e]
          refine mpGet_but ok.nd nd' (k := k) (i := i) (fun y hy => mem_set_other hx ?_ ?_) e
          · rintro rfl; exact hy ⟨hk, hi⟩
          · rintro rfl; exact hy ⟨hk, hi⟩
end Go.Vc
