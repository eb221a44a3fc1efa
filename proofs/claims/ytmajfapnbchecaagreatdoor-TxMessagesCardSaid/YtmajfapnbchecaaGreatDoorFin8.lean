/- Arguments that are slices of records of numbers. -/
import Derived.Test.YtmajfapnbchecaaGreatDoorFin6
import Derived.Test.YtmajfapnbchecaaGreatDoorVcS
set_option linter.unusedSimpArgs false
set_option linter.unusedVariables false
namespace Go.Vc
open Go Go.Sha Go.ChangeShapes Go.WideShapes Go.ChangeAt Go.RowKit Go.Deep
def Ok1 (v : Value) : Prop := ∀ k z, v = .int k z → (Lit.int k z).wf = true
section
variable {H : Type} {enc : TypeId × Value → H} {P : Program}
theorem flat_trod (hl : laidOutB P = true) (hm : mapsRowed P = true) {w : World} {base : Nat} {sp : Nat → Bool} {held : Bool} : ∀ (d n : Nat) (t : TypeId) (ks : List IntKind) (cs : List Value) (x : DataW H × List MemPlace),
    t < P.types.size → kindsOf P d t = some ks → ks.length = P.cellsOf t → DataW.trod enc P w base sp held n t cs = some x → HasK ks cs ∧ ∀ v ∈ cs, Ok1 v
  | 0, _, _, _, _, _, _, hk, _, _ => by cases hk
  | d + 1, n, t, ks, cs, x, ht, hk, hc, h => by
    unfold kindsOf at hk
    cases hu : P.underlying t with
    | none => rw [hu] at hk; cases hk
    | some kd =>
      rw [hu] at hk
      cases kd with
      | int k =>
        cases hk
        cases n with
        | zero => simp [DataW.trod] at h
        | succ n =>
          obtain ⟨z, hcs, _, hw⟩ := DataW.trod_int hu h
          rw [hcs]
          refine ⟨.cons k z .nil, fun v hv k' z' e => ?_⟩
          rw [List.mem_singleton] at hv
          subst hv
          cases e
          exact hw
      | array m e =>
        simp only at hk
        cases hke : kindsOf P d e with
        | none => rw [hke] at hk; cases hk
        | some ke =>
          rw [hke] at hk
          simp only at hk
          cases hb : Nat.beq ke.length (P.cellsOf e) with
          | false => rw [hb] at hk; cases hk
          | true =>
            rw [hb] at hk
            simp only [cond_true, Option.some.injEq] at hk
            have hce : ke.length = P.cellsOf e := Nat.eq_of_beq_eq_true hb
            have K := (kids_rows hl hm).array ht hu
            cases n with
            | zero => simp [DataW.trod] at h
            | succ n =>
              unfold DataW.trod at h
              simp only [hu] at h
              split at h
              · rename_i hlen
                simp only [Option.map_eq_some_iff] at h
                obtain ⟨xs, hx, rfl⟩ := h
                have hpart : ∀ i, i < m → HasK ke ((cs.drop (i * P.cellsOf e)).take (P.cellsOf e)) ∧ ∀ v ∈ (cs.drop (i * P.cellsOf e)).take (P.cellsOf e), Ok1 v := fun i hi => by
                  obtain ⟨y, hy⟩ := mapM_all hx i (List.mem_range.2 hi)
                  exact flat_trod hl hm d n e ke _ y K.1 hke hce hy
                rw [K.2] at hlen
                have key : ∀ j, j ≤ m → HasK (List.replicate j ke).flatten (cs.drop ((m - j) * P.cellsOf e)) ∧ ∀ v ∈ cs.drop ((m - j) * P.cellsOf e), Ok1 v := by
                  intro j
                  induction j with
                  | zero =>
                    intro _
                    rw [Nat.sub_zero, List.drop_of_length_le (by omega)]
                    exact ⟨.nil, fun v hv => by cases hv⟩
                  | succ j ih =>
                    intro hj
                    obtain ⟨i1, i2⟩ := ih (by omega)
                    obtain ⟨p1, p2⟩ := hpart (m - (j + 1)) (by omega)
                    have e1 : cs.drop ((m - (j + 1)) * P.cellsOf e) = (cs.drop ((m - (j + 1)) * P.cellsOf e)).take (P.cellsOf e) ++ cs.drop ((m - j) * P.cellsOf e) := by
                      conv => lhs; rw [← List.take_append_drop (P.cellsOf e) (cs.drop ((m - (j + 1)) * P.cellsOf e)), List.drop_drop]
                      rw [show m - j = m - (j + 1) + 1 by omega, Nat.add_mul (m - (j + 1)) 1, Nat.one_mul]
                    rw [e1, List.replicate_succ, List.flatten_cons]
                    refine ⟨p1.append i1, fun v hv => ?_⟩
                    rcases List.mem_append.1 hv with hv | hv
                    · exact p2 v hv
                    · exact i2 v hv
                obtain ⟨k1, k2⟩ := key m (Nat.le_refl _)
                rw [Nat.sub_self, Nat.zero_mul, List.drop_zero] at k1 k2
                rw [← hk]
                exact ⟨k1, k2⟩
              · cases h
      | struct fs =>
        simp only at hk
        cases hst : P.stoodInHeld t with
        | true => rw [hst] at hk; cases hk
        | false =>
          rw [hst] at hk
          simp only [cond_false] at hk
          obtain ⟨xs, n', _, _, hlen, hxl, hf⟩ := DataW.trod_struct hu h
          have K := (kids_rows hl hm).struct ht hu
          have key : ∀ (gs : List Field) (off : Nat) (kg : List IntKind), (∀ f ∈ gs, f.type < P.types.size ∧ ∃ y, DataW.trod enc P w base sp held n' f.type ((cs.drop f.offset).take (P.cellsOf f.type)) = some y) → kindsF P (kindsOf P d) gs off = some kg →
              HasK kg ((cs.drop off).take kg.length) ∧ ∀ v ∈ (cs.drop off).take kg.length, Ok1 v := by
            intro gs
            induction gs with
            | nil =>
              intro off kg _ hg
              cases hg
              exact ⟨by simpa using HasK.nil, fun v hv => by simp at hv⟩
            | cons f gs ih =>
              intro off kg hfs hg
              unfold kindsF at hg
              cases hkf : kindsOf P d f.type with
              | none => rw [hkf] at hg; cases hg
              | some kf =>
                rw [hkf] at hg
                simp only at hg
                cases hb : (f.name != "_" && (Nat.beq f.offset off && Nat.beq kf.length (P.cellsOf f.type))) with
                | false => rw [hb] at hg; cases hg
                | true =>
                  rw [hb] at hg
                  simp only [cond_true, Option.map_eq_some_iff] at hg
                  obtain ⟨kr, hr, rfl⟩ := hg
                  simp only [Bool.and_eq_true] at hb
                  have ho : f.offset = off := Nat.eq_of_beq_eq_true hb.2.1
                  have hcl : kf.length = P.cellsOf f.type := Nat.eq_of_beq_eq_true hb.2.2
                  obtain ⟨ht1, y, hy⟩ := hfs f List.mem_cons_self
                  obtain ⟨p1, p2⟩ := flat_trod hl hm d n' f.type kf _ y ht1 hkf hcl hy
                  obtain ⟨i1, i2⟩ := ih (off + kf.length) kr (fun g hg => hfs g (List.mem_cons_of_mem _ hg)) hr
                  rw [ho, ← hcl] at p1 p2
                  have e1 : (cs.drop off).take (kf ++ kr).length = (cs.drop off).take kf.length ++ (cs.drop (off + kf.length)).take kr.length := by
                    rw [List.length_append, List.take_add, List.drop_drop]
                  rw [e1]
                  refine ⟨p1.append i1, fun v hv => ?_⟩
                  rcases List.mem_append.1 hv with hv | hv
                  · exact p2 v hv
                  · exact i2 v hv
          obtain ⟨k1, k2⟩ := key fs.toList 0 ks (fun f hfm => by
            refine ⟨K.1 f hfm, ?_⟩
            obtain ⟨i, hi, hfi⟩ := List.mem_iff_getElem.1 hfm
            have h1 := hf i f (by rw [← Array.getElem?_toList, List.getElem?_eq_getElem hi, hfi])
            have h2 : i < xs.length := by rw [hxl]; simpa using hi
            exact ⟨xs[i], h1.trans (List.getElem?_eq_getElem h2)⟩) hk
          rw [List.drop_zero, List.take_of_length_le (by omega)] at k1 k2
          exact ⟨k1, k2⟩
      | _ => cases hk
/-- A slice of records as argument. -/
theorem rows_slice {α : Type} [Inhabited α] (c : α → List Value) (sz : Nat) (hsz : 0 < sz) (hcl : ∀ a, (c a).length = sz) {w : World} {t e b0 : Nat} {r : Reach} {held : Bool} {v : Value} {d : DataW H} {ps : List MemPlace} (hu : P.underlying t = some (.slice e)) (hc : P.cellsOf e = sz)
    (hf : ∀ n cs x, cs.length = sz → DataW.trod enc P w 0 (fun _ => true) held n e cs = some x → ∃ a, cs = c a)
    (hval : Value.okWide P w r b0 t v) (h : DataW.Trod enc P w 0 (fun _ => true) held t v d ps) : ∃ l : List α, SrcW w sz v l.length (rws c l) ∧ l.length ≤ 9223372036854775807 := by
  obtain ⟨a, len, cap, rfl⟩ := okWide_slice hu hval
  obtain ⟨n, h⟩ := h
  rcases open_slice hu h with ⟨h0, _⟩ | ⟨a, len, cap, m, n', D, Pl, h0, _, hlc, hml, hmm, hxd, hx⟩
  · cases h0
    exact ⟨[], .nil, Nat.zero_le _⟩
  · cases h0
    rw [if_pos rfl] at hmm
    subst hmm
    rw [hc] at hx
    have hex : ∀ i, i < len → ∃ y : α, ∀ j, j < sz → w.cell? (a.add (i * sz + j)) = (c y)[j]? := by
      intro i hi
      obtain ⟨cs', h1, h2⟩ := hx i (by omega)
      obtain ⟨_, hlen, hcell⟩ := World.cells?_some h1
      obtain ⟨y, rfl⟩ := hf _ _ _ (by rw [hlen]) h2
      exact ⟨y, fun j hj => by rw [← add_add]; exact hcell j hj⟩
    obtain ⟨F, hF⟩ := choose_lt hex
    have hlen : ((List.range len).map F).length = len := by simp
    refine ⟨(List.range len).map F, ?_, by rw [hlen]; simp only [maxLen] at hml; omega⟩
    rw [hlen]
    refine .at a _ _ _ (by rw [rws_len hcl, hlen]) hlc fun j u hj => ?_
    have hjl : j < len * sz := by
      have := (List.getElem?_eq_some_iff.1 hj).1
      rwa [rws_len hcl, hlen] at this
    have hi : j / sz < len := (Nat.div_lt_iff_lt_mul hsz).2 hjl
    have h2 := Nat.mod_lt j hsz
    have h3 := hF (j / sz) hi (j % sz) h2
    have h4 : j / sz * sz + j % sz = j := by rw [Nat.mul_comm]; exact Nat.div_add_mod j sz
    rw [h4] at h3
    rw [h3]
    have h5 : (c (F (j / sz)))[j % sz]? = some ((c (F (j / sz)))[j % sz]'(by rw [hcl]; exact h2)) := List.getElem?_eq_getElem _
    have h6 := rws_at hcl (l := (List.range len).map F) (i := j / sz) (s := F (j / sz)) (by simp [hi]) (j % sz) _ h5
    rw [h4, hj] at h6
    rw [h5, Option.some.inj h6]
end
theorem u8list_of : ∀ {n : Nat} {cs : List Value}, HasK (List.replicate n .u8) cs → (∀ v ∈ cs, Ok1 v) → ∃ l : List Nat, cs = u8s l ∧ l.length = n ∧ ∀ x ∈ l, x < 256
  | 0, _, .nil, _ => ⟨[], rfl, rfl, fun x hx => by cases hx⟩
  | n + 1, _, .cons _ z h, ho => by
    obtain ⟨l, rfl, hl, hb⟩ := u8list_of h (fun v hv => ho v (List.mem_cons_of_mem _ hv))
    have := bounds_u8 (ho _ List.mem_cons_self .u8 z rfl)
    refine ⟨z.toNat :: l, ?_, by simp [hl], fun x hx => ?_⟩
    · show _ = Value.int .u8 (z.toNat : Int) :: u8s l
      rw [Int.toNat_of_nonneg this.1]
    · rcases List.mem_cons.1 hx with rfl | hx
      · omega
      · exact hb x hx
end Go.Vc
