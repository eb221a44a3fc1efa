/- Arguments that are bytes in arrays; what is laid. -/
import Derived.Test.YtilfbomjaflbjaaDoorFin0
import GoSem.ClaimSeven
namespace Go.Vc
open Go Go.Sha Go.ChangeShapes Go.WideShapes Go.ChangeAt Go.RowKit

def AllB (cs : List Value) : Prop := ∀ v ∈ cs, ∃ n : Nat, n < 256 ∧ v = .int .u8 n
theorem AllB.list : ∀ {cs : List Value}, AllB cs → ∃ l : List Nat, cs = u8s l ∧ ∀ x ∈ l, x < 256
  | [], _ => ⟨[], rfl, fun _ h => by cases h⟩
  | v :: cs, h => by
    obtain ⟨n, hn, rfl⟩ := h v List.mem_cons_self
    obtain ⟨l, rfl, hl⟩ := AllB.list (cs := cs) (fun v hv => h v (List.mem_cons_of_mem _ hv))
    exact ⟨n :: l, rfl, fun x hx => by
      rcases List.mem_cons.1 hx with rfl | hx
      · exact hn
      · exact hl x hx⟩
/-- Nothing but bytes, in arrays. -/
def onlyB (P : Program) : Nat → TypeId → Bool
  | 0, _ => false
  | d + 1, t => match P.underlying t with
    | some (.int .u8) => true
    | some (.array _ e) => onlyB P d e
    | _ => false
section
variable {H : Type} {enc : TypeId × Value → H} {P : Program}
theorem mapM_all {α β : Type} {f : α → Option β} : ∀ {l : List α} {r : List β}, l.mapM f = some r → ∀ x ∈ l, ∃ y, f x = some y
  | [], _, _, _, h => by cases h
  | a :: l, r, h, x, hx => by
    rw [List.mapM_cons] at h
    simp only [bind, Option.bind_eq_some_iff, pure, Option.some.injEq] at h
    obtain ⟨y, hy, ys, hys, _⟩ := h
    rcases List.mem_cons.1 hx with rfl | hx
    · exact ⟨y, hy⟩
    · exact mapM_all hys x hx
theorem bytes_of_trod (hl : laidOutB P = true) (hm : mapsRowed P = true) {w : World} {base : Nat} {sp : Nat → Bool} {held : Bool} : ∀ (n d : Nat) (t : TypeId) (cs : List Value) (x : DataW H × List MemPlace),
    t < P.types.size → onlyB P d t = true → DataW.trod enc P w base sp held n t cs = some x → AllB cs
  | 0, _, _, _, _, _, _, h => by simp [DataW.trod] at h
  | n + 1, 0, _, _, _, _, ho, _ => by cases ho
  | n + 1, d + 1, t, cs, x, ht, ho, h => by
    unfold onlyB at ho
    cases hu : P.underlying t with
    | none => rw [hu] at ho; cases ho
    | some kd =>
      rw [hu] at ho
      cases kd with
      | int k =>
        cases k <;> simp at ho
        obtain ⟨z, hcs, _, hw⟩ := DataW.trod_int hu h
        have hb := bounds_u8 hw
        rw [hcs]
        intro v hv
        rw [List.mem_singleton] at hv
        exact ⟨z.toNat, by omega, by rw [hv, Int.toNat_of_nonneg hb.1]⟩
      | array m e =>
        simp only at ho
        unfold DataW.trod at h
        simp only [hu] at h
        split at h
        · rename_i hlen
          simp only [Option.map_eq_some_iff] at h
          obtain ⟨xs, hx, rfl⟩ := h
          have K := (kids_rows hl hm).array ht hu
          intro v hv
          obtain ⟨j, hj, rfl⟩ := List.mem_iff_getElem.1 hv
          rw [hlen, K.2] at hj
          have hc : 0 < P.cellsOf e := by
            rcases Nat.eq_zero_or_pos (P.cellsOf e) with h0 | h0
            · rw [h0, Nat.mul_zero] at hj; omega
            · exact h0
          have hi : j / P.cellsOf e < m := Nat.div_lt_of_lt_mul (by rw [Nat.mul_comm]; exact hj)
          obtain ⟨y, hy⟩ := mapM_all hx (j / P.cellsOf e) (List.mem_range.2 hi)
          have ih := bytes_of_trod hl hm n d e _ y K.1 ho hy
          refine ih _ ?_
          have h1 := Nat.div_add_mod j (P.cellsOf e)
          have h2 := Nat.mod_lt j hc
          refine List.mem_of_getElem? (i := j % P.cellsOf e) ?_
          rw [List.getElem?_take, if_pos h2, List.getElem?_drop]
          rw [show j / P.cellsOf e * P.cellsOf e + j % P.cellsOf e = j by rw [Nat.mul_comm]; exact h1]
          exact List.getElem?_eq_getElem _
        · cases h
      | _ => cases ho
/-- An argument that is an array of bytes. -/
theorem bytes_arg (hl : laidOutB P = true) (hm : mapsRowed P = true) {w : World} {base b0 : Nat} {sp : Nat → Bool} {held : Bool} {r : Reach} {t e d len : Nat} {v : Value} {dd : DataW H} {ps : List MemPlace} (hu : P.underlying t = some (.array len e)) (ht : Nat.blt t P.types.size = true) (ho : onlyB P d t = true)
    (hval : Value.okWide P w r b0 t v) (h : DataW.Trod enc P w base sp held t v dd ps) : ∃ l : List Nat, v = .agg (u8s l).toArray ∧ l.length = P.cellsOf t ∧ ∀ x ∈ l, x < 256 := by
  unfold Value.okWide at hval
  rw [hu] at hval
  obtain ⟨cs, rfl, hs, _⟩ := hval
  obtain ⟨n, h⟩ := h
  obtain ⟨l, hl', hb⟩ := (bytes_of_trod hl hm n d t _ _ (by simpa [Nat.blt_eq] using ht) ho h).list
  have hcs : cs = (u8s l).toArray := Array.toList_inj.1 hl'
  subst hcs
  exact ⟨l, rfl, by rw [← hs]; simp [u8s_len], hb⟩
theorem params_plain {fn : Func} (h : fn.params.all (fun t => !P.wantsStandIn t) = true) (j : Nat) (t : TypeId) (ht : fn.params[j]? = some t) : P.wantsStandIn t = false := by
  have := Array.all_eq_true_iff_forall_mem.1 h t (Array.mem_of_getElem? ht)
  simpa using this
end
end Go.Vc
