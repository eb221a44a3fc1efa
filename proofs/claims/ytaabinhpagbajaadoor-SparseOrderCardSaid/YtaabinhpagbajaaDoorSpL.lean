/- sparse: the plain law of the reference's Put. -/
import Derived.Test.YtaabinhpagbajaaDoorSpK
set_option linter.unusedSimpArgs false
set_option linter.unusedVariables false
namespace Go.Sha
open Go.Vc
theorem go_gen (i : Nat) (h : List Nat) : ∀ (l a : Lvs) (dn : Bool), ((l.foldl (stepL i h) (a, dn)).1.Perm ((a ++ l.filter fun p => decide (p.1 ≠ i)) ++ (if (l.foldl (stepL i h) (a, dn)).2 = true ∧ dn = false then [(i, h)] else []))) ∧ (dn = true → (l.foldl (stepL i h) (a, dn)).2 = true) := by
  intro l
  induction l with
  | nil => intro a dn; refine ⟨?_, fun e => e⟩; cases dn <;> simp
  | cons p l ih =>
    intro a dn
    rw [List.foldl_cons]
    by_cases hc : dn = false ∧ i ≤ p.1
    · obtain ⟨rfl, hc2⟩ := hc
      by_cases hp : p.1 = i
      · have e : stepL i h (a, false) p = (a ++ [(i, h)], true) := by unfold stepL; rw [if_pos hp, if_pos ⟨rfl, hc2⟩]
        rw [e]
        obtain ⟨h1, h2⟩ := ih (a ++ [(i, h)]) true
        have h3 := h2 rfl
        refine ⟨?_, fun h => by cases h⟩
        rw [if_pos ⟨h3, rfl⟩]
        rw [if_neg (by simp)] at h1
        rw [List.filter_cons, if_neg (by simp [hp])]
        exact h1.trans (perm_of fun f => by (simp only [List.map_append, List.map_cons, List.map_nil, List.sum_append, List.sum_cons, List.sum_nil] <;> omega))
      · have e : stepL i h (a, false) p = (a ++ [(i, h)] ++ [p], true) := by unfold stepL; rw [if_neg hp, if_pos ⟨rfl, hc2⟩]
        rw [e]
        obtain ⟨h1, h2⟩ := ih (a ++ [(i, h)] ++ [p]) true
        have h3 := h2 rfl
        refine ⟨?_, fun h => by cases h⟩
        rw [if_pos ⟨h3, rfl⟩]
        rw [if_neg (by simp)] at h1
        rw [List.filter_cons, if_pos (by simp [hp])]
        exact h1.trans (perm_of fun f => by (simp only [List.map_append, List.map_cons, List.map_nil, List.sum_append, List.sum_cons, List.sum_nil] <;> omega))
    · by_cases hp : p.1 = i
      · have e : stepL i h (a, dn) p = (a, dn) := by unfold stepL; rw [if_pos hp, if_neg hc]
        rw [e, List.filter_cons, if_neg (by simp [hp])]
        exact ih a dn
      · have e : stepL i h (a, dn) p = (a ++ [p], dn) := by unfold stepL; rw [if_neg hp, if_neg hc]
        rw [e, List.filter_cons, if_pos (by simp [hp])]
        obtain ⟨h1, h2⟩ := ih (a ++ [p]) dn
        exact ⟨h1.trans (perm_of fun f => by (simp only [List.map_append, List.map_cons, List.map_nil, List.sum_append, List.sum_cons, List.sum_nil] <;> omega)), h2⟩
theorem putL_perm (l : Lvs) (i : Nat) (hi : i < 65536) (h : List Nat) : (putL l (i : Int) h).Perm ((l.filter fun p => decide (p.1 ≠ i)) ++ if h = Z8 then [] else [(i, h)]) := by
  unfold putL
  rw [if_pos (by omega), Int.toNat_natCast]
  obtain ⟨h1, h2⟩ := go_gen i h l [] (decide (h = Z8))
  unfold goL
  by_cases hz : h = Z8
  · have h3 := h2 (decide_eq_true hz)
    rw [if_pos h3, if_pos hz]
    rw [if_neg (by simp [hz]), List.nil_append] at h1
    exact h1
  · rw [if_neg hz]
    by_cases h3 : (List.foldl (stepL i h) ([], decide (h = Z8)) l).2 = true
    · rw [if_pos h3]
      rw [if_pos ⟨h3, decide_eq_false hz⟩, List.nil_append] at h1
      exact h1
    · rw [if_neg h3]
      rw [if_neg (fun h => h3 h.1), List.nil_append, List.append_nil] at h1
      exact h1.append_right _
theorem putL_mem (l : Lvs) (i : Nat) (hi : i < 65536) (h : List Nat) (p : Nat × List Nat) : p ∈ putL l (i : Int) h ↔ (p ∈ l ∧ p.1 ≠ i) ∨ (p = (i, h) ∧ h ≠ Z8) := by
  rw [(putL_perm l i hi h).mem_iff, List.mem_append, List.mem_filter]
  by_cases hz : h = Z8
  · rw [if_pos hz]; simp [hz]
  · rw [if_neg hz]; simp [hz]
theorem putL_out (l : Lvs) (i : Int) (hi : ¬ (0 ≤ i ∧ i < 65536)) (h : List Nat) : putL l i h = l := if_neg hi
theorem putL_ok {l : Lvs} (ok : LvOk l) (i : Int) {h : List Nat} (hh : H8 h) : LvOk (putL l i h) := by
  by_cases hi : 0 ≤ i ∧ i < 65536
  · obtain ⟨i, rfl⟩ := Int.eq_ofNat_of_zero_le hi.1
    have hi2 : i < 65536 := by omega
    have hm := putL_mem l i hi2 h
    refine ⟨?_, fun p hp => ?_, fun p hp => ?_, fun p hp => ?_⟩
    · have hp := (putL_perm l i hi2 h).map (·.1)
      rw [hp.nodup_iff, List.map_append, List.nodup_append]
      refine ⟨ok.nd.sublist (List.filter_sublist.map _), ?_, ?_⟩
      · split <;> simp
      · intro a ha b hb
        obtain ⟨p, hp, rfl⟩ := List.mem_map.1 ha
        rw [List.mem_filter] at hp
        have hne : p.1 ≠ i := by simpa using hp.2
        split at hb
        · cases hb
        · rw [List.map_cons, List.map_nil, List.mem_singleton] at hb
          rw [hb]; exact hne
    · rcases (hm p).1 hp with h | h
      · exact ok.lt p h.1
      · rw [h.1]; exact hi2
    · rcases (hm p).1 hp with h | h
      · exact ok.nz p h.1
      · rw [h.1]; exact h.2
    · rcases (hm p).1 hp with h | h
      · exact ok.h8 p h.1
      · rw [h.1]; exact hh
  · rw [putL_out l i hi]; exact ok
theorem lf_mem {l : Lvs} (ok : LvOk l) {p : Nat × List Nat} (hp : p ∈ l) : lfF l p.1 = p.2 := by
  unfold lfF lfI
  cases hf : l.find? (fun q => (q.1 : Int) == (p.1 : Int)) with
  | none =>
    have := List.find?_eq_none.1 hf p hp
    exact absurd (beq_self_eq_true _) this
  | some q =>
    have h1 := List.find?_some hf
    have h2 := List.mem_of_find?_eq_some hf
    have h3 : q.1 = p.1 := by have := eq_of_beq h1; omega
    obtain ⟨a, ha, e1⟩ := List.mem_iff_getElem.1 h2
    obtain ⟨b, hb, e2⟩ := List.mem_iff_getElem.1 hp
    have := (List.getElem_inj (h₀ := by simpa using ha) (h₁ := by simpa using hb) ok.nd).1 (by simp [e1, e2, h3])
    subst this
    dsimp only
    rw [← e1, e2]
theorem lf_no {l : Lvs} {j : Nat} (h : ∀ p ∈ l, p.1 ≠ j) : lfF l j = Z8 := by
  unfold lfF lfI
  rw [List.find?_eq_none.2 fun p hp e => h p hp (by have := eq_of_beq e; omega)]
theorem lf_out {l : Lvs} (ok : LvOk l) {i : Int} (h : ¬ (0 ≤ i ∧ i < 65536)) : lfI l i = Z8 := by
  unfold lfI
  rw [List.find?_eq_none.2 fun p hp e => h (by have := eq_of_beq e; have := ok.lt p hp; omega)]
end Go.Sha
namespace Go.Proofs.YtaabinhpagbajaaDoor
open Go Go.Vc Go.Sha
theorem lf_put {l : Lvs} (ok : LvOk l) (i : Int) {h : List Nat} (hh : H8 h) : lfF (putL l i h) = putF (lfF l) i h := by
  unfold putF
  by_cases hi : 0 ≤ i ∧ i < 65536
  · rw [if_pos hi]
    have ok2 := putL_ok ok i hh
    obtain ⟨i, rfl⟩ := Int.eq_ofNat_of_zero_le hi.1
    have hi2 : i < 65536 := by omega
    have hm := putL_mem l i hi2 h
    funext j
    rw [Int.toNat_natCast]
    unfold updF
    by_cases hj : j = i
    · rw [if_pos hj]
      subst hj
      by_cases hz : h = Z8
      · rw [hz]
        exact lf_no fun p hp => by
          rcases (hm p).1 (by rw [hz]; exact hp) with h | h
          · exact h.2
          · exact absurd hz h.2
      · exact lf_mem ok2 (p := (j, h)) ((hm _).2 (.inr ⟨rfl, hz⟩))
    · rw [if_neg hj]
      by_cases hx : ∃ p ∈ l, p.1 = j
      · obtain ⟨p, hp, rfl⟩ := hx
        rw [lf_mem ok hp]
        exact lf_mem ok2 ((hm p).2 (.inl ⟨hp, hj⟩))
      · rw [lf_no fun p hp e => hx ⟨p, hp, e⟩]
        exact lf_no fun p hp e => by
          rcases (hm p).1 hp with h | h
          · exact hx ⟨p, h.1, e⟩
          · rw [h.1] at e; exact hj e.symm
  · rw [if_neg hi, putL_out l i hi]
end Go.Proofs.YtaabinhpagbajaaDoor
