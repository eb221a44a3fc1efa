import Derived.Test.YtfhdfpejjgmdcaaGreatDoorSpK
set_option linter.unusedSimpArgs false
set_option linter.unusedVariables false
/- sparse: the plain law of the reference's Put. -/
namespace Go.Sha
open Go.Vc
theorem go_gen (i : Nat) (h : List Nat) : ∀ (l a : Lvs) (dn : Bool), ((l.foldl (stepL i h) (a, dn)).1.Perm ((a ++ l.filter fun p => decide (p.1 ≠ i)) ++ (if (l.foldl (stepL i h) (a, dn)).2 = true ∧ dn = false then [(i, h)] else []))) ∧ (dn = true → (l.foldl (stepL i h) (a, dn)).2 = true) := by
  intro l
  induction l with
  | nil => intro a dn; refine ⟨?_, fun e => e⟩; cases dn <;> simp
  | cons p l ih =>
    intro a dn
    rw [List.foldl_cons]
    by_cases hc : dn = false ∧ i ≤ p.1
    · obtain ⟨rfl, hc2⟩ := hc
      by_cases hp : p.1 = i
      · have e : stepL i h (a, false) p = (a ++ [(i, h)], true) := by unfold stepL; rw [if_pos hp, if_pos ⟨rfl, hc2⟩]
        rw [e]
        obtain ⟨h1, h2⟩ := ih (a ++ [(i, h)]) true
        have h3 := h2 rfl
        refine ⟨?_, fun h => by cases h⟩
        rw [if_pos ⟨h3, rfl⟩]
        rw [if_neg (by simp)] at h1
        rw [List.filter_cons, if_neg (by simp [hp])]
        exact h1.trans (perm_of fun f => by (simp only [List.map_append, List.map_cons, List.map_nil, List.sum_append, List.sum_cons, List.sum_nil] <;> omega))
      · have e : stepL i h (a, false) p = (a ++ [(i, h)] ++ [p], true) := by unfold stepL; rw [if_neg hp, if_pos ⟨rfl, hc2⟩]
        rw [e]
        obtain ⟨h1, h2⟩ := ih (a ++ [(i, h)] ++ [p]) true
        have h3 := h2 rfl
        refine ⟨?_, fun h => by cases h⟩
        rw [if_pos ⟨h3, rfl⟩]
        rw [if_neg (by simp)] at h1
        rw [List.filter_cons, if_pos (by simp [hp])]
        exact h1.trans (perm_of fun f => by (simp only [List.map_append, List.map_cons, List.map_nil, List.sum_append, List.sum_cons, List.sum_nil] <;> omega))
    · by_cases hp : p.1 = i
      · have e : stepL i h (a, dn) p = (a, dn) := by unfold stepL; rw [if_pos hp, if_neg hc]
        rw [e, List.filter_cons, if_neg (by simp [hp])]
        exact ih a dn
      · have e : stepL i h (a, dn) p = (a ++ [p], dn) := by unfold stepL; rw [if_neg hp, if_neg hc]
        rw [e, List.filter_cons, if_pos (by simp [hp])]
        obtain ⟨h1, h2⟩ := ih (a ++ [p]) dn
        exact ⟨h1.trans (perm_of fun f => by (simp only [List.map_append, List.map_cons, List.map_nil, List.sum_append, List.sum_cons, List.sum_nil] <;> omega)), h2⟩
theorem putL_perm (l : Lvs) (i : Nat) (hi : i < 65536) (h : List Nat) : (putL l (i : Int) h).Perm ((l.filter fun p => decide (p.1 ≠ i)) ++ if h = Z8 then [] else [(i, h)]) := by
  unfold putL
  rw [if_pos (by omega), Int.toNat_natCast]
  obtain ⟨h1, h2⟩ := go_gen i h l [] (decide (h = Z8))
  unfold goL
  by_cases hz : h = Z8
  · have h3 := h2 (decide_eq_true hz)
    rw [if_pos h3, if_pos hz]
    rw [if_neg (by simp [hz]), List.nil_append] at h1
    exact h1
  · rw [if_neg hz]
    by_cases h3 : (List.foldl (stepL i h) ([], decide (h = Z8)) l).2 = true
    · rw [if_pos h3]
      rw [if_pos ⟨h3, decide_eq_false hz⟩, List.nil_append] at h1
      exact h1
    · rw [if_neg h3]
      rw [if_neg (fun h => h3 h.1), List.nil_append, List.append_nil] at h1
      exact h1.append_right _
theorem putL_mem (l : Lvs) (i : Nat) (hi : i < 65536) (h : List Nat) (p : Nat × List Nat) : p ∈ putL l (i : Int) h ↔ (p ∈ l ∧ p.1 ≠ i) ∨ (p = (i, h) ∧ h ≠ Z8) := by
  rw [(putL_perm l i hi h).mem_iff, List.mem_append, List.mem_filter]
  by_cases hz : h = Z8
  · rw [if_pos hz]; simp [hz]
  · rw [if_neg hz]; simp [hz]
theorem putL_out (l : Lvs) (i : Int) (hi : ¬ (0 ≤ i ∧ i < 65536)) (h : List Nat) : putL l i h = l := if_neg hi
theorem putL_ok {l : Lvs} (ok : LvOk l) (i : Int) {h : List Nat} (hh : H8 h) : LvOk (putL l i h) := by
  by_cases hi : 0 ≤ i ∧ i < 65536
  · obtain ⟨i, rfl⟩ := Int.eq_ofNat_of_zero_le hi.1
    have hi2 : i < 65536 := by omega
    have hm := putL_mem l i hi2 h
    refine ⟨?_, fun p hp => ?_, fun p hp => ?_, fun p hp => ?_⟩
    · have hp := (putL_perm l i hi2 h).map (·.1)
      rw [hp.nodup_iff, List.map_append, List.nodup_append]
      refine ⟨ok.nd.sublist (List.filter_sublist.map _), ?_, ?_⟩
      · split <;> simp
      · intro a ha b hb
        obtain ⟨p, hp, rfl⟩ := List.mem_map.1 ha
        rw [List.mem_filter] at hp
        have hne : p.1 ≠ i := by simpa using hp.2
        split at hb
        · cases hb
        · rw [List.map_cons, List.map_nil, List.mem_singleton] at hb
          rw [hb]; exact hne
    · rcases (hm p).1 hp with h | h
      · exact ok.lt p h.1
      · rw [h.1]; exact hi2
    · rcases (hm p).1 hp with h | h
      · exact ok.nz p h.1
      · rw [h.1]; exact h.2
    · rcases (hm p).1 hp with h | h
      · exact ok.h8 p h.1
      · rw [h.1]; exact hh
  · rw [putL_out l i hi]; exact ok
theorem lf_mem {l : Lvs} (ok : LvOk l) {p : Nat × List Nat} (hp : p ∈ l) : lfF l p.1 = p.2 := by
  unfold lfF lfI
  cases hf : l.find? (fun q => (q.1 : Int) == (p.1 : Int)) with
  | none =>
    have := List.find?_eq_none.1 hf p hp
    exact absurd (beq_self_eq_true _) this
  | some q =>
    have h1 := List.find?_some hf
    have h2 := List.mem_of_find?_eq_some hf
    have h3 : q.1 = p.1 := by have := eq_of_beq h1; omega
    obtain ⟨a, ha, e1⟩ := List.mem_iff_getElem.1 h2
    obtain ⟨b, hb, e2⟩ := List.mem_iff_getElem.1 hp
    have := (List.getElem_inj (h₀ := by simpa using ha) (h₁ := by simpa using hb) ok.nd).1 (by simp [e1, e2, h3])
    subst this
    dsimp only
    rw [← e1, e2]
theorem lf_no {l : Lvs} {j : Nat} (h : ∀ p ∈ l, p.1 ≠ j) : lfF l j = Z8 := by
  unfold lfF lfI
  rw [List.find?_eq_none.2 fun p hp e => h p hp (by have := eq_of_beq e; omega)]
theorem lf_out {l : Lvs} (ok : LvOk l) {i : Int} (h : ¬ (0 ≤ i ∧ i < 65536)) : lfI l i = Z8 := by
  unfold lfI
  rw [List.find?_eq_none.2 fun p hp e => h (by have := eq_of_beq e; have := ok.lt p hp; omega)]
end Go.Sha
namespace Go.Proofs.YtfhdfpejjgmdcaaGreatDoor
open Go Go.Vc Go.Sha
theorem lf_put {l : Lvs} (ok : LvOk l) (i : Int) {h : List Nat} (hh : H8 h) : lfF (putL l i h) = putF (lfF l) i h := by
  unfold putF
  by_cases hi : 0 ≤ i ∧ i < 65536
  · rw [if_pos hi]
    have ok2 := putL_ok ok i hh
    obtain ⟨i, rfl⟩ := Int.eq_ofNat_of_zero_le hi.1
    have hi2 : i < 65536 := by omega
    have hm := putL_mem l i hi2 h
    funext j
    rw [Int.toNat_natCast]
    unfold updF
    by_cases hj : j = i
    · rw [if_pos hj]
      subst hj
      by_cases hz : h = Z8
      · rw [hz]
        exact lf_no fun p hp => by
          rcases (hm p).1 (by rw [hz]; exact hp) with h | h
          · exact h.2
          · exact absurd hz h.2
      · exact lf_mem ok2 (p := (j, h)) ((hm _).2 (.inr ⟨rfl, hz⟩))
    · rw [if_neg hj]
      by_cases hx : ∃ p ∈ l, p.1 = j
      · obtain ⟨p, hp, rfl⟩ := hx
        rw [lf_mem ok hp]
        exact lf_mem ok2 ((hm p).2 (.inl ⟨hp, hj⟩))
      · rw [lf_no fun p hp e => hx ⟨p, hp, e⟩]
        exact lf_no fun p hp e => by
          rcases (hm p).1 hp with h | h
          · exact hx ⟨p, h.1, e⟩
          · rw [h.1] at e; exact hj e.symm
  · rw [if_neg hi, putL_out l i hi]
end Go.Proofs.YtfhdfpejjgmdcaaGreatDoor

/- sparse: the plain law: proofs lead to the root; how many leaves; the orders. -/
namespace Go.Sha
open Go.Vc
theorem xor1_odd {a : Nat} (h : a % 2 = 1) : a ^^^ 1 = a - 1 := by
  apply Nat.eq_of_testBit_eq
  intro j
  rw [Nat.testBit_xor]
  cases j with
  | zero =>
    have h2 : (a - 1) % 2 = 0 := by omega
    simp [Nat.testBit_zero, h, h2]
  | succ j =>
    rw [Nat.testBit_succ, Nat.testBit_succ, Nat.testBit_succ, show (a - 1) / 2 = a / 2 by omega]
    simp
theorem xor1_even {a : Nat} (h : a % 2 = 0) : a ^^^ 1 = a + 1 := by
  apply Nat.eq_of_testBit_eq
  intro j
  rw [Nat.testBit_xor]
  cases j with
  | zero =>
    have h2 : (a + 1) % 2 = 1 := by omega
    simp [Nat.testBit_zero, h, h2]
  | succ j =>
    rw [Nat.testBit_succ, Nat.testBit_succ, Nat.testBit_succ, show (a + 1) / 2 = a / 2 by omega]
    simp
theorem up_node {F : Nat → List Nat} (hF : okF F) (i : Nat) : ∀ k, k ≤ 16 → upT i (rowOf (fun k => nodeF F k (sib i k)) 16) (F i) k = nodeF F k (i / 2 ^ k)
  | 0, _ => by show F i = F _; rw [Nat.pow_zero, Nat.div_one]
  | k + 1, hk => by
    have hp : pc 8 (rowOf (fun k => nodeF F k (sib i k)) 16) k = nodeF F k (sib i k) := pc_rowOf (fun k => (nodeF_8 hF k _).1) hk
    have e : i / 2 ^ (k + 1) = i / 2 ^ k / 2 := by rw [Nat.pow_succ, Nat.div_div_eq_div_mul]
    unfold upT
    rw [hp, up_node hF i k (by omega), e]
    unfold sib
    generalize i / 2 ^ k = a
    show _ = overH (nodeF F k (2 * (a / 2))) (nodeF F k (2 * (a / 2) + 1))
    by_cases h : a % 2 = 1
    · rw [if_pos h, xor1_odd h, show a - 1 = 2 * (a / 2) by omega, show 2 * (a / 2) + 1 = a by omega]
    · rw [if_neg h, xor1_even (by omega), show a + 1 = 2 * (a / 2) + 1 by omega]
      congr 2
      omega
end Go.Sha
namespace Go.Proofs.YtfhdfpejjgmdcaaGreatDoor
open Go Go.Vc Go.Sha
theorem chk_good {F : Nat → List Nat} (hF : okF F) (i : Nat) (hi : i < 65536) : chkT (nodeF F 16 0) (i : Int) (F i) (prfT (nodeF F) (i : Int)) = true := by
  have e1 : inB (i : Int) = true := decide_eq_true (by omega)
  unfold chkT prfT
  rw [e1, if_pos rfl, Int.toNat_natCast, up_node hF i 16 (Nat.le_refl _), show i / 2 ^ 16 = 0 from Nat.div_eq_of_lt hi]
  simp
theorem rep_prf {tb mb : Nat} {x : Tr tb mb} {F : Nat → List Nat} (h : RepT x F) (i : Int) : prfT x.at i = prfT (nodeF F) i := by
  unfold prfT
  split
  · exact rowOf_congr fun k hk => h.1 k (by omega) _
  · rfl
/-- How many entries a tree may hold. -/
theorem rep_len {tb mb : Nat} {x : Tr tb mb} {F : Nat → List Nat} (h : RepT x F) (hz : ∀ i, 65536 ≤ i → F i = Z8) : x.es.length ≤ 1114112 := by
  have hn : ∀ y ∈ x.es, y.k ≤ 16 ∧ y.i < 65536 := by
    intro y hy
    have h1 : x.at y.k y.i = y.h := mpGet_mem x.ok.nd hy
    have h2 := x.ok.nz y hy
    have hk : y.k ≤ 16 := by
      rcases Nat.lt_or_ge 16 y.k with h' | h'
      · exact absurd (h1.symm.trans (h.2 _ h' _)) h2
      · exact h'
    refine ⟨hk, ?_⟩
    rcases Nat.lt_or_ge y.i 65536 with h' | h'
    · exact h'
    · exfalso
      apply h2
      rw [← h1, h.1 _ hk]
      refine nodeF_zero fun i hi => hz i ?_
      have := Nat.div_le_self i (2 ^ y.k)
      omega
  have hs := List.Nodup.length_le_of_subset x.ok.nd (l₂ := (List.range 17).flatMap fun k => (List.range 65536).map fun i => (k, i)) (fun p hp => by
    obtain ⟨y, hy, rfl⟩ := List.mem_map.1 hp
    have := hn y hy
    exact List.mem_flatMap.2 ⟨y.k, List.mem_range.2 (by omega), List.mem_map.2 ⟨y.i, List.mem_range.2 this.2, rfl⟩⟩)
  rw [List.length_map, List.length_flatMap] at hs
  simp only [List.length_map, List.length_range] at hs
  have e : ((List.range 17).map fun _ => 65536).sum = 1114112 := by rw [List.map_const', List.length_range]; decide
  rwa [e] at hs
theorem nd0 : ∀ {es : List MpE}, (es.map fun y => (y.k, y.i)).Nodup → (∀ y ∈ es, y.k = 0) → (es.map (·.i)).Nodup
  | [], _, _ => List.nodup_nil
  | y :: es, h, hk => by
    rw [List.map_cons, List.nodup_cons] at h ⊢
    refine ⟨fun hm => h.1 ?_, nd0 h.2 fun z hz => hk z (List.mem_cons_of_mem _ hz)⟩
    obtain ⟨z, hz, e⟩ := List.mem_map.1 hm
    exact List.mem_map.2 ⟨z, hz, by rw [e, hk z (List.mem_cons_of_mem _ hz), hk y List.mem_cons_self]⟩
theorem rep_cnt {tb mb : Nat} {x : Tr tb mb} {l : Lvs} (ok : LvOk l) (h : RepT x (lfF l)) : cnt0 x.es = l.length := by
  have h1 : ((x.es.filter fun y => y.k == 0).map (·.i)).Perm (l.map (·.1)) := by
    rw [List.perm_ext_iff_of_nodup ?_ ok.nd]
    · intro i
      have h0 : x.at 0 i = lfF l i := h.1 0 (by omega) i
      constructor
      · intro hi
        obtain ⟨y, hy, rfl⟩ := List.mem_map.1 hi
        rw [List.mem_filter] at hy
        have hk : y.k = 0 := eq_of_beq hy.2
        have h2 : x.at 0 y.i = y.h := by rw [← hk]; exact mpGet_mem x.ok.nd hy.1
        by_cases hp : ∃ p ∈ l, p.1 = y.i
        · obtain ⟨p, hp, e⟩ := hp; exact List.mem_map.2 ⟨p, hp, e⟩
        · exact absurd (h2.symm.trans (h0.trans (lf_no fun p hp' e => hp ⟨p, hp', e⟩))) (x.ok.nz y hy.1)
      · intro hi
        obtain ⟨p, hp, rfl⟩ := List.mem_map.1 hi
        rw [lf_mem ok hp] at h0
        by_cases hy : ∃ y ∈ x.es, y.k = 0 ∧ y.i = p.1
        · obtain ⟨y, hy, e1, e2⟩ := hy
          exact List.mem_map.2 ⟨y, List.mem_filter.2 ⟨hy, by rw [e1]; rfl⟩, e2⟩
        · have : x.at 0 p.1 = Z8 := mpGet_no fun y hy' e => hy ⟨y, hy', e⟩
          exact absurd (h0.symm.trans this) (ok.nz p hp)
    · exact nd0 (x.ok.nd.sublist (List.filter_sublist.map _)) fun y hy => eq_of_beq (List.mem_filter.1 hy).2
  have := h1.length_eq
  rw [List.length_map, List.length_map] at this
  exact this
theorem mpOk_nil : MpOk [] 0 where
  nd := List.nodup_nil
  nz := fun _ h => by cases h
  h8 := fun _ h => by cases h
  bn := fun _ h => by cases h
  bd := List.nodup_nil
def trNil (tb mb : Nat) : Tr tb mb := ⟨[], 0, mpOk_nil⟩
theorem lvOk_nil : LvOk [] where
  nd := List.nodup_nil
  lt := fun _ h => by cases h
  nz := fun _ h => by cases h
  h8 := fun _ h => by cases h
theorem rep_nil {tb mb : Nat} : RepT (trNil tb mb) (lfF []) :=
  ⟨fun q _ j => (mpGet_no (fun _ h => by cases h)).trans (nodeF_zero fun _ _ => rfl).symm, fun q _ j => mpGet_no (fun _ h => by cases h)⟩
end Go.Proofs.YtfhdfpejjgmdcaaGreatDoor
