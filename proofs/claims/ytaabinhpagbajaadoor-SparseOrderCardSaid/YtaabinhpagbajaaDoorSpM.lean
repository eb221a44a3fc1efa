/- sparse: the plain law: proofs lead to the root; how many leaves; the orders. -/
import Derived.Test.YtaabinhpagbajaaDoorSpL
set_option linter.unusedSimpArgs false
set_option linter.unusedVariables false
namespace Go.Sha
open Go.Vc
theorem xor1_odd {a : Nat} (h : a % 2 = 1) : a ^^^ 1 = a - 1 := by
  apply Nat.eq_of_testBit_eq
  intro j
  rw [Nat.testBit_xor]
  cases j with
  | zero =>
    have h2 : (a - 1) % 2 = 0 := by omega
    simp [Nat.testBit_zero, h, h2]
  | succ j =>
    rw [Nat.testBit_succ, Nat.testBit_succ, Nat.testBit_succ, show (a - 1) / 2 = a / 2 by omega]
    simp
theorem xor1_even {a : Nat} (h : a % 2 = 0) : a ^^^ 1 = a + 1 := by
  apply Nat.eq_of_testBit_eq
  intro j
  rw [Nat.testBit_xor]
  cases j with
  | zero =>
    have h2 : (a + 1) % 2 = 1 := by omega
    simp [Nat.testBit_zero, h, h2]
  | succ j =>
    rw [Nat.testBit_succ, Nat.testBit_succ, Nat.testBit_succ, show (a + 1) / 2 = a / 2 by omega]
    simp
theorem up_node {F : Nat → List Nat} (hF : okF F) (i : Nat) : ∀ k, k ≤ 16 → upT i (rowOf (fun k => nodeF F k (sib i k)) 16) (F i) k = nodeF F k (i / 2 ^ k)
  | 0, _ => by show F i = F _; rw [Nat.pow_zero, Nat.div_one]
  | k + 1, hk => by
    have hp : pc 8 (rowOf (fun k => nodeF F k (sib i k)) 16) k = nodeF F k (sib i k) := pc_rowOf (fun k => (nodeF_8 hF k _).1) hk
    have e : i / 2 ^ (k + 1) = i / 2 ^ k / 2 := by rw [Nat.pow_succ, Nat.div_div_eq_div_mul]
    unfold upT
    rw [hp, up_node hF i k (by omega), e]
    unfold sib
    generalize i / 2 ^ k = a
    show _ = overH (nodeF F k (2 * (a / 2))) (nodeF F k (2 * (a / 2) + 1))
    by_cases h : a % 2 = 1
    · rw [if_pos h, xor1_odd h, show a - 1 = 2 * (a / 2) by omega, show 2 * (a / 2) + 1 = a by omega]
    · rw [if_neg h, xor1_even (by omega), show a + 1 = 2 * (a / 2) + 1 by omega]
      congr 2
      omega
end Go.Sha
namespace Go.Proofs.YtaabinhpagbajaaDoor
open Go Go.Vc Go.Sha
theorem chk_good {F : Nat → List Nat} (hF : okF F) (i : Nat) (hi : i < 65536) : chkT (nodeF F 16 0) (i : Int) (F i) (prfT (nodeF F) (i : Int)) = true := by
  have e1 : inB (i : Int) = true := decide_eq_true (by omega)
  unfold chkT prfT
  rw [e1, if_pos rfl, Int.toNat_natCast, up_node hF i 16 (Nat.le_refl _), show i / 2 ^ 16 = 0 from Nat.div_eq_of_lt hi]
  simp
theorem rep_prf {tb mb : Nat} {x : Tr tb mb} {F : Nat → List Nat} (h : RepT x F) (i : Int) : prfT x.at i = prfT (nodeF F) i := by
  unfold prfT
  split
  · exact rowOf_congr fun k hk => h.1 k (by omega) _
  · rfl
/-- How many entries a tree may hold. -/
theorem rep_len {tb mb : Nat} {x : Tr tb mb} {F : Nat → List Nat} (h : RepT x F) (hz : ∀ i, 65536 ≤ i → F i = Z8) : x.es.length ≤ 1114112 := by
  have hn : ∀ y ∈ x.es, y.k ≤ 16 ∧ y.i < 65536 := by
    intro y hy
    have h1 : x.at y.k y.i = y.h := mpGet_mem x.ok.nd hy
    have h2 := x.ok.nz y hy
    have hk : y.k ≤ 16 := by
      rcases Nat.lt_or_ge 16 y.k with h' | h'
      · exact absurd (h1.symm.trans (h.2 _ h' _)) h2
      · exact h'
    refine ⟨hk, ?_⟩
    rcases Nat.lt_or_ge y.i 65536 with h' | h'
    · exact h'
    · exfalso
      apply h2
      rw [← h1, h.1 _ hk]
      refine nodeF_zero fun i hi => hz i ?_
      have := Nat.div_le_self i (2 ^ y.k)
      omega
  have hs := List.Nodup.length_le_of_subset x.ok.nd (l₂ := (List.range 17).flatMap fun k => (List.range 65536).map fun i => (k, i)) (fun p hp => by
    obtain ⟨y, hy, rfl⟩ := List.mem_map.1 hp
    have := hn y hy
    exact List.mem_flatMap.2 ⟨y.k, List.mem_range.2 (by omega), List.mem_map.2 ⟨y.i, List.mem_range.2 this.2, rfl⟩⟩)
  rw [List.length_map, List.length_flatMap] at hs
  simp only [List.length_map, List.length_range] at hs
  have e : ((List.range 17).map fun _ => 65536).sum = 1114112 := by rw [List.map_const', List.length_range]; decide
  rwa [e] at hs
theorem nd0 : ∀ {es : List MpE}, (es.map fun y => (y.k, y.i)).Nodup → (∀ y ∈ es, y.k = 0) → (es.map (·.i)).Nodup
  | [], _, _ => List.nodup_nil
  | y :: es, h, hk => by
    rw [List.map_cons, List.nodup_cons] at h ⊢
    refine ⟨fun hm => h.1 ?_, nd0 h.2 fun z hz => hk z (List.mem_cons_of_mem _ hz)⟩
    obtain ⟨z, hz, e⟩ := List.mem_map.1 hm
    exact List.mem_map.2 ⟨z, hz, by rw [e, hk z (List.mem_cons_of_mem _ hz), hk y List.mem_cons_self]⟩
theorem rep_cnt {tb mb : Nat} {x : Tr tb mb} {l : Lvs} (ok : LvOk l) (h : RepT x (lfF l)) : cnt0 x.es = l.length := by
  have h1 : ((x.es.filter fun y => y.k == 0).map (·.i)).Perm (l.map (·.1)) := by
    rw [List.perm_ext_iff_of_nodup ?_ ok.nd]
    · intro i
      have h0 : x.at 0 i = lfF l i := h.1 0 (by omega) i
      constructor
      · intro hi
        obtain ⟨y, hy, rfl⟩ := List.mem_map.1 hi
        rw [List.mem_filter] at hy
        have hk : y.k = 0 := eq_of_beq hy.2
        have h2 : x.at 0 y.i = y.h := by rw [← hk]; exact mpGet_mem x.ok.nd hy.1
        by_cases hp : ∃ p ∈ l, p.1 = y.i
        · obtain ⟨p, hp, e⟩ := hp; exact List.mem_map.2 ⟨p, hp, e⟩
        · exact absurd (h2.symm.trans (h0.trans (lf_no fun p hp' e => hp ⟨p, hp', e⟩))) (x.ok.nz y hy.1)
      · intro hi
        obtain ⟨p, hp, rfl⟩ := List.mem_map.1 hi
        rw [lf_mem ok hp] at h0
        by_cases hy : ∃ y ∈ x.es, y.k = 0 ∧ y.i = p.1
        · obtain ⟨y, hy, e1, e2⟩ := hy
          exact List.mem_map.2 ⟨y, List.mem_filter.2 ⟨hy, by rw [e1]; rfl⟩, e2⟩
        · have : x.at 0 p.1 = Z8 := mpGet_no fun y hy' e => hy ⟨y, hy', e⟩
          exact absurd (h0.symm.trans this) (ok.nz p hp)
    · exact nd0 (x.ok.nd.sublist (List.filter_sublist.map _)) fun y hy => eq_of_beq (List.mem_filter.1 hy).2
  have := h1.length_eq
  rw [List.length_map, List.length_map] at this
  exact this
theorem mpOk_nil : MpOk [] 0 where
  nd := List.nodup_nil
  nz := fun _ h => by cases h
  h8 := fun _ h => by cases h
  bn := fun _ h => by cases h
  bd := List.nodup_nil
def trNil (tb mb : Nat) : Tr tb mb := ⟨[], 0, mpOk_nil⟩
theorem lvOk_nil : LvOk [] where
  nd := List.nodup_nil
  lt := fun _ h => by cases h
  nz := fun _ h => by cases h
  h8 := fun _ h => by cases h
theorem rep_nil {tb mb : Nat} : RepT (trNil tb mb) (lfF []) :=
  ⟨fun q _ j => (mpGet_no (fun _ h => by cases h)).trans (nodeF_zero fun _ _ => rfl).symm, fun q _ j => mpGet_no (fun _ h => by cases h)⟩
end Go.Proofs.YtaabinhpagbajaaDoor
