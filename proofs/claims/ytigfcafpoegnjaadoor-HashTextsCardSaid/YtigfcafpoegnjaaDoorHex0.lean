/- Digits and back: plain. -/
import Derived.Test.YtigfcafpoegnjaaDoorDig4
namespace Go.Sha
open Go.Vc

theorem dig_hexD' : ∀ k : Fin 16, dig (hexD.getD k.val 0) = (k.val : Int) := by decide
theorem dig_hexD (k : Nat) (h : k < 16) : dig (hexD.getD k 0) = (k : Int) := dig_hexD' ⟨k, h⟩
theorem digN_hexD (k : Nat) (h : k < 16) : digN (hexD.getD k 0) = k := by unfold digN; rw [dig_hexD k h]; rfl
theorem hexD_dig' : ∀ c : Fin 256, 0 ≤ dig c.val → hexD.getD (digN c.val) 0 = c.val := by decide +kernel
theorem hexD_dig (c : Nat) (hc : c < 256) (h : 0 ≤ dig c) : hexD.getD (digN c) 0 = c := hexD_dig' ⟨c, hc⟩ h
theorem hex_getD (a : List Nat) : ∀ j, j < a.length → (hex a).getD (2 * j) 0 = hexD.getD (a.getD j 0 / 16) 0 ∧ (hex a).getD (2 * j + 1) 0 = hexD.getD (a.getD j 0 % 16) 0 := by
  induction a with
  | nil => intro j hj; cases hj
  | cons x a ih =>
    intro j hj
    have e : hex (x :: a) = hexD.getD (x / 16) 0 :: hexD.getD (x % 16) 0 :: hex a := rfl
    rw [e]
    cases j with
    | zero => exact ⟨rfl, rfl⟩
    | succ j =>
      have := ih j (by simpa using hj)
      rw [show 2 * (j + 1) = 2 * j + 1 + 1 by omega]
      exact this
theorem readOk_hex (a : List Nat) (ha : a.length = 8) (hb : ∀ x ∈ a, x < 256) : readOk (hex a) = true := by
  refine readOk_of _ (by rw [hex_len, ha]) ?_
  intro j hj
  have h := hex_getD a (j / 2) (by omega)
  have hx : a.getD (j / 2) 0 < 256 := by
    rw [List.getD_eq_getElem?_getD]
    cases e : a[j / 2]? with
    | none => decide
    | some x => exact hb x (List.mem_of_getElem? e)
  rcases Nat.mod_two_eq_zero_or_one j with e | e
  · rw [show j = 2 * (j / 2) by omega, h.1, dig_hexD _ (by omega)]; omega
  · rw [show j = 2 * (j / 2) + 1 by omega, h.2, dig_hexD _ (by omega)]; omega
theorem nibs_hex (a : List Nat) (ha : a.length = 8) (hb : ∀ x ∈ a, x < 256) : nibs (hex a) 16 = a := by
  apply List.ext_getElem
  · rw [nibs_len, ha]
  · intro k h1 h2
    have h := hex_getD a k h2
    have hg : a.getD k 0 = a[k] := by simp [List.getD_eq_getElem?_getD, h2]
    have hx := hb _ (List.getElem_mem h2)
    rw [nibs_len] at h1
    simp only [nibs, List.getElem_map, List.getElem_range, nib]
    rw [if_pos (by omega), h.1, h.2, hg, digN_hexD _ (by omega), digN_hexD _ (by omega)]
    omega
theorem readH_hex (a : List Nat) (ha : a.length = 8) (hb : ∀ x ∈ a, x < 256) : readH (hex a) = a := by
  unfold readH
  rw [if_pos (readOk_hex a ha hb), nibs_hex a ha hb]
theorem readOk_spec {s : List Nat} (h : readOk s = true) : s.length = 16 ∧ ∀ c ∈ s, 0 ≤ dig c := by
  simp only [readOk, Bool.and_eq_true, decide_eq_true_eq, List.all_eq_true] at h
  exact h
theorem hex_readH (s : List Nat) (hs : ∀ x ∈ s, x < 256) (h : readOk s = true) : hex (readH s) = s := by
  obtain ⟨hl, hd⟩ := readOk_spec h
  unfold readH
  rw [if_pos h]
  apply List.ext_getElem
  · rw [hex_len, nibs_len, hl]
  · intro k h1 h2
    have hk : k / 2 < (nibs s 16).length := by rw [nibs_len]; omega
    have hg := hex_getD (nibs s 16) (k / 2) hk
    rw [nibs_at s 16 _ (by omega)] at hg
    have hn : nib s 16 (k / 2) = 16 * digN (s.getD (2 * (k / 2)) 0) + digN (s.getD (2 * (k / 2) + 1) 0) := by
      unfold nib
      rw [if_pos (by omega)]
    rw [hn] at hg
    have l0 := digN_lt (s.getD (2 * (k / 2)) 0)
    have l1 := digN_lt (s.getD (2 * (k / 2) + 1) 0)
    have gk : s.getD k 0 = s[k] := by simp [List.getD_eq_getElem?_getD, h2]
    have gh : (hex (nibs s 16)).getD k 0 = (hex (nibs s 16))[k] := by simp [List.getD_eq_getElem?_getD, h1]
    have hx := hexD_dig s[k] (hs _ (List.getElem_mem h2)) (hd _ (List.getElem_mem h2))
    rw [← gh]
    rcases Nat.mod_two_eq_zero_or_one k with e | e
    · have e2 : 2 * (k / 2) = k := by omega
      rw [e2] at hg l0
      rw [hg.1, show (16 * digN (s.getD k 0) + digN (s.getD (k + 1) 0)) / 16 = digN (s.getD k 0) by rw [e2] at l1; omega, gk, hx]
    · have e2 : 2 * (k / 2) + 1 = k := by omega
      rw [e2] at hg l1
      rw [hg.2, show (16 * digN (s.getD (2 * (k / 2)) 0) + digN (s.getD k 0)) % 16 = digN (s.getD k 0) by omega, gk, hx]
theorem hexD_mono' : ∀ a b : Fin 16, (hexD.getD a.val 0 < hexD.getD b.val 0) ↔ a.val < b.val := by decide
theorem hexD_mono {a b : Nat} (ha : a < 16) (hb : b < 16) : (hexD.getD a 0 < hexD.getD b 0) ↔ a < b := hexD_mono' ⟨a, ha⟩ ⟨b, hb⟩
theorem hexD_inj {a b : Nat} (ha : a < 16) (hb : b < 16) : (hexD.getD a 0 == hexD.getD b 0) = (a == b) := by
  rw [Bool.eq_iff_iff, beq_iff_eq, beq_iff_eq]
  refine ⟨fun h => ?_, fun h => by rw [h]⟩
  have h1 := hexD_mono ha hb
  have h2 := hexD_mono hb ha
  omega
theorem lessL_hex : ∀ {a b : List Nat}, (∀ x ∈ a, x < 256) → (∀ x ∈ b, x < 256) → lessL (hex a) (hex b) = lessL a b
  | [], [], _, _ => rfl
  | [], _ :: _, _, _ => rfl
  | _ :: _, [], _, _ => rfl
  | x :: a, y :: b, ha, hb => by
    have ih := lessL_hex (fun z hz => ha z (List.mem_cons_of_mem _ hz)) (fun z hz => hb z (List.mem_cons_of_mem _ hz))
    have hx := ha x (by simp)
    have hy := hb y (by simp)
    have e : ∀ z l, hex (z :: l) = hexD.getD (z / 16) 0 :: hexD.getD (z % 16) 0 :: hex l := fun _ _ => rfl
    rw [e, e]
    simp only [lessL, ih, hexD_inj (show x / 16 < 16 by omega) (show y / 16 < 16 by omega), hexD_inj (show x % 16 < 16 by omega) (show y % 16 < 16 by omega)]
    have m1 := hexD_mono (show x / 16 < 16 by omega) (show y / 16 < 16 by omega)
    have m2 := hexD_mono (show x % 16 < 16 by omega) (show y % 16 < 16 by omega)
    rw [Bool.eq_iff_iff]
    simp only [Bool.or_eq_true, decide_eq_true_eq, Bool.and_eq_true, beq_iff_eq, m1, m2]
    constructor
    · rintro (h | ⟨h, h' | ⟨h', h''⟩⟩)
      · exact .inl (by omega)
      · exact .inl (by omega)
      · exact .inr ⟨by omega, h''⟩
    · rintro (h | ⟨h, h'⟩)
      · rcases Nat.lt_or_ge (x / 16) (y / 16) with h1 | h1
        · exact .inl h1
        · exact .inr ⟨by omega, .inl (by omega)⟩
      · exact .inr ⟨by omega, .inr ⟨by omega, h'⟩⟩
end Go.Sha
