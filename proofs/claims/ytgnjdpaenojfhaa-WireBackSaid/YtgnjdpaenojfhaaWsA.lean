/- wire: what was written is read as it was; cut, it ends short. -/
import Derived.Test.YtgnjdpaenojfhaaWrY
import Derived.Test.YtgnjdpaenojfhaaWrW
set_option linter.unusedSimpArgs false
set_option linter.unusedVariables false
namespace Go.Proofs.Ytgnjdpaenojfhaa
open Go Go.Vc Go.Sha
theorem le_cons (n : Nat) : ∀ k, le n (k + 1) = n % 256 :: le (n / 256) k
  | 0 => by simp [le]
  | k + 1 => by
    show le n (k + 1) ++ [n / 2 ^ (8 * (k + 1)) % 256] = _
    rw [le_cons n k]
    show _ = n % 256 :: (le (n / 256) k ++ [n / 256 / 2 ^ (8 * k) % 256])
    rw [Nat.div_div_eq_div_mul, show 256 * 2 ^ (8 * k) = 2 ^ (8 * (k + 1)) from by rw [Nat.mul_add, Nat.pow_add, Nat.mul_comm]]
    rfl
theorem num8_le : ∀ (k n : Nat), n < 2 ^ (8 * k) → num8 (le n k) = n
  | 0, n, h => by
    have : n = 0 := by simpa using h
    subst this; rfl
  | k + 1, n, h => by
    rw [le_cons]
    show n % 256 + 256 * num8 (le (n / 256) k) = n
    rw [num8_le k (n / 256) (by
      rw [Nat.div_lt_iff_lt_mul (by decide)]
      rw [Nat.mul_add, Nat.pow_add] at h
      exact h)]
    omega
theorem plainW_kind {p : PtD} (h : (plainW p).2 = true) : 1 ≤ p.k ∧ p.k ≤ 9 := by
  unfold plainW at h
  split at h
  · omega
  split at h
  · omega
  split at h
  · cases h
  · rename_i h8 h9 hb
    simp only [numBad, not_or] at hb
    omega
theorem rdR_part {p : PtD} (h : (plainW p).2 = true) (hb : p.b.length < 2 ^ 32) (pre rest : List Nat) (c : Nat) (hc : pre.length ≤ c) :
    rdR ((pre ++ ((plainW p).1 ++ rest)).take c) pre.length p.k.toNat = if pre.length + (plainW p).1.length ≤ c then some (pre.length + (plainW p).1.length) else none := by
  have hk := plainW_kind h
  have hdr : ((pre ++ ((plainW p).1 ++ rest)).take c).drop pre.length = ((plainW p).1 ++ rest).take (c - pre.length) := by
    rw [List.drop_take, List.drop_left]
  have hlen : ((pre ++ ((plainW p).1 ++ rest)).take c).length = min c (pre.length + ((plainW p).1.length + rest.length)) := by
    rw [List.length_take, List.length_append, List.length_append]
  unfold rdR
  rw [hlen, hdr]
  by_cases h9 : p.k = 9
  · have e : (plainW p).1 = le p.b.length 4 ++ p.b := by unfold plainW; rw [if_neg (by omega), if_pos h9]
    rw [if_pos (by omega), e]
    have hl : (le p.b.length 4 ++ p.b).length = 4 + p.b.length := by rw [List.length_append, le_len]
    rw [hl]
    by_cases h4 : pre.length + 4 ≤ c
    · rw [if_pos (by omega)]
      have e4 : (((le p.b.length 4 ++ p.b) ++ rest).take (c - pre.length)).take 4 = le p.b.length 4 := by
        rw [List.take_take, Nat.min_eq_left (by omega), List.append_assoc, List.take_append_of_le_length (by rw [le_len]; omega), List.take_of_length_le (by rw [le_len]; omega)]
      rw [e4, num8_le 4 _ hb]
      by_cases h5 : pre.length + (4 + p.b.length) ≤ c
      · rw [if_pos (by omega), if_pos h5, Nat.add_assoc]
      · rw [if_neg (by omega), if_neg h5]
    · rw [if_neg (by omega), if_neg (by omega)]
  · have e : (plainW p).1.length = p.k.toNat := by
      unfold plainW at h ⊢
      by_cases h8 : p.k = 8
      · rw [if_pos h8, p.h8, h8]; rfl
      · rw [if_neg h8, if_neg h9] at h ⊢
        split at h
        · cases h
        · rename_i hbad
          rw [if_neg hbad, le_len]
    rw [if_neg (by omega), if_neg (by omega), e]
    by_cases h5 : pre.length + p.k.toNat ≤ c
    · rw [if_pos (by omega), if_pos h5]
    · rw [if_neg (by omega), if_neg h5]
/-- The bytes of parts that may be written. -/
def catW (ps : List PtD) : List Nat := (ps.map fun p => (plainW p).1).flatten
def okW (ps : List PtD) : Prop := ∀ p ∈ ps, (plainW p).2 = true
def kindsW (ps : List PtD) : List Nat := ps.map fun p => p.k.toNat
theorem foldP_cat : ∀ (ps : List PtD) (s : List Nat), (ps.foldl stepP (s, true)).2 = true → okW ps ∧ (ps.foldl stepP (s, true)).1 = s ++ catW ps
  | [], s, _ => ⟨fun p hp => by (cases hp), by simp [catW]⟩
  | p :: ps, s, h => by
    rw [List.foldl_cons] at h ⊢
    have e : stepP (s, true) p = (s ++ (plainW p).1, (plainW p).2) := rfl
    rw [e] at h ⊢
    cases hp : (plainW p).2 with
    | false =>
      rw [hp, foldP_no] at h
      cases h
    | true =>
      rw [hp] at h
      obtain ⟨h1, h2⟩ := foldP_cat ps _ h
      refine ⟨fun q hq => ?_, by rw [h2]; simp [catW]⟩
      rcases List.mem_cons.1 hq with rfl | hq
      · exact hp
      · exact h1 q hq
/-- What was written without an error. -/
theorem writeW_ok {ps : List PtD} (h20 : fewN ps ≤ 20000) (h : (writeW ps).2 = 0) : okW ps ∧ (writeW ps).1 = catW ps := by
  have hs := fold_same ps [] (by simp only [List.length_nil]; omega)
  cases hp : (ps.foldl stepP ([], true)).2 with
  | false =>
    have := hs.2 hp
    unfold writeW at h
    rw [this] at h
    cases h
  | true =>
    have h1 := hs.1 hp
    obtain ⟨h2, h3⟩ := foldP_cat ps [] hp
    refine ⟨h2, ?_⟩
    unfold writeW
    rw [h1, h3]
    rfl
theorem stepR_kind {l : List Nat} {k d : Nat} {p : PtD} (h : (plainW p).2 = true) : stepR l (k, d, true) p.k.toNat = match rdR l k p.k.toNat with | some q => (q, d + 1, true) | none => (k, d, false) := by
  have hk := plainW_kind h
  unfold stepR
  rw [if_pos rfl, show p.k.toNat % 10 = p.k.toNat from by omega]
  rfl
/-- Read up to a cut. -/
theorem cut_read : ∀ (ps : List PtD) (pre rest : List Nat) (c d : Nat), okW ps → (∀ p ∈ ps, p.b.length < 2 ^ 32) → pre.length ≤ c →
    (pre.length + (catW ps).length ≤ c → (kindsW ps).foldl (stepR ((pre ++ (catW ps ++ rest)).take c)) (pre.length, d, true) = (pre.length + (catW ps).length, d + ps.length, true)) ∧
    (c < pre.length + (catW ps).length → ((kindsW ps).foldl (stepR ((pre ++ (catW ps ++ rest)).take c)) (pre.length, d, true)).2.2 = false)
  | [], pre, rest, c, d, _, _, hc => ⟨fun _ => by simp [kindsW, catW], fun h => by simp [catW] at h; omega⟩
  | p :: ps, pre, rest, c, d, hok, hb, hc => by
    have hp := hok p List.mem_cons_self
    have hpb := hb p List.mem_cons_self
    have ec : catW (p :: ps) = (plainW p).1 ++ catW ps := by simp [catW]
    have er := rdR_part hp hpb pre (catW ps ++ rest) c hc
    have e1 : pre ++ (catW (p :: ps) ++ rest) = pre ++ ((plainW p).1 ++ (catW ps ++ rest)) := by rw [ec, List.append_assoc]
    have e2 : pre ++ ((plainW p).1 ++ (catW ps ++ rest)) = (pre ++ (plainW p).1) ++ (catW ps ++ rest) := by rw [List.append_assoc]
    have hl : (catW (p :: ps)).length = (plainW p).1.length + (catW ps).length := by rw [ec, List.length_append]
    rw [e1, hl]
    show (_ → (kindsW ps).foldl _ (stepR _ (pre.length, d, true) p.k.toNat) = _) ∧ (_ → ((kindsW ps).foldl _ (stepR _ (pre.length, d, true) p.k.toNat)).2.2 = false)
    rw [stepR_kind hp, er]
    by_cases h1 : pre.length + (plainW p).1.length ≤ c
    · rw [if_pos h1, e2]
      have ih := cut_read ps (pre ++ (plainW p).1) rest c (d + 1) (fun q hq => hok q (List.mem_cons_of_mem _ hq)) (fun q hq => hb q (List.mem_cons_of_mem _ hq)) (by rw [List.length_append]; exact h1)
      rw [List.length_append] at ih
      refine ⟨fun h => ?_, fun h => ih.2 (by omega)⟩
      have := ih.1 (by omega)
      rw [List.length_cons, show pre.length + ((plainW p).1.length + (catW ps).length) = pre.length + (plainW p).1.length + (catW ps).length by omega, show d + (ps.length + 1) = d + 1 + ps.length by omega]
      exact this
    · rw [if_neg h1]
      refine ⟨fun h => by omega, fun _ => ?_⟩
      show ((kindsW ps).foldl _ (pre.length, d, false)).2.2 = false
      rw [foldR_no]
end Go.Proofs.Ytgnjdpaenojfhaa
