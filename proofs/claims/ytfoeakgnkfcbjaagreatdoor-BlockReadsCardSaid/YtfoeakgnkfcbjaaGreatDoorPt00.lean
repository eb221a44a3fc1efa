/- Lemmas. -/

set_option linter.unusedSimpArgs false
set_option linter.unusedVariables false
section
/- SHA-256 on plain numbers. -/
namespace Go.Sha

/-- x turned to the right by n. -/
def rotr (n x : Nat) : Nat := (x * 2 ^ (32 - n)) % 4294967296 ||| x / 2 ^ n
def sg0 (x : Nat) : Nat := rotr 7 x ^^^ rotr 18 x ^^^ x / 2 ^ 3
def sg1 (x : Nat) : Nat := rotr 17 x ^^^ rotr 19 x ^^^ x / 2 ^ 10
/-- The first k bytes from a place on, the highest first. -/
def bpart (b : List Nat) (at_ : Nat) : Nat → Nat
  | 0 => 0
  | k + 1 => bpart b at_ k * 256 + b.getD (at_ + k) 0
/-- The next word behind those that there are. -/
def wd (b l : List Nat) : Nat :=
  if l.length < 16 then bpart b (4 * l.length) 4
  else (((l.getD (l.length - 16) 0 + l.getD (l.length - 7) 0) % 4294967296 + sg0 (l.getD (l.length - 15) 0)) % 4294967296 + sg1 (l.getD (l.length - 2) 0)) % 4294967296
/-- The first i words of a block. -/
def W (b : List Nat) : Nat → List Nat
  | 0 => []
  | i + 1 => W b i ++ [wd b (W b i)]
theorem W_length (b : List Nat) : ∀ i, (W b i).length = i
  | 0 => rfl
  | i + 1 => by simp [W, W_length b i]

theorem rotr_lt (n x : Nat) (hx : x < 4294967296) : rotr n x < 4294967296 := by
  unfold rotr
  exact Nat.or_lt_two_pow (n := 32) (Nat.mod_lt _ (by decide)) (Nat.lt_of_le_of_lt (Nat.div_le_self _ _) hx)
theorem bpart_lt (b : List Nat) (hb : ∀ x ∈ b, x < 256) (o : Nat) : ∀ k, bpart b o k < 256 ^ k
  | 0 => by simp [bpart]
  | k + 1 => by
    have h1 := bpart_lt b hb o k
    have h2 : b.getD (o + k) 0 < 256 := by
      rw [List.getD_eq_getElem?_getD]
      cases h : b[o + k]? with
      | none => simp
      | some x => exact hb x (List.mem_of_getElem? h)
    simp only [bpart, Nat.pow_succ]
    omega
theorem wd_lt (b : List Nat) (hb : ∀ x ∈ b, x < 256) (l : List Nat) : wd b l < 4294967296 := by
  unfold wd
  split
  · exact bpart_lt b hb _ 4
  · exact Nat.mod_lt _ (by decide)
theorem W_lt (b : List Nat) (hb : ∀ x ∈ b, x < 256) : ∀ i, ∀ x ∈ W b i, x < 4294967296
  | 0, _, h => by cases h
  | i + 1, x, h => by
    rcases List.mem_append.1 h with h | h
    · exact W_lt b hb i x h
    · rw [List.mem_singleton] at h; subst h; exact wd_lt b hb _
theorem W_getD_lt (b : List Nat) (hb : ∀ x ∈ b, x < 256) (i j : Nat) : (W b i).getD j 0 < 4294967296 := by
  rw [List.getD_eq_getElem?_getD]
  cases h : (W b i)[j]? with
  | none => simp
  | some x => exact W_lt b hb i x (List.mem_of_getElem? h)
theorem or_byte (a x : Nat) (hx : x < 256) (ha : a < 16777216) : (a * 2 ^ 8) % 4294967296 ||| x = a * 256 + x := by
  rw [Nat.mod_eq_of_lt (by omega)]
  have := Nat.shiftLeft_add_eq_or_of_lt (i := 8) (b := x) (by omega) a
  rw [Nat.shiftLeft_eq] at this
  omega

/-- The eight words of a sum. -/
structure V8 where
  (a b c d e f g h : Nat)
def V8.l (s : V8) : List Nat := [s.a, s.b, s.c, s.d, s.e, s.f, s.g, s.h]
def V8.lt (s : V8) : Prop := ∀ x ∈ s.l, x < 4294967296
def add32 (x y : Nat) : Nat := (x + y) % 4294967296
def Sg1 (e : Nat) : Nat := rotr 6 e ^^^ rotr 11 e ^^^ rotr 25 e
def Sg0 (a : Nat) : Nat := rotr 2 a ^^^ rotr 13 a ^^^ rotr 22 a
def ch (e f g : Nat) : Nat := (e &&& f) ^^^ ((4294967295 ^^^ e) &&& g)
def maj (a b c : Nat) : Nat := (a &&& b) ^^^ (a &&& c) ^^^ (b &&& c)
def rt (s : V8) (k x : Nat) : Nat := add32 (add32 (add32 (add32 s.h (Sg1 s.e)) (ch s.e s.f s.g)) k) x
def ru (s : V8) : Nat := add32 (Sg0 s.a) (maj s.a s.b s.c)
def rnd (s : V8) (k x : Nat) : V8 := ⟨add32 (rt s k x) (ru s), s.a, s.b, s.c, add32 s.d (rt s k x), s.e, s.f, s.g⟩
def K : List Nat := [0x428a2f98, 0x71374491, 0xb5c0fbcf, 0xe9b5dba5, 0x3956c25b, 0x59f111f1, 0x923f82a4, 0xab1c5ed5, 0xd807aa98, 0x12835b01, 0x243185be, 0x550c7dc3, 0x72be5d74, 0x80deb1fe, 0x9bdc06a7, 0xc19bf174, 0xe49b69c1, 0xefbe4786, 0x0fc19dc6, 0x240ca1cc, 0x2de92c6f, 0x4a7484aa, 0x5cb0a9dc, 0x76f988da, 0x983e5152, 0xa831c66d, 0xb00327c8, 0xbf597fc7, 0xc6e00bf3, 0xd5a79147, 0x06ca6351, 0x14292967, 0x27b70a85, 0x2e1b2138, 0x4d2c6dfc, 0x53380d13, 0x650a7354, 0x766a0abb, 0x81c2c92e, 0x92722c85, 0xa2bfe8a1, 0xa81a664b, 0xc24b8b70, 0xc76c51a3, 0xd192e819, 0xd6990624, 0xf40e3585, 0x106aa070, 0x19a4c116, 0x1e376c08, 0x2748774c, 0x34b0bcb5, 0x391c0cb3, 0x4ed8aa4a, 0x5b9cca4f, 0x682e6ff3, 0x748f82ee, 0x78a5636f, 0x84c87814, 0x8cc70208, 0x90befffa, 0xa4506ceb, 0xbef9a3f7, 0xc67178f2]
theorem K_len : K.length = 64 := rfl
theorem K_lt : ∀ i, K.getD i 0 < 4294967296 := by
  intro i
  rw [List.getD_eq_getElem?_getD]
  cases h : K[i]? with
  | none => simp
  | some x => exact (show ∀ x ∈ K, x < 4294967296 by decide) x (List.mem_of_getElem? h)
def rounds (s : V8) (w : List Nat) : Nat → V8
  | 0 => s
  | i + 1 => rnd (rounds s w i) (K.getD i 0) (w.getD i 0)
def V8.add (s t : V8) : V8 := ⟨add32 s.a t.a, add32 s.b t.b, add32 s.c t.c, add32 s.d t.d, add32 s.e t.e, add32 s.f t.f, add32 s.g t.g, add32 s.h t.h⟩
/-- A block taken into a sum. -/
def compress (s : V8) (b : List Nat) : V8 := s.add (rounds s (W b 64) 64)
theorem add32_lt (x y : Nat) : add32 x y < 4294967296 := Nat.mod_lt _ (by decide)
theorem V8.mk_lt {a b c d e f g h : Nat} (h1 : a < 4294967296) (h2 : b < 4294967296) (h3 : c < 4294967296) (h4 : d < 4294967296) (h5 : e < 4294967296) (h6 : f < 4294967296) (h7 : g < 4294967296) (h8 : h < 4294967296) : (V8.mk a b c d e f g h).lt := by
  intro x hx
  simp only [V8.l, List.mem_cons, List.not_mem_nil, or_false] at hx
  rcases hx with rfl | rfl | rfl | rfl | rfl | rfl | rfl | rfl <;> assumption
theorem V8.lts {s : V8} (h : s.lt) : s.a < 4294967296 ∧ s.b < 4294967296 ∧ s.c < 4294967296 ∧ s.d < 4294967296 ∧ s.e < 4294967296 ∧ s.f < 4294967296 ∧ s.g < 4294967296 ∧ s.h < 4294967296 := by
  refine ⟨?_, ?_, ?_, ?_, ?_, ?_, ?_, ?_⟩ <;> exact h _ (by simp [V8.l])
theorem rnd_lt {s : V8} (hs : s.lt) (k x : Nat) : (rnd s k x).lt := by
  have h := V8.lts hs
  exact V8.mk_lt (add32_lt _ _) h.1 h.2.1 h.2.2.1 (add32_lt _ _) h.2.2.2.2.1 h.2.2.2.2.2.1 h.2.2.2.2.2.2.1
theorem rounds_lt {s : V8} (hs : s.lt) (w : List Nat) : ∀ i, (rounds s w i).lt
  | 0 => hs
  | i + 1 => rnd_lt (rounds_lt hs w i) _ _
theorem compress_lt (s : V8) (b : List Nat) : (compress s b).lt :=
  V8.mk_lt (add32_lt _ _) (add32_lt _ _) (add32_lt _ _) (add32_lt _ _) (add32_lt _ _) (add32_lt _ _) (add32_lt _ _) (add32_lt _ _)
theorem xor_lt {a b : Nat} (ha : a < 4294967296) (hb : b < 4294967296) : a ^^^ b < 4294967296 := Nat.xor_lt_two_pow (n := 32) ha hb
theorem and_lt {a b : Nat} (ha : a < 4294967296) : a &&& b < 4294967296 := Nat.lt_of_le_of_lt Nat.and_le_left ha
/-- The first i words with another sum's added. -/
def addTo (s t : List Nat) (i : Nat) : List Nat := (List.zipWith add32 s t).take i ++ s.drop i
theorem addTo_len (s t : List Nat) (h : s.length = t.length) (i : Nat) : (addTo s t i).length = s.length := by simp [addTo, h]; omega
theorem addTo_at (s t : List Nat) (h : s.length = t.length) (i : Nat) (hi : i < s.length) : (addTo s t i).getD i 0 = s.getD i 0 := by
  have h1 : ((List.zipWith add32 s t).take i).length = i := by simp [h]; omega
  simp only [addTo, List.getD_eq_getElem?_getD]
  rw [List.getElem?_append_right (by omega), h1, Nat.sub_self, List.getElem?_drop, Nat.add_zero]
theorem addTo_set (s t : List Nat) (h : s.length = t.length) (i x : Nat) (hi : i < s.length) (hx : x = add32 (s.getD i 0) (t.getD i 0)) : (addTo s t i).set i x = addTo s t (i + 1) := by
  have h1 : ((List.zipWith add32 s t).take i).length = i := by simp [h]; omega
  unfold addTo
  rw [List.set_append_right _ _ (by omega), h1, Nat.sub_self, List.drop_eq_getElem_cons hi, List.take_succ_eq_append_getElem (by simp; omega)]
  have e : x = (List.zipWith add32 s t)[i]'(by simp; omega) := by
    rw [hx]; simp [List.getD_eq_getElem?_getD, hi, h ▸ hi]
  rw [List.set_cons_zero, e, List.append_assoc]
  rfl
/-- How many noughts are put behind a text. -/
def zeros (n : Nat) : Nat := (119 - n % 64) % 64
/-- The first k bytes of a text's length in bits. -/
def lenB (n k : Nat) : List Nat := (List.range k).map fun j => n * 8 / 2 ^ (8 * (7 - j)) % 256
def padded (l : List Nat) : List Nat := l ++ 128 :: List.replicate (zeros l.length) 0 ++ lenB l.length 8
/-- Where a sum begins. -/
def H0 : V8 := ⟨0x6a09e667, 0xbb67ae85, 0x3c6ef372, 0xa54ff53a, 0x510e527f, 0x9b05688c, 0x1f83d9ab, 0x5be0cd19⟩
/-- The sum of the first k blocks. -/
def sumTo (p : List Nat) : Nat → V8
  | 0 => H0
  | k + 1 => compress (sumTo p k) ((p.drop (64 * k)).take 64)
/-- The first k bytes of a sum. -/
def outB (s : V8) (k : Nat) : List Nat := (List.range k).map fun i => s.l.getD (i / 4) 0 / 2 ^ (24 - i % 4 * 8) % 256
/-- SHA-256 -/
def sha (l : List Nat) : List Nat := outB (sumTo (padded l) ((padded l).length / 64)) 32
theorem zeros_spec (n : Nat) : (n + 1 + zeros n) % 64 = 56 ∧ zeros n < 64 := by unfold zeros; omega
theorem padded_len (l : List Nat) : (padded l).length = l.length + 1 + zeros l.length + 8 := by simp [padded, lenB]; omega
theorem padded_mod (l : List Nat) : (padded l).length % 64 = 0 := by rw [padded_len]; have := zeros_spec l.length; omega
theorem lenB_succ (n k : Nat) : lenB n (k + 1) = lenB n k ++ [n * 8 / 2 ^ (8 * (7 - k)) % 256] := by simp [lenB, List.range_succ]
theorem outB_succ (s : V8) (k : Nat) : outB s (k + 1) = outB s k ++ [s.l.getD (k / 4) 0 / 2 ^ (24 - k % 4 * 8) % 256] := by simp [outB, List.range_succ]
theorem outB_len (s : V8) (k : Nat) : (outB s k).length = k := by simp [outB]
theorem sha_len (l : List Nat) : (sha l).length = 32 := outB_len _ _
theorem outB_lt (s : V8) (k : Nat) : ∀ x ∈ outB s k, x < 256 := by
  intro x hx
  simp only [outB, List.mem_map] at hx
  obtain ⟨i, _, rfl⟩ := hx
  exact Nat.mod_lt _ (by decide)
theorem sha_lt (l : List Nat) : ∀ x ∈ sha l, x < 256 := outB_lt _ _
theorem padded_lt (l : List Nat) (h : ∀ x ∈ l, x < 256) : ∀ x ∈ padded l, x < 256 := by
  intro x hx
  simp only [padded, List.mem_append, List.mem_cons, List.mem_replicate, lenB, List.mem_map] at hx
  rcases hx with (hx | rfl | ⟨_, rfl⟩) | ⟨i, _, rfl⟩
  · exact h x hx
  · decide
  · decide
  · exact Nat.mod_lt _ (by decide)
theorem H0_lt : H0.lt := V8.mk_lt (by decide) (by decide) (by decide) (by decide) (by decide) (by decide) (by decide) (by decide)
theorem sumTo_lt (p : List Nat) : ∀ k, (sumTo p k).lt
  | 0 => H0_lt
  | _ + 1 => compress_lt _ _
end Go.Sha
end
section
/- Digests: plain. -/
namespace Go.Sha

/-- A number's four lowest bytes, the lowest first. -/
def le4 (n : Nat) : List Nat := [n % 256, n / 256 % 256, n / 65536 % 256, n / 16777216 % 256]
/-- What is summed of a purpose and its parts. -/
def text (p : Nat) (ls : List (List Nat)) : List Nat := p :: ls.flatMap fun l => le4 l.length ++ l
def digest (p : Nat) (ls : List (List Nat)) : List Nat := (sha (text p ls)).take 8
theorem le4_len (n : Nat) : (le4 n).length = 4 := rfl
theorem le4_lt (n : Nat) : ∀ x ∈ le4 n, x < 256 := by
  intro x hx
  simp only [le4, List.mem_cons, List.not_mem_nil, or_false] at hx
  rcases hx with rfl | rfl | rfl | rfl <;> exact Nat.mod_lt _ (by decide)
theorem text_lt (p : Nat) (hp : p < 256) (ls : List (List Nat)) (h : ∀ l ∈ ls, ∀ x ∈ l, x < 256) : ∀ x ∈ text p ls, x < 256 := by
  intro x hx
  simp only [text, List.mem_cons, List.mem_flatMap, List.mem_append] at hx
  rcases hx with rfl | ⟨l, hl, hx | hx⟩
  · exact hp
  · exact le4_lt _ x hx
  · exact h l hl x hx
theorem digest_len (p : Nat) (ls : List (List Nat)) : (digest p ls).length = 8 := by simp [digest, sha_len]
theorem digest_lt (p : Nat) (ls : List (List Nat)) : ∀ x ∈ digest p ls, x < 256 := fun x hx => sha_lt _ x (List.mem_of_mem_take hx)
/-- How long what is summed is. -/
def tot (ls : List (List Nat)) : Nat := (ls.map fun l => 4 + l.length).sum
theorem text_len (p : Nat) (ls : List (List Nat)) : (text p ls).length = 1 + tot ls := by
  simp [text, tot, List.length_flatMap, le4_len, Nat.add_comm]
theorem text_take_succ (p : Nat) (ls : List (List Nat)) (i : Nat) (hi : i < ls.length) : text p (ls.take (i + 1)) = text p (ls.take i) ++ (le4 ls[i].length ++ ls[i]) := by
  rw [List.take_succ_eq_append_getElem hi]
  simp only [text, List.flatMap_append, List.flatMap_cons, List.flatMap_nil, List.append_nil, List.cons_append]
theorem tot_take_le (ls : List (List Nat)) (i : Nat) (hi : i < ls.length) : 1 + tot (ls.take i) + 4 + ls[i].length ≤ 1 + tot ls := by
  have h : tot ls = tot (ls.take i) + (4 + ls[i].length + tot (ls.drop (i + 1))) := by
    have e : ls = ls.take i ++ (ls[i] :: ls.drop (i + 1)) := by rw [← List.drop_eq_getElem_cons hi, List.take_append_drop]
    have e2 : tot ls = tot (ls.take i ++ (ls[i] :: ls.drop (i + 1))) := congrArg tot e
    rw [e2]
    simp only [tot, List.map_append, List.sum_append, List.map_cons, List.sum_cons]
  omega
theorem tot_take_succ (ls : List (List Nat)) (i : Nat) (hi : i < ls.length) : tot (ls.take (i + 1)) = tot (ls.take i) + (4 + ls[i].length) := by
  rw [List.take_succ_eq_append_getElem hi]
  simp only [tot, List.map_append, List.sum_append, List.map_cons, List.map_nil, List.sum_cons, List.sum_nil, Nat.add_zero]
theorem tot_ge : ∀ ls : List (List Nat), 4 * ls.length ≤ tot ls
  | [] => Nat.zero_le _
  | l :: ls => by
    have := tot_ge ls
    have e : tot (l :: ls) = 4 + l.length + tot ls := by simp [tot]
    rw [e, List.length_cons]
    omega
end Go.Sha
end
