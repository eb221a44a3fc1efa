import Derived.Test.YtfhdfpejjgmdcaaGreatDoorLam0
import Derived.Test.YtfhdfpejjgmdcaaGreatDoorRefD
set_option linter.unusedSimpArgs false
set_option linter.unusedVariables false
/- SHA-256 once more, so that the kernel reckons it quickly. -/
namespace Go.Sha

/-- A number is reckoned ahead of what is done with it. -/
noncomputable def force {α : Type} (x : Nat) (f : Nat → α) : α := Nat.rec (motive := fun _ => α) (f Nat.zero) (fun n _ => f (Nat.succ n)) x
theorem force_eq {α : Type} (x : Nat) (f : Nat → α) : force x f = f x := by cases x <;> rfl
def ror (p q x : Nat) : Nat := Nat.lor (Nat.mod (Nat.mul x q) 4294967296) (Nat.div x p)
def fsg0 (x : Nat) : Nat := Nat.xor (Nat.xor (ror 128 33554432 x) (ror 262144 16384 x)) (Nat.div x 8)
def fsg1 (x : Nat) : Nat := Nat.xor (Nat.xor (ror 131072 32768 x) (ror 524288 8192 x)) (Nat.div x 1024)
def fSg1 (e : Nat) : Nat := Nat.xor (Nat.xor (ror 64 67108864 e) (ror 2048 2097152 e)) (ror 33554432 128 e)
def fSg0 (a : Nat) : Nat := Nat.xor (Nat.xor (ror 4 1073741824 a) (ror 8192 524288 a)) (ror 4194304 1024 a)
def fch (e f g : Nat) : Nat := Nat.xor (Nat.land e f) (Nat.land (Nat.xor 4294967295 e) g)
def fmaj (a b c : Nat) : Nat := Nat.xor (Nat.xor (Nat.land a b) (Nat.land a c)) (Nat.land b c)
theorem fsg0_eq (x : Nat) : fsg0 x = sg0 x := rfl
theorem fsg1_eq (x : Nat) : fsg1 x = sg1 x := rfl
theorem fSg1_eq (x : Nat) : fSg1 x = Sg1 x := rfl
theorem fSg0_eq (x : Nat) : fSg0 x = Sg0 x := rfl
theorem fch_eq (e f g : Nat) : fch e f g = ch e f g := rfl
theorem fmaj_eq (a b c : Nat) : fmaj a b c = maj a b c := rfl
def fnew (w0 w1 w9 w14 : Nat) : Nat := Nat.mod (Nat.add (Nat.add (Nat.add w0 w9) (fsg0 w1)) (fsg1 w14)) 4294967296
theorem fnew_eq (w0 w1 w9 w14 : Nat) : fnew w0 w1 w9 w14 = (w0 + w9 + sg0 w1 + sg1 w14) % 4294967296 := rfl
def fT (e f g h k x : Nat) : Nat := Nat.mod (Nat.add (Nat.add (Nat.add (Nat.add h (fSg1 e)) (fch e f g)) k) x) 4294967296
theorem fT_def (e f g h k x : Nat) : fT e f g h k x = (h + Sg1 e + ch e f g + k + x) % 4294967296 := rfl
def fA (a b c t : Nat) : Nat := Nat.mod (Nat.add t (Nat.add (fSg0 a) (fmaj a b c))) 4294967296
theorem fA_def (a b c t : Nat) : fA a b c t = (t + (Sg0 a + maj a b c)) % 4294967296 := rfl
def fE (d t : Nat) : Nat := Nat.mod (Nat.add d t) 4294967296
theorem fE_def (d t : Nat) : fE d t = (d + t) % 4294967296 := rfl

/-- The rounds, with the sixteen words that are next. -/
noncomputable def goS (ks : List Nat) : Nat → Nat → Nat → Nat → Nat → Nat → Nat → Nat → Nat → Nat → Nat → Nat → Nat → Nat → Nat → Nat → Nat → Nat → Nat → Nat → Nat → Nat → Nat → Nat → V8 :=
  List.rec (motive := fun _ => Nat → Nat → Nat → Nat → Nat → Nat → Nat → Nat → Nat → Nat → Nat → Nat → Nat → Nat → Nat → Nat → Nat → Nat → Nat → Nat → Nat → Nat → Nat → Nat → V8)
    (fun _ _ _ _ _ _ _ _ _ _ _ _ _ _ _ _ a b c d e f g h => ⟨a, b, c, d, e, f, g, h⟩)
    (fun k _ ih w0 w1 w2 w3 w4 w5 w6 w7 w8 w9 w10 w11 w12 w13 w14 w15 a b c d e f g h => force (fnew w0 w1 w9 w14) fun w16 => force (fT e f g h k w0) fun t => force (fA a b c t) fun a' => force (fE d t) fun e' => ih w1 w2 w3 w4 w5 w6 w7 w8 w9 w10 w11 w12 w13 w14 w15 w16 a' a b c e' e f g)
    ks

theorem goS_cons (k : Nat) (ks : List Nat) (w0 w1 w2 w3 w4 w5 w6 w7 w8 w9 w10 w11 w12 w13 w14 w15 a b c d e f g h : Nat) : goS (k :: ks) w0 w1 w2 w3 w4 w5 w6 w7 w8 w9 w10 w11 w12 w13 w14 w15 a b c d e f g h = force (fnew w0 w1 w9 w14) fun w16 => force (fT e f g h k w0) fun t => force (fA a b c t) fun a' => force (fE d t) fun e' => goS ks w1 w2 w3 w4 w5 w6 w7 w8 w9 w10 w11 w12 w13 w14 w15 w16 a' a b c e' e f g := rfl
/-- The word at j of a block's schedule. -/
def wf (b : List Nat) (j : Nat) : Nat := (W b (j + 1)).getD j 0
theorem wf_def (b : List Nat) (j : Nat) : wf b j = wd b (W b j) := by
  have hl := W_length b j
  have e : wf b j = (W b j ++ [wd b (W b j)]).getD j 0 := rfl
  rw [e, List.getD_eq_getElem?_getD, List.getElem?_append_right (by omega), hl, Nat.sub_self]
  rfl
theorem W_succ (b : List Nat) (n : Nat) : W b (n + 1) = W b n ++ [wd b (W b n)] := rfl
theorem W_at (b : List Nat) : ∀ (n j : Nat), j < n → (W b n).getD j 0 = wf b j
  | 0, _, h => by cases h
  | n + 1, j, h => by
    by_cases e : j = n
    · subst e; rfl
    · have h' : j < n := by omega
      rw [← W_at b n j h']
      have hl := W_length b n
      rw [W_succ, List.getD_eq_getElem?_getD, List.getD_eq_getElem?_getD, List.getElem?_append_left (by omega)]
theorem wf_new (b : List Nat) (i : Nat) : wf b (i + 16) = fnew (wf b i) (wf b (i + 1)) (wf b (i + 9)) (wf b (i + 14)) := by
  have hl := W_length b (i + 16)
  rw [wf_def b (i + 16)]
  unfold wd
  rw [if_neg (by omega), hl, show i + 16 - 16 = i by omega, show i + 16 - 7 = i + 9 by omega, show i + 16 - 15 = i + 1 by omega, show i + 16 - 2 = i + 14 by omega,
    W_at _ _ _ (by omega), W_at _ _ _ (by omega), W_at _ _ _ (by omega), W_at _ _ _ (by omega)]
  rw [fnew_eq]
  generalize sg0 (wf b (i + 1)) = x1
  generalize sg1 (wf b (i + 14)) = x2
  omega
theorem fT_eq (s : V8) (k x : Nat) : fT s.e s.f s.g s.h k x = rt s k x := by
  rw [fT_def]
  unfold rt add32
  omega
theorem fA_eq (s : V8) (t : Nat) : fA s.a s.b s.c t = add32 t (ru s) := by
  rw [fA_def]
  unfold ru add32
  omega
theorem goS_eq (b : List Nat) (s0 : V8) : ∀ (ks : List Nat) (i : Nat), ks = K.drop i → i ≤ 64 → ∀ s : V8, s = rounds s0 (W b 64) i →
    goS ks (wf b i) (wf b (i + 1)) (wf b (i + 2)) (wf b (i + 3)) (wf b (i + 4)) (wf b (i + 5)) (wf b (i + 6)) (wf b (i + 7)) (wf b (i + 8)) (wf b (i + 9)) (wf b (i + 10)) (wf b (i + 11)) (wf b (i + 12)) (wf b (i + 13)) (wf b (i + 14)) (wf b (i + 15)) s.a s.b s.c s.d s.e s.f s.g s.h = rounds s0 (W b 64) 64
  | [], i, hk, hi, s, hs => by
    have : i = 64 := by
      have h := congrArg List.length hk
      rw [List.length_drop, K_len, List.length_nil] at h
      omega
    subst this
    rw [← hs]
    rfl
  | k :: ks, i, hk, hi, s, hs => by
    have hlt : i < K.length := by
      have h := congrArg List.length hk
      rw [List.length_drop, List.length_cons] at h
      omega
    have hlt64 : i < 64 := by rwa [K_len] at hlt
    rw [List.drop_eq_getElem_cons hlt] at hk
    have h1 : k = K.getD i 0 := by
      have := List.head_eq_of_cons_eq hk
      rw [this, List.getD_eq_getElem?_getD, List.getElem?_eq_getElem hlt]; rfl
    have h2 := List.tail_eq_of_cons_eq hk
    have hr : rounds s0 (W b 64) (i + 1) = rnd s k (wf b i) := by
      show rnd (rounds s0 (W b 64) i) (K.getD i 0) ((W b 64).getD i 0) = _
      rw [← hs, ← h1, W_at b 64 i hlt64]
    have ih := goS_eq b s0 ks (i + 1) h2 hlt64 (rnd s k (wf b i)) hr.symm
    rw [← ih, goS_cons, force_eq, force_eq, force_eq, force_eq, ← wf_new, fA_eq, fT_eq, fE_def]
    rfl

/-- Four bytes to a word. -/
def wordsB : List Nat → List Nat
  | a :: b :: c :: d :: r => Nat.add (Nat.mul (Nat.add (Nat.mul (Nat.add (Nat.mul a 256) b) 256) c) 256) d :: wordsB r
  | _ => []
theorem wordsB_at : ∀ (j : Nat) (l : List Nat), 4 * j + 3 < l.length → (wordsB l).getD j 0 = bpart l (4 * j) 4
  | 0, a :: b :: c :: d :: r, _ => by
    show (((a * 256 + b) * 256 + c) * 256 + d) = _
    simp [bpart]
  | j + 1, a :: b :: c :: d :: r, h => by
    have ih := wordsB_at j r (by simp only [List.length_cons] at h; omega)
    show (wordsB r).getD j 0 = _
    rw [ih]
    have e : ∀ k, (a :: b :: c :: d :: r).getD (4 * (j + 1) + k) 0 = r.getD (4 * j + k) 0 := by
      intro k
      rw [show 4 * (j + 1) + k = 4 * j + k + 1 + 1 + 1 + 1 by omega]
      rfl
    simp only [bpart, e]
  | _, [], h => by simp only [List.length_nil] at h; omega
  | _, [_], h => by simp only [List.length_cons, List.length_nil] at h; omega
  | _, [_, _], h => by simp only [List.length_cons, List.length_nil] at h; omega
  | _, [_, _, _], h => by simp only [List.length_cons, List.length_nil] at h; omega
@[irreducible] noncomputable def fcomp (s : V8) (ws : List Nat) : V8 := V8.add s (goS K (ws.getD 0 0) (ws.getD 1 0) (ws.getD 2 0) (ws.getD 3 0) (ws.getD 4 0) (ws.getD 5 0) (ws.getD 6 0) (ws.getD 7 0) (ws.getD 8 0) (ws.getD 9 0) (ws.getD 10 0) (ws.getD 11 0) (ws.getD 12 0) (ws.getD 13 0) (ws.getD 14 0) (ws.getD 15 0) s.a s.b s.c s.d s.e s.f s.g s.h)
theorem fcomp_eq (s : V8) (b : List Nat) (hb : b.length = 64) : fcomp s (wordsB b) = compress s b := by
  have hw : ∀ j, j < 16 → (wordsB b).getD j 0 = wf b j := by
    intro j hj
    rw [wordsB_at j b (by omega)]
    have hl := W_length b j
    rw [wf_def]
    unfold wd
    rw [if_pos (by omega), hl]
  unfold fcomp compress
  rw [hw 0 (by decide), hw 1 (by decide), hw 2 (by decide), hw 3 (by decide), hw 4 (by decide), hw 5 (by decide), hw 6 (by decide), hw 7 (by decide), hw 8 (by decide), hw 9 (by decide), hw 10 (by decide), hw 11 (by decide), hw 12 (by decide), hw 13 (by decide), hw 14 (by decide), hw 15 (by decide), ← goS_eq b s K 0 rfl (by decide) s rfl]
/-- Piece after piece of 64. -/
noncomputable def iter {α : Type} (f : α → List Nat → α) (n : Nat) : List Nat → α → α :=
  Nat.rec (motive := fun _ => List Nat → α → α) (fun _ s => s) (fun _ ih pd s => ih (pd.drop 64) (f s (pd.take 64))) n
theorem iter_zero {α : Type} (f : α → List Nat → α) (pd : List Nat) (s : α) : iter f 0 pd s = s := rfl
theorem iter_succ {α : Type} (f : α → List Nat → α) (n : Nat) (pd : List Nat) (s : α) : iter f (n + 1) pd s = iter f n (pd.drop 64) (f s (pd.take 64)) := rfl
theorem iter_eq {α : Type} (f g : α → List Nat → α) (hfg : ∀ s b, b.length = 64 → f s b = g s b) (S : Nat → α) (p : List Nat) (hS : ∀ k, S (k + 1) = g (S k) ((p.drop (64 * k)).take 64)) : ∀ (n k : Nat), 64 * (k + n) ≤ p.length → iter f n (p.drop (64 * k)) (S k) = S (k + n)
  | 0, k, _ => by rw [Nat.add_zero, iter_zero]
  | n + 1, k, h => by
    have ih := iter_eq f g hfg S p hS n (k + 1) (by omega)
    have e : k + (n + 1) = k + 1 + n := by omega
    have e2 : 64 * k + 64 = 64 * (k + 1) := by omega
    rw [iter_succ, hfg _ _ (by rw [List.length_take, List.length_drop]; omega), ← hS, List.drop_drop, e2, ih, e]
def fbytes (s : V8) : List Nat := [s.a / 16777216 % 256, s.a / 65536 % 256, s.a / 256 % 256, s.a % 256, s.b / 16777216 % 256, s.b / 65536 % 256, s.b / 256 % 256, s.b % 256]
theorem fbytes_eq (s : V8) : (outB s 32).take 8 = fbytes s := by
  unfold outB fbytes
  rw [← List.map_take, List.take_range, show List.range (min 8 32) = [0, 1, 2, 3, 4, 5, 6, 7] from rfl]
  simp [V8.l]
noncomputable def fdigest (p : Nat) (ls : List (List Nat)) : List Nat := fbytes (iter (fun s b => fcomp s (wordsB b)) (Nat.div (padded (text p ls)).length 64) (padded (text p ls)) H0)
theorem digest_fast (p : Nat) (ls : List (List Nat)) : digest p ls = fdigest p ls := by
  unfold fdigest digest sha
  have hm := padded_mod (text p ls)
  generalize padded (text p ls) = pd at *
  have h := iter_eq (fun s b => fcomp s (wordsB b)) compress (fun s b hb => fcomp_eq s b hb) (sumTo pd) pd (fun k => by rw [sumTo]) (pd.length / 64) 0 (by omega)
  rw [Nat.mul_zero, List.drop_zero, Nat.zero_add, show sumTo pd 0 = H0 by rw [sumTo]] at h
  rw [fbytes_eq, ← h]
  rfl
end Go.Sha

/- Keys and trees, so that the kernel reckons them quickly. -/
namespace Go.Sha
noncomputable def fmrk (seed : List Nat) (ib i : Nat) : List Nat := fdigest 112 [fdigest 115 [seed, [ib, i, 0, 0]]] ++ fdigest 112 [fdigest 115 [seed, [ib, i, 1, 0]]]
theorem mrks_fast (seed : List Nat) (ib : Nat) : mrks seed ib = fmrk seed ib := by
  funext i
  unfold mrks fmrk markH secret
  rw [digest_fast, digest_fast, digest_fast, digest_fast]
noncomputable def fpub (seed : List Nat) (ib : Nat) : List Nat := fdigest 107 [rowOf (fmrk seed ib) 16]
theorem pub_fast (seed : List Nat) (ib : Nat) : pubKey seed ib = fpub seed ib := by
  unfold pubKey fpub pubOf
  rw [digest_fast, mrks_fast]
noncomputable def fleaf (h : List Nat) : List Nat := fdigest 108 [h]
noncomputable def fjoin (a b : List Nat) : List Nat := fdigest 109 [a, b]
theorem mroot_join {l : List (List Nat)} (h : 1 < l.length) : mroot l = joinN (mroot (l.take (cut l.length))) (mroot (l.drop (cut l.length))) := by
  rw [mroot]
  rw [dif_neg (by omega)]
theorem mroot_1 (a : List Nat) : mroot [a] = fleaf a := by
  rw [mroot]
  rw [dif_pos (by simp)]
  show leafN a = _
  unfold leafN fleaf
  rw [digest_fast]
theorem joinN_fast (a b : List Nat) : joinN a b = fjoin a b := by
  unfold joinN fjoin
  rw [digest_fast]
theorem cut8 : cut 8 = 4 := by kernel_rfl
theorem cut4 : cut 4 = 2 := by kernel_rfl
theorem cut2 : cut 2 = 1 := by kernel_rfl
theorem mroot_2 (a b : List Nat) : mroot [a, b] = fjoin (fleaf a) (fleaf b) := by
  rw [mroot_join (by simp), show ([a, b] : List (List Nat)).length = 2 from rfl, cut2, joinN_fast]
  show fjoin (mroot [a]) (mroot [b]) = _
  rw [mroot_1, mroot_1]
theorem mroot_4 (a b c d : List Nat) : mroot [a, b, c, d] = fjoin (fjoin (fleaf a) (fleaf b)) (fjoin (fleaf c) (fleaf d)) := by
  rw [mroot_join (by simp), show ([a, b, c, d] : List (List Nat)).length = 4 from rfl, cut4, joinN_fast]
  show fjoin (mroot [a, b]) (mroot [c, d]) = _
  rw [mroot_2, mroot_2]
theorem mroot_8 (a b c d e f g h : List Nat) : mroot [a, b, c, d, e, f, g, h] = fjoin (fjoin (fjoin (fleaf a) (fleaf b)) (fjoin (fleaf c) (fleaf d))) (fjoin (fjoin (fleaf e) (fleaf f)) (fjoin (fleaf g) (fleaf h))) := by
  rw [mroot_join (by simp), show ([a, b, c, d, e, f, g, h] : List (List Nat)).length = 8 from rfl, cut8, joinN_fast]
  show fjoin (mroot [a, b, c, d]) (mroot [e, f, g, h]) = _
  rw [mroot_4, mroot_4]
/-- A tree's root from its keys. -/
theorem tree_fast {seed a b c d e f g h : List Nat} (h0 : pubKey seed 0 = a) (h1 : pubKey seed 1 = b) (h2 : pubKey seed 2 = c) (h3 : pubKey seed 3 = d) (h4 : pubKey seed 4 = e) (h5 : pubKey seed 5 = f) (h6 : pubKey seed 6 = g) (h7 : pubKey seed 7 = h) :
    treeOf seed = fjoin (fjoin (fjoin (fleaf a) (fleaf b)) (fjoin (fleaf c) (fleaf d))) (fjoin (fjoin (fleaf e) (fleaf f)) (fjoin (fleaf g) (fleaf h))) := by
  have e : pubs seed 8 = [pubKey seed 0, pubKey seed 1, pubKey seed 2, pubKey seed 3, pubKey seed 4, pubKey seed 5, pubKey seed 6, pubKey seed 7] := rfl
  unfold treeOf
  rw [e, h0, h1, h2, h3, h4, h5, h6, h7, mroot_8]
end Go.Sha
