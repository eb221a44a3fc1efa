/- Lemmas. -/
import Derived.Test.YtfoeakgnkfcbjaaGreatDoorPr11
set_option linter.unusedSimpArgs false
set_option linter.unusedVariables false
section
/- Trees of rows: plain. -/
namespace Go.Sha

def leafN (h : List Nat) : List Nat := digest 108 [h]
def joinN (a b : List Nat) : List Nat := digest 109 [a, b]
def zero8 : List Nat := List.replicate 8 0
/-- The greatest power of two below n. -/
def cut (n : Nat) : Nat := 2 ^ Nat.log2 (n - 1)
theorem cut_pos (n : Nat) : 1 ≤ cut n := Nat.pow_pos (by decide)
theorem cut_lt {n : Nat} (h : 2 ≤ n) : cut n < n := by
  have := Nat.log2_self_le (n := n - 1) (by omega)
  unfold cut
  omega
theorem cut_ge {n : Nat} : n ≤ 2 * cut n := by
  have := Nat.lt_log2_self (n := n - 1)
  unfold cut
  rw [Nat.pow_succ] at this
  omega
/-- A power of two that is below n, but not its double, is the cut. -/
theorem cut_eq {n j : Nat} (h1 : 2 ^ j < n) (h2 : n ≤ 2 * 2 ^ j) : cut n = 2 ^ j := by
  unfold cut
  congr 1
  have h0 : n - 1 ≠ 0 := by have := Nat.pow_pos (n := j) (show 0 < 2 by decide); omega
  rw [Nat.log2_eq_iff h0, Nat.pow_succ]
  omega

def mroot (l : List (List Nat)) : List Nat :=
  if _h : l.length ≤ 1 then (match l with | [] => zero8 | x :: _ => leafN x)
  else joinN (mroot (l.take (cut l.length))) (mroot (l.drop (cut l.length)))
termination_by l.length
decreasing_by
  · have := cut_lt (n := l.length) (by omega); rw [List.length_take]; omega
  · have := cut_pos l.length; rw [List.length_drop]; omega
theorem mroot_nil : mroot [] = zero8 := by rw [mroot]; rfl
theorem mroot_one (x : List Nat) : mroot [x] = leafN x := by rw [mroot]; rfl
theorem mroot_cut {l : List (List Nat)} (h : 2 ≤ l.length) : mroot l = joinN (mroot (l.take (cut l.length))) (mroot (l.drop (cut l.length))) := by
  rw [mroot, dif_neg (by omega)]
theorem mroot_len (l : List (List Nat)) : (mroot l).length = 8 := by
  rw [mroot]
  split
  · cases l with
    | nil => rfl
    | cons x l => exact digest_len _ _
  · exact digest_len _ _
theorem mroot_lt (l : List (List Nat)) : ∀ x ∈ mroot l, x < 256 := by
  rw [mroot]
  split
  · cases l with
    | nil => intro x hx; simp [zero8] at hx; omega
    | cons x l => exact digest_lt _ _
  · exact digest_lt _ _
/-- A row's root: chapter 5. -/
def rootOf (l : List (List Nat)) : List Nat := if l.length ≤ 65536 then mroot l else zero8
theorem rootOf_len (l : List (List Nat)) : (rootOf l).length = 8 := by unfold rootOf; split; exact mroot_len l; rfl
theorem rootOf_lt (l : List (List Nat)) : ∀ x ∈ rootOf l, x < 256 := by
  unfold rootOf; split
  · exact mroot_lt l
  · intro x hx; simp [zero8] at hx; omega

def mprove (l : List (List Nat)) (i : Nat) : List (List Nat) :=
  if _h : l.length ≤ 1 then []
  else if i < cut l.length then mprove (l.take (cut l.length)) i ++ [mroot (l.drop (cut l.length))]
  else mprove (l.drop (cut l.length)) (i - cut l.length) ++ [mroot (l.take (cut l.length))]
termination_by l.length
decreasing_by
  · have := cut_lt (n := l.length) (by omega); rw [List.length_take]; omega
  · have := cut_pos l.length; rw [List.length_drop]; omega
theorem mprove_small {l : List (List Nat)} (h : l.length ≤ 1) (i : Nat) : mprove l i = [] := by rw [mprove, dif_pos h]
theorem mprove_left {l : List (List Nat)} (h : 2 ≤ l.length) {i : Nat} (hi : i < cut l.length) : mprove l i = mprove (l.take (cut l.length)) i ++ [mroot (l.drop (cut l.length))] := by
  rw [mprove, dif_neg (by omega), if_pos hi]
theorem mprove_right {l : List (List Nat)} (h : 2 ≤ l.length) {i : Nat} (hi : cut l.length ≤ i) : mprove l i = mprove (l.drop (cut l.length)) (i - cut l.length) ++ [mroot (l.take (cut l.length))] := by
  rw [mprove, dif_neg (by omega), if_neg (by omega)]

/-- From a leaf up, whether it is on the right. -/
def turnsN (i n : Nat) : List Bool :=
  if _h : n ≤ 1 then [] else if i < cut n then turnsN i (cut n) ++ [false] else turnsN (i - cut n) (n - cut n) ++ [true]
termination_by n
decreasing_by
  · exact cut_lt (by omega)
  · have := cut_pos n; omega
theorem turnsN_small {n : Nat} (h : n ≤ 1) (i : Nat) : turnsN i n = [] := by rw [turnsN, dif_pos h]
theorem turnsN_left {n i : Nat} (h : 2 ≤ n) (hi : i < cut n) : turnsN i n = turnsN i (cut n) ++ [false] := by rw [turnsN, dif_neg (by omega), if_pos hi]
theorem turnsN_right {n i : Nat} (h : 2 ≤ n) (hi : cut n ≤ i) : turnsN i n = turnsN (i - cut n) (n - cut n) ++ [true] := by rw [turnsN, dif_neg (by omega), if_neg (by omega)]

/-- A step up. -/
def upStep (h : List Nat) (t : Bool) (p : List Nat) : List Nat := if t then joinN p h else joinN h p
def upAll : List Nat → List Bool → List (List Nat) → List Nat
  | h, t :: ts, p :: ps => upAll (upStep h t p) ts ps
  | h, _, _ => h
theorem upAll_snoc : ∀ (h : List Nat) (ts : List Bool) (ps : List (List Nat)) (t : Bool) (p : List Nat), ts.length = ps.length → upAll h (ts ++ [t]) (ps ++ [p]) = upStep (upAll h ts ps) t p
  | h, [], [], _, _, _ => rfl
  | h, t :: ts, q :: ps, u, p, hl => by
    show upAll _ (ts ++ [u]) (ps ++ [p]) = _
    rw [upAll_snoc _ ts ps u p (by simpa using hl)]
    rfl
  | _, [], _ :: _, _, _, hl => by cases hl
  | _, _ :: _, [], _, _, hl => by cases hl
/-- Whether a proof leads from a leaf to a root. -/
def leads (root x : List Nat) (i n : Nat) (ps : List (List Nat)) : Bool := decide ((turnsN i n).length = ps.length) && decide (upAll (leafN x) (turnsN i n) ps = root)

/-- What is proved leads up. -/
theorem mprove_len : ∀ (n : Nat) (l : List (List Nat)) (i : Nat), l.length = n → i < n → (mprove l i).length = (turnsN i n).length := by
  intro n
  induction n using Nat.strongRecOn with
  | _ n ih =>
    intro l i hl hi
    by_cases h : n ≤ 1
    · rw [mprove_small (by omega), turnsN_small h]; rfl
    · have hc := cut_lt (n := n) (by omega)
      have hp := cut_pos n
      by_cases hk : i < cut n
      · rw [mprove_left (by omega) (by rw [hl]; exact hk), turnsN_left (by omega) hk, List.length_append, List.length_append, hl]
        rw [ih (cut n) hc _ i (by rw [List.length_take]; omega) hk]; rfl
      · rw [mprove_right (by omega) (by rw [hl]; omega), turnsN_right (by omega) (by omega), List.length_append, List.length_append, hl]
        rw [ih (n - cut n) (by omega) _ (i - cut n) (by rw [List.length_drop]; omega) (by omega)]; rfl
theorem mprove_up : ∀ (n : Nat) (l : List (List Nat)) (i : Nat) (x : List Nat), l.length = n → l[i]? = some x → upAll (leafN x) (turnsN i n) (mprove l i) = mroot l := by
  intro n
  induction n using Nat.strongRecOn with
  | _ n ih =>
    intro l i x hl hx
    have hi : i < n := by rw [← hl]; exact (List.getElem?_eq_some_iff.1 hx).1
    by_cases h : n ≤ 1
    · match l, hl with
      | [], hl => simp at hl; omega
      | [_], hl =>
        have : i = 0 := by simp at hl; omega
        subst this
        cases hx
        rw [mprove_small (by simp), turnsN_small h, mroot_one]; rfl
      | _ :: _ :: _, hl => simp at hl; omega
    · have hc := cut_lt (n := n) (by omega)
      have hp := cut_pos n
      by_cases hk : i < cut n
      · have e := ih (cut n) hc (l.take (cut n)) i x (by rw [List.length_take]; omega) (by rw [List.getElem?_take, if_pos hk]; exact hx)
        rw [mprove_left (by omega) (by rw [hl]; exact hk), turnsN_left (by omega) hk, hl, upAll_snoc _ _ _ _ _ (mprove_len (cut n) _ i (by rw [List.length_take]; omega) hk).symm, mroot_cut (l := l) (by omega), hl]
        rw [e]; rfl
      · have e := ih (n - cut n) (by omega) (l.drop (cut n)) (i - cut n) x (by rw [List.length_drop]; omega) (by rw [List.getElem?_drop, show cut n + (i - cut n) = i by omega]; exact hx)
        rw [mprove_right (by omega) (by rw [hl]; omega), turnsN_right (by omega) (by omega), hl, upAll_snoc _ _ _ _ _ (mprove_len (n - cut n) _ (i - cut n) (by rw [List.length_drop]; omega) (by omega)).symm, mroot_cut (l := l) (by omega), hl]
        rw [e]; rfl
theorem mprove_leads (l : List (List Nat)) (i : Nat) (x : List Nat) (hx : l[i]? = some x) : leads (mroot l) x i l.length (mprove l i) = true := by
  unfold leads
  rw [decide_eq_true (mprove_len _ l i rfl (List.getElem?_eq_some_iff.1 hx).1).symm, decide_eq_true (mprove_up _ l i x rfl hx)]; rfl
theorem mprove_mem (P : List Nat → Prop) (hP : ∀ l, P (mroot l)) : ∀ (n : Nat) (l : List (List Nat)) (i : Nat), l.length = n → ∀ p ∈ mprove l i, P p := by
  intro n
  induction n using Nat.strongRecOn with
  | _ n ih =>
    intro l i hl p hp
    by_cases h : n ≤ 1
    · rw [mprove_small (by omega)] at hp; cases hp
    · have hc := cut_lt (n := n) (by omega)
      have hq := cut_pos n
      by_cases hk : i < cut n
      · rw [mprove_left (by omega) (by rw [hl]; exact hk), List.mem_append, hl] at hp
        rcases hp with hp | hp
        · exact ih (cut n) hc _ i (by rw [List.length_take]; omega) p hp
        · rw [List.mem_singleton] at hp; rw [hp]; exact hP _
      · rw [mprove_right (by omega) (by rw [hl]; omega), List.mem_append, hl] at hp
        rcases hp with hp | hp
        · exact ih (n - cut n) (by omega) _ _ (by rw [List.length_drop]; omega) p hp
        · rw [List.mem_singleton] at hp; rw [hp]; exact hP _

end Go.Sha

/- merkle: half, leaf, join, Root; the reference's cut and Root; rows of hashes. -/
namespace Go.Sha
/-- Each is a hash. -/
def HL (l : List (List Nat)) : Prop := ∀ h ∈ l, h.length = 8 ∧ ∀ x ∈ h, x < 256
theorem HL.take {l : List (List Nat)} (h : HL l) (k : Nat) : HL (l.take k) := fun x hx => h x (List.mem_of_mem_take hx)
theorem HL.drop {l : List (List Nat)} (h : HL l) (k : Nat) : HL (l.drop k) := fun x hx => h x (List.mem_of_mem_drop hx)
theorem flatten_take : ∀ {l : List (List Nat)} (k : Nat), HL l → (l.take k).flatten = l.flatten.take (k * 8)
  | _, 0, _ => by simp
  | [], k + 1, _ => by simp
  | x :: l, k + 1, h => by
    rw [List.take_succ_cons, List.flatten_cons, flatten_take k (fun y hy => h y (List.mem_cons_of_mem _ hy)), List.flatten_cons, Nat.succ_mul, Nat.add_comm, ← (h x List.mem_cons_self).1, List.take_length_add_append]
theorem flatten_drop : ∀ {l : List (List Nat)} (k : Nat), HL l → (l.drop k).flatten = l.flatten.drop (k * 8)
  | _, 0, _ => by simp
  | [], k + 1, _ => by simp
  | x :: l, k + 1, h => by
    rw [List.drop_succ_cons, flatten_drop k (fun y hy => h y (List.mem_cons_of_mem _ hy)), List.flatten_cons, Nat.succ_mul, Nat.add_comm, ← (h x List.mem_cons_self).1, List.drop_length_add_append]
theorem pc_flat {l : List (List Nat)} {i : Nat} {x : List Nat} (h : HL l) (hx : l[i]? = some x) : pc 8 l.flatten i = x := by
  have hi := (List.getElem?_eq_some_iff.1 hx).1
  have h1 : pc 8 l.flatten i = ((l.drop i).take 1).flatten := by
    rw [flatten_take 1 (h.drop i), flatten_drop i h, Nat.one_mul]; rfl
  rw [h1, List.drop_eq_getElem_cons hi, List.take_succ_cons, List.take_zero, List.flatten_cons, List.flatten_nil, List.append_nil]
  exact (List.getElem?_eq_some_iff.1 hx).2
/-- How many bits a number has. -/
def lenN (x : Nat) : Nat := if x = 0 then 0 else Nat.log2 x + 1
def lens8 : List Nat := (List.range 256).map lenN
theorem lens8_lt : ∀ x ∈ lens8, x < 256 := by
  intro x hx
  simp only [lens8, List.mem_map, List.mem_range] at hx
  obtain ⟨y, hy, rfl⟩ := hx
  unfold lenN
  split
  · decide
  · have : Nat.log2 y < 8 := (Nat.log2_lt (by assumption)).2 (by omega)
    omega
theorem lens8_at (x : Nat) (h : x < 256) : lens8.getD x 0 = lenN x := by
  simp [lens8, List.getD_eq_getElem?_getD, h]
theorem lenN_shift (x : Nat) (h : 256 ≤ x) : 8 + lenN (x / 2 ^ 8) = lenN x := by
  have h0 : x / 2 ^ 8 ≠ 0 := by omega
  have h1 : x ≠ 0 := by omega
  unfold lenN
  rw [if_neg h0, if_neg h1]
  have h2 := (Nat.log2_eq_iff h0).1 rfl
  have : Nat.log2 x = Nat.log2 (x / 2 ^ 8) + 8 := by
    rw [Nat.log2_eq_iff h1]
    have e1 : 2 ^ (Nat.log2 (x / 2 ^ 8) + 8) = 2 ^ Nat.log2 (x / 2 ^ 8) * 256 := Nat.pow_add 2 _ 8
    have e2 : 2 ^ (Nat.log2 (x / 2 ^ 8) + 8 + 1) = 2 ^ (Nat.log2 (x / 2 ^ 8) + 1) * 256 := by rw [← Nat.pow_add 2 _ 8]
    rw [e1, e2]
    omega
  omega
theorem log2_small (x : Nat) (h0 : 0 < x) (h : x < 65536) : Nat.log2 x < 16 := (Nat.log2_lt (by omega)).2 h
end Go.Sha
namespace Go.Vc
open Go Go.Sha
theorem add_zero_ (a : Addr) : a.add 0 = a := Addr.add_zero' a
theorem SrcW.takeN {w : World} {sz m c k : Nat} {a : Addr} {cs : List Value} (hl : cs.length = m * sz) (hr : ∀ j u, cs[j]? = some u → w.cell? (a.add j) = some u) (hk : k ≤ m) (hmc : m ≤ c) : SrcW w sz (.slice (some a) k c) k (cs.take (k * sz)) :=
  .at a k c _ (by rw [List.length_take, hl]; exact Nat.min_eq_left (Nat.mul_le_mul_right _ hk)) (by omega) fun j u hj => hr j u (by rw [List.getElem?_take] at hj; split at hj; exact hj; cases hj)
theorem SrcW.dropN {w : World} {sz m c k : Nat} {a : Addr} {cs : List Value} (hl : cs.length = m * sz) (hr : ∀ j u, cs[j]? = some u → w.cell? (a.add j) = some u) (hmc : m ≤ c) : SrcW w sz (.slice (some (a.add (k * sz))) (m - k) (c - k)) (m - k) (cs.drop (k * sz)) :=
  .at _ _ _ _ (by rw [List.length_drop, hl, Nat.sub_mul]) (by omega) fun j u hj => by rw [add_add]; rw [List.getElem?_drop] at hj; exact hr _ u hj
end Go.Vc
namespace Go.Proofs.YtfoeakgnkfcbjaaGreatDoor
open Go Go.Vc Go.Sha

set_option maxRecDepth 100000 in
theorem Len64_calls (x : Nat) (hx : x < 65536) (w : World) : Gives Tryz.prog 144 [.int .u64 x] (.int .i64 (lenN x : Nat)) w := by
  refine enter Tryz.func144 rfl (Mem.nil w []) rfl ?_
  (repeat refine RC.seq ?_); refine RC.region ?_
  refine Run.a (Val.of rfl) ?_
  refine Run.nil (RQ.next ?_)
  (repeat refine RC.seq ?_); refine RC.region ?_
  refine Run.a (Val.of rfl) ?_
  refine Run.a (Val.of rfl) ?_
  refine Run.nil (RQ.next ?_)
  (repeat refine RC.seq ?_); refine RC.condF rfl (decide_eq_false (by omega)) (RC.skip (RQ.next ?_))
  (repeat refine RC.seq ?_); refine RC.region ?_
  refine Run.a (Val.of rfl) ?_
  refine Run.a (Val.of rfl) ?_
  refine Run.nil (RQ.next ?_)
  (repeat refine RC.seq ?_); refine RC.condF rfl (decide_eq_false (by omega)) (RC.skip (RQ.next ?_))
  (repeat refine RC.seq ?_); refine RC.region ?_
  refine Run.a (Val.of rfl) ?_
  refine Run.a (Val.of rfl) ?_
  refine Run.nil (RQ.next ?_)
  (repeat refine RC.seq ?_); refine RC.cond rfl (fun h => ?_) (fun h => ?_)
  · have h1 : 256 ≤ x := by have := of_decide_eq_true h; omega
    clear h
    (repeat refine RC.seq ?_); refine RC.region ?_
    refine Run.a (Val.of rfl) ?_
    refine Run.a (Val.shr (m := 8) rfl rfl rfl (by decide)) ?_
    refine Run.a (Val.of rfl) ?_
    refine Run.nil (RQ.next ?_)
    (repeat refine RC.seq ?_); refine RC.region ?_
    refine Run.a (Val.of rfl) ?_
    refine Run.a (Val.eq (Val.of rfl) (show _ = Value.int .i64 8 from rfl)) ?_
    refine Run.a (Val.of rfl) ?_
    refine Run.nil (RQ.next ?_)
    have h2 : x / 2 ^ 8 < 256 := by omega
    (repeat refine RC.seq ?_); refine RC.region ?_
    refine Run.a (Val.of rfl) ?_
    refine Run.a (Val.of rfl) ?_
    refine Run.a (Val.convIn tabOk rfl rfl rfl rfl rfl rfl (by simp only [inK]; omega)) ?_
    refine Run.a (Val.eq (Val.ixStr tabOk (x / 2 ^ 8) (a := lens8) rfl rfl rfl (by kernel_rfl) rfl rfl h2 lens8_lt) (show _ = Value.int .u8 ((lenN (x / 2 ^ 8) : Nat) : Int) from by rw [lens8_at _ h2])) ?_
    have h3 : lenN (x / 2 ^ 8) < 10 := by
      unfold lenN
      split
      · decide
      · have : Nat.log2 (x / 2 ^ 8) < 8 := (Nat.log2_lt (by assumption)).2 (by omega)
        omega
    refine Run.a (Val.convIn tabOk rfl rfl rfl rfl rfl rfl (by simp only [inK]; omega)) ?_
    refine Run.a (Val.eq (Val.ar rfl rfl rfl rfl (by dsimp only [inK]; omega)) (show _ = Value.int .i64 ((lenN x : Nat) : Int) from by rw [← lenN_shift x h1]; congr 1)) ?_
    refine Run.a (Val.of rfl) ?_
    refine Run.nil (RQ.next ?_)
    refine RC.ret ?_; (repeat first | refine RQ.thenRet ?_ | refine RQ.blockRet ?_); exact RQ.ret1 rfl (Res.tmp rfl) fun w' hm => ⟨rfl, hm.fr⟩
  · have h1 : x < 256 := by have := of_decide_eq_false h; omega
    clear h
    refine RC.skip (RQ.next ?_)
    (repeat refine RC.seq ?_); refine RC.region ?_
    refine Run.a (Val.of rfl) ?_
    refine Run.a (Val.of rfl) ?_
    refine Run.a (Val.convIn tabOk rfl rfl rfl rfl rfl rfl (by simp only [inK]; omega)) ?_
    refine Run.a (Val.eq (Val.ixStr tabOk x (a := lens8) rfl rfl rfl (by kernel_rfl) rfl rfl h1 lens8_lt) (show _ = Value.int .u8 ((lenN x : Nat) : Int) from by rw [lens8_at _ h1])) ?_
    have h3 : lenN x < 10 := by
      unfold lenN
      split
      · decide
      · have : Nat.log2 x < 8 := (Nat.log2_lt (by assumption)).2 (by omega)
        omega
    refine Run.a (Val.convIn tabOk rfl rfl rfl rfl rfl rfl (by simp only [inK]; omega)) ?_
    refine Run.a (Val.eq (Val.ar rfl rfl rfl rfl (by dsimp only [inK]; omega)) (show _ = Value.int .i64 ((lenN x : Nat) : Int) from by congr 1; omega)) ?_
    refine Run.a (Val.of rfl) ?_
    refine Run.nil (RQ.next ?_)
    refine RC.ret ?_; (repeat first | refine RQ.thenRet ?_ | refine RQ.blockRet ?_); exact RQ.ret1 rfl (Res.tmp rfl) fun w' hm => ⟨rfl, hm.fr⟩

set_option maxRecDepth 10000 in set_option maxHeartbeats 4000000 in
theorem Len_calls (x : Nat) (hx : x < 65536) (w : World) : Gives Tryz.prog 101 [.int .u64 x] (.int .i64 (lenN x : Nat)) w := by
  refine enter Tryz.func101 rfl (Mem.nil w []) rfl ?_
  (repeat refine RC.seq ?_); refine RC.region ?_
  refine Run.a (Val.of rfl) ?_
  refine Run.nil (RQ.next ?_)
  (repeat refine RC.seq ?_); refine RC.condF rfl rfl (RC.skip (RQ.next ?_))
  (repeat refine RC.seq ?_); refine RC.region ?_
  refine Run.a (Val.of rfl) ?_
  refine Run.callV Tryz.func144 rfl rfl rfl rfl rfl rfl rfl (fun w' _ => Len64_calls x hx w') ?_
  refine Run.a (Val.of rfl) ?_
  refine Run.nil (RQ.next ?_)
  refine RC.ret ?_; (repeat first | refine RQ.thenRet ?_ | refine RQ.blockRet ?_); exact RQ.ret1 rfl (Res.tmp rfl) fun w' hm => ⟨rfl, hm.fr⟩

set_option maxRecDepth 10000 in set_option maxHeartbeats 4000000 in
theorem half_calls (n : Nat) (h2 : 2 ≤ n) (hn : n ≤ 65536) (w : World) : Gives Tryz.prog 56 [.int .i64 n] (.int .i64 (cut n : Nat)) w := by
  refine enter Tryz.func56 rfl (Mem.nil w []) rfl ?_
  have hl := log2_small (n - 1) (by omega) (by omega)
  have hc : lenN (n - 1) = Nat.log2 (n - 1) + 1 := by unfold lenN; rw [if_neg (by omega)]
  have hp : 2 ^ Nat.log2 (n - 1) < 65536 := Nat.lt_of_lt_of_le (Nat.pow_lt_pow_right (by decide) hl) (Nat.le_refl _)
  unfold cut
  (repeat refine RC.seq ?_); refine RC.region ?_
  refine Run.a (Val.of rfl) ?_
  refine Run.nil (RQ.next ?_)
  (repeat refine RC.seq ?_); refine RC.region ?_
  refine Run.a (Val.of rfl) ?_
  refine Run.a (Val.eq (Val.ar rfl rfl rfl rfl (by dsimp only [inK]; omega)) (show _ = Value.int .i64 ((n - 1 : Nat) : Int) from by congr 1; omega)) ?_
  refine Run.a (Val.convIn tabOk rfl rfl rfl rfl rfl rfl (by simp only [inK]; omega)) ?_
  refine Run.callV Tryz.func101 rfl rfl rfl rfl rfl rfl rfl (fun w' _ => Len_calls (n - 1) (by omega) w') ?_
  rw [hc]
  generalize Nat.log2 (n - 1) = k at *
  refine Run.a (Val.eq (Val.ar rfl rfl rfl rfl (by dsimp only [inK]; omega)) (show _ = Value.int .i64 ((k : Nat) : Int) from by congr 1; omega)) ?_
  refine Run.a (Val.eq (Val.shl (a := 1) (m := k) rfl rfl rfl (by show _ ≤ 64; omega)) (show _ = Value.int .i64 ((2 ^ k : Nat) : Int) from by rw [Nat.one_mul, wrap_in (by simp only [inK]; generalize 2 ^ k = pw at *; omega)])) ?_
  refine Run.a (Val.of rfl) ?_
  refine Run.nil (RQ.next ?_)
  refine RC.ret ?_; (repeat first | refine RQ.thenRet ?_ | refine RQ.blockRet ?_); exact RQ.ret1 rfl (Res.tmp rfl) fun w' hm => ⟨rfl, hm.fr⟩

set_option maxRecDepth 10000 in set_option maxHeartbeats 4000000 in
theorem leaf_calls (h : List Nat) (hs : h.length = 8) (hlt : ∀ x ∈ h, x < 256) (w : World) (hK : Laid w) :
    Gives Tryz.prog 58 [.agg (u8s h).toArray] (.agg (u8s (leafN h)).toArray) w := by
  refine enter Tryz.func58 rfl (Mem.nil w []) rfl ?_
  (repeat refine RC.seq ?_); refine RC.region ?_
  refine Run.nw (New.boxA rfl rfl) ?_
  intro b1
  refine Run.nw (New.alloc tabOk rfl rfl) ?_
  intro b2
  refine Run.nil (RQ.next ?_)
  (repeat refine RC.seq ?_); refine RC.region ?_
  refine Run.a (Val.eq (Val.sliceA tabOk rfl rfl rfl rfl rfl) (show _ = Value.slice (some ⟨b1, 0, none⟩) h.length h.length from by rw [hs])) ?_
  refine Run.nw (New.buildSlice tabOk (parts := [(0, .tmp 3)]) (cells := [Value.slice (some ⟨b1, 0, none⟩) h.length h.length].toArray) rfl rfl rfl rfl rfl rfl (fillS_full 1 1 _ [Value.slice (some ⟨b1, 0, none⟩) h.length h.length] rfl (by simp [Value.cells]))) ?_
  intro b4
  refine Run.callV Tryz.func32 rfl rfl rfl rfl rfl rfl rfl (fun w' hm => Of_calls 108 (by decide) _ _ [h] w' (SrcW.row hm m0 rfl (Nat.le_refl 1)) (parts1' (u := .slice (some ⟨b1, 0, none⟩) h.length h.length) (SrcW.row hm m2 (by simp [u8s_len]) (Nat.le_refl _))) (by simp [tot, hs]) (by simpa using hlt) (hK.fr hm.fr (by simp))) ?_
  have hd : (leafN h).length = 8 := digest_len _ _
  rw [show digest 108 [h] = leafN h from rfl]
  generalize leafN h = dg at *
  refine Run.op1 (OpTo.setAll tabOk rfl rfl rfl rfl rfl p1 hd rfl) (fun _ => ?_)
  refine Run.nil (RQ.next ?_)
  refine RC.ret ?_; (repeat first | refine RQ.thenRet ?_ | refine RQ.blockRet ?_)
  exact RQ.ret1 rfl (Res.cellU tabOk rfl rfl rfl m0 hd) fun w' hm => ⟨rfl, hm.fr⟩

set_option maxRecDepth 10000 in set_option maxHeartbeats 4000000 in
theorem join_calls (a b : List Nat) (ha : a.length = 8) (hb : b.length = 8) (ha' : ∀ x ∈ a, x < 256) (hb' : ∀ x ∈ b, x < 256) (w : World) (hK : Laid w) :
    Gives Tryz.prog 59 [.agg (u8s a).toArray, .agg (u8s b).toArray] (.agg (u8s (joinN a b)).toArray) w := by
  refine enter Tryz.func59 rfl (Mem.nil w []) rfl ?_
  (repeat refine RC.seq ?_); refine RC.region ?_
  refine Run.nw (New.boxA rfl rfl) ?_
  intro b2
  refine Run.nw (New.boxA rfl rfl) ?_
  intro b3
  refine Run.nw (New.alloc tabOk rfl rfl) ?_
  intro b4
  refine Run.nil (RQ.next ?_)
  (repeat refine RC.seq ?_); refine RC.region ?_
  refine Run.a (Val.loadU tabOk rfl rfl rfl rfl (by repeat (first | exact List.mem_cons_self | apply List.mem_cons_of_mem | apply List.mem_append_right)) ha) ?_
  refine Run.a (Val.loadU tabOk rfl rfl rfl rfl (by repeat (first | exact List.mem_cons_self | apply List.mem_cons_of_mem | apply List.mem_append_right)) hb) ?_
  refine Run.callV Tryz.func102 rfl rfl rfl rfl rfl rfl rfl (fun w' hm => Two_calls 109 (by decide) a b ha hb ha' hb' w' (hK.fr hm.fr (by simp))) ?_
  have hd : (joinN a b).length = 8 := digest_len _ _
  rw [show digest 109 [a, b] = joinN a b from rfl]
  generalize joinN a b = dg at *
  refine Run.op1 (OpTo.setAll tabOk rfl rfl rfl rfl rfl (List.Perm.refl _) hd rfl) (fun _ => ?_)
  refine Run.nil (RQ.next ?_)
  refine RC.ret ?_; (repeat first | refine RQ.thenRet ?_ | refine RQ.blockRet ?_)
  exact RQ.ret1 rfl (Res.cellU tabOk rfl rfl rfl m0 hd) fun w' hm => ⟨rfl, hm.fr⟩

theorem joinN_len (a b : List Nat) : (joinN a b).length = 8 := digest_len _ _
theorem rootOf_cut {l : List (List Nat)} (h2 : 2 ≤ l.length) (h : l.length ≤ 65536) : joinN (rootOf (l.take (cut l.length))) (rootOf (l.drop (cut l.length))) = rootOf l := by
  have hc := cut_lt h2
  unfold rootOf
  rw [if_pos h, if_pos (by rw [List.length_take]; omega), if_pos (by rw [List.length_drop]; omega), ← mroot_cut h2]

set_option maxRecDepth 10000 in set_option maxHeartbeats 4000000 in
theorem Root_calls : ∀ (n : Nat) (l : List (List Nat)), l.length = n → HL l → ∀ (v : Value) (w : World), SrcW w 8 v l.length (u8s l.flatten) → Laid w →
    Gives Tryz.prog 35 [v] (.agg (u8s (rootOf l)).toArray) w := by
  intro n
  induction n using Nat.strongRecOn with
  | _ n ih =>
  intro l hl hH v w hs hK
  have hrl := rootOf_len l
  by_cases h0 : l.length = 0
  · obtain ⟨a, c, rfl, hc⟩ := hs.shape
    have hz : rootOf l = List.replicate 8 0 := by rw [List.eq_nil_of_length_eq_zero h0]; unfold rootOf; rw [if_pos (by decide), mroot_nil]; rfl
    rw [hz]
    refine enter Tryz.func35 rfl (Mem.nil w []) rfl ?_
    (repeat refine RC.seq ?_); refine RC.region ?_
    refine Run.nw (New.alloc tabOk rfl rfl) ?_
    intro b2
    refine Run.nil (RQ.next ?_)
    (repeat refine RC.seq ?_); refine RC.region ?_
    refine Run.a (Val.of rfl) ?_
    refine Run.a (Val.len (len := l.length) tabOk rfl rfl rfl rfl) ?_
    refine Run.a (Val.of rfl) ?_
    refine Run.nil (RQ.next ?_)
    (repeat refine RC.seq ?_); refine RC.block ?_
    (repeat refine RC.seq ?_); refine RC.region ?_
    refine Run.a (Val.of rfl) ?_
    refine Run.a (Val.eq (Val.of rfl) (show _ = Value.bool true from congrArg Value.bool (by rw [beq_iff_eq]; omega))) ?_
    refine Run.a (Val.of rfl) ?_
    refine Run.sk ?_
    refine Run.sk ?_
    refine Run.a (Val.of rfl) ?_
    refine Run.a (Val.of rfl) ?_
    refine Run.nil (RQ.next ?_)
    (repeat refine RC.seq ?_); refine RC.condT rfl rfl ?_
    (repeat refine RC.seq ?_); refine RC.region ?_
    refine Run.a (Val.buildA tabOk (parts := []) (cells := (u8s (List.replicate 8 0)).toArray) rfl rfl rfl rfl rfl rfl) ?_
    refine Run.op1 (OpTo.setAll tabOk rfl rfl rfl rfl rfl (List.Perm.refl _) rfl rfl) (fun _ => ?_)
    refine Run.nil (RQ.next ?_)
    refine RC.ret ?_; (repeat first | refine RQ.thenRet ?_ | refine RQ.blockRet ?_)
    exact RQ.ret1 rfl (Res.cellU tabOk rfl rfl rfl m0 rfl) fun w' hm => ⟨rfl, hm.fr⟩
  · obtain ⟨ad, c, rfl, hc, hcl, hr⟩ := hs.pos (by omega)
    refine enter Tryz.func35 rfl (Mem.nil w []) rfl ?_
    (repeat refine RC.seq ?_); refine RC.region ?_
    refine Run.nw (New.alloc tabOk rfl rfl) ?_
    intro b2
    refine Run.nil (RQ.next ?_)
    (repeat refine RC.seq ?_); refine RC.region ?_
    refine Run.a (Val.of rfl) ?_
    refine Run.a (Val.len (len := l.length) tabOk rfl rfl rfl rfl) ?_
    refine Run.a (Val.of rfl) ?_
    refine Run.nil (RQ.next ?_)
    (repeat refine RC.seq ?_); refine RC.block ?_
    (repeat refine RC.seq ?_); refine RC.region ?_
    refine Run.a (Val.of rfl) ?_
    refine Run.a (Val.eq (Val.of rfl) (show _ = Value.bool false from congrArg Value.bool (by rw [beq_eq_false_iff_ne]; omega))) ?_
    refine Run.a (Val.of rfl) ?_
    refine Run.a (Val.of rfl) ?_
    refine Run.a (Val.eq (Val.of rfl) (show _ = Value.bool (decide (65536 < l.length)) from congrArg Value.bool (by rw [decide_eq_decide]; omega))) ?_
    refine Run.a (Val.of rfl) ?_
    refine Run.a (Val.of rfl) ?_
    refine Run.nil (RQ.next ?_)
    (repeat refine RC.seq ?_); refine RC.cond rfl (fun h => ?_) (fun h => ?_)
    · have h1 := of_decide_eq_true h
      have hz : rootOf l = List.replicate 8 0 := by unfold rootOf; rw [if_neg (by omega)]; rfl
      rw [hz]
      (repeat refine RC.seq ?_); refine RC.region ?_
      refine Run.a (Val.buildA tabOk (parts := []) (cells := (u8s (List.replicate 8 0)).toArray) rfl rfl rfl rfl rfl rfl) ?_
      refine Run.op1 (OpTo.setAll tabOk rfl rfl rfl rfl rfl (List.Perm.refl _) rfl rfl) (fun _ => ?_)
      refine Run.nil (RQ.next ?_)
      refine RC.ret ?_; (repeat first | refine RQ.thenRet ?_ | refine RQ.blockRet ?_)
      exact RQ.ret1 rfl (Res.cellU tabOk rfl rfl rfl m0 rfl) fun w' hm => ⟨rfl, hm.fr⟩
    · have h1 := of_decide_eq_false h
      clear h
      (repeat refine RC.seq ?_); refine RC.region ?_
      refine Run.a (Val.of rfl) ?_
      refine Run.a (Val.eq (Val.of rfl) (show _ = Value.bool (decide (l.length = 1)) from congrArg Value.bool (by rw [Bool.eq_iff_iff, beq_iff_eq, decide_eq_true_iff]; omega))) ?_
      refine Run.a (Val.of rfl) ?_
      refine Run.nil (RQ.next ?_)
      (repeat refine RC.seq ?_); refine RC.cond rfl (fun h => ?_) (fun h => ?_)
      · have h2 := of_decide_eq_true h
        obtain ⟨x, rfl⟩ : ∃ x, l = [x] := by
          match l, h2 with
          | [x], _ => exact ⟨x, rfl⟩
        have hx := hH x List.mem_cons_self
        have hz : rootOf [x] = leafN x := by unfold rootOf; rw [if_pos (by simp), mroot_one]
        rw [hz]
        have hd : (leafN x).length = 8 := digest_len _ _
        have hfl : u8s [x].flatten = u8s x := by simp
        rw [hfl] at hr
        (repeat refine RC.seq ?_); refine RC.region ?_
        refine Run.a (Val.of rfl) ?_
        refine Run.a (Val.ixS tabOk 0 (ad' := ad) rfl rfl rfl rfl rfl rfl rfl (by simp) (by rw [Nat.zero_mul]; exact add_zero_ ad)) ?_
        refine Run.a (Val.loadOld tabOk (cs := u8s x) rfl rfl rfl rfl (by simp) (by rw [u8s_len, hx.1]; rfl) hr) ?_
        refine Run.callV Tryz.func58 rfl rfl rfl rfl rfl rfl rfl (fun w' hm => leaf_calls x hx.1 hx.2 w' (hK.fr hm.fr (by simp))) ?_
        generalize leafN x = dg at *
        refine Run.op1 (OpTo.setAll tabOk rfl rfl rfl rfl rfl (List.Perm.refl _) hd rfl) (fun _ => ?_)
        refine Run.nil (RQ.next ?_)
        refine RC.ret ?_; (repeat first | refine RQ.thenRet ?_ | refine RQ.blockRet ?_)
        exact RQ.ret1 rfl (Res.cellU tabOk rfl rfl rfl m0 hd) fun w' hm => ⟨rfl, hm.fr⟩
      · have h2 := of_decide_eq_false h
        clear h
        have hlt := cut_lt (n := l.length) (by omega)
        have hps := cut_pos l.length
        have hrc := rootOf_cut (l := l) (by omega) (by omega)
        have ht : SrcW w 8 (.slice (some ad) (cut l.length) c) (l.take (cut l.length)).length (u8s (l.take (cut l.length)).flatten) := by
          rw [List.length_take, Nat.min_eq_left (by omega), flatten_take _ hH, u8s_take]
          exact SrcW.takeN hcl hr (by omega) hc
        have hdp : SrcW w 8 (.slice (some (ad.add (cut l.length * 8))) (l.length - cut l.length) (c - cut l.length)) (l.drop (cut l.length)).length (u8s (l.drop (cut l.length)).flatten) := by
          rw [List.length_drop, flatten_drop _ hH, u8s_drop]
          exact SrcW.dropN hcl hr hc
        have ih1 := ih (cut l.length) (by omega) (l.take (cut l.length)) (by rw [List.length_take]; omega) (hH.take _)
        have ih2 := ih (l.length - cut l.length) (by omega) (l.drop (cut l.length)) (by rw [List.length_drop]) (hH.drop _)
        have r1 := rootOf_len (l.take (cut l.length))
        have r2 := rootOf_len (l.drop (cut l.length))
        have s1 := rootOf_lt (l.take (cut l.length))
        have s2 := rootOf_lt (l.drop (cut l.length))
        refine RC.skip (RQ.blockNormal (RQ.next ?_))
        (repeat refine RC.seq ?_); refine RC.region ?_
        refine Run.a (Val.of rfl) ?_
        refine Run.a (Val.len (len := l.length) tabOk rfl rfl rfl rfl) ?_
        refine Run.callV Tryz.func56 rfl rfl rfl rfl rfl rfl rfl (fun w' _ => half_calls l.length (by omega) (by omega) w') ?_
        refine Run.a (Val.of rfl) ?_
        refine Run.nil (RQ.next ?_)
        (repeat refine RC.seq ?_); refine RC.drawS mixed (N := 10) rfl ?_
        refine DR.t 0 rfl (Val.of rfl) ?_
        refine DR.t 1 rfl (Val.of rfl) ?_
        refine DR.t 2 rfl (Val.eq (Val.sliceS' tabOk 0 (cut l.length) rfl rfl rfl rfl rfl (.inl ⟨rfl, rfl⟩) (.inr ⟨_, rfl, rfl⟩) (by omega) (by omega) (by omega) rfl) (show _ = Value.slice (some ad) (cut l.length) c from by rw [Nat.zero_mul, add_zero_, Nat.sub_zero, Nat.sub_zero])) ?_
        refine DR.t 4 rfl (Val.of rfl) ?_
        refine DR.t 5 rfl (Val.of rfl) ?_
        refine DR.t 6 rfl (Val.sliceS' tabOk (cut l.length) l.length rfl rfl rfl rfl rfl (.inr ⟨_, rfl, rfl⟩) (.inl ⟨rfl, rfl⟩) (by omega) (by omega) (by omega) rfl) ?_
        refine DR.c 3 ?_
        refine DOp.op1 rfl (OpTo.callV Tryz.func35 rfl rfl rfl rfl rfl rfl (fun w' hm => ih1 _ w' (ht.mem hm) (hK.fr hm.fr (by simp)))) (fun _ => ?_)
        refine DR.c 7 ?_
        refine DOp.op1 rfl (OpTo.callV Tryz.func35 rfl rfl rfl rfl rfl rfl (fun w' hm => ih2 _ w' (hdp.mem hm) (hK.fr hm.fr (by simp)))) (fun _ => ?_)
        refine DR.c 8 ?_
        refine DOp.op1 rfl (OpTo.callV Tryz.func59 rfl rfl rfl rfl rfl rfl (fun w' hm => join_calls _ _ r1 r2 s1 s2 w' (hK.fr hm.fr (by simp)))) (fun _ => ?_)
        rw [hrc]
        generalize rootOf l = dg at *
        refine DR.c 9 ?_
        refine DOp.op1 rfl (OpTo.setAll tabOk rfl rfl rfl rfl rfl (List.Perm.refl _) hrl rfl) (fun _ => ?_)
        refine DR.done (by kernel_rfl) (RQ.next ?_)
        refine RC.ret ?_; (repeat first | refine RQ.thenRet ?_ | refine RQ.blockRet ?_)
        exact RQ.ret1 rfl (Res.cellU tabOk rfl rfl rfl m0 hrl) fun w' hm => ⟨rfl, hm.fr⟩
end Go.Proofs.YtfoeakgnkfcbjaaGreatDoor

/- merkle.Prove, turns, Check. -/
namespace Go.Vc
open Go
section
variable {P : Program} {n : Nat} {w0 : World} {S0 : List Nat} {Q : Exit → Act → World → Prop} {E : Env} {L : Hp} {o : Oper} {d : Nat}
theorem fillS_one (sz : Nat) (z : Array Value) (dg : List Nat) (h : dg.length = sz) : fillS sz 1 z ((List.range 1).zip [Value.agg (Sha.u8s dg).toArray]).toArray = some (Sha.u8s dg).toArray := by
  rw [fillS_full sz 1 z _ rfl (fun v hv => by rw [List.mem_singleton] at hv; subst hv; simp [Value.cells, Sha.u8s_len, h])]
  simp [Value.cells]
/-- It makes a slice of its own, and tells whether. -/
def Makes2 (P : Program) (f : FuncId) (vs : List Value) (w : World) (e : TypeId) (sz m : Nat) (cs : List Value) (b : Bool) : Prop :=
  Calls P f vs.toArray w fun e' w' => ∃ v bl, e' = .returned (.tuple #[v, .bool b]) ∧ Own e sz v m cs bl ∧ Fr [] w w' ∧ (∀ p ∈ bl, w'.heap[p.1]? = some p.2 ∧ w.heap.size ≤ p.1) ∧ (bl.map (·.1)).Nodup
theorem OpTo.callMk2 {f : FuncId} {xs : List Operand} {ts : Array TypeId} {fn : Func} {vs : List Value} {e : TypeId} {sz m : Nat} {cs : List Value} {b : Bool} (hf : P.funcs[f]? = some fn) (hd : o.dst = some d) (hn : Nat.blt d n = true)
    (ho : o.op = .call { callee := .value (.func f), args := xs.toArray, argTypes := ts }) (hnm : (fn.name == "runtime.NumGoroutine") = false) (hb : fn.body.isNone = false)
    (hx : lkAll E xs = some vs) (hc : ∀ w, Mem w0 S0 L w → Makes2 P f vs w e sz m cs b) : OpTo P n w0 S0 Q E L o (Y := {p : Value × Hp // Own e sz p.1 m cs p.2}) (fun y => (d, .tuple #[y.1.1, .bool b]) :: E) (fun y => y.1.2 ++ L) :=
  OpTo.call (Y := {p : Value × Hp // Own e sz p.1 m cs p.2}) (V := fun y => .tuple #[y.1.1, .bool b]) (L' := fun y => y.1.2 ++ L) hf hd hn ho hnm hb hx (fun w hm => (hc w hm).mono (by
    rintro e' w' ⟨v, bl, rfl, hown, hfr, hbl, hnd⟩
    exact ⟨⟨(v, bl), hown⟩, rfl, hm.add hfr (fun p hp => (hbl p hp).1) (fun p hp => (hbl p hp).2) hnd⟩))
theorem Makes2.of {e : TypeId} {sz m : Nat} {cs : List Value} {v : Value} {bl L' : Hp} {w : World} {b : Bool} (hown : Own e sz v m cs bl) (hm : Mem w0 [] (bl ++ L') w) :
    ∃ v' bl', Ending.returned (.tuple #[v, .bool b]) = .returned (.tuple #[v', .bool b]) ∧ Own e sz v' m cs bl' ∧ Fr [] w0 w ∧ (∀ p ∈ bl', w.heap[p.1]? = some p.2 ∧ w0.heap.size ≤ p.1) ∧ (bl'.map (·.1)).Nodup :=
  ⟨v, bl, rfl, hown, hm.fr, fun p hp => ⟨hm.has p (List.mem_append_left _ hp), (hm.own p (List.mem_append_left _ hp)).resolve_right (by simp)⟩,
   (by have := hm.nd; rw [List.map_append] at this; exact (List.nodup_append.1 this).1)⟩
theorem Makes2.nil {e : TypeId} {sz : Nat} {w : World} {b : Bool} (hm : Mem w0 [] L w) :
    ∃ v' bl', Ending.returned (.tuple #[.slice none 0 0, .bool b]) = .returned (.tuple #[v', .bool b]) ∧ Own e sz v' 0 [] bl' ∧ Fr [] w0 w ∧ (∀ p ∈ bl', w.heap[p.1]? = some p.2 ∧ w0.heap.size ≤ p.1) ∧ (bl'.map (·.1)).Nodup :=
  ⟨_, [], rfl, .nil, hm.fr, (fun p hp => by cases hp), List.nodup_nil⟩
end
end Go.Vc
namespace Go.Sha
/-- What a proof is, for any number. -/
def provB (l : List (List Nat)) (z : Int) : Bool := decide (0 ≤ z ∧ z < l.length ∧ l.length ≤ 65536)
def provN (l : List (List Nat)) (z : Int) : List (List Nat) := if provB l z = true then mprove l z.toNat else []
theorem prov_bad {l : List (List Nat)} {z : Int} (h : z < 0 ∨ (l.length : Int) ≤ z ∨ 65536 < l.length) : provN l z = [] ∧ provB l z = false := by
  have e : provB l z = false := decide_eq_false (by omega)
  exact ⟨by unfold provN; rw [e]; rfl, e⟩
theorem prov_good {l : List (List Nat)} {i : Nat} (h : i < l.length) (hl : l.length ≤ 65536) : provN l (i : Int) = mprove l i ∧ provB l (i : Int) = true := by
  have e : provB l (i : Int) = true := decide_eq_true (by omega)
  exact ⟨by unfold provN; rw [e]; rfl, e⟩
theorem turnsN_le : ∀ (N i n : Nat), n = N → (turnsN i n).length ≤ n := by
  intro N
  induction N using Nat.strongRecOn with
  | _ N ih =>
    intro i n hn
    by_cases h : n ≤ 1
    · rw [turnsN_small h]; simp
    · have hc := cut_lt (n := n) (by omega)
      have hp := cut_pos n
      by_cases hk : i < cut n
      · rw [turnsN_left (by omega) hk, List.length_append]
        have := ih (cut n) (by omega) i (cut n) rfl
        simp only [List.length_cons, List.length_nil]
        omega
      · rw [turnsN_right (by omega) (by omega), List.length_append]
        have := ih (n - cut n) (by omega) (i - cut n) (n - cut n) rfl
        simp only [List.length_cons, List.length_nil]
        omega
end Go.Sha
namespace Go.Proofs.YtfoeakgnkfcbjaaGreatDoor
open Go Go.Vc Go.Sha

set_option maxRecDepth 10000 in set_option maxHeartbeats 4000000 in
theorem Prove_calls : ∀ (n : Nat) (l : List (List Nat)), l.length = n → HL l → ∀ (z : Int) (v : Value) (w : World), SrcW w 8 v l.length (u8s l.flatten) → Laid w →
    Makes2 Tryz.prog 27 [v, .int .i64 z] w 23 8 (provN l z).length (u8s (provN l z).flatten) (provB l z) := by
  intro n
  induction n using Nat.strongRecOn with
  | _ n ih =>
  intro l hl hH z v w hs hK
  obtain ⟨a, c, hv, hac⟩ := hs.shape
  by_cases hA : z < 0
  · obtain ⟨e1, e2⟩ := prov_bad (l := l) (z := z) (.inl hA)
    rw [e1, e2]
    subst hv
    refine enter Tryz.func27 rfl (Mem.nil w []) rfl ?_
    (repeat refine RC.seq ?_); refine RC.region ?_
    refine Run.a (Val.of rfl) ?_
    refine Run.a (Val.of rfl) ?_
    refine Run.nil (RQ.next ?_)
    (repeat refine RC.seq ?_); refine RC.region ?_
    refine Run.a (Val.of rfl) ?_
    refine Run.a (Val.eq (Val.of rfl) (show _ = Value.bool true from congrArg Value.bool (decide_eq_true (by omega)))) ?_
    refine Run.a (Val.of rfl) ?_
    refine Run.sk ?_
    refine Run.sk ?_
    refine Run.sk ?_
    refine Run.sk ?_
    refine Run.a (Val.of rfl) ?_
    refine Run.a (Val.of rfl) ?_
    refine Run.sk ?_
    refine Run.sk ?_
    refine Run.sk ?_
    refine Run.a (Val.of rfl) ?_
    refine Run.nil (RQ.next ?_)
    (repeat refine RC.seq ?_); refine RC.condT rfl rfl ?_
    (repeat refine RC.seq ?_); refine RC.region ?_
    refine Run.a (Val.of rfl) ?_
    refine Run.a (Val.of rfl) ?_
    refine Run.nil (RQ.next ?_)
    refine RC.ret ?_; (repeat first | refine RQ.thenRet ?_ | refine RQ.blockRet ?_)
    exact RQ.ret2 rfl (Res.tmp rfl) (Res.tmp rfl) fun w' hm => Makes2.nil hm
  by_cases hB : (l.length : Int) ≤ z
  · obtain ⟨e1, e2⟩ := prov_bad (l := l) (z := z) (.inr (.inl hB))
    rw [e1, e2]
    subst hv
    refine enter Tryz.func27 rfl (Mem.nil w []) rfl ?_
    (repeat refine RC.seq ?_); refine RC.region ?_
    refine Run.a (Val.of rfl) ?_
    refine Run.a (Val.of rfl) ?_
    refine Run.nil (RQ.next ?_)
    (repeat refine RC.seq ?_); refine RC.region ?_
    refine Run.a (Val.of rfl) ?_
    refine Run.a (Val.eq (Val.of rfl) (show _ = Value.bool false from congrArg Value.bool (decide_eq_false (by omega)))) ?_
    refine Run.a (Val.of rfl) ?_
    refine Run.a (Val.of rfl) ?_
    refine Run.a (Val.of rfl) ?_
    refine Run.a (Val.len (len := l.length) tabOk rfl rfl rfl rfl) ?_
    refine Run.a (Val.eq (Val.of rfl) (show _ = Value.bool true from congrArg Value.bool (decide_eq_true (by omega)))) ?_
    refine Run.a (Val.of rfl) ?_
    refine Run.a (Val.of rfl) ?_
    refine Run.sk ?_
    refine Run.sk ?_
    refine Run.sk ?_
    refine Run.a (Val.of rfl) ?_
    refine Run.nil (RQ.next ?_)
    (repeat refine RC.seq ?_); refine RC.condT rfl rfl ?_
    (repeat refine RC.seq ?_); refine RC.region ?_
    refine Run.a (Val.of rfl) ?_
    refine Run.a (Val.of rfl) ?_
    refine Run.nil (RQ.next ?_)
    refine RC.ret ?_; (repeat first | refine RQ.thenRet ?_ | refine RQ.blockRet ?_)
    exact RQ.ret2 rfl (Res.tmp rfl) (Res.tmp rfl) fun w' hm => Makes2.nil hm
  by_cases hC : 65536 < l.length
  · obtain ⟨e1, e2⟩ := prov_bad (l := l) (z := z) (.inr (.inr hC))
    rw [e1, e2]
    subst hv
    refine enter Tryz.func27 rfl (Mem.nil w []) rfl ?_
    (repeat refine RC.seq ?_); refine RC.region ?_
    refine Run.a (Val.of rfl) ?_
    refine Run.a (Val.of rfl) ?_
    refine Run.nil (RQ.next ?_)
    (repeat refine RC.seq ?_); refine RC.region ?_
    refine Run.a (Val.of rfl) ?_
    refine Run.a (Val.eq (Val.of rfl) (show _ = Value.bool false from congrArg Value.bool (decide_eq_false (by omega)))) ?_
    refine Run.a (Val.of rfl) ?_
    refine Run.a (Val.of rfl) ?_
    refine Run.a (Val.of rfl) ?_
    refine Run.a (Val.len (len := l.length) tabOk rfl rfl rfl rfl) ?_
    refine Run.a (Val.eq (Val.of rfl) (show _ = Value.bool false from congrArg Value.bool (decide_eq_false (by omega)))) ?_
    refine Run.a (Val.of rfl) ?_
    refine Run.a (Val.of rfl) ?_
    refine Run.a (Val.of rfl) ?_
    refine Run.a (Val.len (len := l.length) tabOk rfl rfl rfl rfl) ?_
    refine Run.a (Val.eq (Val.of rfl) (show _ = Value.bool true from congrArg Value.bool (decide_eq_true (by omega)))) ?_
    refine Run.a (Val.of rfl) ?_
    refine Run.nil (RQ.next ?_)
    (repeat refine RC.seq ?_); refine RC.condT rfl rfl ?_
    (repeat refine RC.seq ?_); refine RC.region ?_
    refine Run.a (Val.of rfl) ?_
    refine Run.a (Val.of rfl) ?_
    refine Run.nil (RQ.next ?_)
    refine RC.ret ?_; (repeat first | refine RQ.thenRet ?_ | refine RQ.blockRet ?_)
    exact RQ.ret2 rfl (Res.tmp rfl) (Res.tmp rfl) fun w' hm => Makes2.nil hm
  obtain ⟨i, rfl⟩ := Int.eq_ofNat_of_zero_le (show 0 ≤ z by omega)
  have hi : i < l.length := by omega
  obtain ⟨e1, e2⟩ := prov_good (l := l) (i := i) hi (by omega)
  rw [e1, e2]
  clear hv hac
  obtain ⟨ad, c, rfl, hc, hcl, hr⟩ := hs.pos (by omega)
  refine enter Tryz.func27 rfl (Mem.nil w []) rfl ?_
  (repeat refine RC.seq ?_); refine RC.region ?_
  refine Run.a (Val.of rfl) ?_
  refine Run.a (Val.of rfl) ?_
  refine Run.nil (RQ.next ?_)
  (repeat refine RC.seq ?_); refine RC.region ?_
  refine Run.a (Val.of rfl) ?_
  refine Run.a (Val.eq (Val.of rfl) (show _ = Value.bool false from congrArg Value.bool (decide_eq_false (by omega)))) ?_
  refine Run.a (Val.of rfl) ?_
  refine Run.a (Val.of rfl) ?_
  refine Run.a (Val.of rfl) ?_
  refine Run.a (Val.len (len := l.length) tabOk rfl rfl rfl rfl) ?_
  refine Run.a (Val.eq (Val.of rfl) (show _ = Value.bool false from congrArg Value.bool (decide_eq_false (by omega)))) ?_
  refine Run.a (Val.of rfl) ?_
  refine Run.a (Val.of rfl) ?_
  refine Run.a (Val.of rfl) ?_
  refine Run.a (Val.len (len := l.length) tabOk rfl rfl rfl rfl) ?_
  refine Run.a (Val.eq (Val.of rfl) (show _ = Value.bool false from congrArg Value.bool (decide_eq_false (by omega)))) ?_
  refine Run.a (Val.of rfl) ?_
  refine Run.nil (RQ.next ?_)
  (repeat refine RC.seq ?_); refine RC.condF rfl rfl (RC.skip (RQ.next ?_))
  (repeat refine RC.seq ?_); refine RC.region ?_
  refine Run.a (Val.of rfl) ?_
  refine Run.a (Val.len (len := l.length) tabOk rfl rfl rfl rfl) ?_
  refine Run.a (Val.eq (Val.of rfl) (show _ = Value.bool (decide (l.length = 1)) from congrArg Value.bool (by rw [Bool.eq_iff_iff, beq_iff_eq, decide_eq_true_iff]; omega))) ?_
  refine Run.nil (RQ.next ?_)
  (repeat refine RC.seq ?_); refine RC.cond rfl (fun h => ?_) (fun h => ?_)
  · have h1 := of_decide_eq_true h
    rw [mprove_small (by omega)]
    (repeat refine RC.seq ?_); refine RC.region ?_
    refine Run.a (Val.of rfl) ?_
    refine Run.a (Val.of rfl) ?_
    refine Run.nil (RQ.next ?_)
    refine RC.ret ?_; (repeat first | refine RQ.thenRet ?_ | refine RQ.blockRet ?_)
    exact RQ.ret2 rfl (Res.tmp rfl) (Res.tmp rfl) fun w' hm => Makes2.nil hm
  have h2 := of_decide_eq_false h
  clear h
  refine RC.skip (RQ.next ?_)
  have hlt := cut_lt (n := l.length) (by omega)
  have hps := cut_pos l.length
  have hge := cut_ge (n := l.length)
  have ht : SrcW w 8 (.slice (some ad) (cut l.length) c) (l.take (cut l.length)).length (u8s (l.take (cut l.length)).flatten) := by
    rw [List.length_take, Nat.min_eq_left (by omega), flatten_take _ hH, u8s_take]
    exact SrcW.takeN hcl hr (by omega) hc
  have hdp : SrcW w 8 (.slice (some (ad.add (cut l.length * 8))) (l.length - cut l.length) (c - cut l.length)) (l.drop (cut l.length)).length (u8s (l.drop (cut l.length)).flatten) := by
    rw [List.length_drop, flatten_drop _ hH, u8s_drop]
    exact SrcW.dropN hcl hr hc
  have ih1 := ih (cut l.length) (by omega) (l.take (cut l.length)) (by rw [List.length_take]; omega) (hH.take _)
  have ih2 := ih (l.length - cut l.length) (by omega) (l.drop (cut l.length)) (by rw [List.length_drop]) (hH.drop _)
  have hR1 := Root_calls _ (l.take (cut l.length)) rfl (hH.take _)
  have hR2 := Root_calls _ (l.drop (cut l.length)) rfl (hH.drop _)
  have r1 : rootOf (l.take (cut l.length)) = mroot (l.take (cut l.length)) := by unfold rootOf; rw [if_pos (by rw [List.length_take]; omega)]
  have r2 : rootOf (l.drop (cut l.length)) = mroot (l.drop (cut l.length)) := by unfold rootOf; rw [if_pos (by rw [List.length_drop]; omega)]
  have s1 := mroot_len (l.take (cut l.length))
  have s2 := mroot_len (l.drop (cut l.length))
  have lt1 : (l.take (cut l.length)).length = cut l.length := by rw [List.length_take]; omega
  have lt2 : (l.drop (cut l.length)).length = l.length - cut l.length := by rw [List.length_drop]
  (repeat refine RC.seq ?_); refine RC.region ?_
  refine Run.a (Val.of rfl) ?_
  refine Run.a (Val.len (len := l.length) tabOk rfl rfl rfl rfl) ?_
  refine Run.callV Tryz.func56 rfl rfl rfl rfl rfl rfl rfl (fun w' _ => half_calls l.length (by omega) (by omega) w') ?_
  refine Run.a (Val.of rfl) ?_
  refine Run.nil (RQ.next ?_)
  (repeat refine RC.seq ?_); refine RC.drawS mixed (N := 8) rfl ?_
  refine DR.t 0 rfl (Val.of rfl) ?_
  refine DR.t 1 rfl (Val.of rfl) ?_
  refine DR.t 2 rfl (Val.eq (Val.sliceS' tabOk 0 (cut l.length) rfl rfl rfl rfl rfl (.inl ⟨rfl, rfl⟩) (.inr ⟨_, rfl, rfl⟩) (by omega) (by omega) (by omega) rfl) (show _ = Value.slice (some ad) (cut l.length) c from by rw [Nat.zero_mul, add_zero_, Nat.sub_zero, Nat.sub_zero])) ?_
  refine DR.t 3 rfl (Val.of rfl) ?_
  refine DR.t 4 rfl (Val.of rfl) ?_
  refine DR.t 5 rfl (Val.sliceS' tabOk (cut l.length) l.length rfl rfl rfl rfl rfl (.inr ⟨_, rfl, rfl⟩) (.inl ⟨rfl, rfl⟩) (by omega) (by omega) (by omega) rfl) ?_
  refine DR.t 6 rfl (Val.of rfl) ?_
  refine DR.t 7 rfl (Val.of rfl) ?_
  refine DR.done (by kernel_rfl) (RQ.next ?_)
  (repeat refine RC.seq ?_); refine RC.region ?_
  refine Run.a (Val.of rfl) ?_
  refine Run.a (Val.of rfl) ?_
  refine Run.a (Val.eq (Val.of rfl) (show _ = Value.bool (decide (cut l.length ≤ i)) from congrArg Value.bool (by rw [decide_eq_decide]; omega))) ?_
  refine Run.nil (RQ.next ?_)
  (repeat refine RC.seq ?_); refine RC.cond rfl (fun h => ?_) (fun h => ?_)
  · have hk := of_decide_eq_true h
    clear h
    obtain ⟨f1, f2⟩ := prov_good (l := l.drop (cut l.length)) (i := i - cut l.length) (by omega) (by omega)
    have ihh := ih2 ((i - cut l.length : Nat) : Int)
    rw [f1, f2] at ihh
    rw [mprove_right (by omega) hk]
    have hml := mprove_len _ (l.drop (cut l.length)) (i - cut l.length) rfl (by omega)
    have hmb := turnsN_le _ (i - cut l.length) (l.length - cut l.length) rfl
    rw [lt2] at hml
    (repeat refine RC.seq ?_); refine RC.region ?_
    refine Run.a (Val.of rfl) ?_
    refine Run.a (Val.of rfl) ?_
    refine Run.a (Val.of rfl) ?_
    refine Run.a (Val.of rfl) ?_
    refine Run.a (Val.eq (Val.ar rfl rfl rfl rfl (by dsimp only [inK]; omega)) (show _ = Value.int .i64 ((i - cut l.length : Nat) : Int) from by congr 1; omega)) ?_
    refine Run.a (Val.of rfl) ?_
    refine Run.a (Val.of rfl) ?_
    refine Run.a (Val.of rfl) ?_
    refine Run.nil (RQ.next ?_)
    (repeat refine RC.seq ?_); refine RC.region ?_
    refine Run.a (Val.of rfl) ?_
    refine Run.a (Val.of rfl) ?_
    refine Run.op rfl (OpTo.callMk2 Tryz.func27 rfl rfl rfl rfl rfl rfl (fun w' hm => ihh _ w' (hdp.mem hm) (hK.fr hm.fr (by simp)))) ?_
    rintro ⟨⟨vp, blp⟩, hownp⟩
    dsimp only at hownp ⊢
    refine Run.a (Val.of rfl) ?_
    refine Run.a (Val.of rfl) ?_
    refine Run.a (Val.of rfl) ?_
    refine Run.a (Val.of rfl) ?_
    refine Run.a (Val.of rfl) ?_
    refine Run.nil (RQ.next ?_)
    (repeat refine RC.seq ?_); refine RC.region ?_
    refine Run.a (Val.of rfl) ?_
    refine Run.a (Val.of rfl) ?_
    refine Run.callV Tryz.func35 rfl rfl rfl rfl rfl rfl rfl (fun w' hm => hR1 _ w' (ht.mem hm) (hK.fr hm.fr (by simp))) ?_
    rw [r1]
    generalize mroot (l.take (cut l.length)) = dg at *
    refine Run.nw (New.buildSlice tabOk (parts := [(0, .tmp 52)]) (cells := (u8s dg).toArray) rfl rfl rfl rfl rfl rfl (fillS_one _ _ dg s1)) ?_
    intro bb
    refine Run.op rfl (OpTo.append tabOk hownp (Src.at ⟨bb, 0, none⟩ 1 1 (u8s dg) (by rw [u8s_len, s1]; rfl) (Rd.rowAll m0)) rfl rfl rfl rfl rfl rfl rfl rfl rfl (List.perm_middle.symm) (u8s_one _) (by unfold maxLen; omega) (by simp only [ti23]; omega)) ?_
    rintro ⟨⟨vq, blq⟩, hownq⟩
    refine Run.a (Val.of rfl) ?_
    refine Run.a (Val.of rfl) ?_
    refine Run.a (Val.of rfl) ?_
    refine Run.nil (RQ.next ?_)
    refine RC.ret ?_; (repeat first | refine RQ.thenRet ?_ | refine RQ.blockRet ?_)
    exact RQ.ret2 rfl (Res.tmp rfl) (Res.tmp rfl) fun w' hm => Makes2.of (by have h9 : Own 23 8 vq _ _ blq := hownq; rw [← u8s_app] at h9; simpa [List.flatten_append] using h9) hm
  · have hk : i < cut l.length := by have := of_decide_eq_false h; omega
    clear h
    obtain ⟨f1, f2⟩ := prov_good (l := l.take (cut l.length)) (i := i) (by omega) (by omega)
    have ihh := ih1 (i : Int)
    rw [f1, f2] at ihh
    rw [mprove_left (by omega) hk]
    have hml := mprove_len _ (l.take (cut l.length)) i rfl (by omega)
    have hmb := turnsN_le _ i (cut l.length) rfl
    rw [lt1] at hml
    refine RC.skip (RQ.next ?_)
    (repeat refine RC.seq ?_); refine RC.region ?_
    refine Run.a (Val.of rfl) ?_
    refine Run.a (Val.of rfl) ?_
    refine Run.op rfl (OpTo.callMk2 Tryz.func27 rfl rfl rfl rfl rfl rfl (fun w' hm => ihh _ w' (ht.mem hm) (hK.fr hm.fr (by simp)))) ?_
    rintro ⟨⟨vp, blp⟩, hownp⟩
    dsimp only at hownp ⊢
    refine Run.a (Val.of rfl) ?_
    refine Run.a (Val.of rfl) ?_
    refine Run.a (Val.of rfl) ?_
    refine Run.a (Val.of rfl) ?_
    refine Run.a (Val.of rfl) ?_
    refine Run.nil (RQ.next ?_)
    (repeat refine RC.seq ?_); refine RC.region ?_
    refine Run.a (Val.of rfl) ?_
    refine Run.a (Val.of rfl) ?_
    refine Run.callV Tryz.func35 rfl rfl rfl rfl rfl rfl rfl (fun w' hm => hR2 _ w' (hdp.mem hm) (hK.fr hm.fr (by simp))) ?_
    rw [r2]
    generalize mroot (l.drop (cut l.length)) = dg at *
    refine Run.nw (New.buildSlice tabOk (parts := [(0, .tmp 52)]) (cells := (u8s dg).toArray) rfl rfl rfl rfl rfl rfl (fillS_one _ _ dg s2)) ?_
    intro bb
    refine Run.op rfl (OpTo.append tabOk hownp (Src.at ⟨bb, 0, none⟩ 1 1 (u8s dg) (by rw [u8s_len, s2]; rfl) (Rd.rowAll m0)) rfl rfl rfl rfl rfl rfl rfl rfl rfl (List.perm_middle.symm) (u8s_one _) (by unfold maxLen; omega) (by simp only [ti23]; omega)) ?_
    rintro ⟨⟨vq, blq⟩, hownq⟩
    refine Run.a (Val.of rfl) ?_
    refine Run.a (Val.of rfl) ?_
    refine Run.a (Val.of rfl) ?_
    refine Run.nil (RQ.next ?_)
    refine RC.ret ?_; (repeat first | refine RQ.thenRet ?_ | refine RQ.blockRet ?_)
    exact RQ.ret2 rfl (Res.tmp rfl) (Res.tmp rfl) fun w' hm => Makes2.of (by have h9 : Own 23 8 vq _ _ blq := hownq; rw [← u8s_app] at h9; simpa [List.flatten_append] using h9) hm
end Go.Proofs.YtfoeakgnkfcbjaaGreatDoor
end
