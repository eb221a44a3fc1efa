/- merkle: half, leaf, join, Root; the reference's cut and Root; rows of hashes. -/
import Derived.Test.YtilfbomjaflbjaaDoorRefA
import Derived.Test.YtilfbomjaflbjaaDoorVcN
import Derived.Test.YtilfbomjaflbjaaDoorMer0
namespace Go.Sha
/-- Each is a hash. -/
def HL (l : List (List Nat)) : Prop := ∀ h ∈ l, h.length = 8 ∧ ∀ x ∈ h, x < 256
theorem HL.take {l : List (List Nat)} (h : HL l) (k : Nat) : HL (l.take k) := fun x hx => h x (List.mem_of_mem_take hx)
theorem HL.drop {l : List (List Nat)} (h : HL l) (k : Nat) : HL (l.drop k) := fun x hx => h x (List.mem_of_mem_drop hx)
theorem HL.len : ∀ {l : List (List Nat)}, HL l → l.flatten.length = l.length * 8
  | [], _ => rfl
  | x :: l, h => by
    rw [List.flatten_cons, List.length_append, (h x List.mem_cons_self).1, HL.len (l := l) (fun y hy => h y (List.mem_cons_of_mem _ hy)), List.length_cons, Nat.succ_mul]
    omega
theorem flatten_take : ∀ {l : List (List Nat)} (k : Nat), HL l → (l.take k).flatten = l.flatten.take (k * 8)
  | _, 0, _ => by simp
  | [], k + 1, _ => by simp
  | x :: l, k + 1, h => by
    rw [List.take_succ_cons, List.flatten_cons, flatten_take k (fun y hy => h y (List.mem_cons_of_mem _ hy)), List.flatten_cons, Nat.succ_mul, Nat.add_comm, ← (h x List.mem_cons_self).1, List.take_length_add_append]
theorem flatten_drop : ∀ {l : List (List Nat)} (k : Nat), HL l → (l.drop k).flatten = l.flatten.drop (k * 8)
  | _, 0, _ => by simp
  | [], k + 1, _ => by simp
  | x :: l, k + 1, h => by
    rw [List.drop_succ_cons, flatten_drop k (fun y hy => h y (List.mem_cons_of_mem _ hy)), List.flatten_cons, Nat.succ_mul, Nat.add_comm, ← (h x List.mem_cons_self).1, List.drop_length_add_append]
theorem pc_flat {l : List (List Nat)} {i : Nat} {x : List Nat} (h : HL l) (hx : l[i]? = some x) : pc 8 l.flatten i = x := by
  have hi := (List.getElem?_eq_some_iff.1 hx).1
  have h1 : pc 8 l.flatten i = ((l.drop i).take 1).flatten := by
    rw [flatten_take 1 (h.drop i), flatten_drop i h, Nat.one_mul]; rfl
  rw [h1, List.drop_eq_getElem_cons hi, List.take_succ_cons, List.take_zero, List.flatten_cons, List.flatten_nil, List.append_nil]
  exact (List.getElem?_eq_some_iff.1 hx).2
/-- How many bits a number has. -/
def lenN (x : Nat) : Nat := if x = 0 then 0 else Nat.log2 x + 1
def lens8 : List Nat := (List.range 256).map lenN
theorem lens8_lt : ∀ x ∈ lens8, x < 256 := by
  intro x hx
  simp only [lens8, List.mem_map, List.mem_range] at hx
  obtain ⟨y, hy, rfl⟩ := hx
  unfold lenN
  split
  · decide
  · have : Nat.log2 y < 8 := (Nat.log2_lt (by assumption)).2 (by omega)
    omega
theorem lens8_at (x : Nat) (h : x < 256) : lens8.getD x 0 = lenN x := by
  simp [lens8, List.getD_eq_getElem?_getD, h]
theorem lenN_shift (x : Nat) (h : 256 ≤ x) : 8 + lenN (x / 2 ^ 8) = lenN x := by
  have h0 : x / 2 ^ 8 ≠ 0 := by omega
  have h1 : x ≠ 0 := by omega
  unfold lenN
  rw [if_neg h0, if_neg h1]
  have h2 := (Nat.log2_eq_iff h0).1 rfl
  have : Nat.log2 x = Nat.log2 (x / 2 ^ 8) + 8 := by
    rw [Nat.log2_eq_iff h1]
    have e1 : 2 ^ (Nat.log2 (x / 2 ^ 8) + 8) = 2 ^ Nat.log2 (x / 2 ^ 8) * 256 := Nat.pow_add 2 _ 8
    have e2 : 2 ^ (Nat.log2 (x / 2 ^ 8) + 8 + 1) = 2 ^ (Nat.log2 (x / 2 ^ 8) + 1) * 256 := by rw [← Nat.pow_add 2 _ 8]
    rw [e1, e2]
    omega
  omega
theorem log2_small (x : Nat) (h0 : 0 < x) (h : x < 65536) : Nat.log2 x < 16 := (Nat.log2_lt (by omega)).2 h
end Go.Sha
namespace Go.Vc
open Go Go.Sha
theorem add_zero_ (a : Addr) : a.add 0 = a := Addr.add_zero' a
theorem SrcW.takeN {w : World} {sz m c k : Nat} {a : Addr} {cs : List Value} (hl : cs.length = m * sz) (hr : ∀ j u, cs[j]? = some u → w.cell? (a.add j) = some u) (hk : k ≤ m) (hmc : m ≤ c) : SrcW w sz (.slice (some a) k c) k (cs.take (k * sz)) :=
  .at a k c _ (by rw [List.length_take, hl]; exact Nat.min_eq_left (Nat.mul_le_mul_right _ hk)) (by omega) fun j u hj => hr j u (by rw [List.getElem?_take] at hj; split at hj; exact hj; cases hj)
theorem SrcW.dropN {w : World} {sz m c k : Nat} {a : Addr} {cs : List Value} (hl : cs.length = m * sz) (hr : ∀ j u, cs[j]? = some u → w.cell? (a.add j) = some u) (hmc : m ≤ c) : SrcW w sz (.slice (some (a.add (k * sz))) (m - k) (c - k)) (m - k) (cs.drop (k * sz)) :=
  .at _ _ _ _ (by rw [List.length_drop, hl, Nat.sub_mul]) (by omega) fun j u hj => by rw [add_add]; rw [List.getElem?_drop] at hj; exact hr _ u hj
end Go.Vc
namespace Go.Proofs.YtilfbomjaflbjaaDoor
open Go Go.Vc Go.Sha

set_option maxRecDepth 100000 in
theorem Len64_calls (x : Nat) (hx : x < 65536) (w : World) : Gives Tryd.prog 75 [.int .u64 x] (.int .i64 (lenN x : Nat)) w := by
  refine enter Tryd.func75 rfl (Mem.nil w []) rfl ?_
  (repeat refine RC.seq ?_); refine RC.region ?_
  refine Run.v rfl rfl rfl (Val.of rfl) ?_
  refine Run.nil (RQ.next ?_)
  (repeat refine RC.seq ?_); refine RC.region ?_
  refine Run.v rfl rfl rfl (Val.of rfl) ?_
  refine Run.v rfl rfl rfl (Val.of rfl) ?_
  refine Run.nil (RQ.next ?_)
  (repeat refine RC.seq ?_); refine RC.condF rfl (decide_eq_false (by omega)) (RC.skip (RQ.next ?_))
  (repeat refine RC.seq ?_); refine RC.region ?_
  refine Run.v rfl rfl rfl (Val.of rfl) ?_
  refine Run.v rfl rfl rfl (Val.of rfl) ?_
  refine Run.nil (RQ.next ?_)
  (repeat refine RC.seq ?_); refine RC.condF rfl (decide_eq_false (by omega)) (RC.skip (RQ.next ?_))
  (repeat refine RC.seq ?_); refine RC.region ?_
  refine Run.v rfl rfl rfl (Val.of rfl) ?_
  refine Run.v rfl rfl rfl (Val.of rfl) ?_
  refine Run.nil (RQ.next ?_)
  (repeat refine RC.seq ?_); refine RC.cond rfl (fun h => ?_) (fun h => ?_)
  · have h1 : 256 ≤ x := by have := of_decide_eq_true h; omega
    clear h
    (repeat refine RC.seq ?_); refine RC.region ?_
    refine Run.v rfl rfl rfl (Val.of rfl) ?_
    refine Run.v rfl rfl rfl (Val.shr (m := 8) rfl rfl rfl (by decide)) ?_
    refine Run.v rfl rfl rfl (Val.of rfl) ?_
    refine Run.nil (RQ.next ?_)
    (repeat refine RC.seq ?_); refine RC.region ?_
    refine Run.v rfl rfl rfl (Val.of rfl) ?_
    refine Run.v rfl rfl rfl (Val.eq (Val.of rfl) (show _ = Value.int .i64 8 from rfl)) ?_
    refine Run.v rfl rfl rfl (Val.of rfl) ?_
    refine Run.nil (RQ.next ?_)
    have h2 : x / 2 ^ 8 < 256 := by omega
    (repeat refine RC.seq ?_); refine RC.region ?_
    refine Run.v rfl rfl rfl (Val.of rfl) ?_
    refine Run.v rfl rfl rfl (Val.of rfl) ?_
    refine Run.v rfl rfl rfl (Val.convIn tabOk rfl rfl rfl rfl rfl rfl (by simp only [inK]; omega)) ?_
    refine Run.v rfl rfl rfl (Val.eq (Val.ixStr tabOk (x / 2 ^ 8) (a := lens8) rfl rfl rfl (by kernel_rfl) rfl rfl h2 lens8_lt) (show _ = Value.int .u8 ((lenN (x / 2 ^ 8) : Nat) : Int) from by rw [lens8_at _ h2])) ?_
    have h3 : lenN (x / 2 ^ 8) < 10 := by
      unfold lenN
      split
      · decide
      · have : Nat.log2 (x / 2 ^ 8) < 8 := (Nat.log2_lt (by assumption)).2 (by omega)
        omega
    refine Run.v rfl rfl rfl (Val.convIn tabOk rfl rfl rfl rfl rfl rfl (by simp only [inK]; omega)) ?_
    refine Run.v rfl rfl rfl (Val.eq (Val.ar rfl rfl rfl rfl (by dsimp only [inK]; omega)) (show _ = Value.int .i64 ((lenN x : Nat) : Int) from by rw [← lenN_shift x h1]; congr 1)) ?_
    refine Run.v rfl rfl rfl (Val.of rfl) ?_
    refine Run.nil (RQ.next ?_)
    refine RC.ret ?_; (repeat first | refine RQ.thenRet ?_ | refine RQ.blockRet ?_); exact RQ.ret1 rfl (Res.tmp rfl) fun w' hm => ⟨rfl, hm.fr⟩
  · have h1 : x < 256 := by have := of_decide_eq_false h; omega
    clear h
    refine RC.skip (RQ.next ?_)
    (repeat refine RC.seq ?_); refine RC.region ?_
    refine Run.v rfl rfl rfl (Val.of rfl) ?_
    refine Run.v rfl rfl rfl (Val.of rfl) ?_
    refine Run.v rfl rfl rfl (Val.convIn tabOk rfl rfl rfl rfl rfl rfl (by simp only [inK]; omega)) ?_
    refine Run.v rfl rfl rfl (Val.eq (Val.ixStr tabOk x (a := lens8) rfl rfl rfl (by kernel_rfl) rfl rfl h1 lens8_lt) (show _ = Value.int .u8 ((lenN x : Nat) : Int) from by rw [lens8_at _ h1])) ?_
    have h3 : lenN x < 10 := by
      unfold lenN
      split
      · decide
      · have : Nat.log2 x < 8 := (Nat.log2_lt (by assumption)).2 (by omega)
        omega
    refine Run.v rfl rfl rfl (Val.convIn tabOk rfl rfl rfl rfl rfl rfl (by simp only [inK]; omega)) ?_
    refine Run.v rfl rfl rfl (Val.eq (Val.ar rfl rfl rfl rfl (by dsimp only [inK]; omega)) (show _ = Value.int .i64 ((lenN x : Nat) : Int) from by congr 1; omega)) ?_
    refine Run.v rfl rfl rfl (Val.of rfl) ?_
    refine Run.nil (RQ.next ?_)
    refine RC.ret ?_; (repeat first | refine RQ.thenRet ?_ | refine RQ.blockRet ?_); exact RQ.ret1 rfl (Res.tmp rfl) fun w' hm => ⟨rfl, hm.fr⟩

set_option maxRecDepth 10000 in
theorem Len_calls (x : Nat) (hx : x < 65536) (w : World) : Gives Tryd.prog 67 [.int .u64 x] (.int .i64 (lenN x : Nat)) w := by
  refine enter Tryd.func67 rfl (Mem.nil w []) rfl ?_
  (repeat refine RC.seq ?_); refine RC.region ?_
  refine Run.v rfl rfl rfl (Val.of rfl) ?_
  refine Run.nil (RQ.next ?_)
  (repeat refine RC.seq ?_); refine RC.condF rfl rfl (RC.skip (RQ.next ?_))
  (repeat refine RC.seq ?_); refine RC.region ?_
  refine Run.v rfl rfl rfl (Val.of rfl) ?_
  refine Run.callV Tryd.func75 rfl rfl rfl rfl rfl rfl rfl (fun w' _ => Len64_calls x hx w') ?_
  refine Run.v rfl rfl rfl (Val.of rfl) ?_
  refine Run.nil (RQ.next ?_)
  refine RC.ret ?_; (repeat first | refine RQ.thenRet ?_ | refine RQ.blockRet ?_); exact RQ.ret1 rfl (Res.tmp rfl) fun w' hm => ⟨rfl, hm.fr⟩

set_option maxRecDepth 10000 in
theorem half_calls (n : Nat) (h2 : 2 ≤ n) (hn : n ≤ 65536) (w : World) : Gives Tryd.prog 57 [.int .i64 n] (.int .i64 (cut n : Nat)) w := by
  refine enter Tryd.func57 rfl (Mem.nil w []) rfl ?_
  have hl := log2_small (n - 1) (by omega) (by omega)
  have hc : lenN (n - 1) = Nat.log2 (n - 1) + 1 := by unfold lenN; rw [if_neg (by omega)]
  have hp : 2 ^ Nat.log2 (n - 1) < 65536 := Nat.lt_of_lt_of_le (Nat.pow_lt_pow_right (by decide) hl) (Nat.le_refl _)
  unfold cut
  (repeat refine RC.seq ?_); refine RC.region ?_
  refine Run.v rfl rfl rfl (Val.of rfl) ?_
  refine Run.nil (RQ.next ?_)
  (repeat refine RC.seq ?_); refine RC.region ?_
  refine Run.v rfl rfl rfl (Val.of rfl) ?_
  refine Run.v rfl rfl rfl (Val.eq (Val.ar rfl rfl rfl rfl (by dsimp only [inK]; omega)) (show _ = Value.int .i64 ((n - 1 : Nat) : Int) from by congr 1; omega)) ?_
  refine Run.v rfl rfl rfl (Val.convIn tabOk rfl rfl rfl rfl rfl rfl (by simp only [inK]; omega)) ?_
  refine Run.callV Tryd.func67 rfl rfl rfl rfl rfl rfl rfl (fun w' _ => Len_calls (n - 1) (by omega) w') ?_
  rw [hc]
  generalize Nat.log2 (n - 1) = k at *
  refine Run.v rfl rfl rfl (Val.eq (Val.ar rfl rfl rfl rfl (by dsimp only [inK]; omega)) (show _ = Value.int .i64 ((k : Nat) : Int) from by congr 1; omega)) ?_
  refine Run.v rfl rfl rfl (Val.eq (Val.shl (a := 1) (m := k) rfl rfl rfl (by show _ ≤ 64; omega)) (show _ = Value.int .i64 ((2 ^ k : Nat) : Int) from by rw [Nat.one_mul, wrap_in (by simp only [inK]; generalize 2 ^ k = pw at *; omega)])) ?_
  refine Run.v rfl rfl rfl (Val.of rfl) ?_
  refine Run.nil (RQ.next ?_)
  refine RC.ret ?_; (repeat first | refine RQ.thenRet ?_ | refine RQ.blockRet ?_); exact RQ.ret1 rfl (Res.tmp rfl) fun w' hm => ⟨rfl, hm.fr⟩

set_option maxRecDepth 10000 in
theorem leaf_calls (h : List Nat) (hs : h.length = 8) (hlt : ∀ x ∈ h, x < 256) (w : World) (hK : Laid w) :
    Gives Tryd.prog 59 [.agg (u8s h).toArray] (.agg (u8s (leafN h)).toArray) w := by
  refine enter Tryd.func59 rfl (Mem.nil w []) rfl ?_
  (repeat refine RC.seq ?_); refine RC.region ?_
  refine Run.mk rfl rfl rfl (New.boxA rfl rfl) ?_
  intro b1
  refine Run.mk rfl rfl rfl (New.alloc tabOk rfl rfl) ?_
  intro b2
  refine Run.nil (RQ.next ?_)
  (repeat refine RC.seq ?_); refine RC.region ?_
  refine Run.v rfl rfl rfl (Val.eq (Val.sliceA tabOk rfl rfl rfl rfl rfl) (show _ = Value.slice (some ⟨b1, 0, none⟩) h.length h.length from by rw [hs])) ?_
  refine Run.mk rfl rfl rfl (New.buildSlice tabOk (parts := [(0, .tmp 3)]) (cells := [Value.slice (some ⟨b1, 0, none⟩) h.length h.length].toArray) rfl rfl rfl rfl rfl rfl (fillS_full 1 1 _ [Value.slice (some ⟨b1, 0, none⟩) h.length h.length] rfl (by simp [Value.cells]))) ?_
  intro b4
  refine Run.callV Tryd.func53 rfl rfl rfl rfl rfl rfl rfl (fun w' hm => Of_calls 108 (by decide) _ _ [h] w' (SrcW.row hm m0 rfl (Nat.le_refl 1)) (parts1' (u := .slice (some ⟨b1, 0, none⟩) h.length h.length) (SrcW.row hm m2 (by simp [u8s_len]) (Nat.le_refl _))) (by simp [tot, hs]) (by simpa using hlt) (hK.fr hm.fr (by simp))) ?_
  have hd : (leafN h).length = 8 := digest_len _ _
  rw [show digest 108 [h] = leafN h from rfl]
  generalize leafN h = dg at *
  refine Run.op rfl (OpTo.setAll tabOk rfl rfl rfl rfl rfl p1 hd rfl) (fun _ => ?_)
  refine Run.nil (RQ.next ?_)
  refine RC.ret ?_; (repeat first | refine RQ.thenRet ?_ | refine RQ.blockRet ?_)
  exact RQ.ret1 rfl (Res.cellU tabOk rfl rfl rfl m0 hd) fun w' hm => ⟨rfl, hm.fr⟩

set_option maxRecDepth 10000 in
theorem join_calls (a b : List Nat) (ha : a.length = 8) (hb : b.length = 8) (ha' : ∀ x ∈ a, x < 256) (hb' : ∀ x ∈ b, x < 256) (w : World) (hK : Laid w) :
    Gives Tryd.prog 60 [.agg (u8s a).toArray, .agg (u8s b).toArray] (.agg (u8s (joinN a b)).toArray) w := by
  refine enter Tryd.func60 rfl (Mem.nil w []) rfl ?_
  (repeat refine RC.seq ?_); refine RC.region ?_
  refine Run.mk rfl rfl rfl (New.boxA rfl rfl) ?_
  intro b2
  refine Run.mk rfl rfl rfl (New.boxA rfl rfl) ?_
  intro b3
  refine Run.mk rfl rfl rfl (New.alloc tabOk rfl rfl) ?_
  intro b4
  refine Run.nil (RQ.next ?_)
  (repeat refine RC.seq ?_); refine RC.region ?_
  refine Run.v rfl rfl rfl (Val.loadU tabOk rfl rfl rfl rfl (by repeat (first | exact List.mem_cons_self | apply List.mem_cons_of_mem | apply List.mem_append_right)) ha) ?_
  refine Run.v rfl rfl rfl (Val.loadU tabOk rfl rfl rfl rfl (by repeat (first | exact List.mem_cons_self | apply List.mem_cons_of_mem | apply List.mem_append_right)) hb) ?_
  refine Run.callV Tryd.func68 rfl rfl rfl rfl rfl rfl rfl (fun w' hm => Two_calls 109 (by decide) a b ha hb ha' hb' w' (hK.fr hm.fr (by simp))) ?_
  have hd : (joinN a b).length = 8 := digest_len _ _
  rw [show digest 109 [a, b] = joinN a b from rfl]
  generalize joinN a b = dg at *
  refine Run.op rfl (OpTo.setAll tabOk rfl rfl rfl rfl rfl (List.Perm.refl _) hd rfl) (fun _ => ?_)
  refine Run.nil (RQ.next ?_)
  refine RC.ret ?_; (repeat first | refine RQ.thenRet ?_ | refine RQ.blockRet ?_)
  exact RQ.ret1 rfl (Res.cellU tabOk rfl rfl rfl m0 hd) fun w' hm => ⟨rfl, hm.fr⟩

theorem joinN_len (a b : List Nat) : (joinN a b).length = 8 := digest_len _ _
theorem joinN_lt (a b : List Nat) : ∀ x ∈ joinN a b, x < 256 := digest_lt _ _
theorem rootOf_cut {l : List (List Nat)} (h2 : 2 ≤ l.length) (h : l.length ≤ 65536) : joinN (rootOf (l.take (cut l.length))) (rootOf (l.drop (cut l.length))) = rootOf l := by
  have hc := cut_lt h2
  unfold rootOf
  rw [if_pos h, if_pos (by rw [List.length_take]; omega), if_pos (by rw [List.length_drop]; omega), ← mroot_cut h2]

set_option maxRecDepth 10000 in
theorem Root_calls : ∀ (n : Nat) (l : List (List Nat)), l.length = n → HL l → ∀ (v : Value) (w : World), SrcW w 8 v l.length (u8s l.flatten) → Laid w →
    Gives Tryd.prog 38 [v] (.agg (u8s (rootOf l)).toArray) w := by
  intro n
  induction n using Nat.strongRecOn with
  | _ n ih =>
  intro l hl hH v w hs hK
  have hrl := rootOf_len l
  by_cases h0 : l.length = 0
  · obtain ⟨a, c, rfl, hc⟩ := hs.shape
    have hz : rootOf l = List.replicate 8 0 := by rw [List.eq_nil_of_length_eq_zero h0]; unfold rootOf; rw [if_pos (by decide), mroot_nil]; rfl
    rw [hz]
    refine enter Tryd.func38 rfl (Mem.nil w []) rfl ?_
    (repeat refine RC.seq ?_); refine RC.region ?_
    refine Run.mk rfl rfl rfl (New.alloc tabOk rfl rfl) ?_
    intro b2
    refine Run.nil (RQ.next ?_)
    (repeat refine RC.seq ?_); refine RC.region ?_
    refine Run.v rfl rfl rfl (Val.of rfl) ?_
    refine Run.v rfl rfl rfl (Val.len (len := l.length) tabOk rfl rfl rfl rfl) ?_
    refine Run.v rfl rfl rfl (Val.of rfl) ?_
    refine Run.nil (RQ.next ?_)
    (repeat refine RC.seq ?_); refine RC.block ?_
    (repeat refine RC.seq ?_); refine RC.region ?_
    refine Run.v rfl rfl rfl (Val.of rfl) ?_
    refine Run.v rfl rfl rfl (Val.eq (Val.of rfl) (show _ = Value.bool true from congrArg Value.bool (by rw [beq_iff_eq]; omega))) ?_
    refine Run.v rfl rfl rfl (Val.of rfl) ?_
    refine Run.skipG (Wanted.guard rfl rfl rfl rfl) rfl rfl ?_
    refine Run.skipG (Wanted.guard rfl rfl rfl rfl) rfl rfl ?_
    refine Run.v rfl rfl rfl (Val.of rfl) ?_
    refine Run.v rfl rfl rfl (Val.of rfl) ?_
    refine Run.nil (RQ.next ?_)
    (repeat refine RC.seq ?_); refine RC.condT rfl rfl ?_
    (repeat refine RC.seq ?_); refine RC.region ?_
    refine Run.v rfl rfl rfl (Val.buildA tabOk (parts := []) (cells := (u8s (List.replicate 8 0)).toArray) rfl rfl rfl rfl rfl rfl) ?_
    refine Run.op rfl (OpTo.setAll tabOk rfl rfl rfl rfl rfl (List.Perm.refl _) rfl rfl) (fun _ => ?_)
    refine Run.nil (RQ.next ?_)
    refine RC.ret ?_; (repeat first | refine RQ.thenRet ?_ | refine RQ.blockRet ?_)
    exact RQ.ret1 rfl (Res.cellU tabOk rfl rfl rfl m0 rfl) fun w' hm => ⟨rfl, hm.fr⟩
  · obtain ⟨ad, c, rfl, hc, hcl, hr⟩ := hs.pos (by omega)
    refine enter Tryd.func38 rfl (Mem.nil w []) rfl ?_
    (repeat refine RC.seq ?_); refine RC.region ?_
    refine Run.mk rfl rfl rfl (New.alloc tabOk rfl rfl) ?_
    intro b2
    refine Run.nil (RQ.next ?_)
    (repeat refine RC.seq ?_); refine RC.region ?_
    refine Run.v rfl rfl rfl (Val.of rfl) ?_
    refine Run.v rfl rfl rfl (Val.len (len := l.length) tabOk rfl rfl rfl rfl) ?_
    refine Run.v rfl rfl rfl (Val.of rfl) ?_
    refine Run.nil (RQ.next ?_)
    (repeat refine RC.seq ?_); refine RC.block ?_
    (repeat refine RC.seq ?_); refine RC.region ?_
    refine Run.v rfl rfl rfl (Val.of rfl) ?_
    refine Run.v rfl rfl rfl (Val.eq (Val.of rfl) (show _ = Value.bool false from congrArg Value.bool (by rw [beq_eq_false_iff_ne]; omega))) ?_
    refine Run.v rfl rfl rfl (Val.of rfl) ?_
    refine Run.vG (Wanted.guard rfl rfl rfl rfl) rfl rfl (Val.of rfl) ?_
    refine Run.vG (Wanted.guard rfl rfl rfl rfl) rfl rfl (Val.eq (Val.of rfl) (show _ = Value.bool (decide (65536 < l.length)) from congrArg Value.bool (by rw [decide_eq_decide]; omega))) ?_
    refine Run.v rfl rfl rfl (Val.of rfl) ?_
    refine Run.v rfl rfl rfl (Val.of rfl) ?_
    refine Run.nil (RQ.next ?_)
    (repeat refine RC.seq ?_); refine RC.cond rfl (fun h => ?_) (fun h => ?_)
    · have h1 := of_decide_eq_true h
      have hz : rootOf l = List.replicate 8 0 := by unfold rootOf; rw [if_neg (by omega)]; rfl
      rw [hz]
      (repeat refine RC.seq ?_); refine RC.region ?_
      refine Run.v rfl rfl rfl (Val.buildA tabOk (parts := []) (cells := (u8s (List.replicate 8 0)).toArray) rfl rfl rfl rfl rfl rfl) ?_
      refine Run.op rfl (OpTo.setAll tabOk rfl rfl rfl rfl rfl (List.Perm.refl _) rfl rfl) (fun _ => ?_)
      refine Run.nil (RQ.next ?_)
      refine RC.ret ?_; (repeat first | refine RQ.thenRet ?_ | refine RQ.blockRet ?_)
      exact RQ.ret1 rfl (Res.cellU tabOk rfl rfl rfl m0 rfl) fun w' hm => ⟨rfl, hm.fr⟩
    · have h1 := of_decide_eq_false h
      clear h
      (repeat refine RC.seq ?_); refine RC.region ?_
      refine Run.v rfl rfl rfl (Val.of rfl) ?_
      refine Run.v rfl rfl rfl (Val.eq (Val.of rfl) (show _ = Value.bool (decide (l.length = 1)) from congrArg Value.bool (by rw [Bool.eq_iff_iff, beq_iff_eq, decide_eq_true_iff]; omega))) ?_
      refine Run.v rfl rfl rfl (Val.of rfl) ?_
      refine Run.nil (RQ.next ?_)
      (repeat refine RC.seq ?_); refine RC.cond rfl (fun h => ?_) (fun h => ?_)
      · have h2 := of_decide_eq_true h
        obtain ⟨x, rfl⟩ : ∃ x, l = [x] := by
          match l, h2 with
          | [x], _ => exact ⟨x, rfl⟩
        have hx := hH x List.mem_cons_self
        have hz : rootOf [x] = leafN x := by unfold rootOf; rw [if_pos (by simp), mroot_one]
        rw [hz]
        have hd : (leafN x).length = 8 := digest_len _ _
        have hfl : u8s [x].flatten = u8s x := by simp
        rw [hfl] at hr
        (repeat refine RC.seq ?_); refine RC.region ?_
        refine Run.v rfl rfl rfl (Val.of rfl) ?_
        refine Run.v rfl rfl rfl (Val.ixS tabOk 0 (ad' := ad) rfl rfl rfl rfl rfl rfl rfl (by simp) (by rw [Nat.zero_mul]; exact add_zero_ ad)) ?_
        refine Run.v rfl rfl rfl (Val.loadOld tabOk (cs := u8s x) rfl rfl rfl rfl (by simp) (by rw [u8s_len, hx.1]; rfl) hr) ?_
        refine Run.callV Tryd.func59 rfl rfl rfl rfl rfl rfl rfl (fun w' hm => leaf_calls x hx.1 hx.2 w' (hK.fr hm.fr (by simp))) ?_
        generalize leafN x = dg at *
        refine Run.op rfl (OpTo.setAll tabOk rfl rfl rfl rfl rfl (List.Perm.refl _) hd rfl) (fun _ => ?_)
        refine Run.nil (RQ.next ?_)
        refine RC.ret ?_; (repeat first | refine RQ.thenRet ?_ | refine RQ.blockRet ?_)
        exact RQ.ret1 rfl (Res.cellU tabOk rfl rfl rfl m0 hd) fun w' hm => ⟨rfl, hm.fr⟩
      · have h2 := of_decide_eq_false h
        clear h
        have hlt := cut_lt (n := l.length) (by omega)
        have hps := cut_pos l.length
        have hrc := rootOf_cut (l := l) (by omega) (by omega)
        have ht : SrcW w 8 (.slice (some ad) (cut l.length) c) (l.take (cut l.length)).length (u8s (l.take (cut l.length)).flatten) := by
          rw [List.length_take, Nat.min_eq_left (by omega), flatten_take _ hH, u8s_take]
          exact SrcW.takeN hcl hr (by omega) hc
        have hdp : SrcW w 8 (.slice (some (ad.add (cut l.length * 8))) (l.length - cut l.length) (c - cut l.length)) (l.drop (cut l.length)).length (u8s (l.drop (cut l.length)).flatten) := by
          rw [List.length_drop, flatten_drop _ hH, u8s_drop]
          exact SrcW.dropN hcl hr hc
        have ih1 := ih (cut l.length) (by omega) (l.take (cut l.length)) (by rw [List.length_take]; omega) (hH.take _)
        have ih2 := ih (l.length - cut l.length) (by omega) (l.drop (cut l.length)) (by rw [List.length_drop]) (hH.drop _)
        have r1 := rootOf_len (l.take (cut l.length))
        have r2 := rootOf_len (l.drop (cut l.length))
        have s1 := rootOf_lt (l.take (cut l.length))
        have s2 := rootOf_lt (l.drop (cut l.length))
        refine RC.skip (RQ.blockNormal (RQ.next ?_))
        (repeat refine RC.seq ?_); refine RC.region ?_
        refine Run.v rfl rfl rfl (Val.of rfl) ?_
        refine Run.v rfl rfl rfl (Val.len (len := l.length) tabOk rfl rfl rfl rfl) ?_
        refine Run.callV Tryd.func57 rfl rfl rfl rfl rfl rfl rfl (fun w' _ => half_calls l.length (by omega) (by omega) w') ?_
        refine Run.v rfl rfl rfl (Val.of rfl) ?_
        refine Run.nil (RQ.next ?_)
        (repeat refine RC.seq ?_); refine RC.drawS mixed (N := 10) rfl ?_
        refine DR.take 0 rfl (by repeat (first | exact List.nil_sublist _ | exact List.Sublist.refl _ | apply List.Sublist.cons_cons | apply List.Sublist.cons)) inferInstance (by kernel_rfl) (by kernel_rfl) (by kernel_rfl) (by kernel_rfl) rfl rfl (Wanted.plain rfl) (Val.of rfl) ?_
        refine DR.take 1 rfl (by repeat (first | exact List.nil_sublist _ | exact List.Sublist.refl _ | apply List.Sublist.cons_cons | apply List.Sublist.cons)) inferInstance (by kernel_rfl) (by kernel_rfl) (by kernel_rfl) (by kernel_rfl) rfl rfl (Wanted.plain rfl) (Val.of rfl) ?_
        refine DR.take 2 rfl (by repeat (first | exact List.nil_sublist _ | exact List.Sublist.refl _ | apply List.Sublist.cons_cons | apply List.Sublist.cons)) inferInstance (by kernel_rfl) (by kernel_rfl) (by kernel_rfl) (by kernel_rfl) rfl rfl (Wanted.plain rfl) (Val.eq (Val.sliceS' tabOk 0 (cut l.length) rfl rfl rfl rfl rfl (.inl ⟨rfl, rfl⟩) (.inr ⟨_, rfl, rfl⟩) (by omega) (by omega) (by omega) rfl) (show _ = Value.slice (some ad) (cut l.length) c from by rw [Nat.zero_mul, add_zero_, Nat.sub_zero, Nat.sub_zero])) ?_
        refine DR.take 4 rfl (by repeat (first | exact List.nil_sublist _ | exact List.Sublist.refl _ | apply List.Sublist.cons_cons | apply List.Sublist.cons)) inferInstance (by kernel_rfl) (by kernel_rfl) (by kernel_rfl) (by kernel_rfl) rfl rfl (Wanted.plain rfl) (Val.of rfl) ?_
        refine DR.take 5 rfl (by repeat (first | exact List.nil_sublist _ | exact List.Sublist.refl _ | apply List.Sublist.cons_cons | apply List.Sublist.cons)) inferInstance (by kernel_rfl) (by kernel_rfl) (by kernel_rfl) (by kernel_rfl) rfl rfl (Wanted.plain rfl) (Val.of rfl) ?_
        refine DR.take 6 rfl (by repeat (first | exact List.nil_sublist _ | exact List.Sublist.refl _ | apply List.Sublist.cons_cons | apply List.Sublist.cons)) inferInstance (by kernel_rfl) (by kernel_rfl) (by kernel_rfl) (by kernel_rfl) rfl rfl (Wanted.plain rfl) (Val.sliceS' tabOk (cut l.length) l.length rfl rfl rfl rfl rfl (.inr ⟨_, rfl, rfl⟩) (.inl ⟨rfl, rfl⟩) (by omega) (by omega) (by omega) rfl) ?_
        refine DR.one (i := 3) (by kernel_rfl) ?_
        refine DOp.op rfl (Wanted.plain rfl) (OpTo.callV Tryd.func38 rfl rfl rfl rfl rfl rfl (fun w' hm => ih1 _ w' (ht.mem hm) (hK.fr hm.fr (by simp)))) (.inl fun _ => (by repeat (first | exact List.nil_sublist _ | exact List.Sublist.refl _ | apply List.Sublist.cons_cons | apply List.Sublist.cons))) (fun _ => ?_)
        refine DR.one (i := 7) (by kernel_rfl) ?_
        refine DOp.op rfl (Wanted.plain rfl) (OpTo.callV Tryd.func38 rfl rfl rfl rfl rfl rfl (fun w' hm => ih2 _ w' (hdp.mem hm) (hK.fr hm.fr (by simp)))) (.inl fun _ => (by repeat (first | exact List.nil_sublist _ | exact List.Sublist.refl _ | apply List.Sublist.cons_cons | apply List.Sublist.cons))) (fun _ => ?_)
        refine DR.one (i := 8) (by kernel_rfl) ?_
        refine DOp.op rfl (Wanted.plain rfl) (OpTo.callV Tryd.func60 rfl rfl rfl rfl rfl rfl (fun w' hm => join_calls _ _ r1 r2 s1 s2 w' (hK.fr hm.fr (by simp)))) (.inl fun _ => (by repeat (first | exact List.nil_sublist _ | exact List.Sublist.refl _ | apply List.Sublist.cons_cons | apply List.Sublist.cons))) (fun _ => ?_)
        rw [hrc]
        generalize rootOf l = dg at *
        refine DR.one (i := 9) (by kernel_rfl) ?_
        refine DOp.op rfl (Wanted.plain rfl) (OpTo.setAll tabOk rfl rfl rfl rfl rfl (List.Perm.refl _) hrl rfl) (.inr (by kernel_rfl)) (fun _ => ?_)
        refine DR.done (by kernel_rfl) (RQ.next ?_)
        refine RC.ret ?_; (repeat first | refine RQ.thenRet ?_ | refine RQ.blockRet ?_)
        exact RQ.ret1 rfl (Res.cellU tabOk rfl rfl rfl m0 hrl) fun w' hm => ⟨rfl, hm.fr⟩
end Go.Proofs.YtilfbomjaflbjaaDoor
