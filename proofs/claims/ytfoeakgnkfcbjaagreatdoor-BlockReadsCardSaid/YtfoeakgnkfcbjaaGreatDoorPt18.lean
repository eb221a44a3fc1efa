/- Lemmas. -/
import Derived.Test.YtfoeakgnkfcbjaaGreatDoorPt17
set_option linter.unusedSimpArgs false
set_option linter.unusedVariables false
section
/- floats: Of. -/
namespace Go.Proofs.YtfoeakgnkfcbjaaGreatDoor
attribute [local irreducible] Go.Vc.Run Go.Vc.RC Go.Vc.RQ Go.Vc.DR Go.Vc.DOp Go.Vc.Knows Go.Vc.At
set_option maxHeartbeats 400000
set_option maxRecDepth 10000
open Go Go.Vc Go.Sha
theorem num8_take {z : Nat} : ∀ (l : List Nat) (k : Nat), l[k]? = some z → num8 (l.take (k + 1)) = num8 (l.take k) + z * 2 ^ (8 * k)
  | [], k, h => by cases h
  | a :: l, 0, h => by
    obtain rfl : a = z := by injection h
    show a + 256 * num8 (l.take 0) = num8 [] + a * 1
    show a + 256 * 0 = 0 + a * 1
    omega
  | a :: l, k + 1, h => by
    have ih := num8_take l k (by simpa using h)
    show a + 256 * num8 (l.take (k + 1)) = a + 256 * num8 (l.take k) + z * 2 ^ (8 * (k + 1))
    rw [ih, show 8 * (k + 1) = 8 * k + 8 by omega, Nat.pow_add, Nat.mul_add, show 256 * (z * 2 ^ (8 * k)) = z * (2 ^ (8 * k) * 2 ^ 8) from by rw [Nat.mul_comm (2 ^ (8 * k)) (2 ^ 8), ← Nat.mul_assoc, ← Nat.mul_assoc, Nat.mul_comm z (2 ^ 8)], Nat.add_assoc]
theorem orV {a b k : Nat} (ha : a < 2 ^ (8 * k)) (hb : b < 256) (hk : k < 8) : IntKind.u64.wrap ((BitVec.ofInt IntKind.u64.bits (a : Int) ||| BitVec.ofInt IntKind.u64.bits (IntKind.u64.wrap ((b : Int) * 2 ^ min (8 * (k : Int)).toNat IntKind.u64.bits))).toNat : Nat) = ((a + b * 2 ^ (8 * k) : Nat) : Int) := by
  have hp : 2 ^ (8 * k) ≤ 2 ^ 56 := Nat.pow_le_pow_right (by decide) (by omega)
  have hp8 : b * 2 ^ (8 * k) ≤ 255 * 2 ^ 56 := Nat.mul_le_mul (by omega) hp
  have hlt : b * 2 ^ (8 * k) < 18446744073709551616 := by omega
  have hal : a < 18446744073709551616 := by omega
  have hs : (b + 1) * 2 ^ (8 * k) ≤ 256 * 2 ^ 56 := Nat.mul_le_mul (by omega) hp
  rw [Nat.add_mul, Nat.one_mul] at hs
  have e1 : IntKind.u64.wrap ((b : Int) * 2 ^ min (8 * (k : Int)).toNat IntKind.u64.bits) = ((b * 2 ^ (8 * k) : Nat) : Int) := by
    rw [show min (8 * (k : Int)).toNat IntKind.u64.bits = 8 * k from by show min (8 * (k : Int)).toNat 64 = 8 * k; omega]
    rw [show (b : Int) * 2 ^ (8 * k) = ((b * 2 ^ (8 * k) : Nat) : Int) from by rw [Int.natCast_mul, Int.natCast_pow]; rfl]
    exact wrap_in (by simp only [inK]; omega)
  have o64 : ∀ n : Nat, n < 18446744073709551616 → (BitVec.ofInt IntKind.u64.bits (n : Int)).toNat = n := fun n h => by
    rw [BitVec.toNat_ofInt]
    show ((n : Int) % 18446744073709551616).toNat = n
    omega
  have e2 : (BitVec.ofInt IntKind.u64.bits (a : Int) ||| BitVec.ofInt IntKind.u64.bits ((b * 2 ^ (8 * k) : Nat) : Int)).toNat = a + b * 2 ^ (8 * k) := by
    rw [BitVec.toNat_or, o64 a hal, o64 _ hlt, Nat.or_comm, Nat.mul_comm b, ← Nat.two_pow_add_eq_or_of_lt ha, Nat.add_comm]
  rw [e1, e2]
  exact wrap_in (by simp only [inK]; omega)
set_option maxRecDepth 10000 in set_option maxHeartbeats 4000000 in
theorem FOf_calls (b : List Nat) (hb8 : b.length = 8) (hb : ∀ z ∈ b, z < 256) (w : World) : Gives Tryz.prog 43 [.agg (u8s b).toArray] (.float .f64 (num8 b)) w := by
  refine enter Tryz.func43 rfl (Mem.nil w []) rfl ?_
  have hb1 : (u8s b).toArray.size = 8 := by rw [List.size_toArray, u8s_len, hb8]
  refine z_ ?_
  refine Run.nw nbx ?_
  intro b1
  refine x_ ?_
  refine RC.up 8 (D := Unit) (fun _ _ => True) (fun k _ => [(7, .int .i64 k), (6, .agg (u8s b).toArray), (3, .int .u64 (num8 (b.take k) : Nat)), (1, .pointer (some ⟨b1, 0, none⟩))]) (fun k _ => [(b1, Obj.cells (u8s b).toArray 22 (0, 0))]) 0 () (by decide) trivial ⟨rfl, rfl, rfl, rfl, trivial⟩ (List.Sublist.refl _) ?_
  intro k _ hk _
  by_cases hk' : k < 8
  · obtain ⟨z, hz⟩ : ∃ z, b[k]? = some z := ⟨_, List.getElem?_eq_getElem (by omega)⟩
    have hz2 := hb z (List.mem_of_getElem? hz)
    have hn := num8_take b k hz
    have hlt := num8_lt (b.take k) (fun y hy => hb y (List.mem_of_mem_take hy))
    rw [List.length_take, Nat.min_eq_left (by omega)] at hlt
    have hat : partOf ti5 (u8s b).toArray k = some (.int .u8 (z : Int)) := by
      have hc : (u8s b)[k]? = some (.int .u8 (z : Int)) := by unfold u8s; rw [List.getElem?_map, hz]; rfl
      show (u8s b).toArray[k]? = _
      rw [List.getElem?_toArray]
      exact hc
    refine x_ ?_
    refine Run.a (Val.indexN tabOk k (v := .int .u8 (z : Int)) rfl rfl rfl rfl rfl rfl rfl hk' (by simp only [ti5, Nat.mul_one]; exact hat)) ?_
    refine x_ ?_
    rw [orV hlt hz2 hk', ← hn]
    exact RQ.up (k + 1) () (Nat.lt_succ_self _) hk' trivial ⟨rfl, rfl, rfl, rfl, trivial⟩ (List.Sublist.refl _)
  · obtain rfl : k = 8 := by omega
    rw [List.take_of_length_le (Nat.le_of_eq hb8)]
    refine x_ ?_
    refine Run.a (Val.ext (v := .float .f64 (num8 b)) Tryz.func78 xFrom (fun w => rfl) nFrom) ?_
    refine x_ ?_
    exact RQ.ret1 rfl (Res.tmp rfl) fun w' hm => ⟨rfl, hm.fr⟩
set_option maxRecDepth 10000 in set_option maxHeartbeats 4000000 in
theorem RFOf_calls (b : List Nat) (hb8 : b.length = 8) (hb : ∀ z ∈ b, z < 256) (w : World) : Gives Tryz.prog 50 [.agg (u8s b).toArray] (.float .f64 (num8 b)) w := by
  refine enter Tryz.func50 rfl (Mem.nil w []) rfl ?_
  have hb1 : (u8s b).toArray.size = 8 := by rw [List.size_toArray, u8s_len, hb8]
  refine z_ ?_
  refine Run.nw nbx ?_
  intro b1
  refine x_ ?_
  refine RC.up 8 (D := Unit) (fun _ _ => True) (fun k _ => [(4, .int .i64 k), (3, .int .u64 (num8 (b.take k) : Nat)), (1, .pointer (some ⟨b1, 0, none⟩))]) (fun k _ => [(b1, Obj.cells (u8s b).toArray 22 (0, 0))]) 0 () (by decide) trivial ⟨rfl, rfl, rfl, trivial⟩ (List.Sublist.refl _) ?_
  intro k _ hk _
  by_cases hk' : k < 8
  · obtain ⟨z, hz⟩ : ∃ z, b[k]? = some z := ⟨_, List.getElem?_eq_getElem (by omega)⟩
    have hz2 := hb z (List.mem_of_getElem? hz)
    have hn := num8_take b k hz
    have hlt := num8_lt (b.take k) (fun y hy => hb y (List.mem_of_mem_take hy))
    rw [List.length_take, Nat.min_eq_left (by omega)] at hlt
    have hat : rdAt ti5 (u8s b).toArray k = some (.int .u8 (z : Int)) := rd_one rfl (by unfold u8s; rw [List.getElem?_map, hz]; rfl)
    refine x_ ?_
    refine Run.a (via (j := k) k (ha := by show 0 + k * 1 = k; omega)) ?_
    refine x_ ?_
    rw [orV hlt hz2 hk', ← hn]
    exact RQ.up (k + 1) () (Nat.lt_succ_self _) hk' trivial ⟨rfl, rfl, rfl, trivial⟩ (List.Sublist.refl _)
  · obtain rfl : k = 8 := by omega
    rw [List.take_of_length_le (Nat.le_of_eq hb8)]
    refine x_ ?_
    refine Run.a (Val.ext (v := .float .f64 (num8 b)) Tryz.func78 xFrom (fun w => rfl) nFrom) ?_
    refine x_ ?_
    exact RQ.ret1 rfl (Res.tmp rfl) fun w' hm => ⟨rfl, hm.fr⟩
end Go.Proofs.YtfoeakgnkfcbjaaGreatDoor
end
section
/- tx: the program's empty, May (gen_txp.py prints it). -/
namespace Go.Proofs.YtfoeakgnkfcbjaaGreatDoor
attribute [local irreducible] Go.Vc.Run Go.Vc.RC Go.Vc.RQ Go.Vc.DR Go.Vc.DOp Go.Vc.Knows Go.Vc.At
set_option maxHeartbeats 400000
open Go Go.Vc Go.Sha
/-- Nothing but its kind. -/
def TxE (t : TxD) : Prop := t.ht = 0 ∧ t.is.length + t.os.length + t.fs.length = 0 ∧ t.p.no ∧ t.c.no ∧ t.l = ClD.nul
noncomputable instance (t : TxD) : Decidable (TxE t) := Classical.propDecidable _
theorem prC_one (p : PrD) (a : Option Addr) (n c : Nat) : ∀ u ∈ prC p (.slice a n c), u.oneCell' = true := by
  intro u hu
  simp only [prC, prm, List.mem_cons, List.not_mem_nil, or_false] at hu
  rcases hu with rfl | rfl | rfl | rfl <;> rfl
theorem ceC_one (e : CeD) (a : Option Addr) (n c : Nat) (a' : Option Addr) (n' c' : Nat) : ∀ u ∈ ceC e (.slice a n c) (.slice a' n' c'), u.oneCell' = true := by
  intro u hu
  unfold ceC at hu
  simp only [List.mem_cons, List.mem_append, List.not_mem_nil, or_false] at hu
  rcases hu with rfl | rfl | rfl | hu | hu | rfl | rfl
  · rfl
  · rfl
  · rfl
  · exact u8s_one _ u hu
  · exact u8s_one _ u hu
  · rfl
  · rfl
set_option maxRecDepth 10000 in set_option maxHeartbeats 4000000 in
theorem Tempty_calls (t : TxD) (v : TxV) (hln : TxLn t) (w : World) : Gives Tryz.prog 131 [.agg (txC t v).toArray] (.bool (decide (TxE t))) w := by
  refine enter Tryz.func131 rfl (Mem.nil w []) rfl ?_
  obtain ⟨l1, l2, l3, l4, l5, l6⟩ := hln
  obtain ⟨_, rh, ri, ro, rf, rp, _, rc, _, _, _, _, rl⟩ := tx_rd t v
  obtain ⟨s0, s1, s2, s3, s11, s19, s20⟩ := ce_rd t.c (.slice v.aA t.c.os.length v.cA) (.slice v.aS t.c.sg.length v.cS)
  have n1 := prC_one t.p v.aK t.p.ks.length v.cK
  have n2 := ceC_one t.c v.aA t.c.os.length v.cA v.aS t.c.sg.length v.cS
  have h2 : (ceC t.c (.slice v.aA t.c.os.length v.cA) (.slice v.aS t.c.sg.length v.cS)).length = 21 := ceC_len _ _ _
  have c1 : Knows Tryz.prog w 155 [.agg (u8s t.c.en.1).toArray] (.bool (decide (t.c.en.1 = List.replicate 8 0))) := Knows.mk Tryz.func155 (fun w' _ => Zero_calls t.c.en.1 t.c.en.2.1 w')
  have c2 : Knows Tryz.prog w 155 [.agg (u8s t.c.ro.1).toArray] (.bool (decide (t.c.ro.1 = List.replicate 8 0))) := Knows.mk Tryz.func155 (fun w' _ => Zero_calls t.c.ro.1 t.c.ro.2.1 w')
  have hp : t.p.no ↔ t.p.ln = 0 ∧ t.p.wd = 0 ∧ t.p.nd = 0 ∧ t.p.ks.length = 0 := Iff.rfl
  have hc : t.c.no ↔ t.c.sd = 0 ∧ t.c.ep = 0 ∧ t.c.ql = 0 ∧ t.c.en.1 = List.replicate 8 0 ∧ t.c.ro.1 = List.replicate 8 0 ∧ t.c.os.length = 0 ∧ t.c.sg.length = 0 := Iff.rfl
  have he : TxE t ↔ t.ht = 0 ∧ t.is.length + t.os.length + t.fs.length = 0 ∧ t.p.no ∧ t.c.no ∧ t.l = ClD.nul := Iff.rfl
  generalize txC t v = F at rh ri ro rf rp rc rl ⊢
  generalize hC : ceC t.c (.slice v.aA t.c.os.length v.cA) (.slice v.aS t.c.sg.length v.cS) = C at s0 s1 s2 s3 s11 s19 s20 n2 h2 rc
  refine z_ ?_
  refine Run.nw nbx ?_
  intro b1
  refine z_ ?_
  refine RC.thenCut (Y := Nat × Nat) (fun b => [(4, .pointer (some ⟨b.2, 0, none⟩)), (3, .pointer (some ⟨b.1, 0, none⟩)), (1, .pointer (some ⟨b1, 0, none⟩))]) (fun b => [(b.2, Obj.cells C.toArray 57 (0, 0)), (b.1, Obj.cells (prC t.p (.slice v.aK t.p.ks.length v.cK)).toArray 54 (0, 0)), (b1, Obj.cells F.toArray 64 (0, 0))]) ?_ (fun b => ?_)
  · (repeat refine RC.seq ?_); refine RC.draw ([(b1, Obj.cells F.toArray 64 (0, 0))]) mixed (N := 8) rfl ?_
    refine dy 0 ?_
    refine dy 1 ?_
    refine dy 2 ?_
    refine dy 3 ?_
    refine DR.two (i := 4) (j := 5) (by kernel_rfl) ?_ ?_
    · refine DOp.op1 rfl (OpTo.new rfl rfl (nal)) ?_
      intro b3
      refine DR.c 5 ?_
      refine DOp.op1 rfl (OpTo.new rfl rfl (nal)) ?_
      intro b4
      refine DR.c 6 ?_
      refine DOp.op1 rfl (osa (L' := [(b4, Obj.cells ti57.zero.cells 57 (0, 0)), (b1, Obj.cells F.toArray 64 (0, 0))]) (arr := ti54.zero.cells) (prC t.p (.slice v.aK t.p.ks.length v.cK)).toArray n1) (fun _ => ?_)
      refine DR.c 7 ?_
      refine DOp.op1 rfl (osa (L' := [(b3, Obj.cells (prC t.p (.slice v.aK t.p.ks.length v.cK)).toArray 54 (0, 0)), (b1, Obj.cells F.toArray 64 (0, 0))]) (arr := ti57.zero.cells) C.toArray n2 (hs := by rw [List.size_toArray, h2]; rfl)) (fun _ => ?_)
      refine DR.done (by kernel_rfl) ?_
      exact RQ.toP (b3, b4) ⟨rfl, rfl, rfl, trivial⟩ (List.Perm.refl _) (List.Sublist.refl _)
    · refine DOp.op1 rfl (OpTo.new rfl rfl (nal)) ?_
      intro b4
      refine DR.c 4 ?_
      refine DOp.op1 rfl (OpTo.new rfl rfl (nal)) ?_
      intro b3
      refine DR.c 6 ?_
      refine DOp.op1 rfl (osa (L' := [(b4, Obj.cells ti57.zero.cells 57 (0, 0)), (b1, Obj.cells F.toArray 64 (0, 0))]) (arr := ti54.zero.cells) (prC t.p (.slice v.aK t.p.ks.length v.cK)).toArray n1) (fun _ => ?_)
      refine DR.c 7 ?_
      refine DOp.op1 rfl (osa (L' := [(b3, Obj.cells (prC t.p (.slice v.aK t.p.ks.length v.cK)).toArray 54 (0, 0)), (b1, Obj.cells F.toArray 64 (0, 0))]) (arr := ti57.zero.cells) C.toArray n2 (hs := by rw [List.size_toArray, h2]; rfl)) (fun _ => ?_)
      refine DR.done (by kernel_rfl) ?_
      exact RQ.toP (b3, b4) ⟨rfl, rfl, rfl, trivial⟩ (List.Perm.refl _) (List.Sublist.refl _)
  obtain ⟨b3, b4⟩ := b
  dsimp only
  refine RC.seq ?_
  refine RC.thenCut (Y := Unit) (fun _ => [(5, .bool (decide t.p.no)), (4, .pointer (some ⟨b4, 0, none⟩)), (3, .pointer (some ⟨b3, 0, none⟩)), (1, .pointer (some ⟨b1, 0, none⟩))]) (fun _ => [(b4, Obj.cells C.toArray 57 (0, 0)), (b3, Obj.cells (prC t.p (.slice v.aK t.p.ks.length v.cK)).toArray 54 (0, 0)), (b1, Obj.cells F.toArray 64 (0, 0))]) ?_ (fun _ => ?_)
  · unfold prC
    by_cases h0 : ¬ t.p.ln = 0
    · refine x_ ?_
      exact RQ.toP () ⟨congrArg (fun b => some (Value.bool b)) (show false = decide t.p.no from (decide_eq_false (fun h => by have := hp.1 h; omega)).symm), rfl, rfl, rfl, trivial⟩ (List.Perm.refl _) (List.Sublist.refl _)
    refine x_ ?_
    by_cases h1 : ¬ t.p.wd = 0
    · refine x_ ?_
      exact RQ.toP () ⟨congrArg (fun b => some (Value.bool b)) (show false = decide t.p.no from (decide_eq_false (fun h => by have := hp.1 h; omega)).symm), rfl, rfl, rfl, trivial⟩ (List.Perm.refl _) (List.Sublist.refl _)
    refine x_ ?_
    by_cases h2p : ¬ t.p.nd = 0
    · refine x_ ?_
      exact RQ.toP () ⟨congrArg (fun b => some (Value.bool b)) (show false = decide t.p.no from (decide_eq_false (fun h => by have := hp.1 h; omega)).symm), rfl, rfl, rfl, trivial⟩ (List.Perm.refl _) (List.Sublist.refl _)
    refine x_ ?_
    exact RQ.toP () ⟨congrArg (fun b => some (Value.bool b)) (show ((t.p.ks.length : Int) == 0) = decide t.p.no from by rw [Bool.eq_iff_iff, beq_iff_eq, decide_eq_true_iff, hp]; omega), rfl, rfl, rfl, trivial⟩ (List.Perm.refl _) (List.Sublist.refl _)
  refine RC.seq ?_
  refine RC.thenCut (Y := Unit) (fun _ => [(6, .bool (decide t.c.no)), (5, .bool (decide t.p.no)), (1, .pointer (some ⟨b1, 0, none⟩))]) (fun _ => [(b1, Obj.cells F.toArray 64 (0, 0))]) ?_ (fun _ => ?_)
  · by_cases g0 : ¬ t.c.sd = 0
    · refine x_ ?_
      exact RQ.toP () ⟨congrArg (fun b => some (Value.bool b)) (show false = decide t.c.no from (decide_eq_false (fun h => by have := hc.1 h; omega)).symm), rfl, rfl, trivial⟩ (List.Perm.refl _) (by repeat (first | exact List.nil_sublist _ | exact List.Sublist.refl _ | apply List.Sublist.cons_cons | apply List.Sublist.cons | apply Go.Vc.subApp))
    refine x_ ?_
    by_cases g1 : ¬ t.c.ep = 0
    · refine x_ ?_
      exact RQ.toP () ⟨congrArg (fun b => some (Value.bool b)) (show false = decide t.c.no from (decide_eq_false (fun h => by have := hc.1 h; omega)).symm), rfl, rfl, trivial⟩ (List.Perm.refl _) (by repeat (first | exact List.nil_sublist _ | exact List.Sublist.refl _ | apply List.Sublist.cons_cons | apply List.Sublist.cons | apply Go.Vc.subApp))
    refine x_ ?_
    by_cases g2 : ¬ t.c.ql = 0
    · refine x_ ?_
      exact RQ.toP () ⟨congrArg (fun b => some (Value.bool b)) (show false = decide t.c.no from (decide_eq_false (fun h => by have := hc.1 h; omega)).symm), rfl, rfl, trivial⟩ (List.Perm.refl _) (by repeat (first | exact List.nil_sublist _ | exact List.Sublist.refl _ | apply List.Sublist.cons_cons | apply List.Sublist.cons | apply Go.Vc.subApp))
    refine x_ ?_
    by_cases g3 : ¬ t.c.en.1 = List.replicate 8 0
    · rw [decide_eq_false g3] at c1
      refine x_ ?_
      exact RQ.toP () ⟨congrArg (fun b => some (Value.bool b)) (show false = decide t.c.no from (decide_eq_false (fun h => g3 (hc.1 h).2.2.2.1)).symm), rfl, rfl, trivial⟩ (List.Perm.refl _) (by repeat (first | exact List.nil_sublist _ | exact List.Sublist.refl _ | apply List.Sublist.cons_cons | apply List.Sublist.cons | apply Go.Vc.subApp))
    have g3 := Decidable.not_not.1 g3
    rw [decide_eq_true g3] at c1
    refine x_ ?_
    by_cases g4 : ¬ t.c.ro.1 = List.replicate 8 0
    · rw [decide_eq_false g4] at c2
      refine x_ ?_
      exact RQ.toP () ⟨congrArg (fun b => some (Value.bool b)) (show false = decide t.c.no from (decide_eq_false (fun h => g4 (hc.1 h).2.2.2.2.1)).symm), rfl, rfl, trivial⟩ (List.Perm.refl _) (by repeat (first | exact List.nil_sublist _ | exact List.Sublist.refl _ | apply List.Sublist.cons_cons | apply List.Sublist.cons | apply Go.Vc.subApp))
    have g4 := Decidable.not_not.1 g4
    rw [decide_eq_true g4] at c2
    refine x_ ?_
    exact RQ.toP () ⟨congrArg (fun b => some (Value.bool b)) (show ((t.c.os.length : Int) + (t.c.sg.length : Int) == 0) = decide t.c.no from by rw [Bool.eq_iff_iff, beq_iff_eq, decide_eq_true_iff, hc]; exact ⟨fun h => ⟨by omega, by omega, by omega, g3, g4, by omega, by omega⟩, fun h => by omega⟩), rfl, rfl, trivial⟩ (List.Perm.refl _) (by repeat (first | exact List.nil_sublist _ | exact List.Sublist.refl _ | apply List.Sublist.cons_cons | apply List.Sublist.cons | apply Go.Vc.subApp))
  have hno : ∀ (w' : World), Fr [] w w' → ¬ TxE t → Ending.returned (.bool false) = Ending.returned (.bool (decide (TxE t))) ∧ Fr [] w w' := fun w' hf h => ⟨by rw [decide_eq_false h], hf⟩
  by_cases k0 : ¬ t.ht = 0
  · refine x_ ?_
    exact RQ.ret1 rfl (Res.tmp rfl) fun w' hm => hno w' hm.fr (fun h => by have := he.1 h; omega)
  refine x_ ?_
  by_cases k1 : ¬ t.is.length + t.os.length + t.fs.length = 0
  · refine x_ ?_
    exact RQ.ret1 rfl (Res.tmp rfl) fun w' hm => hno w' hm.fr (fun h => by have := he.1 h; omega)
  refine x_ ?_
  by_cases k2 : ¬ t.p.no
  · rw [decide_eq_false k2]
    refine x_ ?_
    exact RQ.ret1 rfl (Res.tmp rfl) fun w' hm => hno w' hm.fr (fun h => k2 (he.1 h).2.2.1)
  have k2 := Decidable.not_not.1 k2
  rw [decide_eq_true k2]
  refine x_ ?_
  by_cases k3 : ¬ t.c.no
  · rw [decide_eq_false k3]
    refine x_ ?_
    exact RQ.ret1 rfl (Res.tmp rfl) fun w' hm => hno w' hm.fr (fun h => k3 (he.1 h).2.2.2.1)
  have k3 := Decidable.not_not.1 k3
  rw [decide_eq_true k3]
  refine x_ ?_
  by_cases k6 : t.l = ClD.nul
  rotate_left
  · refine Run.a (Val.eqC (p := false) (ks := clK) (a := t.l.c.toArray) tabOk rfl rfl rfl (by kernel_rfl) (by kernel_rfl) rfl rfl t.l.c_k cl_zk (by rw [← cl_cmp]; simp [k6])) ?_
    refine x_ ?_
    exact RQ.ret1 rfl (Res.tmp rfl) fun w' hm => hno w' hm.fr (fun h => k6 (he.1 h).2.2.2.2)
  refine Run.a (Val.eqC (p := true) (ks := clK) (a := t.l.c.toArray) tabOk rfl rfl rfl (by kernel_rfl) (by kernel_rfl) rfl rfl t.l.c_k cl_zk (by rw [← cl_cmp]; simp [k6])) ?_
  refine x_ ?_
  exact RQ.ret1 rfl (Res.tmp rfl) fun w' hm => ⟨by rw [decide_eq_true (he.2 ⟨by omega, by omega, k2, k3, k6⟩)]; rfl, hm.fr⟩
end Go.Proofs.YtfoeakgnkfcbjaaGreatDoor

/- tx: the program's May (gen_txq.py prints it). -/
namespace Go.Proofs.YtfoeakgnkfcbjaaGreatDoor
attribute [local irreducible] Go.Vc.Run Go.Vc.RC Go.Vc.RQ Go.Vc.DR Go.Vc.DOp Go.Vc.Knows Go.Vc.At
set_option maxHeartbeats 400000
open Go Go.Vc Go.Sha
def TxD.u1 (t : TxD) : TxD := { t with ht := 0, os := [] }
def TxD.u2 (t : TxD) : TxD := { t with is := [], os := [], fs := [] }
def TxD.u3 (t : TxD) : TxD := { t with p := PrD.nul }
def TxD.u4 (t : TxD) : TxD := { t with c := CeD.nul }
def TxD.u5 (t : TxD) : TxD := { t with l := ClD.nul }
def TxV.nO (v : TxV) : TxV := { v with aO := none, cO := 0 }
def TxV.nI (v : TxV) : TxV := { v with aI := none, cI := 0 }
def TxV.nF (v : TxV) : TxV := { v with aF := none, cF := 0 }
def TxV.nK (v : TxV) : TxV := { v with aK := none, cK := 0 }
def TxV.nC (v : TxV) : TxV := { v with aA := none, cA := 0, aS := none, cS := 0 }
theorem may1 {t : TxD} (hk : t.kd = 1) : TxMay t ↔ ((1 ≤ t.ht ∧ t.ht ≤ 400) ∧ mayO t.os) ∧ TxE t.u1 := by
  rw [TxMay.iff]
  constructor
  · intro h
    exact ⟨h.m1 hk, rfl, by have := h.e2 (by omega); show t.is.length + 0 + t.fs.length = 0; omega, h.e4 (by omega), h.e5 (by omega), h.e6 (by omega)⟩
  · rintro ⟨m, _, e2, e3, e4, e5⟩
    exact ⟨fun h => absurd hk h, fun _ => by change t.is.length + 0 + t.fs.length = 0 at e2; omega, fun _ h => absurd hk h, fun _ => e3, fun _ => e4, fun _ => e5, by omega, fun _ => m, fun h => by omega, fun h => by omega, fun h => by omega, fun h => by omega⟩
theorem may2 {t : TxD} (hk : t.kd = 2) : TxMay t ↔ PayM t ∧ TxE t.u2 := by
  rw [TxMay.iff]
  constructor
  · intro h
    exact ⟨h.m2 hk, h.e1 (by omega), rfl, h.e4 (by omega), h.e5 (by omega), h.e6 (by omega)⟩
  · rintro ⟨m, e1, _, e3, e4, e5⟩
    exact ⟨fun _ => e1, fun h => absurd hk h, fun h => absurd hk h, fun _ => e3, fun _ => e4, fun _ => e5, by omega, fun h => by omega, fun _ => m, fun h => by omega, fun h => by omega, fun h => by omega⟩
theorem may3 {t : TxD} (hk : t.kd = 3) : TxMay t ↔ t.p.may ∧ TxE t.u3 := by
  rw [TxMay.iff]
  constructor
  · intro h
    exact ⟨h.m3 hk, h.e1 (by omega), by have := h.e2 (by omega); have := h.e3 (by omega) (by omega); show t.is.length + t.os.length + t.fs.length = 0; omega, PrD.nul_no, h.e5 (by omega), h.e6 (by omega)⟩
  · rintro ⟨m, e1, e2, _, e4, e5⟩
    change t.is.length + t.os.length + t.fs.length = 0 at e2
    exact ⟨fun _ => e1, fun h => by omega, fun h => by omega, fun h => absurd hk h, fun _ => e4, fun _ => e5, by omega, fun h => by omega, fun h => by omega, fun _ => m, fun h => by omega, fun h => by omega⟩
theorem may4 {t : TxD} (hk : t.kd = 4) : TxMay t ↔ t.c.may ∧ TxE t.u4 := by
  rw [TxMay.iff]
  constructor
  · intro h
    exact ⟨h.m4 hk, h.e1 (by omega), by have := h.e2 (by omega); have := h.e3 (by omega) (by omega); show t.is.length + t.os.length + t.fs.length = 0; omega, h.e4 (by omega), CeD.nul_no, h.e6 (by omega)⟩
  · rintro ⟨m, e1, e2, e4, _, e5⟩
    change t.is.length + t.os.length + t.fs.length = 0 at e2
    exact ⟨fun _ => e1, fun h => by omega, fun h => by omega, fun _ => e4, fun h => absurd hk h, fun _ => e5, by omega, fun h => by omega, fun h => by omega, fun h => by omega, fun _ => m, fun h => by omega⟩
theorem may5 {t : TxD} (hk : t.kd = 5) : TxMay t ↔ t.l.may ∧ TxE t.u5 := by
  rw [TxMay.iff]
  constructor
  · intro h
    exact ⟨h.m5 hk, h.e1 (by omega), by have := h.e2 (by omega); have := h.e3 (by omega) (by omega); show t.is.length + t.os.length + t.fs.length = 0; omega, h.e4 (by omega), h.e5 (by omega), rfl⟩
  · rintro ⟨m, e1, e2, e4, e5, _⟩
    change t.is.length + t.os.length + t.fs.length = 0 at e2
    exact ⟨fun _ => e1, fun h => by omega, fun h => by omega, fun _ => e4, fun _ => e5, fun h => absurd hk h, by omega, fun h => by omega, fun h => by omega, fun h => by omega, fun h => by omega, fun _ => m⟩
instance (p : PrD) : Decidable p.may := by unfold PrD.may; infer_instance
theorem decide_eq_may (p : PrD) : decide p.may = mayP p.ln p.wd p.nd (p.ks.map (·.1)) := by
  cases h : mayP p.ln p.wd p.nd (p.ks.map (·.1)) with
  | true => exact decide_eq_true h
  | false => exact decide_eq_false (fun k => by unfold PrD.may at k; rw [h] at k; cases k)
theorem ClD.one (l : ClD) : ∀ u ∈ l.c, u.oneCell' = true := by
  intro u hu
  unfold ClD.c at hu
  simp only [List.mem_cons, List.mem_append] at hu
  rcases hu with rfl | rfl | hu | rfl | rfl | hu
  · rfl
  · rfl
  · exact u8s_one _ u hu
  · rfl
  · rfl
  · exact u8s_one _ u hu
theorem ce_zero : ti57.zero.cells = (ceC CeD.nul (.slice none 0 0) (.slice none 0 0)).toArray := by kernel_rfl
theorem wr_u4 (t : TxD) (v : TxV) : wrAt (txC t v).toArray 9 (ceC CeD.nul (.slice none 0 0) (.slice none 0 0)) = (txC t.u4 v.nC).toArray := by
  have e : ∀ t v, txC t v = (tx5 t v ++ prC t.p (.slice v.aK t.p.ks.length v.cK)) ++ ceC t.c (.slice v.aA t.c.os.length v.cA) (.slice v.aS t.c.sg.length v.cS) ++ t.l.c := fun t v => by rw [txC_eq, List.append_assoc, List.append_assoc]
  rw [e, e]
  exact wr_mid' _ _ _ _ (by rw [ceC_len, ceC_len]) 9 rfl
theorem wr_u5 (t : TxD) (v : TxV) : wrAt (txC t v).toArray 30 ClD.nul.c = (txC t.u5 v).toArray := by
  have e : ∀ t v, txC t v = (tx5 t v ++ (prC t.p (.slice v.aK t.p.ks.length v.cK) ++ ceC t.c (.slice v.aA t.c.os.length v.cA) (.slice v.aS t.c.sg.length v.cS))) ++ t.l.c ++ [] := fun t v => by rw [txC_eq, List.append_nil, List.append_assoc, List.append_assoc]
  rw [e, e]
  refine wr_mid' _ _ _ _ (by rw [ClD.len, ClD.len]) 30 ?_
  simp only [List.length_append, prC_len, ceC_len]
  rfl
/-- A place is written; the rest is asked last. -/
theorem ostE {n : Nat} {w0 : World} {S0 : List Nat} {Q : Exit → Act → World → Prop} {E : Env} {L L' : Hp} {o : Oper} {t : Nat} {ti : TI} {x y : Operand} {b off : Nat} {arr : Array Value} {e : TypeId} {v : Value} (arr' : Array Value) (hd : o.dst = none := by exact rfl) (ho : o.op = .store t x y := by exact rfl)
    (ht : tiGet tab t = some ti := by exact rfl) (hx : lk E x = some (.pointer (some ⟨b, off, none⟩)) := by exact rfl) (hy : lk E y = some v := by exact rfl) (hL : L.Perm ((b, .cells arr e (0, 0)) :: L') := by first | exact List.Perm.refl _ | exact p1 | exact p2 | exact p3 | exact p4 | exact p5 | exact pin0 | exact pin1 | exact pin2)
    (hs : v.cells.size = ti.size := by first | exact rfl | simp only [Value.cells, List.size_toArray, u8s_len]; omega) (he : wrAt arr off v.cells.toList = arr') (hf : off + ti.size ≤ arr.size) (h1 : ∀ u ∈ v.cells.toList, u.oneCell' = true) : OpTo Tryz.prog n w0 S0 Q E L o (Y := Unit) (fun _ => E) (fun _ => (b, .cells arr' e (0, 0)) :: L') := OpTo.storeTo tabOk he hd ho ht hx hy hL hs hf h1
set_option maxRecDepth 10000 in set_option maxHeartbeats 4000000 in
theorem TMay_calls (t : TxD) (v : TxV) (hln : TxLn t) (w : World) (ht : TxAt w t v) : Gives Tryz.prog 81 [.agg (txC t v).toArray] (.bool (decide (TxMay t))) w := by
  refine enter Tryz.func81 rfl (Mem.nil w []) rfl ?_
  have hln' := hln
  obtain ⟨l1, l2, l3, l4, l5, l6⟩ := hln
  have c1 : Knows Tryz.prog w 124 [.int .i64 t.ht, .int .i64 1, .int .i64 400] (.bool (decide (1 ≤ t.ht ∧ t.ht ≤ 400))) := Knows.mk Tryz.func124 (fun w' _ => Twithin_calls _ 1 400 w')
  have c2 : Knows Tryz.prog w 125 [.slice v.aO t.os.length v.cO] (.bool (decide (mayO t.os))) := Knows.mk Tryz.func125 (fun w' hf => Touts_calls t.os (by omega) _ w' (ht.o.fr hf))
  have c3 : Knows Tryz.prog w 126 [.slice v.aI t.is.length v.cI] (.bool (decide (mayI t.is))) := Knows.mk Tryz.func126 (fun w' hf => Tins_calls t.is (by omega) _ _ w' (ht.i.fr hf))
  have c4 : Knows Tryz.prog w 127 [.slice v.aF t.fs.length v.cF] (.bool (decide (mayF t.fs))) := Knows.mk Tryz.func127 (fun w' hf => Tforwards_calls t.fs (by omega) _ w' (ht.f.fr hf))
  have c5 : Knows Tryz.prog w 128 [.agg (prC t.p (.slice v.aK t.p.ks.length v.cK)).toArray] (.bool (mayP t.p.ln t.p.wd t.p.nd (t.p.ks.map (·.1)))) := Knows.mk Tryz.func128 (fun w' hf => May_calls t.p.ln t.p.wd t.p.nd (t.p.ks.map (fun k : By 8 => k.1)) (ks_HL t.p.ks) (by rw [List.length_map]; omega) _ w' (by rw [List.length_map]; exact ht.k.fr hf))
  have c6 : Knows Tryz.prog w 129 [.agg (ceC t.c (.slice v.aA t.c.os.length v.cA) (.slice v.aS t.c.sg.length v.cS)).toArray] (.bool (decide t.c.may)) := Knows.mk Tryz.func129 (fun w' hf => Tcert_calls t.c (by omega) (by omega) _ _ w' (ht.a.fr hf) (ht.s.fr hf))
  have c7 : Knows Tryz.prog w 130 [.agg t.l.c.toArray] (.bool (decide t.l.may)) := Knows.mk Tryz.func130 (fun w' hf => Tclaim_calls t.l w')
  obtain ⟨rk, rh, ri, ro, rf, rp, _, rc, _, _, _, _, rl⟩ := tx_rd t v
  have hno : ∀ (w' : World), Fr [] w w' → ¬ TxMay t → Ending.returned (.bool false) = Ending.returned (.bool (decide (TxMay t))) ∧ Fr [] w w' := fun w' hf h => ⟨by rw [decide_eq_false h], hf⟩
  generalize hF : txC t v = F at rk rh ri ro rf rp rc rl ⊢
  have hFs : F.toArray.size = 170 := by rw [← hF, List.size_toArray, txC_len]
  refine x_ ?_
  refine Run.nw nbx ?_
  intro b1
  refine x_ ?_
  by_cases hk : t.kd = 1
  · obtain ⟨G, hG⟩ : ∃ G, G = txC t.u1 v.nO := ⟨_, rfl⟩
    have dE : Knows Tryz.prog w 131 [.agg G.toArray] (.bool (decide (TxE t.u1))) := by
      rw [hG]
      exact Knows.mk Tryz.func131 (fun w' _ => Tempty_calls t.u1 v.nO ⟨l1, by show 0 ≤ 4096; decide, l3, l4, l5, l6⟩ w')
    have hGs : G.toArray.size = 170 := by rw [hG, List.size_toArray, txC_len]
    by_cases a1 : 1 ≤ t.ht ∧ t.ht ≤ 400
    rotate_left
    · rw [decide_eq_false a1] at c1
      refine x_ ?_
      refine Run.op1 (os1 (txC { t with ht := 0 } v).toArray (he := by rw [← hF]; rfl) (hf := by rw [hFs]; decide)) (fun _ => ?_)
      refine x_ ?_
      refine Run.op1 (os1 G.toArray (he := by rw [hG]; rfl) (hf := by rw [List.size_toArray, txC_len]; decide)) (fun _ => ?_)
      refine x_ ?_
      exact RQ.ret1 rfl (Res.tmp rfl) fun w' hm => hno w' hm.fr (fun h => a1 ((may1 hk).1 h).1.1)
    rw [decide_eq_true a1] at c1
    by_cases a2 : mayO t.os
    rotate_left
    · rw [decide_eq_false a2] at c2
      refine x_ ?_
      refine Run.op1 (os1 (txC { t with ht := 0 } v).toArray (he := by rw [← hF]; rfl) (hf := by rw [hFs]; decide)) (fun _ => ?_)
      refine x_ ?_
      refine Run.op1 (os1 G.toArray (he := by rw [hG]; rfl) (hf := by rw [List.size_toArray, txC_len]; decide)) (fun _ => ?_)
      refine x_ ?_
      exact RQ.ret1 rfl (Res.tmp rfl) fun w' hm => hno w' hm.fr (fun h => a2 ((may1 hk).1 h).1.2)
    rw [decide_eq_true a2] at c2
    refine x_ ?_
    refine Run.op1 (os1 (txC { t with ht := 0 } v).toArray (he := by rw [← hF]; rfl) (hf := by rw [hFs]; decide)) (fun _ => ?_)
    refine x_ ?_
    refine Run.op1 (os1 G.toArray (he := by rw [hG]; rfl) (hf := by rw [List.size_toArray, txC_len]; decide)) (fun _ => ?_)
    refine x_ ?_
    exact RQ.ret1 rfl (Res.tmp rfl) fun w' hm => ⟨congrArg (fun b => Ending.returned (.bool b)) (decide_eq_decide.2 ⟨fun h => (may1 hk).2 ⟨⟨a1, a2⟩, h⟩, fun h => ((may1 hk).1 h).2⟩), hm.fr⟩
  have hk1 := hk; clear hk
  by_cases hk : t.kd = 2
  · obtain ⟨G, hG⟩ : ∃ G, G = txC t.u2 ((v.nI).nO).nF := ⟨_, rfl⟩
    have dE : Knows Tryz.prog w 131 [.agg G.toArray] (.bool (decide (TxE t.u2))) := by
      rw [hG]
      exact Knows.mk Tryz.func131 (fun w' _ => Tempty_calls t.u2 ((v.nI).nO).nF ⟨by show 0 ≤ 4096; decide, by show 0 ≤ 4096; decide, by show 0 ≤ 4096; decide, l4, l5, l6⟩ w')
    have hGs : G.toArray.size = 170 := by rw [hG, List.size_toArray, txC_len]
    by_cases a1 : mayI t.is
    rotate_left
    · rw [decide_eq_false a1] at c3
      refine x_ ?_
      refine Run.op1 (os1 (txC { t with is := [] } v.nI).toArray (he := by rw [← hF]; rfl) (hf := by rw [hFs]; decide)) (fun _ => ?_)
      refine x_ ?_
      refine Run.op1 (os1 (txC { t with is := [], os := [] } (v.nI).nO).toArray (he := rfl) (hf := by rw [List.size_toArray, txC_len]; decide)) (fun _ => ?_)
      refine x_ ?_
      refine Run.op1 (os1 G.toArray (he := by rw [hG]; rfl) (hf := by rw [List.size_toArray, txC_len]; decide)) (fun _ => ?_)
      refine x_ ?_
      exact RQ.ret1 rfl (Res.tmp rfl) fun w' hm => hno w' hm.fr (fun h => a1 ((may2 hk).1 h).1.1)
    rw [decide_eq_true a1] at c3
    by_cases a2 : mayO t.os
    rotate_left
    · rw [decide_eq_false a2] at c2
      refine x_ ?_
      refine Run.op1 (os1 (txC { t with is := [] } v.nI).toArray (he := by rw [← hF]; rfl) (hf := by rw [hFs]; decide)) (fun _ => ?_)
      refine x_ ?_
      refine Run.op1 (os1 (txC { t with is := [], os := [] } (v.nI).nO).toArray (he := rfl) (hf := by rw [List.size_toArray, txC_len]; decide)) (fun _ => ?_)
      refine x_ ?_
      refine Run.op1 (os1 G.toArray (he := by rw [hG]; rfl) (hf := by rw [List.size_toArray, txC_len]; decide)) (fun _ => ?_)
      refine x_ ?_
      exact RQ.ret1 rfl (Res.tmp rfl) fun w' hm => hno w' hm.fr (fun h => a2 ((may2 hk).1 h).1.2.1)
    rw [decide_eq_true a2] at c2
    by_cases a3 : mayF t.fs
    rotate_left
    · rw [decide_eq_false a3] at c4
      refine x_ ?_
      refine Run.op1 (os1 (txC { t with is := [] } v.nI).toArray (he := by rw [← hF]; rfl) (hf := by rw [hFs]; decide)) (fun _ => ?_)
      refine x_ ?_
      refine Run.op1 (os1 (txC { t with is := [], os := [] } (v.nI).nO).toArray (he := rfl) (hf := by rw [List.size_toArray, txC_len]; decide)) (fun _ => ?_)
      refine x_ ?_
      refine Run.op1 (os1 G.toArray (he := by rw [hG]; rfl) (hf := by rw [List.size_toArray, txC_len]; decide)) (fun _ => ?_)
      refine x_ ?_
      exact RQ.ret1 rfl (Res.tmp rfl) fun w' hm => hno w' hm.fr (fun h => a3 ((may2 hk).1 h).1.2.2.1)
    rw [decide_eq_true a3] at c4
    by_cases a4 : 0 < t.os.length + t.fs.length
    rotate_left
    · skip
      refine x_ ?_
      refine Run.op1 (os1 (txC { t with is := [] } v.nI).toArray (he := by rw [← hF]; rfl) (hf := by rw [hFs]; decide)) (fun _ => ?_)
      refine x_ ?_
      refine Run.op1 (os1 (txC { t with is := [], os := [] } (v.nI).nO).toArray (he := rfl) (hf := by rw [List.size_toArray, txC_len]; decide)) (fun _ => ?_)
      refine x_ ?_
      refine Run.op1 (os1 G.toArray (he := by rw [hG]; rfl) (hf := by rw [List.size_toArray, txC_len]; decide)) (fun _ => ?_)
      refine x_ ?_
      exact RQ.ret1 rfl (Res.tmp rfl) fun w' hm => hno w' hm.fr (fun h => a4 ((may2 hk).1 h).1.2.2.2)
    refine x_ ?_
    refine Run.op1 (os1 (txC { t with is := [] } v.nI).toArray (he := by rw [← hF]; rfl) (hf := by rw [hFs]; decide)) (fun _ => ?_)
    refine x_ ?_
    refine Run.op1 (os1 (txC { t with is := [], os := [] } (v.nI).nO).toArray (he := rfl) (hf := by rw [List.size_toArray, txC_len]; decide)) (fun _ => ?_)
    refine x_ ?_
    refine Run.op1 (os1 G.toArray (he := by rw [hG]; rfl) (hf := by rw [List.size_toArray, txC_len]; decide)) (fun _ => ?_)
    refine x_ ?_
    exact RQ.ret1 rfl (Res.tmp rfl) fun w' hm => ⟨congrArg (fun b => Ending.returned (.bool b)) (decide_eq_decide.2 ⟨fun h => (may2 hk).2 ⟨⟨a1, a2, a3, a4⟩, h⟩, fun h => ((may2 hk).1 h).2⟩), hm.fr⟩
  have hk2 := hk; clear hk
  by_cases hk : t.kd = 3
  · obtain ⟨G, hG⟩ : ∃ G, G = txC t.u3 v.nK := ⟨_, rfl⟩
    have dE : Knows Tryz.prog w 131 [.agg G.toArray] (.bool (decide (TxE t.u3))) := by
      rw [hG]
      exact Knows.mk Tryz.func131 (fun w' _ => Tempty_calls t.u3 v.nK ⟨l1, l2, l3, by show 0 ≤ 4096; decide, l5, l6⟩ w')
    have hGs : G.toArray.size = 170 := by rw [hG, List.size_toArray, txC_len]
    rw [show mayP t.p.ln t.p.wd t.p.nd (t.p.ks.map (·.1)) = decide t.p.may from (decide_eq_may t.p).symm] at c5
    by_cases a1 : t.p.may
    rotate_left
    · rw [decide_eq_false a1] at c5
      refine x_ ?_
      refine Run.op1 (ostE G.toArray (he := by rw [hG, ← hF]; rfl) (hf := by rw [hFs]; decide) (h1 := by intro u hu; exact prC_one PrD.nul none 0 0 u hu)) (fun _ => ?_)
      refine x_ ?_
      exact RQ.ret1 rfl (Res.tmp rfl) fun w' hm => hno w' hm.fr (fun h => a1 ((may3 hk).1 h).1)
    rw [decide_eq_true a1] at c5
    refine x_ ?_
    refine Run.op1 (ostE G.toArray (he := by rw [hG, ← hF]; rfl) (hf := by rw [hFs]; decide) (h1 := by intro u hu; exact prC_one PrD.nul none 0 0 u hu)) (fun _ => ?_)
    refine x_ ?_
    exact RQ.ret1 rfl (Res.tmp rfl) fun w' hm => ⟨congrArg (fun b => Ending.returned (.bool b)) (decide_eq_decide.2 ⟨fun h => (may3 hk).2 ⟨a1, h⟩, fun h => ((may3 hk).1 h).2⟩), hm.fr⟩
  have hk3 := hk; clear hk
  by_cases hk : t.kd = 4
  · obtain ⟨G, hG⟩ : ∃ G, G = txC t.u4 v.nC := ⟨_, rfl⟩
    have dE : Knows Tryz.prog w 131 [.agg G.toArray] (.bool (decide (TxE t.u4))) := by
      rw [hG]
      exact Knows.mk Tryz.func131 (fun w' _ => Tempty_calls t.u4 v.nC ⟨l1, l2, l3, l4, by show 0 ≤ 4096; decide, by show 0 ≤ 4096; decide⟩ w')
    have hGs : G.toArray.size = 170 := by rw [hG, List.size_toArray, txC_len]
    by_cases a1 : t.c.may
    rotate_left
    · rw [decide_eq_false a1] at c6
      refine x_ ?_
      refine Run.op1 (ostE G.toArray (he := by rw [hG, ← hF, ← wr_u4]; exact congrArg (fun a => wrAt _ 9 (Array.toList a)) ce_zero) (hf := by rw [hFs]; decide) (h1 := by intro u hu; change u ∈ ti57.zero.cells.toList at hu; rw [ce_zero] at hu; exact ceC_one CeD.nul none 0 0 none 0 0 u hu)) (fun _ => ?_)
      refine x_ ?_
      exact RQ.ret1 rfl (Res.tmp rfl) fun w' hm => hno w' hm.fr (fun h => a1 ((may4 hk).1 h).1)
    rw [decide_eq_true a1] at c6
    refine x_ ?_
    refine Run.op1 (ostE G.toArray (he := by rw [hG, ← hF, ← wr_u4]; exact congrArg (fun a => wrAt _ 9 (Array.toList a)) ce_zero) (hf := by rw [hFs]; decide) (h1 := by intro u hu; change u ∈ ti57.zero.cells.toList at hu; rw [ce_zero] at hu; exact ceC_one CeD.nul none 0 0 none 0 0 u hu)) (fun _ => ?_)
    refine x_ ?_
    exact RQ.ret1 rfl (Res.tmp rfl) fun w' hm => ⟨congrArg (fun b => Ending.returned (.bool b)) (decide_eq_decide.2 ⟨fun h => (may4 hk).2 ⟨a1, h⟩, fun h => ((may4 hk).1 h).2⟩), hm.fr⟩
  have hk4 := hk; clear hk
  by_cases hk : t.kd = 5
  · obtain ⟨G, hG⟩ : ∃ G, G = txC t.u5 v := ⟨_, rfl⟩
    have dE : Knows Tryz.prog w 131 [.agg G.toArray] (.bool (decide (TxE t.u5))) := by
      rw [hG]
      exact Knows.mk Tryz.func131 (fun w' _ => Tempty_calls t.u5 v ⟨l1, l2, l3, l4, l5, l6⟩ w')
    have hGs : G.toArray.size = 170 := by rw [hG, List.size_toArray, txC_len]
    by_cases a1 : t.l.may
    rotate_left
    · rw [decide_eq_false a1] at c7
      refine x_ ?_
      refine Run.op1 (ostE G.toArray (he := by rw [hG, ← hF, ← wr_u5]; exact congrArg (fun a => wrAt _ 30 (Array.toList a)) cl_zero) (hf := by rw [hFs]; decide) (h1 := by intro u hu; change u ∈ ti62.zero.cells.toList at hu; rw [cl_zero] at hu; exact ClD.nul.one u hu)) (fun _ => ?_)
      refine x_ ?_
      exact RQ.ret1 rfl (Res.tmp rfl) fun w' hm => hno w' hm.fr (fun h => a1 ((may5 hk).1 h).1)
    rw [decide_eq_true a1] at c7
    refine x_ ?_
    refine Run.op1 (ostE G.toArray (he := by rw [hG, ← hF, ← wr_u5]; exact congrArg (fun a => wrAt _ 30 (Array.toList a)) cl_zero) (hf := by rw [hFs]; decide) (h1 := by intro u hu; change u ∈ ti62.zero.cells.toList at hu; rw [cl_zero] at hu; exact ClD.nul.one u hu)) (fun _ => ?_)
    refine x_ ?_
    exact RQ.ret1 rfl (Res.tmp rfl) fun w' hm => ⟨congrArg (fun b => Ending.returned (.bool b)) (decide_eq_decide.2 ⟨fun h => (may5 hk).2 ⟨a1, h⟩, fun h => ((may5 hk).1 h).2⟩), hm.fr⟩
  have hk5 := hk; clear hk
  refine x_ ?_
  exact RQ.ret1 rfl (Res.tmp rfl) fun w' hm => hno w' hm.fr (fun h => by have := ((TxMay.iff t).1 h).k; omega)
end Go.Proofs.YtfoeakgnkfcbjaaGreatDoor
end
