/- QuorumMore. -/
import Derived.Test.YtilfbomjaflbjaaDoorQuG
namespace Go.Sha
open Go.Vc (insI)
theorem incr_app : ∀ (l : List Int) (last z : Int), incr last l = true → last < z → (∀ y ∈ l, y < z) → incr last (l ++ [z]) = true
  | [], last, z, _, h, _ => by
    show (decide (last < z) && true) = true
    rw [decide_eq_true h]; rfl
  | k :: r, last, z, h, _, hy => by
    simp only [incr, Bool.and_eq_true, decide_eq_true_eq] at h
    show (decide (last < k) && incr k (r ++ [z])) = true
    rw [decide_eq_true h.1, incr_app r k z h.2 (hy k List.mem_cons_self) (fun y hm => hy y (List.mem_cons_of_mem _ hm))]
    rfl
theorem incr_gt : ∀ (l : List Int) (last : Int), incr last l = true → ∀ y ∈ l, last < y
  | k :: r, last, h, y, hy => by
    simp only [incr, Bool.and_eq_true, decide_eq_true_eq] at h
    rcases List.mem_cons.1 hy with rfl | hy
    · exact h.1
    · exact Int.lt_trans h.1 (incr_gt r k h.2 y hy)
theorem incr_nodup : ∀ (l : List Int) (last : Int), incr last l = true → l.Nodup
  | [], _, _ => List.nodup_nil
  | k :: r, last, h => by
    simp only [incr, Bool.and_eq_true, decide_eq_true_eq] at h
    rw [List.nodup_cons]
    exact ⟨fun hm => Int.lt_irrefl _ (incr_gt r k h.2 k hm), incr_nodup r k h.2⟩
theorem dist_of : ∀ (l ks : List Int), (ks ++ l).Nodup → l.foldl (fun ks k => insI k ks) ks = ks ++ l
  | [], ks, _ => by simp
  | k :: r, ks, h => by
    have hk : k ∉ ks := fun hm => (List.nodup_append.1 h).2.2 k hm k List.mem_cons_self rfl
    rw [List.foldl_cons, insI, if_neg hk, dist_of r (ks ++ [k]) (by rw [List.append_assoc]; exact h), List.append_assoc]
    rfl
theorem dist_incr {l : List Int} {last : Int} (h : incr last l = true) : dist l = l := (dist_of l [] (by rw [List.nil_append]; exact incr_nodup l last h)).trans (List.nil_append _)
/-- Who signs. -/
def whoM (mask : Nat) : Nat → List Int
  | 0 => []
  | i + 1 => whoM mask i ++ if mask / 2 ^ i % 2 = 1 then [(i : Int)] else []
theorem whoM_mem (mask : Nat) : ∀ (i : Nat) (y : Int), y ∈ whoM mask i → 0 ≤ y ∧ y < i
  | i + 1, y, h => by
    rcases List.mem_append.1 h with h | h
    · have := whoM_mem mask i y h
      omega
    · split at h
      · rw [List.mem_singleton] at h; omega
      · cases h
theorem whoM_incr (mask : Nat) : ∀ (i : Nat), incr (-1) (whoM mask i) = true
  | 0 => rfl
  | i + 1 => by
    have ih := whoM_incr mask i
    unfold whoM
    split
    · exact incr_app _ _ _ ih (by omega) (fun y hy => (whoM_mem mask i y hy).2)
    · rw [List.append_nil]; exact ih
theorem whoM_len (mask : Nat) : ∀ (i : Nat), (whoM mask i).length ≤ i
  | 0 => Nat.le_refl _
  | i + 1 => by
    have := whoM_len mask i
    unfold whoM
    rw [List.length_append]
    split
    · rw [List.length_singleton]; omega
    · rw [List.length_nil]; omega
theorem whoM_in (mask k : Nat) : inR k (whoM mask k) := by
  intro i hi
  have hm := List.mem_of_getElem? (getD_some hi (0 : Int))
  have := whoM_mem mask k _ hm
  exact ⟨((whoM mask k).getD i 0).toNat, by omega, by omega⟩
end Go.Sha
namespace Go.Proofs.YtilfbomjaflbjaaDoor
open Go Go.Vc Go.Sha

set_option maxRecDepth 10000 in
theorem QuorumMore_calls (n need mask : Nat) (hn : n < 256) (hnd : need < 256) (hmk : mask < 256) (w : World) (hK : Laid w) :
    Gives Tryd.prog 9 [.int .u8 n, .int .u8 need, .int .u8 mask] (.bool true) w := by
  refine enter Tryd.func9 rfl (Mem.nil w []) rfl ?_
  (repeat refine RC.seq ?_); refine RC.region ?_
  refine Run.v rfl rfl rfl (Val.of rfl) ?_
  refine Run.nil (RQ.next ?_)
  (repeat refine RC.seq ?_); refine RC.region ?_
  refine Run.callV Tryd.func22 rfl rfl rfl rfl rfl rfl rfl (fun w' hm => q_awake_calls w' (hK.fr hm.fr (by simp))) ?_
  refine Run.v rfl rfl rfl (Val.of rfl) ?_
  refine Run.nil (RQ.next ?_)
  (repeat refine RC.seq ?_); refine RC.condF rfl rfl (RC.skip (RQ.next ?_))
  obtain ⟨k, hk, hk1, hk5⟩ : ∃ k, 1 + n % 5 = k ∧ 1 ≤ k ∧ k ≤ 5 := ⟨_, rfl, by omega, by omega⟩
  have hmk5 : need % k < k := Nat.mod_lt _ (by omega)
  obtain ⟨d, hd, hd1, hdk⟩ : ∃ d, 1 + need % k = d ∧ 1 ≤ d ∧ d ≤ k := ⟨_, rfl, by omega, by omega⟩
  obtain ⟨m, hm⟩ : ∃ m, m = [8, n, 0, 0, 0, 0, 0, 0] := ⟨_, rfl⟩
  have hm8 : m.length = 8 := by rw [hm]; rfl
  have hmlt : ∀ x ∈ m, x < 256 := by rw [hm]; intro x hx; simp at hx; omega
  (repeat refine RC.seq ?_); refine RC.region ?_
  refine Run.v rfl rfl rfl (Val.of rfl) ?_
  refine Run.v rfl rfl rfl (Val.convIn tabOk rfl rfl rfl rfl rfl rfl (by dsimp only [inK]; omega)) ?_
  refine Run.v rfl rfl rfl (Val.remN (m := 5) rfl rfl rfl rfl (by decide)) ?_
  refine Run.v rfl rfl rfl (Val.eq (Val.ar rfl rfl rfl rfl (by dsimp only [inK]; omega)) (show _ = Value.int .i64 (k : Int) from congrArg (Value.int .i64) (by omega))) ?_
  refine Run.v rfl rfl rfl (Val.of rfl) ?_
  refine Run.nil (RQ.next ?_)
  (repeat refine RC.seq ?_); refine RC.region ?_
  refine Run.v rfl rfl rfl (Val.of rfl) ?_
  refine Run.v rfl rfl rfl (Val.convIn tabOk rfl rfl rfl rfl rfl rfl (by dsimp only [inK]; omega)) ?_
  refine Run.v rfl rfl rfl (Val.of rfl) ?_
  refine Run.v rfl rfl rfl (Val.remN (m := k) rfl rfl rfl rfl (by omega)) ?_
  refine Run.v rfl rfl rfl (Val.eq (Val.ar rfl rfl rfl rfl (by dsimp only [inK]; omega)) (show _ = Value.int .i64 (d : Int) from congrArg (Value.int .i64) (by omega))) ?_
  refine Run.v rfl rfl rfl (Val.of rfl) ?_
  refine Run.nil (RQ.next ?_)
  have hMd := fun w' => Made_calls ((k : Nat) : Int) ((d : Nat) : Int) w'
  rw [Int.toNat_natCast, Nat.min_eq_left (show k ≤ 8 by omega)] at hMd
  have hcl := certs_len k
  have hcH := certs_HL k
  (repeat refine RC.seq ?_); refine RC.region ?_
  refine Run.v rfl rfl rfl (Val.of rfl) ?_
  refine Run.v rfl rfl rfl (Val.of rfl) ?_
  refine Run.op rfl (OpTo.callMkP Tryd.func25 rfl rfl rfl rfl rfl rfl (fun w' _ => hMd w')) ?_
  rintro ⟨⟨v, bl⟩, hown⟩
  dsimp only at hown ⊢
  obtain ⟨ka, kc, rfl, hkc⟩ := hown.shape
  refine Run.mk rfl rfl rfl (New.allocTo tabOk (cs := (prm 0 0 0 (.slice none 0 0)).toArray) rfl rfl rfl) ?_
  intro b9
  refine Run.op rfl (OpTo.setV tabOk [] (prm 0 0 0 (.slice none 0 0)) (prm 4 2 (d : Int) (.slice ka k kc)) [] rfl rfl rfl rfl rfl (List.Perm.refl _) rfl (by simp) rfl rfl rfl (by intro u hu; simp only [prm, List.mem_cons, List.not_mem_nil, or_false] at hu; rcases hu with rfl | rfl | rfl | rfl <;> rfl)) (fun _ => ?_)
  rw [List.nil_append, List.append_nil]
  refine Run.nil (RQ.next ?_)
  (repeat refine RC.seq ?_); refine RC.region ?_
  refine Run.v rfl rfl rfl (Val.of rfl) ?_
  refine Run.v rfl rfl rfl (Val.buildA tabOk (parts := [(0, .const (.int .u8 8)), (1, .tmp 28)]) (vs := [.int .u8 8, .int .u8 n]) (cells := (u8s m).toArray) rfl rfl rfl rfl rfl (by rw [hm]; rfl)) ?_
  refine Run.mk rfl rfl rfl (New.alloc tabOk rfl rfl) ?_
  intro b10
  refine Run.op rfl (OpTo.setAll tabOk rfl rfl rfl rfl rfl (List.Perm.refl _) hm8 rfl) (fun _ => ?_)
  refine Run.nil (RQ.next ?_)
  (repeat refine RC.seq ?_); refine RC.region ?_
  refine Run.v rfl rfl rfl (Val.of rfl) ?_
  refine Run.nil (RQ.next ?_)
  (repeat refine RC.seq ?_); refine RC.region ?_
  refine Run.v rfl rfl rfl (Val.of rfl) ?_
  refine Run.nil (RQ.next ?_)
  (repeat refine RC.seq ?_); refine RC.block ?_
  refine RC.up k (D := Value × Hp) (fun i x => Own 3 1 x.1 (whoM mask i).length (i64L (whoM mask i)) x.2)
    (fun i x => [(12, .int .i64 i), (11, x.1), (7, .int .i64 k), (8, .int .i64 d), (9, .pointer (some ⟨b9, 0, none⟩)), (10, .pointer (some ⟨b10, 0, none⟩)), (2, .int .u8 mask)])
    (fun i x => x.2 ++ ((b10, .cells (u8s m).toArray 23 (0, 0)) :: (b9, .cells (prm 4 2 (d : Int) (.slice ka k kc)).toArray 47 (0, 0)) :: (bl ++ [])))
    0 (_, _) (Nat.zero_le _) Own.nil ⟨rfl, rfl, rfl, rfl, rfl, rfl, rfl, trivial⟩ (List.Sublist.refl _) ?_
  rintro i ⟨v3, bl3⟩ hi hw
  dsimp only at hw ⊢
  have hwl := whoM_len mask i
  (repeat refine RC.seq ?_); refine RC.region ?_
  refine Run.v rfl rfl rfl (Val.of rfl) ?_
  refine Run.v rfl rfl rfl (Val.of rfl) ?_
  refine Run.v rfl rfl rfl (Val.of rfl) ?_
  refine Run.nil (RQ.next ?_)
  (repeat refine RC.seq ?_); refine RC.wh rfl (fun h => RQ.next ?_) (fun h => ?_)
  · have hi' : i < k := by have := of_decide_eq_true h; omega
    clear h
    have hdiv : mask / 2 ^ i < 256 := Nat.lt_of_le_of_lt (Nat.div_le_self _ _) hmk
    have hws : whoM mask (i + 1) = whoM mask i ++ if mask / 2 ^ i % 2 = 1 then [(i : Int)] else [] := rfl
    (repeat refine RC.seq ?_); refine RC.block ?_
    (repeat refine RC.seq ?_); refine RC.region ?_
    refine Run.v rfl rfl rfl (Val.of rfl) ?_
    refine Run.v rfl rfl rfl (Val.of rfl) ?_
    refine Run.v rfl rfl rfl (Val.convIn tabOk rfl rfl rfl rfl rfl rfl (by dsimp only [inK]; omega)) ?_
    refine Run.v rfl rfl rfl (Val.shr (m := i) rfl rfl rfl (by show _ ≤ 8; omega)) ?_
    refine Run.v rfl rfl rfl (Val.and1 rfl rfl rfl hdiv) ?_
    refine Run.v rfl rfl rfl (Val.eq (Val.of rfl) (show _ = Value.bool (decide (mask / 2 ^ i % 2 = 1)) from congrArg Value.bool (by rw [Bool.eq_iff_iff, beq_iff_eq, decide_eq_true_iff]; omega))) ?_
    refine Run.nil (RQ.next ?_)
    (repeat refine RC.seq ?_); refine RC.cond rfl (fun h => ?_) (fun h => ?_)
    · have hb := of_decide_eq_true h
      rw [if_pos hb] at hws
      (repeat refine RC.seq ?_); refine RC.region ?_
      refine Run.v rfl rfl rfl (Val.of rfl) ?_
      refine Run.v rfl rfl rfl (Val.of rfl) ?_
      refine Run.mk rfl rfl rfl (New.buildSlice tabOk (parts := [(0, .tmp 42)]) (cells := [Value.int .i64 i].toArray) rfl rfl rfl rfl rfl rfl (fillS_full 1 1 _ [Value.int .i64 i] rfl (by simp [Value.cells]))) ?_
      intro b43
      refine Run.op rfl (OpTo.append tabOk hw (Src.at ⟨b43, 0, none⟩ 1 1 [Value.int .i64 i] rfl (Rd.rowAll m0)) rfl rfl rfl rfl rfl rfl rfl rfl rfl (List.perm_append_comm_assoc [_] bl3 _) (by intro u hu; rw [List.mem_singleton] at hu; subst hu; rfl) (by unfold maxLen; omega) (by simp only [ti3]; omega)) ?_
      rintro ⟨⟨v9, bl9⟩, hown9⟩
      dsimp only at hown9 ⊢
      refine Run.v rfl rfl rfl (Val.of rfl) ?_
      refine Run.nil (RQ.blockNormal (RQ.next ?_))
      refine RC.region ?_
      repeat (first | refine Run.v rfl rfl rfl (Val.ar rfl rfl rfl rfl (by dsimp only [inK]; omega)) ?_ | refine Run.v rfl rfl rfl (Val.of rfl) ?_)
      refine Run.nil (RQ.up (i + 1) (v9, bl9) (Nat.lt_succ_self _) hi' ?_ ⟨rfl, rfl, rfl, rfl, rfl, rfl, rfl, trivial⟩ (List.Sublist.append (List.Sublist.refl _) (List.Sublist.cons _ (List.Sublist.refl _))))
      dsimp only
      rw [hws, List.length_append, i64L, List.map_append]
      exact hown9
    · have hb := of_decide_eq_false h
      rw [if_neg hb, List.append_nil] at hws
      refine RC.skip (RQ.blockNormal (RQ.next ?_))
      refine RC.region ?_
      repeat (first | refine Run.v rfl rfl rfl (Val.ar rfl rfl rfl rfl (by dsimp only [inK]; omega)) ?_ | refine Run.v rfl rfl rfl (Val.of rfl) ?_)
      refine Run.nil (RQ.up (i + 1) (v3, bl3) (Nat.lt_succ_self _) hi' ?_ ⟨rfl, rfl, rfl, rfl, rfl, rfl, rfl, trivial⟩ (List.Sublist.refl _))
      dsimp only
      rw [hws]
      exact hw
  · have hi' : i = k := by have := of_decide_eq_false h; omega
    subst hi'
    clear h
    have hin := whoM_in mask i
    have hinc := whoM_incr mask i
    have r1 : chkQ 4 2 (d : Int) (certs i) m (sgL m (whoM mask i) [] (whoM mask i).length) = decide (d ≤ (whoM mask i).length) := by
      rw [chk_all hin hk5 hk1 (by omega) (by omega), hinc, Bool.and_true, decide_eq_decide]
      omega
    have r2 : cntK (certs i) m (sgL m (whoM mask i) [] (whoM mask i).length) = whoM mask i := by rw [cnt_all hin, dist_incr hinc]
    have hsl := sgL_len m (whoM mask i) [] (whoM mask i).length
    have hS := fun vw vb w' h1 h2 => Signed_calls m hm8 hmlt (whoM mask i) (by omega) [] (by decide) vw vb w' h1 h2
    have hC := fun v vs w' h1 h2 h3 => qCheck_calls 4 2 (d : Int) (certs i) hcH (by omega) m hm8 hmlt (sgL m (whoM mask i) [] (whoM mask i).length) (by omega) v vs w' h1 h2 h3
    have hE := fun v vs w' h1 h2 h3 => qCount_calls 4 2 (d : Int) (certs i) hcH m hm8 hmlt (sgL m (whoM mask i) [] (whoM mask i).length) (by omega) v vs w' h1 h2 h3
    rw [r1, hsl, hcl] at hC
    rw [r2, hsl, hcl] at hE
    generalize sgL m (whoM mask i) [] (whoM mask i).length = sg at *
    generalize certs i = ct at *
    obtain ⟨wa, wc, rfl, hwc⟩ := hw.shape
    (repeat refine RQ.thenExit ?_); refine RQ.blockHere ?_
    refine RQ.next ?_
    (repeat refine RC.seq ?_); refine RC.region ?_
    refine Run.v rfl rfl rfl (Val.loadU tabOk rfl rfl rfl rfl (List.mem_append_right _ m0) hm8) ?_
    refine Run.v rfl rfl rfl (Val.of rfl) ?_
    refine Run.op rfl (OpTo.callMk Tryd.func26 rfl rfl rfl rfl rfl rfl (fun w' hm => hS _ _ w' (hw.srcW (fun q hq => hm.has q (by repeat (first | exact List.mem_append_left _ hq | exact hq | apply List.mem_append_right | apply List.mem_cons_of_mem)))) .nil)) ?_
    rintro ⟨⟨v10, bl10⟩, hown10⟩
    dsimp only at hown10 ⊢
    refine Run.v rfl rfl rfl (Val.of rfl) ?_
    refine Run.nil (RQ.next ?_)
    (repeat refine RC.seq ?_); refine RC.region ?_
    refine Run.v rfl rfl rfl (Val.loadAll tabOk rfl rfl rfl rfl (List.mem_append_right _ (List.mem_append_right _ m1)) rfl) ?_
    refine Run.v rfl rfl rfl (Val.loadU tabOk rfl rfl rfl rfl (List.mem_append_right _ (List.mem_append_right _ m0)) hm8) ?_
    refine Run.v rfl rfl rfl (Val.of rfl) ?_
    refine Run.callV Tryd.func27 rfl rfl rfl rfl rfl rfl rfl (fun w' hm => hC _ _ w' (hown.srcW (fun q hq => hm.has q (by repeat (first | exact List.mem_append_left _ hq | exact hq | apply List.mem_append_right | apply List.mem_cons_of_mem)))) (hown10.srcW (fun q hq => hm.has q (by repeat (first | exact List.mem_append_left _ hq | exact hq | apply List.mem_append_right | apply List.mem_cons_of_mem)))) (hK.fr hm.fr (by simp))) ?_
    refine Run.v rfl rfl rfl (Val.of rfl) ?_
    refine Run.v rfl rfl rfl (Val.len (len := (whoM mask i).length) tabOk rfl rfl rfl rfl) ?_
    refine Run.v rfl rfl rfl (Val.of rfl) ?_
    refine Run.v rfl rfl rfl (Val.eq (Val.of rfl) (show _ = Value.bool (decide (d ≤ (whoM mask i).length)) from congrArg Value.bool (by rw [decide_eq_decide]; omega))) ?_
    refine Run.v rfl rfl rfl (Val.eq (Val.eqBool tabOk rfl rfl rfl rfl rfl) (show _ = Value.bool true from congrArg Value.bool (by simp))) ?_
    refine Run.v rfl rfl rfl (Val.of rfl) ?_
    refine Run.vG (Wanted.guard rfl rfl rfl rfl) rfl rfl (Val.loadAll tabOk rfl rfl rfl rfl (List.mem_append_right _ (List.mem_append_right _ m1)) rfl) ?_
    refine Run.vG (Wanted.guard rfl rfl rfl rfl) rfl rfl (Val.loadU tabOk rfl rfl rfl rfl (List.mem_append_right _ (List.mem_append_right _ m0)) hm8) ?_
    refine Run.vG (Wanted.guard rfl rfl rfl rfl) rfl rfl (Val.of rfl) ?_
    refine Run.opG (Wanted.guard rfl rfl rfl rfl) (OpTo.callV Tryd.func29 rfl rfl rfl rfl rfl rfl (fun w' hm => hE _ _ w' (hown.srcW (fun q hq => hm.has q (by repeat (first | exact List.mem_append_left _ hq | exact hq | apply List.mem_append_right | apply List.mem_cons_of_mem)))) (hown10.srcW (fun q hq => hm.has q (by repeat (first | exact List.mem_append_left _ hq | exact hq | apply List.mem_append_right | apply List.mem_cons_of_mem)))) (hK.fr hm.fr (by simp)))) (fun _ => ?_)
    refine Run.vG (Wanted.guard rfl rfl rfl rfl) rfl rfl (Val.of rfl) ?_
    refine Run.vG (Wanted.guard rfl rfl rfl rfl) rfl rfl (Val.len (len := (whoM mask i).length) tabOk rfl rfl rfl rfl) ?_
    refine Run.vG (Wanted.guard rfl rfl rfl rfl) rfl rfl (Val.eq (Val.of rfl) (show _ = Value.bool true from congrArg Value.bool (by simp))) ?_
    refine Run.v rfl rfl rfl (Val.of rfl) ?_
    refine Run.v rfl rfl rfl (Val.of rfl) ?_
    refine Run.nil (RQ.next ?_)
    refine RC.ret ?_; (repeat first | refine RQ.thenRet ?_ | refine RQ.blockRet ?_); exact RQ.ret1 rfl (Res.tmp rfl) fun w' hm => ⟨rfl, hm.fr⟩
end Go.Proofs.YtilfbomjaflbjaaDoor
