/- QuorumOrder. -/
import Derived.Test.YtilfbomjaflbjaaDoorQuG
namespace Go.Sha
open Go.Vc (insI)
def two (x y : Nat) : List Int := [(x : Int), (y : Int)]
theorem two_in {x y k : Nat} (hx : x < k) (hy : y < k) : inR k (two x y) := by
  intro i hi
  match i, hi with
  | 0, _ => exact ⟨x, rfl, hx⟩
  | 1, _ => exact ⟨y, rfl, hy⟩
theorem one_in {x k : Nat} (hx : x < k) : inR k [(x : Int)] := by
  intro i hi
  match i, hi with
  | 0, _ => exact ⟨x, rfl, hx⟩
/-- A signature under the number of a key that there is not. -/
def odd (m : List Nat) (x y k : Nat) : Sg := { sgOne m (two x y) [] 0 with key := (k : Int) }
def oddL (m : List Nat) (x y k : Nat) : List Sg := sgL m [(x : Int)] [] 1 ++ [odd m x y k]
theorem rowSg_one (s : Sg) : rowSg [s] = s.c := by
  unfold rowSg
  simp only [List.map_cons, List.map_nil, List.flatten_cons, List.flatten_nil, List.append_nil]
theorem odd_row (m : List Nat) (x y k : Nat) : rowSg (oddL m x y k) = rowSg (sgL m [(x : Int)] [] 1) ++ (odd m x y k).c := by
  unfold oddL
  rw [rowSg_app, rowSg_one]
theorem odd_c (m : List Nat) (x y k : Nat) : (odd m x y k).c = Go.Value.int .i64 k :: sigC (sgOne m (two x y) [] 0).z (sgOne m (two x y) [] 0).op (sgOne m (two x y) [] 0).sh (sgOne m (two x y) [] 0).pa := rfl
theorem odd_bad (m : List Nat) (x y k : Nat) : rightS (certs k) m (odd m x y k) = false := rightS_bad (by rw [certs_len]; show ¬ (0 ≤ (k : Int) ∧ (k : Int) < k); omega)
theorem odd_chk (m : List Nat) (x y k : Nat) (nd : Int) : chkQ 4 2 nd (certs k) m (oddL m x y k) = false := by
  have e : oddL m x y k = [sgOne m [(x : Int)] [] 0, odd m x y k] := rfl
  unfold chkQ
  rw [e]
  simp only [goes, odd_bad, Bool.false_and, Bool.and_false]
theorem odd_cnt {m : List Nat} {x y k : Nat} (hx : x < k) : cntK (certs k) m (oddL m x y k) = [(x : Int)] := by
  have e : oddL m x y k = [sgOne m [(x : Int)] [] 0, odd m x y k] := rfl
  have h1 : rightS (certs k) m (sgOne m [(x : Int)] [] 0) = true := right_signed (k := x) rfl hx
  rw [e]
  unfold cntK
  rw [List.foldl_cons, List.foldl_cons, List.foldl_nil, h1, odd_bad, if_pos rfl, if_neg (by decide)]
  rfl
theorem twice_chk {m : List Nat} {x y k : Nat} {nd : Int} : chkQ 4 2 nd (certs k) m (sgL m (two x y) [] 2 ++ sgL m (two x y) [] 2) = false := by
  have e : sgL m (two x y) [] 2 ++ sgL m (two x y) [] 2 = [sgOne m (two x y) [] 0, sgOne m (two x y) [] 1, sgOne m (two x y) [] 0, sgOne m (two x y) [] 1] := rfl
  have k0 : (sgOne m (two x y) [] 0).key = (x : Int) := rfl
  have k1 : (sgOne m (two x y) [] 1).key = (y : Int) := rfl
  unfold chkQ
  rw [e]
  simp only [goes, k0, k1]
  by_cases h : (x : Int) < y
  · have h2 : ¬ (y : Int) < x := by omega
    rw [decide_eq_false h2]
    simp
  · rw [decide_eq_false h]
    simp
theorem two_chk {m : List Nat} {x y k : Nat} (hx : x < k) (hy : y < k) (h5 : k ≤ 5) (h1 : 1 ≤ k) : chkQ 4 2 1 (certs k) m (sgL m (two x y) [] 2) = decide (x < y) := by
  have := chk_all (m := m) (nd := 1) (two_in hx hy) h5 h1 (by decide) (by omega)
  rw [show (two x y).length = 2 from rfl] at this
  rw [this, decide_eq_true (by omega), Bool.true_and]
  show (decide ((-1 : Int) < x) && (decide ((x : Int) < y) && true)) = _
  rw [decide_eq_true (by omega), Bool.true_and, Bool.and_true, decide_eq_decide]
  omega
theorem two_cnt {m : List Nat} {x y k : Nat} (hx : x < k) (hy : y < k) : (cntK (certs k) m (sgL m (two x y) [] 2)).length = if x = y then 1 else 2 := by
  have := cnt_all (m := m) (two_in hx hy)
  rw [show (two x y).length = 2 from rfl] at this
  rw [this]
  show (insI (y : Int) (insI (x : Int) [])).length = _
  rw [show insI (x : Int) [] = [(x : Int)] from rfl]
  unfold insI
  by_cases h : x = y
  · rw [if_pos h, if_pos (by simp [h])]
    rfl
  · rw [if_neg h, if_neg (by simp; omega)]
    rfl
end Go.Sha
namespace Go.Proofs.YtilfbomjaflbjaaDoor
open Go Go.Vc Go.Sha

set_option maxRecDepth 10000 in
theorem QuorumOrder_calls (n a b : Nat) (hn : n < 256) (ha : a < 256) (hb : b < 256) (w : World) (hK : Laid w) :
    Gives Tryd.prog 10 [.int .u8 n, .int .u8 a, .int .u8 b] (.bool true) w := by
  refine enter Tryd.func10 rfl (Mem.nil w []) rfl ?_
  (repeat refine RC.seq ?_); refine RC.region ?_
  refine Run.v rfl rfl rfl (Val.of rfl) ?_
  refine Run.nil (RQ.next ?_)
  (repeat refine RC.seq ?_); refine RC.region ?_
  refine Run.callV Tryd.func22 rfl rfl rfl rfl rfl rfl rfl (fun w' hm => q_awake_calls w' (hK.fr hm.fr (by simp))) ?_
  refine Run.v rfl rfl rfl (Val.of rfl) ?_
  refine Run.nil (RQ.next ?_)
  (repeat refine RC.seq ?_); refine RC.condF rfl rfl (RC.skip (RQ.next ?_))
  obtain ⟨k, hk, hk1, hk5⟩ : ∃ k, 2 + n % 4 = k ∧ 2 ≤ k ∧ k ≤ 5 := ⟨_, rfl, by omega, by omega⟩
  obtain ⟨x, hxe, hx⟩ : ∃ x, a % k = x ∧ x < k := ⟨_, rfl, Nat.mod_lt _ (by omega)⟩
  obtain ⟨y, hye, hy⟩ : ∃ y, b % k = y ∧ y < k := ⟨_, rfl, Nat.mod_lt _ (by omega)⟩
  obtain ⟨m, hm⟩ : ∃ m, m = [6, n, 0, 0, 0, 0, 0, 0] := ⟨_, rfl⟩
  have hm8 : m.length = 8 := by rw [hm]; rfl
  have hmlt : ∀ x ∈ m, x < 256 := by rw [hm]; intro x hx; simp at hx; omega
  (repeat refine RC.seq ?_); refine RC.region ?_
  refine Run.v rfl rfl rfl (Val.of rfl) ?_
  refine Run.v rfl rfl rfl (Val.convIn tabOk rfl rfl rfl rfl rfl rfl (by dsimp only [inK]; omega)) ?_
  refine Run.v rfl rfl rfl (Val.remN (m := 4) rfl rfl rfl rfl (by decide)) ?_
  refine Run.v rfl rfl rfl (Val.eq (Val.ar rfl rfl rfl rfl (by dsimp only [inK]; omega)) (show _ = Value.int .i64 (k : Int) from congrArg (Value.int .i64) (by omega))) ?_
  refine Run.v rfl rfl rfl (Val.of rfl) ?_
  refine Run.nil (RQ.next ?_)
  have hMd := fun w' => Made_calls ((k : Nat) : Int) 1 w'
  rw [Int.toNat_natCast, Nat.min_eq_left (show k ≤ 8 by omega)] at hMd
  have hcl := certs_len k
  have hcH := certs_HL k
  (repeat refine RC.seq ?_); refine RC.region ?_
  refine Run.v rfl rfl rfl (Val.of rfl) ?_
  refine Run.op rfl (OpTo.callMkP Tryd.func25 rfl rfl rfl rfl rfl rfl (fun w' _ => hMd w')) ?_
  rintro ⟨⟨v, bl⟩, hown⟩
  dsimp only at hown ⊢
  obtain ⟨ka, kc, rfl, hkc⟩ := hown.shape
  refine Run.mk rfl rfl rfl (New.allocTo tabOk (cs := (prm 0 0 0 (.slice none 0 0)).toArray) rfl rfl rfl) ?_
  intro b8
  refine Run.op rfl (OpTo.setV tabOk [] (prm 0 0 0 (.slice none 0 0)) (prm 4 2 1 (.slice ka k kc)) [] rfl rfl rfl rfl rfl (List.Perm.refl _) rfl (by simp) rfl rfl rfl (by intro u hu; simp only [prm, List.mem_cons, List.not_mem_nil, or_false] at hu; rcases hu with rfl | rfl | rfl | rfl <;> rfl)) (fun _ => ?_)
  rw [List.nil_append, List.append_nil]
  refine Run.nil (RQ.next ?_)
  (repeat refine RC.seq ?_); refine RC.region ?_
  refine Run.v rfl rfl rfl (Val.of rfl) ?_
  refine Run.v rfl rfl rfl (Val.buildA tabOk (parts := [(0, .const (.int .u8 6)), (1, .tmp 23)]) (vs := [.int .u8 6, .int .u8 n]) (cells := (u8s m).toArray) rfl rfl rfl rfl rfl (by rw [hm]; rfl)) ?_
  refine Run.mk rfl rfl rfl (New.alloc tabOk rfl rfl) ?_
  intro b9
  refine Run.op rfl (OpTo.setAll tabOk rfl rfl rfl rfl rfl (List.Perm.refl _) hm8 rfl) (fun _ => ?_)
  refine Run.nil (RQ.next ?_)
  (repeat refine RC.seq ?_); refine RC.drawS mixed (N := 10) rfl ?_
  refine DR.take 0 rfl (by repeat (first | exact List.nil_sublist _ | exact List.Sublist.refl _ | apply List.Sublist.cons_cons | apply List.Sublist.cons | apply Go.Vc.subApp)) inferInstance (by kernel_rfl) (by kernel_rfl) (by kernel_rfl) (by kernel_rfl) rfl rfl (Wanted.plain rfl) (Val.of rfl) ?_
  refine DR.take 1 rfl (by repeat (first | exact List.nil_sublist _ | exact List.Sublist.refl _ | apply List.Sublist.cons_cons | apply List.Sublist.cons | apply Go.Vc.subApp)) inferInstance (by kernel_rfl) (by kernel_rfl) (by kernel_rfl) (by kernel_rfl) rfl rfl (Wanted.plain rfl) (Val.convIn tabOk rfl rfl rfl rfl rfl rfl (by dsimp only [inK]; omega)) ?_
  refine DR.take 2 rfl (by repeat (first | exact List.nil_sublist _ | exact List.Sublist.refl _ | apply List.Sublist.cons_cons | apply List.Sublist.cons | apply Go.Vc.subApp)) inferInstance (by kernel_rfl) (by kernel_rfl) (by kernel_rfl) (by kernel_rfl) rfl rfl (Wanted.plain rfl) (Val.of rfl) ?_
  refine DR.take 3 rfl (by repeat (first | exact List.nil_sublist _ | exact List.Sublist.refl _ | apply List.Sublist.cons_cons | apply List.Sublist.cons | apply Go.Vc.subApp)) inferInstance (by kernel_rfl) (by kernel_rfl) (by kernel_rfl) (by kernel_rfl) rfl rfl (Wanted.plain rfl) (Val.eq (Val.remN (m := k) rfl rfl rfl rfl (by omega)) (show _ = Value.int .i64 (x : Int) from by rw [hxe])) ?_
  refine DR.take 4 rfl (by repeat (first | exact List.nil_sublist _ | exact List.Sublist.refl _ | apply List.Sublist.cons_cons | apply List.Sublist.cons | apply Go.Vc.subApp)) inferInstance (by kernel_rfl) (by kernel_rfl) (by kernel_rfl) (by kernel_rfl) rfl rfl (Wanted.plain rfl) (Val.of rfl) ?_
  refine DR.take 5 rfl (by repeat (first | exact List.nil_sublist _ | exact List.Sublist.refl _ | apply List.Sublist.cons_cons | apply List.Sublist.cons | apply Go.Vc.subApp)) inferInstance (by kernel_rfl) (by kernel_rfl) (by kernel_rfl) (by kernel_rfl) rfl rfl (Wanted.plain rfl) (Val.convIn tabOk rfl rfl rfl rfl rfl rfl (by dsimp only [inK]; omega)) ?_
  refine DR.take 6 rfl (by repeat (first | exact List.nil_sublist _ | exact List.Sublist.refl _ | apply List.Sublist.cons_cons | apply List.Sublist.cons | apply Go.Vc.subApp)) inferInstance (by kernel_rfl) (by kernel_rfl) (by kernel_rfl) (by kernel_rfl) rfl rfl (Wanted.plain rfl) (Val.of rfl) ?_
  refine DR.take 7 rfl (by repeat (first | exact List.nil_sublist _ | exact List.Sublist.refl _ | apply List.Sublist.cons_cons | apply List.Sublist.cons | apply Go.Vc.subApp)) inferInstance (by kernel_rfl) (by kernel_rfl) (by kernel_rfl) (by kernel_rfl) rfl rfl (Wanted.plain rfl) (Val.eq (Val.remN (m := k) rfl rfl rfl rfl (by omega)) (show _ = Value.int .i64 (y : Int) from by rw [hye])) ?_
  refine DR.take 8 rfl (by repeat (first | exact List.nil_sublist _ | exact List.Sublist.refl _ | apply List.Sublist.cons_cons | apply List.Sublist.cons | apply Go.Vc.subApp)) inferInstance (by kernel_rfl) (by kernel_rfl) (by kernel_rfl) (by kernel_rfl) rfl rfl (Wanted.plain rfl) (Val.of rfl) ?_
  refine DR.take 9 rfl (by repeat (first | exact List.nil_sublist _ | exact List.Sublist.refl _ | apply List.Sublist.cons_cons | apply List.Sublist.cons | apply Go.Vc.subApp)) inferInstance (by kernel_rfl) (by kernel_rfl) (by kernel_rfl) (by kernel_rfl) rfl rfl (Wanted.plain rfl) (Val.of rfl) ?_
  refine DR.done (by kernel_rfl) (RQ.next ?_)
  have hS2 := fun vw vb w' h1 h2 => Signed_calls m hm8 hmlt (two x y) (by show 2 ≤ 8; decide) [] (by decide) vw vb w' h1 h2
  have hS1 := fun vw vb w' h1 h2 => Signed_calls m hm8 hmlt [(x : Int)] (by show 1 ≤ 8; decide) [] (by decide) vw vb w' h1 h2
  rw [show (two x y).length = 2 from rfl] at hS2
  rw [show [(x : Int)].length = 1 from rfl] at hS1
  have l2 := sgL_len m (two x y) [] 2
  have l3 : (oddL m x y k).length = 2 := rfl
  have hA := fun v vs w' h1 h2 h3 => qCheck_calls 4 2 1 (certs k) hcH (by omega) m hm8 hmlt (sgL m (two x y) [] 2) (by omega) v vs w' h1 h2 h3
  have hAc := fun v vs w' h1 h2 h3 => qCount_calls 4 2 1 (certs k) hcH m hm8 hmlt (sgL m (two x y) [] 2) (by omega) v vs w' h1 h2 h3
  have hB := fun v vs w' h1 h2 h3 => qCheck_calls 4 2 1 (certs k) hcH (by omega) m hm8 hmlt (oddL m x y k) (by omega) v vs w' h1 h2 h3
  have hBc := fun v vs w' h1 h2 h3 => qCount_calls 4 2 1 (certs k) hcH m hm8 hmlt (oddL m x y k) (by omega) v vs w' h1 h2 h3
  have hN := fun v vs w' h1 h2 h3 => qCheck_calls 4 2 1 (certs k) hcH (by omega) m hm8 hmlt [] (by decide) v vs w' h1 h2 h3
  have hW := fun v vs w' h1 h2 h3 => qCheck_calls 4 2 1 (certs k) hcH (by omega) m hm8 hmlt (sgL m (two x y) [] 2 ++ sgL m (two x y) [] 2) (by rw [List.length_append]; omega) v vs w' h1 h2 h3
  rw [two_chk hx hy hk5 (by omega), l2, hcl] at hA
  rw [two_cnt hx hy, l2, hcl] at hAc
  rw [odd_chk, l3, hcl] at hB
  rw [odd_cnt hx, l3, hcl] at hBc
  rw [show chkQ 4 2 1 (certs k) m [] = false from chkQ_few (by decide), hcl] at hN
  rw [twice_chk, rowSg_app, List.length_append, l2, hcl] at hW
  have hodd : rowSg (oddL m x y k) = rowSg (sgL m [(x : Int)] [] 1) ++ (Value.int .i64 k :: sigC (sgOne m (two x y) [] 0).z (sgOne m (two x y) [] 0).op (sgOne m (two x y) [] 0).sh (sgOne m (two x y) [] 0).pa) := by
    rw [← odd_c]
    exact odd_row m x y k
  rw [hodd] at hB hBc
  have hs0 : (sgL m (two x y) [] 2)[0]? = some (sgOne m (two x y) [] 0) := rfl
  have hz1 := sigC_len (z := (sgOne m (two x y) [] 0).z) (sgOne m (two x y) [] 0).h1 (sgOne m (two x y) [] 0).h2 (sgOne m (two x y) [] 0).h3
  have hz2 : ∀ u ∈ sigC (sgOne m (two x y) [] 0).z (sgOne m (two x y) [] 0).op (sgOne m (two x y) [] 0).sh (sgOne m (two x y) [] 0).pa, u.oneCell' = true := sigC_one
  have hz3 : ∀ j u, (sigC (sgOne m (two x y) [] 0).z (sgOne m (two x y) [] 0).op (sgOne m (two x y) [] 0).sh (sgOne m (two x y) [] 0).pa)[j]? = some u → (rowSg (sgL m (two x y) [] 2))[1 + j]? = some u := fun j u hj => by
    have := rowSg_at hs0 (1 + j) u (by rw [Nat.add_comm]; exact hj)
    rwa [Nat.zero_mul, Nat.zero_add] at this
  generalize sigC (sgOne m (two x y) [] 0).z (sgOne m (two x y) [] 0).op (sgOne m (two x y) [] 0).sh (sgOne m (two x y) [] 0).pa = sc at *
  have hone2 : ∀ u ∈ rowSg (sgL m (two x y) [] 2), u.oneCell' = true := by
    intro u hu
    unfold rowSg at hu
    obtain ⟨t, ht, hu⟩ := List.mem_flatten.1 hu
    obtain ⟨s, _, rfl⟩ := List.mem_map.1 ht
    exact s.one u hu
  generalize rowSg (sgL m (two x y) [] 2) = s2 at *
  generalize rowSg (sgL m [(x : Int)] [] 1) = s1 at *
  generalize certs k = ct at *
  have hz4 : (Value.int .i64 k :: sc).length = 282 := by rw [List.length_cons, hz1]
  have hz5 : ∀ u ∈ (Value.int .i64 k :: sc), u.oneCell' = true := by
    intro u hu
    rcases List.mem_cons.1 hu with rfl | hu
    · rfl
    · exact hz2 u hu
  (repeat refine RC.seq ?_); refine RC.region ?_
  refine Run.v rfl rfl rfl (Val.loadU tabOk rfl rfl rfl rfl m0 hm8) ?_
  refine Run.v rfl rfl rfl (Val.of rfl) ?_
  refine Run.v rfl rfl rfl (Val.of rfl) ?_
  refine Run.mk rfl rfl rfl (New.buildSlice tabOk (parts := [(0, .tmp 34), (1, .tmp 35)]) (cells := (i64L (two x y)).toArray) rfl rfl rfl rfl rfl rfl (fillS_full 1 2 _ [Value.int .i64 x, Value.int .i64 y] rfl (by simp [Value.cells]))) ?_
  intro b36
  refine Run.op rfl (OpTo.callMk Tryd.func26 rfl rfl rfl rfl rfl rfl (fun w' hm => hS2 _ _ w' (SrcW.row hm m0 rfl (Nat.le_refl 2)) .nil)) ?_
  rintro ⟨⟨v12, bl12⟩, hown12⟩
  dsimp only at hown12 ⊢
  obtain ⟨bp, cap, rst, rfl, rfl, g1, g2, g3, g4⟩ := hown12.pos (by decide)
  refine Run.v rfl rfl rfl (Val.of rfl) ?_
  refine Run.nil (RQ.next ?_)
  have hz6 : ∀ j u, sc[j]? = some u → (s2 ++ rst).toArray[1 + j]? = some u := fun j u hj => by
    rw [List.getElem?_toArray, List.getElem?_append_left (List.getElem?_eq_some_iff.1 (hz3 j u hj)).1]
    exact hz3 j u hj
  (repeat refine RC.seq ?_)
  refine RC.thenCut (Y := {p : Value × Hp // Own 60 282 p.1 2 (s1 ++ (Value.int .i64 k :: sc)) p.2}) (fun p => [(13, p.1.1), (12, .slice (some ⟨bp, 0, none⟩) 2 cap), (7, .int .i64 k), (8, .pointer (some ⟨b8, 0, none⟩)), (9, .pointer (some ⟨b9, 0, none⟩)), (10, .int .i64 x), (11, .int .i64 y)])
    (fun p => p.1.2 ++ ((bp, .cells (s2 ++ rst).toArray 60 (0, 0)) :: (b9, .cells (u8s m).toArray 23 (0, 0)) :: (b8, .cells (prm 4 2 1 (.slice ka k kc)).toArray 47 (0, 0)) :: (bl ++ []))) ?_ ?_
  · (repeat refine RC.seq ?_); refine RC.drawS mixed (N := 13) rfl ?_
    refine DR.take 0 rfl (by repeat (first | exact List.nil_sublist _ | exact List.Sublist.refl _ | apply List.Sublist.cons_cons | apply List.Sublist.cons | apply Go.Vc.subApp)) inferInstance (by kernel_rfl) (by kernel_rfl) (by kernel_rfl) (by kernel_rfl) rfl rfl (Wanted.plain rfl) (Val.loadU tabOk rfl rfl rfl rfl (List.mem_append_right _ m1) hm8) ?_
    refine DR.take 1 rfl (by repeat (first | exact List.nil_sublist _ | exact List.Sublist.refl _ | apply List.Sublist.cons_cons | apply List.Sublist.cons | apply Go.Vc.subApp)) inferInstance (by kernel_rfl) (by kernel_rfl) (by kernel_rfl) (by kernel_rfl) rfl rfl (Wanted.plain rfl) (Val.of rfl) ?_
    refine DR.take 4 rfl (by repeat (first | exact List.nil_sublist _ | exact List.Sublist.refl _ | apply List.Sublist.cons_cons | apply List.Sublist.cons | apply Go.Vc.subApp)) inferInstance (by kernel_rfl) (by kernel_rfl) (by kernel_rfl) (by kernel_rfl) rfl rfl (Wanted.plain rfl) (Val.of rfl) ?_
    refine DR.take 5 rfl (by repeat (first | exact List.nil_sublist _ | exact List.Sublist.refl _ | apply List.Sublist.cons_cons | apply List.Sublist.cons | apply Go.Vc.subApp)) inferInstance (by kernel_rfl) (by kernel_rfl) (by kernel_rfl) (by kernel_rfl) rfl rfl (Wanted.plain rfl) (Val.of rfl) ?_
    refine DR.take 6 rfl (by repeat (first | exact List.nil_sublist _ | exact List.Sublist.refl _ | apply List.Sublist.cons_cons | apply List.Sublist.cons | apply Go.Vc.subApp)) inferInstance (by kernel_rfl) (by kernel_rfl) (by kernel_rfl) (by kernel_rfl) rfl rfl (Wanted.plain rfl) (Val.ixS tabOk 0 (ad' := ⟨bp, 0, none⟩) rfl rfl rfl rfl rfl rfl rfl (by decide) rfl) ?_
    refine DR.take 7 rfl (by repeat (first | exact List.nil_sublist _ | exact List.Sublist.refl _ | apply List.Sublist.cons_cons | apply List.Sublist.cons | apply Go.Vc.subApp)) inferInstance (by kernel_rfl) (by kernel_rfl) (by kernel_rfl) (by kernel_rfl) rfl rfl (Wanted.plain rfl) (Val.fieldAddr tabOk rfl rfl rfl rfl rfl rfl rfl rfl) ?_
    refine DR.take 8 rfl (by repeat (first | exact List.nil_sublist _ | exact List.Sublist.refl _ | apply List.Sublist.cons_cons | apply List.Sublist.cons | apply Go.Vc.subApp)) inferInstance (by kernel_rfl) (by kernel_rfl) (by kernel_rfl) (by kernel_rfl) rfl rfl (Wanted.plain rfl) (Val.loadR (cs := sc) tabOk rfl rfl rfl rfl (by rw [hz1]; rfl) (Rd.row (off := 1) m0 hz6)) ?_
    refine DR.take 9 rfl (by repeat (first | exact List.nil_sublist _ | exact List.Sublist.refl _ | apply List.Sublist.cons_cons | apply List.Sublist.cons | apply Go.Vc.subApp)) inferInstance (by kernel_rfl) (by kernel_rfl) (by kernel_rfl) (by kernel_rfl) rfl rfl (Wanted.plain rfl) (Val.buildS tabOk (parts := [(0, .tmp 42), (1, .tmp 46)]) (vs := [.int .i64 k, .agg sc.toArray]) (cells := (Value.int .i64 k :: sc).toArray) rfl rfl rfl rfl rfl (fill_two rfl rfl rfl (by rw [show (Value.agg sc.toArray).cells = sc.toArray from rfl, List.size_toArray, hz1]; rfl) (by kernel_rfl))) ?_
    refine DR.two (i := 2) (j := 10) (by kernel_rfl) ?_ ?_
    · refine DOp.op rfl (Wanted.plain rfl) (OpTo.new rfl rfl (New.buildSlice tabOk (parts := [(0, .tmp 39)]) (cells := (i64L [(x : Int)]).toArray) rfl rfl rfl rfl rfl rfl (fillS_full 1 1 _ [Value.int .i64 x] rfl (by simp [Value.cells])))) (.inl fun _ => by repeat (first | exact List.nil_sublist _ | exact List.Sublist.refl _ | apply List.Sublist.cons_cons | apply List.Sublist.cons | apply Go.Vc.subApp)) ?_
      intro b40
      refine DR.two (i := 3) (j := 10) (by kernel_rfl) ?_ ?_
      · refine DOp.op rfl (Wanted.plain rfl) (OpTo.callMk Tryd.func26 rfl rfl rfl rfl rfl rfl (fun w' hm => hS1 _ _ w' (SrcW.row (e := 3) (b := b40) (fz := (0, 0)) hm (by repeat (first | exact List.mem_cons_self | apply List.mem_cons_of_mem | apply List.mem_append_right)) rfl (Nat.le_refl 1)) .nil)) (.inl fun _ => (by repeat (first | exact List.nil_sublist _ | exact List.Sublist.refl _ | apply List.Sublist.cons_cons | apply List.Sublist.cons | apply Go.Vc.subApp))) ?_
        rintro ⟨⟨v41, bl41⟩, hown41⟩
        dsimp only at hown41 ⊢
        refine DR.one (i := 10) (by kernel_rfl) ?_
        refine DOp.op rfl (Wanted.plain rfl) (OpTo.new rfl rfl (New.buildSlice tabOk (parts := [(0, .tmp 47)]) (cells := (Value.int .i64 k :: sc).toArray) rfl rfl rfl rfl rfl rfl ((fillS_full 282 1 _ [.agg (Value.int .i64 k :: sc).toArray] rfl (by intro v hv; rw [List.mem_singleton] at hv; subst hv; rw [show (Value.agg (Value.int .i64 k :: sc).toArray).cells = (Value.int .i64 k :: sc).toArray from rfl, List.size_toArray, hz4])).trans (by simp [Value.cells])))) (.inl fun _ => by repeat (first | exact List.nil_sublist _ | exact List.Sublist.refl _ | apply List.Sublist.cons_cons | apply List.Sublist.cons | apply Go.Vc.subApp)) ?_
        intro b48
        refine DR.one (i := 11) (by kernel_rfl) (DOp.op rfl (Wanted.plain rfl) (OpTo.append tabOk hown41 (Src.at ⟨b48, 0, none⟩ 1 1 (Value.int .i64 k :: sc) (by rw [hz4]; rfl) (Rd.rowAll (by repeat (first | exact List.mem_cons_self | apply List.mem_cons_of_mem | apply List.mem_append_right)))) rfl rfl rfl rfl rfl rfl rfl rfl rfl (List.perm_append_comm_assoc [_] bl41 _) hz5 (by unfold maxLen; decide) (by simp only [ti60]; decide)) (.inl fun _ => (by repeat (first | exact List.nil_sublist _ | exact List.Sublist.refl _ | apply List.Sublist.cons_cons | apply List.Sublist.cons | apply Go.Vc.subApp))) ?_)
        rintro ⟨⟨v49, bl49⟩, hown49⟩
        dsimp only at hown49 ⊢
        refine DR.take 12 rfl (by repeat (first | exact List.nil_sublist _ | exact List.Sublist.refl _ | apply List.Sublist.cons_cons | apply List.Sublist.cons | apply Go.Vc.subApp)) inferInstance (by kernel_rfl) (by kernel_rfl) (by kernel_rfl) (by kernel_rfl) rfl rfl (Wanted.plain rfl) (Val.of rfl) ?_
        refine DR.done (by kernel_rfl) ?_
        exact RQ.to ⟨(v49, bl49), hown49⟩ ⟨rfl, rfl, rfl, rfl, rfl, rfl, rfl, trivial⟩ (List.Sublist.append (List.Sublist.refl _) (List.Sublist.cons _ (List.Sublist.cons _ (List.Sublist.cons_cons _ (List.Sublist.cons _ (List.Sublist.refl _))))))
      · refine DOp.op rfl (Wanted.plain rfl) (OpTo.new rfl rfl (New.buildSlice tabOk (parts := [(0, .tmp 47)]) (cells := (Value.int .i64 k :: sc).toArray) rfl rfl rfl rfl rfl rfl ((fillS_full 282 1 _ [.agg (Value.int .i64 k :: sc).toArray] rfl (by intro v hv; rw [List.mem_singleton] at hv; subst hv; rw [show (Value.agg (Value.int .i64 k :: sc).toArray).cells = (Value.int .i64 k :: sc).toArray from rfl, List.size_toArray, hz4])).trans (by simp [Value.cells])))) (.inl fun _ => by repeat (first | exact List.nil_sublist _ | exact List.Sublist.refl _ | apply List.Sublist.cons_cons | apply List.Sublist.cons | apply Go.Vc.subApp)) ?_
        intro b48
        refine DR.one (i := 3) (by kernel_rfl) ?_
        refine DOp.op rfl (Wanted.plain rfl) (OpTo.callMk Tryd.func26 rfl rfl rfl rfl rfl rfl (fun w' hm => hS1 _ _ w' (SrcW.row (e := 3) (b := b40) (fz := (0, 0)) hm (by repeat (first | exact List.mem_cons_self | apply List.mem_cons_of_mem | apply List.mem_append_right)) rfl (Nat.le_refl 1)) .nil)) (.inl fun _ => (by repeat (first | exact List.nil_sublist _ | exact List.Sublist.refl _ | apply List.Sublist.cons_cons | apply List.Sublist.cons | apply Go.Vc.subApp))) ?_
        rintro ⟨⟨v41, bl41⟩, hown41⟩
        dsimp only at hown41 ⊢
        refine DR.one (i := 11) (by kernel_rfl) (DOp.op rfl (Wanted.plain rfl) (OpTo.append tabOk hown41 (Src.at ⟨b48, 0, none⟩ 1 1 (Value.int .i64 k :: sc) (by rw [hz4]; rfl) (Rd.rowAll (by repeat (first | exact List.mem_cons_self | apply List.mem_cons_of_mem | apply List.mem_append_right)))) rfl rfl rfl rfl rfl rfl rfl rfl rfl (List.Perm.refl _) hz5 (by unfold maxLen; decide) (by simp only [ti60]; decide)) (.inl fun _ => (by repeat (first | exact List.nil_sublist _ | exact List.Sublist.refl _ | apply List.Sublist.cons_cons | apply List.Sublist.cons | apply Go.Vc.subApp))) ?_)
        rintro ⟨⟨v49, bl49⟩, hown49⟩
        dsimp only at hown49 ⊢
        refine DR.take 12 rfl (by repeat (first | exact List.nil_sublist _ | exact List.Sublist.refl _ | apply List.Sublist.cons_cons | apply List.Sublist.cons | apply Go.Vc.subApp)) inferInstance (by kernel_rfl) (by kernel_rfl) (by kernel_rfl) (by kernel_rfl) rfl rfl (Wanted.plain rfl) (Val.of rfl) ?_
        refine DR.done (by kernel_rfl) ?_
        exact RQ.to ⟨(v49, bl49), hown49⟩ ⟨rfl, rfl, rfl, rfl, rfl, rfl, rfl, trivial⟩ (List.Sublist.append (List.Sublist.refl _) (List.Sublist.cons _ (List.Sublist.cons _ (List.Sublist.cons_cons _ (List.Sublist.cons _ (List.Sublist.refl _))))))
    · refine DOp.op rfl (Wanted.plain rfl) (OpTo.new rfl rfl (New.buildSlice tabOk (parts := [(0, .tmp 47)]) (cells := (Value.int .i64 k :: sc).toArray) rfl rfl rfl rfl rfl rfl ((fillS_full 282 1 _ [.agg (Value.int .i64 k :: sc).toArray] rfl (by intro v hv; rw [List.mem_singleton] at hv; subst hv; rw [show (Value.agg (Value.int .i64 k :: sc).toArray).cells = (Value.int .i64 k :: sc).toArray from rfl, List.size_toArray, hz4])).trans (by simp [Value.cells])))) (.inl fun _ => by repeat (first | exact List.nil_sublist _ | exact List.Sublist.refl _ | apply List.Sublist.cons_cons | apply List.Sublist.cons | apply Go.Vc.subApp)) ?_
      intro b48
      refine DR.one (i := 2) (by kernel_rfl) ?_
      refine DOp.op rfl (Wanted.plain rfl) (OpTo.new rfl rfl (New.buildSlice tabOk (parts := [(0, .tmp 39)]) (cells := (i64L [(x : Int)]).toArray) rfl rfl rfl rfl rfl rfl (fillS_full 1 1 _ [Value.int .i64 x] rfl (by simp [Value.cells])))) (.inl fun _ => by repeat (first | exact List.nil_sublist _ | exact List.Sublist.refl _ | apply List.Sublist.cons_cons | apply List.Sublist.cons | apply Go.Vc.subApp)) ?_
      intro b40
      refine DR.one (i := 3) (by kernel_rfl) ?_
      refine DOp.op rfl (Wanted.plain rfl) (OpTo.callMk Tryd.func26 rfl rfl rfl rfl rfl rfl (fun w' hm => hS1 _ _ w' (SrcW.row (e := 3) (b := b40) (fz := (0, 0)) hm (by repeat (first | exact List.mem_cons_self | apply List.mem_cons_of_mem | apply List.mem_append_right)) rfl (Nat.le_refl 1)) .nil)) (.inl fun _ => (by repeat (first | exact List.nil_sublist _ | exact List.Sublist.refl _ | apply List.Sublist.cons_cons | apply List.Sublist.cons | apply Go.Vc.subApp))) ?_
      rintro ⟨⟨v41, bl41⟩, hown41⟩
      dsimp only at hown41 ⊢
      refine DR.one (i := 11) (by kernel_rfl) (DOp.op rfl (Wanted.plain rfl) (OpTo.append tabOk hown41 (Src.at ⟨b48, 0, none⟩ 1 1 (Value.int .i64 k :: sc) (by rw [hz4]; rfl) (Rd.rowAll (by repeat (first | exact List.mem_cons_self | apply List.mem_cons_of_mem | apply List.mem_append_right)))) rfl rfl rfl rfl rfl rfl rfl rfl rfl (List.Perm.refl _) hz5 (by unfold maxLen; decide) (by simp only [ti60]; decide)) (.inl fun _ => (by repeat (first | exact List.nil_sublist _ | exact List.Sublist.refl _ | apply List.Sublist.cons_cons | apply List.Sublist.cons | apply Go.Vc.subApp))) ?_)
      rintro ⟨⟨v49, bl49⟩, hown49⟩
      dsimp only at hown49 ⊢
      refine DR.take 12 rfl (by repeat (first | exact List.nil_sublist _ | exact List.Sublist.refl _ | apply List.Sublist.cons_cons | apply List.Sublist.cons | apply Go.Vc.subApp)) inferInstance (by kernel_rfl) (by kernel_rfl) (by kernel_rfl) (by kernel_rfl) rfl rfl (Wanted.plain rfl) (Val.of rfl) ?_
      refine DR.done (by kernel_rfl) ?_
      exact RQ.to ⟨(v49, bl49), hown49⟩ ⟨rfl, rfl, rfl, rfl, rfl, rfl, rfl, trivial⟩ (List.Sublist.append (List.Sublist.refl _) (List.Sublist.cons _ (List.Sublist.cons _ (List.Sublist.cons_cons _ (List.Sublist.cons _ (List.Sublist.refl _))))))
  rintro ⟨⟨v13, bl13⟩, hown13⟩
  dsimp only at hown13 ⊢
  (repeat refine RC.seq ?_); refine RC.region ?_
  refine Run.v rfl rfl rfl (Val.of rfl) ?_
  refine Run.nil (RQ.next ?_)
  (repeat refine RC.seq ?_)
  refine RC.thenCut (Y := Unit) (fun _ => [(52, .bool (decide (x = y))), (14, .int .i64 2), (13, v13), (12, .slice (some ⟨bp, 0, none⟩) 2 cap), (8, .pointer (some ⟨b8, 0, none⟩)), (9, .pointer (some ⟨b9, 0, none⟩)), (10, .int .i64 x), (11, .int .i64 y)])
    (fun _ => bl13 ++ ((bp, .cells (s2 ++ rst).toArray 60 (0, 0)) :: (b9, .cells (u8s m).toArray 23 (0, 0)) :: (b8, .cells (prm 4 2 1 (.slice ka k kc)).toArray 47 (0, 0)) :: (bl ++ []))) ?_ (fun _ => ?_)
  · refine RC.region ?_
    refine Run.v rfl rfl rfl (Val.of rfl) ?_
    refine Run.v rfl rfl rfl (Val.of rfl) ?_
    refine Run.v rfl rfl rfl (Val.eq (Val.of rfl) (show _ = Value.bool (decide (x = y)) from congrArg Value.bool (by rw [Bool.eq_iff_iff, beq_iff_eq, decide_eq_true_iff]; omega))) ?_
    exact Run.nil (RQ.to () ⟨rfl, rfl, rfl, rfl, rfl, rfl, rfl, rfl, trivial⟩ (List.Sublist.refl _))
  (repeat refine RC.seq ?_)
  refine RC.thenCut (Y := Unit) (fun _ => [(14, .int .i64 ((if x = y then 1 else 2 : Nat) : Int)), (13, v13), (12, .slice (some ⟨bp, 0, none⟩) 2 cap), (8, .pointer (some ⟨b8, 0, none⟩)), (9, .pointer (some ⟨b9, 0, none⟩)), (10, .int .i64 x), (11, .int .i64 y)])
    (fun _ => bl13 ++ ((bp, .cells (s2 ++ rst).toArray 60 (0, 0)) :: (b9, .cells (u8s m).toArray 23 (0, 0)) :: (b8, .cells (prm 4 2 1 (.slice ka k kc)).toArray 47 (0, 0)) :: (bl ++ []))) ?_ (fun _ => ?_)
  · refine RC.cond rfl (fun h => ?_) (fun h => ?_)
    · rw [if_pos (of_decide_eq_true h)]
      (repeat refine RC.seq ?_); refine RC.region ?_
      refine Run.v rfl rfl rfl (Val.of rfl) ?_
      exact Run.nil (RQ.to () ⟨rfl, rfl, rfl, rfl, rfl, rfl, rfl, trivial⟩ (List.Sublist.refl _))
    · rw [if_neg (of_decide_eq_false h)]
      exact RC.skip (RQ.to () ⟨rfl, rfl, rfl, rfl, rfl, rfl, rfl, trivial⟩ (List.Sublist.refl _))
  generalize (if x = y then 1 else 2 : Nat) = cn at *
  (repeat refine RC.seq ?_); refine RC.drawS mixed (N := 48) rfl ?_
  refine DR.take 0 rfl (by repeat (first | exact List.nil_sublist _ | exact List.Sublist.refl _ | apply List.Sublist.cons_cons | apply List.Sublist.cons | apply Go.Vc.subApp)) inferInstance (by kernel_rfl) (by kernel_rfl) (by kernel_rfl) (by kernel_rfl) rfl rfl (Wanted.plain rfl) (Val.loadAll tabOk rfl rfl rfl rfl (List.mem_append_right _ m2) rfl) ?_
  refine DR.take 1 rfl (by repeat (first | exact List.nil_sublist _ | exact List.Sublist.refl _ | apply List.Sublist.cons_cons | apply List.Sublist.cons | apply Go.Vc.subApp)) inferInstance (by kernel_rfl) (by kernel_rfl) (by kernel_rfl) (by kernel_rfl) rfl rfl (Wanted.plain rfl) (Val.loadU tabOk rfl rfl rfl rfl (List.mem_append_right _ m1) hm8) ?_
  refine DR.take 2 rfl (by repeat (first | exact List.nil_sublist _ | exact List.Sublist.refl _ | apply List.Sublist.cons_cons | apply List.Sublist.cons | apply Go.Vc.subApp)) inferInstance (by kernel_rfl) (by kernel_rfl) (by kernel_rfl) (by kernel_rfl) rfl rfl (Wanted.plain rfl) (Val.of rfl) ?_
  refine DR.take 4 rfl (by repeat (first | exact List.nil_sublist _ | exact List.Sublist.refl _ | apply List.Sublist.cons_cons | apply List.Sublist.cons | apply Go.Vc.subApp)) inferInstance (by kernel_rfl) (by kernel_rfl) (by kernel_rfl) (by kernel_rfl) rfl rfl (Wanted.plain rfl) (Val.of rfl) ?_
  refine DR.take 5 rfl (by repeat (first | exact List.nil_sublist _ | exact List.Sublist.refl _ | apply List.Sublist.cons_cons | apply List.Sublist.cons | apply Go.Vc.subApp)) inferInstance (by kernel_rfl) (by kernel_rfl) (by kernel_rfl) (by kernel_rfl) rfl rfl (Wanted.plain rfl) (Val.of rfl) ?_
  refine DR.take 6 rfl (by repeat (first | exact List.nil_sublist _ | exact List.Sublist.refl _ | apply List.Sublist.cons_cons | apply List.Sublist.cons | apply Go.Vc.subApp)) inferInstance (by kernel_rfl) (by kernel_rfl) (by kernel_rfl) (by kernel_rfl) rfl rfl (Wanted.plain rfl) (Val.eq (Val.of rfl) (show _ = Value.bool (decide (x < y)) from congrArg Value.bool (by rw [decide_eq_decide]; omega))) ?_
  refine DR.one (i := 3) (by kernel_rfl) ?_
  refine DOp.op rfl (Wanted.plain rfl) (OpTo.callV Tryd.func27 rfl rfl rfl rfl rfl rfl (fun w' hm => hA _ _ w' (hown.srcW (fun q hq => hm.has q (by repeat (first | exact List.mem_append_left _ hq | exact hq | apply List.mem_append_right | apply List.mem_cons_of_mem)))) (hown12.srcW (fun q hq => hm.has q (List.mem_append_right _ (by rw [List.mem_singleton] at hq; subst hq; exact m0)))) (hK.fr hm.fr (by simp)))) (.inl fun _ => (by repeat (first | exact List.nil_sublist _ | exact List.Sublist.refl _ | apply List.Sublist.cons_cons | apply List.Sublist.cons | apply Go.Vc.subApp))) (fun _ => ?_)
  refine DR.take 7 rfl (by repeat (first | exact List.nil_sublist _ | exact List.Sublist.refl _ | apply List.Sublist.cons_cons | apply List.Sublist.cons | apply Go.Vc.subApp)) inferInstance (by kernel_rfl) (by kernel_rfl) (by kernel_rfl) (by kernel_rfl) rfl rfl (Wanted.plain rfl) (Val.eq (Val.eqBool tabOk rfl rfl rfl rfl rfl) (show _ = Value.bool true from by cases decide (x < y) <;> rfl)) ?_
  refine DR.take 8 rfl (by repeat (first | exact List.nil_sublist _ | exact List.Sublist.refl _ | apply List.Sublist.cons_cons | apply List.Sublist.cons | apply Go.Vc.subApp)) inferInstance (by kernel_rfl) (by kernel_rfl) (by kernel_rfl) (by kernel_rfl) rfl rfl (Wanted.plain rfl) (Val.of rfl) ?_
  refine DR.take 9 rfl (by repeat (first | exact List.nil_sublist _ | exact List.Sublist.refl _ | apply List.Sublist.cons_cons | apply List.Sublist.cons | apply Go.Vc.subApp)) inferInstance (by kernel_rfl) (by kernel_rfl) (by kernel_rfl) (by kernel_rfl) rfl rfl (Wanted.guard rfl rfl rfl rfl) (Val.loadAll tabOk rfl rfl rfl rfl (List.mem_append_right _ m2) rfl) ?_
  refine DR.take 10 rfl (by repeat (first | exact List.nil_sublist _ | exact List.Sublist.refl _ | apply List.Sublist.cons_cons | apply List.Sublist.cons | apply Go.Vc.subApp)) inferInstance (by kernel_rfl) (by kernel_rfl) (by kernel_rfl) (by kernel_rfl) rfl rfl (Wanted.guard rfl rfl rfl rfl) (Val.loadU tabOk rfl rfl rfl rfl (List.mem_append_right _ m1) hm8) ?_
  refine DR.take 11 rfl (by repeat (first | exact List.nil_sublist _ | exact List.Sublist.refl _ | apply List.Sublist.cons_cons | apply List.Sublist.cons | apply Go.Vc.subApp)) inferInstance (by kernel_rfl) (by kernel_rfl) (by kernel_rfl) (by kernel_rfl) rfl rfl (Wanted.guard rfl rfl rfl rfl) (Val.of rfl) ?_
  refine DR.take 13 rfl (by repeat (first | exact List.nil_sublist _ | exact List.Sublist.refl _ | apply List.Sublist.cons_cons | apply List.Sublist.cons | apply Go.Vc.subApp)) inferInstance (by kernel_rfl) (by kernel_rfl) (by kernel_rfl) (by kernel_rfl) rfl rfl (Wanted.guard rfl rfl rfl rfl) (Val.of rfl) ?_
  refine DR.one (i := 12) (by kernel_rfl) ?_
  refine DOp.op rfl (Wanted.guard rfl rfl rfl rfl) (OpTo.callV Tryd.func29 rfl rfl rfl rfl rfl rfl (fun w' hm => hAc _ _ w' (hown.srcW (fun q hq => hm.has q (by repeat (first | exact List.mem_append_left _ hq | exact hq | apply List.mem_append_right | apply List.mem_cons_of_mem)))) (hown12.srcW (fun q hq => hm.has q (List.mem_append_right _ (by rw [List.mem_singleton] at hq; subst hq; exact m0)))) (hK.fr hm.fr (by simp)))) (.inl fun _ => by repeat (first | exact List.nil_sublist _ | exact List.Sublist.refl _ | apply List.Sublist.cons_cons | apply List.Sublist.cons | apply Go.Vc.subApp)) (fun _ => ?_)
  refine DR.take 14 rfl (by repeat (first | exact List.nil_sublist _ | exact List.Sublist.refl _ | apply List.Sublist.cons_cons | apply List.Sublist.cons | apply Go.Vc.subApp)) inferInstance (by kernel_rfl) (by kernel_rfl) (by kernel_rfl) (by kernel_rfl) rfl rfl (Wanted.guard rfl rfl rfl rfl) (Val.eq (Val.of rfl) (show _ = Value.bool true from congrArg Value.bool (by simp))) ?_
  refine DR.take 15 rfl (by repeat (first | exact List.nil_sublist _ | exact List.Sublist.refl _ | apply List.Sublist.cons_cons | apply List.Sublist.cons | apply Go.Vc.subApp)) inferInstance (by kernel_rfl) (by kernel_rfl) (by kernel_rfl) (by kernel_rfl) rfl rfl (Wanted.plain rfl) (Val.of rfl) ?_
  refine DR.take 16 rfl (by repeat (first | exact List.nil_sublist _ | exact List.Sublist.refl _ | apply List.Sublist.cons_cons | apply List.Sublist.cons | apply Go.Vc.subApp)) inferInstance (by kernel_rfl) (by kernel_rfl) (by kernel_rfl) (by kernel_rfl) rfl rfl (Wanted.plain rfl) (Val.of rfl) ?_
  refine DR.take 17 rfl (by repeat (first | exact List.nil_sublist _ | exact List.Sublist.refl _ | apply List.Sublist.cons_cons | apply List.Sublist.cons | apply Go.Vc.subApp)) inferInstance (by kernel_rfl) (by kernel_rfl) (by kernel_rfl) (by kernel_rfl) rfl rfl (Wanted.guard rfl rfl rfl rfl) (Val.loadAll tabOk rfl rfl rfl rfl (List.mem_append_right _ m2) rfl) ?_
  refine DR.take 18 rfl (by repeat (first | exact List.nil_sublist _ | exact List.Sublist.refl _ | apply List.Sublist.cons_cons | apply List.Sublist.cons | apply Go.Vc.subApp)) inferInstance (by kernel_rfl) (by kernel_rfl) (by kernel_rfl) (by kernel_rfl) rfl rfl (Wanted.guard rfl rfl rfl rfl) (Val.loadU tabOk rfl rfl rfl rfl (List.mem_append_right _ m1) hm8) ?_
  refine DR.take 19 rfl (by repeat (first | exact List.nil_sublist _ | exact List.Sublist.refl _ | apply List.Sublist.cons_cons | apply List.Sublist.cons | apply Go.Vc.subApp)) inferInstance (by kernel_rfl) (by kernel_rfl) (by kernel_rfl) (by kernel_rfl) rfl rfl (Wanted.guard rfl rfl rfl rfl) (Val.of rfl) ?_
  refine DR.one (i := 20) (by kernel_rfl) ?_
  refine DOp.op rfl (Wanted.guard rfl rfl rfl rfl) (OpTo.callV Tryd.func27 rfl rfl rfl rfl rfl rfl (fun w' hm => hB _ _ w' (hown.srcW (fun q hq => hm.has q (by repeat (first | exact List.mem_append_left _ hq | exact hq | apply List.mem_append_right | apply List.mem_cons_of_mem)))) (hown13.srcW (fun q hq => hm.has q (by repeat (first | exact List.mem_append_left _ hq | exact hq | apply List.mem_append_right | apply List.mem_cons_of_mem)))) (hK.fr hm.fr (by simp)))) (.inl fun _ => by repeat (first | exact List.nil_sublist _ | exact List.Sublist.refl _ | apply List.Sublist.cons_cons | apply List.Sublist.cons | apply Go.Vc.subApp)) (fun _ => ?_)
  refine DR.take 21 rfl (by repeat (first | exact List.nil_sublist _ | exact List.Sublist.refl _ | apply List.Sublist.cons_cons | apply List.Sublist.cons | apply Go.Vc.subApp)) inferInstance (by kernel_rfl) (by kernel_rfl) (by kernel_rfl) (by kernel_rfl) rfl rfl (Wanted.guard rfl rfl rfl rfl) (Val.of rfl) ?_
  refine DR.take 22 rfl (by repeat (first | exact List.nil_sublist _ | exact List.Sublist.refl _ | apply List.Sublist.cons_cons | apply List.Sublist.cons | apply Go.Vc.subApp)) inferInstance (by kernel_rfl) (by kernel_rfl) (by kernel_rfl) (by kernel_rfl) rfl rfl (Wanted.plain rfl) (Val.of rfl) ?_
  refine DR.take 23 rfl (by repeat (first | exact List.nil_sublist _ | exact List.Sublist.refl _ | apply List.Sublist.cons_cons | apply List.Sublist.cons | apply Go.Vc.subApp)) inferInstance (by kernel_rfl) (by kernel_rfl) (by kernel_rfl) (by kernel_rfl) rfl rfl (Wanted.plain rfl) (Val.of rfl) ?_
  refine DR.take 24 rfl (by repeat (first | exact List.nil_sublist _ | exact List.Sublist.refl _ | apply List.Sublist.cons_cons | apply List.Sublist.cons | apply Go.Vc.subApp)) inferInstance (by kernel_rfl) (by kernel_rfl) (by kernel_rfl) (by kernel_rfl) rfl rfl (Wanted.guard rfl rfl rfl rfl) (Val.loadAll tabOk rfl rfl rfl rfl (List.mem_append_right _ m2) rfl) ?_
  refine DR.take 25 rfl (by repeat (first | exact List.nil_sublist _ | exact List.Sublist.refl _ | apply List.Sublist.cons_cons | apply List.Sublist.cons | apply Go.Vc.subApp)) inferInstance (by kernel_rfl) (by kernel_rfl) (by kernel_rfl) (by kernel_rfl) rfl rfl (Wanted.guard rfl rfl rfl rfl) (Val.loadU tabOk rfl rfl rfl rfl (List.mem_append_right _ m1) hm8) ?_
  refine DR.take 26 rfl (by repeat (first | exact List.nil_sublist _ | exact List.Sublist.refl _ | apply List.Sublist.cons_cons | apply List.Sublist.cons | apply Go.Vc.subApp)) inferInstance (by kernel_rfl) (by kernel_rfl) (by kernel_rfl) (by kernel_rfl) rfl rfl (Wanted.guard rfl rfl rfl rfl) (Val.of rfl) ?_
  refine DR.one (i := 27) (by kernel_rfl) ?_
  refine DOp.op rfl (Wanted.guard rfl rfl rfl rfl) (OpTo.callV Tryd.func29 rfl rfl rfl rfl rfl rfl (fun w' hm => hBc _ _ w' (hown.srcW (fun q hq => hm.has q (by repeat (first | exact List.mem_append_left _ hq | exact hq | apply List.mem_append_right | apply List.mem_cons_of_mem)))) (hown13.srcW (fun q hq => hm.has q (by repeat (first | exact List.mem_append_left _ hq | exact hq | apply List.mem_append_right | apply List.mem_cons_of_mem)))) (hK.fr hm.fr (by simp)))) (.inl fun _ => by repeat (first | exact List.nil_sublist _ | exact List.Sublist.refl _ | apply List.Sublist.cons_cons | apply List.Sublist.cons | apply Go.Vc.subApp)) (fun _ => ?_)
  refine DR.take 28 rfl (by repeat (first | exact List.nil_sublist _ | exact List.Sublist.refl _ | apply List.Sublist.cons_cons | apply List.Sublist.cons | apply Go.Vc.subApp)) inferInstance (by kernel_rfl) (by kernel_rfl) (by kernel_rfl) (by kernel_rfl) rfl rfl (Wanted.guard rfl rfl rfl rfl) (Val.of rfl) ?_
  refine DR.take 29 rfl (by repeat (first | exact List.nil_sublist _ | exact List.Sublist.refl _ | apply List.Sublist.cons_cons | apply List.Sublist.cons | apply Go.Vc.subApp)) inferInstance (by kernel_rfl) (by kernel_rfl) (by kernel_rfl) (by kernel_rfl) rfl rfl (Wanted.plain rfl) (Val.of rfl) ?_
  refine DR.take 30 rfl (by repeat (first | exact List.nil_sublist _ | exact List.Sublist.refl _ | apply List.Sublist.cons_cons | apply List.Sublist.cons | apply Go.Vc.subApp)) inferInstance (by kernel_rfl) (by kernel_rfl) (by kernel_rfl) (by kernel_rfl) rfl rfl (Wanted.plain rfl) (Val.of rfl) ?_
  refine DR.take 31 rfl (by repeat (first | exact List.nil_sublist _ | exact List.Sublist.refl _ | apply List.Sublist.cons_cons | apply List.Sublist.cons | apply Go.Vc.subApp)) inferInstance (by kernel_rfl) (by kernel_rfl) (by kernel_rfl) (by kernel_rfl) rfl rfl (Wanted.guard rfl rfl rfl rfl) (Val.loadAll tabOk rfl rfl rfl rfl (List.mem_append_right _ m2) rfl) ?_
  refine DR.take 32 rfl (by repeat (first | exact List.nil_sublist _ | exact List.Sublist.refl _ | apply List.Sublist.cons_cons | apply List.Sublist.cons | apply Go.Vc.subApp)) inferInstance (by kernel_rfl) (by kernel_rfl) (by kernel_rfl) (by kernel_rfl) rfl rfl (Wanted.guard rfl rfl rfl rfl) (Val.loadU tabOk rfl rfl rfl rfl (List.mem_append_right _ m1) hm8) ?_
  refine DR.one (i := 33) (by kernel_rfl) ?_
  refine DOp.op rfl (Wanted.guard rfl rfl rfl rfl) (OpTo.callV Tryd.func27 rfl rfl rfl rfl rfl rfl (fun w' hm => hN _ _ w' (hown.srcW (fun q hq => hm.has q (by repeat (first | exact List.mem_append_left _ hq | exact hq | apply List.mem_append_right | apply List.mem_cons_of_mem)))) .nil (hK.fr hm.fr (by simp)))) (.inl fun _ => by repeat (first | exact List.nil_sublist _ | exact List.Sublist.refl _ | apply List.Sublist.cons_cons | apply List.Sublist.cons | apply Go.Vc.subApp)) (fun _ => ?_)
  refine DR.take 34 rfl (by repeat (first | exact List.nil_sublist _ | exact List.Sublist.refl _ | apply List.Sublist.cons_cons | apply List.Sublist.cons | apply Go.Vc.subApp)) inferInstance (by kernel_rfl) (by kernel_rfl) (by kernel_rfl) (by kernel_rfl) rfl rfl (Wanted.guard rfl rfl rfl rfl) (Val.of rfl) ?_
  refine DR.take 35 rfl (by repeat (first | exact List.nil_sublist _ | exact List.Sublist.refl _ | apply List.Sublist.cons_cons | apply List.Sublist.cons | apply Go.Vc.subApp)) inferInstance (by kernel_rfl) (by kernel_rfl) (by kernel_rfl) (by kernel_rfl) rfl rfl (Wanted.plain rfl) (Val.of rfl) ?_
  refine DR.take 36 rfl (by repeat (first | exact List.nil_sublist _ | exact List.Sublist.refl _ | apply List.Sublist.cons_cons | apply List.Sublist.cons | apply Go.Vc.subApp)) inferInstance (by kernel_rfl) (by kernel_rfl) (by kernel_rfl) (by kernel_rfl) rfl rfl (Wanted.plain rfl) (Val.of rfl) ?_
  refine DR.take 37 rfl (by repeat (first | exact List.nil_sublist _ | exact List.Sublist.refl _ | apply List.Sublist.cons_cons | apply List.Sublist.cons | apply Go.Vc.subApp)) inferInstance (by kernel_rfl) (by kernel_rfl) (by kernel_rfl) (by kernel_rfl) rfl rfl (Wanted.guard rfl rfl rfl rfl) (Val.loadAll tabOk rfl rfl rfl rfl (List.mem_append_right _ m2) rfl) ?_
  refine DR.take 38 rfl (by repeat (first | exact List.nil_sublist _ | exact List.Sublist.refl _ | apply List.Sublist.cons_cons | apply List.Sublist.cons | apply Go.Vc.subApp)) inferInstance (by kernel_rfl) (by kernel_rfl) (by kernel_rfl) (by kernel_rfl) rfl rfl (Wanted.guard rfl rfl rfl rfl) (Val.loadU tabOk rfl rfl rfl rfl (List.mem_append_right _ m1) hm8) ?_
  refine DR.take 40 rfl (by repeat (first | exact List.nil_sublist _ | exact List.Sublist.refl _ | apply List.Sublist.cons_cons | apply List.Sublist.cons | apply Go.Vc.subApp)) inferInstance (by kernel_rfl) (by kernel_rfl) (by kernel_rfl) (by kernel_rfl) rfl rfl (Wanted.guard rfl rfl rfl rfl) (Val.of rfl) ?_
  refine DR.take 42 rfl (by repeat (first | exact List.nil_sublist _ | exact List.Sublist.refl _ | apply List.Sublist.cons_cons | apply List.Sublist.cons | apply Go.Vc.subApp)) inferInstance (by kernel_rfl) (by kernel_rfl) (by kernel_rfl) (by kernel_rfl) rfl rfl (Wanted.guard rfl rfl rfl rfl) (Val.of rfl) ?_
  refine DR.one (i := 39) (by kernel_rfl) (DOp.op rfl (Wanted.guard rfl rfl rfl rfl) (OpTo.new rfl rfl (New.buildSlice tabOk (parts := []) (cells := #[]) rfl rfl rfl rfl rfl rfl (fillS_nil _ _))) (.inl fun _ => (by repeat (first | exact List.nil_sublist _ | exact List.Sublist.refl _ | apply List.Sublist.cons_cons | apply List.Sublist.cons | apply Go.Vc.subApp))) ?_)
  intro b92
  have hown92 : Own 60 282 (.slice (some ⟨b92, 0, none⟩) 0 0) 0 [] [(b92, .cells #[] 60 (0, 0))] := Own.row b92 0 0 [] [] rfl rfl (Nat.le_refl _) (by unfold maxLen; decide)
  refine DR.one (i := 41) (by kernel_rfl) (DOp.op rfl (Wanted.guard rfl rfl rfl rfl) (OpTo.append tabOk hown92 (hown12.src (fun q hq => List.mem_cons_of_mem _ (List.mem_append_right _ (by rw [List.mem_singleton] at hq; subst hq; exact m0)))) rfl rfl rfl rfl rfl rfl rfl rfl rfl (List.Perm.refl _) hone2 (by unfold maxLen; decide) (by simp only [ti60]; decide)) (.inl fun _ => (by repeat (first | exact List.nil_sublist _ | exact List.Sublist.refl _ | apply List.Sublist.cons_cons | apply List.Sublist.cons | apply Go.Vc.subApp))) ?_)
  rintro ⟨⟨v94, bl94⟩, hown94⟩
  dsimp only at hown94 ⊢
  refine DR.one (i := 43) (by kernel_rfl) (DOp.op rfl (Wanted.guard rfl rfl rfl rfl) (OpTo.append tabOk hown94 (hown12.src (fun q hq => List.mem_append_right _ (List.mem_append_right _ (by rw [List.mem_singleton] at hq; subst hq; exact m0)))) rfl rfl rfl rfl rfl rfl rfl rfl rfl (List.Perm.refl _) hone2 (by unfold maxLen; decide) (by simp only [ti60]; decide)) (.inl fun _ => (by repeat (first | exact List.nil_sublist _ | exact List.Sublist.refl _ | apply List.Sublist.cons_cons | apply List.Sublist.cons | apply Go.Vc.subApp))) ?_)
  rintro ⟨⟨v96, bl96⟩, hown96⟩
  dsimp only at hown96 ⊢
  rw [List.nil_append] at hown96
  refine DR.one (i := 44) (by kernel_rfl) ?_
  refine DOp.op rfl (Wanted.guard rfl rfl rfl rfl) (OpTo.callV Tryd.func27 rfl rfl rfl rfl rfl rfl (fun w' hm => hW _ _ w' (hown.srcW (fun q hq => hm.has q (by repeat (first | exact List.mem_append_left _ hq | exact hq | apply List.mem_append_right | apply List.mem_cons_of_mem)))) (hown96.srcW (fun q hq => hm.has q (by repeat (first | exact List.mem_append_left _ hq | exact hq | apply List.mem_append_right | apply List.mem_cons_of_mem)))) (hK.fr hm.fr (by simp)))) (.inl fun _ => by repeat (first | exact List.nil_sublist _ | exact List.Sublist.refl _ | apply List.Sublist.cons_cons | apply List.Sublist.cons | apply Go.Vc.subApp)) (fun _ => ?_)
  refine DR.take 45 rfl (by repeat (first | exact List.nil_sublist _ | exact List.Sublist.refl _ | apply List.Sublist.cons_cons | apply List.Sublist.cons | apply Go.Vc.subApp)) inferInstance (by kernel_rfl) (by kernel_rfl) (by kernel_rfl) (by kernel_rfl) rfl rfl (Wanted.guard rfl rfl rfl rfl) (Val.of rfl) ?_
  refine DR.take 46 rfl (by repeat (first | exact List.nil_sublist _ | exact List.Sublist.refl _ | apply List.Sublist.cons_cons | apply List.Sublist.cons | apply Go.Vc.subApp)) inferInstance (by kernel_rfl) (by kernel_rfl) (by kernel_rfl) (by kernel_rfl) rfl rfl (Wanted.plain rfl) (Val.of rfl) ?_
  refine DR.take 47 rfl (by repeat (first | exact List.nil_sublist _ | exact List.Sublist.refl _ | apply List.Sublist.cons_cons | apply List.Sublist.cons | apply Go.Vc.subApp)) inferInstance (by kernel_rfl) (by kernel_rfl) (by kernel_rfl) (by kernel_rfl) rfl rfl (Wanted.plain rfl) (Val.of rfl) ?_
  refine DR.done (by kernel_rfl) (RQ.next ?_)
  refine RC.ret ?_; (repeat first | refine RQ.thenRet ?_ | refine RQ.blockRet ?_); exact RQ.ret1 rfl (Res.tmp rfl) fun w' hm => ⟨rfl, hm.fr⟩
end Go.Proofs.YtilfbomjaflbjaaDoor
