/- keytree: New, Root, Sign. -/
import Derived.Test.YtilfbomjaflbjaaDoorKtA
namespace Go.Sha
open Go
/-- A tree's cells while its first i keys are there. -/
def kp (k : Nat) : Value := .pointer (some ⟨k, 0, none⟩)
def tCells (seed : List Nat) (ks : List Nat) (i : Nat) : List Value := ks.map kp ++ (List.replicate (8 - i) (Value.pointer none) ++ (u8s (pubs seed i).flatten ++ u8s (List.replicate ((8 - i) * 8) 0)))
theorem tCells_key (seed ks : List Nat) (i k : Nat) (hi : i < 8) : tCells seed ks i = ks.map kp ++ [Value.pointer none] ++ (List.replicate (8 - (i + 1)) (Value.pointer none) ++ (u8s (pubs seed i).flatten ++ u8s (List.replicate ((8 - i) * 8) 0))) ∧
    ks.map kp ++ [kp k] ++ (List.replicate (8 - (i + 1)) (Value.pointer none) ++ (u8s (pubs seed i).flatten ++ u8s (List.replicate ((8 - i) * 8) 0))) =
      ((ks ++ [k]).map kp ++ List.replicate (8 - (i + 1)) (Value.pointer none) ++ u8s (pubs seed i).flatten) ++ u8s (List.replicate 8 0) ++ u8s (List.replicate ((8 - (i + 1)) * 8) 0) := by
  refine ⟨?_, ?_⟩
  · unfold tCells
    rw [show 8 - i = (8 - (i + 1)) + 1 by omega, List.replicate_succ]
    simp only [List.append_assoc, List.cons_append, List.nil_append]
  · have e : List.replicate ((8 - i) * 8) 0 = List.replicate 8 0 ++ List.replicate ((8 - (i + 1)) * 8) 0 := by
      rw [List.replicate_append_replicate]; congr 1; omega
    rw [e, u8s_app]
    simp only [List.map_append, List.map_cons, List.map_nil, List.append_assoc, List.cons_append, List.nil_append]
theorem tCells_next (seed ks : List Nat) (i k : Nat) : ((ks ++ [k]).map kp ++ List.replicate (8 - (i + 1)) (Value.pointer none) ++ u8s (pubs seed i).flatten) ++ u8s (pubKey seed i) ++ u8s (List.replicate ((8 - (i + 1)) * 8) 0) = tCells seed (ks ++ [k]) (i + 1) := by
  unfold tCells
  rw [pubs_succ, List.flatten_append, u8s_app]
  simp only [List.flatten_cons, List.flatten_nil, List.append_nil, List.append_assoc]
theorem tCells_all (seed ks : List Nat) : tCells seed ks 8 = ks.map kp ++ u8s (pubs seed 8).flatten := by
  unfold tCells
  rw [Nat.sub_self, Nat.zero_mul, List.replicate_zero, List.replicate_zero, List.nil_append, show u8s [] = [] from rfl, List.append_nil]
end Go.Sha
namespace Go.Vc
open Go Go.Sha
theorem TreeW.row {key tree : TypeId} {w : World} {tb : Nat} {seed : List Nat} (h : TreeW key tree w tb seed) : SrcW w 8 (.slice (some ⟨tb, 8, none⟩) 8 8) (pubs seed 8).length (u8s (pubs seed 8).flatten) := by
  obtain ⟨ks, h1, h2, _⟩ := h
  rw [pubs_len]
  refine .at _ _ _ _ (by rw [u8s_len, (pubs_HL seed 8).len, pubs_len]) (Nat.le_refl _) fun j u hj => ?_
  rw [add_lit, cell_of_row w tb (8 + j) _ _ _ h2, List.getElem?_toArray, List.getElem?_append_right (by simp [h1])]
  simpa [h1] using hj
theorem TreeW.key {key tree : TypeId} {w : World} {tb : Nat} {seed : List Nat} (h : TreeW key tree w tb seed) {i : Nat} (hi : i < 8) : ∃ k, w.cell? ⟨tb, i, none⟩ = some (.pointer (some ⟨k, 0, none⟩)) ∧ w.heap[k]? = some (Obj.cells (u8s (rowOf (secs seed i) 16)).toArray key (0, 0)) := by
  obtain ⟨ks, h1, h2, h3⟩ := h
  obtain ⟨k, hk⟩ : ∃ k, ks[i]? = some k := ⟨_, List.getElem?_eq_getElem (by omega)⟩
  refine ⟨k, ?_, h3 i k hk⟩
  rw [cell_of_row w tb i _ _ _ h2, List.getElem?_toArray, List.getElem?_append_left (by simp [h1]; omega), List.getElem?_map, hk]
  rfl
end Go.Vc
namespace Go.Proofs.YtilfbomjaflbjaaDoor
open Go Go.Vc Go.Sha

set_option maxRecDepth 10000 in
theorem New_calls (seed : List Nat) (hs : seed.length = 8) (hlt : ∀ x ∈ seed, x < 256) (w : World) (hK : Laid w) :
    MakesT Tryd.prog 88 65 12 [.agg (u8s seed).toArray] w seed := by
  refine enter Tryd.func12 rfl (Mem.nil w []) rfl ?_
  (repeat refine RC.seq ?_); refine RC.region ?_
  refine Run.mk rfl rfl rfl (New.boxA rfl rfl) ?_
  intro b1
  refine Run.v rfl rfl rfl (Val.of rfl) ?_
  refine Run.nil (RQ.next ?_)
  (repeat refine RC.seq ?_); refine RC.region ?_
  refine Run.v rfl rfl rfl (Val.buildS tabOk (parts := []) (cells := (tCells seed [] 0).toArray) rfl rfl rfl rfl rfl (by kernel_rfl)) ?_
  refine Run.mk rfl rfl rfl (New.boxA rfl rfl) ?_
  intro tb
  refine Run.v rfl rfl rfl (Val.of rfl) ?_
  refine Run.nil (RQ.next ?_)
  (repeat refine RC.seq ?_); refine RC.region ?_
  refine Run.v rfl rfl rfl (Val.of rfl) ?_
  refine Run.nil (RQ.next ?_)
  (repeat refine RC.seq ?_); refine RC.block ?_
  refine RC.up 8 (D := List Nat × Hp) (fun i x => x.1.length = i ∧ ∀ j k, x.1[j]? = some k → (k, Obj.cells (u8s (rowOf (secs seed j) 16)).toArray 88 (0, 0)) ∈ x.2)
    (fun i _ => [(7, .int .i64 i), (3, .pointer (some ⟨tb, 0, none⟩)), (1, .pointer (some ⟨b1, 0, none⟩))])
    (fun i x => (tb, .cells (tCells seed x.1 i).toArray 65 (0, 0)) :: (x.2 ++ [(b1, .cells (u8s seed).toArray 23 (0, 0))]))
    0 ([], []) (Nat.zero_le _) ⟨rfl, fun j k h => by simp at h⟩ ⟨rfl, rfl, rfl, trivial⟩ (List.Sublist.refl _) ?_
  rintro i ⟨ks, bl⟩ hi ⟨hlen, hin⟩
  dsimp only at hlen hin ⊢
  (repeat refine RC.seq ?_); refine RC.region ?_
  refine Run.v rfl rfl rfl (Val.of rfl) ?_
  refine Run.nil (RQ.next ?_)
  (repeat refine RC.seq ?_); refine RC.wh rfl (fun h => RQ.next ?_) (fun h => ?_)
  · have hi' : i < 8 := by have := of_decide_eq_true h; omega
    clear h
    have hk8 := (pubKey_8 seed i).1
    have hmk := fun w' hK' => Make_calls seed hs hlt (i : Int) i (by omega) w' hK'
    (repeat refine RC.seq ?_); refine RC.block ?_
    (repeat refine RC.seq ?_); refine RC.region ?_
    refine Run.v rfl rfl rfl (Val.of rfl) ?_
    refine Run.v rfl rfl rfl (Val.of rfl) ?_
    refine Run.nil (RQ.next ?_)
    (repeat refine RC.seq ?_); refine RC.drawS mixed (N := 9) rfl ?_
    refine DR.take 0 rfl (by repeat (first | exact List.nil_sublist _ | exact List.Sublist.refl _ | apply List.Sublist.cons_cons | apply List.Sublist.cons)) inferInstance (by kernel_rfl) (by kernel_rfl) (by kernel_rfl) (by kernel_rfl) rfl rfl (Wanted.plain rfl) (Val.of rfl) ?_
    refine DR.take 1 rfl (by repeat (first | exact List.nil_sublist _ | exact List.Sublist.refl _ | apply List.Sublist.cons_cons | apply List.Sublist.cons)) inferInstance (by kernel_rfl) (by kernel_rfl) (by kernel_rfl) (by kernel_rfl) rfl rfl (Wanted.plain rfl) (Val.of rfl) ?_
    refine DR.take 2 rfl (by repeat (first | exact List.nil_sublist _ | exact List.Sublist.refl _ | apply List.Sublist.cons_cons | apply List.Sublist.cons)) inferInstance (by kernel_rfl) (by kernel_rfl) (by kernel_rfl) (by kernel_rfl) rfl rfl (Wanted.plain rfl) (Val.loadU tabOk rfl rfl rfl rfl (List.mem_cons_of_mem _ (List.mem_append_right _ m0)) hs) ?_
    refine DR.take 3 rfl (by repeat (first | exact List.nil_sublist _ | exact List.Sublist.refl _ | apply List.Sublist.cons_cons | apply List.Sublist.cons)) inferInstance (by kernel_rfl) (by kernel_rfl) (by kernel_rfl) (by kernel_rfl) rfl rfl (Wanted.plain rfl) (Val.of rfl) ?_
    refine DR.take 5 rfl (by repeat (first | exact List.nil_sublist _ | exact List.Sublist.refl _ | apply List.Sublist.cons_cons | apply List.Sublist.cons)) inferInstance (by kernel_rfl) (by kernel_rfl) (by kernel_rfl) (by kernel_rfl) rfl rfl (Wanted.plain rfl) (Val.of rfl) ?_
    refine DR.take 6 rfl (by repeat (first | exact List.nil_sublist _ | exact List.Sublist.refl _ | apply List.Sublist.cons_cons | apply List.Sublist.cons)) inferInstance (by kernel_rfl) (by kernel_rfl) (by kernel_rfl) (by kernel_rfl) rfl rfl (Wanted.plain rfl) (Val.fieldAddr tabOk rfl rfl rfl rfl rfl rfl rfl rfl) ?_
    refine DR.one (i := 4) (by kernel_rfl) (DOp.op rfl (Wanted.plain rfl) (OpTo.callNew Tryd.func31 rfl rfl rfl rfl rfl rfl (fun w' hm => hmk w' (hK.fr hm.fr (by simp)))) (.inl fun _ => (by repeat (first | exact List.nil_sublist _ | exact List.Sublist.refl _ | apply List.Sublist.cons_cons | apply List.Sublist.cons))) ?_)
    intro kb
    refine DR.take 7 rfl (by repeat (first | exact List.nil_sublist _ | exact List.Sublist.refl _ | apply List.Sublist.cons_cons | apply List.Sublist.cons)) inferInstance (by kernel_rfl) (by kernel_rfl) (by kernel_rfl) (by kernel_rfl) rfl rfl (Wanted.plain rfl) (Val.ix tabOk i (off' := i) rfl rfl rfl rfl rfl rfl rfl hi' (by simp [ti61])) ?_
    obtain ⟨c1, c2⟩ := tCells_key seed ks i kb hi'
    refine DR.one (i := 8) (by kernel_rfl) ?_
    refine DOp.op rfl (Wanted.plain rfl) (OpTo.setV tabOk (ks.map kp) [.pointer none] [kp kb] (List.replicate (8 - (i + 1)) (Value.pointer none) ++ (u8s (pubs seed i).flatten ++ u8s (List.replicate ((8 - i) * 8) 0))) rfl rfl rfl rfl rfl p1 rfl c1 (by simp [hlen]) rfl rfl (fun u hu => by rw [List.mem_singleton] at hu; subst hu; rfl)) (.inr (by kernel_rfl)) (fun _ => ?_)
    refine DR.done (by kernel_rfl) (RQ.next ?_)
    rw [c2]
    have hat : (((ks ++ [kb]).map kp ++ List.replicate (8 - (i + 1)) (Value.pointer none) ++ u8s (pubs seed i).flatten) ++ u8s (List.replicate 8 0) ++ u8s (List.replicate ((8 - (i + 1)) * 8) 0)).toArray[i]? = some (.pointer (some ⟨kb, 0, none⟩)) := by
      rw [List.getElem?_toArray]
      simp only [List.append_assoc, List.map_append]
      rw [List.getElem?_append_right (by simp [hlen])]
      simp [hlen, kp]
    (repeat refine RC.seq ?_); refine RC.drawS mixed (N := 13) rfl ?_
    refine DR.take 0 rfl (by repeat (first | exact List.nil_sublist _ | exact List.Sublist.refl _ | apply List.Sublist.cons_cons | apply List.Sublist.cons)) inferInstance (by kernel_rfl) (by kernel_rfl) (by kernel_rfl) (by kernel_rfl) rfl rfl (Wanted.plain rfl) (Val.of rfl) ?_
    refine DR.take 1 rfl (by repeat (first | exact List.nil_sublist _ | exact List.Sublist.refl _ | apply List.Sublist.cons_cons | apply List.Sublist.cons)) inferInstance (by kernel_rfl) (by kernel_rfl) (by kernel_rfl) (by kernel_rfl) rfl rfl (Wanted.plain rfl) (Val.of rfl) ?_
    refine DR.take 2 rfl (by repeat (first | exact List.nil_sublist _ | exact List.Sublist.refl _ | apply List.Sublist.cons_cons | apply List.Sublist.cons)) inferInstance (by kernel_rfl) (by kernel_rfl) (by kernel_rfl) (by kernel_rfl) rfl rfl (Wanted.plain rfl) (Val.of rfl) ?_
    refine DR.take 3 rfl (by repeat (first | exact List.nil_sublist _ | exact List.Sublist.refl _ | apply List.Sublist.cons_cons | apply List.Sublist.cons)) inferInstance (by kernel_rfl) (by kernel_rfl) (by kernel_rfl) (by kernel_rfl) rfl rfl (Wanted.plain rfl) (Val.of rfl) ?_
    refine DR.take 4 rfl (by repeat (first | exact List.nil_sublist _ | exact List.Sublist.refl _ | apply List.Sublist.cons_cons | apply List.Sublist.cons)) inferInstance (by kernel_rfl) (by kernel_rfl) (by kernel_rfl) (by kernel_rfl) rfl rfl (Wanted.plain rfl) (Val.of rfl) ?_
    refine DR.take 5 rfl (by repeat (first | exact List.nil_sublist _ | exact List.Sublist.refl _ | apply List.Sublist.cons_cons | apply List.Sublist.cons)) inferInstance (by kernel_rfl) (by kernel_rfl) (by kernel_rfl) (by kernel_rfl) rfl rfl (Wanted.plain rfl) (Val.fieldAddr tabOk rfl rfl rfl rfl rfl rfl rfl rfl) ?_
    refine DR.take 6 rfl (by repeat (first | exact List.nil_sublist _ | exact List.Sublist.refl _ | apply List.Sublist.cons_cons | apply List.Sublist.cons)) inferInstance (by kernel_rfl) (by kernel_rfl) (by kernel_rfl) (by kernel_rfl) rfl rfl (Wanted.plain rfl) (Val.ix tabOk i (off' := i) rfl rfl rfl rfl rfl rfl rfl hi' (by simp [ti61])) ?_
    refine DR.take 7 rfl (by repeat (first | exact List.nil_sublist _ | exact List.Sublist.refl _ | apply List.Sublist.cons_cons | apply List.Sublist.cons)) inferInstance (by kernel_rfl) (by kernel_rfl) (by kernel_rfl) (by kernel_rfl) rfl rfl (Wanted.plain rfl) (Val.load (v := .pointer (some ⟨kb, 0, none⟩)) tabOk rfl rfl rfl m0 hat) ?_
    refine DR.take 9 rfl (by repeat (first | exact List.nil_sublist _ | exact List.Sublist.refl _ | apply List.Sublist.cons_cons | apply List.Sublist.cons)) inferInstance (by kernel_rfl) (by kernel_rfl) (by kernel_rfl) (by kernel_rfl) rfl rfl (Wanted.plain rfl) (Val.of rfl) ?_
    refine DR.take 10 rfl (by repeat (first | exact List.nil_sublist _ | exact List.Sublist.refl _ | apply List.Sublist.cons_cons | apply List.Sublist.cons)) inferInstance (by kernel_rfl) (by kernel_rfl) (by kernel_rfl) (by kernel_rfl) rfl rfl (Wanted.plain rfl) (Val.fieldAddr tabOk rfl rfl rfl rfl rfl rfl rfl rfl) ?_
    refine DR.one (i := 8) (by kernel_rfl) ?_
    refine DOp.op rfl (Wanted.plain rfl) (OpTo.callV Tryd.func32 rfl rfl rfl rfl rfl rfl (fun w' hm => Key_Public_calls kb seed i w' (hK.fr hm.fr (by simp)) (hm.has (kb, _) m1))) (.inl fun _ => (by repeat (first | exact List.nil_sublist _ | exact List.Sublist.refl _ | apply List.Sublist.cons_cons | apply List.Sublist.cons))) (fun _ => ?_)
    refine DR.take 11 rfl (by repeat (first | exact List.nil_sublist _ | exact List.Sublist.refl _ | apply List.Sublist.cons_cons | apply List.Sublist.cons)) inferInstance (by kernel_rfl) (by kernel_rfl) (by kernel_rfl) (by kernel_rfl) rfl rfl (Wanted.plain rfl) (Val.ix tabOk i (off' := 8 + i * 8) rfl rfl rfl rfl rfl rfl rfl hi' (by simp [ti23])) ?_
    refine DR.one (i := 12) (by kernel_rfl) ?_
    refine DOp.op rfl (Wanted.plain rfl) (OpTo.setV tabOk ((ks ++ [kb]).map kp ++ List.replicate (8 - (i + 1)) (Value.pointer none) ++ u8s (pubs seed i).flatten) (u8s (List.replicate 8 0)) (u8s (pubKey seed i)) (u8s (List.replicate ((8 - (i + 1)) * 8) 0)) rfl rfl rfl rfl rfl (List.Perm.refl _) rfl rfl (by simp [u8s_len, (pubs_HL seed i).len, pubs_len, hlen]; omega) (by simp [u8s_len, hk8]) (by rw [u8s_len, hk8]; rfl) (u8s_one _)) (.inr (by kernel_rfl)) (fun _ => ?_)
    rw [tCells_next]
    refine DR.done (by kernel_rfl) (RQ.blockNormal (RQ.next ?_))
    refine RC.region ?_
    repeat (first | refine Run.v rfl rfl rfl (Val.ar rfl rfl rfl rfl (by dsimp only [inK]; omega)) ?_ | refine Run.v rfl rfl rfl (Val.of rfl) ?_)
    refine Run.nil (RQ.up (i + 1) (ks ++ [kb], (kb, _) :: bl) (Nat.lt_succ_self _) hi' ⟨by simp [hlen], fun j k hk => ?_⟩ ⟨rfl, rfl, rfl, trivial⟩ (List.Sublist.refl _))
    dsimp only at hk ⊢
    rw [List.getElem?_append] at hk
    split at hk
    · exact List.mem_cons_of_mem _ (hin j k hk)
    · rename_i hj
      have : j = i := by
        have := (List.getElem?_eq_some_iff.1 hk).1
        simp at this
        omega
      subst this
      rw [hlen, Nat.sub_self] at hk
      cases hk
      exact m0
  · have hi' : i = 8 := by have := of_decide_eq_false h; omega
    subst hi'
    rw [tCells_all]
    (repeat refine RQ.thenExit ?_); refine RQ.blockHere ?_
    refine RQ.next ?_
    (repeat refine RC.seq ?_); refine RC.region ?_
    refine Run.v rfl rfl rfl (Val.of rfl) ?_
    refine Run.v rfl rfl rfl (Val.of rfl) ?_
    refine Run.nil (RQ.next ?_)
    refine RC.ret ?_; (repeat first | refine RQ.thenRet ?_ | refine RQ.blockRet ?_)
    refine RQ.ret1 rfl (Res.tmp rfl) fun w' hm => ⟨tb, (tb, .cells (ks.map kp ++ u8s (pubs seed 8).flatten).toArray 65 (0, 0)) :: bl, rfl, fun w2 h2 => ⟨ks, hlen, h2 _ m0, fun j k hk => h2 _ (List.mem_cons_of_mem _ (hin j k hk))⟩, hm.fr, fun p hp => ?_, ?_⟩
    · have hp' : p ∈ (tb, Obj.cells (ks.map kp ++ u8s (pubs seed 8).flatten).toArray 65 (0, 0)) :: (bl ++ [(b1, .cells (u8s seed).toArray 23 (0, 0))]) := by
        rcases List.mem_cons.1 hp with rfl | hp
        · exact m0
        · exact List.mem_cons_of_mem _ (List.mem_append_left _ hp)
      exact ⟨hm.has p hp', (hm.own p hp').resolve_right (by simp)⟩
    · have := hm.nd
      rw [List.map_cons, List.map_append] at this
      rw [List.map_cons]
      exact this.sublist (List.Sublist.cons_cons _ (List.sublist_append_left _ _))

set_option maxRecDepth 10000 in
theorem Tree_Root_calls (tb : Nat) (seed : List Nat) (w : World) (hT : TreeW 88 65 w tb seed) (hK : Laid w) :
    Gives Tryd.prog 15 [.pointer (some ⟨tb, 0, none⟩)] (.agg (u8s (treeOf seed)).toArray) w := by
  refine enter Tryd.func15 rfl (Mem.nil w []) rfl ?_
  have hR := Root_calls _ (pubs seed 8) rfl (pubs_HL seed 8)
  have htl := treeOf_len seed
  have hrow := hT.row
  rw [treeOf_root] at hR
  (repeat refine RC.seq ?_); refine RC.region ?_
  refine Run.mk rfl rfl rfl (New.alloc tabOk rfl rfl) ?_
  intro b2
  refine Run.nil (RQ.next ?_)
  (repeat refine RC.seq ?_); refine RC.region ?_
  refine Run.v rfl rfl rfl (Val.of rfl) ?_
  refine Run.v rfl rfl rfl (Val.ptrNil tabOk rfl rfl rfl rfl rfl) ?_
  refine Run.nil (RQ.next ?_)
  (repeat refine RC.seq ?_); refine RC.condF rfl rfl (RC.skip (RQ.next ?_))
  (repeat refine RC.seq ?_); refine RC.region ?_
  refine Run.v rfl rfl rfl (Val.of rfl) ?_
  refine Run.v rfl rfl rfl (Val.of rfl) ?_
  refine Run.v rfl rfl rfl (Val.fieldAddr tabOk rfl rfl rfl rfl rfl rfl rfl rfl) ?_
  refine Run.v rfl rfl rfl (Val.sliceA tabOk rfl rfl rfl rfl rfl) ?_
  refine Run.callV Tryd.func38 rfl rfl rfl rfl rfl rfl rfl (fun w' hm => hR _ w' (hrow.mem hm) (hK.fr hm.fr (by simp))) ?_
  generalize treeOf seed = dg at *
  refine Run.op rfl (OpTo.setAll tabOk rfl rfl rfl rfl rfl (List.Perm.refl _) htl rfl) (fun _ => ?_)
  refine Run.nil (RQ.next ?_)
  refine RC.ret ?_; (repeat first | refine RQ.thenRet ?_ | refine RQ.blockRet ?_)
  exact RQ.ret1 rfl (Res.cellU tabOk rfl rfl rfl m0 htl) fun w' hm => ⟨rfl, hm.fr⟩

set_option maxRecDepth 10000 in
theorem Tree_Sign_calls (tb : Nat) (seed m : List Nat) (hm8 : m.length = 8) (hmlt : ∀ x ∈ m, x < 256) (z : Int) (w : World) (hT : TreeW 88 65 w tb seed) (hK : Laid w) :
    Gives Tryd.prog 13 [.pointer (some ⟨tb, 0, none⟩), .int .i64 z, .agg (u8s m).toArray] (.tuple #[.agg (sgN seed z m).toArray, .bool (sgB z)]) w := by
  refine enter Tryd.func13 rfl (Mem.nil w []) rfl ?_
  (repeat refine RC.seq ?_); refine RC.region ?_
  refine Run.mk rfl rfl rfl (New.boxA rfl rfl) ?_
  intro b5
  refine Run.mk rfl rfl rfl (New.allocTo tabOk (cs := sgz.toArray) rfl rfl (by kernel_rfl)) ?_
  intro b6
  refine Run.v rfl rfl rfl (Val.of rfl) ?_
  refine Run.nil (RQ.next ?_)
  by_cases hA : z < 0
  · obtain ⟨e1, e2⟩ := sg_bad seed m (z := z) (.inl hA)
    rw [e1, e2]
    (repeat refine RC.seq ?_); refine RC.region ?_
    refine Run.v rfl rfl rfl (Val.of rfl) ?_
    refine Run.v rfl rfl rfl (Val.ptrNil tabOk rfl rfl rfl rfl rfl) ?_
    refine Run.v rfl rfl rfl (Val.of rfl) ?_
    refine Run.vG (Wanted.guard rfl rfl rfl rfl) rfl rfl (Val.of rfl) ?_
    refine Run.vG (Wanted.guard rfl rfl rfl rfl) rfl rfl (Val.eq (Val.of rfl) (show _ = Value.bool true from congrArg Value.bool (decide_eq_true (by omega)))) ?_
    refine Run.v rfl rfl rfl (Val.of rfl) ?_
    refine Run.v rfl rfl rfl (Val.of rfl) ?_
    refine Run.skipG (Wanted.guard rfl rfl rfl rfl) rfl rfl ?_
    refine Run.skipG (Wanted.guard rfl rfl rfl rfl) rfl rfl ?_
    refine Run.v rfl rfl rfl (Val.of rfl) ?_
    refine Run.nil (RQ.next ?_)
    (repeat refine RC.seq ?_); refine RC.condT rfl rfl ?_
    (repeat refine RC.seq ?_); refine RC.region ?_
    refine Run.v rfl rfl rfl (Val.buildS tabOk (parts := []) (cells := sgz.toArray) rfl rfl rfl rfl rfl (by kernel_rfl)) ?_
    refine Run.op rfl (OpTo.setV tabOk [] sgz sgz [] rfl rfl rfl rfl rfl (List.Perm.refl _) rfl (by simp) rfl rfl rfl sigC_one) (fun _ => ?_)
    rw [List.nil_append, List.append_nil]
    refine Run.v rfl rfl rfl (Val.of rfl) ?_
    refine Run.nil (RQ.next ?_)
    refine RC.ret ?_; (repeat first | refine RQ.thenRet ?_ | refine RQ.blockRet ?_)
    exact RQ.ret2 rfl (Res.cellAll tabOk rfl rfl rfl m0 (by rw [List.size_toArray, sgz_len]; rfl)) (Res.tmp rfl) fun w' hm => ⟨rfl, hm.fr⟩
  by_cases hB : 8 ≤ z
  · obtain ⟨e1, e2⟩ := sg_bad seed m (z := z) (.inr hB)
    rw [e1, e2]
    (repeat refine RC.seq ?_); refine RC.region ?_
    refine Run.v rfl rfl rfl (Val.of rfl) ?_
    refine Run.v rfl rfl rfl (Val.ptrNil tabOk rfl rfl rfl rfl rfl) ?_
    refine Run.v rfl rfl rfl (Val.of rfl) ?_
    refine Run.vG (Wanted.guard rfl rfl rfl rfl) rfl rfl (Val.of rfl) ?_
    refine Run.vG (Wanted.guard rfl rfl rfl rfl) rfl rfl (Val.eq (Val.of rfl) (show _ = Value.bool false from congrArg Value.bool (decide_eq_false (by omega)))) ?_
    refine Run.v rfl rfl rfl (Val.of rfl) ?_
    refine Run.v rfl rfl rfl (Val.of rfl) ?_
    refine Run.vG (Wanted.guard rfl rfl rfl rfl) rfl rfl (Val.of rfl) ?_
    refine Run.vG (Wanted.guard rfl rfl rfl rfl) rfl rfl (Val.eq (Val.of rfl) (show _ = Value.bool true from congrArg Value.bool (decide_eq_true (by omega)))) ?_
    refine Run.v rfl rfl rfl (Val.of rfl) ?_
    refine Run.nil (RQ.next ?_)
    (repeat refine RC.seq ?_); refine RC.condT rfl rfl ?_
    (repeat refine RC.seq ?_); refine RC.region ?_
    refine Run.v rfl rfl rfl (Val.buildS tabOk (parts := []) (cells := sgz.toArray) rfl rfl rfl rfl rfl (by kernel_rfl)) ?_
    refine Run.op rfl (OpTo.setV tabOk [] sgz sgz [] rfl rfl rfl rfl rfl (List.Perm.refl _) rfl (by simp) rfl rfl rfl sigC_one) (fun _ => ?_)
    rw [List.nil_append, List.append_nil]
    refine Run.v rfl rfl rfl (Val.of rfl) ?_
    refine Run.nil (RQ.next ?_)
    refine RC.ret ?_; (repeat first | refine RQ.thenRet ?_ | refine RQ.blockRet ?_)
    exact RQ.ret2 rfl (Res.cellAll tabOk rfl rfl rfl m0 (by rw [List.size_toArray, sgz_len]; rfl)) (Res.tmp rfl) fun w' hm => ⟨rfl, hm.fr⟩
  obtain ⟨i, rfl⟩ := Int.eq_ofNat_of_zero_le (show 0 ≤ z by omega)
  have hi : i < 8 := by omega
  obtain ⟨e1, e2⟩ := sg_good seed m hi
  rw [e1, e2]
  have hol := rowOf_len (opened_len seed i m) 16
  have hsl := rowOf_len (shutd_len seed i m) 16
  have hwl := wayOf_len seed hi
  have hwf := wayOf_flat seed hi
  have hsgl := sgo_len seed m hi
  have hrow := hT.row
  obtain ⟨k, hkc, hkb⟩ := hT.key hi
  obtain ⟨f1, f2⟩ := prov_good (l := pubs seed 8) (i := i) (by rw [pubs_len]; exact hi) (by rw [pubs_len]; decide)
  have hP := Prove_calls _ (pubs seed 8) rfl (pubs_HL seed 8) (i : Int)
  rw [f1, f2, show mprove (pubs seed 8) i = wayOf seed i from rfl, hwl] at hP
  have hfin : [Value.int .i64 i] ++ u8s (rowOf (opened seed i m) 16) ++ u8s (rowOf (shutd seed i m) 16) ++ u8s (wayOf seed i).flatten = sgo seed i m := by
    unfold sgo sigC
    simp only [List.append_assoc, List.cons_append, List.nil_append]
  have hsig := fun w' hK' hk' => Key_Sign_calls k seed m i hm8 hmlt w' hK' hk'
  have hone : ∀ u ∈ sgo seed i m, u.oneCell' = true := sigC_one
  generalize rowOf (opened seed i m) 16 = ro at *
  generalize rowOf (shutd seed i m) 16 = rs at *
  generalize wayOf seed i = way at *
  generalize sgo seed i m = sg at *
  (repeat refine RC.seq ?_); refine RC.region ?_
  refine Run.v rfl rfl rfl (Val.of rfl) ?_
  refine Run.v rfl rfl rfl (Val.ptrNil tabOk rfl rfl rfl rfl rfl) ?_
  refine Run.v rfl rfl rfl (Val.of rfl) ?_
  refine Run.vG (Wanted.guard rfl rfl rfl rfl) rfl rfl (Val.of rfl) ?_
  refine Run.vG (Wanted.guard rfl rfl rfl rfl) rfl rfl (Val.eq (Val.of rfl) (show _ = Value.bool false from congrArg Value.bool (decide_eq_false (by omega)))) ?_
  refine Run.v rfl rfl rfl (Val.of rfl) ?_
  refine Run.v rfl rfl rfl (Val.of rfl) ?_
  refine Run.vG (Wanted.guard rfl rfl rfl rfl) rfl rfl (Val.of rfl) ?_
  refine Run.vG (Wanted.guard rfl rfl rfl rfl) rfl rfl (Val.eq (Val.of rfl) (show _ = Value.bool false from congrArg Value.bool (decide_eq_false (by omega)))) ?_
  refine Run.v rfl rfl rfl (Val.of rfl) ?_
  refine Run.nil (RQ.next ?_)
  (repeat refine RC.seq ?_); refine RC.condF rfl rfl (RC.skip (RQ.next ?_))
  (repeat refine RC.seq ?_); refine RC.region ?_
  refine Run.v rfl rfl rfl (Val.of rfl) ?_
  refine Run.v rfl rfl rfl (Val.buildS tabOk (parts := [(0, .tmp 22)]) (vs := [.int .i64 i]) (cells := (sigC i (List.replicate 128 0) (List.replicate 128 0) (List.replicate 24 0)).toArray) rfl rfl rfl rfl rfl (by kernel_rfl)) ?_
  refine Run.mk rfl rfl rfl (New.allocTo tabOk (cs := sgz.toArray) rfl rfl (by kernel_rfl)) ?_
  intro b8
  refine Run.op rfl (OpTo.setV tabOk [] sgz (sigC i (List.replicate 128 0) (List.replicate 128 0) (List.replicate 24 0)) [] rfl rfl rfl rfl rfl (List.Perm.refl _) rfl (by simp) rfl rfl rfl sigC_one) (fun _ => ?_)
  refine Run.nil (RQ.next ?_)
  rw [List.nil_append, List.append_nil]
  (repeat refine RC.seq ?_); refine RC.draw ([(b5, .cells (u8s m).toArray 23 (0, 0))]) mixed (N := 15) rfl ?_
  refine DR.take 0 rfl (by repeat (first | exact List.nil_sublist _ | exact List.Sublist.refl _ | apply List.Sublist.cons_cons | apply List.Sublist.cons)) inferInstance (by kernel_rfl) (by kernel_rfl) (by kernel_rfl) (by kernel_rfl) rfl rfl (Wanted.plain rfl) (Val.of rfl) ?_
  refine DR.take 1 rfl (by repeat (first | exact List.nil_sublist _ | exact List.Sublist.refl _ | apply List.Sublist.cons_cons | apply List.Sublist.cons)) inferInstance (by kernel_rfl) (by kernel_rfl) (by kernel_rfl) (by kernel_rfl) rfl rfl (Wanted.plain rfl) (Val.of rfl) ?_
  refine DR.take 2 rfl (by repeat (first | exact List.nil_sublist _ | exact List.Sublist.refl _ | apply List.Sublist.cons_cons | apply List.Sublist.cons)) inferInstance (by kernel_rfl) (by kernel_rfl) (by kernel_rfl) (by kernel_rfl) rfl rfl (Wanted.plain rfl) (Val.of rfl) ?_
  refine DR.take 3 rfl (by repeat (first | exact List.nil_sublist _ | exact List.Sublist.refl _ | apply List.Sublist.cons_cons | apply List.Sublist.cons)) inferInstance (by kernel_rfl) (by kernel_rfl) (by kernel_rfl) (by kernel_rfl) rfl rfl (Wanted.plain rfl) (Val.fieldAddr tabOk rfl rfl rfl rfl rfl rfl rfl rfl) ?_
  refine DR.take 4 rfl (by repeat (first | exact List.nil_sublist _ | exact List.Sublist.refl _ | apply List.Sublist.cons_cons | apply List.Sublist.cons)) inferInstance (by kernel_rfl) (by kernel_rfl) (by kernel_rfl) (by kernel_rfl) rfl rfl (Wanted.plain rfl) (Val.ix tabOk i (off' := i) rfl rfl rfl rfl rfl rfl rfl hi (by simp [ti61])) ?_
  refine DR.take 5 rfl (by repeat (first | exact List.nil_sublist _ | exact List.Sublist.refl _ | apply List.Sublist.cons_cons | apply List.Sublist.cons)) inferInstance (by kernel_rfl) (by kernel_rfl) (by kernel_rfl) (by kernel_rfl) rfl rfl (Wanted.plain rfl) (Val.loadOld1 (v := .pointer (some ⟨k, 0, none⟩)) tabOk rfl rfl rfl rfl (by simp) hkc) ?_
  refine DR.take 6 rfl (by repeat (first | exact List.nil_sublist _ | exact List.Sublist.refl _ | apply List.Sublist.cons_cons | apply List.Sublist.cons)) inferInstance (by kernel_rfl) (by kernel_rfl) (by kernel_rfl) (by kernel_rfl) rfl rfl (Wanted.plain rfl) (Val.loadU tabOk rfl rfl rfl rfl m0 hm8) ?_
  refine DR.one (i := 7) (by kernel_rfl) ?_
  refine DOp.op rfl (Wanted.plain rfl) (OpTo.callV Tryd.func33 rfl rfl rfl rfl rfl rfl (fun w' hm => hsig w' (hK.fr hm.fr (by simp)) (hm.old hkb))) (.inl fun _ => (by repeat (first | exact List.nil_sublist _ | exact List.Sublist.refl _ | apply List.Sublist.cons_cons | apply List.Sublist.cons))) (fun _ => ?_)
  refine DR.take 8 rfl (by repeat (first | exact List.nil_sublist _ | exact List.Sublist.refl _ | apply List.Sublist.cons_cons | apply List.Sublist.cons)) inferInstance (by kernel_rfl) (by kernel_rfl) (by kernel_rfl) (by kernel_rfl) rfl rfl (Wanted.plain rfl) (Val.of rfl) ?_
  refine DR.take 9 rfl (by repeat (first | exact List.nil_sublist _ | exact List.Sublist.refl _ | apply List.Sublist.cons_cons | apply List.Sublist.cons)) inferInstance (by kernel_rfl) (by kernel_rfl) (by kernel_rfl) (by kernel_rfl) rfl rfl (Wanted.plain rfl) (Val.of rfl) ?_
  refine DR.take 10 rfl (by repeat (first | exact List.nil_sublist _ | exact List.Sublist.refl _ | apply List.Sublist.cons_cons | apply List.Sublist.cons)) inferInstance (by kernel_rfl) (by kernel_rfl) (by kernel_rfl) (by kernel_rfl) rfl rfl (Wanted.plain rfl) (Val.of rfl) ?_
  refine DR.take 11 rfl (by repeat (first | exact List.nil_sublist _ | exact List.Sublist.refl _ | apply List.Sublist.cons_cons | apply List.Sublist.cons)) inferInstance (by kernel_rfl) (by kernel_rfl) (by kernel_rfl) (by kernel_rfl) rfl rfl (Wanted.plain rfl) (Val.fieldAddr tabOk rfl rfl rfl rfl rfl rfl rfl rfl) ?_
  refine DR.one (i := 12) (by kernel_rfl) ?_
  refine DOp.op rfl (Wanted.plain rfl) (OpTo.setV tabOk [Value.int .i64 i] (u8s (List.replicate 128 0)) (u8s ro) (u8s (List.replicate 128 0) ++ u8s (List.replicate 24 0)) rfl rfl rfl rfl rfl (List.Perm.refl _) rfl rfl rfl (by simp [u8s_len, hol]) (by rw [u8s_len, hol]; rfl) (u8s_one _)) (.inl fun _ => (by repeat (first | exact List.nil_sublist _ | exact List.Sublist.refl _ | apply List.Sublist.cons_cons | apply List.Sublist.cons))) (fun _ => ?_)
  refine DR.take 13 rfl (by repeat (first | exact List.nil_sublist _ | exact List.Sublist.refl _ | apply List.Sublist.cons_cons | apply List.Sublist.cons)) inferInstance (by kernel_rfl) (by kernel_rfl) (by kernel_rfl) (by kernel_rfl) rfl rfl (Wanted.plain rfl) (Val.fieldAddr tabOk rfl rfl rfl rfl rfl rfl rfl rfl) ?_
  refine DR.one (i := 14) (by kernel_rfl) ?_
  refine DOp.op rfl (Wanted.plain rfl) (OpTo.setV tabOk ([Value.int .i64 i] ++ u8s ro) (u8s (List.replicate 128 0)) (u8s rs) (u8s (List.replicate 24 0)) rfl rfl rfl rfl rfl (List.Perm.refl _) rfl (by simp only [List.append_assoc]) (by simp [u8s_len, hol]) (by simp [u8s_len, hsl]) (by rw [u8s_len, hsl]; rfl) (u8s_one _)) (.inr (by kernel_rfl)) (fun _ => ?_)
  refine DR.done (by kernel_rfl) (RQ.next ?_)
  (repeat refine RC.seq ?_); refine RC.region ?_
  refine Run.v rfl rfl rfl (Val.of rfl) ?_
  refine Run.v rfl rfl rfl (Val.of rfl) ?_
  refine Run.v rfl rfl rfl (Val.fieldAddr tabOk rfl rfl rfl rfl rfl rfl rfl rfl) ?_
  refine Run.v rfl rfl rfl (Val.sliceA tabOk rfl rfl rfl rfl rfl) ?_
  refine Run.v rfl rfl rfl (Val.of rfl) ?_
  refine Run.op rfl (OpTo.callMk2 Tryd.func34 rfl rfl rfl rfl rfl rfl (fun w' hm => hP _ w' (hrow.mem hm) (hK.fr hm.fr (by simp)))) ?_
  rintro ⟨⟨vp, blp⟩, hownp⟩
  dsimp only at hownp ⊢
  obtain ⟨bp, cap, rest, rfl, rfl, g1, g2, g3, g4⟩ := hownp.pos (by decide)
  refine Run.v rfl rfl rfl (Val.of rfl) ?_
  refine Run.v rfl rfl rfl (Val.of rfl) ?_
  refine Run.v rfl rfl rfl (Val.of rfl) ?_
  refine Run.v rfl rfl rfl (Val.of rfl) ?_
  refine Run.v rfl rfl rfl (Val.of rfl) ?_
  refine Run.nil (RQ.next ?_)
  (repeat refine RC.seq ?_); refine RC.region ?_
  refine Run.v rfl rfl rfl (Val.fieldAddr tabOk rfl rfl rfl rfl rfl rfl rfl rfl) ?_
  refine Run.v rfl rfl rfl (Val.sliceA tabOk rfl rfl rfl rfl rfl) ?_
  refine Run.v rfl rfl rfl (Val.of rfl) ?_
  refine Run.op rfl (OpTo.copyTo tabOk (arr' := sg.toArray) (m := 3) (cs := u8s way.flatten) (ad := ⟨bp, 0, none⟩) (Rd.row (off := 0) m0 (fun j u hj => by rw [Nat.zero_add, List.getElem?_toArray, List.getElem?_append_left (List.getElem?_eq_some_iff.1 hj).1]; exact hj)) (by
    have h9 := wr_midV ([Value.int .i64 i] ++ u8s ro ++ u8s rs) (u8s (List.replicate 24 0)) (u8s way.flatten) [] (by simp [u8s_len, hwf])
    rw [List.append_nil, List.append_nil, hfin] at h9
    rw [show ([Value.int .i64 i] ++ u8s ro ++ u8s rs).length = 0 + 257 by simp [u8s_len, hol, hsl]] at h9
    exact h9) rfl rfl rfl rfl rfl rfl rfl rfl p1 (by rw [u8s_len, hwf]; rfl) rfl (by simp [u8s_len, hol, hsl, hwf]) (u8s_one _)) ?_
  intro _
  refine Run.nil (RQ.next ?_)
  (repeat refine RC.seq ?_); refine RC.region ?_
  refine Run.v rfl rfl rfl (Val.loadAll tabOk rfl rfl rfl rfl m0 (by rw [List.size_toArray, hsgl]; rfl)) ?_
  refine Run.v rfl rfl rfl (Val.of rfl) ?_
  refine Run.op rfl (OpTo.setV tabOk [] sgz sg [] rfl rfl rfl rfl rfl p2 rfl (by simp) rfl (by rw [sgz_len, hsgl]) (by rw [hsgl]; rfl) hone) (fun _ => ?_)
  rw [List.nil_append, List.append_nil]
  refine Run.v rfl rfl rfl (Val.of rfl) ?_
  refine Run.nil (RQ.next ?_)
  refine RC.ret ?_; (repeat first | refine RQ.thenRet ?_ | refine RQ.blockRet ?_)
  exact RQ.ret2 rfl (Res.cellAll tabOk rfl rfl rfl m0 (by rw [List.size_toArray, hsgl]; rfl)) (Res.tmp rfl) fun w' hm => ⟨rfl, hm.fr⟩
end Go.Proofs.YtilfbomjaflbjaaDoor
