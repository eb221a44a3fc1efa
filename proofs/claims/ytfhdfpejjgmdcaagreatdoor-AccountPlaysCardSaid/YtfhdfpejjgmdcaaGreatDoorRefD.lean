/- The reference's Publics, Tree. -/
import Derived.Test.YtfhdfpejjgmdcaaGreatDoorRefB
import Derived.Test.YtfhdfpejjgmdcaaGreatDoorMerR
set_option linter.unusedSimpArgs false
set_option linter.unusedVariables false
namespace Go.Sha
/-- The first i keys of a seed's tree. -/
def pubs (seed : List Nat) (i : Nat) : List (List Nat) := (List.range i).map (pubKey seed)
theorem pubs_len (seed : List Nat) (i : Nat) : (pubs seed i).length = i := by simp [pubs]
theorem pubs_succ (seed : List Nat) (i : Nat) : pubs seed (i + 1) = pubs seed i ++ [pubKey seed i] := by simp [pubs, List.range_succ]
theorem pubKey_8 (seed : List Nat) (i : Nat) : (pubKey seed i).length = 8 ∧ ∀ x ∈ pubKey seed i, x < 256 := ⟨digest_len _ _, digest_lt _ _⟩
theorem pubs_HL (seed : List Nat) (i : Nat) : HL (pubs seed i) := by
  intro h hh
  simp only [pubs, List.mem_map] at hh
  obtain ⟨k, _, rfl⟩ := hh
  exact pubKey_8 seed k
theorem pubs_at (seed : List Nat) (n i : Nat) (h : i < n) : (pubs seed n)[i]? = some (pubKey seed i) := by simp [pubs, h]
/-- A seed's root: chapter 8. -/
def treeOf (seed : List Nat) : List Nat := mroot (pubs seed 8)
theorem treeOf_root (seed : List Nat) : rootOf (pubs seed 8) = treeOf seed := by unfold rootOf treeOf; rw [if_pos (by rw [pubs_len]; decide)]
theorem treeOf_len (seed : List Nat) : (treeOf seed).length = 8 := mroot_len _
theorem treeOf_lt (seed : List Nat) : ∀ x ∈ treeOf seed, x < 256 := mroot_lt _
end Go.Sha
namespace Go.Proofs.YtfhdfpejjgmdcaaGreatDoor
open Go Go.Vc Go.Sha

set_option maxRecDepth 10000 in set_option maxHeartbeats 4000000 in
theorem ref_Publics_calls (seed : List Nat) (hs : seed.length = 8) (hlt : ∀ x ∈ seed, x < 256) (w : World) :
    Makes Tryz.prog 30 [.agg (u8s seed).toArray] w 33 8 8 (u8s (pubs seed 8).flatten) := by
  refine enter Tryz.func30 rfl (Mem.nil w []) rfl ?_
  have c8 : (List.replicate 8 0 : List Nat).length = 8 := rfl
  have c9 : ∀ x ∈ (List.replicate 8 0 : List Nat), x < 256 := by decide
  (repeat refine RC.seq ?_); refine RC.region ?_
  refine Run.nw (New.boxA rfl rfl) ?_
  intro b1
  refine Run.a (Val.of rfl) ?_
  refine Run.nil (RQ.next ?_)
  (repeat refine RC.seq ?_); refine RC.region ?_
  refine Run.a (Val.of rfl) ?_
  refine Run.nil (RQ.next ?_)
  (repeat refine RC.seq ?_); refine RC.region ?_
  refine Run.a (Val.of rfl) ?_
  refine Run.nil (RQ.next ?_)
  (repeat refine RC.seq ?_); refine RC.block ?_
  refine RC.up 8 (D := Value × Hp) (fun i x => Own 33 8 x.1 i (u8s (pubs seed i).flatten) x.2)
    (fun i x => [(4, .int .i64 i), (3, x.1), (1, .pointer (some ⟨b1, 0, none⟩))])
    (fun i x => x.2 ++ [(b1, .cells (u8s seed).toArray 33 (0, 0))])
    0 (_, _) (Nat.zero_le _) Own.nil ⟨rfl, rfl, rfl, trivial⟩ (List.Sublist.refl _) ?_
  rintro i ⟨v3, bl3⟩ hi hown
  dsimp only at hown ⊢
  (repeat refine RC.seq ?_); refine RC.region ?_
  refine Run.a (Val.of rfl) ?_
  refine Run.a (Val.of rfl) ?_
  refine Run.nil (RQ.next ?_)
  (repeat refine RC.seq ?_); refine RC.wh rfl (fun h => RQ.next ?_) (fun h => ?_)
  · have hi' : i < 8 := by have := of_decide_eq_true h; omega
    clear h
    have hol := rowOf_len (opened_len seed i (List.replicate 8 0)) 16
    have hsl := rowOf_len (shutd_len seed i (List.replicate 8 0)) 16
    have holt := rowOf_lt (opened_lt seed i (List.replicate 8 0)) 16
    have hslt := rowOf_lt (shutd_lt seed i (List.replicate 8 0)) 16
    have pe := pubBy_signed seed i (List.replicate 8 0)
    have hsg := fun w' => ref_Sign_calls seed (List.replicate 8 0) hs hlt c8 c9 (i : Int) i (by omega) w'
    have hsu := pubs_succ seed i
    have hk8 := (pubKey_8 seed i).1
    generalize rowOf (opened seed i (List.replicate 8 0)) 16 = ro at *
    generalize rowOf (shutd seed i (List.replicate 8 0)) 16 = rs at *
    (repeat refine RC.seq ?_); refine RC.block ?_
    (repeat refine RC.seq ?_); refine RC.region ?_
    refine Run.a (Val.loadU tabOk rfl rfl rfl rfl (List.mem_append_right _ m0) hs) ?_
    refine Run.a (Val.of rfl) ?_
    refine Run.a (Val.buildA tabOk (parts := []) (cells := (u8s (List.replicate 8 0)).toArray) rfl rfl rfl rfl rfl rfl) ?_
    refine Run.callV Tryz.func62 rfl rfl rfl rfl rfl rfl rfl (fun w' _ => hsg w') ?_
    refine Run.a (Val.of rfl) ?_
    refine Run.a (Val.of rfl) ?_
    refine Run.a (Val.of rfl) ?_
    refine Run.nw (New.alloc tabOk rfl rfl) ?_
    intro b5
    refine Run.nw (New.alloc tabOk rfl rfl) ?_
    intro b6
    refine Run.op1 (OpTo.setAll tabOk rfl rfl rfl rfl rfl p1 hol rfl) (fun _ => ?_)
    refine Run.op1 (OpTo.setAll tabOk rfl rfl rfl rfl rfl p1 hsl rfl) (fun _ => ?_)
    refine Run.nil (RQ.next ?_)
    refine RC.region ?_
    refine Run.a (Val.of rfl) ?_
    refine Run.a (Val.buildA tabOk (parts := []) (cells := (u8s (List.replicate 8 0)).toArray) rfl rfl rfl rfl rfl rfl) ?_
    refine Run.a (Val.loadU tabOk rfl rfl rfl rfl m1 hol) ?_
    refine Run.a (Val.loadU tabOk rfl rfl rfl rfl m0 hsl) ?_
    refine Run.callV Tryz.func63 rfl rfl rfl rfl rfl rfl rfl (fun w' _ => ref_Public_calls (List.replicate 8 0) ro rs c8 c9 hol holt hsl hslt w') ?_
    rw [pe]
    generalize pubKey seed i = pk at *
    refine Run.nw (New.buildSlice tabOk (parts := [(0, .tmp 22)]) (cells := (u8s pk).toArray) rfl rfl rfl rfl rfl rfl (fillS_one _ _ pk hk8)) ?_
    intro b23
    refine Run.op rfl (OpTo.append tabOk hown (Src.at ⟨b23, 0, none⟩ 1 1 (u8s pk) (by rw [u8s_len, hk8]; rfl) (Rd.rowAll m0)) rfl rfl rfl rfl rfl rfl rfl rfl rfl (List.perm_append_comm_assoc [_, _, _] bl3 _) (u8s_one _) (by unfold maxLen; omega) (by simp only [ti33]; omega)) ?_
    rintro ⟨⟨v9, bl9⟩, hown9⟩
    refine Run.a (Val.of rfl) ?_
    refine Run.nil (RQ.blockNormal (RQ.next ?_))
    refine RC.region ?_
    repeat (first | refine Run.a Val.ra ?_ | refine Run.a (Val.of rfl) ?_)
    refine Run.nil (RQ.up (i + 1) (v9, bl9) (Nat.lt_succ_self _) hi' ?_ ⟨rfl, rfl, rfl, trivial⟩ (List.Sublist.append (List.Sublist.refl _) (List.Sublist.cons _ (List.Sublist.cons _ (List.Sublist.cons _ (List.Sublist.refl _))))))
    have h : Own 33 8 v9 (i + 1) _ bl9 := hown9
    rw [← u8s_app] at h
    rw [hsu]
    simpa [List.flatten_append] using h
  · have hi' : i = 8 := by have := of_decide_eq_false h; omega
    subst hi'
    (repeat refine RQ.thenExit ?_); refine RQ.blockHere ?_
    refine RQ.next ?_
    (repeat refine RC.seq ?_); refine RC.region ?_
    refine Run.a (Val.of rfl) ?_
    refine Run.a (Val.of rfl) ?_
    refine Run.nil (RQ.next ?_)
    refine RC.ret ?_; (repeat first | refine RQ.thenRet ?_ | refine RQ.blockRet ?_)
    exact RQ.ret1 rfl (Res.tmp rfl) fun w' hm => Makes.of hown hm

set_option maxRecDepth 10000 in set_option maxHeartbeats 4000000 in
theorem ref_Tree_calls (seed : List Nat) (hs : seed.length = 8) (hlt : ∀ x ∈ seed, x < 256) (w : World) :
    Gives Tryz.prog 6 [.agg (u8s seed).toArray] (.agg (u8s (treeOf seed)).toArray) w := by
  refine enter Tryz.func6 rfl (Mem.nil w []) rfl ?_
  have hR := ref_Root_calls _ (pubs seed 8) rfl (pubs_HL seed 8)
  have htl := treeOf_len seed
  rw [treeOf_root, pubs_len] at hR
  (repeat refine RC.seq ?_); refine RC.region ?_
  refine Run.nw (New.boxA rfl rfl) ?_
  intro b1
  refine Run.nw (New.alloc tabOk rfl rfl) ?_
  intro b2
  refine Run.nil (RQ.next ?_)
  (repeat refine RC.seq ?_); refine RC.region ?_
  refine Run.a (Val.loadU tabOk rfl rfl rfl rfl (by repeat (first | exact List.mem_cons_self | apply List.mem_cons_of_mem | apply List.mem_append_right)) hs) ?_
  refine Run.op rfl (OpTo.callMk Tryz.func30 rfl rfl rfl rfl rfl rfl (fun w' _ => ref_Publics_calls seed hs hlt w')) ?_
  rintro ⟨⟨v4, bl4⟩, hown⟩
  dsimp only at hown ⊢
  refine Run.callV Tryz.func29 rfl rfl rfl rfl rfl rfl rfl (fun w' hm => hR v4 w' (hown.srcW (fun q hq => hm.has q (List.mem_append_left _ hq)))) ?_
  generalize treeOf seed = dg at *
  refine Run.op1 (OpTo.setAll tabOk rfl rfl rfl rfl rfl List.perm_middle htl rfl) (fun _ => ?_)
  refine Run.nil (RQ.next ?_)
  refine RC.ret ?_; (repeat first | refine RQ.thenRet ?_ | refine RQ.blockRet ?_)
  exact RQ.ret1 rfl (Res.cellU tabOk rfl rfl rfl m0 htl) fun w' hm => ⟨rfl, hm.fr⟩
end Go.Proofs.YtfhdfpejjgmdcaaGreatDoor
