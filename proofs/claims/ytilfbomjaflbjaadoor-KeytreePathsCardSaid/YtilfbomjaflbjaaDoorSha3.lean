/- (*hash.words).block: a block taken into a sum. -/
import Derived.Test.YtilfbomjaflbjaaDoorSha2
namespace Go.Proofs.YtilfbomjaflbjaaDoor
open Go Go.Vc Go.Sha

/-- hash.steps holds its numbers. -/
def Laid (w : World) : Prop := ∀ i, i < 64 → w.cell? ⟨0, i, none⟩ = some (.int .u32 (K.getD i 0 : Nat))
theorem Laid.fr {S : List Nat} {w w' : World} (h : Laid w) (hf : Fr S w w') (hS : 0 ∉ S) : Laid w' := fun i hi => hf.cell hS (h i hi)

theorem block_calls (b : Nat) (e : TypeId) (h : V8) (hh : h.lt) (blk : List Nat) (hl : blk.length = 64) (hb : ∀ x ∈ blk, x < 256) (a : Addr) (cap : Nat) (hcap : 64 ≤ cap) (w : World)
    (hc : ∀ j u, (u8s blk)[j]? = some u → w.cell? (a.add j) = some u) (hab : a.block ≠ b) (hgb : b ≠ 0) (hK : Laid w) (hbl : w.heap[b]? = some (.cells (u32s h.l).toArray e (0, 0))) :
    Calls Tryd.prog 73 #[.pointer (some ⟨b, 0, none⟩), .slice (some a) 64 cap] w
      fun e' w' => e' = .returned (.tuple #[]) ∧ Fr [b] w w' ∧ w'.heap[b]? = some (.cells (u32s (compress h blk).l).toArray e (0, 0)) := by
  refine enter (vs := [.pointer (some ⟨b, 0, none⟩), .slice (some a) 64 cap]) Tryd.func73 rfl (Mem.init (S0 := [b]) (L := [(b, .cells (u32s h.l).toArray e (0, 0))]) (by simpa using hbl) (by simp) (by simp)) rfl ?_
  (repeat refine RC.seq ?_); refine RC.region ?_
  refine Run.v rfl rfl rfl (Val.of rfl) ?_
  refine Run.v rfl rfl rfl (Val.of rfl) ?_
  refine Run.v rfl rfl rfl (Val.loadAll tabOk rfl rfl rfl rfl List.mem_cons_self rfl) ?_
  refine Run.mk rfl rfl rfl (New.alloc tabOk rfl rfl) ?_
  intro b1
  refine Run.storeAll tabOk rfl rfl rfl rfl rfl rfl (List.Perm.refl _) rfl rfl (fun u hu => u32s_one h.l u (by simpa [Value.cells] using hu)) ?_
  refine Run.nil (RQ.next ?_)
  (repeat refine RC.seq ?_); refine RC.region ?_
  refine Run.v rfl rfl rfl (Val.of rfl) ?_
  refine Run.callV Tryd.func76 rfl rfl rfl rfl rfl rfl rfl (fun w' hm => spread_calls blk hl hb a cap hcap w' (fun j u hj => hm.fr.cell (by rw [show (a.add j).block = a.block by unfold Addr.add; split <;> rfl]; simpa using hab) (hc j u hj))) ?_
  refine Run.v rfl rfl rfl (Val.of rfl) ?_
  refine Run.nil (RQ.next ?_)
  (repeat refine RC.seq ?_); refine RC.block ?_
  refine RC.loop (ι := Nat) (fun i => [(18, .int .i64 i), (17, .agg (u32s (W blk 64)).toArray), (4, .pointer (some ⟨b1, 0, none⟩)), (0, .pointer (some ⟨b, 0, none⟩))])
    (fun i => [(b1, .cells (u32s (rounds h (W blk 64) i).l).toArray 108 (0, 0)), (b, .cells (u32s h.l).toArray e (0, 0))]) (fun i => i ≤ 64) (fun i => 64 - i) 0 (by omega) ?_ ?_ ?_
  · exact ⟨rfl, rfl, rfl, rfl, trivial⟩
  · exact List.Perm.refl _
  · intro i hi
    (repeat refine RC.seq ?_); refine RC.region ?_
    repeat (refine Run.v rfl rfl rfl (Val.of rfl) ?_)
    refine Run.nil (RQ.next ?_)
    refine RC.while rfl (fun h' => ?_) (fun h' => ?_)
    · have hi' : i < 64 := by have := of_decide_eq_true h'; omega
      clear h'
      have hx := W_getD_lt blk hb 64 i
      have hs := V8.lts (rounds_lt hh (W blk 64) i)
      have hk := K_lt i
      have hnext : rounds h (W blk 64) (i + 1) = rnd (rounds h (W blk 64) i) (K.getD i 0) ((W blk 64).getD i 0) := rfl
      generalize rounds h (W blk 64) i = s at *
      generalize hxe : (W blk 64).getD i 0 = x at *
      generalize hke : K.getD i 0 = k at *
      obtain ⟨ha, hb', hc', hd, he, hf, hg, hh'⟩ := hs
      have hr := fun n (h0 : 0 < n) (h1 : n < 32) (y : Nat) (hy : y < 4294967296) => right_calls y n hy h0 h1
      refine RC.seqCut (Y := Unit) (fun _ => [(18, .int .i64 i), (17, .agg (u32s (W blk 64)).toArray), (4, .pointer (some ⟨b1, 0, none⟩)), (0, .pointer (some ⟨b, 0, none⟩))])
        (fun _ => [(b1, .cells (u32s (rnd s k x).l).toArray 108 (0, 0)), (b, .cells (u32s h.l).toArray e (0, 0))]) (RC.block ?_) (fun _ => ?_)
      · (repeat refine RC.seq ?_); refine RC.region ?_
        refine Run.v rfl rfl rfl (Val.of rfl) ?_
        refine Run.v rfl rfl rfl (Val.indexN tabOk i (v := .int .u32 (x : Nat)) rfl rfl rfl rfl rfl rfl rfl hi' (by rw [← hxe]; simp only [ti101, Nat.mul_one]; exact u32s_at _ _ (by rw [W_length]; exact hi'))) ?_
        repeat (refine Run.v rfl rfl rfl (Val.of rfl) ?_)
        refine Run.nil (RQ.next ?_)
        (repeat refine RC.seq ?_); refine RC.drawS mixed (N := 6) rfl ?_
        refine DR.take 0 rfl (by repeat (first | exact List.nil_sublist _ | exact List.Sublist.refl _ | apply List.Sublist.cons_cons | apply List.Sublist.cons)) inferInstance (by kernel_rfl) (by kernel_rfl) (by kernel_rfl) (by kernel_rfl) rfl rfl (Wanted.plain rfl) (Val.ix tabOk 0 (off' := 0) rfl rfl rfl rfl rfl rfl rfl (by decide) rfl) ?_
        refine DR.take 1 rfl (by repeat (first | exact List.nil_sublist _ | exact List.Sublist.refl _ | apply List.Sublist.cons_cons | apply List.Sublist.cons)) inferInstance (by kernel_rfl) (by kernel_rfl) (by kernel_rfl) (by kernel_rfl) rfl rfl (Wanted.plain rfl) (Val.load tabOk rfl rfl rfl List.mem_cons_self rfl) ?_
        refine DR.take 2 rfl (by repeat (first | exact List.nil_sublist _ | exact List.Sublist.refl _ | apply List.Sublist.cons_cons | apply List.Sublist.cons)) inferInstance (by kernel_rfl) (by kernel_rfl) (by kernel_rfl) (by kernel_rfl) rfl rfl (Wanted.plain rfl) (Val.ix tabOk 4 (off' := 4) rfl rfl rfl rfl rfl rfl rfl (by decide) rfl) ?_
        refine DR.take 3 rfl (by repeat (first | exact List.nil_sublist _ | exact List.Sublist.refl _ | apply List.Sublist.cons_cons | apply List.Sublist.cons)) inferInstance (by kernel_rfl) (by kernel_rfl) (by kernel_rfl) (by kernel_rfl) rfl rfl (Wanted.plain rfl) (Val.load tabOk rfl rfl rfl List.mem_cons_self rfl) ?_
        refine DR.take 4 rfl (by repeat (first | exact List.nil_sublist _ | exact List.Sublist.refl _ | apply List.Sublist.cons_cons | apply List.Sublist.cons)) inferInstance (by kernel_rfl) (by kernel_rfl) (by kernel_rfl) (by kernel_rfl) rfl rfl (Wanted.plain rfl) (Val.of rfl) ?_
        refine DR.take 5 rfl (by repeat (first | exact List.nil_sublist _ | exact List.Sublist.refl _ | apply List.Sublist.cons_cons | apply List.Sublist.cons)) inferInstance (by kernel_rfl) (by kernel_rfl) (by kernel_rfl) (by kernel_rfl) rfl rfl (Wanted.plain rfl) (Val.of rfl) ?_
        refine DR.done (by kernel_rfl) (RQ.next ?_)
        (repeat refine RC.seq ?_); refine RC.drawS mixed (N := 29) rfl ?_
        refine DR.take 0 rfl (by repeat (first | exact List.nil_sublist _ | exact List.Sublist.refl _ | apply List.Sublist.cons_cons | apply List.Sublist.cons)) inferInstance (by kernel_rfl) (by kernel_rfl) (by kernel_rfl) (by kernel_rfl) rfl rfl (Wanted.plain rfl) (Val.ix tabOk 7 (off' := 7) rfl rfl rfl rfl rfl rfl rfl (by decide) rfl) ?_
        refine DR.take 1 rfl (by repeat (first | exact List.nil_sublist _ | exact List.Sublist.refl _ | apply List.Sublist.cons_cons | apply List.Sublist.cons)) inferInstance (by kernel_rfl) (by kernel_rfl) (by kernel_rfl) (by kernel_rfl) rfl rfl (Wanted.plain rfl) (Val.load tabOk rfl rfl rfl List.mem_cons_self rfl) ?_
        refine DR.take 2 rfl (by repeat (first | exact List.nil_sublist _ | exact List.Sublist.refl _ | apply List.Sublist.cons_cons | apply List.Sublist.cons)) inferInstance (by kernel_rfl) (by kernel_rfl) (by kernel_rfl) (by kernel_rfl) rfl rfl (Wanted.plain rfl) (Val.of rfl) ?_
        refine DR.take 4 rfl (by repeat (first | exact List.nil_sublist _ | exact List.Sublist.refl _ | apply List.Sublist.cons_cons | apply List.Sublist.cons)) inferInstance (by kernel_rfl) (by kernel_rfl) (by kernel_rfl) (by kernel_rfl) rfl rfl (Wanted.plain rfl) (Val.of rfl) ?_
        refine DR.take 7 rfl (by repeat (first | exact List.nil_sublist _ | exact List.Sublist.refl _ | apply List.Sublist.cons_cons | apply List.Sublist.cons)) inferInstance (by kernel_rfl) (by kernel_rfl) (by kernel_rfl) (by kernel_rfl) rfl rfl (Wanted.plain rfl) (Val.of rfl) ?_
        refine DR.take 11 rfl (by repeat (first | exact List.nil_sublist _ | exact List.Sublist.refl _ | apply List.Sublist.cons_cons | apply List.Sublist.cons)) inferInstance (by kernel_rfl) (by kernel_rfl) (by kernel_rfl) (by kernel_rfl) rfl rfl (Wanted.plain rfl) (Val.of rfl) ?_
        refine DR.take 12 rfl (by repeat (first | exact List.nil_sublist _ | exact List.Sublist.refl _ | apply List.Sublist.cons_cons | apply List.Sublist.cons)) inferInstance (by kernel_rfl) (by kernel_rfl) (by kernel_rfl) (by kernel_rfl) rfl rfl (Wanted.plain rfl) (Val.ix tabOk 5 (off' := 5) rfl rfl rfl rfl rfl rfl rfl (by decide) rfl) ?_
        refine DR.take 13 rfl (by repeat (first | exact List.nil_sublist _ | exact List.Sublist.refl _ | apply List.Sublist.cons_cons | apply List.Sublist.cons)) inferInstance (by kernel_rfl) (by kernel_rfl) (by kernel_rfl) (by kernel_rfl) rfl rfl (Wanted.plain rfl) (Val.load tabOk rfl rfl rfl List.mem_cons_self rfl) ?_
        refine DR.take 14 rfl (by repeat (first | exact List.nil_sublist _ | exact List.Sublist.refl _ | apply List.Sublist.cons_cons | apply List.Sublist.cons)) inferInstance (by kernel_rfl) (by kernel_rfl) (by kernel_rfl) (by kernel_rfl) rfl rfl (Wanted.plain rfl) (Val.eq (Val.of rfl) (congrArg (Value.int .u32) (u32_and _ _ he hf))) ?_
        refine DR.take 15 rfl (by repeat (first | exact List.nil_sublist _ | exact List.Sublist.refl _ | apply List.Sublist.cons_cons | apply List.Sublist.cons)) inferInstance (by kernel_rfl) (by kernel_rfl) (by kernel_rfl) (by kernel_rfl) rfl rfl (Wanted.plain rfl) (Val.of rfl) ?_
        refine DR.take 16 rfl (by repeat (first | exact List.nil_sublist _ | exact List.Sublist.refl _ | apply List.Sublist.cons_cons | apply List.Sublist.cons)) inferInstance (by kernel_rfl) (by kernel_rfl) (by kernel_rfl) (by kernel_rfl) rfl rfl (Wanted.plain rfl) (Val.eq (Val.of rfl) (congrArg (Value.int .u32) (u32_not _ he))) ?_
        refine DR.take 17 rfl (by repeat (first | exact List.nil_sublist _ | exact List.Sublist.refl _ | apply List.Sublist.cons_cons | apply List.Sublist.cons)) inferInstance (by kernel_rfl) (by kernel_rfl) (by kernel_rfl) (by kernel_rfl) rfl rfl (Wanted.plain rfl) (Val.ix tabOk 6 (off' := 6) rfl rfl rfl rfl rfl rfl rfl (by decide) rfl) ?_
        refine DR.take 18 rfl (by repeat (first | exact List.nil_sublist _ | exact List.Sublist.refl _ | apply List.Sublist.cons_cons | apply List.Sublist.cons)) inferInstance (by kernel_rfl) (by kernel_rfl) (by kernel_rfl) (by kernel_rfl) rfl rfl (Wanted.plain rfl) (Val.load tabOk rfl rfl rfl List.mem_cons_self rfl) ?_
        refine DR.take 19 rfl (by repeat (first | exact List.nil_sublist _ | exact List.Sublist.refl _ | apply List.Sublist.cons_cons | apply List.Sublist.cons)) inferInstance (by kernel_rfl) (by kernel_rfl) (by kernel_rfl) (by kernel_rfl) rfl rfl (Wanted.plain rfl) (Val.eq (Val.of rfl) (congrArg (Value.int .u32) (u32_and _ _ (xor_lt (by decide) he) hg))) ?_
        refine DR.take 20 rfl (by repeat (first | exact List.nil_sublist _ | exact List.Sublist.refl _ | apply List.Sublist.cons_cons | apply List.Sublist.cons)) inferInstance (by kernel_rfl) (by kernel_rfl) (by kernel_rfl) (by kernel_rfl) rfl rfl (Wanted.plain rfl) (Val.eq (Val.of rfl) (congrArg (Value.int .u32) (u32_xor _ _ (and_lt he) (and_lt (xor_lt (by decide) he))))) ?_
        refine DR.take 22 rfl (by repeat (first | exact List.nil_sublist _ | exact List.Sublist.refl _ | apply List.Sublist.cons_cons | apply List.Sublist.cons)) inferInstance (by kernel_rfl) (by kernel_rfl) (by kernel_rfl) (by kernel_rfl) rfl rfl (Wanted.plain rfl) (Val.of rfl) ?_
        refine DR.take 23 rfl (by repeat (first | exact List.nil_sublist _ | exact List.Sublist.refl _ | apply List.Sublist.cons_cons | apply List.Sublist.cons)) inferInstance (by kernel_rfl) (by kernel_rfl) (by kernel_rfl) (by kernel_rfl) rfl rfl (Wanted.plain rfl) (Val.ix tabOk i (off' := i) rfl rfl rfl rfl rfl rfl rfl hi' (by simp [ti101])) ?_
        refine DR.take 24 rfl (by repeat (first | exact List.nil_sublist _ | exact List.Sublist.refl _ | apply List.Sublist.cons_cons | apply List.Sublist.cons)) inferInstance (by kernel_rfl) (by kernel_rfl) (by kernel_rfl) (by kernel_rfl) rfl rfl (Wanted.plain rfl) (Val.loadOld1 (v := .int .u32 (k : Nat)) tabOk rfl rfl rfl rfl (by simpa using Ne.symm hgb) (hke ▸ hK i hi')) ?_
        refine DR.take 26 rfl (by repeat (first | exact List.nil_sublist _ | exact List.Sublist.refl _ | apply List.Sublist.cons_cons | apply List.Sublist.cons)) inferInstance (by kernel_rfl) (by kernel_rfl) (by kernel_rfl) (by kernel_rfl) rfl rfl (Wanted.plain rfl) (Val.of rfl) ?_
        refine DR.one (i := 3) (by kernel_rfl) ?_
        refine DOp.op rfl (Wanted.plain rfl) (OpTo.callV Tryd.func77 rfl rfl rfl rfl rfl rfl (fun w _ => hr 6 (by decide) (by decide) _ he w)) (.inl fun _ => by repeat (first | exact List.nil_sublist _ | exact List.Sublist.refl _ | apply List.Sublist.cons_cons | apply List.Sublist.cons)) (fun _ => ?_)
        refine DR.one (i := 5) (by kernel_rfl) ?_
        refine DOp.op rfl (Wanted.plain rfl) (OpTo.callV Tryd.func77 rfl rfl rfl rfl rfl rfl (fun w _ => hr 11 (by decide) (by decide) _ he w)) (.inl fun _ => by repeat (first | exact List.nil_sublist _ | exact List.Sublist.refl _ | apply List.Sublist.cons_cons | apply List.Sublist.cons)) (fun _ => ?_)
        refine DR.take 6 rfl (by repeat (first | exact List.nil_sublist _ | exact List.Sublist.refl _ | apply List.Sublist.cons_cons | apply List.Sublist.cons)) inferInstance (by kernel_rfl) (by kernel_rfl) (by kernel_rfl) (by kernel_rfl) rfl rfl (Wanted.plain rfl) (Val.eq (Val.of rfl) (congrArg (Value.int .u32) (u32_xor _ _ (rotr_lt _ _ he) (rotr_lt _ _ he)))) ?_
        refine DR.one (i := 8) (by kernel_rfl) ?_
        refine DOp.op rfl (Wanted.plain rfl) (OpTo.callV Tryd.func77 rfl rfl rfl rfl rfl rfl (fun w _ => hr 25 (by decide) (by decide) _ he w)) (.inl fun _ => by repeat (first | exact List.nil_sublist _ | exact List.Sublist.refl _ | apply List.Sublist.cons_cons | apply List.Sublist.cons)) (fun _ => ?_)
        refine DR.take 9 rfl (by repeat (first | exact List.nil_sublist _ | exact List.Sublist.refl _ | apply List.Sublist.cons_cons | apply List.Sublist.cons)) inferInstance (by kernel_rfl) (by kernel_rfl) (by kernel_rfl) (by kernel_rfl) rfl rfl (Wanted.plain rfl) (Val.eq (Val.of rfl) (congrArg (Value.int .u32) (u32_xor _ _ (xor_lt (rotr_lt _ _ he) (rotr_lt _ _ he)) (rotr_lt _ _ he)))) ?_
        refine DR.take 10 rfl (by repeat (first | exact List.nil_sublist _ | exact List.Sublist.refl _ | apply List.Sublist.cons_cons | apply List.Sublist.cons)) inferInstance (by kernel_rfl) (by kernel_rfl) (by kernel_rfl) (by kernel_rfl) rfl rfl (Wanted.plain rfl) (Val.eq (Val.of rfl) (congrArg (Value.int .u32) (u32_add _ _))) ?_
        refine DR.take 21 rfl (by repeat (first | exact List.nil_sublist _ | exact List.Sublist.refl _ | apply List.Sublist.cons_cons | apply List.Sublist.cons)) inferInstance (by kernel_rfl) (by kernel_rfl) (by kernel_rfl) (by kernel_rfl) rfl rfl (Wanted.plain rfl) (Val.eq (Val.of rfl) (congrArg (Value.int .u32) (u32_add _ _))) ?_
        refine DR.take 25 rfl (by repeat (first | exact List.nil_sublist _ | exact List.Sublist.refl _ | apply List.Sublist.cons_cons | apply List.Sublist.cons)) inferInstance (by kernel_rfl) (by kernel_rfl) (by kernel_rfl) (by kernel_rfl) rfl rfl (Wanted.plain rfl) (Val.eq (Val.of rfl) (congrArg (Value.int .u32) (u32_add _ _))) ?_
        refine DR.take 27 rfl (by repeat (first | exact List.nil_sublist _ | exact List.Sublist.refl _ | apply List.Sublist.cons_cons | apply List.Sublist.cons)) inferInstance (by kernel_rfl) (by kernel_rfl) (by kernel_rfl) (by kernel_rfl) rfl rfl (Wanted.plain rfl) (Val.eq (Val.of rfl) (show _ = Value.int .u32 ((rt s k x : Nat) : Int) from congrArg (Value.int .u32) (u32_add _ _))) ?_
        refine DR.take 28 rfl (by repeat (first | exact List.nil_sublist _ | exact List.Sublist.refl _ | apply List.Sublist.cons_cons | apply List.Sublist.cons)) inferInstance (by kernel_rfl) (by kernel_rfl) (by kernel_rfl) (by kernel_rfl) rfl rfl (Wanted.plain rfl) (Val.of rfl) ?_
        refine DR.done (by kernel_rfl) (RQ.next ?_)
        (repeat refine RC.seq ?_); refine RC.drawS mixed (N := 25) rfl ?_
        refine DR.take 0 rfl (by repeat (first | exact List.nil_sublist _ | exact List.Sublist.refl _ | apply List.Sublist.cons_cons | apply List.Sublist.cons)) inferInstance (by kernel_rfl) (by kernel_rfl) (by kernel_rfl) (by kernel_rfl) rfl rfl (Wanted.plain rfl) (Val.of rfl) ?_
        refine DR.take 2 rfl (by repeat (first | exact List.nil_sublist _ | exact List.Sublist.refl _ | apply List.Sublist.cons_cons | apply List.Sublist.cons)) inferInstance (by kernel_rfl) (by kernel_rfl) (by kernel_rfl) (by kernel_rfl) rfl rfl (Wanted.plain rfl) (Val.of rfl) ?_
        refine DR.take 5 rfl (by repeat (first | exact List.nil_sublist _ | exact List.Sublist.refl _ | apply List.Sublist.cons_cons | apply List.Sublist.cons)) inferInstance (by kernel_rfl) (by kernel_rfl) (by kernel_rfl) (by kernel_rfl) rfl rfl (Wanted.plain rfl) (Val.of rfl) ?_
        refine DR.take 8 rfl (by repeat (first | exact List.nil_sublist _ | exact List.Sublist.refl _ | apply List.Sublist.cons_cons | apply List.Sublist.cons)) inferInstance (by kernel_rfl) (by kernel_rfl) (by kernel_rfl) (by kernel_rfl) rfl rfl (Wanted.plain rfl) (Val.of rfl) ?_
        refine DR.take 9 rfl (by repeat (first | exact List.nil_sublist _ | exact List.Sublist.refl _ | apply List.Sublist.cons_cons | apply List.Sublist.cons)) inferInstance (by kernel_rfl) (by kernel_rfl) (by kernel_rfl) (by kernel_rfl) rfl rfl (Wanted.plain rfl) (Val.ix tabOk 1 (off' := 1) rfl rfl rfl rfl rfl rfl rfl (by decide) rfl) ?_
        refine DR.take 10 rfl (by repeat (first | exact List.nil_sublist _ | exact List.Sublist.refl _ | apply List.Sublist.cons_cons | apply List.Sublist.cons)) inferInstance (by kernel_rfl) (by kernel_rfl) (by kernel_rfl) (by kernel_rfl) rfl rfl (Wanted.plain rfl) (Val.load tabOk rfl rfl rfl List.mem_cons_self rfl) ?_
        refine DR.take 11 rfl (by repeat (first | exact List.nil_sublist _ | exact List.Sublist.refl _ | apply List.Sublist.cons_cons | apply List.Sublist.cons)) inferInstance (by kernel_rfl) (by kernel_rfl) (by kernel_rfl) (by kernel_rfl) rfl rfl (Wanted.plain rfl) (Val.eq (Val.of rfl) (congrArg (Value.int .u32) (u32_and _ _ ha hb'))) ?_
        refine DR.take 12 rfl (by repeat (first | exact List.nil_sublist _ | exact List.Sublist.refl _ | apply List.Sublist.cons_cons | apply List.Sublist.cons)) inferInstance (by kernel_rfl) (by kernel_rfl) (by kernel_rfl) (by kernel_rfl) rfl rfl (Wanted.plain rfl) (Val.of rfl) ?_
        refine DR.take 13 rfl (by repeat (first | exact List.nil_sublist _ | exact List.Sublist.refl _ | apply List.Sublist.cons_cons | apply List.Sublist.cons)) inferInstance (by kernel_rfl) (by kernel_rfl) (by kernel_rfl) (by kernel_rfl) rfl rfl (Wanted.plain rfl) (Val.ix tabOk 2 (off' := 2) rfl rfl rfl rfl rfl rfl rfl (by decide) rfl) ?_
        refine DR.take 14 rfl (by repeat (first | exact List.nil_sublist _ | exact List.Sublist.refl _ | apply List.Sublist.cons_cons | apply List.Sublist.cons)) inferInstance (by kernel_rfl) (by kernel_rfl) (by kernel_rfl) (by kernel_rfl) rfl rfl (Wanted.plain rfl) (Val.load tabOk rfl rfl rfl List.mem_cons_self rfl) ?_
        refine DR.take 15 rfl (by repeat (first | exact List.nil_sublist _ | exact List.Sublist.refl _ | apply List.Sublist.cons_cons | apply List.Sublist.cons)) inferInstance (by kernel_rfl) (by kernel_rfl) (by kernel_rfl) (by kernel_rfl) rfl rfl (Wanted.plain rfl) (Val.eq (Val.of rfl) (congrArg (Value.int .u32) (u32_and _ _ ha hc'))) ?_
        refine DR.take 16 rfl (by repeat (first | exact List.nil_sublist _ | exact List.Sublist.refl _ | apply List.Sublist.cons_cons | apply List.Sublist.cons)) inferInstance (by kernel_rfl) (by kernel_rfl) (by kernel_rfl) (by kernel_rfl) rfl rfl (Wanted.plain rfl) (Val.eq (Val.of rfl) (congrArg (Value.int .u32) (u32_xor _ _ (and_lt ha) (and_lt ha)))) ?_
        refine DR.take 17 rfl (by repeat (first | exact List.nil_sublist _ | exact List.Sublist.refl _ | apply List.Sublist.cons_cons | apply List.Sublist.cons)) inferInstance (by kernel_rfl) (by kernel_rfl) (by kernel_rfl) (by kernel_rfl) rfl rfl (Wanted.plain rfl) (Val.ix tabOk 1 (off' := 1) rfl rfl rfl rfl rfl rfl rfl (by decide) rfl) ?_
        refine DR.take 18 rfl (by repeat (first | exact List.nil_sublist _ | exact List.Sublist.refl _ | apply List.Sublist.cons_cons | apply List.Sublist.cons)) inferInstance (by kernel_rfl) (by kernel_rfl) (by kernel_rfl) (by kernel_rfl) rfl rfl (Wanted.plain rfl) (Val.load tabOk rfl rfl rfl List.mem_cons_self rfl) ?_
        refine DR.take 19 rfl (by repeat (first | exact List.nil_sublist _ | exact List.Sublist.refl _ | apply List.Sublist.cons_cons | apply List.Sublist.cons)) inferInstance (by kernel_rfl) (by kernel_rfl) (by kernel_rfl) (by kernel_rfl) rfl rfl (Wanted.plain rfl) (Val.ix tabOk 2 (off' := 2) rfl rfl rfl rfl rfl rfl rfl (by decide) rfl) ?_
        refine DR.take 20 rfl (by repeat (first | exact List.nil_sublist _ | exact List.Sublist.refl _ | apply List.Sublist.cons_cons | apply List.Sublist.cons)) inferInstance (by kernel_rfl) (by kernel_rfl) (by kernel_rfl) (by kernel_rfl) rfl rfl (Wanted.plain rfl) (Val.load tabOk rfl rfl rfl List.mem_cons_self rfl) ?_
        refine DR.take 21 rfl (by repeat (first | exact List.nil_sublist _ | exact List.Sublist.refl _ | apply List.Sublist.cons_cons | apply List.Sublist.cons)) inferInstance (by kernel_rfl) (by kernel_rfl) (by kernel_rfl) (by kernel_rfl) rfl rfl (Wanted.plain rfl) (Val.eq (Val.of rfl) (congrArg (Value.int .u32) (u32_and _ _ hb' hc'))) ?_
        refine DR.take 22 rfl (by repeat (first | exact List.nil_sublist _ | exact List.Sublist.refl _ | apply List.Sublist.cons_cons | apply List.Sublist.cons)) inferInstance (by kernel_rfl) (by kernel_rfl) (by kernel_rfl) (by kernel_rfl) rfl rfl (Wanted.plain rfl) (Val.eq (Val.of rfl) (congrArg (Value.int .u32) (u32_xor _ _ (xor_lt (and_lt ha) (and_lt ha)) (and_lt hb')))) ?_
        refine DR.one (i := 1) (by kernel_rfl) ?_
        refine DOp.op rfl (Wanted.plain rfl) (OpTo.callV Tryd.func77 rfl rfl rfl rfl rfl rfl (fun w _ => hr 2 (by decide) (by decide) _ ha w)) (.inl fun _ => by repeat (first | exact List.nil_sublist _ | exact List.Sublist.refl _ | apply List.Sublist.cons_cons | apply List.Sublist.cons)) (fun _ => ?_)
        refine DR.one (i := 3) (by kernel_rfl) ?_
        refine DOp.op rfl (Wanted.plain rfl) (OpTo.callV Tryd.func77 rfl rfl rfl rfl rfl rfl (fun w _ => hr 13 (by decide) (by decide) _ ha w)) (.inl fun _ => by repeat (first | exact List.nil_sublist _ | exact List.Sublist.refl _ | apply List.Sublist.cons_cons | apply List.Sublist.cons)) (fun _ => ?_)
        refine DR.take 4 rfl (by repeat (first | exact List.nil_sublist _ | exact List.Sublist.refl _ | apply List.Sublist.cons_cons | apply List.Sublist.cons)) inferInstance (by kernel_rfl) (by kernel_rfl) (by kernel_rfl) (by kernel_rfl) rfl rfl (Wanted.plain rfl) (Val.eq (Val.of rfl) (congrArg (Value.int .u32) (u32_xor _ _ (rotr_lt _ _ ha) (rotr_lt _ _ ha)))) ?_
        refine DR.one (i := 6) (by kernel_rfl) ?_
        refine DOp.op rfl (Wanted.plain rfl) (OpTo.callV Tryd.func77 rfl rfl rfl rfl rfl rfl (fun w _ => hr 22 (by decide) (by decide) _ ha w)) (.inl fun _ => by repeat (first | exact List.nil_sublist _ | exact List.Sublist.refl _ | apply List.Sublist.cons_cons | apply List.Sublist.cons)) (fun _ => ?_)
        refine DR.take 7 rfl (by repeat (first | exact List.nil_sublist _ | exact List.Sublist.refl _ | apply List.Sublist.cons_cons | apply List.Sublist.cons)) inferInstance (by kernel_rfl) (by kernel_rfl) (by kernel_rfl) (by kernel_rfl) rfl rfl (Wanted.plain rfl) (Val.eq (Val.of rfl) (congrArg (Value.int .u32) (u32_xor _ _ (xor_lt (rotr_lt _ _ ha) (rotr_lt _ _ ha)) (rotr_lt _ _ ha)))) ?_
        refine DR.take 23 rfl (by repeat (first | exact List.nil_sublist _ | exact List.Sublist.refl _ | apply List.Sublist.cons_cons | apply List.Sublist.cons)) inferInstance (by kernel_rfl) (by kernel_rfl) (by kernel_rfl) (by kernel_rfl) rfl rfl (Wanted.plain rfl) (Val.eq (Val.of rfl) (show _ = Value.int .u32 ((ru s : Nat) : Int) from congrArg (Value.int .u32) (u32_add _ _))) ?_
        refine DR.take 24 rfl (by repeat (first | exact List.nil_sublist _ | exact List.Sublist.refl _ | apply List.Sublist.cons_cons | apply List.Sublist.cons)) inferInstance (by kernel_rfl) (by kernel_rfl) (by kernel_rfl) (by kernel_rfl) rfl rfl (Wanted.plain rfl) (Val.of rfl) ?_
        refine DR.done (by kernel_rfl) (RQ.next ?_)
        (repeat refine RC.seq ?_); refine RC.drawS mixed (N := 3) rfl ?_
        refine DR.take 0 rfl (by repeat (first | exact List.nil_sublist _ | exact List.Sublist.refl _ | apply List.Sublist.cons_cons | apply List.Sublist.cons)) inferInstance (by kernel_rfl) (by kernel_rfl) (by kernel_rfl) (by kernel_rfl) rfl rfl (Wanted.plain rfl) (Val.eq (Val.sliceAlo tabOk rfl rfl rfl rfl rfl rfl (by decide) (by decide)) (show _ = Value.slice (some ⟨b1, 1, none⟩) 7 7 from rfl)) ?_
        refine DR.take 1 rfl (by repeat (first | exact List.nil_sublist _ | exact List.Sublist.refl _ | apply List.Sublist.cons_cons | apply List.Sublist.cons)) inferInstance (by kernel_rfl) (by kernel_rfl) (by kernel_rfl) (by kernel_rfl) rfl rfl (Wanted.plain rfl) (Val.sliceAhi tabOk rfl rfl rfl rfl rfl rfl (by decide) (by decide)) ?_
        refine DR.one (i := 2) (by kernel_rfl) ?_
        refine DOp.op rfl (Wanted.plain rfl) (OpTo.copyTo tabOk (arr' := (u32s [s.a, s.a, s.b, s.c, s.d, s.e, s.f, s.g]).toArray) (m := 7) ((Rd.rowAll List.mem_cons_self).take 7) rfl rfl rfl rfl rfl rfl rfl rfl rfl (List.Perm.refl _) rfl rfl (Nat.le_refl 8) (u32s_one [s.a, s.b, s.c, s.d, s.e, s.f, s.g])) (.inr (by kernel_rfl)) (fun _ => ?_)
        refine DR.done (by kernel_rfl) (RQ.next ?_)
        (repeat refine RC.seq ?_); refine RC.region ?_
        refine Run.v rfl rfl rfl (Val.of rfl) ?_
        refine Run.v rfl rfl rfl (Val.of rfl) ?_
        refine Run.v rfl rfl rfl (Val.eq (Val.of rfl) (congrArg (Value.int .u32) (u32_add _ _))) ?_
        refine Run.v rfl rfl rfl (Val.ix tabOk 0 (off' := 0) rfl rfl rfl rfl rfl rfl rfl (by decide) rfl) ?_
        refine Run.storeTo tabOk (arr' := (u32s [add32 (rt s k x) (ru s), s.a, s.b, s.c, s.d, s.e, s.f, s.g]).toArray) rfl rfl rfl rfl rfl rfl rfl (List.Perm.refl _) rfl (show 1 ≤ 8 by decide) (by simp [Value.cells]; rfl) ?_
        refine Run.nil (RQ.next ?_)
        (repeat refine RC.seq ?_); refine RC.region ?_
        refine Run.v rfl rfl rfl (Val.ix tabOk 4 (off' := 4) rfl rfl rfl rfl rfl rfl rfl (by decide) rfl) ?_
        refine Run.v rfl rfl rfl (Val.load tabOk rfl rfl rfl List.mem_cons_self rfl) ?_
        refine Run.v rfl rfl rfl (Val.of rfl) ?_
        refine Run.v rfl rfl rfl (Val.eq (Val.of rfl) (congrArg (Value.int .u32) (u32_add _ _))) ?_
        refine Run.v rfl rfl rfl (Val.ix tabOk 4 (off' := 4) rfl rfl rfl rfl rfl rfl rfl (by decide) rfl) ?_
        refine Run.storeTo tabOk (arr' := (u32s (rnd s k x).l).toArray) rfl rfl rfl rfl rfl rfl rfl (List.Perm.refl _) rfl (show 5 ≤ 8 by decide) (by simp [Value.cells]; rfl) ?_
        refine Run.nil (RQ.blockNormal ?_)
        exact RQ.to () ⟨rfl, rfl, rfl, rfl, trivial⟩ (List.Sublist.refl _)
      · refine RC.region ?_
        repeat (first | refine Run.v rfl rfl rfl (Val.ar rfl rfl rfl rfl (by dsimp only [inK]; omega)) ?_ | refine Run.v rfl rfl rfl (Val.of rfl) ?_)
        exact Run.nil (RQ.round (i + 1) (by omega) (by show 64 - (i + 1) < 64 - i; omega) ⟨rfl, rfl, rfl, rfl, trivial⟩ (by rw [hnext]; exact List.Sublist.refl _))
    · have hi' : i = 64 := by have := of_decide_eq_false h'; omega
      subst hi'
      clear h'
      have hcmp : (compress h blk).l = List.zipWith add32 h.l (rounds h (W blk 64) 64).l := rfl
      have h1 : h.l.length = 8 := rfl
      have h2 : (rounds h (W blk 64) 64).l.length = 8 := rfl
      rw [hcmp]
      clear hcmp hbl
      generalize (rounds h (W blk 64) 64).l = B at *
      generalize h.l = A at *
      have h3 : A.length = B.length := h1.trans h2.symm
      have hsz : (u32s B).toArray.size = 8 := by simp [u32s_len, h2]
      (repeat refine RQ.thenExit ?_); refine RQ.blockHere ?_
      refine RQ.next ?_
      (repeat refine RC.seq ?_); refine RC.region ?_
      refine Run.v rfl rfl rfl (Val.loadAll tabOk rfl rfl rfl rfl List.mem_cons_self hsz) ?_
      refine Run.v rfl rfl rfl (Val.of rfl) ?_
      refine Run.nil (RQ.next ?_)
      (repeat refine RC.seq ?_); refine RC.block ?_
      refine RC.weak (E' := [(92, .int .i64 0), (91, .agg (u32s B).toArray), (0, .pointer (some ⟨b, 0, none⟩))]) (L' := [(b, .cells (u32s A).toArray e (0, 0))]) ⟨rfl, rfl, rfl, trivial⟩ (List.Sublist.cons _ (List.Sublist.refl _)) ?_
      refine RC.loop (ι := Nat) (fun i => [(92, .int .i64 i), (91, .agg (u32s B).toArray), (0, .pointer (some ⟨b, 0, none⟩))])
        (fun i => [(b, .cells (u32s (addTo A B i)).toArray e (0, 0))]) (fun i => i ≤ 8) (fun i => 8 - i) 0 (by omega) ⟨rfl, rfl, rfl, trivial⟩ (by simp [addTo]) ?_
      intro i hi
      have hl1 : (addTo A B i).length = 8 := (addTo_len A B h3 i).trans h1
      (repeat refine RC.seq ?_); refine RC.region ?_
      repeat (refine Run.v rfl rfl rfl (Val.of rfl) ?_)
      refine Run.nil (RQ.next ?_)
      refine RC.while rfl (fun h' => ?_) (fun h' => ?_)
      · have hi' : i < 8 := by have := of_decide_eq_true h'; omega
        have hi1 : i < A.length := by omega
        have hat : (u32s (addTo A B i)).toArray[i]? = some (.int .u32 (A.getD i 0 : Nat)) := by
          rw [u32s_at _ _ (by omega), addTo_at A B h3 i hi1]
        refine RC.seqCut (Y := Unit) (fun _ => [(92, .int .i64 i), (91, .agg (u32s B).toArray), (0, .pointer (some ⟨b, 0, none⟩))])
          (fun _ => [(b, .cells (u32s (addTo A B (i + 1))).toArray e (0, 0))]) (RC.block ?_) (fun _ => ?_)
        · (repeat refine RC.seq ?_); refine RC.region ?_
          refine Run.v rfl rfl rfl (Val.of rfl) ?_
          refine Run.v rfl rfl rfl (Val.indexN tabOk i (v := .int .u32 (B.getD i 0 : Nat)) rfl rfl rfl rfl rfl rfl rfl hi' (by simp only [ti101, Nat.mul_one]; exact u32s_at _ _ (by omega))) ?_
          repeat (refine Run.v rfl rfl rfl (Val.of rfl) ?_)
          refine Run.nil (RQ.next ?_)
          (repeat refine RC.seq ?_); refine RC.drawS mixed (N := 10) rfl ?_
          refine DR.take 0 rfl (by repeat (first | exact List.nil_sublist _ | exact List.Sublist.refl _ | apply List.Sublist.cons_cons | apply List.Sublist.cons)) inferInstance (by kernel_rfl) (by kernel_rfl) (by kernel_rfl) (by kernel_rfl) rfl rfl (Wanted.plain rfl) (Val.of rfl) ?_
          refine DR.take 1 rfl (by repeat (first | exact List.nil_sublist _ | exact List.Sublist.refl _ | apply List.Sublist.cons_cons | apply List.Sublist.cons)) inferInstance (by kernel_rfl) (by kernel_rfl) (by kernel_rfl) (by kernel_rfl) rfl rfl (Wanted.plain rfl) (Val.of rfl) ?_
          refine DR.take 2 rfl (by repeat (first | exact List.nil_sublist _ | exact List.Sublist.refl _ | apply List.Sublist.cons_cons | apply List.Sublist.cons)) inferInstance (by kernel_rfl) (by kernel_rfl) (by kernel_rfl) (by kernel_rfl) rfl rfl (Wanted.plain rfl) (Val.of rfl) ?_
          refine DR.take 3 rfl (by repeat (first | exact List.nil_sublist _ | exact List.Sublist.refl _ | apply List.Sublist.cons_cons | apply List.Sublist.cons)) inferInstance (by kernel_rfl) (by kernel_rfl) (by kernel_rfl) (by kernel_rfl) rfl rfl (Wanted.plain rfl) (Val.ix tabOk i (off' := i) rfl rfl rfl rfl rfl rfl rfl hi' (by simp [ti101])) ?_
          refine DR.take 4 rfl (by repeat (first | exact List.nil_sublist _ | exact List.Sublist.refl _ | apply List.Sublist.cons_cons | apply List.Sublist.cons)) inferInstance (by kernel_rfl) (by kernel_rfl) (by kernel_rfl) (by kernel_rfl) rfl rfl (Wanted.plain rfl) (Val.load (v := .int .u32 (A.getD i 0 : Nat)) tabOk rfl rfl rfl List.mem_cons_self hat) ?_
          refine DR.take 5 rfl (by repeat (first | exact List.nil_sublist _ | exact List.Sublist.refl _ | apply List.Sublist.cons_cons | apply List.Sublist.cons)) inferInstance (by kernel_rfl) (by kernel_rfl) (by kernel_rfl) (by kernel_rfl) rfl rfl (Wanted.plain rfl) (Val.of rfl) ?_
          refine DR.take 6 rfl (by repeat (first | exact List.nil_sublist _ | exact List.Sublist.refl _ | apply List.Sublist.cons_cons | apply List.Sublist.cons)) inferInstance (by kernel_rfl) (by kernel_rfl) (by kernel_rfl) (by kernel_rfl) rfl rfl (Wanted.plain rfl) (Val.eq (Val.of rfl) (congrArg (Value.int .u32) (u32_add _ _))) ?_
          refine DR.take 7 rfl (by repeat (first | exact List.nil_sublist _ | exact List.Sublist.refl _ | apply List.Sublist.cons_cons | apply List.Sublist.cons)) inferInstance (by kernel_rfl) (by kernel_rfl) (by kernel_rfl) (by kernel_rfl) rfl rfl (Wanted.plain rfl) (Val.of rfl) ?_
          refine DR.take 8 rfl (by repeat (first | exact List.nil_sublist _ | exact List.Sublist.refl _ | apply List.Sublist.cons_cons | apply List.Sublist.cons)) inferInstance (by kernel_rfl) (by kernel_rfl) (by kernel_rfl) (by kernel_rfl) rfl rfl (Wanted.plain rfl) (Val.ix tabOk i (off' := i) rfl rfl rfl rfl rfl rfl rfl hi' (by simp [ti101])) ?_
          refine DR.one (i := 9) (by kernel_rfl) ?_
          refine DOp.op rfl (Wanted.plain rfl) (OpTo.storeTo tabOk ((u32s_set _ i _ (by omega)).trans (congrArg (fun l => (u32s l).toArray) (addTo_set A B h3 i _ hi1 rfl))) rfl rfl rfl rfl rfl (List.Perm.refl _) rfl (by simp only [List.size_toArray, u32s_len, hl1]; exact hi') (by simp [Value.cells]; rfl)) (.inr (by kernel_rfl)) (fun _ => ?_)
          refine DR.done (by kernel_rfl) (RQ.blockNormal ?_)
          exact RQ.to () ⟨rfl, rfl, rfl, trivial⟩ (List.Sublist.refl _)
        · refine RC.region ?_
          repeat (first | refine Run.v rfl rfl rfl (Val.ar rfl rfl rfl rfl (by dsimp only [inK]; omega)) ?_ | refine Run.v rfl rfl rfl (Val.of rfl) ?_)
          exact Run.nil (RQ.round (i + 1) (by omega) (by show 8 - (i + 1) < 8 - i; omega) ⟨rfl, rfl, rfl, trivial⟩ (List.Sublist.refl _))
      · have hi' : i = 8 := by have := of_decide_eq_false h'; omega
        subst hi'
        (repeat refine RQ.thenExit ?_); refine RQ.blockHere ?_
        have hz : addTo A B 8 = List.zipWith add32 A B := by
          unfold addTo
          rw [List.take_of_length_le (by simp; omega), List.drop_eq_nil_of_le (by omega), List.append_nil]
        rw [hz]
        exact RQ.normal (RQ.ret0 rfl fun w' hm => ⟨rfl, hm.fr, hm.has _ List.mem_cons_self⟩)
end Go.Proofs.YtilfbomjaflbjaaDoor
