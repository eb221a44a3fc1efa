/- The reference's Digest, Two. -/
import Derived.Test.YtilfbomjaflbjaaDoorRef2
namespace Go.Proofs.YtilfbomjaflbjaaDoor
open Go Go.Vc Go.Sha

set_option maxRecDepth 10000 in
theorem Digest_calls (p : Nat) (hp : p < 256) (pv : Value) (vs : List Value) (ls : List (List Nat)) (w : World) (hs : SrcW w 1 pv ls.length vs) (hps : Parts w vs ls)
    (ht : tot ls ≤ 1099511000000) (hb : ∀ l ∈ ls, ∀ x ∈ l, x < 256) :
    Gives Tryd.prog 44 [.int .u8 p, pv] (.agg (u8s (digest p ls)).toArray) w := by
  refine enter Tryd.func44 rfl (Mem.nil w []) rfl ?_
  (repeat refine RC.seq ?_); refine RC.region ?_
  refine Run.mk rfl rfl rfl (New.alloc tabOk rfl rfl) ?_
  intro b4
  refine Run.nil (RQ.next ?_)
  obtain ⟨pa, pc, hpv, hpc⟩ := hs.shape
  (repeat refine RC.seq ?_); refine RC.region ?_
  refine Run.v rfl rfl rfl (Val.of rfl) ?_
  refine Run.mk rfl rfl rfl (New.buildSlice tabOk (parts := [(0, .tmp 9)]) (cells := (u8s [p]).toArray) rfl rfl rfl rfl rfl rfl (fillS_full 1 1 _ [.int .u8 p] rfl (by simp [Value.cells]))) ?_
  intro b12
  refine Run.v rfl rfl rfl (Val.of rfl) ?_
  refine Run.nil (RQ.next ?_)
  (repeat refine RC.seq ?_); refine RC.region ?_
  refine Run.v rfl rfl rfl (Val.of rfl) ?_
  refine Run.nil (RQ.next ?_)
  (repeat refine RC.seq ?_); refine RC.block ?_
  refine RC.up ls.length (D := Value × Hp) (fun i x => Own 5 1 x.1 (1 + tot (ls.take i)) (u8s (text p (ls.take i))) x.2)
    (fun i x => [(6, .int .i64 i), (5, x.1), (1, pv), (4, .pointer (some ⟨b4, 0, none⟩))])
    (fun i x => x.2 ++ [(b4, .cells ti22.zero.cells 23 (0, 0))])
    0 (_, _) (Nat.zero_le _) (Own.row b12 1 1 (u8s [p]) [] rfl rfl (Nat.le_refl _) (by decide)) ⟨rfl, rfl, rfl, rfl, trivial⟩ (List.Sublist.refl _) ?_
  rintro i ⟨v5, bl5⟩ hi hown
  dsimp only at hown ⊢
  (repeat refine RC.seq ?_); refine RC.region ?_
  refine Run.v rfl rfl rfl (Val.of rfl) ?_
  refine Run.v rfl rfl rfl (Val.of rfl) ?_
  refine Run.v rfl rfl rfl (Val.len (len := ls.length) tabOk rfl rfl rfl (by rw [hpv]; rfl)) ?_
  refine Run.v rfl rfl rfl (Val.of rfl) ?_
  refine Run.nil (RQ.next ?_)
  (repeat refine RC.seq ?_); refine RC.wh rfl (fun h => RQ.next ?_) (fun h => ?_)
  · have hi' : i < ls.length := by have := of_decide_eq_true h; omega
    clear h
    have h4 := tot_ge ls
    have h1 := tot_take_succ ls i hi'
    have h2 := tot_take_le ls i hi'
    have h3 := text_take_succ p ls i hi'
    have hvi := hps.2 i (by rw [hps.1]; exact hi') hi'
    obtain ⟨ai, ci, hav, hac⟩ := hvi.shape
    have hbi := hb ls[i] (List.getElem_mem hi')
    have hiv : i < vs.length := by rw [hps.1]; exact hi'
    have hgv : vs[i]? = some vs[i] := List.getElem?_eq_getElem hiv
    generalize hvv : vs[i] = vi at *
    generalize hle' : ls[i] = li at *
    obtain ⟨pa', pc', hpe, hpc', hpl, hpr⟩ := SrcW.pos hs (Nat.lt_of_le_of_lt (Nat.zero_le _) hi')
    clear hpv hpc
    subst hpe
    (repeat refine RC.seq ?_); refine RC.block ?_
    (repeat refine RC.seq ?_); refine RC.draw [] mixed (N := 14) rfl ?_
    refine DR.take 0 rfl (List.nil_sublist _) inferInstance (by kernel_rfl) (by kernel_rfl) (by kernel_rfl) (by kernel_rfl) rfl rfl (Wanted.plain rfl) (Val.of rfl) ?_
    refine DR.take 1 rfl (List.nil_sublist _) inferInstance (by kernel_rfl) (by kernel_rfl) (by kernel_rfl) (by kernel_rfl) rfl rfl (Wanted.plain rfl) (Val.of rfl) ?_
    refine DR.take 2 rfl (List.nil_sublist _) inferInstance (by kernel_rfl) (by kernel_rfl) (by kernel_rfl) (by kernel_rfl) rfl rfl (Wanted.plain rfl) (Val.of rfl) ?_
    refine DR.take 3 rfl (List.nil_sublist _) inferInstance (by kernel_rfl) (by kernel_rfl) (by kernel_rfl) (by kernel_rfl) rfl rfl (Wanted.plain rfl) (Val.ixS tabOk i (ad' := pa'.add i) rfl rfl rfl rfl rfl rfl rfl hi' (by simp [ti74])) ?_
    refine DR.take 4 rfl (List.nil_sublist _) inferInstance (by kernel_rfl) (by kernel_rfl) (by kernel_rfl) (by kernel_rfl) rfl rfl (Wanted.plain rfl) (Val.loadOld1 (v := vi) tabOk rfl rfl rfl rfl (by simp) (hpr i vi hgv)) ?_
    refine DR.take 5 rfl (List.nil_sublist _) inferInstance (by kernel_rfl) (by kernel_rfl) (by kernel_rfl) (by kernel_rfl) rfl rfl (Wanted.plain rfl) (Val.len (len := li.length) tabOk rfl rfl rfl (by rw [hav]; rfl)) ?_
    refine DR.take 8 rfl (List.nil_sublist _) inferInstance (by kernel_rfl) (by kernel_rfl) (by kernel_rfl) (by kernel_rfl) rfl rfl (Wanted.plain rfl) (Val.of rfl) ?_
    refine DR.take 9 rfl (List.nil_sublist _) inferInstance (by kernel_rfl) (by kernel_rfl) (by kernel_rfl) (by kernel_rfl) rfl rfl (Wanted.plain rfl) (Val.of rfl) ?_
    refine DR.take 10 rfl (List.nil_sublist _) inferInstance (by kernel_rfl) (by kernel_rfl) (by kernel_rfl) (by kernel_rfl) rfl rfl (Wanted.plain rfl) (Val.ixS tabOk i (ad' := pa'.add i) rfl rfl rfl rfl rfl rfl rfl hi' (by simp [ti74])) ?_
    refine DR.take 11 rfl (List.nil_sublist _) inferInstance (by kernel_rfl) (by kernel_rfl) (by kernel_rfl) (by kernel_rfl) rfl rfl (Wanted.plain rfl) (Val.loadOld1 (v := vi) tabOk rfl rfl rfl rfl (by simp) (hpr i vi hgv)) ?_
    refine DR.one (i := 6) (by kernel_rfl) (DOp.op rfl (Wanted.plain rfl) (OpTo.callMk Tryd.func63 rfl rfl rfl rfl rfl rfl (fun w' hm => Num_calls li.length 4 (by decide) w')) (.inl fun _ => List.nil_sublist _) ?_)
    rintro ⟨⟨vn, bln⟩, hownn⟩
    have hownn' : Own 5 1 vn 4 (u8s (le4 li.length)) bln := by rw [← le_four]; exact hownn
    refine DR.one (i := 7) (by kernel_rfl) (DOp.op rfl (Wanted.plain rfl) (OpTo.append tabOk hown (Own.src hownn' (fun q hq => List.mem_append_left _ hq)) rfl rfl rfl rfl rfl rfl rfl rfl rfl (List.perm_append_comm_assoc _ _ _) (u8s_one _) (by unfold maxLen; omega) (by simp only [ti5]; omega)) (.inl fun _ => List.nil_sublist _) ?_)
    rintro ⟨⟨v6, bl6⟩, hown6⟩
    refine DR.one (i := 12) (by kernel_rfl) (DOp.op rfl (Wanted.plain rfl) (OpTo.append tabOk hown6 (hvi.src) rfl rfl rfl rfl rfl rfl rfl rfl rfl (List.Perm.refl _) (u8s_one _) (by unfold maxLen; omega) (by simp only [ti5]; omega)) (.inl fun _ => List.nil_sublist _) ?_)
    rintro ⟨⟨v7, bl7⟩, hown7⟩
    refine DR.one (i := 13) (by kernel_rfl) ?_
    refine DOp.val rfl (.inr (by kernel_rfl)) rfl rfl (Wanted.plain rfl) (Val.of rfl) ?_
    refine DR.done (by kernel_rfl) (RQ.blockNormal (RQ.next ?_))
    refine RC.region ?_
    repeat (first | refine Run.v rfl rfl rfl (Val.ar rfl rfl rfl rfl (by dsimp only [inK]; omega)) ?_ | refine Run.v rfl rfl rfl (Val.of rfl) ?_)
    refine Run.nil (RQ.up (i + 1) (v7, bl7) (Nat.lt_succ_self _) hi' ?_ ⟨rfl, rfl, rfl, rfl, trivial⟩ (List.Sublist.append (List.Sublist.refl _) (List.sublist_append_right _ _)))
    have h := hown7
    rw [← u8s_app, ← u8s_app, List.append_assoc, ← h3, show 1 + tot (ls.take i) + 4 + li.length = 1 + tot (ls.take (i + 1)) by omega] at h
    exact h
  · have hi' : i = ls.length := by have := of_decide_eq_false h; omega
    subst hi'
    rw [List.take_length] at hown
    have htl := text_len p ls
    have htb := text_lt p hp ls hb
    have hdig : digest p ls = (sha (text p ls)).take 8 := rfl
    rw [hdig]
    rw [← htl] at hown
    generalize text p ls = tx at *
    have hsl := sha_len tx
    (repeat refine RQ.thenExit ?_); refine RQ.blockHere ?_
    refine RQ.next ?_
    (repeat refine RC.seq ?_); refine RC.region ?_
    refine Run.v rfl rfl rfl (Val.of rfl) ?_
    refine Run.callV Tryd.func64 rfl rfl rfl rfl rfl rfl rfl (fun w' hm => ref_Sum_calls v5 tx.length tx w' (hown.srcW (fun q hq => hm.has q (List.mem_append_left _ hq))) (by omega) htb) ?_
    generalize sha tx = out at *
    have hsz : (u8s out).toArray.size = 32 := by simp [u8s_len, hsl]
    refine Run.mk rfl rfl rfl (New.alloc tabOk rfl rfl) ?_
    intro b9
    refine Run.storeAll tabOk rfl rfl rfl rfl rfl rfl (List.Perm.refl _) hsz rfl (fun u hu => u8s_one out u (by simpa [Value.cells] using hu)) ?_
    refine Run.nil (RQ.next ?_)
    (repeat refine RC.seq ?_); refine RC.region ?_
    refine Run.mk rfl rfl rfl (New.alloc tabOk rfl rfl) ?_
    intro b10
    refine Run.nil (RQ.next ?_)
    (repeat refine RC.seq ?_); refine RC.drawS mixed (N := 3) rfl ?_
    refine DR.take 0 rfl (by repeat (first | exact List.nil_sublist _ | exact List.Sublist.refl _ | apply List.Sublist.cons_cons | apply List.Sublist.cons)) inferInstance (by kernel_rfl) (by kernel_rfl) (by kernel_rfl) (by kernel_rfl) rfl rfl (Wanted.plain rfl) (Val.sliceA tabOk rfl rfl rfl rfl rfl) ?_
    refine DR.take 1 rfl (by repeat (first | exact List.nil_sublist _ | exact List.Sublist.refl _ | apply List.Sublist.cons_cons | apply List.Sublist.cons)) inferInstance (by kernel_rfl) (by kernel_rfl) (by kernel_rfl) (by kernel_rfl) rfl rfl (Wanted.plain rfl) (Val.sliceAhi tabOk rfl rfl rfl rfl rfl rfl (by decide) (by decide)) ?_
    refine DR.one (i := 2) (by kernel_rfl) ?_
    refine DOp.op rfl (Wanted.plain rfl) (OpTo.copyTo tabOk (arr' := (u8s (out.take 8)).toArray) (m := 8) (cs := u8s (out.take 8)) (u8s_take out 8 ▸ Rd.rowTake (cs := u8s out) (List.mem_cons_of_mem _ List.mem_cons_self) 8) (by rw [wrAt_all _ _ (by simp [u8s_len, hsl]; rfl)]) rfl rfl rfl rfl rfl rfl rfl rfl (List.Perm.refl _) (by simp [u8s_len, hsl, ti5]) rfl (by simp [u8s_len, hsl]; decide) (u8s_one _)) (.inr (by kernel_rfl)) (fun _ => ?_)
    refine DR.done (by kernel_rfl) (RQ.next ?_)
    have hsz8 : (u8s (out.take 8)).toArray.size = 8 := by simp [u8s_len, hsl]
    generalize out.take 8 = dg at *
    (repeat refine RC.seq ?_); refine RC.region ?_
    refine Run.v rfl rfl rfl (Val.loadAll tabOk rfl rfl rfl rfl List.mem_cons_self hsz8) ?_
    refine Run.storeAll (arr := ti23.zero.cells) (L' := _ :: _ :: bl5) tabOk rfl rfl rfl rfl rfl rfl (List.perm_append_comm (l₁ := _ :: _ :: bl5) (l₂ := [_])) hsz8 (by rfl) (fun u hu => u8s_one dg u (by simpa [Value.cells] using hu)) ?_
    exact Run.nil (RQ.next (RC.ret (RQ.ret1 rfl (Res.cellAll tabOk rfl rfl rfl List.mem_cons_self hsz8) fun w' hm => ⟨rfl, hm.fr⟩)))

set_option maxRecDepth 10000 in
theorem ref_Two_calls (p : Nat) (hp : p < 256) (a b : List Nat) (ha : a.length = 8) (hb : b.length = 8) (ha' : ∀ x ∈ a, x < 256) (hb' : ∀ x ∈ b, x < 256) (w : World) :
    Gives Tryd.prog 46 [.int .u8 p, .agg (u8s a).toArray, .agg (u8s b).toArray] (.agg (u8s (digest p [a, b])).toArray) w := by
  refine enter Tryd.func46 rfl (Mem.nil w []) rfl ?_
  (repeat refine RC.seq ?_); refine RC.region ?_
  refine Run.mk rfl rfl rfl (New.boxA rfl rfl) ?_
  intro b4
  refine Run.mk rfl rfl rfl (New.boxA rfl rfl) ?_
  intro b5
  refine Run.mk rfl rfl rfl (New.alloc tabOk rfl rfl) ?_
  intro b6
  refine Run.nil (RQ.next ?_)
  (repeat refine RC.seq ?_); refine RC.drawS mixed (N := 6) rfl ?_
  refine DR.take 0 rfl (by repeat (first | exact List.nil_sublist _ | exact List.Sublist.refl _ | apply List.Sublist.cons_cons | apply List.Sublist.cons)) inferInstance (by kernel_rfl) (by kernel_rfl) (by kernel_rfl) (by kernel_rfl) rfl rfl (Wanted.plain rfl) (Val.of rfl) ?_
  refine DR.take 1 rfl (by repeat (first | exact List.nil_sublist _ | exact List.Sublist.refl _ | apply List.Sublist.cons_cons | apply List.Sublist.cons)) inferInstance (by kernel_rfl) (by kernel_rfl) (by kernel_rfl) (by kernel_rfl) rfl rfl (Wanted.plain rfl) (Val.eq (Val.sliceA tabOk rfl rfl rfl rfl rfl) (show _ = Value.slice (some ⟨b4, 0, none⟩) a.length a.length from by rw [ha])) ?_
  refine DR.take 2 rfl (by repeat (first | exact List.nil_sublist _ | exact List.Sublist.refl _ | apply List.Sublist.cons_cons | apply List.Sublist.cons)) inferInstance (by kernel_rfl) (by kernel_rfl) (by kernel_rfl) (by kernel_rfl) rfl rfl (Wanted.plain rfl) (Val.eq (Val.sliceA tabOk rfl rfl rfl rfl rfl) (show _ = Value.slice (some ⟨b5, 0, none⟩) b.length b.length from by rw [hb])) ?_
  refine DR.one (i := 3) (by kernel_rfl) ?_
  refine DOp.op rfl (Wanted.plain rfl) (OpTo.new rfl rfl (New.buildSlice tabOk (parts := [(0, .tmp 8), (1, .tmp 9)]) (cells := [Value.slice (some ⟨b4, 0, none⟩) a.length a.length, Value.slice (some ⟨b5, 0, none⟩) b.length b.length].toArray) rfl rfl rfl rfl rfl rfl (fillS_full 1 2 _ [Value.slice (some ⟨b4, 0, none⟩) a.length a.length, Value.slice (some ⟨b5, 0, none⟩) b.length b.length] rfl (by simp [Value.cells])))) (.inl fun _ => by repeat (first | exact List.nil_sublist _ | exact List.Sublist.refl _ | apply List.Sublist.cons_cons | apply List.Sublist.cons)) ?_
  intro b10
  refine DR.one (i := 4) (by kernel_rfl) ?_
  refine DOp.op rfl (Wanted.plain rfl) (OpTo.callV Tryd.func44 rfl rfl rfl rfl rfl rfl (fun w' hm => Digest_calls p hp _ _ [a, b] w' (SrcW.row hm List.mem_cons_self rfl (Nat.le_refl 2)) (parts2 (u := .slice (some ⟨b4, 0, none⟩) a.length a.length) (v := .slice (some ⟨b5, 0, none⟩) b.length b.length) (SrcW.row hm m3 (by simp [u8s_len]) (Nat.le_refl _)) (SrcW.row hm m2 (by simp [u8s_len]) (Nat.le_refl _))) (by simp [tot, ha, hb]) (by simpa using ⟨ha', hb'⟩))) (.inl fun _ => by repeat (first | exact List.nil_sublist _ | exact List.Sublist.refl _ | apply List.Sublist.cons_cons | apply List.Sublist.cons)) (fun _ => ?_)
  have hd := digest_len p [a, b]
  generalize digest p [a, b] = dg at *
  have hsz : (u8s dg).toArray.size = 8 := by simp [u8s_len, hd]
  refine DR.one (i := 5) (by kernel_rfl) ?_
  refine DOp.op rfl (Wanted.plain rfl) (OpTo.storeAll tabOk rfl rfl rfl rfl rfl (List.Perm.swap _ _ _) hsz rfl (fun u hu => u8s_one dg u (by simpa [Value.cells] using hu))) (.inr (by kernel_rfl)) (fun _ => ?_)
  refine DR.done (by kernel_rfl) (RQ.next ?_)
  refine RC.ret ?_
  exact RQ.ret1 rfl (Res.cellAll tabOk rfl rfl rfl List.mem_cons_self hsz) fun w' hm => ⟨rfl, hm.fr⟩

end Go.Proofs.YtilfbomjaflbjaaDoor
