/- HashParts. -/
import Derived.Test.YtigfcafpoegnjaaDoorLaw1
namespace Go.Proofs.YtigfcafpoegnjaaDoor
open Go Go.Vc Go.Sha

theorem text_two (p : Nat) (a b : List Nat) : text p [a, b] = p :: (le4 a.length ++ (a ++ (le4 b.length ++ b))) := by simp [text]

set_option maxHeartbeats 400000 in
theorem HashParts_calls (p : Nat) (hp : p < 256) (va vb : Value) (na nb : Nat) (a b : List Nat) (w : World) (hva : SrcW w 1 va na (u8s a)) (hvb : SrcW w 1 vb nb (u8s b)) (ha' : ∀ x ∈ a, x < 256) (hb' : ∀ x ∈ b, x < 256) (hK : Laid w) :
    Gives Tryd.prog 4 [.int .u8 p, va, vb] (.bool true) w := by
  have hna : a.length = na := by have := hva.len; rw [u8s_len, Nat.mul_one] at this; exact this
  have hnb : b.length = nb := by have := hvb.len; rw [u8s_len, Nat.mul_one] at this; exact this
  subst hna
  subst hnb
  obtain ⟨aa, ca, hea, hca⟩ := hva.shape
  obtain ⟨ab, cb, heb, hcb⟩ := hvb.shape
  refine enter Tryd.func4 rfl (Mem.nil w []) rfl ?_
  (repeat refine RC.seq ?_); refine RC.region ?_
  refine Run.v rfl rfl rfl (Val.of rfl) ?_
  refine Run.nil (RQ.next ?_)
  (repeat refine RC.seq ?_); refine RC.region ?_
  refine Run.callV Tryd.func8 rfl rfl rfl rfl rfl rfl rfl (fun w' hm => awake_calls w' (hK.fr hm.fr (by simp))) ?_
  refine Run.v rfl rfl rfl (Val.of rfl) ?_
  refine Run.nil (RQ.next ?_)
  (repeat refine RC.seq ?_); refine RC.cond rfl (fun h => ?_) (fun h => ?_)
  · cases h
  refine RC.skip (RQ.next ?_)
  clear h
  refine RC.seq ?_
  refine RC.seqCut (Y := Unit) (fun _ => [(19, .bool (decide (a.length > 2000 ∨ b.length > 2000))), (0, .int .u8 p), (1, va), (2, vb)]) (fun _ => []) (RC.region ?_) (fun _ => ?_)
  · refine Run.v rfl rfl rfl (Val.of rfl) ?_
    refine Run.v rfl rfl rfl (Val.len (len := a.length) tabOk rfl rfl rfl (by rw [hea]; rfl)) ?_
    refine Run.v rfl rfl rfl (Val.of rfl) ?_
    refine Run.v rfl rfl rfl (Val.of rfl) ?_
    refine Run.split 15 rfl (fun h => ?_) (fun h => ?_)
    · have h1 : a.length > 2000 := by have := of_decide_eq_true h; omega
      refine Run.skipG (Wanted.guard rfl rfl rfl rfl) rfl rfl ?_
      refine Run.skipG (Wanted.guard rfl rfl rfl rfl) rfl rfl ?_
      refine Run.skipG (Wanted.guard rfl rfl rfl rfl) rfl rfl ?_
      refine Run.v rfl rfl rfl (Val.of rfl) ?_
      exact Run.nil (RQ.to () ⟨by show some (Value.bool true) = _; congr 2; exact (decide_eq_true (.inl h1)).symm, rfl, rfl, rfl, trivial⟩ (List.Sublist.refl _))
    · have h1 : ¬ a.length > 2000 := by have := of_decide_eq_false h; omega
      refine Run.vG (Wanted.guard rfl rfl rfl rfl) rfl rfl (Val.of rfl) ?_
      refine Run.vG (Wanted.guard rfl rfl rfl rfl) rfl rfl (Val.len (len := b.length) tabOk rfl rfl rfl (by rw [heb]; rfl)) ?_
      refine Run.vG (Wanted.guard rfl rfl rfl rfl) rfl rfl (Val.of rfl) ?_
      refine Run.v rfl rfl rfl (Val.of rfl) ?_
      exact Run.nil (RQ.to () ⟨by show some (Value.bool (decide ((b.length : Int) > 2000))) = _; congr 3; rw [eq_iff_iff]; exact ⟨fun h => .inr (by omega), fun h => by have := h.resolve_left h1; omega⟩, rfl, rfl, rfl, trivial⟩ (List.Sublist.refl _))
  (repeat refine RC.seq ?_); refine RC.cond rfl (fun h => ?_) (fun h => ?_)
  · (repeat refine RC.seq ?_); refine RC.region ?_
    refine Run.v rfl rfl rfl (Val.of rfl) ?_
    refine Run.nil (RQ.next ?_)
    refine RC.ret ?_; (repeat first | refine RQ.thenRet ?_ | refine RQ.blockRet ?_); exact RQ.ret1 rfl (Res.tmp rfl) fun w' hm => ⟨rfl, hm.fr⟩
  have hlen := of_decide_eq_false h
  have hla : a.length ≤ 2000 := by omega
  have hlb : b.length ≤ 2000 := by omega
  clear h hlen
  refine RC.skip (RQ.next ?_)
  (repeat refine RC.seq ?_); refine RC.region ?_
  refine Run.v rfl rfl rfl (Val.of rfl) ?_
  refine Run.mk rfl rfl rfl (New.buildSlice tabOk (parts := [(0, .tmp 20)]) (cells := (u8s [p]).toArray) rfl rfl rfl rfl rfl rfl (fillS_full 1 1 _ [.int .u8 p] rfl (by simp [Value.cells]))) ?_
  intro b21
  refine Run.v rfl rfl rfl (Val.of rfl) ?_
  refine Run.v rfl rfl rfl (Val.len (len := a.length) tabOk rfl rfl rfl (by rw [hea]; rfl)) ?_
  refine Run.op rfl (OpTo.callMk Tryd.func10 rfl rfl rfl rfl rfl rfl (fun w' hm => Num_calls a.length 4 (by decide) w')) ?_
  rintro ⟨⟨vn, bln⟩, hn⟩
  have hn' : Own 5 1 vn 4 (u8s (le4 a.length)) bln := by rw [← le_four]; exact hn
  refine Run.op rfl (OpTo.append tabOk (Own.row b21 1 1 (u8s [p]) [] rfl rfl (Nat.le_refl _) (by decide)) (Own.src hn' (fun q hq => List.mem_append_left _ hq)) rfl rfl rfl rfl rfl rfl rfl rfl rfl (List.perm_append_comm (l₁ := bln) (l₂ := [_])) (u8s_one _) (by decide) (by decide)) ?_
  rintro ⟨⟨v1, bl1⟩, h1⟩
  refine Run.v rfl rfl rfl (Val.of rfl) ?_
  refine Run.nil (RQ.next ?_)
  (repeat refine RC.seq ?_); refine RC.region ?_
  refine Run.v rfl rfl rfl (Val.of rfl) ?_
  refine Run.v rfl rfl rfl (Val.of rfl) ?_
  refine Run.op rfl (OpTo.append tabOk h1 hva.src rfl rfl rfl rfl rfl rfl rfl rfl rfl (List.Perm.refl _) (u8s_one _) (by unfold maxLen; omega) (by simp only [ti5]; omega)) ?_
  rintro ⟨⟨v2, bl2⟩, h2⟩
  refine Run.v rfl rfl rfl (Val.of rfl) ?_
  refine Run.v rfl rfl rfl (Val.len (len := b.length) tabOk rfl rfl rfl (by rw [heb]; rfl)) ?_
  refine Run.op rfl (OpTo.callMk Tryd.func10 rfl rfl rfl rfl rfl rfl (fun w' hm => Num_calls b.length 4 (by decide) w')) ?_
  rintro ⟨⟨vm, blm⟩, hm1⟩
  have hm' : Own 5 1 vm 4 (u8s (le4 b.length)) blm := by rw [← le_four]; exact hm1
  refine Run.op rfl (OpTo.append tabOk h2 (Own.src hm' (fun q hq => List.mem_append_left _ hq)) rfl rfl rfl rfl rfl rfl rfl rfl rfl (List.perm_append_comm_assoc _ _ _) (u8s_one _) (by unfold maxLen; omega) (by simp only [ti5]; omega)) ?_
  rintro ⟨⟨v3, bl3⟩, h3⟩
  refine Run.v rfl rfl rfl (Val.of rfl) ?_
  refine Run.op rfl (OpTo.append tabOk h3 hvb.src rfl rfl rfl rfl rfl rfl rfl rfl rfl (List.Perm.refl _) (u8s_one _) (by unfold maxLen; omega) (by simp only [ti5]; omega)) ?_
  rintro ⟨⟨v4, bl4⟩, h4⟩
  refine Run.v rfl rfl rfl (Val.of rfl) ?_
  refine Run.nil (RQ.next ?_)
  have hown : Own 5 1 v4 (text p [a, b]).length (u8s (text p [a, b])) bl4 := by
    have h := h4
    rw [← u8s_app, ← u8s_app, ← u8s_app, ← u8s_app, show ((([p] ++ le4 a.length) ++ a) ++ le4 b.length) ++ b = text p [a, b] from by rw [text_two]; simp, show 1 + 4 + a.length + 4 + b.length = (text p [a, b]).length from by rw [text_len]; simp [tot]; omega] at h
    exact h
  have htl := text_len p [a, b]
  have htot : tot [a, b] ≤ 5000 := by simp [tot]; omega
  have htb := text_lt p hp [a, b] (by simpa using ⟨ha', hb'⟩)
  have hdig : digest p [a, b] = (sha (text p [a, b])).take 8 := rfl

  generalize text p [a, b] = tx at *
  have hsl := sha_len tx
  have hsb := sha_lt tx
  (repeat refine RC.seq ?_); refine RC.region ?_
  refine Run.v rfl rfl rfl (Val.of rfl) ?_
  refine Run.callV Tryd.func11 rfl rfl rfl rfl rfl rfl rfl (fun w' hm => Sum_calls v4 tx.length tx w' (hown.srcW (fun q hq => hm.has q (List.mem_append_left _ hq))) (by omega) htb (hK.fr hm.fr (by simp))) ?_
  generalize hout : sha tx = out at *
  have hsz : (u8s out).toArray.size = 32 := by simp [u8s_len, hsl]
  refine Run.mk rfl rfl rfl (New.alloc tabOk rfl rfl) ?_
  intro b8
  refine Run.storeAll tabOk rfl rfl rfl rfl rfl rfl (List.Perm.refl _) hsz rfl (fun u hu => u8s_one out u (by simpa [Value.cells] using hu)) ?_
  refine Run.nil (RQ.next ?_)
  (repeat refine RC.seq ?_); refine RC.region ?_
  refine Run.mk rfl rfl rfl (New.alloc tabOk rfl rfl) ?_
  intro b9
  refine Run.nil (RQ.next ?_)
  (repeat refine RC.seq ?_); refine RC.drawS mixed (N := 3) rfl ?_
  refine DR.take 0 rfl (by first | exact List.Sublist.refl _ | exact List.Sublist.cons _ (List.Sublist.refl _)) inferInstance (by kernel_rfl) (by kernel_rfl) (by kernel_rfl) (by kernel_rfl) rfl rfl (Wanted.plain rfl) (Val.sliceA tabOk rfl rfl rfl rfl rfl) ?_
  refine DR.take 1 rfl (by first | exact List.Sublist.refl _ | exact List.Sublist.cons _ (List.Sublist.refl _)) inferInstance (by kernel_rfl) (by kernel_rfl) (by kernel_rfl) (by kernel_rfl) rfl rfl (Wanted.plain rfl) (Val.sliceAhi tabOk rfl rfl rfl rfl rfl rfl (by decide) (by decide)) ?_
  refine DR.one (i := 2) (by kernel_rfl) ?_
  refine DOp.op rfl (Wanted.plain rfl) (OpTo.copyTo tabOk (arr' := (u8s (out.take 8)).toArray) (m := 8) (cs := u8s (out.take 8)) (u8s_take out 8 ▸ Rd.rowTake (cs := u8s out) (List.mem_cons_of_mem _ List.mem_cons_self) 8) (by rw [wrAt_all _ _ (by simp [u8s_len, hsl]; rfl)]) rfl rfl rfl rfl rfl rfl rfl rfl (List.Perm.refl _) (by simp [u8s_len, hsl, ti5]) rfl (by simp [u8s_len, hsl]; decide) (u8s_one _)) (.inr (by kernel_rfl)) (fun _ => ?_)
  refine DR.done (by kernel_rfl) (RQ.next ?_)
  have hsz8 : (u8s (out.take 8)).toArray.size = 8 := by simp [u8s_len, hsl]
  have hd8 : (out.take 8).length = 8 := by simp [hsl]
  generalize out.take 8 = dg at *
  (repeat refine RC.seq ?_); refine RC.drawS mixed (N := 14) rfl ?_
  refine DR.take 0 rfl (by first | exact List.Sublist.refl _ | exact List.Sublist.cons _ (List.Sublist.refl _)) inferInstance (by kernel_rfl) (by kernel_rfl) (by kernel_rfl) (by kernel_rfl) rfl rfl (Wanted.plain rfl) (Val.of rfl) ?_
  refine DR.take 1 rfl (by first | exact List.Sublist.refl _ | exact List.Sublist.cons _ (List.Sublist.refl _)) inferInstance (by kernel_rfl) (by kernel_rfl) (by kernel_rfl) (by kernel_rfl) rfl rfl (Wanted.plain rfl) (Val.of rfl) ?_
  refine DR.take 2 rfl (by first | exact List.Sublist.refl _ | exact List.Sublist.cons _ (List.Sublist.refl _)) inferInstance (by kernel_rfl) (by kernel_rfl) (by kernel_rfl) (by kernel_rfl) rfl rfl (Wanted.plain rfl) (Val.of rfl) ?_
  refine DR.take 5 rfl (by first | exact List.Sublist.refl _ | exact List.Sublist.cons _ (List.Sublist.refl _)) inferInstance (by kernel_rfl) (by kernel_rfl) (by kernel_rfl) (by kernel_rfl) rfl rfl (Wanted.plain rfl) (Val.loadAll tabOk rfl rfl rfl rfl m0 hsz8) ?_
  refine DR.one (i := 3) (by kernel_rfl) ?_
  refine DOp.op rfl (Wanted.plain rfl) (OpTo.new rfl rfl (New.buildSlice tabOk (parts := [(0, .tmp 41), (1, .tmp 42)]) (cells := [va, vb].toArray) rfl rfl rfl rfl rfl rfl (by rw [hea, heb]; exact fillS_full 1 2 _ [Value.slice aa _ ca, Value.slice ab _ cb] rfl (by simp [Value.cells])))) (.inl fun _ => by first | exact List.nil_sublist _ | exact List.Sublist.cons _ (List.Sublist.refl _)) ?_
  intro b43
  refine DR.one (i := 4) (by kernel_rfl) ?_
  refine DOp.op rfl (Wanted.plain rfl) (OpTo.callV Tryd.func12 rfl rfl rfl rfl rfl rfl (fun w' hm => Of_calls p hp _ _ [a, b] w' (SrcW.row hm m0 rfl (Nat.le_refl 2)) (parts2 (hva.mem hm) (hvb.mem hm)) (by omega) (by simpa using ⟨ha', hb'⟩) (hK.fr hm.fr (by simp)))) (.inl fun _ => by first | exact List.nil_sublist _ | exact List.Sublist.refl _ | exact List.Sublist.cons _ (List.Sublist.refl _) | exact List.Sublist.cons _ (List.Sublist.cons _ (List.Sublist.refl _))) (fun _ => ?_)
  refine DR.take 6 rfl (by first | exact List.Sublist.refl _ | exact List.Sublist.cons _ (List.Sublist.refl _)) inferInstance (by kernel_rfl) (by kernel_rfl) (by kernel_rfl) (by kernel_rfl) rfl rfl (Wanted.plain rfl) (Val.eq (Val.eqArr tabOk (a := digest p [a, b]) (b := dg) rfl rfl rfl rfl rfl (by kernel_rfl) (by kernel_rfl) (by kernel_rfl) rfl rfl (digest_len _ _) hd8) (show _ = Value.bool true from by rw [decide_eq_true hdig])) ?_
  refine DR.take 7 rfl (by first | exact List.Sublist.refl _ | exact List.Sublist.cons _ (List.Sublist.refl _)) inferInstance (by kernel_rfl) (by kernel_rfl) (by kernel_rfl) (by kernel_rfl) rfl rfl (Wanted.plain rfl) (Val.of rfl) ?_
  refine DR.take 8 rfl (by first | exact List.Sublist.refl _ | exact List.Sublist.cons _ (List.Sublist.refl _)) inferInstance (by kernel_rfl) (by kernel_rfl) (by kernel_rfl) (by kernel_rfl) rfl rfl (Wanted.guard rfl rfl rfl rfl) (Val.loadAll tabOk rfl rfl rfl rfl m1 hsz) ?_
  refine DR.take 9 rfl (by first | exact List.Sublist.refl _ | exact List.Sublist.cons _ (List.Sublist.refl _)) inferInstance (by kernel_rfl) (by kernel_rfl) (by kernel_rfl) (by kernel_rfl) rfl rfl (Wanted.guard rfl rfl rfl rfl) (Val.of rfl) ?_
  refine DR.one (i := 10) (by kernel_rfl) ?_
  refine DOp.op rfl (Wanted.guard rfl rfl rfl rfl) (OpTo.callV Tryd.func13 rfl rfl rfl rfl rfl rfl (fun w' hm => ref_Sum_calls v4 tx.length tx w' (hown.srcW (fun q hq => hm.has q (by simp [hq]))) (by omega) htb)) (.inl fun _ => by first | exact List.nil_sublist _ | exact List.Sublist.refl _ | exact List.Sublist.cons _ (List.Sublist.refl _) | exact List.Sublist.cons _ (List.Sublist.cons _ (List.Sublist.refl _))) (fun _ => ?_)
  refine DR.take 11 rfl (by first | exact List.Sublist.refl _ | exact List.Sublist.cons _ (List.Sublist.refl _)) inferInstance (by kernel_rfl) (by kernel_rfl) (by kernel_rfl) (by kernel_rfl) rfl rfl (Wanted.guard rfl rfl rfl rfl) (Val.eq (Val.eqArr tabOk (a := out) (b := sha tx) rfl rfl rfl rfl rfl (by kernel_rfl) (by kernel_rfl) (by kernel_rfl) rfl rfl hsl (sha_len tx)) (show _ = Value.bool true from by rw [decide_eq_true hout.symm])) ?_
  refine DR.take 12 rfl (by first | exact List.Sublist.refl _ | exact List.Sublist.cons _ (List.Sublist.refl _)) inferInstance (by kernel_rfl) (by kernel_rfl) (by kernel_rfl) (by kernel_rfl) rfl rfl (Wanted.plain rfl) (Val.of rfl) ?_
  refine DR.take 13 rfl (by first | exact List.Sublist.refl _ | exact List.Sublist.cons _ (List.Sublist.refl _)) inferInstance (by kernel_rfl) (by kernel_rfl) (by kernel_rfl) (by kernel_rfl) rfl rfl (Wanted.plain rfl) (Val.of rfl) ?_
  refine DR.done (by kernel_rfl) (RQ.next ?_)
  refine RC.ret ?_; (repeat first | refine RQ.thenRet ?_ | refine RQ.blockRet ?_); exact RQ.ret1 rfl (Res.tmp rfl) fun w' hm => ⟨rfl, hm.fr⟩
end Go.Proofs.YtigfcafpoegnjaaDoor
