/- hash.Of, hash.Two, hash.Zero. -/
import Derived.Test.YtmajfapnbchecaaGreatDoorSha5
import Derived.Test.YtmajfapnbchecaaGreatDoorDig0
import Derived.Test.YtmajfapnbchecaaGreatDoorVcM
set_option linter.unusedSimpArgs false
set_option linter.unusedVariables false
namespace Go.Proofs.YtmajfapnbchecaaGreatDoor
open Go Go.Vc Go.Sha

/-- Slices of bytes, as cells. -/
def Parts (w : World) (vs : List Value) (ls : List (List Nat)) : Prop := vs.length = ls.length ∧ ∀ i (h : i < vs.length) (h' : i < ls.length), SrcW w 1 vs[i] ls[i].length (u8s ls[i])
theorem Parts.fr {w w' : World} {vs : List Value} {ls : List (List Nat)} (h : Parts w vs ls) (hf : Fr [] w w') : Parts w' vs ls := ⟨h.1, fun i h1 h2 => (h.2 i h1 h2).fr hf⟩

theorem u8s_le4 (n : Nat) : u8s (le4 n) = [.int .u8 (n % 256 : Nat), .int .u8 (n / 256 % 256 : Nat), .int .u8 (n / 65536 % 256 : Nat), .int .u8 (n / 16777216 % 256 : Nat)] := rfl


set_option maxRecDepth 10000 in set_option maxHeartbeats 4000000 in
theorem Of_calls (p : Nat) (hp : p < 256) (pv : Value) (vs : List Value) (ls : List (List Nat)) (w : World) (hs : SrcW w 1 pv ls.length vs) (hps : Parts w vs ls)
    (ht : tot ls ≤ 1099511000000) (hb : ∀ l ∈ ls, ∀ x ∈ l, x < 256) (hK : Laid w) :
    Gives Tryz.prog 38 [.int .u8 p, pv] (.agg (u8s (digest p ls)).toArray) w := by
  refine enter Tryz.func38 rfl (Mem.nil w []) rfl ?_
  (repeat refine RC.seq ?_); refine RC.region ?_
  refine Run.nw (New.alloc tabOk rfl rfl) ?_
  intro b4
  refine Run.nil (RQ.next ?_)
  obtain ⟨pa, pc, hpv, hpc⟩ := hs.shape
  (repeat refine RC.seq ?_); refine RC.region ?_
  refine Run.a (Val.of rfl) ?_
  refine Run.nw (New.buildSlice tabOk (parts := [(0, .tmp 11)]) (cells := (u8s [p]).toArray) rfl rfl rfl rfl rfl rfl (fillS_full 1 1 _ [.int .u8 p] rfl (by simp [Value.cells]))) ?_
  intro b12
  refine Run.a (Val.of rfl) ?_
  refine Run.nil (RQ.next ?_)
  (repeat refine RC.seq ?_); refine RC.region ?_
  refine Run.a (Val.of rfl) ?_
  refine Run.a (Val.len (len := ls.length) tabOk rfl rfl rfl (by rw [hpv]; rfl)) ?_
  refine Run.a (Val.of rfl) ?_
  refine Run.nil (RQ.next ?_)
  (repeat refine RC.seq ?_); refine RC.block ?_
  refine RC.up ls.length (D := Value × Hp) (fun i x => Own 5 1 x.1 (1 + tot (ls.take i)) (u8s (text p (ls.take i))) x.2)
    (fun i x => [(15, .int .i64 i), (5, x.1), (13, pv), (14, .int .i64 ls.length), (4, .pointer (some ⟨b4, 0, none⟩))])
    (fun i x => x.2 ++ [(b4, .cells ti30.zero.cells 31 (0, 0))])
    0 (_, _) (Nat.zero_le _) (Own.row b12 1 1 (u8s [p]) [] rfl rfl (Nat.le_refl _) (by decide)) ⟨rfl, rfl, rfl, rfl, rfl, trivial⟩ (List.Sublist.refl _) ?_
  rintro i ⟨v5, bl5⟩ hi hown
  dsimp only at hown ⊢
  (repeat refine RC.seq ?_); refine RC.region ?_
  repeat refine Run.a (Val.of rfl) ?_
  refine Run.nil (RQ.next ?_)
  (repeat refine RC.seq ?_); refine RC.wh rfl (fun h => RQ.next ?_) (fun h => ?_)
  · have hi' : i < ls.length := by have := of_decide_eq_true h; omega
    clear h
    have h4 := tot_ge ls
    have h1 := tot_take_succ ls i hi'
    have h2 := tot_take_le ls i hi'
    have h3 := text_take_succ p ls i hi'
    have hvi := hps.2 i (by rw [hps.1]; exact hi') hi'
    obtain ⟨ai, ci, hav, hac⟩ := hvi.shape
    have hbi := hb ls[i] (List.getElem_mem hi')
    have hiv : i < vs.length := by rw [hps.1]; exact hi'
    have hgv : vs[i]? = some vs[i] := List.getElem?_eq_getElem hiv
    generalize hvv : vs[i] = vi at *
    generalize hle' : ls[i] = li at *
    obtain ⟨pa', pc', hpe, hpc', hpl, hpr⟩ := SrcW.pos hs (Nat.lt_of_le_of_lt (Nat.zero_le _) hi')
    clear hpv hpc
    subst hpe
    (repeat refine RC.seq ?_); refine RC.block ?_
    · (repeat refine RC.seq ?_); refine RC.region ?_
      refine Run.a (Val.ixS tabOk i (ad' := pa'.add i) rfl rfl rfl rfl rfl rfl rfl hi' (by simp [ti22])) ?_
      refine Run.a (Val.loadOld1 (v := vi) tabOk rfl rfl rfl rfl (by simp) (hpr i vi hgv)) ?_
      repeat refine Run.a (Val.of rfl) ?_
      refine Run.nil (RQ.next ?_)
      (repeat refine RC.seq ?_); refine RC.region ?_
      refine Run.a (Val.of rfl) ?_
      refine Run.a (Val.len (len := li.length) tabOk rfl rfl rfl (by rw [hav]; rfl)) ?_
      refine Run.a (Val.of rfl) ?_
      refine Run.nil (RQ.next ?_)
      refine RC.region ?_
      refine Run.a (Val.of rfl) ?_
      refine Run.a (Val.of rfl) ?_
      refine Run.a (Val.eq (Val.conv tabOk rfl rfl rfl rfl rfl rfl) (show _ = Value.int .u8 ((li.length % 256 : Nat) : Int) from congrArg (Value.int .u8) (by rw [wrap_u8]; rfl))) ?_
      refine Run.a (Val.of rfl) ?_
      refine Run.a (Val.shr (m := 8) rfl rfl rfl (by decide)) ?_
      refine Run.a (Val.eq (Val.conv tabOk rfl rfl rfl rfl rfl rfl) (show _ = Value.int .u8 ((li.length / 256 % 256 : Nat) : Int) from congrArg (Value.int .u8) (by rw [wrap_u8]; rfl))) ?_
      refine Run.a (Val.of rfl) ?_
      refine Run.a (Val.shr (m := 16) rfl rfl rfl (by decide)) ?_
      refine Run.a (Val.eq (Val.conv tabOk rfl rfl rfl rfl rfl rfl) (show _ = Value.int .u8 ((li.length / 65536 % 256 : Nat) : Int) from congrArg (Value.int .u8) (by rw [wrap_u8]; rfl))) ?_
      refine Run.a (Val.of rfl) ?_
      refine Run.a (Val.shr (m := 24) rfl rfl rfl (by decide)) ?_
      refine Run.a (Val.eq (Val.conv tabOk rfl rfl rfl rfl rfl rfl) (show _ = Value.int .u8 ((li.length / 16777216 % 256 : Nat) : Int) from congrArg (Value.int .u8) (by rw [wrap_u8]; rfl))) ?_
      refine Run.nw (New.buildSlice tabOk (parts := [(0, .tmp 23), (1, .tmp 26), (2, .tmp 29), (3, .tmp 32)]) (cells := (u8s (le4 li.length)).toArray) rfl rfl rfl rfl rfl rfl (fillS_full 1 4 _ [.int .u8 _, .int .u8 _, .int .u8 _, .int .u8 _] rfl (by simp [Value.cells]))) ?_
      intro b33
      refine Run.op rfl (OpTo.append tabOk hown (Src.at ⟨b33, 0, none⟩ 4 4 (u8s (le4 li.length)) rfl (Rd.rowAll List.mem_cons_self)) rfl rfl rfl rfl rfl rfl rfl rfl rfl (List.perm_middle.symm) (u8s_one _) (by unfold maxLen; omega) (by simp only [ti5]; omega)) ?_
      rintro ⟨⟨v6, bl6⟩, hown6⟩
      refine Run.a (Val.of rfl) ?_
      refine Run.op rfl (OpTo.append tabOk hown6 (hvi.src) rfl rfl rfl rfl rfl rfl rfl rfl rfl (List.Perm.refl _) (u8s_one _) (by unfold maxLen; omega) (by simp only [ti5]; omega)) ?_
      rintro ⟨⟨v7, bl7⟩, hown7⟩
      refine Run.a (Val.of rfl) ?_
      refine Run.nil (RQ.blockNormal (RQ.next ?_))
      refine RC.region ?_
      repeat (first | refine Run.a Val.ra ?_ | refine Run.a (Val.of rfl) ?_)
      refine Run.nil (RQ.up (i + 1) (v7, bl7) (Nat.lt_succ_self _) hi' ?_ ⟨rfl, rfl, rfl, rfl, rfl, trivial⟩ (List.Sublist.append (List.Sublist.refl _) (List.Sublist.cons _ (List.Sublist.refl _))))
      have h := hown7
      rw [← u8s_app, ← u8s_app, List.append_assoc, ← h3, show 1 + tot (ls.take i) + 4 + li.length = 1 + tot (ls.take (i + 1)) by omega] at h
      exact h
  · have hi' : i = ls.length := by have := of_decide_eq_false h; omega
    subst hi'
    rw [List.take_length] at hown
    have htl := text_len p ls
    have htb := text_lt p hp ls hb
    have hdig : digest p ls = (sha (text p ls)).take 8 := rfl
    rw [hdig]
    rw [← htl] at hown
    generalize text p ls = tx at *
    have hsl := sha_len tx
    (repeat refine RQ.thenExit ?_); refine RQ.blockHere ?_
    refine RQ.next ?_
    (repeat refine RC.seq ?_); refine RC.region ?_
    refine Run.a (Val.of rfl) ?_
    refine Run.callV Tryz.func88 rfl rfl rfl rfl rfl rfl rfl (fun w' hm => Sum_calls v5 tx.length tx w' (hown.srcW (fun q hq => hm.has q (List.mem_append_left _ hq))) (by omega) htb (hK.fr hm.fr (by simp))) ?_
    generalize sha tx = out at *
    have hsz : (u8s out).toArray.size = 32 := by simp [u8s_len, hsl]
    refine Run.nw (New.alloc tabOk rfl rfl) ?_
    intro b9
    refine Run.storeAll tabOk rfl rfl rfl rfl rfl rfl (List.Perm.refl _) hsz rfl (fun u hu => u8s_one out u (by simpa [Value.cells] using hu)) ?_
    refine Run.nil (RQ.next ?_)
    (repeat refine RC.seq ?_); refine RC.region ?_
    refine Run.nw (New.alloc tabOk rfl rfl) ?_
    intro b10
    refine Run.nil (RQ.next ?_)
    (repeat refine RC.seq ?_); refine RC.drawS mixed (N := 3) rfl ?_
    refine DR.t 0 rfl (Val.sliceA tabOk rfl rfl rfl rfl rfl) ?_
    refine DR.t 1 rfl (Val.sliceA tabOk rfl rfl rfl rfl rfl) ?_
    refine DR.c 2 ?_
    refine DOp.op1 rfl (OpTo.copyTo tabOk (arr' := (u8s (out.take 8)).toArray) (m := 8) (cs := u8s (out.take 8)) (u8s_take out 8 ▸ Rd.rowTake (cs := u8s out) (List.mem_cons_of_mem _ List.mem_cons_self) 8) (by rw [wrAt_all _ _ (by simp [u8s_len, hsl]; rfl)]) rfl rfl rfl rfl rfl rfl rfl rfl (List.Perm.refl _) (by simp [u8s_len, hsl, ti5]) rfl (by simp [u8s_len, hsl]; decide) (u8s_one _)) (fun _ => ?_)
    refine DR.done (by kernel_rfl) (RQ.next ?_)
    have hsz8 : (u8s (out.take 8)).toArray.size = 8 := by simp [u8s_len, hsl]
    generalize out.take 8 = dg at *
    (repeat refine RC.seq ?_); refine RC.region ?_
    refine Run.a (Val.loadAll tabOk rfl rfl rfl rfl List.mem_cons_self hsz8) ?_
    refine Run.storeAll (arr := ti31.zero.cells) (L' := _ :: _ :: bl5) tabOk rfl rfl rfl rfl rfl rfl (List.perm_append_comm (l₁ := _ :: _ :: bl5) (l₂ := [_])) hsz8 (by rfl) (fun u hu => u8s_one dg u (by simpa [Value.cells] using hu)) ?_
    exact Run.nil (RQ.next (RC.ret (RQ.ret1 rfl (Res.cellAll tabOk rfl rfl rfl List.mem_cons_self hsz8) fun w' hm => ⟨rfl, hm.fr⟩)))
end Go.Proofs.YtmajfapnbchecaaGreatDoor
