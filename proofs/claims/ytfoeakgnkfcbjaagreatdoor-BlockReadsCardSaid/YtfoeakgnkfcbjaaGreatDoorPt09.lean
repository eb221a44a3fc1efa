/- Lemmas. -/
import Derived.Test.YtfoeakgnkfcbjaaGreatDoorPt08
set_option linter.unusedSimpArgs false
set_option linter.unusedVariables false
section
/- hash.Of, hash.Two, hash.Zero. -/
namespace Go.Proofs.YtfoeakgnkfcbjaaGreatDoor
open Go Go.Vc Go.Sha

/-- Slices of bytes, as cells. -/
def Parts (w : World) (vs : List Value) (ls : List (List Nat)) : Prop := vs.length = ls.length ∧ ∀ i (h : i < vs.length) (h' : i < ls.length), SrcW w 1 vs[i] ls[i].length (u8s ls[i])
theorem Parts.fr {w w' : World} {vs : List Value} {ls : List (List Nat)} (h : Parts w vs ls) (hf : Fr [] w w') : Parts w' vs ls := ⟨h.1, fun i h1 h2 => (h.2 i h1 h2).fr hf⟩

set_option maxRecDepth 10000 in set_option maxHeartbeats 4000000 in
theorem Of_calls (p : Nat) (hp : p < 256) (pv : Value) (vs : List Value) (ls : List (List Nat)) (w : World) (hs : SrcW w 1 pv ls.length vs) (hps : Parts w vs ls)
    (ht : tot ls ≤ 1099511000000) (hb : ∀ l ∈ ls, ∀ x ∈ l, x < 256) (hK : Laid w) :
    Gives Tryz.prog 32 [.int .u8 p, pv] (.agg (u8s (digest p ls)).toArray) w := by
  refine enter Tryz.func32 rfl (Mem.nil w []) rfl ?_
  (repeat refine RC.seq ?_); refine RC.region ?_
  refine Run.nw (New.alloc tabOk rfl rfl) ?_
  intro b4
  refine Run.nil (RQ.next ?_)
  obtain ⟨pa, pc, hpv, hpc⟩ := hs.shape
  (repeat refine RC.seq ?_); refine RC.region ?_
  refine Run.a (Val.of rfl) ?_
  refine Run.nw (New.buildSlice tabOk (parts := [(0, .tmp 11)]) (cells := (u8s [p]).toArray) rfl rfl rfl rfl rfl rfl (fillS_full 1 1 _ [.int .u8 p] rfl (by simp [Value.cells]))) ?_
  intro b12
  refine Run.a (Val.of rfl) ?_
  refine Run.nil (RQ.next ?_)
  (repeat refine RC.seq ?_); refine RC.region ?_
  refine Run.a (Val.of rfl) ?_
  refine Run.a (Val.len (len := ls.length) tabOk rfl rfl rfl (by rw [hpv]; rfl)) ?_
  refine Run.a (Val.of rfl) ?_
  refine Run.nil (RQ.next ?_)
  (repeat refine RC.seq ?_); refine RC.block ?_
  refine RC.up ls.length (D := Value × Hp) (fun i x => Own 5 1 x.1 (1 + tot (ls.take i)) (u8s (text p (ls.take i))) x.2)
    (fun i x => [(15, .int .i64 i), (5, x.1), (13, pv), (14, .int .i64 ls.length), (4, .pointer (some ⟨b4, 0, none⟩))])
    (fun i x => x.2 ++ [(b4, .cells ti22.zero.cells 23 (0, 0))])
    0 (_, _) (Nat.zero_le _) (Own.row b12 1 1 (u8s [p]) [] rfl rfl (Nat.le_refl _) (by decide)) ⟨rfl, rfl, rfl, rfl, rfl, trivial⟩ (List.Sublist.refl _) ?_
  rintro i ⟨v5, bl5⟩ hi hown
  dsimp only at hown ⊢
  (repeat refine RC.seq ?_); refine RC.region ?_
  repeat refine Run.a (Val.of rfl) ?_
  refine Run.nil (RQ.next ?_)
  (repeat refine RC.seq ?_); refine RC.wh rfl (fun h => RQ.next ?_) (fun h => ?_)
  · have hi' : i < ls.length := by have := of_decide_eq_true h; omega
    clear h
    have h4 := tot_ge ls
    have h1 := tot_take_succ ls i hi'
    have h2 := tot_take_le ls i hi'
    have h3 := text_take_succ p ls i hi'
    have hvi := hps.2 i (by rw [hps.1]; exact hi') hi'
    obtain ⟨ai, ci, hav, hac⟩ := hvi.shape
    have hbi := hb ls[i] (List.getElem_mem hi')
    have hiv : i < vs.length := by rw [hps.1]; exact hi'
    have hgv : vs[i]? = some vs[i] := List.getElem?_eq_getElem hiv
    generalize hvv : vs[i] = vi at *
    generalize hle' : ls[i] = li at *
    obtain ⟨pa', pc', hpe, hpc', hpl, hpr⟩ := SrcW.pos hs (Nat.lt_of_le_of_lt (Nat.zero_le _) hi')
    clear hpv hpc
    subst hpe
    (repeat refine RC.seq ?_); refine RC.block ?_
    · (repeat refine RC.seq ?_); refine RC.region ?_
      refine Run.a (Val.ixS tabOk i (ad' := pa'.add i) rfl rfl rfl rfl rfl rfl rfl hi' (by simp [ti35])) ?_
      refine Run.a (Val.loadOld1 (v := vi) tabOk rfl rfl rfl rfl (by simp) (hpr i vi hgv)) ?_
      repeat refine Run.a (Val.of rfl) ?_
      refine Run.nil (RQ.next ?_)
      (repeat refine RC.seq ?_); refine RC.region ?_
      refine Run.a (Val.of rfl) ?_
      refine Run.a (Val.len (len := li.length) tabOk rfl rfl rfl (by rw [hav]; rfl)) ?_
      refine Run.a (Val.of rfl) ?_
      refine Run.nil (RQ.next ?_)
      refine RC.region ?_
      refine Run.a (Val.of rfl) ?_
      refine Run.a (Val.of rfl) ?_
      refine Run.a (Val.eq (Val.conv tabOk rfl rfl rfl rfl rfl rfl) (show _ = Value.int .u8 ((li.length % 256 : Nat) : Int) from congrArg (Value.int .u8) (by rw [wrap_u8]; rfl))) ?_
      refine Run.a (Val.of rfl) ?_
      refine Run.a (Val.shr (m := 8) rfl rfl rfl (by decide)) ?_
      refine Run.a (Val.eq (Val.conv tabOk rfl rfl rfl rfl rfl rfl) (show _ = Value.int .u8 ((li.length / 256 % 256 : Nat) : Int) from congrArg (Value.int .u8) (by rw [wrap_u8]; rfl))) ?_
      refine Run.a (Val.of rfl) ?_
      refine Run.a (Val.shr (m := 16) rfl rfl rfl (by decide)) ?_
      refine Run.a (Val.eq (Val.conv tabOk rfl rfl rfl rfl rfl rfl) (show _ = Value.int .u8 ((li.length / 65536 % 256 : Nat) : Int) from congrArg (Value.int .u8) (by rw [wrap_u8]; rfl))) ?_
      refine Run.a (Val.of rfl) ?_
      refine Run.a (Val.shr (m := 24) rfl rfl rfl (by decide)) ?_
      refine Run.a (Val.eq (Val.conv tabOk rfl rfl rfl rfl rfl rfl) (show _ = Value.int .u8 ((li.length / 16777216 % 256 : Nat) : Int) from congrArg (Value.int .u8) (by rw [wrap_u8]; rfl))) ?_
      refine Run.nw (New.buildSlice tabOk (parts := [(0, .tmp 23), (1, .tmp 26), (2, .tmp 29), (3, .tmp 32)]) (cells := (u8s (le4 li.length)).toArray) rfl rfl rfl rfl rfl rfl (fillS_full 1 4 _ [.int .u8 _, .int .u8 _, .int .u8 _, .int .u8 _] rfl (by simp [Value.cells]))) ?_
      intro b33
      refine Run.op rfl (OpTo.append tabOk hown (Src.at ⟨b33, 0, none⟩ 4 4 (u8s (le4 li.length)) rfl (Rd.rowAll List.mem_cons_self)) rfl rfl rfl rfl rfl rfl rfl rfl rfl (List.perm_middle.symm) (u8s_one _) (by unfold maxLen; omega) (by simp only [ti5]; omega)) ?_
      rintro ⟨⟨v6, bl6⟩, hown6⟩
      refine Run.a (Val.of rfl) ?_
      refine Run.op rfl (OpTo.append tabOk hown6 (hvi.src) rfl rfl rfl rfl rfl rfl rfl rfl rfl (List.Perm.refl _) (u8s_one _) (by unfold maxLen; omega) (by simp only [ti5]; omega)) ?_
      rintro ⟨⟨v7, bl7⟩, hown7⟩
      refine Run.a (Val.of rfl) ?_
      refine Run.nil (RQ.blockNormal (RQ.next ?_))
      refine RC.region ?_
      repeat (first | refine Run.a Val.ra ?_ | refine Run.a (Val.of rfl) ?_)
      refine Run.nil (RQ.up (i + 1) (v7, bl7) (Nat.lt_succ_self _) hi' ?_ ⟨rfl, rfl, rfl, rfl, rfl, trivial⟩ (List.Sublist.append (List.Sublist.refl _) (List.Sublist.cons _ (List.Sublist.refl _))))
      have h := hown7
      rw [← u8s_app, ← u8s_app, List.append_assoc, ← h3, show 1 + tot (ls.take i) + 4 + li.length = 1 + tot (ls.take (i + 1)) by omega] at h
      exact h
  · have hi' : i = ls.length := by have := of_decide_eq_false h; omega
    subst hi'
    rw [List.take_length] at hown
    have htl := text_len p ls
    have htb := text_lt p hp ls hb
    have hdig : digest p ls = (sha (text p ls)).take 8 := rfl
    rw [hdig]
    rw [← htl] at hown
    generalize text p ls = tx at *
    have hsl := sha_len tx
    (repeat refine RQ.thenExit ?_); refine RQ.blockHere ?_
    refine RQ.next ?_
    (repeat refine RC.seq ?_); refine RC.region ?_
    refine Run.a (Val.of rfl) ?_
    refine Run.callV Tryz.func63 rfl rfl rfl rfl rfl rfl rfl (fun w' hm => Sum_calls v5 tx.length tx w' (hown.srcW (fun q hq => hm.has q (List.mem_append_left _ hq))) (by omega) htb (hK.fr hm.fr (by simp))) ?_
    generalize sha tx = out at *
    have hsz : (u8s out).toArray.size = 32 := by simp [u8s_len, hsl]
    refine Run.nw (New.alloc tabOk rfl rfl) ?_
    intro b9
    refine Run.storeAll tabOk rfl rfl rfl rfl rfl rfl (List.Perm.refl _) hsz rfl (fun u hu => u8s_one out u (by simpa [Value.cells] using hu)) ?_
    refine Run.nil (RQ.next ?_)
    (repeat refine RC.seq ?_); refine RC.region ?_
    refine Run.nw (New.alloc tabOk rfl rfl) ?_
    intro b10
    refine Run.nil (RQ.next ?_)
    (repeat refine RC.seq ?_); refine RC.drawS mixed (N := 3) rfl ?_
    refine DR.t 0 rfl (Val.sliceA tabOk rfl rfl rfl rfl rfl) ?_
    refine DR.t 1 rfl (Val.sliceA tabOk rfl rfl rfl rfl rfl) ?_
    refine DR.c 2 ?_
    refine DOp.op1 rfl (OpTo.copyTo tabOk (arr' := (u8s (out.take 8)).toArray) (m := 8) (cs := u8s (out.take 8)) (u8s_take out 8 ▸ Rd.rowTake (cs := u8s out) (List.mem_cons_of_mem _ List.mem_cons_self) 8) (by rw [wrAt_all _ _ (by simp [u8s_len, hsl]; rfl)]) rfl rfl rfl rfl rfl rfl rfl rfl (List.Perm.refl _) (by simp [u8s_len, hsl, ti5]) rfl (by simp [u8s_len, hsl]; decide) (u8s_one _)) (fun _ => ?_)
    refine DR.done (by kernel_rfl) (RQ.next ?_)
    have hsz8 : (u8s (out.take 8)).toArray.size = 8 := by simp [u8s_len, hsl]
    generalize out.take 8 = dg at *
    (repeat refine RC.seq ?_); refine RC.region ?_
    refine Run.a (Val.loadAll tabOk rfl rfl rfl rfl List.mem_cons_self hsz8) ?_
    refine Run.storeAll (arr := ti23.zero.cells) (L' := _ :: _ :: bl5) tabOk rfl rfl rfl rfl rfl rfl (List.perm_append_comm (l₁ := _ :: _ :: bl5) (l₂ := [_])) hsz8 (by rfl) (fun u hu => u8s_one dg u (by simpa [Value.cells] using hu)) ?_
    exact Run.nil (RQ.next (RC.ret (RQ.ret1 rfl (Res.cellAll tabOk rfl rfl rfl List.mem_cons_self hsz8) fun w' hm => ⟨rfl, hm.fr⟩)))
end Go.Proofs.YtfoeakgnkfcbjaaGreatDoor
end
section
/- hash.Two; bytes by their place. -/
namespace Go.Proofs.YtfoeakgnkfcbjaaGreatDoor
open Go Go.Vc Go.Sha

theorem parts2 {w : World} {u v : Value} {a b : List Nat} (hu : SrcW w 1 u a.length (u8s a)) (hv : SrcW w 1 v b.length (u8s b)) : Parts w [u, v] [a, b] :=
  ⟨rfl, fun i h h' => by
    match i, h with
    | 0, _ => exact hu
    | 1, _ => exact hv⟩

set_option maxRecDepth 10000 in set_option maxHeartbeats 4000000 in
theorem Two_calls (p : Nat) (hp : p < 256) (a b : List Nat) (ha : a.length = 8) (hb : b.length = 8) (ha' : ∀ x ∈ a, x < 256) (hb' : ∀ x ∈ b, x < 256) (w : World) (hK : Laid w) :
    Gives Tryz.prog 102 [.int .u8 p, .agg (u8s a).toArray, .agg (u8s b).toArray] (.agg (u8s (digest p [a, b])).toArray) w := by
  refine enter Tryz.func102 rfl (Mem.nil w []) rfl ?_
  (repeat refine RC.seq ?_); refine RC.region ?_
  refine Run.nw (New.boxA rfl rfl) ?_
  intro b4
  refine Run.nw (New.boxA rfl rfl) ?_
  intro b5
  refine Run.nw (New.alloc tabOk rfl rfl) ?_
  intro b6
  refine Run.nil (RQ.next ?_)
  (repeat refine RC.seq ?_); refine RC.drawS mixed (N := 6) rfl ?_
  refine DR.t 0 rfl (Val.of rfl) ?_
  refine DR.t 1 rfl (Val.eq (Val.sliceA tabOk rfl rfl rfl rfl rfl) (show _ = Value.slice (some ⟨b4, 0, none⟩) a.length a.length from by rw [ha])) ?_
  refine DR.t 2 rfl (Val.eq (Val.sliceA tabOk rfl rfl rfl rfl rfl) (show _ = Value.slice (some ⟨b5, 0, none⟩) b.length b.length from by rw [hb])) ?_
  refine DR.c 3 ?_
  refine DOp.op1 rfl (OpTo.new rfl rfl (New.buildSlice tabOk (parts := [(0, .tmp 8), (1, .tmp 9)]) (cells := [Value.slice (some ⟨b4, 0, none⟩) a.length a.length, Value.slice (some ⟨b5, 0, none⟩) b.length b.length].toArray) rfl rfl rfl rfl rfl rfl (fillS_full 1 2 _ [Value.slice (some ⟨b4, 0, none⟩) a.length a.length, Value.slice (some ⟨b5, 0, none⟩) b.length b.length] rfl (by simp [Value.cells])))) ?_
  intro b10
  refine DR.c 4 ?_
  refine DOp.op1 rfl (OpTo.callV Tryz.func32 rfl rfl rfl rfl rfl rfl (fun w' hm => Of_calls p hp _ _ [a, b] w' (SrcW.row hm List.mem_cons_self rfl (Nat.le_refl 2)) (parts2 (u := .slice (some ⟨b4, 0, none⟩) a.length a.length) (v := .slice (some ⟨b5, 0, none⟩) b.length b.length) (SrcW.row hm m3 (by simp [u8s_len]) (Nat.le_refl _)) (SrcW.row hm m2 (by simp [u8s_len]) (Nat.le_refl _))) (by simp [tot, ha, hb]) (by simpa using ⟨ha', hb'⟩) (hK.fr hm.fr (by simp)))) (fun _ => ?_)
  have hd := digest_len p [a, b]
  generalize digest p [a, b] = dg at *
  have hsz : (u8s dg).toArray.size = 8 := by simp [u8s_len, hd]
  refine DR.c 5 ?_
  refine DOp.op1 rfl (OpTo.storeAll tabOk rfl rfl rfl rfl rfl (List.Perm.swap _ _ _) hsz rfl (fun u hu => u8s_one dg u (by simpa [Value.cells] using hu))) (fun _ => ?_)
  refine DR.done (by kernel_rfl) (RQ.next ?_)
  refine RC.ret ?_
  exact RQ.ret1 rfl (Res.cellAll tabOk rfl rfl rfl List.mem_cons_self hsz) fun w' hm => ⟨rfl, hm.fr⟩

end Go.Proofs.YtfoeakgnkfcbjaaGreatDoor
end
section
/- hash.Zero. -/
namespace Go.Proofs.YtfoeakgnkfcbjaaGreatDoor
open Go Go.Vc Go.Sha

set_option maxRecDepth 10000 in set_option maxHeartbeats 4000000 in
theorem Zero_calls (a : List Nat) (ha : a.length = 8) (w : World) :
    Gives Tryz.prog 155 [.agg (u8s a).toArray] (.bool (decide (a = List.replicate 8 0))) w := by
  refine enter Tryz.func155 rfl (Mem.nil w []) rfl ?_
  (repeat refine RC.seq ?_); refine RC.region ?_
  refine Run.nw (New.boxA rfl rfl) ?_
  intro b1
  refine Run.a (Val.of rfl) ?_
  refine Run.nil (RQ.next ?_)
  (repeat refine RC.seq ?_); refine RC.region ?_
  refine Run.a (Val.loadAll tabOk rfl rfl rfl rfl List.mem_cons_self (by show (u8s a).toArray.size = 8; simp [u8s_len, ha])) ?_
  refine Run.a (Val.buildA tabOk (parts := []) (cells := (u8s (List.replicate 8 0)).toArray) rfl rfl rfl rfl rfl rfl) ?_
  refine Run.a (Val.eqArr tabOk (b := List.replicate 8 0) rfl rfl rfl rfl rfl (by kernel_rfl) (by kernel_rfl) (by kernel_rfl) rfl rfl ha rfl) ?_
  refine Run.a (Val.of rfl) ?_
  refine Run.nil (RQ.next ?_)
  refine RC.ret ?_; (repeat first | refine RQ.thenRet ?_ | refine RQ.blockRet ?_); exact RQ.ret1 rfl (Res.tmp rfl) fun w' hm => ⟨rfl, hm.fr⟩

end Go.Proofs.YtfoeakgnkfcbjaaGreatDoor
end
section
/- The reference's turned, rounds, Num. -/
namespace Go.Proofs.YtfoeakgnkfcbjaaGreatDoor
open Go Go.Vc Go.Sha

/-- The k lowest bytes of a number, the lowest first. -/
def le (n : Nat) : Nat → List Nat
  | 0 => []
  | k + 1 => le n k ++ [n / 2 ^ (8 * k) % 256]
theorem le_len (n : Nat) : ∀ k, (le n k).length = k
  | 0 => rfl
  | k + 1 => by simp [le, le_len n k]
set_option maxRecDepth 10000 in set_option maxHeartbeats 4000000 in
theorem Num_calls (n k : Nat) (hk : k ≤ 8) (w : World) :
    Makes Tryz.prog 36 [.int .i64 n, .int .i64 k] w 5 1 k (u8s (le n k)) := by
  refine enter Tryz.func36 rfl (Mem.nil w []) rfl ?_
  (repeat refine RC.seq ?_); refine RC.region ?_
  refine Run.a (Val.of rfl) ?_
  refine Run.nil (RQ.next ?_)
  (repeat refine RC.seq ?_); refine RC.region ?_
  refine Run.a (Val.of rfl) ?_
  refine Run.nil (RQ.next ?_)
  (repeat refine RC.seq ?_); refine RC.region ?_
  refine Run.a (Val.of rfl) ?_
  refine Run.nil (RQ.next ?_)
  (repeat refine RC.seq ?_); refine RC.block ?_
  refine RC.up k (D := Value × Hp) (fun i x => Own 5 1 x.1 i (u8s (le n i)) x.2)
    (fun i x => [(6, .int .i64 i), (5, x.1), (0, .int .i64 n), (1, .int .i64 k)])
    (fun i x => x.2)
    0 (_, _) (Nat.zero_le _) Own.nil ⟨rfl, rfl, rfl, rfl, trivial⟩ (List.nil_sublist _) ?_
  rintro i ⟨v5, bl5⟩ hi hown
  dsimp only at hown ⊢
  (repeat refine RC.seq ?_); refine RC.region ?_
  repeat refine Run.a (Val.of rfl) ?_
  refine Run.nil (RQ.next ?_)
  (repeat refine RC.seq ?_); refine RC.wh rfl (fun h => RQ.next ?_) (fun h => ?_)
  · have hi' : i < k := by have := of_decide_eq_true h; omega
    clear h
    (repeat refine RC.seq ?_); refine RC.block ?_
    refine RC.region ?_
    refine Run.a (Val.of rfl) ?_
    refine Run.a (Val.of rfl) ?_
    refine Run.a (Val.of rfl) ?_
    refine Run.a (Val.eq (Val.ar rfl rfl rfl rfl (by dsimp only [inK]; omega)) (show _ = Value.int .i64 ((8 * i : Nat) : Int) from by congr 1)) ?_
    refine Run.a (Val.convIn tabOk rfl rfl rfl rfl rfl rfl (by simp only [inK]; omega)) ?_
    refine Run.a (Val.shr (m := 8 * i) rfl rfl rfl (by show _ ≤ 64; omega)) ?_
    refine Run.a (Val.eq (Val.conv tabOk rfl rfl rfl rfl rfl rfl) (show _ = Value.int .u8 ((n / 2 ^ (8 * i) % 256 : Nat) : Int) from congrArg (Value.int .u8) (by rw [wrap_u8]; rfl))) ?_
    refine Run.nw (New.buildSlice tabOk (parts := [(0, .tmp 18)]) (cells := (u8s [n / 2 ^ (8 * i) % 256]).toArray) rfl rfl rfl rfl rfl rfl (fillS_full 1 1 _ [.int .u8 _] rfl (by simp [Value.cells]))) ?_
    intro b4
    refine Run.op rfl (OpTo.append tabOk hown (Src.at ⟨b4, 0, none⟩ 1 1 (u8s [n / 2 ^ (8 * i) % 256]) rfl (Rd.rowAll List.mem_cons_self)) rfl rfl rfl rfl rfl rfl rfl rfl rfl (List.perm_append_comm (l₁ := [_]) (l₂ := bl5)) (u8s_one _) (by unfold maxLen; omega) (by simp only [ti5]; omega)) ?_
    rintro ⟨⟨v6, bl6⟩, hown6⟩
    refine Run.a (Val.of rfl) ?_
    refine Run.nil (RQ.blockNormal (RQ.next ?_))
    refine RC.region ?_
    repeat (first | refine Run.a Val.ra ?_ | refine Run.a (Val.of rfl) ?_)
    refine Run.nil (RQ.up (i + 1) (v6, bl6) (Nat.lt_succ_self _) hi' ?_ ⟨rfl, rfl, rfl, rfl, trivial⟩ (List.sublist_append_left _ _))
    have h := hown6
    rw [← u8s_app] at h
    exact h
  · have hi' : i = k := by have := of_decide_eq_false h; omega
    subst hi'
    (repeat refine RQ.thenExit ?_); refine RQ.blockHere ?_
    refine RQ.next ?_
    (repeat refine RC.seq ?_); refine RC.region ?_
    refine Run.a (Val.of rfl) ?_
    refine Run.a (Val.of rfl) ?_
    refine Run.nil (RQ.next ?_)
    exact RC.ret (RQ.ret1 rfl (Res.tmp rfl) fun w' hm => Makes.of (L' := []) hown (by simpa using hm))

end Go.Proofs.YtfoeakgnkfcbjaaGreatDoor

/- The reference's Sum is SHA-256. -/
namespace Go.Sha
theorem or_shift (a x p : Nat) (k : Nat) (hk : 2 ^ k = p) (hx : x < p) : a * p ||| x = a * p + x := by
  have := Nat.shiftLeft_add_eq_or_of_lt (i := k) (b := x) (by omega) a
  rw [Nat.shiftLeft_eq, hk] at this
  exact this.symm
end Go.Sha
namespace Go.Proofs.YtfoeakgnkfcbjaaGreatDoor
open Go Go.Vc Go.Sha

end Go.Proofs.YtfoeakgnkfcbjaaGreatDoor

/- The reference's Digest, Two. -/
namespace Go.Proofs.YtfoeakgnkfcbjaaGreatDoor
open Go Go.Vc Go.Sha

end Go.Proofs.YtfoeakgnkfcbjaaGreatDoor
end
section
/- The reference's keys that sign once: Secret, MarkOf, bit, Sign, Public. -/
namespace Go.Proofs.YtfoeakgnkfcbjaaGreatDoor
open Go Go.Vc Go.Sha

theorem parts1' {w : World} {u : Value} {a : List Nat} (hu : SrcW w 1 u a.length (u8s a)) : Parts w [u] [a] :=
  ⟨rfl, fun i h h' => by
    match i, h with
    | 0, _ => exact hu⟩

end Go.Proofs.YtfoeakgnkfcbjaaGreatDoor

/- The reference's Public. -/
namespace Go.Proofs.YtfoeakgnkfcbjaaGreatDoor
open Go Go.Vc Go.Sha

end Go.Proofs.YtfoeakgnkfcbjaaGreatDoor
end
section
/- Trees of rows: plain. -/
namespace Go.Sha

def leafN (h : List Nat) : List Nat := digest 108 [h]
def joinN (a b : List Nat) : List Nat := digest 109 [a, b]
def zero8 : List Nat := List.replicate 8 0
/-- The greatest power of two below n. -/
def cut (n : Nat) : Nat := 2 ^ Nat.log2 (n - 1)
theorem cut_pos (n : Nat) : 1 ≤ cut n := Nat.pow_pos (by decide)
theorem cut_lt {n : Nat} (h : 2 ≤ n) : cut n < n := by
  have := Nat.log2_self_le (n := n - 1) (by omega)
  unfold cut
  omega
def mroot (l : List (List Nat)) : List Nat :=
  if _h : l.length ≤ 1 then (match l with | [] => zero8 | x :: _ => leafN x)
  else joinN (mroot (l.take (cut l.length))) (mroot (l.drop (cut l.length)))
termination_by l.length
decreasing_by
  · have := cut_lt (n := l.length) (by omega); rw [List.length_take]; omega
  · have := cut_pos l.length; rw [List.length_drop]; omega
theorem mroot_nil : mroot [] = zero8 := by rw [mroot]; rfl
theorem mroot_one (x : List Nat) : mroot [x] = leafN x := by rw [mroot]; rfl
theorem mroot_cut {l : List (List Nat)} (h : 2 ≤ l.length) : mroot l = joinN (mroot (l.take (cut l.length))) (mroot (l.drop (cut l.length))) := by
  rw [mroot, dif_neg (by omega)]
theorem mroot_len (l : List (List Nat)) : (mroot l).length = 8 := by
  rw [mroot]
  split
  · cases l with
    | nil => rfl
    | cons x l => exact digest_len _ _
  · exact digest_len _ _
theorem mroot_lt (l : List (List Nat)) : ∀ x ∈ mroot l, x < 256 := by
  rw [mroot]
  split
  · cases l with
    | nil => intro x hx; simp [zero8] at hx; omega
    | cons x l => exact digest_lt _ _
  · exact digest_lt _ _
/-- A row's root: chapter 5. -/
def rootOf (l : List (List Nat)) : List Nat := if l.length ≤ 65536 then mroot l else zero8
theorem rootOf_len (l : List (List Nat)) : (rootOf l).length = 8 := by unfold rootOf; split; exact mroot_len l; rfl
theorem rootOf_lt (l : List (List Nat)) : ∀ x ∈ rootOf l, x < 256 := by
  unfold rootOf; split
  · exact mroot_lt l
  · intro x hx; simp [zero8] at hx; omega

end Go.Sha

/- merkle: half, leaf, join, Root; the reference's cut and Root; rows of hashes. -/
namespace Go.Sha
/-- Each is a hash. -/
def HL (l : List (List Nat)) : Prop := ∀ h ∈ l, h.length = 8 ∧ ∀ x ∈ h, x < 256
theorem HL.take {l : List (List Nat)} (h : HL l) (k : Nat) : HL (l.take k) := fun x hx => h x (List.mem_of_mem_take hx)
theorem HL.drop {l : List (List Nat)} (h : HL l) (k : Nat) : HL (l.drop k) := fun x hx => h x (List.mem_of_mem_drop hx)
theorem flatten_take : ∀ {l : List (List Nat)} (k : Nat), HL l → (l.take k).flatten = l.flatten.take (k * 8)
  | _, 0, _ => by simp
  | [], k + 1, _ => by simp
  | x :: l, k + 1, h => by
    rw [List.take_succ_cons, List.flatten_cons, flatten_take k (fun y hy => h y (List.mem_cons_of_mem _ hy)), List.flatten_cons, Nat.succ_mul, Nat.add_comm, ← (h x List.mem_cons_self).1, List.take_length_add_append]
theorem flatten_drop : ∀ {l : List (List Nat)} (k : Nat), HL l → (l.drop k).flatten = l.flatten.drop (k * 8)
  | _, 0, _ => by simp
  | [], k + 1, _ => by simp
  | x :: l, k + 1, h => by
    rw [List.drop_succ_cons, flatten_drop k (fun y hy => h y (List.mem_cons_of_mem _ hy)), List.flatten_cons, Nat.succ_mul, Nat.add_comm, ← (h x List.mem_cons_self).1, List.drop_length_add_append]
theorem pc_flat {l : List (List Nat)} {i : Nat} {x : List Nat} (h : HL l) (hx : l[i]? = some x) : pc 8 l.flatten i = x := by
  have hi := (List.getElem?_eq_some_iff.1 hx).1
  have h1 : pc 8 l.flatten i = ((l.drop i).take 1).flatten := by
    rw [flatten_take 1 (h.drop i), flatten_drop i h, Nat.one_mul]; rfl
  rw [h1, List.drop_eq_getElem_cons hi, List.take_succ_cons, List.take_zero, List.flatten_cons, List.flatten_nil, List.append_nil]
  exact (List.getElem?_eq_some_iff.1 hx).2
/-- How many bits a number has. -/
def lenN (x : Nat) : Nat := if x = 0 then 0 else Nat.log2 x + 1
def lens8 : List Nat := (List.range 256).map lenN
theorem lens8_lt : ∀ x ∈ lens8, x < 256 := by
  intro x hx
  simp only [lens8, List.mem_map, List.mem_range] at hx
  obtain ⟨y, hy, rfl⟩ := hx
  unfold lenN
  split
  · decide
  · have : Nat.log2 y < 8 := (Nat.log2_lt (by assumption)).2 (by omega)
    omega
theorem lens8_at (x : Nat) (h : x < 256) : lens8.getD x 0 = lenN x := by
  simp [lens8, List.getD_eq_getElem?_getD, h]
theorem lenN_shift (x : Nat) (h : 256 ≤ x) : 8 + lenN (x / 2 ^ 8) = lenN x := by
  have h0 : x / 2 ^ 8 ≠ 0 := by omega
  have h1 : x ≠ 0 := by omega
  unfold lenN
  rw [if_neg h0, if_neg h1]
  have h2 := (Nat.log2_eq_iff h0).1 rfl
  have : Nat.log2 x = Nat.log2 (x / 2 ^ 8) + 8 := by
    rw [Nat.log2_eq_iff h1]
    have e1 : 2 ^ (Nat.log2 (x / 2 ^ 8) + 8) = 2 ^ Nat.log2 (x / 2 ^ 8) * 256 := Nat.pow_add 2 _ 8
    have e2 : 2 ^ (Nat.log2 (x / 2 ^ 8) + 8 + 1) = 2 ^ (Nat.log2 (x / 2 ^ 8) + 1) * 256 := by rw [← Nat.pow_add 2 _ 8]
    rw [e1, e2]
    omega
  omega
theorem log2_small (x : Nat) (h0 : 0 < x) (h : x < 65536) : Nat.log2 x < 16 := (Nat.log2_lt (by omega)).2 h
end Go.Sha
namespace Go.Vc
open Go Go.Sha
theorem add_zero_ (a : Addr) : a.add 0 = a := Addr.add_zero' a
theorem SrcW.takeN {w : World} {sz m c k : Nat} {a : Addr} {cs : List Value} (hl : cs.length = m * sz) (hr : ∀ j u, cs[j]? = some u → w.cell? (a.add j) = some u) (hk : k ≤ m) (hmc : m ≤ c) : SrcW w sz (.slice (some a) k c) k (cs.take (k * sz)) :=
  .at a k c _ (by rw [List.length_take, hl]; exact Nat.min_eq_left (Nat.mul_le_mul_right _ hk)) (by omega) fun j u hj => hr j u (by rw [List.getElem?_take] at hj; split at hj; exact hj; cases hj)
theorem SrcW.dropN {w : World} {sz m c k : Nat} {a : Addr} {cs : List Value} (hl : cs.length = m * sz) (hr : ∀ j u, cs[j]? = some u → w.cell? (a.add j) = some u) (hmc : m ≤ c) : SrcW w sz (.slice (some (a.add (k * sz))) (m - k) (c - k)) (m - k) (cs.drop (k * sz)) :=
  .at _ _ _ _ (by rw [List.length_drop, hl, Nat.sub_mul]) (by omega) fun j u hj => by rw [add_add]; rw [List.getElem?_drop] at hj; exact hr _ u hj
end Go.Vc
namespace Go.Proofs.YtfoeakgnkfcbjaaGreatDoor
open Go Go.Vc Go.Sha

set_option maxRecDepth 100000 in
theorem Len64_calls (x : Nat) (hx : x < 65536) (w : World) : Gives Tryz.prog 144 [.int .u64 x] (.int .i64 (lenN x : Nat)) w := by
  refine enter Tryz.func144 rfl (Mem.nil w []) rfl ?_
  (repeat refine RC.seq ?_); refine RC.region ?_
  refine Run.a (Val.of rfl) ?_
  refine Run.nil (RQ.next ?_)
  (repeat refine RC.seq ?_); refine RC.region ?_
  refine Run.a (Val.of rfl) ?_
  refine Run.a (Val.of rfl) ?_
  refine Run.nil (RQ.next ?_)
  (repeat refine RC.seq ?_); refine RC.condF rfl (decide_eq_false (by omega)) (RC.skip (RQ.next ?_))
  (repeat refine RC.seq ?_); refine RC.region ?_
  refine Run.a (Val.of rfl) ?_
  refine Run.a (Val.of rfl) ?_
  refine Run.nil (RQ.next ?_)
  (repeat refine RC.seq ?_); refine RC.condF rfl (decide_eq_false (by omega)) (RC.skip (RQ.next ?_))
  (repeat refine RC.seq ?_); refine RC.region ?_
  refine Run.a (Val.of rfl) ?_
  refine Run.a (Val.of rfl) ?_
  refine Run.nil (RQ.next ?_)
  (repeat refine RC.seq ?_); refine RC.cond rfl (fun h => ?_) (fun h => ?_)
  · have h1 : 256 ≤ x := by have := of_decide_eq_true h; omega
    clear h
    (repeat refine RC.seq ?_); refine RC.region ?_
    refine Run.a (Val.of rfl) ?_
    refine Run.a (Val.shr (m := 8) rfl rfl rfl (by decide)) ?_
    refine Run.a (Val.of rfl) ?_
    refine Run.nil (RQ.next ?_)
    (repeat refine RC.seq ?_); refine RC.region ?_
    refine Run.a (Val.of rfl) ?_
    refine Run.a (Val.eq (Val.of rfl) (show _ = Value.int .i64 8 from rfl)) ?_
    refine Run.a (Val.of rfl) ?_
    refine Run.nil (RQ.next ?_)
    have h2 : x / 2 ^ 8 < 256 := by omega
    (repeat refine RC.seq ?_); refine RC.region ?_
    refine Run.a (Val.of rfl) ?_
    refine Run.a (Val.of rfl) ?_
    refine Run.a (Val.convIn tabOk rfl rfl rfl rfl rfl rfl (by simp only [inK]; omega)) ?_
    refine Run.a (Val.eq (Val.ixStr tabOk (x / 2 ^ 8) (a := lens8) rfl rfl rfl (by kernel_rfl) rfl rfl h2 lens8_lt) (show _ = Value.int .u8 ((lenN (x / 2 ^ 8) : Nat) : Int) from by rw [lens8_at _ h2])) ?_
    have h3 : lenN (x / 2 ^ 8) < 10 := by
      unfold lenN
      split
      · decide
      · have : Nat.log2 (x / 2 ^ 8) < 8 := (Nat.log2_lt (by assumption)).2 (by omega)
        omega
    refine Run.a (Val.convIn tabOk rfl rfl rfl rfl rfl rfl (by simp only [inK]; omega)) ?_
    refine Run.a (Val.eq (Val.ar rfl rfl rfl rfl (by dsimp only [inK]; omega)) (show _ = Value.int .i64 ((lenN x : Nat) : Int) from by rw [← lenN_shift x h1]; congr 1)) ?_
    refine Run.a (Val.of rfl) ?_
    refine Run.nil (RQ.next ?_)
    refine RC.ret ?_; (repeat first | refine RQ.thenRet ?_ | refine RQ.blockRet ?_); exact RQ.ret1 rfl (Res.tmp rfl) fun w' hm => ⟨rfl, hm.fr⟩
  · have h1 : x < 256 := by have := of_decide_eq_false h; omega
    clear h
    refine RC.skip (RQ.next ?_)
    (repeat refine RC.seq ?_); refine RC.region ?_
    refine Run.a (Val.of rfl) ?_
    refine Run.a (Val.of rfl) ?_
    refine Run.a (Val.convIn tabOk rfl rfl rfl rfl rfl rfl (by simp only [inK]; omega)) ?_
    refine Run.a (Val.eq (Val.ixStr tabOk x (a := lens8) rfl rfl rfl (by kernel_rfl) rfl rfl h1 lens8_lt) (show _ = Value.int .u8 ((lenN x : Nat) : Int) from by rw [lens8_at _ h1])) ?_
    have h3 : lenN x < 10 := by
      unfold lenN
      split
      · decide
      · have : Nat.log2 x < 8 := (Nat.log2_lt (by assumption)).2 (by omega)
        omega
    refine Run.a (Val.convIn tabOk rfl rfl rfl rfl rfl rfl (by simp only [inK]; omega)) ?_
    refine Run.a (Val.eq (Val.ar rfl rfl rfl rfl (by dsimp only [inK]; omega)) (show _ = Value.int .i64 ((lenN x : Nat) : Int) from by congr 1; omega)) ?_
    refine Run.a (Val.of rfl) ?_
    refine Run.nil (RQ.next ?_)
    refine RC.ret ?_; (repeat first | refine RQ.thenRet ?_ | refine RQ.blockRet ?_); exact RQ.ret1 rfl (Res.tmp rfl) fun w' hm => ⟨rfl, hm.fr⟩

set_option maxRecDepth 10000 in set_option maxHeartbeats 4000000 in
theorem Len_calls (x : Nat) (hx : x < 65536) (w : World) : Gives Tryz.prog 101 [.int .u64 x] (.int .i64 (lenN x : Nat)) w := by
  refine enter Tryz.func101 rfl (Mem.nil w []) rfl ?_
  (repeat refine RC.seq ?_); refine RC.region ?_
  refine Run.a (Val.of rfl) ?_
  refine Run.nil (RQ.next ?_)
  (repeat refine RC.seq ?_); refine RC.condF rfl rfl (RC.skip (RQ.next ?_))
  (repeat refine RC.seq ?_); refine RC.region ?_
  refine Run.a (Val.of rfl) ?_
  refine Run.callV Tryz.func144 rfl rfl rfl rfl rfl rfl rfl (fun w' _ => Len64_calls x hx w') ?_
  refine Run.a (Val.of rfl) ?_
  refine Run.nil (RQ.next ?_)
  refine RC.ret ?_; (repeat first | refine RQ.thenRet ?_ | refine RQ.blockRet ?_); exact RQ.ret1 rfl (Res.tmp rfl) fun w' hm => ⟨rfl, hm.fr⟩

set_option maxRecDepth 10000 in set_option maxHeartbeats 4000000 in
theorem half_calls (n : Nat) (h2 : 2 ≤ n) (hn : n ≤ 65536) (w : World) : Gives Tryz.prog 56 [.int .i64 n] (.int .i64 (cut n : Nat)) w := by
  refine enter Tryz.func56 rfl (Mem.nil w []) rfl ?_
  have hl := log2_small (n - 1) (by omega) (by omega)
  have hc : lenN (n - 1) = Nat.log2 (n - 1) + 1 := by unfold lenN; rw [if_neg (by omega)]
  have hp : 2 ^ Nat.log2 (n - 1) < 65536 := Nat.lt_of_lt_of_le (Nat.pow_lt_pow_right (by decide) hl) (Nat.le_refl _)
  unfold cut
  (repeat refine RC.seq ?_); refine RC.region ?_
  refine Run.a (Val.of rfl) ?_
  refine Run.nil (RQ.next ?_)
  (repeat refine RC.seq ?_); refine RC.region ?_
  refine Run.a (Val.of rfl) ?_
  refine Run.a (Val.eq (Val.ar rfl rfl rfl rfl (by dsimp only [inK]; omega)) (show _ = Value.int .i64 ((n - 1 : Nat) : Int) from by congr 1; omega)) ?_
  refine Run.a (Val.convIn tabOk rfl rfl rfl rfl rfl rfl (by simp only [inK]; omega)) ?_
  refine Run.callV Tryz.func101 rfl rfl rfl rfl rfl rfl rfl (fun w' _ => Len_calls (n - 1) (by omega) w') ?_
  rw [hc]
  generalize Nat.log2 (n - 1) = k at *
  refine Run.a (Val.eq (Val.ar rfl rfl rfl rfl (by dsimp only [inK]; omega)) (show _ = Value.int .i64 ((k : Nat) : Int) from by congr 1; omega)) ?_
  refine Run.a (Val.eq (Val.shl (a := 1) (m := k) rfl rfl rfl (by show _ ≤ 64; omega)) (show _ = Value.int .i64 ((2 ^ k : Nat) : Int) from by rw [Nat.one_mul, wrap_in (by simp only [inK]; generalize 2 ^ k = pw at *; omega)])) ?_
  refine Run.a (Val.of rfl) ?_
  refine Run.nil (RQ.next ?_)
  refine RC.ret ?_; (repeat first | refine RQ.thenRet ?_ | refine RQ.blockRet ?_); exact RQ.ret1 rfl (Res.tmp rfl) fun w' hm => ⟨rfl, hm.fr⟩

set_option maxRecDepth 10000 in set_option maxHeartbeats 4000000 in
theorem leaf_calls (h : List Nat) (hs : h.length = 8) (hlt : ∀ x ∈ h, x < 256) (w : World) (hK : Laid w) :
    Gives Tryz.prog 58 [.agg (u8s h).toArray] (.agg (u8s (leafN h)).toArray) w := by
  refine enter Tryz.func58 rfl (Mem.nil w []) rfl ?_
  (repeat refine RC.seq ?_); refine RC.region ?_
  refine Run.nw (New.boxA rfl rfl) ?_
  intro b1
  refine Run.nw (New.alloc tabOk rfl rfl) ?_
  intro b2
  refine Run.nil (RQ.next ?_)
  (repeat refine RC.seq ?_); refine RC.region ?_
  refine Run.a (Val.eq (Val.sliceA tabOk rfl rfl rfl rfl rfl) (show _ = Value.slice (some ⟨b1, 0, none⟩) h.length h.length from by rw [hs])) ?_
  refine Run.nw (New.buildSlice tabOk (parts := [(0, .tmp 3)]) (cells := [Value.slice (some ⟨b1, 0, none⟩) h.length h.length].toArray) rfl rfl rfl rfl rfl rfl (fillS_full 1 1 _ [Value.slice (some ⟨b1, 0, none⟩) h.length h.length] rfl (by simp [Value.cells]))) ?_
  intro b4
  refine Run.callV Tryz.func32 rfl rfl rfl rfl rfl rfl rfl (fun w' hm => Of_calls 108 (by decide) _ _ [h] w' (SrcW.row hm m0 rfl (Nat.le_refl 1)) (parts1' (u := .slice (some ⟨b1, 0, none⟩) h.length h.length) (SrcW.row hm m2 (by simp [u8s_len]) (Nat.le_refl _))) (by simp [tot, hs]) (by simpa using hlt) (hK.fr hm.fr (by simp))) ?_
  have hd : (leafN h).length = 8 := digest_len _ _
  rw [show digest 108 [h] = leafN h from rfl]
  generalize leafN h = dg at *
  refine Run.op1 (OpTo.setAll tabOk rfl rfl rfl rfl rfl p1 hd rfl) (fun _ => ?_)
  refine Run.nil (RQ.next ?_)
  refine RC.ret ?_; (repeat first | refine RQ.thenRet ?_ | refine RQ.blockRet ?_)
  exact RQ.ret1 rfl (Res.cellU tabOk rfl rfl rfl m0 hd) fun w' hm => ⟨rfl, hm.fr⟩

set_option maxRecDepth 10000 in set_option maxHeartbeats 4000000 in
theorem join_calls (a b : List Nat) (ha : a.length = 8) (hb : b.length = 8) (ha' : ∀ x ∈ a, x < 256) (hb' : ∀ x ∈ b, x < 256) (w : World) (hK : Laid w) :
    Gives Tryz.prog 59 [.agg (u8s a).toArray, .agg (u8s b).toArray] (.agg (u8s (joinN a b)).toArray) w := by
  refine enter Tryz.func59 rfl (Mem.nil w []) rfl ?_
  (repeat refine RC.seq ?_); refine RC.region ?_
  refine Run.nw (New.boxA rfl rfl) ?_
  intro b2
  refine Run.nw (New.boxA rfl rfl) ?_
  intro b3
  refine Run.nw (New.alloc tabOk rfl rfl) ?_
  intro b4
  refine Run.nil (RQ.next ?_)
  (repeat refine RC.seq ?_); refine RC.region ?_
  refine Run.a (Val.loadU tabOk rfl rfl rfl rfl (by repeat (first | exact List.mem_cons_self | apply List.mem_cons_of_mem | apply List.mem_append_right)) ha) ?_
  refine Run.a (Val.loadU tabOk rfl rfl rfl rfl (by repeat (first | exact List.mem_cons_self | apply List.mem_cons_of_mem | apply List.mem_append_right)) hb) ?_
  refine Run.callV Tryz.func102 rfl rfl rfl rfl rfl rfl rfl (fun w' hm => Two_calls 109 (by decide) a b ha hb ha' hb' w' (hK.fr hm.fr (by simp))) ?_
  have hd : (joinN a b).length = 8 := digest_len _ _
  rw [show digest 109 [a, b] = joinN a b from rfl]
  generalize joinN a b = dg at *
  refine Run.op1 (OpTo.setAll tabOk rfl rfl rfl rfl rfl (List.Perm.refl _) hd rfl) (fun _ => ?_)
  refine Run.nil (RQ.next ?_)
  refine RC.ret ?_; (repeat first | refine RQ.thenRet ?_ | refine RQ.blockRet ?_)
  exact RQ.ret1 rfl (Res.cellU tabOk rfl rfl rfl m0 hd) fun w' hm => ⟨rfl, hm.fr⟩

theorem rootOf_cut {l : List (List Nat)} (h2 : 2 ≤ l.length) (h : l.length ≤ 65536) : joinN (rootOf (l.take (cut l.length))) (rootOf (l.drop (cut l.length))) = rootOf l := by
  have hc := cut_lt h2
  unfold rootOf
  rw [if_pos h, if_pos (by rw [List.length_take]; omega), if_pos (by rw [List.length_drop]; omega), ← mroot_cut h2]

set_option maxRecDepth 10000 in set_option maxHeartbeats 4000000 in
theorem Root_calls : ∀ (n : Nat) (l : List (List Nat)), l.length = n → HL l → ∀ (v : Value) (w : World), SrcW w 8 v l.length (u8s l.flatten) → Laid w →
    Gives Tryz.prog 35 [v] (.agg (u8s (rootOf l)).toArray) w := by
  intro n
  induction n using Nat.strongRecOn with
  | _ n ih =>
  intro l hl hH v w hs hK
  have hrl := rootOf_len l
  by_cases h0 : l.length = 0
  · obtain ⟨a, c, rfl, hc⟩ := hs.shape
    have hz : rootOf l = List.replicate 8 0 := by rw [List.eq_nil_of_length_eq_zero h0]; unfold rootOf; rw [if_pos (by decide), mroot_nil]; rfl
    rw [hz]
    refine enter Tryz.func35 rfl (Mem.nil w []) rfl ?_
    (repeat refine RC.seq ?_); refine RC.region ?_
    refine Run.nw (New.alloc tabOk rfl rfl) ?_
    intro b2
    refine Run.nil (RQ.next ?_)
    (repeat refine RC.seq ?_); refine RC.region ?_
    refine Run.a (Val.of rfl) ?_
    refine Run.a (Val.len (len := l.length) tabOk rfl rfl rfl rfl) ?_
    refine Run.a (Val.of rfl) ?_
    refine Run.nil (RQ.next ?_)
    (repeat refine RC.seq ?_); refine RC.block ?_
    (repeat refine RC.seq ?_); refine RC.region ?_
    refine Run.a (Val.of rfl) ?_
    refine Run.a (Val.eq (Val.of rfl) (show _ = Value.bool true from congrArg Value.bool (by rw [beq_iff_eq]; omega))) ?_
    refine Run.a (Val.of rfl) ?_
    refine Run.sk ?_
    refine Run.sk ?_
    refine Run.a (Val.of rfl) ?_
    refine Run.a (Val.of rfl) ?_
    refine Run.nil (RQ.next ?_)
    (repeat refine RC.seq ?_); refine RC.condT rfl rfl ?_
    (repeat refine RC.seq ?_); refine RC.region ?_
    refine Run.a (Val.buildA tabOk (parts := []) (cells := (u8s (List.replicate 8 0)).toArray) rfl rfl rfl rfl rfl rfl) ?_
    refine Run.op1 (OpTo.setAll tabOk rfl rfl rfl rfl rfl (List.Perm.refl _) rfl rfl) (fun _ => ?_)
    refine Run.nil (RQ.next ?_)
    refine RC.ret ?_; (repeat first | refine RQ.thenRet ?_ | refine RQ.blockRet ?_)
    exact RQ.ret1 rfl (Res.cellU tabOk rfl rfl rfl m0 rfl) fun w' hm => ⟨rfl, hm.fr⟩
  · obtain ⟨ad, c, rfl, hc, hcl, hr⟩ := hs.pos (by omega)
    refine enter Tryz.func35 rfl (Mem.nil w []) rfl ?_
    (repeat refine RC.seq ?_); refine RC.region ?_
    refine Run.nw (New.alloc tabOk rfl rfl) ?_
    intro b2
    refine Run.nil (RQ.next ?_)
    (repeat refine RC.seq ?_); refine RC.region ?_
    refine Run.a (Val.of rfl) ?_
    refine Run.a (Val.len (len := l.length) tabOk rfl rfl rfl rfl) ?_
    refine Run.a (Val.of rfl) ?_
    refine Run.nil (RQ.next ?_)
    (repeat refine RC.seq ?_); refine RC.block ?_
    (repeat refine RC.seq ?_); refine RC.region ?_
    refine Run.a (Val.of rfl) ?_
    refine Run.a (Val.eq (Val.of rfl) (show _ = Value.bool false from congrArg Value.bool (by rw [beq_eq_false_iff_ne]; omega))) ?_
    refine Run.a (Val.of rfl) ?_
    refine Run.a (Val.of rfl) ?_
    refine Run.a (Val.eq (Val.of rfl) (show _ = Value.bool (decide (65536 < l.length)) from congrArg Value.bool (by rw [decide_eq_decide]; omega))) ?_
    refine Run.a (Val.of rfl) ?_
    refine Run.a (Val.of rfl) ?_
    refine Run.nil (RQ.next ?_)
    (repeat refine RC.seq ?_); refine RC.cond rfl (fun h => ?_) (fun h => ?_)
    · have h1 := of_decide_eq_true h
      have hz : rootOf l = List.replicate 8 0 := by unfold rootOf; rw [if_neg (by omega)]; rfl
      rw [hz]
      (repeat refine RC.seq ?_); refine RC.region ?_
      refine Run.a (Val.buildA tabOk (parts := []) (cells := (u8s (List.replicate 8 0)).toArray) rfl rfl rfl rfl rfl rfl) ?_
      refine Run.op1 (OpTo.setAll tabOk rfl rfl rfl rfl rfl (List.Perm.refl _) rfl rfl) (fun _ => ?_)
      refine Run.nil (RQ.next ?_)
      refine RC.ret ?_; (repeat first | refine RQ.thenRet ?_ | refine RQ.blockRet ?_)
      exact RQ.ret1 rfl (Res.cellU tabOk rfl rfl rfl m0 rfl) fun w' hm => ⟨rfl, hm.fr⟩
    · have h1 := of_decide_eq_false h
      clear h
      (repeat refine RC.seq ?_); refine RC.region ?_
      refine Run.a (Val.of rfl) ?_
      refine Run.a (Val.eq (Val.of rfl) (show _ = Value.bool (decide (l.length = 1)) from congrArg Value.bool (by rw [Bool.eq_iff_iff, beq_iff_eq, decide_eq_true_iff]; omega))) ?_
      refine Run.a (Val.of rfl) ?_
      refine Run.nil (RQ.next ?_)
      (repeat refine RC.seq ?_); refine RC.cond rfl (fun h => ?_) (fun h => ?_)
      · have h2 := of_decide_eq_true h
        obtain ⟨x, rfl⟩ : ∃ x, l = [x] := by
          match l, h2 with
          | [x], _ => exact ⟨x, rfl⟩
        have hx := hH x List.mem_cons_self
        have hz : rootOf [x] = leafN x := by unfold rootOf; rw [if_pos (by simp), mroot_one]
        rw [hz]
        have hd : (leafN x).length = 8 := digest_len _ _
        have hfl : u8s [x].flatten = u8s x := by simp
        rw [hfl] at hr
        (repeat refine RC.seq ?_); refine RC.region ?_
        refine Run.a (Val.of rfl) ?_
        refine Run.a (Val.ixS tabOk 0 (ad' := ad) rfl rfl rfl rfl rfl rfl rfl (by simp) (by rw [Nat.zero_mul]; exact add_zero_ ad)) ?_
        refine Run.a (Val.loadOld tabOk (cs := u8s x) rfl rfl rfl rfl (by simp) (by rw [u8s_len, hx.1]; rfl) hr) ?_
        refine Run.callV Tryz.func58 rfl rfl rfl rfl rfl rfl rfl (fun w' hm => leaf_calls x hx.1 hx.2 w' (hK.fr hm.fr (by simp))) ?_
        generalize leafN x = dg at *
        refine Run.op1 (OpTo.setAll tabOk rfl rfl rfl rfl rfl (List.Perm.refl _) hd rfl) (fun _ => ?_)
        refine Run.nil (RQ.next ?_)
        refine RC.ret ?_; (repeat first | refine RQ.thenRet ?_ | refine RQ.blockRet ?_)
        exact RQ.ret1 rfl (Res.cellU tabOk rfl rfl rfl m0 hd) fun w' hm => ⟨rfl, hm.fr⟩
      · have h2 := of_decide_eq_false h
        clear h
        have hlt := cut_lt (n := l.length) (by omega)
        have hps := cut_pos l.length
        have hrc := rootOf_cut (l := l) (by omega) (by omega)
        have ht : SrcW w 8 (.slice (some ad) (cut l.length) c) (l.take (cut l.length)).length (u8s (l.take (cut l.length)).flatten) := by
          rw [List.length_take, Nat.min_eq_left (by omega), flatten_take _ hH, u8s_take]
          exact SrcW.takeN hcl hr (by omega) hc
        have hdp : SrcW w 8 (.slice (some (ad.add (cut l.length * 8))) (l.length - cut l.length) (c - cut l.length)) (l.drop (cut l.length)).length (u8s (l.drop (cut l.length)).flatten) := by
          rw [List.length_drop, flatten_drop _ hH, u8s_drop]
          exact SrcW.dropN hcl hr hc
        have ih1 := ih (cut l.length) (by omega) (l.take (cut l.length)) (by rw [List.length_take]; omega) (hH.take _)
        have ih2 := ih (l.length - cut l.length) (by omega) (l.drop (cut l.length)) (by rw [List.length_drop]) (hH.drop _)
        have r1 := rootOf_len (l.take (cut l.length))
        have r2 := rootOf_len (l.drop (cut l.length))
        have s1 := rootOf_lt (l.take (cut l.length))
        have s2 := rootOf_lt (l.drop (cut l.length))
        refine RC.skip (RQ.blockNormal (RQ.next ?_))
        (repeat refine RC.seq ?_); refine RC.region ?_
        refine Run.a (Val.of rfl) ?_
        refine Run.a (Val.len (len := l.length) tabOk rfl rfl rfl rfl) ?_
        refine Run.callV Tryz.func56 rfl rfl rfl rfl rfl rfl rfl (fun w' _ => half_calls l.length (by omega) (by omega) w') ?_
        refine Run.a (Val.of rfl) ?_
        refine Run.nil (RQ.next ?_)
        (repeat refine RC.seq ?_); refine RC.drawS mixed (N := 10) rfl ?_
        refine DR.t 0 rfl (Val.of rfl) ?_
        refine DR.t 1 rfl (Val.of rfl) ?_
        refine DR.t 2 rfl (Val.eq (Val.sliceS' tabOk 0 (cut l.length) rfl rfl rfl rfl rfl (.inl ⟨rfl, rfl⟩) (.inr ⟨_, rfl, rfl⟩) (by omega) (by omega) (by omega) rfl) (show _ = Value.slice (some ad) (cut l.length) c from by rw [Nat.zero_mul, add_zero_, Nat.sub_zero, Nat.sub_zero])) ?_
        refine DR.t 4 rfl (Val.of rfl) ?_
        refine DR.t 5 rfl (Val.of rfl) ?_
        refine DR.t 6 rfl (Val.sliceS' tabOk (cut l.length) l.length rfl rfl rfl rfl rfl (.inr ⟨_, rfl, rfl⟩) (.inl ⟨rfl, rfl⟩) (by omega) (by omega) (by omega) rfl) ?_
        refine DR.c 3 ?_
        refine DOp.op1 rfl (OpTo.callV Tryz.func35 rfl rfl rfl rfl rfl rfl (fun w' hm => ih1 _ w' (ht.mem hm) (hK.fr hm.fr (by simp)))) (fun _ => ?_)
        refine DR.c 7 ?_
        refine DOp.op1 rfl (OpTo.callV Tryz.func35 rfl rfl rfl rfl rfl rfl (fun w' hm => ih2 _ w' (hdp.mem hm) (hK.fr hm.fr (by simp)))) (fun _ => ?_)
        refine DR.c 8 ?_
        refine DOp.op1 rfl (OpTo.callV Tryz.func59 rfl rfl rfl rfl rfl rfl (fun w' hm => join_calls _ _ r1 r2 s1 s2 w' (hK.fr hm.fr (by simp)))) (fun _ => ?_)
        rw [hrc]
        generalize rootOf l = dg at *
        refine DR.c 9 ?_
        refine DOp.op1 rfl (OpTo.setAll tabOk rfl rfl rfl rfl rfl (List.Perm.refl _) hrl rfl) (fun _ => ?_)
        refine DR.done (by kernel_rfl) (RQ.next ?_)
        refine RC.ret ?_; (repeat first | refine RQ.thenRet ?_ | refine RQ.blockRet ?_)
        exact RQ.ret1 rfl (Res.cellU tabOk rfl rfl rfl m0 hrl) fun w' hm => ⟨rfl, hm.fr⟩
end Go.Proofs.YtfoeakgnkfcbjaaGreatDoor

/- merkle.Prove, turns, Check. -/
namespace Go.Vc
open Go
section
variable {P : Program} {n : Nat} {w0 : World} {S0 : List Nat} {Q : Exit → Act → World → Prop} {E : Env} {L : Hp} {o : Oper} {d : Nat}
end
end Go.Vc
namespace Go.Sha
end Go.Sha
namespace Go.Proofs.YtfoeakgnkfcbjaaGreatDoor
open Go Go.Vc Go.Sha

end Go.Proofs.YtfoeakgnkfcbjaaGreatDoor
end
section
/- The reference's cut, Root, Prove. -/
namespace Go.Vc
open Go
section
variable {P : Program} {n : Nat} {w0 : World} {S0 : List Nat} {E : Env} {L : Hp} {o : Oper} {T : List (Nat × TI)} {t : Nat} {ti : TI}
end
end Go.Vc
namespace Go.Proofs.YtfoeakgnkfcbjaaGreatDoor
open Go Go.Vc Go.Sha

end Go.Proofs.YtfoeakgnkfcbjaaGreatDoor
end
section
/- The reference's Publics, Tree. -/
namespace Go.Sha
end Go.Sha
namespace Go.Proofs.YtfoeakgnkfcbjaaGreatDoor
open Go Go.Vc Go.Sha

end Go.Proofs.YtfoeakgnkfcbjaaGreatDoor
end
section
/- merkle.turns, Check. -/
namespace Go.Sha
end Go.Sha
namespace Go.Proofs.YtfoeakgnkfcbjaaGreatDoor
open Go Go.Vc Go.Sha

end Go.Proofs.YtfoeakgnkfcbjaaGreatDoor

/- The reference's up, CheckRow. -/
namespace Go.Sha
end Go.Sha
namespace Go.Proofs.YtfoeakgnkfcbjaaGreatDoor
open Go Go.Vc Go.Sha

end Go.Proofs.YtfoeakgnkfcbjaaGreatDoor
end
section
/- lamport: bit, markH, public, Make, Sign, Public. -/
namespace Go.Sha
end Go.Sha
namespace Go.Proofs.YtfoeakgnkfcbjaaGreatDoor
open Go Go.Vc Go.Sha

end Go.Proofs.YtfoeakgnkfcbjaaGreatDoor

/- lamport: public, Public; the reference's Public. -/
namespace Go.Sha
end Go.Sha
namespace Go.Proofs.YtfoeakgnkfcbjaaGreatDoor
open Go Go.Vc Go.Sha

end Go.Proofs.YtfoeakgnkfcbjaaGreatDoor

/- lamport: a key's Public; Public; the reference's Public. -/
namespace Go.Sha
end Go.Sha
namespace Go.Proofs.YtfoeakgnkfcbjaaGreatDoor
open Go Go.Vc Go.Sha

end Go.Proofs.YtfoeakgnkfcbjaaGreatDoor
end
