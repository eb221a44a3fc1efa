/- Lemmas. -/
import Derived.Test.YtfoeakgnkfcbjaaGreatDoorPr09
set_option linter.unusedSimpArgs false
set_option linter.unusedVariables false
section
/- The reference's turned, rounds, Num. -/
namespace Go.Proofs.YtfoeakgnkfcbjaaGreatDoor
open Go Go.Vc Go.Sha

set_option maxRecDepth 10000 in set_option maxHeartbeats 4000000 in
theorem turned_calls (x n : Nat) (hx : x < 4294967296) (h0 : 0 < n) (h1 : n < 32) (w : World) :
    Gives Tryz.prog 66 [.int .u32 x, .int .u64 n] (.int .u32 (rotr n x)) w := by
  refine enter Tryz.func66 rfl (Mem.nil w []) rfl ?_
  (repeat refine RC.seq ?_); refine RC.region ?_
  repeat refine Run.a (Val.of rfl) ?_
  refine Run.nil (RQ.next ?_)
  (repeat refine RC.seq ?_); refine RC.region ?_
  refine Run.a (Val.of rfl) ?_
  refine Run.a (Val.of rfl) ?_
  refine Run.a (Val.shr rfl rfl rfl (by show _ ≤ 32; omega)) ?_
  refine Run.a (Val.of rfl) ?_
  refine Run.a (Val.of rfl) ?_
  refine Run.a (Val.eq (Val.ar rfl rfl rfl rfl (by dsimp only [inK]; omega)) (show _ = Value.int .u64 ((32 - n : Nat) : Int) from by congr 1; omega)) ?_
  refine Run.a (Val.eq (Val.shl rfl rfl rfl (by show _ ≤ 32; omega)) (congrArg (Value.int .u32) (u32_wr _))) ?_
  refine Run.a (Val.eq (Val.of rfl) (show _ = Value.int .u32 ((rotr n x : Nat) : Int) from congrArg (Value.int .u32) (by unfold rotr; rw [u32_or _ _ (Nat.lt_of_le_of_lt (Nat.div_le_self _ _) hx) (Nat.mod_lt _ (by decide)), Nat.or_comm]))) ?_
  refine Run.a (Val.of rfl) ?_
  refine Run.nil (RQ.next ?_)
  refine RC.ret ?_; (repeat first | refine RQ.thenRet ?_ | refine RQ.blockRet ?_); exact RQ.ret1 rfl (Res.tmp rfl) fun w' hm => ⟨rfl, hm.fr⟩

set_option maxRecDepth 10000 in set_option maxHeartbeats 4000000 in
theorem rounds_calls (w : World) : Gives Tryz.prog 65 [] (.agg (u32s K).toArray) w := by
  refine enter Tryz.func65 rfl (Mem.nil w []) rfl ?_
  (repeat refine RC.seq ?_); refine RC.region ?_
  refine Run.nw (New.alloc tabOk rfl rfl) ?_
  intro b0
  refine Run.nil (RQ.next ?_)
  have hK : (u32s K).toArray.size = 64 := rfl
  (repeat refine RC.seq ?_); refine RC.region ?_
  refine Run.a (Val.buildA tabOk (parts := (List.range 64).map fun i => (i, .const (.int .u32 (K.getD i 0 : Nat)))) (vs := u32s K) (cells := (u32s K).toArray) rfl rfl rfl rfl rfl (by kernel_rfl)) ?_
  have h1 := u32s_one K
  generalize u32s K = k at *
  refine Run.storeAll tabOk rfl rfl rfl rfl rfl rfl (List.Perm.refl _) hK rfl (fun u hu => h1 u (by simpa [Value.cells] using hu)) ?_
  exact Run.nil (RQ.next (RC.ret (RQ.ret1 rfl (Res.cellAll tabOk rfl rfl rfl List.mem_cons_self hK) fun w' hm => ⟨rfl, hm.fr⟩)))

/-- The k lowest bytes of a number, the lowest first. -/
def le (n : Nat) : Nat → List Nat
  | 0 => []
  | k + 1 => le n k ++ [n / 2 ^ (8 * k) % 256]
theorem le_len (n : Nat) : ∀ k, (le n k).length = k
  | 0 => rfl
  | k + 1 => by simp [le, le_len n k]
theorem le_four (n : Nat) : le n 4 = le4 n := by simp [le, le4]

set_option maxRecDepth 10000 in set_option maxHeartbeats 4000000 in
theorem Num_calls (n k : Nat) (hk : k ≤ 8) (w : World) :
    Makes Tryz.prog 36 [.int .i64 n, .int .i64 k] w 5 1 k (u8s (le n k)) := by
  refine enter Tryz.func36 rfl (Mem.nil w []) rfl ?_
  (repeat refine RC.seq ?_); refine RC.region ?_
  refine Run.a (Val.of rfl) ?_
  refine Run.nil (RQ.next ?_)
  (repeat refine RC.seq ?_); refine RC.region ?_
  refine Run.a (Val.of rfl) ?_
  refine Run.nil (RQ.next ?_)
  (repeat refine RC.seq ?_); refine RC.region ?_
  refine Run.a (Val.of rfl) ?_
  refine Run.nil (RQ.next ?_)
  (repeat refine RC.seq ?_); refine RC.block ?_
  refine RC.up k (D := Value × Hp) (fun i x => Own 5 1 x.1 i (u8s (le n i)) x.2)
    (fun i x => [(6, .int .i64 i), (5, x.1), (0, .int .i64 n), (1, .int .i64 k)])
    (fun i x => x.2)
    0 (_, _) (Nat.zero_le _) Own.nil ⟨rfl, rfl, rfl, rfl, trivial⟩ (List.nil_sublist _) ?_
  rintro i ⟨v5, bl5⟩ hi hown
  dsimp only at hown ⊢
  (repeat refine RC.seq ?_); refine RC.region ?_
  repeat refine Run.a (Val.of rfl) ?_
  refine Run.nil (RQ.next ?_)
  (repeat refine RC.seq ?_); refine RC.wh rfl (fun h => RQ.next ?_) (fun h => ?_)
  · have hi' : i < k := by have := of_decide_eq_true h; omega
    clear h
    (repeat refine RC.seq ?_); refine RC.block ?_
    refine RC.region ?_
    refine Run.a (Val.of rfl) ?_
    refine Run.a (Val.of rfl) ?_
    refine Run.a (Val.of rfl) ?_
    refine Run.a (Val.eq (Val.ar rfl rfl rfl rfl (by dsimp only [inK]; omega)) (show _ = Value.int .i64 ((8 * i : Nat) : Int) from by congr 1)) ?_
    refine Run.a (Val.convIn tabOk rfl rfl rfl rfl rfl rfl (by simp only [inK]; omega)) ?_
    refine Run.a (Val.shr (m := 8 * i) rfl rfl rfl (by show _ ≤ 64; omega)) ?_
    refine Run.a (Val.eq (Val.conv tabOk rfl rfl rfl rfl rfl rfl) (show _ = Value.int .u8 ((n / 2 ^ (8 * i) % 256 : Nat) : Int) from congrArg (Value.int .u8) (by rw [wrap_u8]; rfl))) ?_
    refine Run.nw (New.buildSlice tabOk (parts := [(0, .tmp 18)]) (cells := (u8s [n / 2 ^ (8 * i) % 256]).toArray) rfl rfl rfl rfl rfl rfl (fillS_full 1 1 _ [.int .u8 _] rfl (by simp [Value.cells]))) ?_
    intro b4
    refine Run.op rfl (OpTo.append tabOk hown (Src.at ⟨b4, 0, none⟩ 1 1 (u8s [n / 2 ^ (8 * i) % 256]) rfl (Rd.rowAll List.mem_cons_self)) rfl rfl rfl rfl rfl rfl rfl rfl rfl (List.perm_append_comm (l₁ := [_]) (l₂ := bl5)) (u8s_one _) (by unfold maxLen; omega) (by simp only [ti5]; omega)) ?_
    rintro ⟨⟨v6, bl6⟩, hown6⟩
    refine Run.a (Val.of rfl) ?_
    refine Run.nil (RQ.blockNormal (RQ.next ?_))
    refine RC.region ?_
    repeat (first | refine Run.a Val.ra ?_ | refine Run.a (Val.of rfl) ?_)
    refine Run.nil (RQ.up (i + 1) (v6, bl6) (Nat.lt_succ_self _) hi' ?_ ⟨rfl, rfl, rfl, rfl, trivial⟩ (List.sublist_append_left _ _))
    have h := hown6
    rw [← u8s_app] at h
    exact h
  · have hi' : i = k := by have := of_decide_eq_false h; omega
    subst hi'
    (repeat refine RQ.thenExit ?_); refine RQ.blockHere ?_
    refine RQ.next ?_
    (repeat refine RC.seq ?_); refine RC.region ?_
    refine Run.a (Val.of rfl) ?_
    refine Run.a (Val.of rfl) ?_
    refine Run.nil (RQ.next ?_)
    exact RC.ret (RQ.ret1 rfl (Res.tmp rfl) fun w' hm => Makes.of (L' := []) hown (by simpa using hm))

end Go.Proofs.YtfoeakgnkfcbjaaGreatDoor

/- The reference's Sum is SHA-256. -/
namespace Go.Sha
theorem or_shift (a x p : Nat) (k : Nat) (hk : 2 ^ k = p) (hx : x < p) : a * p ||| x = a * p + x := by
  have := Nat.shiftLeft_add_eq_or_of_lt (i := k) (b := x) (by omega) a
  rw [Nat.shiftLeft_eq, hk] at this
  exact this.symm
theorem word_of (a b c d : Nat) (ha : a < 256) (hb : b < 256) (hc : c < 256) (hd : d < 256) :
    (((a * 16777216) % 4294967296 ||| (b * 65536) % 4294967296) ||| (c * 256) % 4294967296) ||| d = ((a * 256 + b) * 256 + c) * 256 + d := by
  rw [Nat.mod_eq_of_lt (by omega), Nat.mod_eq_of_lt (by omega), Nat.mod_eq_of_lt (by omega)]
  have e1 : a * 16777216 ||| b * 65536 = (a * 256 + b) * 65536 := by rw [or_shift a _ 16777216 24 (by decide) (by omega)]; omega
  have e2 : (a * 256 + b) * 65536 ||| c * 256 = ((a * 256 + b) * 256 + c) * 256 := by rw [or_shift _ _ 65536 16 (by decide) (by omega)]; omega
  rw [e1, e2, or_shift _ _ 256 8 (by decide) hd]
theorem bpart_four (b : List Nat) (o : Nat) : bpart b o 4 = ((b.getD o 0 * 256 + b.getD (o + 1) 0) * 256 + b.getD (o + 2) 0) * 256 + b.getD (o + 3) 0 := by
  simp [bpart]
theorem wd_low (b l : List Nat) (i : Nat) (hl : l.length = i) (h : i < 16) : wd b l = bpart b (4 * i) 4 := by
  unfold wd
  rw [hl, if_pos h]
theorem wd_high (b l : List Nat) (i : Nat) (hl : l.length = i) (h : ¬ i < 16) :
    wd b l = ((((l.getD (i - 16) 0 + sg0 (l.getD (i - 15) 0)) % 4294967296 + l.getD (i - 7) 0) % 4294967296) + sg1 (l.getD (i - 2) 0)) % 4294967296 := by
  unfold wd
  rw [hl, if_neg h]
  omega
end Go.Sha
namespace Go.Proofs.YtfoeakgnkfcbjaaGreatDoor
open Go Go.Vc Go.Sha

theorem fill8 (a b c d e f g h : Int) : Instr.fill (fun i => some (i * ti109.size, ti109.size)) ti110.zero.cells ([0, 1, 2, 3, 4, 5, 6, 7].zip [.int .u32 a, .int .u32 b, .int .u32 c, .int .u32 d, .int .u32 e, .int .u32 f, .int .u32 g, .int .u32 h]) = some #[.int .u32 a, .int .u32 b, .int .u32 c, .int .u32 d, .int .u32 e, .int .u32 f, .int .u32 g, .int .u32 h] := by kernel_rfl

set_option maxHeartbeats 1000000 in
set_option maxRecDepth 10000 in set_option maxHeartbeats 4000000 in
theorem ref_Sum_calls (v : Value) (n : Nat) (l : List Nat) (w : World) (hs : SrcW w 1 v n (u8s l)) (hn : n ≤ 1099511627776) (hb : ∀ x ∈ l, x < 256) :
    Gives Tryz.prog 37 [v] (.agg (u8s (sha l)).toArray) w := by
  have hln : l.length = n := by have := hs.len; rw [u8s_len, Nat.mul_one] at this; exact this
  subst hln
  have hz := zeros_spec l.length
  refine enter Tryz.func37 rfl (Mem.nil w []) rfl ?_
  (repeat refine RC.seq ?_); refine RC.region ?_
  refine Run.nw (New.alloc tabOk rfl rfl) ?_
  intro b2
  refine Run.nil (RQ.next ?_)
  (repeat refine RC.seq ?_); refine RC.region ?_
  refine Run.a (Val.buildA tabOk (parts := [(0, .const (.int .u32 1779033703)), (1, .const (.int .u32 3144134277)), (2, .const (.int .u32 1013904242)), (3, .const (.int .u32 2773480762)), (4, .const (.int .u32 1359893119)), (5, .const (.int .u32 2600822924)), (6, .const (.int .u32 528734635)), (7, .const (.int .u32 1541459225))]) (cells := (u32s H0.l).toArray) rfl rfl rfl rfl rfl rfl) ?_
  refine Run.nw (New.alloc tabOk rfl rfl) ?_
  intro b3
  refine Run.storeAll tabOk rfl rfl rfl rfl rfl rfl (List.Perm.refl _) rfl rfl (fun u hu => u32s_one H0.l u (by simpa [Value.cells] using hu)) ?_
  refine Run.nil (RQ.next ?_)
  have hKs : (u32s K).toArray.size = 64 := rfl
  have hK1 := u32s_one K
  have hKat := fun i (h : i < 64) => u32s_at K i (by rw [K_len]; exact h)
  (repeat refine RC.seq ?_); refine RC.region ?_
  refine Run.callV Tryz.func65 rfl rfl rfl rfl rfl rfl rfl (fun w' _ => rounds_calls w') ?_
  generalize u32s K = Kc at *
  refine Run.nw (New.alloc tabOk rfl rfl) ?_
  intro b4
  refine Run.storeAll tabOk rfl rfl rfl rfl rfl rfl (List.Perm.refl _) hKs rfl (fun u hu => hK1 u (by simpa [Value.cells] using hu)) ?_
  refine Run.nil (RQ.next ?_)
  (repeat refine RC.seq ?_); refine RC.region ?_
  refine Run.a (Val.of rfl) ?_
  refine Run.op rfl (OpTo.append tabOk Own.nil (hs.src) rfl rfl rfl rfl rfl rfl rfl rfl rfl (List.Perm.refl _) (u8s_one l) (by unfold maxLen; omega) (by simp only [ti5]; omega)) ?_
  rintro ⟨⟨v1, bl1⟩, hown1⟩
  refine Run.nw (New.buildSlice tabOk (parts := [(0, .const (.int .u8 128))]) (cells := (u8s [128]).toArray) rfl rfl rfl rfl rfl rfl (fillS_full 1 1 _ [.int .u8 128] rfl (by simp [Value.cells]))) ?_
  intro b5
  refine Run.op rfl (OpTo.append tabOk hown1 (Src.at ⟨b5, 0, none⟩ 1 1 (u8s [128]) rfl (Rd.rowAll List.mem_cons_self)) rfl rfl rfl rfl rfl rfl rfl rfl rfl (List.perm_middle.symm) (u8s_one _) (by unfold maxLen; omega) (by simp only [ti5]; omega)) ?_
  rintro ⟨⟨v2, bl2⟩, hown2⟩
  refine Run.a (Val.of rfl) ?_
  refine Run.nil (RQ.next ?_)
  (repeat refine RC.seq ?_); refine RC.block ?_
  refine RC.up (zeros l.length) (D := Value × Hp) (fun j x => Own 5 1 x.1 (l.length + 1 + j) (u8s (l ++ 128 :: List.replicate j 0)) x.2)
    (fun j x => [(5, x.1), (4, .pointer (some ⟨b4, 0, none⟩)), (3, .pointer (some ⟨b3, 0, none⟩)), (2, .pointer (some ⟨b2, 0, none⟩)), (0, v)])
    (fun j x => x.2 ++ [(b4, .cells Kc.toArray 111 (0, 0)), (b3, .cells (u32s H0.l).toArray 110 (0, 0)), (b2, .cells ti79.zero.cells 79 (0, 0))])
    0 (v2, bl2) (Nat.zero_le _) (by have h := hown2; rw [List.nil_append, ← u8s_app, Nat.zero_add] at h; exact h) ⟨rfl, rfl, rfl, rfl, rfl, trivial⟩
    (List.Sublist.append (List.Sublist.refl _) (List.Sublist.cons _ (List.Sublist.refl _))) ?_
  clear hown1 hown2
  rintro j ⟨v3, bl3⟩ hj hown3
  dsimp only at hown3 ⊢
  obtain ⟨a3, c3, hv3, hc3⟩ := hown3.shape
  (repeat refine RC.seq ?_); refine RC.region ?_
  refine Run.a (Val.of rfl) ?_
  refine Run.a (Val.len (len := l.length + 1 + j) tabOk rfl rfl rfl (by rw [hv3]; rfl)) ?_
  refine Run.a (Val.eq (Val.of rfl) (show _ = Value.int .i64 (((l.length + 1 + j) % 64 : Nat) : Int) from rfl)) ?_
  refine Run.a (Val.of rfl) ?_
  refine Run.nil (RQ.next ?_)
  (repeat refine RC.seq ?_); refine RC.wh rfl (fun h => RQ.next ?_) (fun h => ?_)
  · have hne : (l.length + 1 + j) % 64 ≠ 56 := by
      intro e; rw [e] at h; cases h
    have hj' : j < zeros l.length := by
      rcases Nat.lt_or_ge j (zeros l.length) with h' | h'
      · exact h'
      · exact absurd (by rw [show j = zeros l.length by omega]; exact hz.1) hne
    refine RC.block ?_
    (repeat refine RC.seq ?_); refine RC.region ?_
    refine Run.a (Val.of rfl) ?_
    refine Run.nw (New.buildSlice tabOk (parts := [(0, .const (.int .u8 0))]) (cells := (u8s [0]).toArray) rfl rfl rfl rfl rfl rfl (fillS_full 1 1 _ [.int .u8 0] rfl (by simp [Value.cells]))) ?_
    intro b6
    refine Run.op rfl (OpTo.append tabOk hown3 (Src.at ⟨b6, 0, none⟩ 1 1 (u8s [0]) rfl (Rd.rowAll List.mem_cons_self)) rfl rfl rfl rfl rfl rfl rfl rfl rfl (List.perm_middle.symm) (u8s_one _) (by unfold maxLen; omega) (by simp only [ti5]; omega)) ?_
    rintro ⟨⟨v4, bl4⟩, hown4⟩
    refine Run.a (Val.of rfl) ?_
    refine Run.nil (RQ.blockNormal (RQ.up (j + 1) (v4, bl4) (Nat.lt_succ_self _) hj' ?_ ⟨rfl, rfl, rfl, rfl, rfl, trivial⟩ (List.Sublist.append (List.Sublist.refl _) (List.Sublist.cons _ (List.Sublist.refl _)))))
    have h := hown4
    rw [← u8s_app, List.append_assoc, List.cons_append, ← List.replicate_succ'] at h
    exact h
  have hj' : j = zeros l.length := by
    have : (l.length + 1 + j) % 64 = 56 := by
      have := h
      simp only [bne_eq_false_iff_eq] at this
      omega
    omega
  subst hj'
  clear h hj hv3 hc3
  (repeat refine RQ.thenExit ?_); refine RQ.blockHere ?_
  refine RQ.next ?_
  (repeat refine RC.seq ?_); refine RC.region ?_
  repeat refine Run.a (Val.of rfl) ?_
  refine Run.nil (RQ.next ?_)
  (repeat refine RC.seq ?_); refine RC.block ?_
  refine RC.up 8 (D := Value × Hp) (fun j x => Own 5 1 x.1 (l.length + 1 + zeros l.length + j) (u8s (l ++ 128 :: List.replicate (zeros l.length) 0 ++ lenB l.length j)) x.2)
    (fun j x => [(6, .int .i64 (7 - j)), (5, x.1), (4, .pointer (some ⟨b4, 0, none⟩)), (3, .pointer (some ⟨b3, 0, none⟩)), (2, .pointer (some ⟨b2, 0, none⟩)), (0, v)])
    (fun j x => x.2 ++ [(b4, .cells Kc.toArray 111 (0, 0)), (b3, .cells (u32s H0.l).toArray 110 (0, 0)), (b2, .cells ti79.zero.cells 79 (0, 0))])
    0 (v3, bl3) (Nat.zero_le _) (by simpa [lenB] using hown3) ⟨rfl, rfl, rfl, rfl, rfl, rfl, trivial⟩ (List.Sublist.refl _) ?_
  clear hown3
  rintro j ⟨v5, bl5⟩ hj hown5
  dsimp only at hown5 hj ⊢
  (repeat refine RC.seq ?_); refine RC.region ?_
  repeat refine Run.a (Val.of rfl) ?_
  refine Run.nil (RQ.next ?_)
  (repeat refine RC.seq ?_); refine RC.wh rfl (fun h => RQ.next ?_) (fun h => ?_)
  · have hj' : j < 8 := by have := of_decide_eq_true h; omega
    obtain ⟨a0, c0, hv0, hc0⟩ := hs.shape
    (repeat refine RC.seq ?_); refine RC.block ?_
    refine RC.region ?_
    refine Run.a (Val.of rfl) ?_
    refine Run.a (Val.of rfl) ?_
    refine Run.a (Val.len (len := l.length) tabOk rfl rfl rfl (by rw [hv0]; rfl)) ?_
    refine Run.a (Val.convIn tabOk rfl rfl rfl rfl rfl rfl (by simp only [inK]; omega)) ?_
    refine Run.a (Val.eq (Val.ar rfl rfl rfl rfl (by dsimp only [inK]; omega)) (show _ = Value.int .u64 ((l.length * 8 : Nat) : Int) from by congr 1)) ?_
    refine Run.a (Val.of rfl) ?_
    refine Run.a (Val.eq (Val.ar rfl rfl rfl rfl (by dsimp only [inK]; omega)) (show _ = Value.int .i64 ((8 * (7 - j) : Nat) : Int) from by congr 1; omega)) ?_
    refine Run.a (Val.convIn tabOk rfl rfl rfl rfl rfl rfl (by simp only [inK]; omega)) ?_
    refine Run.a (Val.shr (m := 8 * (7 - j)) rfl rfl rfl (by show _ ≤ 64; omega)) ?_
    refine Run.a (Val.eq (Val.conv tabOk rfl rfl rfl rfl rfl rfl) (show _ = Value.int .u8 ((l.length * 8 / 2 ^ (8 * (7 - j)) % 256 : Nat) : Int) from congrArg (Value.int .u8) (by rw [wrap_u8]; rfl))) ?_
    refine Run.nw (New.buildSlice tabOk (parts := [(0, .tmp 48)]) (cells := (u8s [l.length * 8 / 2 ^ (8 * (7 - j)) % 256]).toArray) rfl rfl rfl rfl rfl rfl (fillS_full 1 1 _ [.int .u8 _] rfl (by simp [Value.cells]))) ?_
    intro b6
    refine Run.op rfl (OpTo.append tabOk hown5 (Src.at ⟨b6, 0, none⟩ 1 1 (u8s [l.length * 8 / 2 ^ (8 * (7 - j)) % 256]) rfl (Rd.rowAll List.mem_cons_self)) rfl rfl rfl rfl rfl rfl rfl rfl rfl (List.perm_middle.symm) (u8s_one _) (by unfold maxLen; omega) (by simp only [ti5]; omega)) ?_
    rintro ⟨⟨v4, bl4⟩, hown4⟩
    refine Run.a (Val.of rfl) ?_
    refine Run.nil (RQ.blockNormal (RQ.next ?_))
    refine RC.region ?_
    refine Run.a (Val.of rfl) ?_
    refine Run.a (Val.eq (Val.ar rfl rfl rfl rfl (by dsimp only [inK]; omega)) (show _ = Value.int .i64 (7 - ((j + 1 : Nat) : Int)) from by congr 1; omega)) ?_
    refine Run.a (Val.of rfl) ?_
    refine Run.nil (RQ.up (j + 1) (v4, bl4) (Nat.lt_succ_self _) hj' ?_ ⟨rfl, rfl, rfl, rfl, rfl, rfl, trivial⟩ (List.Sublist.append (List.Sublist.refl _) (List.Sublist.cons _ (List.Sublist.refl _))))
    have h := hown4
    rw [← u8s_app, List.append_assoc, ← lenB_succ] at h
    exact h
  have hj' : j = 8 := by have := of_decide_eq_false h; omega
  subst hj'
  clear h hj
  (repeat refine RQ.thenExit ?_); refine RQ.blockHere ?_
  refine RQ.next ?_
  have hpl := padded_len l
  have hpm := padded_mod l
  have hpb := padded_lt l hb
  have hown : Own 5 1 v5 (padded l).length (u8s (padded l)) bl5 := by rw [hpl]; exact hown5
  clear hown5
  have hres : sha l = outB (sumTo (padded l) ((padded l).length / 64)) 32 := rfl
  rw [hres]
  clear hres
  generalize hp : padded l = p at *
  obtain ⟨b, cap, rest, rfl, rfl, h1, h2, h3, h4⟩ := Own.pos hown (by omega)
  clear hown
  obtain ⟨M, hM⟩ : ∃ M, p.length = 64 * M := ⟨p.length / 64, by omega⟩
  rw [show p.length / 64 = M by omega]
  have hMb : 64 * M ≤ 1099511627976 := by omega
  clear hz hpm
  rw [hM]
  (repeat refine RC.seq ?_); refine RC.region ?_
  refine Run.a (Val.of rfl) ?_
  refine Run.nil (RQ.next ?_)
  (repeat refine RC.seq ?_); refine RC.block ?_
  refine RC.perm p2 ?_
  refine RC.up M (D := Unit) (fun _ _ => True) (fun k _ => [(7, .int .i64 (64 * k : Nat)), (5, .slice (some ⟨b, 0, none⟩) (64 * M) cap), (4, .pointer (some ⟨b4, 0, none⟩)), (3, .pointer (some ⟨b3, 0, none⟩)), (2, .pointer (some ⟨b2, 0, none⟩))]) (fun k _ => [(b3, .cells (u32s ((sumTo p k).l)).toArray 110 (0, 0)), (b, .cells (u8s p ++ rest).toArray 5 (0, 0)), (b4, .cells Kc.toArray 111 (0, 0)), (b2, .cells ti79.zero.cells 79 (0, 0))]) 0 () (Nat.zero_le _) trivial ⟨rfl, rfl, rfl, rfl, rfl, trivial⟩ (List.Sublist.refl _) ?_
  intro k _ hk _
  (repeat refine RC.seq ?_); refine RC.region ?_
  refine Run.a (Val.of rfl) ?_
  refine Run.a (Val.of rfl) ?_
  refine Run.a (Val.len (len := 64 * M) tabOk rfl rfl rfl rfl) ?_
  refine Run.a (Val.of rfl) ?_
  refine Run.nil (RQ.next ?_)
  (repeat refine RC.seq ?_); refine RC.wh rfl (fun h => RQ.next ?_) (fun h => ?_)
  · have hk' : k < M := by have := of_decide_eq_true h; omega
    clear h
    have hs := sumTo_lt p k
    have hcmp : sumTo p (k + 1) = compress (sumTo p k) ((p.drop (64 * k)).take 64) := rfl
    have hbl : ((p.drop (64 * k)).take 64).length = 64 := by simp; omega
    have hbb : ∀ x ∈ (p.drop (64 * k)).take 64, x < 256 := fun x hx => hpb x (List.mem_of_mem_drop (List.mem_of_mem_take hx))
    have hrow : ∀ j, j < 64 → (u8s p ++ rest).toArray[64 * k + j]? = some (.int .u8 (((p.drop (64 * k)).take 64).getD j 0 : Nat)) := by
      intro j hj
      rw [List.getElem?_toArray, List.getElem?_append_left (by rw [u8s_len]; omega), u8s_at p _ (by omega)]
      simp [List.getD_eq_getElem?_getD, hj]
    generalize (p.drop (64 * k)).take 64 = blk at *
    generalize sumTo p k = s at *
    (repeat refine RC.seq ?_); refine RC.block ?_
    (repeat refine RC.seq ?_); refine RC.region ?_
    refine Run.nw (New.alloc tabOk rfl rfl) ?_
    intro b8
    refine Run.nil (RQ.next ?_)
    (repeat refine RC.seq ?_); refine RC.region ?_
    refine Run.a (Val.of rfl) ?_
    refine Run.nil (RQ.next ?_)
    (repeat refine RC.seq ?_); refine RC.block ?_
    refine RC.up 16 (D := Unit) (fun _ _ => True) (fun i _ => [(9, .int .i64 i), (8, .pointer (some ⟨b8, 0, none⟩)), (7, .int .i64 (64 * k : Nat)), (5, .slice (some ⟨b, 0, none⟩) (64 * M) cap), (4, .pointer (some ⟨b4, 0, none⟩)), (3, .pointer (some ⟨b3, 0, none⟩)), (2, .pointer (some ⟨b2, 0, none⟩))]) (fun i _ => [(b8, .cells (u32s (Wz blk i)).toArray 111 (0, 0)), (b3, .cells (u32s (s.l)).toArray 110 (0, 0)), (b, .cells (u8s p ++ rest).toArray 5 (0, 0)), (b4, .cells Kc.toArray 111 (0, 0)), (b2, .cells ti79.zero.cells 79 (0, 0))]) 0 () (Nat.zero_le _) trivial ⟨rfl, rfl, rfl, rfl, rfl, rfl, rfl, trivial⟩ (List.Sublist.refl _) ?_
    intro i _ hi _
    (repeat refine RC.seq ?_); refine RC.region ?_
    repeat refine Run.a (Val.of rfl) ?_
    refine Run.nil (RQ.next ?_)
    (repeat refine RC.seq ?_); refine RC.wh rfl (fun h => RQ.next ?_) (fun h => ?_)
    · have hi' : i < 16 := by have := of_decide_eq_true h; omega
      clear h
      have q0 := getD_lt hbb (4 * i)
      have q1 := getD_lt hbb (4 * i + 1)
      have q2 := getD_lt hbb (4 * i + 2)
      have q3 := getD_lt hbb (4 * i + 3)
      have r0 := hrow (4 * i) (by omega)
      have r1 := hrow (4 * i + 1) (by omega)
      have r2 := hrow (4 * i + 2) (by omega)
      have r3 := hrow (4 * i + 3) (by omega)
      have hset := Wz_set blk i _ (by omega) ((bpart_four blk (4 * i)).symm.trans (wd_low blk (W blk i) i (W_length blk i) hi').symm)
      generalize blk.getD (4 * i) 0 = x0 at *
      generalize blk.getD (4 * i + 1) 0 = x1 at *
      generalize blk.getD (4 * i + 2) 0 = x2 at *
      generalize blk.getD (4 * i + 3) 0 = x3 at *
      (repeat refine RC.seq ?_); refine RC.block ?_
      (repeat refine RC.seq ?_); refine RC.drawS mixed (N := 44) rfl ?_
      refine DR.t 0 rfl (Val.of rfl) ?_
      refine DR.t 1 rfl (Val.of rfl) ?_
      refine DR.t 2 rfl (Val.of rfl) ?_
      refine DR.t 3 rfl (Val.of rfl) ?_
      refine DR.t 4 rfl Val.ra ?_
      refine DR.t 5 rfl Val.ra ?_
      refine DR.t 6 rfl (Val.ixS tabOk (64 * k + (4 * i)) (ad' := ⟨b, 64 * k + (4 * i), none⟩) rfl rfl rfl rfl rfl rfl (by omega) (by omega) (by simp [ti5, add_lit])) ?_
      refine DR.t 7 rfl (Val.load tabOk rfl rfl rfl m2 r0) ?_
      refine DR.t 8 rfl (Val.convIn tabOk rfl rfl rfl rfl rfl rfl (by simp only [inK]; omega)) ?_
      refine DR.t 9 rfl (Val.eq (Val.shl (m := 24) rfl rfl rfl (by decide)) (show _ = Value.int .u32 ((x0 * 16777216 % 4294967296 : Nat) : Int) from congrArg (Value.int .u32) (u32_wr _))) ?_
      refine DR.t 10 rfl (Val.of rfl) ?_
      refine DR.t 11 rfl (Val.of rfl) ?_
      refine DR.t 12 rfl (Val.of rfl) ?_
      refine DR.t 13 rfl Val.ra ?_
      refine DR.t 14 rfl Val.ra ?_
      refine DR.t 15 rfl Val.ra ?_
      refine DR.t 16 rfl (Val.ixS tabOk (64 * k + (4 * i + 1)) (ad' := ⟨b, 64 * k + (4 * i + 1), none⟩) rfl rfl rfl rfl rfl rfl (by omega) (by omega) (by simp [ti5, add_lit])) ?_
      refine DR.t 17 rfl (Val.load tabOk rfl rfl rfl m2 r1) ?_
      refine DR.t 18 rfl (Val.convIn tabOk rfl rfl rfl rfl rfl rfl (by simp only [inK]; omega)) ?_
      refine DR.t 19 rfl (Val.eq (Val.shl (m := 16) rfl rfl rfl (by decide)) (show _ = Value.int .u32 ((x1 * 65536 % 4294967296 : Nat) : Int) from congrArg (Value.int .u32) (u32_wr _))) ?_
      refine DR.t 20 rfl (Val.eq (Val.of rfl) (congrArg (Value.int .u32) (u32_or _ _ (Nat.mod_lt _ (by decide)) (Nat.mod_lt _ (by decide))))) ?_
      refine DR.t 21 rfl (Val.of rfl) ?_
      refine DR.t 22 rfl (Val.of rfl) ?_
      refine DR.t 23 rfl (Val.of rfl) ?_
      refine DR.t 24 rfl Val.ra ?_
      refine DR.t 25 rfl Val.ra ?_
      refine DR.t 26 rfl Val.ra ?_
      refine DR.t 27 rfl (Val.ixS tabOk (64 * k + (4 * i + 2)) (ad' := ⟨b, 64 * k + (4 * i + 2), none⟩) rfl rfl rfl rfl rfl rfl (by omega) (by omega) (by simp [ti5, add_lit])) ?_
      refine DR.t 28 rfl (Val.load tabOk rfl rfl rfl m2 r2) ?_
      refine DR.t 29 rfl (Val.convIn tabOk rfl rfl rfl rfl rfl rfl (by simp only [inK]; omega)) ?_
      refine DR.t 30 rfl (Val.eq (Val.shl (m := 8) rfl rfl rfl (by decide)) (show _ = Value.int .u32 ((x2 * 256 % 4294967296 : Nat) : Int) from congrArg (Value.int .u32) (u32_wr _))) ?_
      refine DR.t 31 rfl (Val.eq (Val.of rfl) (congrArg (Value.int .u32) (u32_or _ _ (Nat.or_lt_two_pow (n := 32) (Nat.mod_lt _ (by decide)) (Nat.mod_lt _ (by decide))) (Nat.mod_lt _ (by decide))))) ?_
      refine DR.t 32 rfl (Val.of rfl) ?_
      refine DR.t 33 rfl (Val.of rfl) ?_
      refine DR.t 34 rfl (Val.of rfl) ?_
      refine DR.t 35 rfl Val.ra ?_
      refine DR.t 36 rfl Val.ra ?_
      refine DR.t 37 rfl Val.ra ?_
      refine DR.t 38 rfl (Val.ixS tabOk (64 * k + (4 * i + 3)) (ad' := ⟨b, 64 * k + (4 * i + 3), none⟩) rfl rfl rfl rfl rfl rfl (by omega) (by omega) (by simp [ti5, add_lit])) ?_
      refine DR.t 39 rfl (Val.load tabOk rfl rfl rfl m2 r3) ?_
      refine DR.t 40 rfl (Val.convIn tabOk rfl rfl rfl rfl rfl rfl (by simp only [inK]; omega)) ?_
      refine DR.t 41 rfl (Val.eq (Val.of rfl) (show _ = Value.int .u32 ((((x0 * 256 + x1) * 256 + x2) * 256 + x3 : Nat) : Int) from congrArg (Value.int .u32) ((u32_or _ _ (Nat.or_lt_two_pow (n := 32) (Nat.or_lt_two_pow (n := 32) (Nat.mod_lt _ (by decide)) (Nat.mod_lt _ (by decide))) (Nat.mod_lt _ (by decide))) (by omega)).trans (congrArg Int.ofNat (word_of x0 x1 x2 x3 q0 q1 q2 q3))))) ?_
      refine DR.t 42 rfl (Val.ix tabOk i (off' := i) rfl rfl rfl rfl rfl rfl rfl (by omega) (by simp [ti109])) ?_
      refine DR.c 43 ?_
      refine DOp.op1 rfl (OpTo.storeTo tabOk ((u32s_set _ i _ (by rw [Wz_len _ _ (by omega)]; omega)).trans (congrArg (fun l => (u32s l).toArray) hset)) rfl rfl rfl rfl rfl (List.Perm.refl _) rfl (by simp only [List.size_toArray, u32s_len, Wz_len blk i (by omega), ti109]; omega) (by simp [Value.cells]; rfl)) (fun _ => ?_)
      refine DR.done (by kernel_rfl) (RQ.blockNormal (RQ.next ?_))
      refine RC.region ?_
      repeat (first | refine Run.a Val.ra ?_ | refine Run.a (Val.of rfl) ?_)
      exact Run.nil (RQ.up (i + 1) () (Nat.lt_succ_self _) hi' trivial ⟨rfl, rfl, rfl, rfl, rfl, rfl, rfl, trivial⟩ (List.Sublist.refl _))
    have hi' : i = 16 := by have := of_decide_eq_false h; omega
    subst hi'
    clear h hi hrow
    (repeat refine RQ.thenExit ?_); refine RQ.blockHere ?_
    refine RQ.next ?_
    (repeat refine RC.seq ?_); refine RC.region ?_
    repeat refine Run.a (Val.of rfl) ?_
    refine Run.nil (RQ.next ?_)
    (repeat refine RC.seq ?_); refine RC.block ?_
    refine RC.up 64 (D := Unit) (fun i _ => 16 ≤ i) (fun i _ => [(10, .int .i64 i), (8, .pointer (some ⟨b8, 0, none⟩)), (7, .int .i64 (64 * k : Nat)), (5, .slice (some ⟨b, 0, none⟩) (64 * M) cap), (4, .pointer (some ⟨b4, 0, none⟩)), (3, .pointer (some ⟨b3, 0, none⟩)), (2, .pointer (some ⟨b2, 0, none⟩))]) (fun i _ => [(b8, .cells (u32s (Wz blk i)).toArray 111 (0, 0)), (b3, .cells (u32s (s.l)).toArray 110 (0, 0)), (b, .cells (u8s p ++ rest).toArray 5 (0, 0)), (b4, .cells Kc.toArray 111 (0, 0)), (b2, .cells ti79.zero.cells 79 (0, 0))]) 16 () (by omega) (Nat.le_refl _) ⟨rfl, rfl, rfl, rfl, rfl, rfl, rfl, trivial⟩ (List.Sublist.refl _) ?_
    intro i _ hi h16
    have hr := fun n (h0 : 0 < n) (h1 : n < 32) (y : Nat) (hy : y < 4294967296) => turned_calls y n hy h0 h1
    (repeat refine RC.seq ?_); refine RC.region ?_
    repeat refine Run.a (Val.of rfl) ?_
    refine Run.nil (RQ.next ?_)
    (repeat refine RC.seq ?_); refine RC.wh rfl (fun h => RQ.next ?_) (fun h => ?_)
    · have hi' : i < 64 := by have := of_decide_eq_true h; omega
      clear h
      have q15 := W_getD_lt blk hbb i (i - 15)
      have q2 := W_getD_lt blk hbb i (i - 2)
      have hWat : ∀ j, j < i → (u32s (Wz blk i)).toArray[j]? = some (.int .u32 ((W blk i).getD j 0 : Nat)) := fun j hj => by
        rw [u32s_at _ _ (by rw [Wz_len _ _ (by omega)]; omega), Wz_at _ _ _ hj]
      have r16 := hWat (i - 16) (by omega)
      have r15 := hWat (i - 15) (by omega)
      have r7 := hWat (i - 7) (by omega)
      have r2 := hWat (i - 2) (by omega)
      clear hWat
      have hset := Wz_set blk i _ hi' (wd_high blk (W blk i) i (W_length blk i) (by omega)).symm
      generalize (W blk i).getD (i - 16) 0 = x16 at *
      generalize (W blk i).getD (i - 15) 0 = x15 at *
      generalize (W blk i).getD (i - 7) 0 = x7 at *
      generalize (W blk i).getD (i - 2) 0 = x2 at *
      (repeat refine RC.seq ?_); refine RC.block ?_
      (repeat refine RC.seq ?_); refine RC.drawS mixed (N := 10) rfl ?_
      refine DR.t 0 rfl (Val.of rfl) ?_
      refine DR.t 1 rfl Val.ra ?_
      refine DR.t 2 rfl (Val.ix tabOk (i - 15) (off' := i - 15) rfl rfl rfl rfl rfl rfl (by omega) (by omega) (by simp [ti109])) ?_
      refine DR.t 3 rfl (Val.load tabOk rfl rfl rfl m0 r15) ?_
      refine DR.t 4 rfl (Val.of rfl) ?_
      refine DR.t 5 rfl Val.ra ?_
      refine DR.t 6 rfl (Val.ix tabOk (i - 2) (off' := i - 2) rfl rfl rfl rfl rfl rfl (by omega) (by omega) (by simp [ti109])) ?_
      refine DR.t 7 rfl (Val.load tabOk rfl rfl rfl m0 r2) ?_
      refine DR.t 8 rfl (Val.of rfl) ?_
      refine DR.t 9 rfl (Val.of rfl) ?_
      refine DR.done (by kernel_rfl) (RQ.next ?_)
      (repeat refine RC.seq ?_); refine RC.drawS mixed (N := 30) rfl ?_
      refine DR.t 0 rfl (Val.of rfl) ?_
      refine DR.t 1 rfl (Val.of rfl) ?_
      refine DR.t 2 rfl Val.ra ?_
      refine DR.t 3 rfl (Val.ix tabOk (i - 16) (off' := i - 16) rfl rfl rfl rfl rfl rfl (by omega) (by omega) (by simp [ti109])) ?_
      refine DR.t 4 rfl (Val.load tabOk rfl rfl rfl m0 r16) ?_
      refine DR.t 5 rfl (Val.of rfl) ?_
      refine DR.t 7 rfl (Val.of rfl) ?_
      refine DR.t 10 rfl (Val.of rfl) ?_
      refine DR.t 11 rfl (Val.shr (m := 3) rfl rfl rfl (by decide)) ?_
      refine DR.t 14 rfl (Val.of rfl) ?_
      refine DR.t 15 rfl Val.ra ?_
      refine DR.t 16 rfl (Val.ix tabOk (i - 7) (off' := i - 7) rfl rfl rfl rfl rfl rfl (by omega) (by omega) (by simp [ti109])) ?_
      refine DR.t 17 rfl (Val.load tabOk rfl rfl rfl m0 r7) ?_
      refine DR.t 19 rfl (Val.of rfl) ?_
      refine DR.t 21 rfl (Val.of rfl) ?_
      refine DR.t 24 rfl (Val.of rfl) ?_
      refine DR.t 25 rfl (Val.shr (m := 10) rfl rfl rfl (by decide)) ?_
      refine DR.c 6 ?_
      refine DOp.op1 rfl (OpTo.callV Tryz.func66 rfl rfl rfl rfl rfl rfl (fun w _ => hr 7 (by decide) (by decide) _ q15 w)) (fun _ => ?_)
      refine DR.c 8 ?_
      refine DOp.op1 rfl (OpTo.callV Tryz.func66 rfl rfl rfl rfl rfl rfl (fun w _ => hr 18 (by decide) (by decide) _ q15 w)) (fun _ => ?_)
      refine DR.t 9 rfl (Val.eq (Val.of rfl) (congrArg (Value.int .u32) (u32_xor _ _ (rotr_lt _ _ q15) (rotr_lt _ _ q15)))) ?_
      refine DR.t 12 rfl (Val.eq (Val.of rfl) (show _ = Value.int .u32 ((sg0 x15 : Nat) : Int) from congrArg (Value.int .u32) (u32_xor _ _ (xor_lt (rotr_lt _ _ q15) (rotr_lt _ _ q15)) (Nat.lt_of_le_of_lt (Nat.div_le_self _ _) q15)))) ?_
      refine DR.t 13 rfl (Val.eq (Val.of rfl) (congrArg (Value.int .u32) (u32_add _ _))) ?_
      refine DR.t 18 rfl (Val.eq (Val.of rfl) (congrArg (Value.int .u32) (u32_add _ _))) ?_
      refine DR.c 20 ?_
      refine DOp.op1 rfl (OpTo.callV Tryz.func66 rfl rfl rfl rfl rfl rfl (fun w _ => hr 17 (by decide) (by decide) _ q2 w)) (fun _ => ?_)
      refine DR.c 22 ?_
      refine DOp.op1 rfl (OpTo.callV Tryz.func66 rfl rfl rfl rfl rfl rfl (fun w _ => hr 19 (by decide) (by decide) _ q2 w)) (fun _ => ?_)
      refine DR.t 23 rfl (Val.eq (Val.of rfl) (congrArg (Value.int .u32) (u32_xor _ _ (rotr_lt _ _ q2) (rotr_lt _ _ q2)))) ?_
      refine DR.t 26 rfl (Val.eq (Val.of rfl) (show _ = Value.int .u32 ((sg1 x2 : Nat) : Int) from congrArg (Value.int .u32) (u32_xor _ _ (xor_lt (rotr_lt _ _ q2) (rotr_lt _ _ q2)) (Nat.lt_of_le_of_lt (Nat.div_le_self _ _) q2)))) ?_
      refine DR.t 27 rfl (Val.eq (Val.of rfl) (congrArg (Value.int .u32) (u32_add _ _))) ?_
      refine DR.t 28 rfl (Val.ix tabOk i (off' := i) rfl rfl rfl rfl rfl rfl rfl (by omega) (by simp [ti109])) ?_
      refine DR.c 29 ?_
      refine DOp.op1 rfl (OpTo.storeTo tabOk ((u32s_set _ i _ (by rw [Wz_len _ _ (by omega)]; omega)).trans (congrArg (fun l => (u32s l).toArray) hset)) rfl rfl rfl rfl rfl (List.Perm.refl _) rfl (by simp only [List.size_toArray, u32s_len, Wz_len blk i (by omega), ti109]; omega) (by simp [Value.cells]; rfl)) (fun _ => ?_)
      refine DR.done (by kernel_rfl) (RQ.blockNormal (RQ.next ?_))
      refine RC.region ?_
      repeat (first | refine Run.a Val.ra ?_ | refine Run.a (Val.of rfl) ?_)
      exact Run.nil (RQ.up (i + 1) () (Nat.lt_succ_self _) hi' (by omega) ⟨rfl, rfl, rfl, rfl, rfl, rfl, rfl, trivial⟩ (List.Sublist.refl _))
    have hi' : i = 64 := by have := of_decide_eq_false h; omega
    subst hi'
    clear h hi h16
    have hWz : Wz blk 64 = W blk 64 := by simp [Wz]
    rw [hWz]
    have hWl : (W blk 64).length = 64 := W_length blk 64
    have hx64 := fun i => W_getD_lt blk hbb 64 i
    have hcm : compress s blk = s.add (rounds s (W blk 64) 64) := rfl
    rw [hcm] at hcmp
    clear hcm
    generalize W blk 64 = ws at *
    (repeat refine RQ.thenExit ?_); refine RQ.blockHere ?_
    refine RQ.next ?_
    (repeat refine RC.seq ?_); refine RC.region ?_
    refine Run.a (Val.loadAll tabOk rfl rfl rfl rfl m1 rfl) ?_
    refine Run.nw (New.alloc tabOk rfl rfl) ?_
    intro b13
    refine Run.storeAll tabOk rfl rfl rfl rfl rfl rfl (List.Perm.refl _) rfl rfl (fun u hu => u32s_one s.l u (by simpa [Value.cells] using hu)) ?_
    refine Run.nil (RQ.next ?_)
    (repeat refine RC.seq ?_); refine RC.region ?_
    repeat refine Run.a (Val.of rfl) ?_
    refine Run.nil (RQ.next ?_)
    (repeat refine RC.seq ?_); refine RC.block ?_
    refine RC.up 64 (D := Unit) (fun i _ => True) (fun i _ => [(14, .int .i64 i), (13, .pointer (some ⟨b13, 0, none⟩)), (8, .pointer (some ⟨b8, 0, none⟩)), (7, .int .i64 (64 * k : Nat)), (5, .slice (some ⟨b, 0, none⟩) (64 * M) cap), (4, .pointer (some ⟨b4, 0, none⟩)), (3, .pointer (some ⟨b3, 0, none⟩)), (2, .pointer (some ⟨b2, 0, none⟩))]) (fun i _ => [(b13, .cells (u32s (rounds s ws i).l).toArray 110 (0, 0)), (b8, .cells (u32s (ws)).toArray 111 (0, 0)), (b3, .cells (u32s (s.l)).toArray 110 (0, 0)), (b, .cells (u8s p ++ rest).toArray 5 (0, 0)), (b4, .cells Kc.toArray 111 (0, 0)), (b2, .cells ti79.zero.cells 79 (0, 0))]) 0 () (by omega) trivial ⟨rfl, rfl, rfl, rfl, rfl, rfl, rfl, rfl, trivial⟩ (List.Sublist.refl _) ?_
    intro i _ hi _
    (repeat refine RC.seq ?_); refine RC.region ?_
    repeat refine Run.a (Val.of rfl) ?_
    refine Run.nil (RQ.next ?_)
    (repeat refine RC.seq ?_); refine RC.wh rfl (fun h => RQ.next ?_) (fun h => ?_)
    · have hi' : i < 64 := by have := of_decide_eq_true h; omega
      clear h
      have hx := hx64 i
      have hs' := V8.lts (rounds_lt hs ws i)
      have hk := K_lt i
      have hkat := hKat i hi'
      have hxat := u32s_at ws i (by omega)
      have hnext : rounds s ws (i + 1) = rnd (rounds s ws i) (K.getD i 0) (ws.getD i 0) := rfl
      generalize rounds s ws i = q at *
      generalize ws.getD i 0 = x at *
      generalize K.getD i 0 = kk at *
      obtain ⟨ha, hb', hc', hd, he, hf, hg, hh'⟩ := hs'
      (repeat refine RC.seq ?_); refine RC.block ?_
      (repeat refine RC.seq ?_); refine RC.drawS mixed (N := 6) rfl ?_
      refine DR.t 0 rfl (Val.ix tabOk 0 (off' := 0) rfl rfl rfl rfl rfl rfl rfl (by decide) rfl) ?_
      refine DR.t 1 rfl (Val.load tabOk rfl rfl rfl m0 rfl) ?_
      refine DR.t 2 rfl (Val.ix tabOk 4 (off' := 4) rfl rfl rfl rfl rfl rfl rfl (by decide) rfl) ?_
      refine DR.t 3 rfl (Val.load tabOk rfl rfl rfl m0 rfl) ?_
      refine DR.t 4 rfl (Val.of rfl) ?_
      refine DR.t 5 rfl (Val.of rfl) ?_
      refine DR.done (by kernel_rfl) (RQ.next ?_)
      (repeat refine RC.seq ?_); refine RC.drawS mixed (N := 31) rfl ?_
      refine DR.t 0 rfl (Val.ix tabOk 7 (off' := 7) rfl rfl rfl rfl rfl rfl rfl (by decide) rfl) ?_
      refine DR.t 1 rfl (Val.load tabOk rfl rfl rfl m0 rfl) ?_
      refine DR.t 2 rfl (Val.of rfl) ?_
      refine DR.t 4 rfl (Val.of rfl) ?_
      refine DR.t 7 rfl (Val.of rfl) ?_
      refine DR.t 11 rfl (Val.of rfl) ?_
      refine DR.t 12 rfl (Val.ix tabOk 5 (off' := 5) rfl rfl rfl rfl rfl rfl rfl (by decide) rfl) ?_
      refine DR.t 13 rfl (Val.load tabOk rfl rfl rfl m0 rfl) ?_
      refine DR.t 14 rfl (Val.eq (Val.of rfl) (congrArg (Value.int .u32) (u32_and _ _ he hf))) ?_
      refine DR.t 15 rfl (Val.of rfl) ?_
      refine DR.t 16 rfl (Val.eq (Val.of rfl) (congrArg (Value.int .u32) (u32_not _ he))) ?_
      refine DR.t 17 rfl (Val.ix tabOk 6 (off' := 6) rfl rfl rfl rfl rfl rfl rfl (by decide) rfl) ?_
      refine DR.t 18 rfl (Val.load tabOk rfl rfl rfl m0 rfl) ?_
      refine DR.t 19 rfl (Val.eq (Val.of rfl) (congrArg (Value.int .u32) (u32_and _ _ (xor_lt (by decide) he) hg))) ?_
      refine DR.t 20 rfl (Val.eq (Val.of rfl) (congrArg (Value.int .u32) (u32_xor _ _ (and_lt he) (and_lt (xor_lt (by decide) he))))) ?_
      refine DR.t 22 rfl (Val.of rfl) ?_
      refine DR.t 23 rfl (Val.ix tabOk i (off' := i) rfl rfl rfl rfl rfl rfl rfl hi' (by simp [ti109])) ?_
      refine DR.t 24 rfl (Val.load tabOk rfl rfl rfl m4 hkat) ?_
      refine DR.t 26 rfl (Val.of rfl) ?_
      refine DR.t 27 rfl (Val.ix tabOk i (off' := i) rfl rfl rfl rfl rfl rfl rfl hi' (by simp [ti109])) ?_
      refine DR.t 28 rfl (Val.load tabOk rfl rfl rfl m1 hxat) ?_
      refine DR.c 3 ?_
      refine DOp.op1 rfl (OpTo.callV Tryz.func66 rfl rfl rfl rfl rfl rfl (fun w _ => hr 6 (by decide) (by decide) _ he w)) (fun _ => ?_)
      refine DR.c 5 ?_
      refine DOp.op1 rfl (OpTo.callV Tryz.func66 rfl rfl rfl rfl rfl rfl (fun w _ => hr 11 (by decide) (by decide) _ he w)) (fun _ => ?_)
      refine DR.t 6 rfl (Val.eq (Val.of rfl) (congrArg (Value.int .u32) (u32_xor _ _ (rotr_lt _ _ he) (rotr_lt _ _ he)))) ?_
      refine DR.c 8 ?_
      refine DOp.op1 rfl (OpTo.callV Tryz.func66 rfl rfl rfl rfl rfl rfl (fun w _ => hr 25 (by decide) (by decide) _ he w)) (fun _ => ?_)
      refine DR.t 9 rfl (Val.eq (Val.of rfl) (congrArg (Value.int .u32) (u32_xor _ _ (xor_lt (rotr_lt _ _ he) (rotr_lt _ _ he)) (rotr_lt _ _ he)))) ?_
      refine DR.t 10 rfl (Val.eq (Val.of rfl) (congrArg (Value.int .u32) (u32_add _ _))) ?_
      refine DR.t 21 rfl (Val.eq (Val.of rfl) (congrArg (Value.int .u32) (u32_add _ _))) ?_
      refine DR.t 25 rfl (Val.eq (Val.of rfl) (congrArg (Value.int .u32) (u32_add _ _))) ?_
      refine DR.t 29 rfl (Val.eq (Val.of rfl) (show _ = Value.int .u32 ((rt q kk x : Nat) : Int) from congrArg (Value.int .u32) (u32_add _ _))) ?_
      refine DR.t 30 rfl (Val.of rfl) ?_
      refine DR.done (by kernel_rfl) (RQ.next ?_)
      (repeat refine RC.seq ?_); refine RC.drawS mixed (N := 25) rfl ?_
      refine DR.t 0 rfl (Val.of rfl) ?_
      refine DR.t 2 rfl (Val.of rfl) ?_
      refine DR.t 5 rfl (Val.of rfl) ?_
      refine DR.t 8 rfl (Val.of rfl) ?_
      refine DR.t 9 rfl (Val.ix tabOk 1 (off' := 1) rfl rfl rfl rfl rfl rfl rfl (by decide) rfl) ?_
      refine DR.t 10 rfl (Val.load tabOk rfl rfl rfl m0 rfl) ?_
      refine DR.t 11 rfl (Val.eq (Val.of rfl) (congrArg (Value.int .u32) (u32_and _ _ ha hb'))) ?_
      refine DR.t 12 rfl (Val.of rfl) ?_
      refine DR.t 13 rfl (Val.ix tabOk 2 (off' := 2) rfl rfl rfl rfl rfl rfl rfl (by decide) rfl) ?_
      refine DR.t 14 rfl (Val.load tabOk rfl rfl rfl m0 rfl) ?_
      refine DR.t 15 rfl (Val.eq (Val.of rfl) (congrArg (Value.int .u32) (u32_and _ _ ha hc'))) ?_
      refine DR.t 16 rfl (Val.eq (Val.of rfl) (congrArg (Value.int .u32) (u32_xor _ _ (and_lt ha) (and_lt ha)))) ?_
      refine DR.t 17 rfl (Val.ix tabOk 1 (off' := 1) rfl rfl rfl rfl rfl rfl rfl (by decide) rfl) ?_
      refine DR.t 18 rfl (Val.load tabOk rfl rfl rfl m0 rfl) ?_
      refine DR.t 19 rfl (Val.ix tabOk 2 (off' := 2) rfl rfl rfl rfl rfl rfl rfl (by decide) rfl) ?_
      refine DR.t 20 rfl (Val.load tabOk rfl rfl rfl m0 rfl) ?_
      refine DR.t 21 rfl (Val.eq (Val.of rfl) (congrArg (Value.int .u32) (u32_and _ _ hb' hc'))) ?_
      refine DR.t 22 rfl (Val.eq (Val.of rfl) (congrArg (Value.int .u32) (u32_xor _ _ (xor_lt (and_lt ha) (and_lt ha)) (and_lt hb')))) ?_
      refine DR.c 1 ?_
      refine DOp.op1 rfl (OpTo.callV Tryz.func66 rfl rfl rfl rfl rfl rfl (fun w _ => hr 2 (by decide) (by decide) _ ha w)) (fun _ => ?_)
      refine DR.c 3 ?_
      refine DOp.op1 rfl (OpTo.callV Tryz.func66 rfl rfl rfl rfl rfl rfl (fun w _ => hr 13 (by decide) (by decide) _ ha w)) (fun _ => ?_)
      refine DR.t 4 rfl (Val.eq (Val.of rfl) (congrArg (Value.int .u32) (u32_xor _ _ (rotr_lt _ _ ha) (rotr_lt _ _ ha)))) ?_
      refine DR.c 6 ?_
      refine DOp.op1 rfl (OpTo.callV Tryz.func66 rfl rfl rfl rfl rfl rfl (fun w _ => hr 22 (by decide) (by decide) _ ha w)) (fun _ => ?_)
      refine DR.t 7 rfl (Val.eq (Val.of rfl) (congrArg (Value.int .u32) (u32_xor _ _ (xor_lt (rotr_lt _ _ ha) (rotr_lt _ _ ha)) (rotr_lt _ _ ha)))) ?_
      refine DR.t 23 rfl (Val.eq (Val.of rfl) (show _ = Value.int .u32 ((ru q : Nat) : Int) from congrArg (Value.int .u32) (u32_add _ _))) ?_
      refine DR.t 24 rfl (Val.of rfl) ?_
      refine DR.done (by kernel_rfl) (RQ.next ?_)
      refine RC.region ?_
      refine Run.a (Val.of rfl) ?_
      refine Run.a (Val.of rfl) ?_
      refine Run.a (Val.eq (Val.of rfl) (show _ = Value.int .u32 ((add32 (rt q kk x) (ru q) : Nat) : Int) from congrArg (Value.int .u32) (u32_add _ _))) ?_
      refine Run.a (Val.ix tabOk 0 (off' := 0) rfl rfl rfl rfl rfl rfl rfl (by decide) rfl) ?_
      refine Run.a (Val.load tabOk rfl rfl rfl m0 rfl) ?_
      refine Run.a (Val.ix tabOk 1 (off' := 1) rfl rfl rfl rfl rfl rfl rfl (by decide) rfl) ?_
      refine Run.a (Val.load tabOk rfl rfl rfl m0 rfl) ?_
      refine Run.a (Val.ix tabOk 2 (off' := 2) rfl rfl rfl rfl rfl rfl rfl (by decide) rfl) ?_
      refine Run.a (Val.load tabOk rfl rfl rfl m0 rfl) ?_
      refine Run.a (Val.ix tabOk 3 (off' := 3) rfl rfl rfl rfl rfl rfl rfl (by decide) rfl) ?_
      refine Run.a (Val.load tabOk rfl rfl rfl m0 rfl) ?_
      refine Run.a (Val.of rfl) ?_
      refine Run.a (Val.eq (Val.of rfl) (show _ = Value.int .u32 ((add32 q.d (rt q kk x) : Nat) : Int) from congrArg (Value.int .u32) (u32_add _ _))) ?_
      refine Run.a (Val.ix tabOk 4 (off' := 4) rfl rfl rfl rfl rfl rfl rfl (by decide) rfl) ?_
      refine Run.a (Val.load tabOk rfl rfl rfl m0 rfl) ?_
      refine Run.a (Val.ix tabOk 5 (off' := 5) rfl rfl rfl rfl rfl rfl rfl (by decide) rfl) ?_
      refine Run.a (Val.load tabOk rfl rfl rfl m0 rfl) ?_
      refine Run.a (Val.ix tabOk 6 (off' := 6) rfl rfl rfl rfl rfl rfl rfl (by decide) rfl) ?_
      refine Run.a (Val.load tabOk rfl rfl rfl m0 rfl) ?_
      refine Run.a (Val.buildA tabOk (parts := [(0, .tmp 210), (1, .tmp 212), (2, .tmp 214), (3, .tmp 216), (4, .tmp 220), (5, .tmp 222), (6, .tmp 224), (7, .tmp 226)]) (vs := u32s (rnd q kk x).l) (cells := (u32s (rnd q kk x).l).toArray) rfl rfl rfl rfl rfl (fill8 _ _ _ _ _ _ _ _)) ?_
      refine Run.storeAll tabOk rfl rfl rfl rfl rfl rfl (List.Perm.refl _) rfl rfl (fun u hu => u32s_one (rnd q kk x).l u (by simpa [Value.cells] using hu)) ?_
      refine Run.nil (RQ.blockNormal (RQ.next ?_))
      refine RC.region ?_
      repeat (first | refine Run.a Val.ra ?_ | refine Run.a (Val.of rfl) ?_)
      exact Run.nil (RQ.up (i + 1) () (Nat.lt_succ_self _) hi' trivial ⟨rfl, rfl, rfl, rfl, rfl, rfl, rfl, rfl, trivial⟩ (by rw [hnext]; exact List.Sublist.refl _))
    have hi' : i = 64 := by have := of_decide_eq_false h; omega
    subst hi'
    clear h hi hKat hx64
    have hcl : (s.add (rounds s ws 64)).l = List.zipWith add32 s.l (rounds s ws 64).l := rfl
    have e1 : s.l.length = 8 := rfl
    have e2 : (rounds s ws 64).l.length = 8 := rfl
    rw [← hcmp] at hcl
    generalize (rounds s ws 64).l = B at *
    generalize s.l = A at *
    have e3 : A.length = B.length := e1.trans e2.symm
    (repeat refine RQ.thenExit ?_); refine RQ.blockHere ?_
    refine RQ.next ?_
    (repeat refine RC.seq ?_); refine RC.region ?_
    repeat refine Run.a (Val.of rfl) ?_
    refine Run.nil (RQ.next ?_)
    (repeat refine RC.seq ?_); refine RC.block ?_
    refine RC.perm p2 ?_
    refine RC.up 8 (D := Unit) (fun i _ => True) (fun i _ => [(19, .int .i64 i), (13, .pointer (some ⟨b13, 0, none⟩)), (7, .int .i64 (64 * k : Nat)), (5, .slice (some ⟨b, 0, none⟩) (64 * M) cap), (4, .pointer (some ⟨b4, 0, none⟩)), (3, .pointer (some ⟨b3, 0, none⟩)), (2, .pointer (some ⟨b2, 0, none⟩))]) (fun i _ => [(b3, .cells (u32s (addTo A B i)).toArray 110 (0, 0)), (b13, .cells (u32s B).toArray 110 (0, 0)), (b8, .cells (u32s (ws)).toArray 111 (0, 0)), (b, .cells (u8s p ++ rest).toArray 5 (0, 0)), (b4, .cells Kc.toArray 111 (0, 0)), (b2, .cells ti79.zero.cells 79 (0, 0))]) 0 () (by omega) trivial ⟨rfl, rfl, rfl, rfl, rfl, rfl, rfl, trivial⟩ (by simp [addTo]) ?_
    intro i _ hi _
    have hl1 : (addTo A B i).length = 8 := (addTo_len A B e3 i).trans e1
    (repeat refine RC.seq ?_); refine RC.region ?_
    repeat refine Run.a (Val.of rfl) ?_
    refine Run.nil (RQ.next ?_)
    (repeat refine RC.seq ?_); refine RC.wh rfl (fun h => RQ.next ?_) (fun h => ?_)
    · have hi' : i < 8 := by have := of_decide_eq_true h; omega
      have hi1 : i < A.length := by omega
      have hat : (u32s (addTo A B i)).toArray[i]? = some (.int .u32 (A.getD i 0 : Nat)) := by
        rw [u32s_at _ _ (by omega), addTo_at A B e3 i hi1]
      have hbt : (u32s B).toArray[i]? = some (.int .u32 (B.getD i 0 : Nat)) := u32s_at _ _ (by omega)
      (repeat refine RC.seq ?_); refine RC.block ?_
      (repeat refine RC.seq ?_); refine RC.drawS mixed (N := 10) rfl ?_
      refine DR.t 0 rfl (Val.of rfl) ?_
      refine DR.t 1 rfl (Val.of rfl) ?_
      refine DR.t 2 rfl (Val.ix tabOk i (off' := i) rfl rfl rfl rfl rfl rfl rfl hi' (by simp [ti109])) ?_
      refine DR.t 3 rfl (Val.load tabOk rfl rfl rfl m0 hat) ?_
      refine DR.t 4 rfl (Val.of rfl) ?_
      refine DR.t 5 rfl (Val.ix tabOk i (off' := i) rfl rfl rfl rfl rfl rfl rfl hi' (by simp [ti109])) ?_
      refine DR.t 6 rfl (Val.load tabOk rfl rfl rfl m1 hbt) ?_
      refine DR.t 7 rfl (Val.eq (Val.of rfl) (congrArg (Value.int .u32) (u32_add _ _))) ?_
      refine DR.t 8 rfl (Val.ix tabOk i (off' := i) rfl rfl rfl rfl rfl rfl rfl hi' (by simp [ti109])) ?_
      refine DR.c 9 ?_
      refine DOp.op1 rfl (OpTo.storeTo tabOk ((u32s_set _ i _ (by omega)).trans (congrArg (fun l => (u32s l).toArray) (addTo_set A B e3 i _ hi1 rfl))) rfl rfl rfl rfl rfl (List.Perm.refl _) rfl (by simp only [List.size_toArray, u32s_len, hl1]; exact hi') (by simp [Value.cells]; rfl)) (fun _ => ?_)
      refine DR.done (by kernel_rfl) (RQ.blockNormal (RQ.next ?_))
      refine RC.region ?_
      repeat (first | refine Run.a Val.ra ?_ | refine Run.a (Val.of rfl) ?_)
      exact Run.nil (RQ.up (i + 1) () (Nat.lt_succ_self _) hi' trivial ⟨rfl, rfl, rfl, rfl, rfl, rfl, rfl, trivial⟩ (List.Sublist.refl _))
    have hi' : i = 8 := by have := of_decide_eq_false h; omega
    subst hi'
    have hzz : addTo A B 8 = (sumTo p (k + 1)).l := by
      rw [hcl]
      unfold addTo
      rw [List.take_of_length_le (by simp; omega), List.drop_eq_nil_of_le (by omega), List.append_nil]
    rw [hzz]
    clear h hi hzz hl1
    (repeat refine RQ.thenExit ?_); refine RQ.blockHere ?_
    refine RQ.blockNormal (RQ.next ?_)
    refine RC.region ?_
    repeat (first | refine Run.a Val.ra ?_ | refine Run.a (Val.of rfl) ?_)
    exact Run.nil (RQ.up (k + 1) () (Nat.lt_succ_self _) hk' trivial ⟨rfl, rfl, rfl, rfl, rfl, trivial⟩ (List.Sublist.cons_cons _ (List.Sublist.cons _ (List.Sublist.cons _ (List.Sublist.refl _)))))
  have hk' : k = M := by have := of_decide_eq_false h; omega
  subst hk'
  clear h hk
  have hs := sumTo_lt p k
  generalize sumTo p k = s at *
  have hsl : s.l.length = 8 := rfl
  (repeat refine RQ.thenExit ?_); refine RQ.blockHere ?_
  refine RQ.next ?_
  (repeat refine RC.seq ?_); refine RC.region ?_
  refine Run.nw (New.alloc tabOk rfl rfl) ?_
  intro b20
  refine Run.nil (RQ.next ?_)
  (repeat refine RC.seq ?_); refine RC.region ?_
  refine Run.a (Val.of rfl) ?_
  refine Run.nil (RQ.next ?_)
  (repeat refine RC.seq ?_); refine RC.block ?_
  refine RC.up 32 (D := Unit) (fun _ _ => True) (fun i _ => [(21, .int .i64 i), (20, .pointer (some ⟨b20, 0, none⟩)), (3, .pointer (some ⟨b3, 0, none⟩)), (2, .pointer (some ⟨b2, 0, none⟩))])
    (fun i _ => [(b20, .cells (u8s (outB s i ++ List.replicate (32 - i) 0)).toArray 79 (0, 0)), (b3, .cells (u32s s.l).toArray 110 (0, 0)), (b2, .cells ti79.zero.cells 79 (0, 0))])
    0 () (Nat.zero_le _) trivial ⟨rfl, rfl, rfl, rfl, trivial⟩ (List.Sublist.cons_cons _ (List.Sublist.cons_cons _ (List.Sublist.cons _ (List.Sublist.cons _ (List.Sublist.refl _))))) ?_
  intro i _ hi _
  (repeat refine RC.seq ?_); refine RC.region ?_
  repeat refine Run.a (Val.of rfl) ?_
  refine Run.nil (RQ.next ?_)
  (repeat refine RC.seq ?_); refine RC.wh rfl (fun h => RQ.next ?_) (fun h => ?_)
  · have hi' : i < 32 := by have := of_decide_eq_true h; omega
    clear h
    have hset := outB_set s i hi'
    have hx : s.l.getD (i / 4) 0 < 4294967296 := V8.getD_lt hs _
    have hat := u32s_at s.l (i / 4) (by omega)
    generalize s.l.getD (i / 4) 0 = x at *
    (repeat refine RC.seq ?_); refine RC.block ?_
    refine RC.region ?_
    refine Run.a (Val.of rfl) ?_
    refine Run.a (Val.of rfl) ?_
    refine Run.a (Val.eq (Val.of rfl) (show _ = Value.int .i64 ((i / 4 : Nat) : Int) from congrArg (Value.int .i64) ((wrap_in (show inK _ ((i / 4 : Nat) : Int) from by simp only [inK]; omega))))) ?_
    refine Run.a (Val.ix tabOk (i / 4) (off' := i / 4) rfl rfl rfl rfl rfl rfl rfl (by omega) (by simp [ti109])) ?_
    refine Run.a (Val.load tabOk rfl rfl rfl m1 hat) ?_
    refine Run.a (Val.of rfl) ?_
    refine Run.a (Val.eq (Val.of rfl) (show _ = Value.int .i64 ((i % 4 : Nat) : Int) from rfl)) ?_
    refine Run.a (Val.ar rfl rfl rfl rfl (by dsimp only [inK]; omega)) ?_
    refine Run.a (Val.eq (Val.ar rfl rfl rfl rfl (by dsimp only [inK]; omega)) (show _ = Value.int .i64 ((24 - i % 4 * 8 : Nat) : Int) from by congr 1; omega)) ?_
    refine Run.a (Val.convIn tabOk rfl rfl rfl rfl rfl rfl (by simp only [inK]; omega)) ?_
    refine Run.a (Val.shr (m := 24 - i % 4 * 8) rfl rfl rfl (by show _ ≤ 32; omega)) ?_
    refine Run.a (Val.eq (Val.conv tabOk rfl rfl rfl rfl rfl rfl) (show _ = Value.int .u8 ((x / 2 ^ (24 - i % 4 * 8) % 256 : Nat) : Int) from congrArg (Value.int .u8) (by rw [wrap_u8]; rfl))) ?_
    refine Run.a (Val.ix tabOk i (off' := i) rfl rfl rfl rfl rfl rfl rfl hi' (by simp [ti5])) ?_
    refine Run.storeTo tabOk (arr' := (u8s (outB s (i + 1) ++ List.replicate (32 - (i + 1)) 0)).toArray) (by rw [← hset]; exact u8s_set _ _ _ (by simp [outB_len]; omega)) rfl rfl rfl rfl rfl rfl (List.Perm.refl _) rfl (by simp [u8s_len, outB_len, ti5]; omega) (by simp [Value.cells]; rfl) ?_
    refine Run.nil (RQ.blockNormal (RQ.next ?_))
    refine RC.region ?_
    repeat (first | refine Run.a Val.ra ?_ | refine Run.a (Val.of rfl) ?_)
    exact Run.nil (RQ.up (i + 1) () (Nat.lt_succ_self _) hi' trivial ⟨rfl, rfl, rfl, rfl, trivial⟩ (List.Sublist.refl _))
  have hi' : i = 32 := by have := of_decide_eq_false h; omega
  subst hi'
  clear h
  have hlen := outB_len s 32
  rw [Nat.sub_self, List.replicate_zero, List.append_nil]
  generalize outB s 32 = out at *
  have hsz : (u8s out).toArray.size = 32 := by simp [u8s_len, hlen]
  (repeat refine RQ.thenExit ?_); refine RQ.blockHere ?_
  refine RQ.next ?_
  (repeat refine RC.seq ?_); refine RC.region ?_
  refine Run.a (Val.loadAll tabOk rfl rfl rfl rfl List.mem_cons_self hsz) ?_
  refine Run.storeAll (arr := ti79.zero.cells) tabOk rfl rfl rfl rfl rfl rfl p2 hsz (by rfl) (fun u hu => u8s_one out u (by simpa [Value.cells] using hu)) ?_
  exact Run.nil (RQ.next (RC.ret (RQ.ret1 rfl (Res.cellAll tabOk rfl rfl rfl List.mem_cons_self hsz) fun w' hm => ⟨rfl, hm.fr⟩)))
end Go.Proofs.YtfoeakgnkfcbjaaGreatDoor

/- The reference's Digest, Two. -/
namespace Go.Proofs.YtfoeakgnkfcbjaaGreatDoor
open Go Go.Vc Go.Sha

set_option maxRecDepth 10000 in set_option maxHeartbeats 4000000 in
theorem Digest_calls (p : Nat) (hp : p < 256) (pv : Value) (vs : List Value) (ls : List (List Nat)) (w : World) (hs : SrcW w 1 pv ls.length vs) (hps : Parts w vs ls)
    (ht : tot ls ≤ 1099511000000) (hb : ∀ l ∈ ls, ∀ x ∈ l, x < 256) :
    Gives Tryz.prog 14 [.int .u8 p, pv] (.agg (u8s (digest p ls)).toArray) w := by
  refine enter Tryz.func14 rfl (Mem.nil w []) rfl ?_
  (repeat refine RC.seq ?_); refine RC.region ?_
  refine Run.nw (New.alloc tabOk rfl rfl) ?_
  intro b4
  refine Run.nil (RQ.next ?_)
  obtain ⟨pa, pc, hpv, hpc⟩ := hs.shape
  (repeat refine RC.seq ?_); refine RC.region ?_
  refine Run.a (Val.of rfl) ?_
  refine Run.nw (New.buildSlice tabOk (parts := [(0, .tmp 9)]) (cells := (u8s [p]).toArray) rfl rfl rfl rfl rfl rfl (fillS_full 1 1 _ [.int .u8 p] rfl (by simp [Value.cells]))) ?_
  intro b12
  refine Run.a (Val.of rfl) ?_
  refine Run.nil (RQ.next ?_)
  (repeat refine RC.seq ?_); refine RC.region ?_
  refine Run.a (Val.of rfl) ?_
  refine Run.nil (RQ.next ?_)
  (repeat refine RC.seq ?_); refine RC.block ?_
  refine RC.up ls.length (D := Value × Hp) (fun i x => Own 5 1 x.1 (1 + tot (ls.take i)) (u8s (text p (ls.take i))) x.2)
    (fun i x => [(6, .int .i64 i), (5, x.1), (1, pv), (4, .pointer (some ⟨b4, 0, none⟩))])
    (fun i x => x.2 ++ [(b4, .cells ti22.zero.cells 23 (0, 0))])
    0 (_, _) (Nat.zero_le _) (Own.row b12 1 1 (u8s [p]) [] rfl rfl (Nat.le_refl _) (by decide)) ⟨rfl, rfl, rfl, rfl, trivial⟩ (List.Sublist.refl _) ?_
  rintro i ⟨v5, bl5⟩ hi hown
  dsimp only at hown ⊢
  (repeat refine RC.seq ?_); refine RC.region ?_
  refine Run.a (Val.of rfl) ?_
  refine Run.a (Val.of rfl) ?_
  refine Run.a (Val.len (len := ls.length) tabOk rfl rfl rfl (by rw [hpv]; rfl)) ?_
  refine Run.a (Val.of rfl) ?_
  refine Run.nil (RQ.next ?_)
  (repeat refine RC.seq ?_); refine RC.wh rfl (fun h => RQ.next ?_) (fun h => ?_)
  · have hi' : i < ls.length := by have := of_decide_eq_true h; omega
    clear h
    have h4 := tot_ge ls
    have h1 := tot_take_succ ls i hi'
    have h2 := tot_take_le ls i hi'
    have h3 := text_take_succ p ls i hi'
    have hvi := hps.2 i (by rw [hps.1]; exact hi') hi'
    obtain ⟨ai, ci, hav, hac⟩ := hvi.shape
    have hbi := hb ls[i] (List.getElem_mem hi')
    have hiv : i < vs.length := by rw [hps.1]; exact hi'
    have hgv : vs[i]? = some vs[i] := List.getElem?_eq_getElem hiv
    generalize hvv : vs[i] = vi at *
    generalize hle' : ls[i] = li at *
    obtain ⟨pa', pc', hpe, hpc', hpl, hpr⟩ := SrcW.pos hs (Nat.lt_of_le_of_lt (Nat.zero_le _) hi')
    clear hpv hpc
    subst hpe
    (repeat refine RC.seq ?_); refine RC.block ?_
    (repeat refine RC.seq ?_); refine RC.draw [] mixed (N := 14) rfl ?_
    refine DR.t 0 rfl (Val.of rfl) ?_
    refine DR.t 1 rfl (Val.of rfl) ?_
    refine DR.t 2 rfl (Val.of rfl) ?_
    refine DR.t 3 rfl (Val.ixS tabOk i (ad' := pa'.add i) rfl rfl rfl rfl rfl rfl rfl hi' (by simp [ti35])) ?_
    refine DR.t 4 rfl (Val.loadOld1 (v := vi) tabOk rfl rfl rfl rfl (by simp) (hpr i vi hgv)) ?_
    refine DR.t 5 rfl (Val.len (len := li.length) tabOk rfl rfl rfl (by rw [hav]; rfl)) ?_
    refine DR.t 8 rfl (Val.of rfl) ?_
    refine DR.t 9 rfl (Val.of rfl) ?_
    refine DR.t 10 rfl (Val.ixS tabOk i (ad' := pa'.add i) rfl rfl rfl rfl rfl rfl rfl hi' (by simp [ti35])) ?_
    refine DR.t 11 rfl (Val.loadOld1 (v := vi) tabOk rfl rfl rfl rfl (by simp) (hpr i vi hgv)) ?_
    refine DR.one (i := 6) (by kernel_rfl) (DOp.op rfl (Wanted.plain rfl) (OpTo.callMk Tryz.func36 rfl rfl rfl rfl rfl rfl (fun w' hm => Num_calls li.length 4 (by decide) w')) (.inl fun _ => List.nil_sublist _) ?_)
    rintro ⟨⟨vn, bln⟩, hownn⟩
    have hownn' : Own 5 1 vn 4 (u8s (le4 li.length)) bln := by rw [← le_four]; exact hownn
    refine DR.one (i := 7) (by kernel_rfl) (DOp.op rfl (Wanted.plain rfl) (OpTo.append tabOk hown (Own.src hownn' (fun q hq => List.mem_append_left _ hq)) rfl rfl rfl rfl rfl rfl rfl rfl rfl (List.perm_append_comm_assoc _ _ _) (u8s_one _) (by unfold maxLen; omega) (by simp only [ti5]; omega)) (.inl fun _ => List.nil_sublist _) ?_)
    rintro ⟨⟨v6, bl6⟩, hown6⟩
    refine DR.one (i := 12) (by kernel_rfl) (DOp.op rfl (Wanted.plain rfl) (OpTo.append tabOk hown6 (hvi.src) rfl rfl rfl rfl rfl rfl rfl rfl rfl (List.Perm.refl _) (u8s_one _) (by unfold maxLen; omega) (by simp only [ti5]; omega)) (.inl fun _ => List.nil_sublist _) ?_)
    rintro ⟨⟨v7, bl7⟩, hown7⟩
    refine DR.c 13 ?_
    refine DOp.vl rfl (Val.of rfl) ?_
    refine DR.done (by kernel_rfl) (RQ.blockNormal (RQ.next ?_))
    refine RC.region ?_
    repeat (first | refine Run.a Val.ra ?_ | refine Run.a (Val.of rfl) ?_)
    refine Run.nil (RQ.up (i + 1) (v7, bl7) (Nat.lt_succ_self _) hi' ?_ ⟨rfl, rfl, rfl, rfl, trivial⟩ (List.Sublist.append (List.Sublist.refl _) (List.sublist_append_right _ _)))
    have h := hown7
    rw [← u8s_app, ← u8s_app, List.append_assoc, ← h3, show 1 + tot (ls.take i) + 4 + li.length = 1 + tot (ls.take (i + 1)) by omega] at h
    exact h
  · have hi' : i = ls.length := by have := of_decide_eq_false h; omega
    subst hi'
    rw [List.take_length] at hown
    have htl := text_len p ls
    have htb := text_lt p hp ls hb
    have hdig : digest p ls = (sha (text p ls)).take 8 := rfl
    rw [hdig]
    rw [← htl] at hown
    generalize text p ls = tx at *
    have hsl := sha_len tx
    (repeat refine RQ.thenExit ?_); refine RQ.blockHere ?_
    refine RQ.next ?_
    (repeat refine RC.seq ?_); refine RC.region ?_
    refine Run.a (Val.of rfl) ?_
    refine Run.callV Tryz.func37 rfl rfl rfl rfl rfl rfl rfl (fun w' hm => ref_Sum_calls v5 tx.length tx w' (hown.srcW (fun q hq => hm.has q (List.mem_append_left _ hq))) (by omega) htb) ?_
    generalize sha tx = out at *
    have hsz : (u8s out).toArray.size = 32 := by simp [u8s_len, hsl]
    refine Run.nw (New.alloc tabOk rfl rfl) ?_
    intro b9
    refine Run.storeAll tabOk rfl rfl rfl rfl rfl rfl (List.Perm.refl _) hsz rfl (fun u hu => u8s_one out u (by simpa [Value.cells] using hu)) ?_
    refine Run.nil (RQ.next ?_)
    (repeat refine RC.seq ?_); refine RC.region ?_
    refine Run.nw (New.alloc tabOk rfl rfl) ?_
    intro b10
    refine Run.nil (RQ.next ?_)
    (repeat refine RC.seq ?_); refine RC.drawS mixed (N := 3) rfl ?_
    refine DR.t 0 rfl (Val.sliceA tabOk rfl rfl rfl rfl rfl) ?_
    refine DR.t 1 rfl (Val.sliceAhi tabOk rfl rfl rfl rfl rfl rfl (by decide) (by decide)) ?_
    refine DR.c 2 ?_
    refine DOp.op1 rfl (OpTo.copyTo tabOk (arr' := (u8s (out.take 8)).toArray) (m := 8) (cs := u8s (out.take 8)) (u8s_take out 8 ▸ Rd.rowTake (cs := u8s out) (List.mem_cons_of_mem _ List.mem_cons_self) 8) (by rw [wrAt_all _ _ (by simp [u8s_len, hsl]; rfl)]) rfl rfl rfl rfl rfl rfl rfl rfl (List.Perm.refl _) (by simp [u8s_len, hsl, ti5]) rfl (by simp [u8s_len, hsl]; decide) (u8s_one _)) (fun _ => ?_)
    refine DR.done (by kernel_rfl) (RQ.next ?_)
    have hsz8 : (u8s (out.take 8)).toArray.size = 8 := by simp [u8s_len, hsl]
    generalize out.take 8 = dg at *
    (repeat refine RC.seq ?_); refine RC.region ?_
    refine Run.a (Val.loadAll tabOk rfl rfl rfl rfl List.mem_cons_self hsz8) ?_
    refine Run.storeAll (arr := ti23.zero.cells) (L' := _ :: _ :: bl5) tabOk rfl rfl rfl rfl rfl rfl (List.perm_append_comm (l₁ := _ :: _ :: bl5) (l₂ := [_])) hsz8 (by rfl) (fun u hu => u8s_one dg u (by simpa [Value.cells] using hu)) ?_
    exact Run.nil (RQ.next (RC.ret (RQ.ret1 rfl (Res.cellAll tabOk rfl rfl rfl List.mem_cons_self hsz8) fun w' hm => ⟨rfl, hm.fr⟩)))

set_option maxRecDepth 10000 in set_option maxHeartbeats 4000000 in
theorem ref_Two_calls (p : Nat) (hp : p < 256) (a b : List Nat) (ha : a.length = 8) (hb : b.length = 8) (ha' : ∀ x ∈ a, x < 256) (hb' : ∀ x ∈ b, x < 256) (w : World) :
    Gives Tryz.prog 61 [.int .u8 p, .agg (u8s a).toArray, .agg (u8s b).toArray] (.agg (u8s (digest p [a, b])).toArray) w := by
  refine enter Tryz.func61 rfl (Mem.nil w []) rfl ?_
  (repeat refine RC.seq ?_); refine RC.region ?_
  refine Run.nw (New.boxA rfl rfl) ?_
  intro b4
  refine Run.nw (New.boxA rfl rfl) ?_
  intro b5
  refine Run.nw (New.alloc tabOk rfl rfl) ?_
  intro b6
  refine Run.nil (RQ.next ?_)
  (repeat refine RC.seq ?_); refine RC.drawS mixed (N := 6) rfl ?_
  refine DR.t 0 rfl (Val.of rfl) ?_
  refine DR.t 1 rfl (Val.eq (Val.sliceA tabOk rfl rfl rfl rfl rfl) (show _ = Value.slice (some ⟨b4, 0, none⟩) a.length a.length from by rw [ha])) ?_
  refine DR.t 2 rfl (Val.eq (Val.sliceA tabOk rfl rfl rfl rfl rfl) (show _ = Value.slice (some ⟨b5, 0, none⟩) b.length b.length from by rw [hb])) ?_
  refine DR.c 3 ?_
  refine DOp.op1 rfl (OpTo.new rfl rfl (New.buildSlice tabOk (parts := [(0, .tmp 8), (1, .tmp 9)]) (cells := [Value.slice (some ⟨b4, 0, none⟩) a.length a.length, Value.slice (some ⟨b5, 0, none⟩) b.length b.length].toArray) rfl rfl rfl rfl rfl rfl (fillS_full 1 2 _ [Value.slice (some ⟨b4, 0, none⟩) a.length a.length, Value.slice (some ⟨b5, 0, none⟩) b.length b.length] rfl (by simp [Value.cells])))) ?_
  intro b10
  refine DR.c 4 ?_
  refine DOp.op1 rfl (OpTo.callV Tryz.func14 rfl rfl rfl rfl rfl rfl (fun w' hm => Digest_calls p hp _ _ [a, b] w' (SrcW.row hm List.mem_cons_self rfl (Nat.le_refl 2)) (parts2 (u := .slice (some ⟨b4, 0, none⟩) a.length a.length) (v := .slice (some ⟨b5, 0, none⟩) b.length b.length) (SrcW.row hm m3 (by simp [u8s_len]) (Nat.le_refl _)) (SrcW.row hm m2 (by simp [u8s_len]) (Nat.le_refl _))) (by simp [tot, ha, hb]) (by simpa using ⟨ha', hb'⟩))) (fun _ => ?_)
  have hd := digest_len p [a, b]
  generalize digest p [a, b] = dg at *
  have hsz : (u8s dg).toArray.size = 8 := by simp [u8s_len, hd]
  refine DR.c 5 ?_
  refine DOp.op1 rfl (OpTo.storeAll tabOk rfl rfl rfl rfl rfl (List.Perm.swap _ _ _) hsz rfl (fun u hu => u8s_one dg u (by simpa [Value.cells] using hu))) (fun _ => ?_)
  refine DR.done (by kernel_rfl) (RQ.next ?_)
  refine RC.ret ?_
  exact RQ.ret1 rfl (Res.cellAll tabOk rfl rfl rfl List.mem_cons_self hsz) fun w' hm => ⟨rfl, hm.fr⟩

end Go.Proofs.YtfoeakgnkfcbjaaGreatDoor
end
