/- hash.Sum is SHA-256. -/
import Derived.Test.YtilfbomjaflbjaaDoorSha4
namespace Go.Proofs.YtilfbomjaflbjaaDoor
open Go Go.Vc Go.Sha


/-- Where the text's rest begins behind k blocks. -/
def restAt (b cap : Nat) : Nat → Addr
  | 0 => ⟨b, 0, none⟩
  | k + 1 => if cap - 64 * k = 64 then restAt b cap k else (restAt b cap k).add 64
theorem restAt_eq (b cap : Nat) : ∀ k, 64 * k < cap → restAt b cap k = ⟨b, 64 * k, none⟩
  | 0, _ => rfl
  | k + 1, h => by
    unfold restAt
    rw [if_neg (by omega), restAt_eq b cap k (by omega), add_lit]
    rfl

theorem Own.row' {e : TypeId} {sz : Nat} {v : Value} {m : Nat} {cs : List Value} {bl : Hp} (h : Own e sz v m cs bl) (hm : 0 < m) :
    ∃ b cap rest, v = .slice (some ⟨b, 0, none⟩) m cap ∧ bl = [(b, .cells (cs ++ rest).toArray e (0, 0))] ∧ cs.length = m * sz ∧ m ≤ cap ∧ cap ≤ maxLen ∧ (cs ++ rest).length = cap * sz := by
  cases h with
  | nil => cases hm
  | row b n cap cs rest h1 h2 hn hc => exact ⟨b, cap, rest, rfl, rfl, h1, hn, hc, h2⟩

theorem V8.getD_lt {s : V8} (hs : s.lt) (i : Nat) : s.l.getD i 0 < 4294967296 := by
  rw [List.getD_eq_getElem?_getD]
  cases h : s.l[i]? with
  | none => decide
  | some x => exact hs x (List.mem_of_getElem? h)
theorem outB_set (s : V8) (i : Nat) (h : i < 32) : (outB s i ++ List.replicate (32 - i) 0).set i (s.l.getD (i / 4) 0 / 2 ^ (24 - i % 4 * 8) % 256) = outB s (i + 1) ++ List.replicate (32 - (i + 1)) 0 := by
  rw [List.set_append_right _ _ (by rw [outB_len]; exact Nat.le_refl _), outB_len, Nat.sub_self, outB_succ, show 32 - i = (32 - (i + 1)) + 1 by omega, List.replicate_succ, List.set_cons_zero, List.append_assoc]
  rfl

theorem Sum_calls (v : Value) (n : Nat) (l : List Nat) (w : World) (hs : SrcW w 1 v n (u8s l)) (hn : n ≤ 1099511627776) (hb : ∀ x ∈ l, x < 256) (hK : Laid w) :
    Gives Tryd.prog 66 [v] (.agg (u8s (sha l)).toArray) w := by
  have hln : l.length = n := by have := hs.len; rw [u8s_len, Nat.mul_one] at this; exact this
  have hgl : 0 < w.heap.size := World.block_lt_of_cell? w ⟨0, 0, none⟩ (hK 0 (by decide))
  have hz := zeros_spec n
  refine enter Tryd.func66 rfl (Mem.nil w []) rfl ?_
  (repeat refine RC.seq ?_); refine RC.region ?_
  refine Run.mk rfl rfl rfl (New.alloc tabOk rfl rfl) ?_
  intro b2
  refine Run.nil (RQ.next ?_)
  (repeat refine RC.seq ?_); refine RC.region ?_
  refine Run.v rfl rfl rfl (Val.of rfl) ?_
  refine Run.op rfl (OpTo.callMk Tryd.func71 rfl rfl rfl rfl rfl rfl (fun w' hm => Clone_calls v n l w' (hs.mem hm) hn)) ?_
  rintro ⟨⟨v1, bl1⟩, hown1⟩
  refine Run.mk rfl rfl rfl (New.buildSlice tabOk (parts := [(0, .const (.int .u8 128))]) (cells := (u8s [128]).toArray) rfl rfl rfl rfl rfl rfl (fillS_full 1 1 _ [.int .u8 128] rfl (by simp [Value.cells]))) ?_
  intro b3
  refine Run.op rfl (OpTo.append tabOk hown1 (Src.at ⟨b3, 0, none⟩ 1 1 (u8s [128]) rfl (Rd.rowAll List.mem_cons_self)) rfl rfl rfl rfl rfl rfl rfl rfl rfl (List.perm_middle.symm) (u8s_one _) (by unfold maxLen; omega) (by simp only [ti5]; omega)) ?_
  rintro ⟨⟨v2, bl2⟩, hown2⟩
  refine Run.v rfl rfl rfl (Val.of rfl) ?_
  refine Run.nil (RQ.next ?_)
  (repeat refine RC.seq ?_); refine RC.block ?_
  let ι := {x : Nat × Value × Hp // Own 5 1 x.2.1 (n + 1 + x.1) (u8s (l ++ 128 :: List.replicate x.1 0)) x.2.2}
  refine RC.weak (E' := [(3, v2), (2, .pointer (some ⟨b2, 0, none⟩)), (0, v)]) (L' := bl2 ++ [(b2, .cells ti97.zero.cells 97 (0, 0))]) ⟨rfl, rfl, rfl, trivial⟩ (List.Sublist.append (List.Sublist.refl _) (List.Sublist.cons _ (List.Sublist.refl _))) ?_
  refine RC.loop (ι := ι) (fun x => [(3, x.1.2.1), (2, .pointer (some ⟨b2, 0, none⟩)), (0, v)]) (fun x => x.1.2.2 ++ [(b2, .cells ti97.zero.cells 97 (0, 0))]) (fun x => x.1.1 ≤ zeros n) (fun x => zeros n - x.1.1)
    ⟨(0, v2, bl2), by have h := hown2; rw [← u8s_app] at h; exact h⟩ (Nat.zero_le _) ⟨rfl, rfl, rfl, trivial⟩ (List.Perm.refl _) ?_
  rintro ⟨⟨j, v3, bl3⟩, hown3⟩ hj
  dsimp only at hown3 hj ⊢
  obtain ⟨a3, c3, hv3, hc3⟩ := hown3.shape
  (repeat refine RC.seq ?_); refine RC.region ?_
  refine Run.v rfl rfl rfl (Val.of rfl) ?_
  refine Run.v rfl rfl rfl (Val.len (len := n + 1 + j) tabOk rfl rfl rfl (by rw [hv3]; rfl)) ?_
  refine Run.v rfl rfl rfl (Val.eq (Val.of rfl) (show _ = Value.int .i64 (((n + 1 + j) % 64 : Nat) : Int) from rfl)) ?_
  refine Run.v rfl rfl rfl (Val.of rfl) ?_
  refine Run.nil (RQ.next ?_)
  (repeat refine RC.seq ?_); refine RC.wh rfl (fun h => RQ.next ?_) (fun h => ?_)
  · have hne : (n + 1 + j) % 64 ≠ 56 := by
      intro e; rw [e] at h; cases h
    have hj' : j < zeros n := by
      rcases Nat.lt_or_ge j (zeros n) with h' | h'
      · exact h'
      · exact absurd (by rw [show j = zeros n by omega]; exact hz.1) hne
    refine RC.block ?_
    (repeat refine RC.seq ?_); refine RC.region ?_
    refine Run.v rfl rfl rfl (Val.of rfl) ?_
    refine Run.mk rfl rfl rfl (New.buildSlice tabOk (parts := [(0, .const (.int .u8 0))]) (cells := (u8s [0]).toArray) rfl rfl rfl rfl rfl rfl (fillS_full 1 1 _ [.int .u8 0] rfl (by simp [Value.cells]))) ?_
    intro b4
    refine Run.op rfl (OpTo.append tabOk hown3 (Src.at ⟨b4, 0, none⟩ 1 1 (u8s [0]) rfl (Rd.rowAll List.mem_cons_self)) rfl rfl rfl rfl rfl rfl rfl rfl rfl (List.perm_middle.symm) (u8s_one _) (by unfold maxLen; omega) (by simp only [ti5]; omega)) ?_
    rintro ⟨⟨v4, bl4⟩, hown4⟩
    refine Run.v rfl rfl rfl (Val.of rfl) ?_
    refine Run.nil (RQ.blockNormal ?_)
    refine RQ.round (i := ⟨(j, v3, bl3), hown3⟩) (Ei := fun x : ι => [(3, x.1.2.1), (2, .pointer (some ⟨b2, 0, none⟩)), (0, v)]) (Inv := fun x : ι => x.1.1 ≤ zeros n) (μ := fun x : ι => zeros n - x.1.1) ⟨(j + 1, v4, bl4), ?_⟩ (by show j + 1 ≤ zeros n; omega) (by show zeros n - (j + 1) < zeros n - j; omega) ⟨rfl, rfl, rfl, trivial⟩ (List.Sublist.append (List.Sublist.refl _) (List.Sublist.cons _ (List.Sublist.refl _)))
    have h := hown4
    rw [← u8s_app, List.append_assoc, List.cons_append, ← List.replicate_succ'] at h
    exact h
  · have hj' : j = zeros n := by
      have : (n + 1 + j) % 64 = 56 := by
        have := h
        simp only [bne_eq_false_iff_eq] at this
        omega
      omega
    subst hj'
    (repeat refine RQ.thenExit ?_); refine RQ.blockHere ?_
    refine RQ.next ?_
    (repeat refine RC.seq ?_); refine RC.region ?_
    repeat (refine Run.v rfl rfl rfl (Val.of rfl) ?_)
    refine Run.nil (RQ.next ?_)
    (repeat refine RC.seq ?_); refine RC.block ?_
    let κ := {x : Nat × Value × Hp // Own 5 1 x.2.1 (n + 1 + zeros n + x.1) (u8s (l ++ 128 :: List.replicate (zeros n) 0 ++ lenB n x.1)) x.2.2}
    refine RC.loop (ι := κ) (fun x => [(4, .int .i64 (7 - x.1.1)), (3, x.1.2.1), (2, .pointer (some ⟨b2, 0, none⟩)), (0, v)]) (fun x => x.1.2.2 ++ [(b2, .cells ti97.zero.cells 97 (0, 0))]) (fun x => x.1.1 ≤ 8) (fun x => 8 - x.1.1)
      ⟨(0, v3, bl3), by simpa [lenB] using hown3⟩ (Nat.zero_le _) ⟨rfl, rfl, rfl, rfl, trivial⟩ (List.Perm.refl _) ?_
    clear hown3 hv3 hc3
    rintro ⟨⟨j, v5, bl5⟩, hown5⟩ hj
    dsimp only at hown5 hj ⊢
    (repeat refine RC.seq ?_); refine RC.region ?_
    repeat (refine Run.v rfl rfl rfl (Val.of rfl) ?_)
    refine Run.nil (RQ.next ?_)
    (repeat refine RC.seq ?_); refine RC.wh rfl (fun h => RQ.next ?_) (fun h => ?_)
    · have hj' : j < 8 := by have := of_decide_eq_true h; omega
      refine RC.seqCut (Y := {p : Value × Hp // Own 5 1 p.1 (n + 1 + zeros n + (j + 1)) (u8s (l ++ 128 :: List.replicate (zeros n) 0 ++ lenB n (j + 1))) p.2})
        (fun y => [(4, .int .i64 (7 - j)), (3, y.1.1), (2, .pointer (some ⟨b2, 0, none⟩)), (0, v)]) (fun y => y.1.2 ++ [(b2, .cells ti97.zero.cells 97 (0, 0))]) (RC.block ?_) ?_
      · obtain ⟨a0, c0, hv0, hc0⟩ := hs.shape
        (repeat refine RC.seq ?_); refine RC.region ?_
        refine Run.v rfl rfl rfl (Val.of rfl) ?_
        refine Run.v rfl rfl rfl (Val.of rfl) ?_
        refine Run.v rfl rfl rfl (Val.len (len := n) tabOk rfl rfl rfl (by rw [hv0]; rfl)) ?_
        refine Run.v rfl rfl rfl (Val.convIn tabOk rfl rfl rfl rfl rfl rfl (by simp only [inK]; omega)) ?_
        refine Run.v rfl rfl rfl (Val.eq (Val.shl (m := 3) rfl rfl rfl (by decide)) (show _ = Value.int .u64 ((n * 8 : Nat) : Int) from congrArg (Value.int .u64) (wrap_in (by simp only [inK]; omega)))) ?_
        refine Run.v rfl rfl rfl (Val.of rfl) ?_
        refine Run.v rfl rfl rfl (Val.eq (Val.ar rfl rfl rfl rfl (by dsimp only [inK]; omega)) (show _ = Value.int .i64 ((8 * (7 - j) : Nat) : Int) from by congr 1; omega)) ?_
        refine Run.v rfl rfl rfl (Val.shr (m := 8 * (7 - j)) rfl rfl rfl (by show _ ≤ 64; omega)) ?_
        refine Run.v rfl rfl rfl (Val.eq (Val.conv tabOk rfl rfl rfl rfl rfl rfl) (show _ = Value.int .u8 ((n * 8 / 2 ^ (8 * (7 - j)) % 256 : Nat) : Int) from congrArg (Value.int .u8) (by rw [wrap_u8]; rfl))) ?_
        refine Run.mk rfl rfl rfl (New.buildSlice tabOk (parts := [(0, .tmp 31)]) (cells := (u8s [n * 8 / 2 ^ (8 * (7 - j)) % 256]).toArray) rfl rfl rfl rfl rfl rfl (fillS_full 1 1 _ [.int .u8 _] rfl (by simp [Value.cells]))) ?_
        intro b4
        refine Run.op rfl (OpTo.append tabOk hown5 (Src.at ⟨b4, 0, none⟩ 1 1 (u8s [n * 8 / 2 ^ (8 * (7 - j)) % 256]) rfl (Rd.rowAll List.mem_cons_self)) rfl rfl rfl rfl rfl rfl rfl rfl rfl (List.perm_middle.symm) (u8s_one _) (by unfold maxLen; omega) (by simp only [ti5]; omega)) ?_
        rintro ⟨⟨v4, bl4⟩, hown4⟩
        refine Run.v rfl rfl rfl (Val.of rfl) ?_
        refine Run.nil (RQ.blockNormal ?_)
        refine RQ.to (Ey := fun y : {p : Value × Hp // Own 5 1 p.1 (n + 1 + zeros n + (j + 1)) (u8s (l ++ 128 :: List.replicate (zeros n) 0 ++ lenB n (j + 1))) p.2} => [(4, .int .i64 (7 - j)), (3, y.1.1), (2, .pointer (some ⟨b2, 0, none⟩)), (0, v)]) ⟨(v4, bl4), ?_⟩ ⟨rfl, rfl, rfl, rfl, trivial⟩ (List.Sublist.append (List.Sublist.refl _) (List.Sublist.cons _ (List.Sublist.refl _)))
        have h := hown4
        rw [← u8s_app, List.append_assoc, ← lenB_succ] at h
        exact h
      · rintro ⟨⟨v4, bl4⟩, hown4⟩
        refine RC.region ?_
        refine Run.v rfl rfl rfl (Val.of rfl) ?_
        refine Run.v rfl rfl rfl (Val.eq (Val.ar rfl rfl rfl rfl (by dsimp only [inK]; omega)) (show _ = Value.int .i64 (7 - ((j + 1 : Nat) : Int)) from by congr 1; omega)) ?_
        refine Run.v rfl rfl rfl (Val.of rfl) ?_
        exact Run.nil (RQ.round (i := ⟨(j, v5, bl5), hown5⟩) (Ei := fun x : κ => [(4, .int .i64 (7 - x.1.1)), (3, x.1.2.1), (2, .pointer (some ⟨b2, 0, none⟩)), (0, v)]) (Inv := fun x : κ => x.1.1 ≤ 8) (μ := fun x : κ => 8 - x.1.1) ⟨(j + 1, v4, bl4), hown4⟩ (by show j + 1 ≤ 8; omega) (by show 8 - (j + 1) < 8 - j; omega) ⟨rfl, rfl, rfl, rfl, trivial⟩ (List.Sublist.refl _))
    · have hj' : j = 8 := by have := of_decide_eq_false h; omega
      subst hj'
      (repeat refine RQ.thenExit ?_); refine RQ.blockHere ?_
      refine RQ.next ?_
      clear hj h
      subst hln
      have hpl := padded_len l
      have hpm := padded_mod l
      have hpb := padded_lt l hb
      have hown : Own 5 1 v5 (padded l).length (u8s (padded l)) bl5 := by rw [hpl]; exact hown5
      clear hown5
      have hres : sha l = outB (sumTo (padded l) ((padded l).length / 64)) 32 := rfl
      rw [hres]
      clear hres
      generalize hp : padded l = p at *
      obtain ⟨b, cap, rest, rfl, rfl, h1, h2, h3, h4⟩ := Own.row' hown (by omega)
      clear hown
      obtain ⟨M, hM⟩ : ∃ M, p.length = 64 * M := ⟨p.length / 64, by omega⟩
      rw [show p.length / 64 = M by omega]
      (repeat refine RC.seq ?_); refine RC.region ?_
      refine Run.callV Tryd.func72 rfl rfl rfl rfl rfl rfl rfl (fun w' hm => start_calls w') ?_
      refine Run.mk rfl rfl rfl (New.alloc tabOk rfl rfl) ?_
      intro bh
      refine Run.storeAll tabOk rfl rfl rfl rfl rfl rfl (List.Perm.refl _) rfl rfl (fun u hu => u32s_one H0.l u (by simpa [Value.cells] using hu)) ?_
      refine Run.nil (RQ.next ?_)
      (repeat refine RC.seq ?_); refine RC.block ?_
      refine RC.loop (ι := Nat) (fun k => [(3, .slice (some (restAt b cap k)) (64 * (M - k)) (cap - 64 * k)), (5, .pointer (some ⟨bh, 0, none⟩)), (2, .pointer (some ⟨b2, 0, none⟩)), (0, v)])
        (fun k => [(bh, .cells (u32s (sumTo p k).l).toArray 108 (0, 0)), (b, .cells (u8s p ++ rest).toArray 5 (0, 0)), (b2, .cells ti97.zero.cells 97 (0, 0))])
        (fun k => k ≤ M) (fun k => M - k) 0 (Nat.zero_le _) ?_ (List.Perm.refl _) ?_
      · exact ⟨by rw [hM]; rfl, rfl, rfl, rfl, trivial⟩
      · intro k hk
        (repeat refine RC.seq ?_); refine RC.region ?_
        refine Run.v rfl rfl rfl (Val.of rfl) ?_
        refine Run.v rfl rfl rfl (Val.len (len := 64 * (M - k)) tabOk rfl rfl rfl rfl) ?_
        refine Run.v rfl rfl rfl (Val.of rfl) ?_
        refine Run.nil (RQ.next ?_)
        (repeat refine RC.seq ?_); refine RC.wh rfl (fun h => RQ.next ?_) (fun h => ?_)
        · have hk' : k < M := by
            have := of_decide_eq_true h
            omega
          have hr : restAt b cap k = ⟨b, 64 * k, none⟩ := restAt_eq b cap k (by omega)
          refine RC.seqCut (Y := Unit) (fun _ => [(3, .slice (some (restAt b cap k)) (64 * (M - k)) (cap - 64 * k)), (5, .pointer (some ⟨bh, 0, none⟩)), (2, .pointer (some ⟨b2, 0, none⟩)), (0, v)])
            (fun _ => [(bh, .cells (u32s (sumTo p (k + 1)).l).toArray 108 (0, 0)), (b, .cells (u8s p ++ rest).toArray 5 (0, 0)), (b2, .cells ti97.zero.cells 97 (0, 0))]) (RC.block ?_) ?_
          · (repeat refine RC.seq ?_); refine RC.region ?_
            refine Run.v rfl rfl rfl (Val.of rfl) ?_
            refine Run.v rfl rfl rfl (Val.eq (Val.sliceS tabOk (zl := 0) (zh := 64) rfl rfl rfl rfl rfl (.inl ⟨rfl, rfl⟩) (.inr ⟨_, rfl, rfl⟩) (by omega) (by omega)) (show _ = Value.slice (some ⟨b, 64 * k, none⟩) 64 (cap - 64 * k) from by
              rw [hr]; split <;> rfl)) ?_
            refine Run.op rfl (OpTo.call Tryd.func73 rfl rfl rfl rfl rfl rfl (Y := Unit) (V := fun _ => .tuple #[]) (L' := fun _ => [(bh, .cells (u32s (sumTo p (k + 1)).l).toArray 108 (0, 0)), (b, .cells (u8s p ++ rest).toArray 5 (0, 0)), (b2, .cells ti97.zero.cells 97 (0, 0))])
              (fun w' hm => (block_calls bh _ (sumTo p k) (sumTo_lt p k) ((p.drop (64 * k)).take 64) (by simp; omega) (fun x hx => hpb x (List.mem_of_mem_drop (List.mem_of_mem_take hx))) ⟨b, 64 * k, none⟩ (cap - 64 * k) (by omega) w' ?_ ?_ ?_ (hK.fr hm.fr (by simp)) (hm.has _ List.mem_cons_self)).mono ?_)) ?_
            · intro j u hj
              rw [add_lit, cell_of_row w' b (64 * k + j) _ _ _ (hm.has _ (List.mem_cons_of_mem _ List.mem_cons_self))]
              have hj2 : j < 64 := by
                have := (List.getElem?_eq_some_iff.1 hj).1
                simp [u8s_len] at this
                omega
              have hlt : 64 * k + j < (u8s p).length := by rw [u8s_len]; omega
              rw [List.getElem?_toArray, List.getElem?_append_left hlt, ← hj]
              simp [u8s, hj2]
            · intro he
              have := hm.nd
              simp only [List.map_cons, List.nodup_cons, List.mem_cons] at this
              exact this.1 (.inl he.symm)
            · have := hm.own _ List.mem_cons_self
              rcases this with h | h
              · intro he
                have h : w.heap.size ≤ bh := h
                omega
              · cases h
            · rintro e' w'' ⟨rfl, hf, hbk⟩
              exact ⟨(), rfl, hm.write hf hbk⟩
            intro _
            refine Run.nil (RQ.blockNormal ?_)
            exact RQ.to (Ey := fun _ : Unit => [(3, .slice (some (restAt b cap k)) (64 * (M - k)) (cap - 64 * k)), (5, .pointer (some ⟨bh, 0, none⟩)), (2, .pointer (some ⟨b2, 0, none⟩)), (0, v)]) () ⟨rfl, rfl, rfl, rfl, trivial⟩ (List.Sublist.refl _)
          · intro _
            refine RC.region ?_
            refine Run.v rfl rfl rfl (Val.of rfl) ?_
            refine Run.v rfl rfl rfl (Val.eq (Val.sliceS tabOk (zl := 64) (zh := 64 * (M - k)) rfl rfl rfl rfl rfl (.inr ⟨_, rfl, rfl⟩) (.inl ⟨rfl, rfl⟩) (by omega) (by omega)) (show _ = Value.slice (some (restAt b cap (k + 1))) (64 * (M - (k + 1))) (cap - 64 * (k + 1)) from by
              rw [show 64 * (M - k) - 64 = 64 * (M - (k + 1)) by omega, show cap - 64 * k - 64 = cap - 64 * (k + 1) by omega]; rfl)) ?_
            refine Run.v rfl rfl rfl (Val.of rfl) ?_
            exact Run.nil (RQ.round (i := k) (Ei := fun k => [(3, .slice (some (restAt b cap k)) (64 * (M - k)) (cap - 64 * k)), (5, .pointer (some ⟨bh, 0, none⟩)), (2, .pointer (some ⟨b2, 0, none⟩)), (0, v)]) (k + 1) (by omega) (by omega) ⟨rfl, rfl, rfl, rfl, trivial⟩ (List.Sublist.refl _))
        · have hk' : k = M := by
            have := of_decide_eq_false h
            omega
          subst hk'
          (repeat refine RQ.thenExit ?_); refine RQ.blockHere ?_
          refine RQ.next ?_
          (repeat refine RC.seq ?_); refine RC.region ?_
          refine Run.mk rfl rfl rfl (New.alloc tabOk rfl rfl) ?_
          intro b6
          refine Run.nil (RQ.next ?_)
          (repeat refine RC.seq ?_); refine RC.region ?_
          refine Run.v rfl rfl rfl (Val.of rfl) ?_
          refine Run.nil (RQ.next ?_)
          (repeat refine RC.seq ?_); refine RC.block ?_
          have hs := sumTo_lt p k
          generalize hse : sumTo p k = s at *
          have hsl : s.l.length = 8 := rfl
          refine RC.weak (E' := [(43, .int .i64 0), (6, .pointer (some ⟨b6, 0, none⟩)), (5, .pointer (some ⟨bh, 0, none⟩)), (2, .pointer (some ⟨b2, 0, none⟩))])
            (L' := [(b6, .cells ti97.zero.cells 97 (0, 0)), (bh, .cells (u32s s.l).toArray 108 (0, 0)), (b2, .cells ti97.zero.cells 97 (0, 0))]) ⟨rfl, rfl, rfl, rfl, trivial⟩
            (List.Sublist.cons_cons _ (List.Sublist.cons_cons _ (List.Sublist.cons _ (List.Sublist.refl _)))) ?_
          refine RC.loop (ι := Nat) (fun i => [(43, .int .i64 i), (6, .pointer (some ⟨b6, 0, none⟩)), (5, .pointer (some ⟨bh, 0, none⟩)), (2, .pointer (some ⟨b2, 0, none⟩))])
            (fun i => [(b6, .cells (u8s (outB s i ++ List.replicate (32 - i) 0)).toArray 97 (0, 0)), (bh, .cells (u32s s.l).toArray 108 (0, 0)), (b2, .cells ti97.zero.cells 97 (0, 0))])
            (fun i => i ≤ 32) (fun i => 32 - i) 0 (Nat.zero_le _) ⟨rfl, rfl, rfl, rfl, trivial⟩ (List.Perm.refl _) ?_
          intro i hi
          (repeat refine RC.seq ?_); refine RC.region ?_
          repeat (refine Run.v rfl rfl rfl (Val.of rfl) ?_)
          refine Run.nil (RQ.next ?_)
          refine RC.while rfl (fun h' => ?_) (fun h' => ?_)
          · have hi' : i < 32 := by have := of_decide_eq_true h'; omega
            clear h' h
            have hset := outB_set s i hi'
            have hx : s.l.getD (i / 4) 0 < 4294967296 := V8.getD_lt hs _
            have hat := u32s_at s.l (i / 4) (by omega)
            generalize s.l.getD (i / 4) 0 = x at *
            refine RC.seqCut (Y := Unit) (fun _ => [(43, .int .i64 i), (6, .pointer (some ⟨b6, 0, none⟩)), (5, .pointer (some ⟨bh, 0, none⟩)), (2, .pointer (some ⟨b2, 0, none⟩))])
              (fun _ => [(b6, .cells (u8s (outB s (i + 1) ++ List.replicate (32 - (i + 1)) 0)).toArray 97 (0, 0)), (bh, .cells (u32s s.l).toArray 108 (0, 0)), (b2, .cells ti97.zero.cells 97 (0, 0))]) (RC.block ?_) (fun _ => ?_)
            · (repeat refine RC.seq ?_); refine RC.region ?_
              repeat (refine Run.v rfl rfl rfl (Val.of rfl) ?_)
              refine Run.nil (RQ.next ?_)
              refine RC.region ?_
              refine Run.v rfl rfl rfl (Val.of rfl) ?_
              refine Run.v rfl rfl rfl (Val.of rfl) ?_
              refine Run.v rfl rfl rfl (Val.eq (Val.of rfl) (show _ = Value.int .i64 ((i / 4 : Nat) : Int) from congrArg (Value.int .i64) ((wrap_in (show inK _ ((i / 4 : Nat) : Int) from by simp only [inK]; omega))))) ?_
              refine Run.v rfl rfl rfl (Val.ix tabOk (i / 4) (off' := i / 4) rfl rfl rfl rfl rfl rfl rfl (by omega) (by simp [ti101])) ?_
              refine Run.v rfl rfl rfl (Val.load tabOk rfl rfl rfl (List.mem_cons_of_mem _ List.mem_cons_self) hat) ?_
              refine Run.v rfl rfl rfl (Val.of rfl) ?_
              refine Run.v rfl rfl rfl (Val.eq (Val.of rfl) (show _ = Value.int .i64 ((i % 4 : Nat) : Int) from rfl)) ?_
              refine Run.v rfl rfl rfl (Val.ar rfl rfl rfl rfl (by dsimp only [inK]; omega)) ?_
              refine Run.v rfl rfl rfl (Val.eq (Val.ar rfl rfl rfl rfl (by dsimp only [inK]; omega)) (show _ = Value.int .i64 ((24 - i % 4 * 8 : Nat) : Int) from by congr 1; omega)) ?_
              refine Run.v rfl rfl rfl (Val.shr (m := 24 - i % 4 * 8) rfl rfl rfl (by show _ ≤ 32; omega)) ?_
              refine Run.v rfl rfl rfl (Val.eq (Val.conv tabOk rfl rfl rfl rfl rfl rfl) (show _ = Value.int .u8 ((x / 2 ^ (24 - i % 4 * 8) % 256 : Nat) : Int) from congrArg (Value.int .u8) (by rw [wrap_u8]; rfl))) ?_
              refine Run.v rfl rfl rfl (Val.ix tabOk i (off' := i) rfl rfl rfl rfl rfl rfl rfl hi' (by simp [ti5])) ?_
              refine Run.storeTo tabOk (arr' := (u8s (outB s (i + 1) ++ List.replicate (32 - (i + 1)) 0)).toArray) (by rw [← hset]; exact u8s_set _ _ _ (by simp [outB_len]; omega)) rfl rfl rfl rfl rfl rfl (List.Perm.refl _) rfl (by simp [u8s_len, outB_len, ti5]; omega) (by simp [Value.cells]; rfl) ?_
              refine Run.nil (RQ.blockNormal ?_)
              exact RQ.to () ⟨rfl, rfl, rfl, rfl, trivial⟩ (List.Sublist.refl _)
            · refine RC.region ?_
              repeat (first | refine Run.v rfl rfl rfl (Val.ar rfl rfl rfl rfl (by dsimp only [inK]; omega)) ?_ | refine Run.v rfl rfl rfl (Val.of rfl) ?_)
              exact Run.nil (RQ.round (i := i) (i + 1) (by omega) (by show 32 - (i + 1) < 32 - i; omega) ⟨rfl, rfl, rfl, rfl, trivial⟩ (List.Sublist.refl _))
          · have hi' : i = 32 := by have := of_decide_eq_false h'; omega
            subst hi'
            clear h'
            have hlen := outB_len s 32
            rw [Nat.sub_self, List.replicate_zero, List.append_nil]
            generalize outB s 32 = out at *
            have hsz : (u8s out).toArray.size = 32 := by simp [u8s_len, hlen]
            (repeat refine RQ.thenExit ?_); refine RQ.blockHere ?_
            refine RQ.next ?_
            (repeat refine RC.seq ?_); refine RC.region ?_
            refine Run.v rfl rfl rfl (Val.loadAll tabOk rfl rfl rfl rfl List.mem_cons_self hsz) ?_
            refine Run.storeAll (L' := [(b6, .cells (u8s out).toArray 97 (0, 0)), (bh, .cells (u32s s.l).toArray 108 (0, 0))]) tabOk rfl rfl rfl rfl rfl rfl (List.Perm.trans (List.Perm.cons _ (List.Perm.swap _ _ _)) (List.Perm.swap _ _ _)) hsz (by rfl) (fun u hu => u8s_one out u (by simpa [Value.cells] using hu)) ?_
            exact Run.nil (RQ.next (RC.ret (RQ.ret1 rfl (Res.cellAll tabOk rfl rfl rfl List.mem_cons_self hsz) fun w' hm => ⟨rfl, hm.fr⟩)))
end Go.Proofs.YtilfbomjaflbjaaDoor
