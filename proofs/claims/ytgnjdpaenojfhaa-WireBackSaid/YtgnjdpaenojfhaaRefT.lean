import Derived.Test.YtgnjdpaenojfhaaDigT
set_option linter.unusedSimpArgs false
set_option linter.unusedVariables false
/- The reference's turned, rounds, Num. -/
namespace Go.Proofs.Ytgnjdpaenojfhaa
open Go Go.Vc Go.Sha

/-- The k lowest bytes of a number, the lowest first. -/
def le (n : Nat) : Nat → List Nat
  | 0 => []
  | k + 1 => le n k ++ [n / 2 ^ (8 * k) % 256]
theorem le_len (n : Nat) : ∀ k, (le n k).length = k
  | 0 => rfl
  | k + 1 => by simp [le, le_len n k]
theorem le_four (n : Nat) : le n 4 = le4 n := by simp [le, le4]

set_option maxRecDepth 10000 in set_option maxHeartbeats 4000000 in
theorem Num_calls (n k : Nat) (hk : k ≤ 8) (w : World) :
    Makes Try.prog 23 [.int .i64 n, .int .i64 k] w 5 1 k (u8s (le n k)) := by
  refine enter Try.func23 rfl (Mem.nil w []) rfl ?_
  (repeat refine RC.seq ?_); refine RC.region ?_
  refine Run.a (Val.of rfl) ?_
  refine Run.nil (RQ.next ?_)
  (repeat refine RC.seq ?_); refine RC.region ?_
  refine Run.a (Val.of rfl) ?_
  refine Run.nil (RQ.next ?_)
  (repeat refine RC.seq ?_); refine RC.region ?_
  refine Run.a (Val.of rfl) ?_
  refine Run.nil (RQ.next ?_)
  (repeat refine RC.seq ?_); refine RC.block ?_
  refine RC.up k (D := Value × Hp) (fun i x => Own 5 1 x.1 i (u8s (le n i)) x.2)
    (fun i x => [(6, .int .i64 i), (5, x.1), (0, .int .i64 n), (1, .int .i64 k)])
    (fun i x => x.2)
    0 (_, _) (Nat.zero_le _) Own.nil ⟨rfl, rfl, rfl, rfl, trivial⟩ (List.nil_sublist _) ?_
  rintro i ⟨v5, bl5⟩ hi hown
  dsimp only at hown ⊢
  (repeat refine RC.seq ?_); refine RC.region ?_
  repeat refine Run.a (Val.of rfl) ?_
  refine Run.nil (RQ.next ?_)
  (repeat refine RC.seq ?_); refine RC.wh rfl (fun h => RQ.next ?_) (fun h => ?_)
  · have hi' : i < k := by have := of_decide_eq_true h; omega
    clear h
    (repeat refine RC.seq ?_); refine RC.block ?_
    refine RC.region ?_
    refine Run.a (Val.of rfl) ?_
    refine Run.a (Val.of rfl) ?_
    refine Run.a (Val.of rfl) ?_
    refine Run.a (Val.eq (Val.ar rfl rfl rfl rfl (by dsimp only [inK]; omega)) (show _ = Value.int .i64 ((8 * i : Nat) : Int) from by congr 1)) ?_
    refine Run.a (Val.convIn tabOk rfl rfl rfl rfl rfl rfl (by simp only [inK]; omega)) ?_
    refine Run.a (Val.shr (m := 8 * i) rfl rfl rfl (by show _ ≤ 64; omega)) ?_
    refine Run.a (Val.eq (Val.conv tabOk rfl rfl rfl rfl rfl rfl) (show _ = Value.int .u8 ((n / 2 ^ (8 * i) % 256 : Nat) : Int) from congrArg (Value.int .u8) (by rw [wrap_u8]; rfl))) ?_
    refine Run.nw (New.buildSlice tabOk (parts := [(0, .tmp 18)]) (cells := (u8s [n / 2 ^ (8 * i) % 256]).toArray) rfl rfl rfl rfl rfl rfl (fillS_full 1 1 _ [.int .u8 _] rfl (by simp [Value.cells]))) ?_
    intro b4
    refine Run.op rfl (OpTo.append tabOk hown (Src.at ⟨b4, 0, none⟩ 1 1 (u8s [n / 2 ^ (8 * i) % 256]) rfl (Rd.rowAll List.mem_cons_self)) rfl rfl rfl rfl rfl rfl rfl rfl rfl (List.perm_append_comm (l₁ := [_]) (l₂ := bl5)) (u8s_one _) (by unfold maxLen; omega) (by simp only [ti5]; omega)) ?_
    rintro ⟨⟨v6, bl6⟩, hown6⟩
    refine Run.a (Val.of rfl) ?_
    refine Run.nil (RQ.blockNormal (RQ.next ?_))
    refine RC.region ?_
    repeat (first | refine Run.a Val.ra ?_ | refine Run.a (Val.of rfl) ?_)
    refine Run.nil (RQ.up (i + 1) (v6, bl6) (Nat.lt_succ_self _) hi' ?_ ⟨rfl, rfl, rfl, rfl, trivial⟩ (List.sublist_append_left _ _))
    have h := hown6
    rw [← u8s_app] at h
    exact h
  · have hi' : i = k := by have := of_decide_eq_false h; omega
    subst hi'
    (repeat refine RQ.thenExit ?_); refine RQ.blockHere ?_
    refine RQ.next ?_
    (repeat refine RC.seq ?_); refine RC.region ?_
    refine Run.a (Val.of rfl) ?_
    refine Run.a (Val.of rfl) ?_
    refine Run.nil (RQ.next ?_)
    exact RC.ret (RQ.ret1 rfl (Res.tmp rfl) fun w' hm => Makes.of (L' := []) hown (by simpa using hm))

end Go.Proofs.Ytgnjdpaenojfhaa

/- The reference's Sum is SHA-256. -/
namespace Go.Sha
theorem or_shift (a x p : Nat) (k : Nat) (hk : 2 ^ k = p) (hx : x < p) : a * p ||| x = a * p + x := by
  have := Nat.shiftLeft_add_eq_or_of_lt (i := k) (b := x) (by omega) a
  rw [Nat.shiftLeft_eq, hk] at this
  exact this.symm
theorem word_of (a b c d : Nat) (ha : a < 256) (hb : b < 256) (hc : c < 256) (hd : d < 256) :
    (((a * 16777216) % 4294967296 ||| (b * 65536) % 4294967296) ||| (c * 256) % 4294967296) ||| d = ((a * 256 + b) * 256 + c) * 256 + d := by
  rw [Nat.mod_eq_of_lt (by omega), Nat.mod_eq_of_lt (by omega), Nat.mod_eq_of_lt (by omega)]
  have e1 : a * 16777216 ||| b * 65536 = (a * 256 + b) * 65536 := by rw [or_shift a _ 16777216 24 (by decide) (by omega)]; omega
  have e2 : (a * 256 + b) * 65536 ||| c * 256 = ((a * 256 + b) * 256 + c) * 256 := by rw [or_shift _ _ 65536 16 (by decide) (by omega)]; omega
  rw [e1, e2, or_shift _ _ 256 8 (by decide) hd]
theorem bpart_four (b : List Nat) (o : Nat) : bpart b o 4 = ((b.getD o 0 * 256 + b.getD (o + 1) 0) * 256 + b.getD (o + 2) 0) * 256 + b.getD (o + 3) 0 := by
  simp [bpart]
theorem wd_low (b l : List Nat) (i : Nat) (hl : l.length = i) (h : i < 16) : wd b l = bpart b (4 * i) 4 := by
  unfold wd
  rw [hl, if_pos h]
theorem wd_high (b l : List Nat) (i : Nat) (hl : l.length = i) (h : ¬ i < 16) :
    wd b l = ((((l.getD (i - 16) 0 + sg0 (l.getD (i - 15) 0)) % 4294967296 + l.getD (i - 7) 0) % 4294967296) + sg1 (l.getD (i - 2) 0)) % 4294967296 := by
  unfold wd
  rw [hl, if_neg h]
  omega
end Go.Sha
namespace Go.Proofs.Ytgnjdpaenojfhaa
open Go Go.Vc Go.Sha

end Go.Proofs.Ytgnjdpaenojfhaa

/- The reference's Digest, Two. -/
namespace Go.Proofs.Ytgnjdpaenojfhaa
open Go Go.Vc Go.Sha

end Go.Proofs.Ytgnjdpaenojfhaa
