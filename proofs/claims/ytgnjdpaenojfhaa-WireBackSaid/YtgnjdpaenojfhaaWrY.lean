/- wire: what is read of kinds. -/
import Derived.Test.YtgnjdpaenojfhaaWrX
set_option linter.unusedSimpArgs false
set_option linter.unusedVariables false
namespace Go.Vc
open Go
theorem Val.mkIs {P : Program} {n : Nat} {w0 : World} {S0 : List Nat} {E : Env} {L : Hp} {o : Oper} {T : List (Nat × TI)} (hT : TabOk P T) {t : TypeId} {ti : TI} {x : Operand} {v : Value} (ho : o.op = .makeInterface t x) (ht : tiGet T t = some ti) (hd : ti.desc = .string) (hx : lk E x = some v) : Val P n w0 S0 E L o (.iface t v) := by
  intro a w hs _
  have h2 := (hT _ _ ht).1
  rw [hd] at h2
  simp [execOp, ho, hs.eval hx, Instr.makeInterface, run_underlying h2]
end Go.Vc
namespace Go.Proofs.Ytgnjdpaenojfhaa
attribute [local irreducible] Go.Vc.Run Go.Vc.RC Go.Vc.RQ Go.Vc.DR Go.Vc.DOp
open Go Go.Vc Go.Sha
/-- Where a reader stands behind something of a kind, if it is there: 9 is bytes, else so many bytes. -/
def rdR (l : List Nat) (k q : Nat) : Option Nat :=
  if q = 9 then (if k + 4 ≤ l.length then (if k + 4 + num8 ((l.drop k).take 4) ≤ l.length then some (k + 4 + num8 ((l.drop k).take 4)) else none) else none)
  else if q = 0 then none else if k + q ≤ l.length then some (k + q) else none
/-- A step of a reading: where it stands, how many were read, and whether it goes on. -/
def stepR (l : List Nat) (s : Nat × Nat × Bool) (x : Nat) : Nat × Nat × Bool :=
  if s.2.2 then (match rdR l s.1 (x % 10) with | some p => (p, s.2.1 + 1, true) | none => (s.1, s.2.1, false)) else s
theorem foldR_no {l : List Nat} {p d : Nat} : ∀ ks : List Nat, ks.foldl (stepR l) (p, d, false) = (p, d, false)
  | [] => rfl
  | k :: ks => by rw [List.foldl_cons]; exact foldR_no ks
theorem rdR_le {l : List Nat} {k q p : Nat} (h : rdR l k q = some p) : p ≤ l.length ∧ k ≤ p := by
  unfold rdR at h
  repeat' split at h
  all_goals first | (cases h; done) | skip
  all_goals (cases h; omega)
theorem foldR_le {l : List Nat} : ∀ (ks : List Nat) (s : Nat × Nat × Bool), s.1 ≤ l.length → (ks.foldl (stepR l) s).1 ≤ l.length
  | [], _, h => h
  | x :: ks, s, h => by
    rw [List.foldl_cons]
    refine foldR_le ks _ ?_
    unfold stepR
    split
    · split
      · rename_i hp; exact (rdR_le hp).1
      · exact h
    · exact h
theorem foldR_done {l : List Nat} : ∀ (ks : List Nat) (s : Nat × Nat × Bool), (ks.foldl (stepR l) s).2.1 ≤ s.2.1 + ks.length
  | [], _ => Nat.le_refl _
  | x :: ks, s => by
    rw [List.foldl_cons]
    have h := foldR_done (l := l) ks (stepR l s x)
    have h2 : (stepR l s x).2.1 ≤ s.2.1 + 1 := by
      unfold stepR
      split
      · split
        · exact Nat.le_refl _
        · exact Nat.le_succ _
      · exact Nat.le_succ _
    rw [List.length_cons]
    omega
/-- How a reading of kinds ends. -/
def endR (bad ok : Bool) : Option (TypeId × Value) := if ok then (if bad then some (9, .string (bs [111, 116, 104, 101, 114])) else none) else some (58, .agg #[])
abbrev Lrd (rb bd : Nat) (a : Option Addr) (n k d : Nat) : Hp := [(rb, RdC a n k), (bd, Obj.cells #[.int .i64 d] 3 (0, 0))]
/-- A slice's block is none of these. -/
def Away (S : List Nat) (a : Option Addr) : Prop := ∀ ad, a = some ad → ad.block ∉ S
set_option maxRecDepth 10000 in set_option maxHeartbeats 4000000 in
theorem Reads1_calls (l : List Nat) (hb : ∀ x ∈ l, x < 256) (hn : l.length ≤ 20000) (ks : List Nat) (hks : ∀ x ∈ ks, x < 256) (hkl : ks.length ≤ 100) (bad : Bool) (rb b4 bd b5 : Nat) (a : Option Addr) (c : Nat) (kv : Value) (w : World)
    (hw : Has (Lrd rb bd a l.length 0 0) w) (hnd : ((Lrd rb bd a l.length 0 0).map (·.1)).Nodup) (hs : SrcW w 1 (.slice a l.length c) l.length (u8s l)) (ha : 0 < l.length → Away ((Lrd rb bd a l.length 0 0).map (·.1)) a)
    (h4 : w.cell? ⟨b4, 0, none⟩ = some kv) (h4n : b4 ∉ (Lrd rb bd a l.length 0 0).map (·.1)) (h5 : w.cell? ⟨b5, 0, none⟩ = some (.bool bad)) (h5n : b5 ∉ (Lrd rb bd a l.length 0 0).map (·.1)) (hkv : SrcW w 1 kv ks.length (u8s ks)) (hka : 0 < ks.length → ∀ ad n c, kv = .slice (some ad) n c → ad.block ∉ (Lrd rb bd a l.length 0 0).map (·.1)) :
    TurnsO Try.prog 20 [.pointer (some ⟨rb, 0, none⟩), .pointer (some ⟨b4, 0, none⟩), .pointer (some ⟨bd, 0, none⟩), .pointer (some ⟨b5, 0, none⟩)] w (Lrd rb bd a l.length 0 0) (Y := Unit) (fun _ => endR bad (ks.foldl (stepR l) (0, 0, true)).2.2) (fun _ => Lrd rb bd a l.length (ks.foldl (stepR l) (0, 0, true)).1 (ks.foldl (stepR l) (0, 0, true)).2.1) := by
  refine enter Try.func20 rfl (Mem.init (S0 := (Lrd rb bd a l.length 0 0).map (·.1)) hw (fun p hp => List.mem_map_of_mem hp) hnd) rfl ?_
  obtain ⟨ka, kc, rfl, hkc⟩ := hkv.shape
  refine z_ ?_
  refine RC.up ks.length (D := Nat × Nat) (fun i d => (ks.take i).foldl (stepR l) (0, 0, true) = (d.1, d.2, true)) (fun i d => [(5, .int .i64 i), (3, .pointer (some ⟨b5, 0, none⟩)), (2, .pointer (some ⟨bd, 0, none⟩)), (1, .pointer (some ⟨b4, 0, none⟩)), (0, .pointer (some ⟨rb, 0, none⟩))]) (fun _ d => Lrd rb bd a l.length d.1 d.2) 0 (0, 0) (Nat.zero_le _) rfl ⟨rfl, rfl, rfl, rfl, rfl, trivial⟩ (List.Sublist.refl _) ?_
  rintro i ⟨k, dn⟩ hi hd
  dsimp only at hd ⊢
  have hkn : k ≤ l.length := by have := foldR_le (l := l) (ks.take i) (0, 0, true) (Nat.zero_le _); rw [hd] at this; exact this
  have hdn : dn ≤ 100 := by
    have := foldR_done (l := l) (ks.take i) (0, 0, true)
    rw [hd, List.length_take] at this
    dsimp only at this
    omega
  refine z_ ?_
  refine Run.a (vlo h4 (hS := h4n)) ?_
  by_cases hi' : i < ks.length
  · obtain ⟨x, hx⟩ : ∃ x, ks[i]? = some x := ⟨_, List.getElem?_eq_getElem hi'⟩
    have hx8 := hks x (List.mem_of_getElem? hx)
    obtain ⟨ad, c', hv', hc', hcl, hr⟩ := hkv.pos (by omega)
    cases hv'
    have hcx : w.cell? (ad.add i) = some (.int .u8 x) := hr _ _ (by unfold u8s; rw [List.getElem?_map, hx]; rfl)
    have hadn : (ad.add i).block ∉ (Lrd rb bd (some ad) l.length 0 0).map (·.1) := by
      rw [show (ad.add i).block = ad.block by first | rfl | (unfold Addr.add; split <;> rfl)]
      exact hka (by omega) _ _ _ rfl
    refine z_ ?_
    refine Run.a (vlo h4 (hS := h4n)) ?_
    refine z_ ?_
    refine Run.a (vix i hi' (ad.add i) (ha := by show ad.add (i * 1) = _; rw [Nat.mul_one])) ?_
    refine Run.a (vlo hcx (hS := hadn)) ?_
    have hgo : ∀ p, rdR l k (x % 10) = some p → (ks.take (i + 1)).foldl (stepR l) (0, 0, true) = (p, dn + 1, true) := by
      intro p hp
      rw [List.take_add_one, hx, Option.toList_some, List.foldl_append, hd]
      show stepR l (k, dn, true) x = _
      unfold stepR
      rw [if_pos rfl, hp]
    have hstop : rdR l k (x % 10) = none → ks.foldl (stepR l) (0, 0, true) = (k, dn, false) := by
      intro hp
      conv => lhs; rw [← List.take_append_drop i ks, List.drop_eq_getElem_cons hi', (List.getElem?_eq_some_iff.1 hx).2, List.foldl_append, hd, List.foldl_cons]
      rw [show stepR l (k, dn, true) x = (k, dn, false) from by unfold stepR; rw [if_pos rfl, hp], foldR_no]
    by_cases h8 : x % 10 = 8
    · have hr8 : rdR l k (x % 10) = if k + 8 ≤ l.length then some (k + 8) else none := by unfold rdR; rw [h8]; rfl
      have h88 : ((x % 10 : Nat) : Int) = 8 := by omega
      refine z_ ?_
      by_cases hen : k + 8 ≤ l.length
      · rw [if_pos hen] at hr8
        obtain ⟨ad0, c0, hv0, hc0, hcl0, hr0⟩ := hs.pos (by omega)
        cases hv0
        have hrb : ad0.block ≠ rb := fun e => ha (by omega) _ rfl (by rw [e]; exact List.mem_cons_self)
        have hbt : ∀ w', Mem w ((Lrd rb bd (some ad0) l.length 0 0).map (·.1)) (Lrd rb bd (some ad0) l.length k dn) w' → BytesAt w' ad0 l := fun w' hm' => BytesAt.fr hr0 hm'.fr (ha (by omega) _ rfl)
        have hz : (Lrd rb bd (some ad0) l.length k dn).Perm ([(rb, RdC (some ad0) l.length k)] ++ [(bd, Obj.cells #[.int .i64 dn] 3 (0, 0))]) := List.Perm.refl _
        have hll : ((l.drop k).take 8).length = 8 := by rw [List.length_take, List.length_drop]; omega
        refine Run.op1 (OpTo.callT Try.func16 hz (fun w' hm' => RHash_ok rb l.length k ad0 hrb (by omega) hen _ hll w' (hm'.has _ m0) ((hbt w' hm').sub k 8))) ?_
        intro _
        refine (?_ : Run _ _ _ _ _ _ _ _ (Lrd rb bd (some ad0) l.length (k + 8) dn))
        refine z_ ?_
        refine Run.op1 (os1 (arr := #[.int .i64 dn]) (e := 3) (L' := [(rb, RdC (some ad0) l.length (k + 8))]) #[.int .i64 ((dn + 1 : Nat) : Int)] (hL := (perm_of fun f => by (simp only [List.map_append, List.map_cons, List.map_nil, List.sum_append, List.sum_cons, List.sum_nil] <;> omega)))) (fun _ => ?_)
        refine z_ ?_
        exact RQ.upQ (i + 1) ((k + 8), dn + 1) (Nat.lt_succ_self _) hi' (hgo _ hr8) ⟨rfl, rfl, rfl, rfl, rfl, trivial⟩ (L1 := Lrd rb bd (some ad0) l.length (k + 8) (dn + 1)) (perm_of fun f => by (simp only [List.map_append, List.map_cons, List.map_nil, List.sum_append, List.sum_cons, List.sum_nil] <;> omega)) (List.Sublist.refl _)
      · rw [if_neg hen] at hr8
        rw [hstop hr8]
        refine Run.op1 (OpTo.callP (Y := Empty) (Z := Unit) (V := fun y => y.elim) (L' := fun y => y.elim) (C := fun _ => shortP) (Lp := fun _ => Lrd rb bd a l.length k dn) Try.func16 (fun w' hm' => (RHash_short rb l.length l.length k a (by omega) hkn (by omega) w' (hm'.has _ m0)).mono ?_) (fun _ => ?_)) (fun y => y.elim)
        · rintro e w'' ⟨rfl, hf⟩
          exact .inr ⟨(), rfl, hm'.ext hf⟩
        · repeat first | refine RQ.thenPanic ?_ | refine RQ.blockPanic ?_
          exact RQ.panic fun w' hm => TurnsO.of (Y := Unit) () rfl hm (Lr := []) (by rw [List.append_nil])
    have h88 : ((x % 10 : Nat) : Int) ≠ 8 := by omega
    by_cases h9 : x % 10 = 9
    · have hr9 : rdR l k (x % 10) = if k + 4 ≤ l.length then (if k + 4 + num8 ((l.drop k).take 4) ≤ l.length then some (k + 4 + num8 ((l.drop k).take 4)) else none) else none := by unfold rdR; rw [h9]; rfl
      have h99 : ((x % 10 : Nat) : Int) = 9 := by omega
      refine z_ ?_
      by_cases h4k : k + 4 ≤ l.length
      · rw [if_pos h4k] at hr9
        obtain ⟨ad0, c0, hv0, hc0, hcl0, hr0⟩ := hs.pos (by omega)
        cases hv0
        have hrb : ad0.block ≠ rb := fun e => ha (by omega) _ rfl (by rw [e]; exact List.mem_cons_self)
        have hbt : ∀ w', Mem w ((Lrd rb bd (some ad0) l.length 0 0).map (·.1)) (Lrd rb bd (some ad0) l.length k dn) w' → BytesAt w' ad0 l := fun w' hm' => BytesAt.fr hr0 hm'.fr (ha (by omega) _ rfl)
        have hz : (Lrd rb bd (some ad0) l.length k dn).Perm ([(rb, RdC (some ad0) l.length k)] ++ [(bd, Obj.cells #[.int .i64 dn] 3 (0, 0))]) := List.Perm.refl _
        have hll : ((l.drop k).take 4).length = 4 := by rw [List.length_take, List.length_drop]; omega
        have hlb : ∀ x ∈ (l.drop k).take 4, x < 256 := fun x hx => hb x (List.mem_of_mem_drop (List.mem_of_mem_take hx))
        obtain ⟨M, hM⟩ : ∃ M, M = num8 ((l.drop k).take 4) := ⟨_, rfl⟩
        rw [← hM] at hr9
        by_cases hen : k + 4 + M ≤ l.length
        · rw [if_pos hen] at hr9
          have hl2 : ((l.drop (k + 4)).take M).length = M := by rw [List.length_take, List.length_drop]; omega
          refine Run.op1 (OpTo.callT Try.func17 hz (fun w' hm' => RBytes_ok rb l.length k M ad0 hrb (by omega) hen _ _ hll hlb hM.symm hl2 w' (hm'.has _ m0) ((hbt w' hm').sub k 4) ((hbt w' hm').sub (k + 4) M))) ?_
          rintro ⟨⟨v9, bl9⟩, hown9⟩
          refine (?_ : Run _ _ _ _ _ _ _ _ ((rb, RdC (some ad0) l.length (k + 4 + M)) :: (bl9 ++ [(bd, Obj.cells #[.int .i64 dn] 3 (0, 0))])))
          refine z_ ?_
          refine Run.op1 (os1 (arr := #[.int .i64 dn]) (e := 3) (L' := (rb, RdC (some ad0) l.length (k + 4 + M)) :: bl9) #[.int .i64 ((dn + 1 : Nat) : Int)] (hL := (perm_of fun f => by (simp only [List.map_append, List.map_cons, List.map_nil, List.sum_append, List.sum_cons, List.sum_nil] <;> omega)))) (fun _ => ?_)
          refine z_ ?_
          exact RQ.upQ (i + 1) (k + 4 + M, dn + 1) (Nat.lt_succ_self _) hi' (hgo _ hr9) ⟨rfl, rfl, rfl, rfl, rfl, trivial⟩ (L1 := Lrd rb bd (some ad0) l.length (k + 4 + M) (dn + 1) ++ bl9) (perm_of fun f => by (simp only [List.map_append, List.map_cons, List.map_nil, List.sum_append, List.sum_cons, List.sum_nil] <;> omega)) (List.sublist_append_left _ _)
        · rw [if_neg hen] at hr9
          rw [hstop hr9]
          refine Run.op1 (OpTo.callP (Y := Empty) (Z := Unit) (V := fun y => y.elim) (L' := fun y => y.elim) (C := fun _ => shortP) (Lp := fun _ => Lrd rb bd (some ad0) l.length k dn) Try.func17 (fun w' hm' => (RBytes_over2 rb l.length k M ad0 hrb (by omega) h4k (by omega) _ hll hlb hM.symm w' (hm'.has _ m0) ((hbt w' hm').sub k 4)).mono ?_) (fun _ => ?_)) (fun y => y.elim)
          · rintro e w'' ⟨rfl, hf⟩
            exact .inr ⟨(), rfl, hm'.ext hf⟩
          · repeat first | refine RQ.thenPanic ?_ | refine RQ.blockPanic ?_
            exact RQ.panic fun w' hm => TurnsO.of (Y := Unit) () rfl hm (Lr := []) (by rw [List.append_nil])
      · rw [if_neg h4k] at hr9
        rw [hstop hr9]
        refine Run.op1 (OpTo.callP (Y := Empty) (Z := Unit) (V := fun y => y.elim) (L' := fun y => y.elim) (C := fun _ => shortP) (Lp := fun _ => Lrd rb bd a l.length k dn) Try.func17 (fun w' hm' => (RBytes_none rb l.length l.length k a (by omega) hkn (by omega) w' (hm'.has _ m0)).mono ?_) (fun _ => ?_)) (fun y => y.elim)
        · rintro e w'' ⟨rfl, hf⟩
          exact .inr ⟨(), rfl, hm'.ext hf⟩
        · repeat first | refine RQ.thenPanic ?_ | refine RQ.blockPanic ?_
          exact RQ.panic fun w' hm => TurnsO.of (Y := Unit) () rfl hm (Lr := []) (by rw [List.append_nil])
    have h99 : ((x % 10 : Nat) : Int) ≠ 9 := by omega
    obtain ⟨q, hq⟩ : ∃ q, q = x % 10 := ⟨_, rfl⟩
    have hq7 : q ≤ 7 := by omega
    have hrq : rdR l k (x % 10) = if q = 0 then none else if k + q ≤ l.length then some (k + q) else none := by unfold rdR; rw [if_neg h9, ← hq]
    refine z_ ?_
    refine Run.a (vlo h4 (hS := h4n)) ?_
    refine z_ ?_
    refine Run.a (vix i hi' (ad.add i) (ha := by show ad.add (i * 1) = _; rw [Nat.mul_one])) ?_
    refine Run.a (vlo hcx (hS := hadn)) ?_
    refine z_ ?_
    rw [← hq]
    by_cases h0 : q = 0
    · rw [if_pos h0] at hrq
      rw [hstop hrq]
      refine Run.op1 (OpTo.callP (Y := Empty) (Z := Unit) (V := fun y => y.elim) (L' := fun y => y.elim) (C := fun _ => shortP) (Lp := fun _ => Lrd rb bd a l.length k dn) Try.func18 (fun w' hm' => (RNum_bad rb l.length l.length k a (q : Nat) (.inl (by omega)) w' (hm'.has _ m0)).mono ?_) (fun _ => ?_)) (fun y => y.elim)
      · rintro e w'' ⟨rfl, hf⟩
        exact .inr ⟨(), rfl, hm'.ext hf⟩
      · repeat first | refine RQ.thenPanic ?_ | refine RQ.blockPanic ?_
        exact RQ.panic fun w' hm => TurnsO.of (Y := Unit) () rfl hm (Lr := []) (by rw [List.append_nil])
    · rw [if_neg h0] at hrq
      by_cases hen : k + q ≤ l.length
      · rw [if_pos hen] at hrq
        obtain ⟨ad0, c0, hv0, hc0, hcl0, hr0⟩ := hs.pos (by omega)
        cases hv0
        have hrb : ad0.block ≠ rb := fun e => ha (by omega) _ rfl (by rw [e]; exact List.mem_cons_self)
        have hbt : ∀ w', Mem w ((Lrd rb bd (some ad0) l.length 0 0).map (·.1)) (Lrd rb bd (some ad0) l.length k dn) w' → BytesAt w' ad0 l := fun w' hm' => BytesAt.fr hr0 hm'.fr (ha (by omega) _ rfl)
        have hz : (Lrd rb bd (some ad0) l.length k dn).Perm ([(rb, RdC (some ad0) l.length k)] ++ [(bd, Obj.cells #[.int .i64 dn] 3 (0, 0))]) := List.Perm.refl _
        have hll : ((l.drop k).take q).length = q := by rw [List.length_take, List.length_drop]; omega
        have hlb : ∀ x ∈ (l.drop k).take q, x < 256 := fun x hx => hb x (List.mem_of_mem_drop (List.mem_of_mem_take hx))
        refine Run.op1 (OpTo.callT Try.func18 hz (fun w' hm' => RNum_ok rb l.length k q ad0 hrb (by omega) ⟨by omega, hq7⟩ hen _ hll hlb w' (hm'.has _ m0) ((hbt w' hm').sub k q))) ?_
        intro _
        refine (?_ : Run _ _ _ _ _ _ _ _ (Lrd rb bd (some ad0) l.length (k + q) dn))
        refine z_ ?_
        refine Run.op1 (os1 (arr := #[.int .i64 dn]) (e := 3) (L' := [(rb, RdC (some ad0) l.length (k + q))]) #[.int .i64 ((dn + 1 : Nat) : Int)] (hL := (perm_of fun f => by (simp only [List.map_append, List.map_cons, List.map_nil, List.sum_append, List.sum_cons, List.sum_nil] <;> omega)))) (fun _ => ?_)
        refine z_ ?_
        exact RQ.upQ (i + 1) ((k + q), dn + 1) (Nat.lt_succ_self _) hi' (hgo _ hrq) ⟨rfl, rfl, rfl, rfl, rfl, trivial⟩ (L1 := Lrd rb bd (some ad0) l.length (k + q) (dn + 1)) (perm_of fun f => by (simp only [List.map_append, List.map_cons, List.map_nil, List.sum_append, List.sum_cons, List.sum_nil] <;> omega)) (List.Sublist.refl _)
      · rw [if_neg hen] at hrq
        rw [hstop hrq]
        refine Run.op1 (OpTo.callP (Y := Empty) (Z := Unit) (V := fun y => y.elim) (L' := fun y => y.elim) (C := fun _ => shortP) (Lp := fun _ => Lrd rb bd a l.length k dn) Try.func18 (fun w' hm' => (RNum_short rb l.length l.length k q a (by omega) hkn ⟨by omega, hq7⟩ (by omega) w' (hm'.has _ m0)).mono ?_) (fun _ => ?_)) (fun y => y.elim)
        · rintro e w'' ⟨rfl, hf⟩
          exact .inr ⟨(), rfl, hm'.ext hf⟩
        · repeat first | refine RQ.thenPanic ?_ | refine RQ.blockPanic ?_
          exact RQ.panic fun w' hm => TurnsO.of (Y := Unit) () rfl hm (Lr := []) (by rw [List.append_nil])
  · have hi9 : i = ks.length := by omega
    subst hi9
    rw [List.take_length] at hd
    rw [hd]
    refine z_ ?_
    refine Run.a (vlo h5 (hS := h5n)) ?_
    cases bad with
    | false =>
      refine z_ ?_
      exact RQ.end0 rfl fun w' hm => TurnsO.of (Y := Unit) () rfl hm (Lr := []) (by rw [List.append_nil])
    | true =>
      refine z_ ?_
      refine Run.a (Val.mkIs tabOk rfl rfl rfl rfl) ?_
      refine Run.panic (v := .string (bs [111, 116, 104, 101, 114])) (pt := 9) ?_
      repeat first | refine RQ.thenPanic ?_ | refine RQ.blockPanic ?_
      exact RQ.panic fun w' hm => TurnsO.of (Y := Unit) () rfl hm (Lr := []) (by rw [List.append_nil])
end Go.Proofs.Ytgnjdpaenojfhaa
