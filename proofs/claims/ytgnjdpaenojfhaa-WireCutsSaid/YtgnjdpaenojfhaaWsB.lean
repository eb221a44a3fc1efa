/- wire: the closure of WireCuts. -/
import Derived.Test.YtgnjdpaenojfhaaWsA
set_option linter.unusedSimpArgs false
set_option linter.unusedVariables false
namespace Go.Proofs.Ytgnjdpaenojfhaa
attribute [local irreducible] Go.Vc.Run Go.Vc.RC Go.Vc.RQ Go.Vc.DR Go.Vc.DOp
open Go Go.Vc Go.Sha
set_option maxRecDepth 10000 in set_option maxHeartbeats 4000000 in
theorem Cuts1_calls (l : List Nat) (hb : ∀ x ∈ l, x < 256) (hn : l.length ≤ 30000) (ps : List PtD) (hok : okW ps) (rb b2 : Nat) (a : Option Addr) (c : Nat) (pv : Value) (w : World) (hpl : ps.length ≤ 100)
    (hw : Has [(rb, RdC a l.length 0)] w) (hs : SrcW w 1 (.slice a l.length c) l.length (u8s l)) (ha : 0 < l.length → Away [rb] a)
    (h2 : w.cell? ⟨b2, 0, none⟩ = some pv) (h2n : b2 ∉ [rb]) (hpv : SrcW w 11 pv ps.length (rws PtD.c ps)) (hpa : 0 < ps.length → ∀ ad n c, pv = .slice (some ad) n c → ad.block ∉ [rb]) :
    TurnsO Try.prog 21 [.pointer (some ⟨rb, 0, none⟩), .pointer (some ⟨b2, 0, none⟩)] w [(rb, RdC a l.length 0)] (Y := Unit) (fun _ => endR false ((kindsW ps).foldl (stepR l) (0, 0, true)).2.2) (fun _ => [(rb, RdC a l.length ((kindsW ps).foldl (stepR l) (0, 0, true)).1)]) := by
  refine enter Try.func21 rfl (Mem.init (S0 := [rb]) hw (fun p hp => by rw [List.mem_singleton] at hp; subst hp; exact List.mem_singleton.2 rfl) (by simp)) rfl ?_
  obtain ⟨pa, pc, rfl, hpc⟩ := hpv.shape
  have hkl : (kindsW ps).length = ps.length := List.length_map ..
  refine z_ ?_
  refine RC.up ps.length (D := Nat × Nat) (fun i d => ((kindsW ps).take i).foldl (stepR l) (0, 0, true) = (d.1, d.2, true)) (fun i d => [(3, .int .i64 i), (1, .pointer (some ⟨b2, 0, none⟩)), (0, .pointer (some ⟨rb, 0, none⟩))]) (fun _ d => [(rb, RdC a l.length d.1)]) 0 (0, 0) (Nat.zero_le _) rfl ⟨rfl, rfl, rfl, trivial⟩ (List.Sublist.refl _) ?_
  rintro i ⟨k, dn⟩ hi hd
  dsimp only at hd ⊢
  have hkn : k ≤ l.length := by have := foldR_le (l := l) ((kindsW ps).take i) (0, 0, true) (Nat.zero_le _); rw [hd] at this; exact this
  refine z_ ?_
  refine Run.a (vlo h2 (hS := h2n)) ?_
  by_cases hi' : i < ps.length
  · obtain ⟨p, hp⟩ : ∃ p, ps[i]? = some p := ⟨_, List.getElem?_eq_getElem hi'⟩
    have hpo := plainW_kind (hok p (List.mem_of_getElem? hp))
    obtain ⟨x, hxk⟩ := Int.eq_ofNat_of_zero_le (show 0 ≤ p.k by omega)
    have hx9 : 1 ≤ x ∧ x ≤ 9 := by omega
    have hx : (kindsW ps)[i]? = some x := by unfold kindsW; rw [List.getElem?_map, hp, Option.map_some, hxk]; rfl
    obtain ⟨ad, c', hv', hc', hcl, hr⟩ := hpv.pos (by omega)
    cases hv'
    have hat := (pt_at hr hp).k
    rw [hxk] at hat
    have hadn : ((ad.add (i * 11)).add 0).block ∉ [rb] := by
      rw [add_add, show (ad.add (i * 11 + 0)).block = ad.block by first | rfl | (unfold Addr.add; split <;> rfl)]
      exact hpa (by omega) _ _ _ rfl
    have hx10 : x % 10 = x := by omega
    have hgo : ∀ p, rdR l k x = some p → ((kindsW ps).take (i + 1)).foldl (stepR l) (0, 0, true) = (p, dn + 1, true) := by
      intro p hp
      rw [List.take_add_one, hx, Option.toList_some, List.foldl_append, hd]
      show stepR l (k, dn, true) x = _
      unfold stepR
      rw [if_pos rfl, hx10, hp]
    have hstop : rdR l k x = none → (kindsW ps).foldl (stepR l) (0, 0, true) = (k, dn, false) := by
      intro hp
      conv => lhs; rw [← List.take_append_drop i (kindsW ps), List.drop_eq_getElem_cons (by omega), (List.getElem?_eq_some_iff.1 hx).2, List.foldl_append, hd, List.foldl_cons]
      rw [show stepR l (k, dn, true) x = (k, dn, false) from by unfold stepR; rw [if_pos rfl, hx10, hp], foldR_no]
    refine z_ ?_
    refine Run.a (vlo h2 (hS := h2n)) ?_
    refine z_ ?_
    refine Run.a (vix i hi' (ad.add (i * 11))) ?_
    refine Run.a (vfA) ?_
    refine Run.a (vlo hat (hS := hadn)) ?_
    by_cases h8 : x = 8
    · have hr8 : rdR l k x = if k + 8 ≤ l.length then some (k + 8) else none := by unfold rdR; rw [h8]; rfl
      refine z_ ?_
      by_cases hen : k + 8 ≤ l.length
      · rw [if_pos hen] at hr8
        obtain ⟨ad0, c0, hv0, hc0, hcl0, hr0⟩ := hs.pos (by omega)
        cases hv0
        have hrb : ad0.block ≠ rb := fun e => ha (by omega) _ rfl (by rw [e]; exact List.mem_cons_self)
        have hbt : ∀ w', Mem w [rb] [(rb, RdC (some ad0) l.length k)] w' → BytesAt w' ad0 l := fun w' hm' => BytesAt.fr hr0 hm'.fr (ha (by omega) _ rfl)
        have hz : ([(rb, RdC (some ad0) l.length k)] : Hp).Perm ([(rb, RdC (some ad0) l.length k)] ++ []) := List.Perm.refl _
        have hll : ((l.drop k).take 8).length = 8 := by rw [List.length_take, List.length_drop]; omega
        refine Run.op1 (OpTo.callT Try.func16 hz (fun w' hm' => RHash_ok rb l.length k ad0 hrb (by omega) hen _ hll w' (hm'.has _ m0) ((hbt w' hm').sub k 8))) ?_
        intro _
        refine z_ ?_
        exact RQ.upQ (i + 1) ((k + 8), dn + 1) (Nat.lt_succ_self _) hi' (hgo _ hr8) ⟨rfl, rfl, rfl, trivial⟩ (L1 := [(rb, RdC (some ad0) l.length (k + 8))] ++ []) (perm_of fun f => by (simp only [List.map_append, List.map_cons, List.map_nil, List.sum_append, List.sum_cons, List.sum_nil] <;> omega)) (List.sublist_append_left _ _)
      · rw [if_neg hen] at hr8
        rw [hstop hr8]
        refine Run.op1 (OpTo.callP (Y := Empty) (Z := Unit) (V := fun y => y.elim) (L' := fun y => y.elim) (C := fun _ => shortP) (Lp := fun _ => [(rb, RdC a l.length k)]) Try.func16 (fun w' hm' => (RHash_short rb l.length l.length k a (by omega) hkn (by omega) w' (hm'.has _ m0)).mono ?_) (fun _ => ?_)) (fun y => y.elim)
        · rintro e w'' ⟨rfl, hf⟩
          exact .inr ⟨(), rfl, hm'.ext hf⟩
        · repeat first | refine RQ.thenPanic ?_ | refine RQ.blockPanic ?_
          exact RQ.panic fun w' hm => TurnsO.of (Y := Unit) () rfl hm (Lr := []) (by rw [List.append_nil])
    by_cases h9 : x = 9
    · have hr9 : rdR l k x = if k + 4 ≤ l.length then (if k + 4 + num8 ((l.drop k).take 4) ≤ l.length then some (k + 4 + num8 ((l.drop k).take 4)) else none) else none := by unfold rdR; rw [h9]; rfl
      refine z_ ?_
      by_cases h4k : k + 4 ≤ l.length
      · rw [if_pos h4k] at hr9
        obtain ⟨ad0, c0, hv0, hc0, hcl0, hr0⟩ := hs.pos (by omega)
        cases hv0
        have hrb : ad0.block ≠ rb := fun e => ha (by omega) _ rfl (by rw [e]; exact List.mem_cons_self)
        have hbt : ∀ w', Mem w [rb] [(rb, RdC (some ad0) l.length k)] w' → BytesAt w' ad0 l := fun w' hm' => BytesAt.fr hr0 hm'.fr (ha (by omega) _ rfl)
        have hz : ([(rb, RdC (some ad0) l.length k)] : Hp).Perm ([(rb, RdC (some ad0) l.length k)] ++ []) := List.Perm.refl _
        have hll : ((l.drop k).take 4).length = 4 := by rw [List.length_take, List.length_drop]; omega
        have hlb : ∀ x ∈ (l.drop k).take 4, x < 256 := fun x hx => hb x (List.mem_of_mem_drop (List.mem_of_mem_take hx))
        obtain ⟨M, hM⟩ : ∃ M, M = num8 ((l.drop k).take 4) := ⟨_, rfl⟩
        rw [← hM] at hr9
        by_cases hen : k + 4 + M ≤ l.length
        · rw [if_pos hen] at hr9
          have hl2 : ((l.drop (k + 4)).take M).length = M := by rw [List.length_take, List.length_drop]; omega
          refine Run.op1 (OpTo.callT Try.func17 hz (fun w' hm' => RBytes_ok rb l.length k M ad0 hrb (by omega) hen _ _ hll hlb hM.symm hl2 w' (hm'.has _ m0) ((hbt w' hm').sub k 4) ((hbt w' hm').sub (k + 4) M))) ?_
          rintro ⟨⟨v9, bl9⟩, hown9⟩
          refine z_ ?_
          exact RQ.upQ (i + 1) (k + 4 + M, dn + 1) (Nat.lt_succ_self _) hi' (hgo _ hr9) ⟨rfl, rfl, rfl, trivial⟩ (L1 := ((rb, RdC (some ad0) l.length (k + 4 + M)) :: bl9) ++ []) (List.Perm.refl _) (List.Sublist.cons_cons _ (List.nil_sublist _))
        · rw [if_neg hen] at hr9
          rw [hstop hr9]
          refine Run.op1 (OpTo.callP (Y := Empty) (Z := Unit) (V := fun y => y.elim) (L' := fun y => y.elim) (C := fun _ => shortP) (Lp := fun _ => [(rb, RdC (some ad0) l.length k)]) Try.func17 (fun w' hm' => (RBytes_over2 rb l.length k M ad0 hrb (by omega) h4k (by omega) _ hll hlb hM.symm w' (hm'.has _ m0) ((hbt w' hm').sub k 4)).mono ?_) (fun _ => ?_)) (fun y => y.elim)
          · rintro e w'' ⟨rfl, hf⟩
            exact .inr ⟨(), rfl, hm'.ext hf⟩
          · repeat first | refine RQ.thenPanic ?_ | refine RQ.blockPanic ?_
            exact RQ.panic fun w' hm => TurnsO.of (Y := Unit) () rfl hm (Lr := []) (by rw [List.append_nil])
      · rw [if_neg h4k] at hr9
        rw [hstop hr9]
        refine Run.op1 (OpTo.callP (Y := Empty) (Z := Unit) (V := fun y => y.elim) (L' := fun y => y.elim) (C := fun _ => shortP) (Lp := fun _ => [(rb, RdC a l.length k)]) Try.func17 (fun w' hm' => (RBytes_none rb l.length l.length k a (by omega) hkn (by omega) w' (hm'.has _ m0)).mono ?_) (fun _ => ?_)) (fun y => y.elim)
        · rintro e w'' ⟨rfl, hf⟩
          exact .inr ⟨(), rfl, hm'.ext hf⟩
        · repeat first | refine RQ.thenPanic ?_ | refine RQ.blockPanic ?_
          exact RQ.panic fun w' hm => TurnsO.of (Y := Unit) () rfl hm (Lr := []) (by rw [List.append_nil])
    have hx7 : x ≤ 7 := by omega
    have hrq : rdR l k x = if k + x ≤ l.length then some (k + x) else none := by unfold rdR; rw [if_neg h9, if_neg (by omega)]
    refine z_ ?_
    refine Run.a (vlo h2 (hS := h2n)) ?_
    refine z_ ?_
    refine Run.a (vix i hi' (ad.add (i * 11))) ?_
    refine Run.a (vfA) ?_
    refine Run.a (vlo hat (hS := hadn)) ?_
    by_cases hen : k + x ≤ l.length
    · rw [if_pos hen] at hrq
      obtain ⟨ad0, c0, hv0, hc0, hcl0, hr0⟩ := hs.pos (by omega)
      cases hv0
      have hrb : ad0.block ≠ rb := fun e => ha (by omega) _ rfl (by rw [e]; exact List.mem_cons_self)
      have hbt : ∀ w', Mem w [rb] [(rb, RdC (some ad0) l.length k)] w' → BytesAt w' ad0 l := fun w' hm' => BytesAt.fr hr0 hm'.fr (ha (by omega) _ rfl)
      have hz : ([(rb, RdC (some ad0) l.length k)] : Hp).Perm ([(rb, RdC (some ad0) l.length k)] ++ []) := List.Perm.refl _
      have hll : ((l.drop k).take x).length = x := by rw [List.length_take, List.length_drop]; omega
      have hlb : ∀ y ∈ (l.drop k).take x, y < 256 := fun x hx => hb x (List.mem_of_mem_drop (List.mem_of_mem_take hx))
      refine Run.op1 (OpTo.callT Try.func18 hz (fun w' hm' => RNum_ok rb l.length k x ad0 hrb (by omega) ⟨hx9.1, hx7⟩ hen _ hll hlb w' (hm'.has _ m0) ((hbt w' hm').sub k x))) ?_
      intro _
      refine z_ ?_
      exact RQ.upQ (i + 1) ((k + x), dn + 1) (Nat.lt_succ_self _) hi' (hgo _ hrq) ⟨rfl, rfl, rfl, trivial⟩ (L1 := [(rb, RdC (some ad0) l.length (k + x))] ++ []) (perm_of fun f => by (simp only [List.map_append, List.map_cons, List.map_nil, List.sum_append, List.sum_cons, List.sum_nil] <;> omega)) (List.sublist_append_left _ _)
    · rw [if_neg hen] at hrq
      rw [hstop hrq]
      refine Run.op1 (OpTo.callP (Y := Empty) (Z := Unit) (V := fun y => y.elim) (L' := fun y => y.elim) (C := fun _ => shortP) (Lp := fun _ => [(rb, RdC a l.length k)]) Try.func18 (fun w' hm' => (RNum_short rb l.length l.length k x a (by omega) hkn ⟨hx9.1, hx7⟩ (by omega) w' (hm'.has _ m0)).mono ?_) (fun _ => ?_)) (fun y => y.elim)
      · rintro e w'' ⟨rfl, hf⟩
        exact .inr ⟨(), rfl, hm'.ext hf⟩
      · repeat first | refine RQ.thenPanic ?_ | refine RQ.blockPanic ?_
        exact RQ.panic fun w' hm => TurnsO.of (Y := Unit) () rfl hm (Lr := []) (by rw [List.append_nil])
  · have hi9 : i = ps.length := by omega
    subst hi9
    rw [← hkl, List.take_length] at hd
    rw [hd]
    refine z_ ?_
    exact RQ.end0 rfl fun w' hm => TurnsO.of (Y := Unit) () rfl hm (Lr := []) (by rw [List.append_nil])
end Go.Proofs.Ytgnjdpaenojfhaa
