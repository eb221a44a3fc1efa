/- wire: the closure of WireBack. -/
import Derived.Test.YtgnjdpaenojfhaaWsA
set_option linter.unusedSimpArgs false
set_option linter.unusedVariables false
namespace Go.Vc
open Go Go.Sha
theorem SrcW.srcS {w : World} {S : List Nat} {L : Hp} {sz m : Nat} {v : Value} {cs : List Value} (h : SrcW w sz v m cs) (hS : 0 < m → ∀ ad n c, v = .slice (some ad) n c → ad.block ∉ S) : Src w S L sz v m cs := by
  cases h with
  | nil => exact .nil
  | «at» a m c cs hl hm hr =>
    cases m with
    | zero =>
      have : cs = [] := List.length_eq_zero_iff.1 (by rw [hl, Nat.zero_mul])
      subst this
      exact .at a 0 c [] hl Rd.nil
    | succ m => exact .at a _ c cs hl (Rd.old (hS (Nat.succ_pos _) _ _ _ rfl) hr)
theorem blk_add {ad : Addr} {j : Nat} : (ad.add j).block = ad.block := by first | rfl | (unfold Addr.add; split <;> rfl)
end Go.Vc
namespace Go.Proofs.Ytgnjdpaenojfhaa
attribute [local irreducible] Go.Vc.Run Go.Vc.RC Go.Vc.RQ Go.Vc.DR Go.Vc.DOp
open Go Go.Vc Go.Sha
theorem catW_app (a b : List PtD) : catW (a ++ b) = catW a ++ catW b := by simp [catW]
theorem catW_split {ps : List PtD} {i : Nat} {p : PtD} (h : ps[i]? = some p) : catW ps = catW (ps.take i) ++ ((plainW p).1 ++ catW (ps.drop (i + 1))) ∧ (catW (ps.take (i + 1))).length = (catW (ps.take i)).length + (plainW p).1.length := by
  have hi := (List.getElem?_eq_some_iff.1 h)
  have e1 : catW [p] = (plainW p).1 := by simp [catW]
  constructor
  · conv => lhs; rw [← List.take_append_drop i ps, List.drop_eq_getElem_cons hi.1, hi.2]
    rw [show ps.take i ++ p :: ps.drop (i + 1) = ps.take i ++ ([p] ++ ps.drop (i + 1)) from rfl, catW_app, catW_app, e1]
  · rw [List.take_add_one, h, Option.toList_some, catW_app, e1, List.length_append]
set_option maxRecDepth 10000 in set_option maxHeartbeats 4000000 in
theorem Back1_calls (ps : List PtD) (hok : okW ps) (l : List Nat) (hl : l = catW ps) (hn : l.length ≤ 20000) (hb : ∀ x ∈ l, x < 256) (hb32 : ∀ p ∈ ps, p.b.length ≤ 900000) (rb b1 b5 : Nat) (a : Option Addr) (c : Nat) (pv : Value) (w : World) (hpl : ps.length ≤ 100)
    (hw : Has [(rb, RdC a l.length 0), (b5, Obj.cells #[.bool true] 4 (0, 0))] w) (hne : rb ≠ b5) (hs : SrcW w 1 (.slice a l.length c) l.length (u8s l)) (ha : 0 < l.length → Away [rb, b5] a)
    (h1 : w.cell? ⟨b1, 0, none⟩ = some pv) (h1n : b1 ∉ [rb, b5]) (hpv : SrcW w 11 pv ps.length (rws PtD.c ps)) (hpa : 0 < ps.length → ∀ ad n c, pv = .slice (some ad) n c → ad.block ∉ [rb, b5])
    (hin : PtIn w ps) (hia : ∀ p ∈ ps, 0 < p.b.length → ∀ ad n c, p.v = .slice (some ad) n c → ad.block ∉ [rb, b5]) :
    TurnsO Try.prog 14 [.pointer (some ⟨rb, 0, none⟩), .pointer (some ⟨b1, 0, none⟩), .pointer (some ⟨b5, 0, none⟩)] w [(rb, RdC a l.length 0), (b5, Obj.cells #[.bool true] 4 (0, 0))] (Y := Unit) (fun _ => none) (fun _ => [(rb, RdC a l.length l.length), (b5, Obj.cells #[.bool true] 4 (0, 0))]) := by
  refine enter Try.func14 rfl (Mem.init (S0 := [rb, b5]) hw (fun p hp => by rcases List.mem_cons.1 hp with rfl | hp; exact List.mem_cons_self; rw [List.mem_singleton] at hp; subst hp; exact List.mem_cons_of_mem _ List.mem_cons_self) (by simp [hne])) rfl ?_
  obtain ⟨pa, pc, rfl, hpc⟩ := hpv.shape
  refine z_ ?_
  refine RC.up ps.length (D := Unit) (fun _ _ => True) (fun i _ => [(4, .int .i64 i), (2, .pointer (some ⟨b5, 0, none⟩)), (1, .pointer (some ⟨b1, 0, none⟩)), (0, .pointer (some ⟨rb, 0, none⟩))]) (fun i _ => [(rb, RdC a l.length (catW (ps.take i)).length), (b5, Obj.cells #[.bool true] 4 (0, 0))]) 0 () (Nat.zero_le _) trivial ⟨rfl, rfl, rfl, rfl, trivial⟩ (List.Sublist.refl _) ?_
  intro i _ hi _
  refine z_ ?_
  refine Run.a (vlo h1 (hS := h1n)) ?_
  by_cases hi' : i < ps.length
  · obtain ⟨p, hp⟩ : ∃ p, ps[i]? = some p := ⟨_, List.getElem?_eq_getElem hi'⟩
    have hpm := List.mem_of_getElem? hp
    have hpo := hok p hpm
    have hpk := plainW_kind hpo
    have hpb := hb32 p hpm
    obtain ⟨x, hxk⟩ := Int.eq_ofNat_of_zero_le (show 0 ≤ p.k by omega)
    have hx9 : 1 ≤ x ∧ x ≤ 9 := by omega
    obtain ⟨ad, c', hv', hc', hcl, hr⟩ := hpv.pos (by omega)
    cases hv'
    have hat := pt_at hr hp
    have hatk := hat.k
    rw [hxk] at hatk
    have hadn : ∀ j, ((ad.add (i * 11)).add j).block ∉ [rb, b5] := by
      intro j
      rw [blk_add, blk_add]
      exact hpa (by omega) _ _ _ rfl
    obtain ⟨hcat, hnext⟩ := catW_split hp
    rw [← hl] at hcat
    obtain ⟨k, hk⟩ : ∃ k, k = (catW (ps.take i)).length := ⟨_, rfl⟩
    rw [← hk] at hnext ⊢
    have hll : l.length = k + ((plainW p).1.length + (catW (ps.drop (i + 1))).length) := by rw [hcat, List.length_append, List.length_append, ← hk]
    have hpos : 0 < (plainW p).1.length := by
      unfold plainW at hpo ⊢
      by_cases h8 : p.k = 8
      · rw [if_pos h8, p.h8]; decide
      · by_cases h9 : p.k = 9
        · rw [if_neg h8, if_pos h9, List.length_append, le_len]; omega
        · rw [if_neg h8, if_neg h9] at hpo ⊢
          split at hpo
          · cases hpo
          · rename_i hbad
            rw [if_neg hbad, le_len]; omega
    obtain ⟨ad0, c0, hv0, hc0, hcl0, hr0⟩ := hs.pos (by omega)
    cases hv0
    have hdr : (l.drop k).take (plainW p).1.length = (plainW p).1 := by rw [hcat, hk, List.drop_left, List.take_left]
    have hrb : ad0.block ≠ rb := fun e => ha (by omega) _ rfl (by rw [e]; exact List.mem_cons_self)
    have hbt : ∀ w', Mem w [rb, b5] [(rb, RdC (some ad0) l.length k), (b5, Obj.cells #[.bool true] 4 (0, 0))] w' → BytesAt w' ad0 l := fun w' hm' => BytesAt.fr hr0 hm'.fr (ha (by omega) _ rfl)
    have hz : ([(rb, RdC (some ad0) l.length k), (b5, Obj.cells #[.bool true] 4 (0, 0))] : Hp).Perm ([(rb, RdC (some ad0) l.length k)] ++ [(b5, Obj.cells #[.bool true] 4 (0, 0))]) := List.Perm.refl _
    have hh8 : (u8s p.h).length = 8 := by rw [u8s_len, p.h8]
    refine z_ ?_
    refine Run.op1 (OpTo.cv Try.func15 (fun w' hm' => RLeft_calls rb l.length l.length k (some ad0) (by omega) (by omega) w' (hm'.has _ m0))) (fun _ => ?_)
    refine z_ ?_
    refine Run.a (vlo h1 (hS := h1n)) ?_
    refine z_ ?_
    refine Run.a (vix i hi' (ad.add (i * 11))) ?_
    refine Run.a (vfA) ?_
    refine Run.a (vlo hatk (hS := hadn 0)) ?_
    by_cases h8 : x = 8
    · have e8 : (plainW p).1 = p.h := by unfold plainW; rw [if_pos (by omega)]
      rw [e8] at hdr hnext hll
      have hp8 := p.h8
      rw [hp8] at hdr hnext hll
      refine z_ ?_
      (repeat refine RC.seq ?_); refine RC.draw ([(b5, Obj.cells #[.bool true] 4 (0, 0))]) mixed (N := 19) rfl ?_
      refine dt 0 ?_
      refine dt 1 ?_
      refine dt 2 ?_
      refine DR.t 4 rfl (vlo h1 (hS := h1n)) ?_
      refine dt 5 ?_
      refine DR.t 6 rfl (vix i hi' (ad.add (i * 11))) ?_
      refine DR.t 7 rfl (vfA) ?_
      refine DR.t 8 rfl (vloA hat.h hh8 (hS := hadn 2)) ?_
      refine DR.c 3 (DOp.op1 rfl (OpTo.callT Try.func16 hz (fun w' hm' => RHash_ok rb l.length k ad0 hrb (by omega) (by omega) p.h p.h8 w' (hm'.has _ m0) (by have := (hbt w' hm').sub k 8; rw [hdr] at this; exact this))) ?_)
      intro _
      refine DR.t 9 rfl (veu 8 p.h p.h8 (by kernel_rfl)) ?_
      refine dt 10 ?_
      refine dt 11 ?_
      refine dt 12 ?_
      refine dt 14 ?_
      refine dt 15 ?_
      refine DR.c 13 (DOp.op1 rfl (OpTo.cv Try.func15 (fun w' hm' => RLeft_calls rb l.length l.length (k + 8) (some ad0) (by omega) (by omega) w' (hm'.has (rb, RdC (some ad0) l.length (k + 8)) (by repeat (first | exact List.mem_cons_self | apply List.mem_cons_of_mem | apply List.mem_append_right))))) (fun _ => ?_))
      refine dt 16 ?_
      refine dt 17 ?_
      refine DR.c 18 (DOp.op1 rfl (os1 (arr := #[.bool true]) (e := 4) (L' := (rb, Obj.cells #[Value.slice (some ad0) l.length l.length, .int .i64 ((k + 8 : Nat) : Int)] 61 (0, 0)) :: []) (v := .bool true) #[.bool true] (hL := (perm_of fun f => by (simp only [List.map_append, List.map_cons, List.map_nil, List.sum_append, List.sum_cons, List.sum_nil] <;> omega)))) (fun _ => ?_))
      refine DR.done (by kernel_rfl) ?_
      refine z_ ?_
      exact RQ.upQ (i + 1) () (Nat.lt_succ_self _) hi' trivial ⟨rfl, rfl, rfl, rfl, trivial⟩ (L1 := [(rb, Obj.cells #[Value.slice (some ad0) l.length l.length, .int .i64 ((k + 8 : Nat) : Int)] 61 (0, 0)), (b5, Obj.cells #[.bool true] 4 (0, 0))] ++ []) (perm_of fun f => by (simp only [List.map_append, List.map_cons, List.map_nil, List.sum_append, List.sum_cons, List.sum_nil] <;> omega)) (by rw [hnext]; exact List.sublist_append_left _ _)
    by_cases h9 : x = 9
    · have e9 : (plainW p).1 = le p.b.length 4 ++ p.b := by unfold plainW; rw [if_neg (by omega), if_pos (by omega)]
      have hlw : (plainW p).1.length = 4 + p.b.length := by rw [e9, List.length_append, le_len]
      rw [hlw] at hnext hll
      have hd4 : (l.drop k).take 4 = le p.b.length 4 := by
        have := congrArg (List.take 4) hdr
        rw [List.take_take, Nat.min_eq_left (by omega), e9, List.take_left' (le_len _ _)] at this
        exact this
      have hdb : (l.drop (k + 4)).take p.b.length = p.b := by
        have := congrArg (List.drop 4) hdr
        rw [hlw, List.drop_take, List.drop_drop, e9, List.drop_left' (le_len _ _), show 4 + p.b.length - 4 = p.b.length by omega] at this
        exact this
      have hbp : ∀ x ∈ p.b, x < 256 := p.hb
      have hsp := hin p hpm
      have hsa := hia p hpm
      obtain ⟨ba, bc, hbv, hbc⟩ := hsp.shape
      have hab := hat.b
      rw [hbv] at hsp hab hsa
      have hsrc : ∀ L, Src w [rb, b5] L 1 (.slice ba p.b.length bc) p.b.length (u8s p.b) := fun L => hsp.srcS hsa
      refine z_ ?_
      (repeat refine RC.seq ?_); refine RC.draw ([(b5, Obj.cells #[.bool true] 4 (0, 0))]) mixed (N := 28) rfl ?_
      refine dt 0 ?_
      refine dt 1 ?_
      refine dt 2 ?_
      refine DR.t 5 rfl (vlo h1 (hS := h1n)) ?_
      refine dt 6 ?_
      refine DR.t 7 rfl (vix i hi' (ad.add (i * 11))) ?_
      refine DR.t 8 rfl (vfA) ?_
      refine DR.t 9 rfl (vlo hab (hS := hadn 10)) ?_
      refine DR.t 10 rfl (Val.bytesStr (a := p.b) tabOk rfl rfl rfl rfl rfl rfl rfl rfl (hsrc _)) ?_
      refine DR.c 3 (DOp.op1 rfl (OpTo.callT Try.func17 hz (fun w' hm' => RBytes_ok rb l.length k p.b.length ad0 hrb (by omega) (by omega) (le p.b.length 4) p.b (le_len _ _) (le_bytes _ _) (num8_le 4 _ (Nat.lt_of_le_of_lt hpb (by decide))) rfl w' (hm'.has _ m0) (by have := (hbt w' hm').sub k 4; rw [hd4] at this; exact this) (by have := (hbt w' hm').sub (k + 4) p.b.length; rw [hdb] at this; exact this))) ?_)
      rintro ⟨⟨v9, bl9⟩, hown9⟩
      dsimp only at hown9 ⊢
      refine DR.c 4 ?_
      refine DOp.vl rfl (Val.bytesStr (a := p.b) tabOk rfl rfl rfl rfl rfl rfl rfl rfl (hown9.src (fun q hq => List.mem_append_left _ (List.mem_cons_of_mem _ hq)))) ?_
      refine DR.t 11 rfl (Val.eq (Val.eqStr (a := p.b) (b := p.b) rfl rfl rfl hbp hbp) (show _ = Value.bool true from congrArg Value.bool (decide_eq_true rfl))) ?_
      refine dt 12 ?_
      refine dt 13 ?_
      refine dt 14 ?_
      refine dt 16 ?_
      refine dt 17 ?_
      refine DR.t 18 rfl (vlo h1 (hS := h1n)) ?_
      refine dt 19 ?_
      refine DR.t 20 rfl (vix i hi' (ad.add (i * 11))) ?_
      refine DR.t 21 rfl (vfA) ?_
      refine DR.t 22 rfl (vlo hab (hS := hadn 10)) ?_
      refine dt 23 ?_
      refine dt 24 ?_
      refine DR.c 15 (DOp.op1 rfl (OpTo.cv Try.func15 (fun w' hm' => RLeft_calls rb l.length l.length (k + 4 + p.b.length) (some ad0) (by omega) (by omega) w' (hm'.has (rb, RdC (some ad0) l.length (k + 4 + p.b.length)) (by repeat (first | exact List.mem_cons_self | apply List.mem_cons_of_mem | apply List.mem_append_right))))) (fun _ => ?_))
      refine dt 25 ?_
      refine dt 26 ?_
      refine DR.c 27 (DOp.op1 rfl (os1 (arr := #[.bool true]) (e := 4) (L' := (rb, Obj.cells #[Value.slice (some ad0) l.length l.length, .int .i64 ((k + 4 + p.b.length : Nat) : Int)] 61 (0, 0)) :: bl9) #[.bool true] (v := .bool true) (hL := (perm_of fun f => by (simp only [List.map_append, List.map_cons, List.map_nil, List.sum_append, List.sum_cons, List.sum_nil] <;> omega)))) (fun _ => ?_))
      refine DR.done (by kernel_rfl) ?_
      refine z_ ?_
      exact RQ.upQ (i + 1) () (Nat.lt_succ_self _) hi' trivial ⟨rfl, rfl, rfl, rfl, trivial⟩ (L1 := [(rb, Obj.cells #[Value.slice (some ad0) l.length l.length, .int .i64 ((k + 4 + p.b.length : Nat) : Int)] 61 (0, 0)), (b5, Obj.cells #[.bool true] 4 (0, 0))] ++ bl9) (perm_of fun f => by (simp only [List.map_append, List.map_cons, List.map_nil, List.sum_append, List.sum_cons, List.sum_nil] <;> omega)) (by rw [hnext, ← Nat.add_assoc]; exact List.sublist_append_left _ _)
    have hx7 : x ≤ 7 := by omega
    obtain ⟨N, hN⟩ : ∃ N : Nat, p.n = N ∧ N < 2 ^ (8 * x) := by
      unfold plainW at hpo
      rw [if_neg (by omega), if_neg (by omega)] at hpo
      split at hpo
      · cases hpo
      · rename_i hbad
        simp only [numBad, not_or, hxk, Int.toNat_natCast, ne_eq, Decidable.not_not] at hbad
        refine ⟨p.n.toNat, by omega, ?_⟩
        exact (Nat.div_eq_zero_iff.1 hbad.2.2.2).resolve_left (Nat.ne_of_gt (Nat.pow_pos (by decide)))
    have en : (plainW p).1 = le N x := by
      unfold plainW at hpo ⊢
      rw [if_neg (by omega), if_neg (by omega)] at hpo ⊢
      split at hpo
      · cases hpo
      · rename_i hbad
        rw [if_neg hbad, hN.1, hxk]; rfl
    have hlw : (plainW p).1.length = x := by rw [en, le_len]
    rw [hlw] at hnext hll
    rw [hlw, en] at hdr
    have hatn := hat.n
    rw [hN.1] at hatn
    refine z_ ?_
    (repeat refine RC.seq ?_); refine RC.draw ([(b5, Obj.cells #[.bool true] 4 (0, 0))]) mixed (N := 29) rfl ?_
    refine dt 0 ?_
    refine dt 1 ?_
    refine dt 2 ?_
    refine DR.t 3 rfl (vlo h1 (hS := h1n)) ?_
    refine dt 4 ?_
    refine DR.t 5 rfl (vix i hi' (ad.add (i * 11))) ?_
    refine DR.t 6 rfl (vfA) ?_
    refine DR.t 7 rfl (vlo hatk (hS := hadn 0)) ?_
    refine DR.t 9 rfl (vlo h1 (hS := h1n)) ?_
    refine dt 10 ?_
    refine DR.t 11 rfl (vix i hi' (ad.add (i * 11))) ?_
    refine DR.t 12 rfl (vfA) ?_
    refine DR.t 13 rfl (vlo hatn (hS := hadn 1)) ?_
    refine DR.c 8 (DOp.op1 rfl (OpTo.callT Try.func18 hz (fun w' hm' => RNum_ok rb l.length k x ad0 hrb (by omega) ⟨hx9.1, hx7⟩ (by omega) (le N x) (le_len _ _) (le_bytes _ _) w' (hm'.has _ m0) (by have := (hbt w' hm').sub k x; rw [hdr] at this; exact this))) ?_)
    intro _
    rw [num8_le x N hN.2]
    refine dt 14 ?_
    refine dt 15 ?_
    refine dt 16 ?_
    refine dt 17 ?_
    refine dt 19 ?_
    refine DR.t 20 rfl (vlo h1 (hS := h1n)) ?_
    refine dt 21 ?_
    refine DR.t 22 rfl (vix i hi' (ad.add (i * 11))) ?_
    refine DR.t 23 rfl (vfA) ?_
    refine DR.t 24 rfl (vlo hatk (hS := hadn 0)) ?_
    refine dt 25 ?_
    refine DR.c 18 (DOp.op1 rfl (OpTo.cv Try.func15 (fun w' hm' => RLeft_calls rb l.length l.length (k + x) (some ad0) (by omega) (by omega) w' (hm'.has (rb, RdC (some ad0) l.length (k + x)) (by repeat (first | exact List.mem_cons_self | apply List.mem_cons_of_mem | apply List.mem_append_right))))) (fun _ => ?_))
    refine dt 26 ?_
    refine dt 27 ?_
    refine DR.c 28 (DOp.op1 rfl (os1 (arr := #[.bool true]) (e := 4) (L' := (rb, Obj.cells #[Value.slice (some ad0) l.length l.length, .int .i64 ((k + x : Nat) : Int)] 61 (0, 0)) :: []) #[.bool true] (v := .bool true) (hL := (perm_of fun f => by (simp only [List.map_append, List.map_cons, List.map_nil, List.sum_append, List.sum_cons, List.sum_nil] <;> omega)))) (fun _ => ?_))
    refine DR.done (by kernel_rfl) ?_
    refine z_ ?_
    exact RQ.upQ (i + 1) () (Nat.lt_succ_self _) hi' trivial ⟨rfl, rfl, rfl, rfl, trivial⟩ (L1 := [(rb, Obj.cells #[Value.slice (some ad0) l.length l.length, .int .i64 ((k + x : Nat) : Int)] 61 (0, 0)), (b5, Obj.cells #[.bool true] 4 (0, 0))] ++ []) (perm_of fun f => by (simp only [List.map_append, List.map_cons, List.map_nil, List.sum_append, List.sum_cons, List.sum_nil] <;> omega)) (by rw [hnext]; exact List.sublist_append_left _ _)
  · have hi9 : i = ps.length := by omega
    subst hi9
    rw [List.take_length, ← hl]
    refine z_ ?_
    exact RQ.end0 rfl fun w' hm => TurnsO.of (Y := Unit) (o := fun _ => none) (L' := fun _ => [(rb, RdC a l.length l.length), (b5, Obj.cells #[.bool true] 4 (0, 0))]) () rfl hm (Lr := []) (by rw [List.append_nil])
end Go.Proofs.Ytgnjdpaenojfhaa
