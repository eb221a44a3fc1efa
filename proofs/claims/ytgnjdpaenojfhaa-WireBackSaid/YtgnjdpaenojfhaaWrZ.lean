/- wire: WireReads. -/
import Derived.Test.YtgnjdpaenojfhaaWrY
set_option linter.unusedSimpArgs false
set_option linter.unusedVariables false
namespace Go.Vc
open Go
section
variable {P : Program} {n : Nat} {w0 : World} {S0 : List Nat} {Q : Exit → Act → World → Prop} {E : Env} {L : Hp}
/-- What is known behind a block. -/
theorem RC.midB {c : Code} {id : Nat} (Em : Env) (Lm : Hp) (h1 : RC P n w0 S0 c (Exit.inBlock id (Exit.then (fun a w => St n Em a ∧ Mem w0 S0 Lm w) Q)) E L) (h2 : RQ n w0 S0 .normal Q Em Lm) : RC P n w0 S0 c (Exit.inBlock id Q) E L := by
  intro a w hs hm
  refine wp_mono (h1 a w hs hm) ?_
  intro e a' w' h
  cases e with
  | normal => exact h2 a' w' h.1 h.2
  | exit i =>
    show (if i = id then Q .normal a' w' else Q (.exit i) a' w')
    change (if i = id then (St n Em a' ∧ Mem w0 S0 Lm w') else Q (.exit i) a' w') at h
    split
    · rw [if_pos (by assumption)] at h; exact h2 a' w' h.1 h.2
    · rw [if_neg (by assumption)] at h; exact h
  | _ => exact h
theorem RQ.mid {Em : Env} {Lm : Hp} (hE : Env.le Em E) {L1 : Hp} (hp : L.Perm L1) (hL : Lm.Sublist L1) : RQ n w0 S0 .normal (Exit.then (fun a w => St n Em a ∧ Mem w0 S0 Lm w) Q) E L :=
  fun _ _ hs hm => ⟨hs.weak hE, (hm.perm hp).sublist hL⟩
end
end Go.Vc
namespace Go.Proofs.Ytgnjdpaenojfhaa
attribute [local irreducible] Go.Vc.Run Go.Vc.RC Go.Vc.RQ Go.Vc.DR Go.Vc.DOp
open Go Go.Vc Go.Sha
theorem _root_.Go.Vc.SrcW.lt {w : World} {sz m c : Nat} {ad : Addr} {cs : List Value} (h : SrcW w sz (.slice (some ad) m c) m cs) (hm : 0 < m) (hz : 0 < sz) : ad.block < w.heap.size := by
  obtain ⟨a, c', hv, _, hl, hr⟩ := h.pos hm
  cases hv
  have hp : 0 < cs.length := by rw [hl]; exact Nat.mul_pos hm hz
  have := World.block_lt_of_cell? w _ (hr 0 _ (List.getElem?_eq_getElem hp))
  rwa [show (ad.add 0).block = ad.block by first | rfl | (unfold Addr.add; split <;> rfl)] at this
set_option maxRecDepth 10000 in set_option maxHeartbeats 4000000 in
theorem WireReads_calls (l : List Nat) (hb : ∀ x ∈ l, x < 256) (ks : List Nat) (hks : ∀ x ∈ ks, x < 256) (bad : Bool) (bv kv : Value) (w : World) (hs : SrcW w 1 bv l.length (u8s l)) (hkv : SrcW w 1 kv ks.length (u8s ks)) :
    Gives Try.prog 6 [bv, kv, .bool bad] (.bool true) w := by
  refine enter Try.func6 rfl (Mem.nil w []) rfl ?_
  obtain ⟨a, c, rfl, hc⟩ := hs.shape
  obtain ⟨ka, kc, rfl, hkc⟩ := hkv.shape
  refine z_ ?_
  refine Run.nw (nbs (v := .slice ka ks.length kc)) ?_
  intro b4
  refine Run.nw (nbs (v := .bool bad)) ?_
  intro b5
  refine z_ ?_
  refine Run.op1 (OpTo.cv Try.func8 (fun w' _ => wr_awake_calls w')) (fun _ => ?_)
  refine z_ ?_
  by_cases hn : 20000 < l.length
  · refine z_ ?_
    exact RQ.ret1 rfl (Res.tmp rfl) fun w' hm => ⟨rfl, hm.fr⟩
  by_cases hkl : 100 < ks.length
  · refine z_ ?_
    exact RQ.ret1 rfl (Res.tmp rfl) fun w' hm => ⟨rfl, hm.fr⟩
  obtain ⟨F, hF⟩ : ∃ F, F = ks.foldl (stepR l) (0, 0, true) := ⟨_, rfl⟩
  have hFk : F.1 ≤ l.length := by rw [hF]; exact foldR_le ks _ (Nat.zero_le _)
  have hFd : F.2.1 ≤ 100 := by have := foldR_done (l := l) ks (0, 0, true); rw [← hF] at this; dsimp only at this; omega
  refine z_ ?_
  refine RC.midB [(9, .int .i64 F.2.1), (8, .bool !F.2.2), (7, .int .i64 F.1), (5, .pointer (some ⟨b5, 0, none⟩)), (4, .pointer (some ⟨b4, 0, none⟩)), (0, .slice a l.length c)] [(b5, Obj.cells #[.bool bad] 4 (0, 0)), (b4, Obj.cells #[.slice ka ks.length kc] 25 (0, 0))] ?_ ?_
  · refine RC.up ks.length (D := Nat × Nat) (fun i d => (ks.take i).foldl (stepR l) (0, 0, true) = (d.1, d.2, true)) (fun i d => [(10, .int .i64 i), (9, .int .i64 d.2), (8, .bool false), (7, .int .i64 d.1), (5, .pointer (some ⟨b5, 0, none⟩)), (4, .pointer (some ⟨b4, 0, none⟩)), (0, .slice a l.length c)]) (fun _ _ => [(b5, Obj.cells #[.bool bad] 4 (0, 0)), (b4, Obj.cells #[.slice ka ks.length kc] 25 (0, 0))]) 0 (0, 0) (Nat.zero_le _) rfl ⟨rfl, rfl, rfl, rfl, rfl, rfl, rfl, trivial⟩ (List.Sublist.refl _) ?_
    rintro i ⟨k, dn⟩ hi hd
    dsimp only at hd ⊢
    have hkn : k ≤ l.length := by have := foldR_le (l := l) (ks.take i) (0, 0, true) (Nat.zero_le _); rw [hd] at this; exact this
    have hdn : dn ≤ 100 := by
      have := foldR_done (l := l) (ks.take i) (0, 0, true)
      rw [hd, List.length_take] at this
      dsimp only at this
      omega
    by_cases hi' : i < ks.length
    · obtain ⟨x, hx⟩ : ∃ x, ks[i]? = some x := ⟨_, List.getElem?_eq_getElem hi'⟩
      have hx8 := hks x (List.mem_of_getElem? hx)
      obtain ⟨ad, c', hv', hc', hcl, hr⟩ := hkv.pos (by omega)
      cases hv'
      have hcx : w.cell? (ad.add i) = some (.int .u8 x) := hr _ _ (by unfold u8s; rw [List.getElem?_map, hx]; rfl)
      have hgo : ∀ p, rdR l k (x % 10) = some p → (ks.take (i + 1)).foldl (stepR l) (0, 0, true) = (p, dn + 1, true) := by
        intro p hp
        rw [List.take_add_one, hx, Option.toList_some, List.foldl_append, hd]
        show stepR l (k, dn, true) x = _
        unfold stepR
        rw [if_pos rfl, hp]
      have hstop : rdR l k (x % 10) = none → F = (k, dn, false) := by
        intro hp
        rw [hF]
        conv => lhs; rw [← List.take_append_drop i ks, List.drop_eq_getElem_cons hi', (List.getElem?_eq_some_iff.1 hx).2, List.foldl_append, hd, List.foldl_cons]
        rw [show stepR l (k, dn, true) x = (k, dn, false) from by unfold stepR; rw [if_pos rfl, hp], foldR_no]
      refine z_ ?_
      refine Run.a (vix i hi' (ad.add i) (ha := by show ad.add (i * 1) = _; rw [Nat.mul_one])) ?_
      refine Run.a (vlo hcx) ?_
      have h88 : ((x % 10 : Nat) : Int) = 9 ↔ x % 10 = 9 := by omega
      by_cases h9 : x % 10 = 9
      · have hr9 : rdR l k (x % 10) = if k + 4 ≤ l.length then (if k + 4 + num8 ((l.drop k).take 4) ≤ l.length then some (k + 4 + num8 ((l.drop k).take 4)) else none) else none := by unfold rdR; rw [h9]; rfl
        have h99 : ((x % 10 : Nat) : Int) = 9 := h88.2 h9
        have h90 : ((x % 10 : Nat) : Int) ≠ 0 := by omega
        obtain ⟨M, hM⟩ : ∃ M, M = num8 ((l.drop k).take 4) := ⟨_, rfl⟩
        rw [← hM] at hr9
        by_cases h4k : k + 4 ≤ l.length
        · rw [if_pos h4k] at hr9
          have hM32 : M < 2 ^ 32 := by
            have := num8_lt ((l.drop k).take 4) (fun x hx => hb x (List.mem_of_mem_drop (List.mem_of_mem_take hx)))
            rw [List.length_take, List.length_drop, Nat.min_eq_left (by omega), ← hM] at this
            exact this
          refine z_ ?_
          refine Run.op1 (OpTo.cv Try.func19 (fun w' hm => Get_calls l hb k 4 (by decide) h4k (by omega) (.slice a l.length c) w' (hs.mem hm))) (fun _ => ?_)
          rw [← hM]
          by_cases hen : k + 4 + M ≤ l.length
          · rw [if_pos hen] at hr9
            refine z_ ?_
            exact RQ.up (i + 1) (k + 4 + M, dn + 1) (Nat.lt_succ_self _) hi' (hgo _ hr9) ⟨rfl, rfl, rfl, congrArg (fun z => some (Value.int .i64 z)) (show (k : Int) + (4 + (M : Int)) = ((k + 4 + M : Nat) : Int) by omega), rfl, rfl, rfl, trivial⟩ (List.Sublist.refl _)
          · rw [if_neg hen] at hr9
            obtain rfl : F = (k, dn, false) := hstop hr9
            refine z_ ?_
            exact RQ.mid ⟨rfl, rfl, rfl, rfl, rfl, rfl, trivial⟩ (List.Perm.refl _) (List.Sublist.refl _)
        · rw [if_neg h4k] at hr9
          obtain rfl : F = (k, dn, false) := hstop hr9
          refine z_ ?_
          exact RQ.mid ⟨rfl, rfl, rfl, rfl, rfl, rfl, trivial⟩ (List.Perm.refl _) (List.Sublist.refl _)
      have h99 : ((x % 10 : Nat) : Int) ≠ 9 := fun h => h9 (h88.1 h)
      obtain ⟨q, hq⟩ : ∃ q, q = x % 10 := ⟨_, rfl⟩
      have hrq : rdR l k (x % 10) = if q = 0 then none else if k + q ≤ l.length then some (k + q) else none := by unfold rdR; rw [if_neg h9, ← hq]
      by_cases h0 : q = 0
      · rw [if_pos h0] at hrq
        obtain rfl : F = (k, dn, false) := hstop hrq
        have h00 : ((x % 10 : Nat) : Int) = 0 := by omega
        have h99 : ((x % 10 : Nat) : Int) ≠ 9 := by omega
        refine z_ ?_
        exact RQ.mid ⟨rfl, rfl, rfl, rfl, rfl, rfl, trivial⟩ (List.Perm.refl _) (List.Sublist.refl _)
      · rw [if_neg h0] at hrq
        have h00 : ((x % 10 : Nat) : Int) ≠ 0 := by omega
        have h99 : ((x % 10 : Nat) : Int) ≠ 9 := by omega
        by_cases hen : k + q ≤ l.length
        · rw [if_pos hen] at hrq
          rw [hq] at hen hrq
          refine z_ ?_
          exact RQ.up (i + 1) (k + x % 10, dn + 1) (Nat.lt_succ_self _) hi' (hgo _ hrq) ⟨rfl, rfl, rfl, rfl, rfl, rfl, rfl, trivial⟩ (List.Sublist.refl _)
        · rw [if_neg hen] at hrq
          rw [hq] at hen
          obtain rfl : F = (k, dn, false) := hstop hrq
          refine z_ ?_
          exact RQ.mid ⟨rfl, rfl, rfl, rfl, rfl, rfl, trivial⟩ (List.Perm.refl _) (List.Sublist.refl _)
    · have hi9 : i = ks.length := by omega
      subst hi9
      rw [List.take_length, ← hF] at hd
      subst hd
      refine z_ ?_
      exact RQ.mid ⟨rfl, rfl, rfl, rfl, rfl, rfl, trivial⟩ (List.Perm.refl _) (List.Sublist.refl _)
  · clear hFd
    obtain ⟨p, dn, ok⟩ := F
    dsimp only at hFk ⊢
    refine z_ ?_
    refine Run.nw nal ?_
    intro bd
    refine z_ ?_
    refine Run.op1 (os1 #[.int .i64 0]) (fun _ => ?_)
    refine z_ ?_
    refine Run.a (Val.mkF (us := []) rfl rfl rfl) ?_
    have hz : ([(bd, Obj.cells #[.int .i64 0] 3 (0, 0)), (b5, Obj.cells #[.bool bad] 4 (0, 0)), (b4, Obj.cells #[.slice ka ks.length kc] 25 (0, 0))] : Hp).Perm ([(bd, Obj.cells #[.int .i64 0] 3 (0, 0))] ++ [(b5, Obj.cells #[.bool bad] 4 (0, 0)), (b4, Obj.cells #[.slice ka ks.length kc] 25 (0, 0))]) := List.Perm.refl _
    have hR : ∀ w', Mem w [] [(bd, Obj.cells #[.int .i64 0] 3 (0, 0)), (b5, Obj.cells #[.bool bad] 4 (0, 0)), (b4, Obj.cells #[.slice ka ks.length kc] 25 (0, 0))] w' → Turns Try.prog 12 [.slice a l.length c, .func (.func 20) #[] #[.pointer (some ⟨b4, 0, none⟩), .pointer (some ⟨bd, 0, none⟩), .pointer (some ⟨b5, 0, none⟩)]] w' [(bd, Obj.cells #[.int .i64 0] 3 (0, 0))] (Y := Unit) (fun _ => .int .i64 (readE (endR bad ok) l.length p)) (fun _ => [(bd, Obj.cells #[.int .i64 dn] 3 (0, 0))]) := by
      intro w' hm
      have hnd := hm.nd
      simp only [List.map_cons, List.map_nil, List.nodup_cons, List.mem_cons, List.not_mem_nil, or_false, not_or] at hnd
      obtain ⟨⟨n1, n2⟩, n3, -⟩ := hnd
      have hbd := hm.fresh (p := (bd, Obj.cells #[.int .i64 0] 3 (0, 0))) (Lst := []) m0 (by simp)
      have hbl := hm.lt m0
      have hb5l := hm.lt m1
      have hb4l := hm.lt m2
      simp only at hbd hbl hb5l hb4l
      refine ReadF_calls a l.length c (by omega) hc Try.func20 rfl rfl [.pointer (some ⟨b4, 0, none⟩), .pointer (some ⟨bd, 0, none⟩), .pointer (some ⟨b5, 0, none⟩)] w' _ (fun q hq => hm.has q (List.mem_append_left _ hq)) (by simp) (o := fun _ => endR bad ok) (k := fun _ => p) (fun _ => hFk) (fun _ pv h => ?_) (fun rb w'' hf hrb hA hN => ?_)
      · unfold endR at h
        cases ok
        · cases h; rfl
        · cases bad
          · cases h
          · cases h
      · have h1 := Reads1_calls l hb (by omega) ks hks (by omega) bad rb b4 bd b5 a c (.slice ka ks.length kc) w'' hA hN ((hs.mem hm).fr hf) (fun h0 ad had => ?_) (hf.cell (by simp) (by rw [cell_of_row w' b4 0 _ _ _ (hm.has _ m2)]; rfl)) (by simp only [List.map_cons, List.map_nil, List.mem_cons, List.not_mem_nil, or_false, not_or]; omega) (hf.cell (by simp) (by rw [cell_of_row w' b5 0 _ _ _ (hm.has _ m1)]; rfl)) (by simp only [List.map_cons, List.map_nil, List.mem_cons, List.not_mem_nil, or_false, not_or]; omega) ((hkv.mem hm).fr hf) (fun h0 ad n' c' hv => ?_)
        · rw [← hF] at h1
          exact h1
        · subst had
          have := hs.lt h0 (by decide)
          simp only [List.map_cons, List.map_nil, List.mem_cons, List.not_mem_nil, or_false, not_or]
          have := hm.fr.size
          omega
        · cases hv
          have := hkv.lt h0 (by decide)
          simp only [List.map_cons, List.map_nil, List.mem_cons, List.not_mem_nil, or_false, not_or]
          have := hm.fr.size
          omega
    cases ok
    · have hE : readE (endR bad false) l.length p = 2 := by rfl
      rw [hE] at hR
      refine Run.op1 (OpTo.callT Try.func12 hz hR) ?_
      intro _
      refine z_ ?_
      exact RQ.ret1 rfl (Res.tmp rfl) fun w' hm => ⟨rfl, hm.fr⟩
    cases bad
    · by_cases hlt : p < l.length
      · have hE : readE (endR false true) l.length p = 4 := by exact if_pos hlt
        rw [hE] at hR
        refine Run.op1 (OpTo.callT Try.func12 hz hR) ?_
        intro _
        refine z_ ?_
        exact RQ.ret1 rfl (Res.tmp rfl) fun w' hm => ⟨rfl, hm.fr⟩
      · have hE : readE (endR false true) l.length p = 0 := by exact if_neg hlt
        rw [hE] at hR
        refine Run.op1 (OpTo.callT Try.func12 hz hR) ?_
        intro _
        refine z_ ?_
        exact RQ.ret1 rfl (Res.tmp rfl) fun w' hm => ⟨rfl, hm.fr⟩
    · have hE : readE (endR true true) l.length p = 4 := by rfl
      rw [hE] at hR
      refine Run.op1 (OpTo.callT Try.func12 hz hR) ?_
      intro _
      refine z_ ?_
      exact RQ.ret1 rfl (Res.tmp rfl) fun w' hm => ⟨rfl, hm.fr⟩
end Go.Proofs.Ytgnjdpaenojfhaa
