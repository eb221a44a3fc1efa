/- Lemmas. -/
import Derived.Test.YtfoeakgnkfcbjaaGreatDoorPt30
set_option linter.unusedSimpArgs false
set_option linter.unusedVariables false
section
/- tx: the reference's reading: payments, transactions, DecodeTx (gen_cur2.py prints it). -/
namespace Go.Proofs.YtfoeakgnkfcbjaaGreatDoor
attribute [local irreducible] Go.Vc.Run Go.Vc.RC Go.Vc.RQ Go.Vc.DR Go.Vc.DOp Go.Vc.Knows Go.Vc.At
set_option maxHeartbeats 400000
set_option maxRecDepth 10000
open Go Go.Vc Go.Sha
theorem in_zero : ti173.zero.cells = (InD.c ⟨By.z 8, 0, By.z 8, SigD.nul⟩).toArray := by kernel_rfl
theorem in_w0 (t q : By 8) (i : Int) (k : By 8) (s : SigD) : wrAt (InD.c ⟨t, i, k, s⟩).toArray 0 (u8s q.1) = (InD.c ⟨q, i, k, s⟩).toArray := wr_at' (pre := []) (old := u8s t.1) (post := .int .i64 i :: (u8s k.1 ++ s.c)) rfl rfl (by rw [u8s_len, u8s_len, t.2.1, q.2.1]) rfl
theorem in_w8 (t : By 8) (i j : Int) (k : By 8) (s : SigD) : wrAt (InD.c ⟨t, i, k, s⟩).toArray 8 [.int .i64 j] = (InD.c ⟨t, j, k, s⟩).toArray := wr_at' (pre := u8s t.1) (old := [.int .i64 i]) (post := u8s k.1 ++ s.c) rfl rfl rfl (by rw [u8s_len, t.2.1])
theorem in_w9 (t : By 8) (i : Int) (k q : By 8) (s : SigD) : wrAt (InD.c ⟨t, i, k, s⟩).toArray 9 (u8s q.1) = (InD.c ⟨t, i, q, s⟩).toArray := wr_at' (pre := u8s t.1 ++ [.int .i64 i]) (old := u8s k.1) (post := s.c) (by unfold InD.c; simp only [List.append_assoc, List.cons_append, List.nil_append]) (by unfold InD.c; simp only [List.append_assoc, List.cons_append, List.nil_append]) (by rw [u8s_len, u8s_len, k.2.1, q.2.1]) (by rw [List.length_append, u8s_len, t.2.1]; rfl)
/-- The cells of a payment. -/
def payC (a : Option Addr) (n c : Nat) (a' : Option Addr) (n' c' : Nat) (a'' : Option Addr) (n'' c'' : Nat) : List Value := .int .i64 2 :: .int .i64 0 :: .slice a n c :: .slice a' n' c' :: .slice a'' n'' c'' :: (prC PrD.nul (.slice none 0 0) ++ (ceC CeD.nul (.slice none 0 0) (.slice none 0 0) ++ ClD.nul.c))
theorem payC_len (a : Option Addr) (n c : Nat) (a' : Option Addr) (n' c' : Nat) (a'' : Option Addr) (n'' c'' : Nat) : (payC a n c a' n' c' a'' n'' c'').length = 170 := by
  unfold payC
  simp only [List.length_cons, List.length_append, ceC_len, ClD.len]
  rfl
/-- The lists of a payment, each with its blocks. -/
abbrev PayY (t : TxD) := {q : ((Option Addr × Nat) × (Option Addr × Nat) × (Option Addr × Nat)) × (Hp × Hp × Hp) // Own 173 298 (.slice q.1.1.1 t.is.length q.1.1.2) t.is.length (rws InD.c t.is) q.2.1 ∧ Own 164 9 (.slice q.1.2.1.1 t.os.length q.1.2.1.2) t.os.length (rws OutD.c t.os) q.2.2.1 ∧ Own 177 11 (.slice q.1.2.2.1 t.fs.length q.1.2.2.2) t.fs.length (rws FoD.c t.fs) q.2.2.2}
theorem cuPay (tb cb : Nat) (a : Option Addr) (cc : Nat) (l : List Nat) (s : CuS) (hs : s.1 <:+ l) : CurC 135 [.pointer (some ⟨cb, 0, none⟩), .pointer (some ⟨tb, 0, none⟩)] cb a cc l s [(tb, Obj.cells (payC none 0 0 none 0 0 none 0 0).toArray 64 (0, 0))] (zPay s) (PayY) (fun _ _ => .tuple #[]) (fun t y => (tb, Obj.cells (payC y.1.1.1.1 t.is.length y.1.1.1.2 y.1.1.2.1.1 t.os.length y.1.1.2.1.2 y.1.1.2.2.1 t.fs.length y.1.1.2.2.2).toArray 64 (0, 0)) :: (y.1.2.1 ++ (y.1.2.2.1 ++ y.1.2.2.2))) := by
  intro w hcc hI hw hnd
  refine enter Tryz.func135 rfl (Mem.init (S0 := ((cb, CuC a cc l s) :: [(tb, Obj.cells (payC none 0 0 none 0 0 none 0 0).toArray 64 (0, 0))]).map (·.1)) hw (fun p hp => List.mem_map_of_mem hp) hnd) rfl ?_
  have hbl := hI.bt
  refine x_ ?_
  have hp1 : ((cb, CuC a cc l s) :: ((tb, Obj.cells (payC none 0 0 none 0 0 none 0 0).toArray 64 (0, 0)) :: []) : Hp).Perm (((cb, CuC a cc l s) :: []) ++ ((tb, Obj.cells (payC none 0 0 none 0 0 none 0 0).toArray 64 (0, 0)) :: [])) := (perm_of fun f => by (simp only [List.map_append, List.map_cons, List.map_nil, List.sum_append, List.sum_cons, List.sum_nil] <;> omega))
  rcases h1 : cN 1 s with ⟨x1, s1⟩
  have hs1 : s1.1 <:+ l := by have := (agr_N 1).sfx s; rw [h1] at this; exact this.trans hs
  refine Run.op1 (callC Tryz.func51 (cuNum 1 (by decide) cb a cc l s hs) hcc hI hp1 h1) (fun _ => ?_)
  dsimp only [List.append_nil, List.cons_append, List.nil_append]
  have hrd2 : ∀ (q : Option Addr) (m c : Nat), rdAt ti49 (payC q m c none 0 0 none 0 0).toArray 2 = some (.slice q m c) := fun q m c => rfl
  obtain ⟨n1, rfl, hn1⟩ := cN_nat h1 (fun y hy => hbl y (hs.mem hy))
  refine x_ ?_
  refine RC.midBY (Y := {d : List InD × CuS × (Option Addr × Nat) × Hp // cRep zIn n1 s1 = (d.1, d.2.1) ∧ d.2.1.1 <:+ l ∧ Own 173 298 (.slice d.2.2.1.1 d.1.length d.2.2.1.2) d.1.length (rws InD.c d.1) d.2.2.2}) (fun d => [(1, .pointer (some ⟨tb, 0, none⟩)), (0, .pointer (some ⟨cb, 0, none⟩))]) (fun d => (cb, CuC a cc l d.1.2.1) :: (d.1.2.2.2 ++ ((tb, Obj.cells (payC d.1.2.2.1.1 d.1.1.length d.1.2.2.1.2 none 0 0 none 0 0).toArray 64 (0, 0)) :: []))) ?_ (fun d => ?_)
  · refine RC.up n1 (D := List InD × CuS × (Option Addr × Nat) × Hp) (fun k d => cRep zIn k s1 = (d.1, d.2.1) ∧ d.2.1.1 <:+ l ∧ d.1.length = k ∧ Own 173 298 (.slice d.2.2.1.1 k d.2.2.1.2) k (rws InD.c d.1) d.2.2.2) (fun k d => [(5, .int .i64 k), (4, .int .i64 n1), (1, .pointer (some ⟨tb, 0, none⟩)), (0, .pointer (some ⟨cb, 0, none⟩))]) (fun k d => (cb, CuC a cc l d.2.1) :: (d.2.2.2 ++ ((tb, Obj.cells (payC d.2.2.1.1 k d.2.2.1.2 none 0 0 none 0 0).toArray 64 (0, 0)) :: []))) 0 ([], s1, (none, 0), []) (Nat.zero_le _) ⟨rfl, hs1, rfl, Own.nil⟩ ⟨rfl, rfl, rfl, rfl, trivial⟩ (List.Sublist.refl _) ?_
    rintro k ⟨xs, ⟨rk, bk⟩, ⟨wa, wc⟩, wl⟩ hk ⟨hrep, hsk, hxl, hown⟩
    dsimp only at hrep hsk hxl hown ⊢
    subst hxl
    by_cases hk' : xs.length < n1
    rotate_left
    · obtain rfl : n1 = xs.length := by omega
      refine x_ ?_
      exact RQ.midB ⟨(xs, (rk, bk), (wa, wc), wl), hrep, hsk, hown⟩ ⟨rfl, rfl, trivial⟩ (List.Perm.refl _) (List.Sublist.refl _)
    cases bk
    rotate_left
    · refine x_ ?_
      exact RQ.midB ⟨(xs, (rk, true), (wa, wc), wl), (cRep_bad (by rw [hrep]) n1 (by omega)).trans hrep, hsk, hown⟩ ⟨rfl, rfl, trivial⟩ (List.Perm.refl _) (List.Sublist.refl _)
    refine x_ ?_
    refine x_ ?_
    refine Run.nw nal ?_
    intro b6
    refine x_ ?_
    refine Run.op1 (osa (arr := ti173.zero.cells) (e := 173) (L' := (cb, CuC a cc l (rk, false)) :: (wl ++ ((tb, Obj.cells (payC wa xs.length wc none 0 0 none 0 0).toArray 64 (0, 0)) :: []))) ti173.zero.cells (by rw [in_zero]; exact InD.one _) (hL := (perm_of fun f => by (simp only [List.map_append, List.map_cons, List.map_nil, List.sum_append, List.sum_cons, List.sum_nil] <;> omega)))) (fun _ => ?_)
    rw [in_zero]
    refine x_ ?_
    have hp3 : ((b6, Obj.cells (InD.c ⟨By.z 8, 0, By.z 8, SigD.nul⟩).toArray 173 (0, 0)) :: ((cb, CuC a cc l (rk, false)) :: (wl ++ ((tb, Obj.cells (payC wa xs.length wc none 0 0 none 0 0).toArray 64 (0, 0)) :: []))) : Hp).Perm (((cb, CuC a cc l (rk, false)) :: []) ++ ((b6, Obj.cells (InD.c ⟨By.z 8, 0, By.z 8, SigD.nul⟩).toArray 173 (0, 0)) :: (wl ++ ((tb, Obj.cells (payC wa xs.length wc none 0 0 none 0 0).toArray 64 (0, 0)) :: [])))) := (perm_of fun f => by (simp only [List.map_append, List.map_cons, List.map_nil, List.sum_append, List.sum_cons, List.sum_nil] <;> omega))
    rcases h3 : cB (rk, false) with ⟨x3, s3⟩
    have hs3 : s3.1 <:+ l := by have := (agr_B).sfx (rk, false); rw [h3] at this; exact this.trans hsk
    refine Run.op1 (callC Tryz.func49 (cuHash cb a cc l (rk, false) hsk) hcc hI hp3 h3) (fun _ => ?_)
    dsimp only [List.append_nil, List.cons_append, List.nil_append]
    refine x_ ?_
    refine Run.op1 (ostE (arr := (InD.c ⟨By.z 8, 0, By.z 8, SigD.nul⟩).toArray) (e := 173) (L' := (cb, CuC a cc l s3) :: (wl ++ ((tb, Obj.cells (payC wa xs.length wc none 0 0 none 0 0).toArray 64 (0, 0)) :: []))) (InD.c ⟨x3, 0, By.z 8, SigD.nul⟩).toArray (hL := (perm_of fun f => by (simp only [List.map_append, List.map_cons, List.map_nil, List.sum_append, List.sum_cons, List.sum_nil] <;> omega))) (he := by exact in_w0 _ _ _ _ _) (hf := by rw [List.size_toArray, InD.len]; decide) (h1 := by exact u8s_one _) (hs := by show (u8s x3.1).toArray.size = 8; rw [List.size_toArray, u8s_len, x3.2.1])) (fun _ => ?_)
    refine x_ ?_
    have hp4 : ((b6, Obj.cells (InD.c ⟨x3, 0, By.z 8, SigD.nul⟩).toArray 173 (0, 0)) :: ((cb, CuC a cc l s3) :: (wl ++ ((tb, Obj.cells (payC wa xs.length wc none 0 0 none 0 0).toArray 64 (0, 0)) :: []))) : Hp).Perm (((cb, CuC a cc l s3) :: []) ++ ((b6, Obj.cells (InD.c ⟨x3, 0, By.z 8, SigD.nul⟩).toArray 173 (0, 0)) :: (wl ++ ((tb, Obj.cells (payC wa xs.length wc none 0 0 none 0 0).toArray 64 (0, 0)) :: [])))) := (perm_of fun f => by (simp only [List.map_append, List.map_cons, List.map_nil, List.sum_append, List.sum_cons, List.sum_nil] <;> omega))
    rcases h4 : cN 1 s3 with ⟨x4, s4⟩
    have hs4 : s4.1 <:+ l := by have := (agr_N 1).sfx s3; rw [h4] at this; exact this.trans hs3
    refine Run.op1 (callC Tryz.func51 (cuNum 1 (by decide) cb a cc l s3 hs3) hcc hI hp4 h4) (fun _ => ?_)
    dsimp only [List.append_nil, List.cons_append, List.nil_append]
    refine x_ ?_
    refine Run.op1 (ostE (arr := (InD.c ⟨x3, 0, By.z 8, SigD.nul⟩).toArray) (e := 173) (L' := (cb, CuC a cc l s4) :: (wl ++ ((tb, Obj.cells (payC wa xs.length wc none 0 0 none 0 0).toArray 64 (0, 0)) :: []))) (InD.c ⟨x3, x4, By.z 8, SigD.nul⟩).toArray (hL := (perm_of fun f => by (simp only [List.map_append, List.map_cons, List.map_nil, List.sum_append, List.sum_cons, List.sum_nil] <;> omega))) (he := by exact in_w8 _ _ _ _ _) (hf := by rw [List.size_toArray, InD.len]; decide) (h1 := by exact one_i _ _)) (fun _ => ?_)
    refine x_ ?_
    have hp5 : ((b6, Obj.cells (InD.c ⟨x3, x4, By.z 8, SigD.nul⟩).toArray 173 (0, 0)) :: ((cb, CuC a cc l s4) :: (wl ++ ((tb, Obj.cells (payC wa xs.length wc none 0 0 none 0 0).toArray 64 (0, 0)) :: []))) : Hp).Perm (((cb, CuC a cc l s4) :: []) ++ ((b6, Obj.cells (InD.c ⟨x3, x4, By.z 8, SigD.nul⟩).toArray 173 (0, 0)) :: (wl ++ ((tb, Obj.cells (payC wa xs.length wc none 0 0 none 0 0).toArray 64 (0, 0)) :: [])))) := (perm_of fun f => by (simp only [List.map_append, List.map_cons, List.map_nil, List.sum_append, List.sum_cons, List.sum_nil] <;> omega))
    rcases h5 : cB s4 with ⟨x5, s5⟩
    have hs5 : s5.1 <:+ l := by have := (agr_B).sfx s4; rw [h5] at this; exact this.trans hs4
    refine Run.op1 (callC Tryz.func49 (cuHash cb a cc l s4 hs4) hcc hI hp5 h5) (fun _ => ?_)
    dsimp only [List.append_nil, List.cons_append, List.nil_append]
    refine x_ ?_
    refine Run.op1 (ostE (arr := (InD.c ⟨x3, x4, By.z 8, SigD.nul⟩).toArray) (e := 173) (L' := (cb, CuC a cc l s5) :: (wl ++ ((tb, Obj.cells (payC wa xs.length wc none 0 0 none 0 0).toArray 64 (0, 0)) :: []))) (InD.c ⟨x3, x4, x5, SigD.nul⟩).toArray (hL := (perm_of fun f => by (simp only [List.map_append, List.map_cons, List.map_nil, List.sum_append, List.sum_cons, List.sum_nil] <;> omega))) (he := by exact in_w9 _ _ _ _ _) (hf := by rw [List.size_toArray, InD.len]; decide) (h1 := by exact u8s_one _) (hs := by show (u8s x5.1).toArray.size = 8; rw [List.size_toArray, u8s_len, x5.2.1])) (fun _ => ?_)
    refine x_ ?_
    have hp6 : ((b6, Obj.cells (InD.c ⟨x3, x4, x5, SigD.nul⟩).toArray 173 (0, 0)) :: ((cb, CuC a cc l s5) :: (wl ++ ((tb, Obj.cells (payC wa xs.length wc none 0 0 none 0 0).toArray 64 (0, 0)) :: []))) : Hp).Perm (((cb, CuC a cc l s5) :: []) ++ ((b6, Obj.cells (InD.c ⟨x3, x4, x5, SigD.nul⟩).toArray 173 (0, 0)) :: (wl ++ ((tb, Obj.cells (payC wa xs.length wc none 0 0 none 0 0).toArray 64 (0, 0)) :: [])))) := (perm_of fun f => by (simp only [List.map_append, List.map_cons, List.map_nil, List.sum_append, List.sum_cons, List.sum_nil] <;> omega))
    rcases h6 : zSig s5 with ⟨x6, s6⟩
    have hs6 : s6.1 <:+ l := by have := (agr_sig).sfx s5; rw [h6] at this; exact this.trans hs5
    refine Run.op1 (callC Tryz.func161 (cuSig cb a cc l s5 hs5) hcc hI hp6 h6) (fun _ => ?_)
    dsimp only [List.append_nil, List.cons_append, List.nil_append]
    have hx6 : x6.c.toArray.size = 281 := by rw [List.size_toArray, SigD.len]
    refine x_ ?_
    refine Run.op1 (ostE (arr := (InD.c ⟨x3, x4, x5, SigD.nul⟩).toArray) (e := 173) (L' := (cb, CuC a cc l s6) :: (wl ++ ((tb, Obj.cells (payC wa xs.length wc none 0 0 none 0 0).toArray 64 (0, 0)) :: []))) (InD.c ⟨x3, x4, x5, x6⟩).toArray (hL := (perm_of fun f => by (simp only [List.map_append, List.map_cons, List.map_nil, List.sum_append, List.sum_cons, List.sum_nil] <;> omega))) (he := by exact in_w17 _ _ _ _ _) (hf := by rw [List.size_toArray, InD.len]; decide) (h1 := by exact x6.one) (hs := by exact hx6)) (fun _ => ?_)
    have hsz : (InD.c ⟨x3, x4, x5, x6⟩).toArray.size = 298 := by rw [List.size_toArray, InD.len]
    have hrd := hrd2 wa xs.length wc
    refine x_ ?_
    (repeat refine RC.seq ?_); refine RC.draw ((b6, Obj.cells (InD.c ⟨x3, x4, x5, x6⟩).toArray 173 (0, 0)) :: ((tb, Obj.cells (payC wa xs.length wc none 0 0 none 0 0).toArray 64 (0, 0)) :: [])) mixed (N := 11) rfl ?_
    refine dy 0 ?_
    refine dy 1 ?_
    refine dy 2 ?_
    refine dy 3 ?_
    refine dy 4 ?_
    refine dy 5 ?_
    refine DR.c 6 ?_
    refine DOp.op1 rfl (OpTo.new rfl rfl (nbsl (InD.c ⟨x3, x4, x5, x6⟩).toArray (fillS_1 298 _ (InD.c ⟨x3, x4, x5, x6⟩) (InD.len ⟨x3, x4, x5, x6⟩)))) ?_
    intro b14
    refine DR.c 7 (DOp.op1 rfl (OpTo.append (L1 := (b14, Obj.cells (InD.c ⟨x3, x4, x5, x6⟩).toArray 173 (0, 0)) :: ((b6, Obj.cells (InD.c ⟨x3, x4, x5, x6⟩).toArray 173 (0, 0)) :: ((cb, CuC a cc l s6) :: ((tb, Obj.cells (payC wa xs.length wc none 0 0 none 0 0).toArray 64 (0, 0)) :: [])))) tabOk hown (Src.at ⟨b14, 0, none⟩ 1 1 (InD.c ⟨x3, x4, x5, x6⟩) (by rw [InD.len]; rfl) (Rd.rowAll m0)) rfl rfl rfl rfl rfl rfl rfl rfl rfl (perm_of fun f => by (simp only [List.map_append, List.map_cons, List.map_nil, List.sum_append, List.sum_cons, List.sum_nil] <;> omega)) (InD.one ⟨x3, x4, x5, x6⟩) (by unfold maxLen; omega) (by simp only [ti173]; omega)) ?_)
    rintro ⟨⟨v15, l15⟩, h15⟩
    dsimp only at h15 ⊢
    obtain ⟨wa2, wc2, rfl, hwc2⟩ := h15.shape
    refine dy 8 ?_
    refine dy 9 ?_
    refine DR.c 10 ?_
    refine DOp.op1 rfl (ostE (arr := (payC wa xs.length wc none 0 0 none 0 0).toArray) (e := 64) (L' := l15 ++ ((b14, Obj.cells (InD.c ⟨x3, x4, x5, x6⟩).toArray 173 (0, 0)) :: ((b6, Obj.cells (InD.c ⟨x3, x4, x5, x6⟩).toArray 173 (0, 0)) :: ((cb, CuC a cc l s6) :: [])))) (payC wa2 (xs.length + 1) wc2 none 0 0 none 0 0).toArray (hL := (perm_of fun f => by (simp only [List.map_append, List.map_cons, List.map_nil, List.sum_append, List.sum_cons, List.sum_nil] <;> omega))) (he := by rfl) (hf := by rw [List.size_toArray, payC_len]; decide) (h1 := by exact one_s _ _ _)) (fun _ => ?_)
    refine DR.done (by kernel_rfl) ?_
    refine x_ ?_
    exact RQ.upP (xs.length + 1) (xs ++ [⟨x3, x4, x5, x6⟩], s6, (wa2, wc2), l15) (Nat.lt_succ_self _) hk' ⟨cRep_step hrep rfl (show zIn (rk, false) = (⟨x3, x4, x5, x6⟩, s6) from by simp [zIn, cMap, cAnd, h3, h4, h5, h6]), hs6, by rw [List.length_append]; rfl, by rw [rws_app, rws_one]; exact h15⟩ ⟨rfl, rfl, rfl, rfl, trivial⟩ (L1 := ((cb, CuC a cc l s6) :: (l15 ++ ((tb, Obj.cells (payC wa2 (xs.length + 1) wc2 none 0 0 none 0 0).toArray 64 (0, 0)) :: []))) ++ ((b14, Obj.cells (InD.c ⟨x3, x4, x5, x6⟩).toArray 173 (0, 0)) :: ((b6, Obj.cells (InD.c ⟨x3, x4, x5, x6⟩).toArray 173 (0, 0)) :: []))) (perm_of fun f => by (simp only [List.map_append, List.map_cons, List.map_nil, List.sum_append, List.sum_cons, List.sum_nil] <;> omega)) (List.sublist_append_left _ _)
  obtain ⟨⟨x2, s2, ⟨a2, c2⟩, l2⟩, hl2, hs2, o2⟩ := d
  dsimp only at hl2 hs2 o2 ⊢
  have h2 : cRow zIn s = (x2, s2) := by simp [cRow, h1, hl2]
  refine x_ ?_
  have hp7 : ((cb, CuC a cc l s2) :: (l2 ++ ((tb, Obj.cells (payC a2 x2.length c2 none 0 0 none 0 0).toArray 64 (0, 0)) :: [])) : Hp).Perm (((cb, CuC a cc l s2) :: []) ++ (l2 ++ ((tb, Obj.cells (payC a2 x2.length c2 none 0 0 none 0 0).toArray 64 (0, 0)) :: []))) := (perm_of fun f => by (simp only [List.map_append, List.map_cons, List.map_nil, List.sum_append, List.sum_cons, List.sum_nil] <;> omega))
  rcases h7 : cRow zOut s2 with ⟨x7, s7⟩
  have hs7 : s7.1 <:+ l := by have := (agr_out.row).sfx s2; rw [h7] at this; exact this.trans hs2
  refine Run.op1 (callC Tryz.func134 (cuOuts cb a cc l s2 hs2) hcc hI hp7 h7) (fun y7 => ?_)
  dsimp only [List.append_nil, List.cons_append, List.nil_append]
  obtain ⟨⟨⟨a7, c7⟩, l7⟩, o7⟩ := y7
  dsimp only at o7 ⊢
  refine x_ ?_
  refine Run.op1 (ostE (arr := (payC a2 x2.length c2 none 0 0 none 0 0).toArray) (e := 64) (L' := (cb, CuC a cc l s7) :: (l7 ++ (l2 ++ ([])))) (payC a2 x2.length c2 a7 x7.length c7 none 0 0).toArray (hL := (perm_of fun f => by (simp only [List.map_append, List.map_cons, List.map_nil, List.sum_append, List.sum_cons, List.sum_nil] <;> omega))) (he := by rfl) (hf := by rw [List.size_toArray, payC_len]; decide) (h1 := by exact one_s _ _ _)) (fun _ => ?_)
  refine x_ ?_
  have hp8 : ((tb, Obj.cells (payC a2 x2.length c2 a7 x7.length c7 none 0 0).toArray 64 (0, 0)) :: ((cb, CuC a cc l s7) :: (l7 ++ (l2 ++ ([])))) : Hp).Perm (((cb, CuC a cc l s7) :: []) ++ ((tb, Obj.cells (payC a2 x2.length c2 a7 x7.length c7 none 0 0).toArray 64 (0, 0)) :: (l7 ++ (l2 ++ ([]))))) := (perm_of fun f => by (simp only [List.map_append, List.map_cons, List.map_nil, List.sum_append, List.sum_cons, List.sum_nil] <;> omega))
  rcases h8 : cN 1 s7 with ⟨x8, s8⟩
  have hs8 : s8.1 <:+ l := by have := (agr_N 1).sfx s7; rw [h8] at this; exact this.trans hs7
  refine Run.op1 (callC Tryz.func51 (cuNum 1 (by decide) cb a cc l s7 hs7) hcc hI hp8 h8) (fun _ => ?_)
  dsimp only [List.append_nil, List.cons_append, List.nil_append]
  have hrd4 : ∀ (q : Option Addr) (m c : Nat), rdAt ti51 (payC a2 x2.length c2 a7 x7.length c7 q m c).toArray 4 = some (.slice q m c) := fun q m c => rfl
  obtain ⟨n8, rfl, hn8⟩ := cN_nat h8 (fun y hy => hbl y (hs7.mem hy))
  refine x_ ?_
  refine RC.midBY (Y := {d : List FoD × CuS × (Option Addr × Nat) × Hp // cRep zFo n8 s8 = (d.1, d.2.1) ∧ d.2.1.1 <:+ l ∧ Own 177 11 (.slice d.2.2.1.1 d.1.length d.2.2.1.2) d.1.length (rws FoD.c d.1) d.2.2.2}) (fun d => [(1, .pointer (some ⟨tb, 0, none⟩)), (0, .pointer (some ⟨cb, 0, none⟩))]) (fun d => (cb, CuC a cc l d.1.2.1) :: (d.1.2.2.2 ++ ((tb, Obj.cells (payC a2 x2.length c2 a7 x7.length c7 d.1.2.2.1.1 d.1.1.length d.1.2.2.1.2).toArray 64 (0, 0)) :: (l7 ++ (l2 ++ ([])))))) ?_ (fun d => ?_)
  · refine RC.up n8 (D := List FoD × CuS × (Option Addr × Nat) × Hp) (fun k d => cRep zFo k s8 = (d.1, d.2.1) ∧ d.2.1.1 <:+ l ∧ d.1.length = k ∧ Own 177 11 (.slice d.2.2.1.1 k d.2.2.1.2) k (rws FoD.c d.1) d.2.2.2) (fun k d => [(7, .int .i64 k), (4, .int .i64 n8), (1, .pointer (some ⟨tb, 0, none⟩)), (0, .pointer (some ⟨cb, 0, none⟩))]) (fun k d => (cb, CuC a cc l d.2.1) :: (d.2.2.2 ++ ((tb, Obj.cells (payC a2 x2.length c2 a7 x7.length c7 d.2.2.1.1 k d.2.2.1.2).toArray 64 (0, 0)) :: (l7 ++ (l2 ++ ([])))))) 0 ([], s8, (none, 0), []) (Nat.zero_le _) ⟨rfl, hs8, rfl, Own.nil⟩ ⟨rfl, rfl, rfl, rfl, trivial⟩ (List.Sublist.refl _) ?_
    rintro k ⟨xs, ⟨rk, bk⟩, ⟨wa, wc⟩, wl⟩ hk ⟨hrep, hsk, hxl, hown⟩
    dsimp only at hrep hsk hxl hown ⊢
    subst hxl
    by_cases hk' : xs.length < n8
    rotate_left
    · obtain rfl : n8 = xs.length := by omega
      refine x_ ?_
      exact RQ.midB ⟨(xs, (rk, bk), (wa, wc), wl), hrep, hsk, hown⟩ ⟨rfl, rfl, trivial⟩ (List.Perm.refl _) (List.Sublist.refl _)
    cases bk
    rotate_left
    · refine x_ ?_
      exact RQ.midB ⟨(xs, (rk, true), (wa, wc), wl), (cRep_bad (by rw [hrep]) n8 (by omega)).trans hrep, hsk, hown⟩ ⟨rfl, rfl, trivial⟩ (List.Perm.refl _) (List.Sublist.refl _)
    refine x_ ?_
    have hp10 : ((cb, CuC a cc l (rk, false)) :: (wl ++ ((tb, Obj.cells (payC a2 x2.length c2 a7 x7.length c7 wa xs.length wc).toArray 64 (0, 0)) :: (l7 ++ (l2 ++ ([]))))) : Hp).Perm (((cb, CuC a cc l (rk, false)) :: []) ++ (wl ++ ((tb, Obj.cells (payC a2 x2.length c2 a7 x7.length c7 wa xs.length wc).toArray 64 (0, 0)) :: (l7 ++ (l2 ++ ([])))))) := (perm_of fun f => by (simp only [List.map_append, List.map_cons, List.map_nil, List.sum_append, List.sum_cons, List.sum_nil] <;> omega))
    rcases h10 : cN 1 (rk, false) with ⟨x10, s10⟩
    have hs10 : s10.1 <:+ l := by have := (agr_N 1).sfx (rk, false); rw [h10] at this; exact this.trans hsk
    refine Run.op1 (callC Tryz.func51 (cuNum 1 (by decide) cb a cc l (rk, false) hsk) hcc hI hp10 h10) (fun _ => ?_)
    dsimp only [List.append_nil, List.cons_append, List.nil_append]
    refine x_ ?_
    refine Run.a (vbs (FoD.c ⟨x10, 0, By.z 8, 0⟩).toArray) ?_
    refine x_ ?_
    refine Run.nw nal ?_
    intro b6
    refine x_ ?_
    refine Run.op1 (osa (arr := ti177.zero.cells) (e := 177) (L' := (cb, CuC a cc l s10) :: (wl ++ ((tb, Obj.cells (payC a2 x2.length c2 a7 x7.length c7 wa xs.length wc).toArray 64 (0, 0)) :: (l7 ++ (l2 ++ ([])))))) (FoD.c ⟨x10, 0, By.z 8, 0⟩).toArray (FoD.one _) (hL := (perm_of fun f => by (simp only [List.map_append, List.map_cons, List.map_nil, List.sum_append, List.sum_cons, List.sum_nil] <;> omega)))) (fun _ => ?_)
    refine x_ ?_
    have hp11 : ((b6, Obj.cells (FoD.c ⟨x10, 0, By.z 8, 0⟩).toArray 177 (0, 0)) :: ((cb, CuC a cc l s10) :: (wl ++ ((tb, Obj.cells (payC a2 x2.length c2 a7 x7.length c7 wa xs.length wc).toArray 64 (0, 0)) :: (l7 ++ (l2 ++ ([])))))) : Hp).Perm (((cb, CuC a cc l s10) :: []) ++ ((b6, Obj.cells (FoD.c ⟨x10, 0, By.z 8, 0⟩).toArray 177 (0, 0)) :: (wl ++ ((tb, Obj.cells (payC a2 x2.length c2 a7 x7.length c7 wa xs.length wc).toArray 64 (0, 0)) :: (l7 ++ (l2 ++ ([]))))))) := (perm_of fun f => by (simp only [List.map_append, List.map_cons, List.map_nil, List.sum_append, List.sum_cons, List.sum_nil] <;> omega))
    rcases h11 : cN 2 s10 with ⟨x11, s11⟩
    have hs11 : s11.1 <:+ l := by have := (agr_N 2).sfx s10; rw [h11] at this; exact this.trans hs10
    refine Run.op1 (callC Tryz.func51 (cuNum 2 (by decide) cb a cc l s10 hs10) hcc hI hp11 h11) (fun _ => ?_)
    dsimp only [List.append_nil, List.cons_append, List.nil_append]
    refine x_ ?_
    refine Run.op1 (ostE (arr := (FoD.c ⟨x10, 0, By.z 8, 0⟩).toArray) (e := 177) (L' := (cb, CuC a cc l s11) :: (wl ++ ((tb, Obj.cells (payC a2 x2.length c2 a7 x7.length c7 wa xs.length wc).toArray 64 (0, 0)) :: (l7 ++ (l2 ++ ([])))))) (FoD.c ⟨x10, x11, By.z 8, 0⟩).toArray (hL := (perm_of fun f => by (simp only [List.map_append, List.map_cons, List.map_nil, List.sum_append, List.sum_cons, List.sum_nil] <;> omega))) (he := by exact fo_w1 _ _ _ _ _) (hf := by rw [List.size_toArray, FoD.len]; decide) (h1 := by exact one_i _ _)) (fun _ => ?_)
    refine x_ ?_
    have hp12 : ((b6, Obj.cells (FoD.c ⟨x10, x11, By.z 8, 0⟩).toArray 177 (0, 0)) :: ((cb, CuC a cc l s11) :: (wl ++ ((tb, Obj.cells (payC a2 x2.length c2 a7 x7.length c7 wa xs.length wc).toArray 64 (0, 0)) :: (l7 ++ (l2 ++ ([])))))) : Hp).Perm (((cb, CuC a cc l s11) :: []) ++ ((b6, Obj.cells (FoD.c ⟨x10, x11, By.z 8, 0⟩).toArray 177 (0, 0)) :: (wl ++ ((tb, Obj.cells (payC a2 x2.length c2 a7 x7.length c7 wa xs.length wc).toArray 64 (0, 0)) :: (l7 ++ (l2 ++ ([]))))))) := (perm_of fun f => by (simp only [List.map_append, List.map_cons, List.map_nil, List.sum_append, List.sum_cons, List.sum_nil] <;> omega))
    rcases h12 : cB s11 with ⟨x12, s12⟩
    have hs12 : s12.1 <:+ l := by have := (agr_B).sfx s11; rw [h12] at this; exact this.trans hs11
    refine Run.op1 (callC Tryz.func49 (cuHash cb a cc l s11 hs11) hcc hI hp12 h12) (fun _ => ?_)
    dsimp only [List.append_nil, List.cons_append, List.nil_append]
    refine x_ ?_
    refine Run.op1 (ostE (arr := (FoD.c ⟨x10, x11, By.z 8, 0⟩).toArray) (e := 177) (L' := (cb, CuC a cc l s12) :: (wl ++ ((tb, Obj.cells (payC a2 x2.length c2 a7 x7.length c7 wa xs.length wc).toArray 64 (0, 0)) :: (l7 ++ (l2 ++ ([])))))) (FoD.c ⟨x10, x11, x12, 0⟩).toArray (hL := (perm_of fun f => by (simp only [List.map_append, List.map_cons, List.map_nil, List.sum_append, List.sum_cons, List.sum_nil] <;> omega))) (he := by exact fo_w2 _ _ _ _ _) (hf := by rw [List.size_toArray, FoD.len]; decide) (h1 := by exact u8s_one _) (hs := by show (u8s x12.1).toArray.size = 8; rw [List.size_toArray, u8s_len, x12.2.1])) (fun _ => ?_)
    refine x_ ?_
    have hp13 : ((b6, Obj.cells (FoD.c ⟨x10, x11, x12, 0⟩).toArray 177 (0, 0)) :: ((cb, CuC a cc l s12) :: (wl ++ ((tb, Obj.cells (payC a2 x2.length c2 a7 x7.length c7 wa xs.length wc).toArray 64 (0, 0)) :: (l7 ++ (l2 ++ ([])))))) : Hp).Perm (((cb, CuC a cc l s12) :: []) ++ ((b6, Obj.cells (FoD.c ⟨x10, x11, x12, 0⟩).toArray 177 (0, 0)) :: (wl ++ ((tb, Obj.cells (payC a2 x2.length c2 a7 x7.length c7 wa xs.length wc).toArray 64 (0, 0)) :: (l7 ++ (l2 ++ ([]))))))) := (perm_of fun f => by (simp only [List.map_append, List.map_cons, List.map_nil, List.sum_append, List.sum_cons, List.sum_nil] <;> omega))
    rcases h13 : cN 7 s12 with ⟨x13, s13⟩
    have hs13 : s13.1 <:+ l := by have := (agr_N 7).sfx s12; rw [h13] at this; exact this.trans hs12
    refine Run.op1 (callC Tryz.func51 (cuNum 7 (by decide) cb a cc l s12 hs12) hcc hI hp13 h13) (fun _ => ?_)
    dsimp only [List.append_nil, List.cons_append, List.nil_append]
    refine x_ ?_
    refine Run.op1 (ostE (arr := (FoD.c ⟨x10, x11, x12, 0⟩).toArray) (e := 177) (L' := (cb, CuC a cc l s13) :: (wl ++ ((tb, Obj.cells (payC a2 x2.length c2 a7 x7.length c7 wa xs.length wc).toArray 64 (0, 0)) :: (l7 ++ (l2 ++ ([])))))) (FoD.c ⟨x10, x11, x12, x13⟩).toArray (hL := (perm_of fun f => by (simp only [List.map_append, List.map_cons, List.map_nil, List.sum_append, List.sum_cons, List.sum_nil] <;> omega))) (he := by exact fo_w10 _ _ _ _ _) (hf := by rw [List.size_toArray, FoD.len]; decide) (h1 := by exact one_i _ _)) (fun _ => ?_)
    have hsz : (FoD.c ⟨x10, x11, x12, x13⟩).toArray.size = 11 := by rw [List.size_toArray, FoD.len]
    have hrd := hrd4 wa xs.length wc
    refine x_ ?_
    (repeat refine RC.seq ?_); refine RC.draw ((b6, Obj.cells (FoD.c ⟨x10, x11, x12, x13⟩).toArray 177 (0, 0)) :: ((tb, Obj.cells (payC a2 x2.length c2 a7 x7.length c7 wa xs.length wc).toArray 64 (0, 0)) :: [])) mixed (N := 11) rfl ?_
    refine dy 0 ?_
    refine dy 1 ?_
    refine dy 2 ?_
    refine dy 3 ?_
    refine dy 4 ?_
    refine dy 5 ?_
    refine DR.c 6 ?_
    refine DOp.op1 rfl (OpTo.new rfl rfl (nbsl (FoD.c ⟨x10, x11, x12, x13⟩).toArray (fillS_1 11 _ (FoD.c ⟨x10, x11, x12, x13⟩) (FoD.len ⟨x10, x11, x12, x13⟩)))) ?_
    intro b14
    refine DR.c 7 (DOp.op1 rfl (OpTo.append (L1 := (b14, Obj.cells (FoD.c ⟨x10, x11, x12, x13⟩).toArray 177 (0, 0)) :: ((b6, Obj.cells (FoD.c ⟨x10, x11, x12, x13⟩).toArray 177 (0, 0)) :: ((cb, CuC a cc l s13) :: ((tb, Obj.cells (payC a2 x2.length c2 a7 x7.length c7 wa xs.length wc).toArray 64 (0, 0)) :: (l7 ++ (l2 ++ ([]))))))) tabOk hown (Src.at ⟨b14, 0, none⟩ 1 1 (FoD.c ⟨x10, x11, x12, x13⟩) (by rw [FoD.len]; rfl) (Rd.rowAll m0)) rfl rfl rfl rfl rfl rfl rfl rfl rfl (perm_of fun f => by (simp only [List.map_append, List.map_cons, List.map_nil, List.sum_append, List.sum_cons, List.sum_nil] <;> omega)) (FoD.one ⟨x10, x11, x12, x13⟩) (by unfold maxLen; omega) (by simp only [ti177]; omega)) ?_)
    rintro ⟨⟨v15, l15⟩, h15⟩
    dsimp only at h15 ⊢
    obtain ⟨wa2, wc2, rfl, hwc2⟩ := h15.shape
    refine dy 8 ?_
    refine dy 9 ?_
    refine DR.c 10 ?_
    refine DOp.op1 rfl (ostE (arr := (payC a2 x2.length c2 a7 x7.length c7 wa xs.length wc).toArray) (e := 64) (L' := l15 ++ ((b14, Obj.cells (FoD.c ⟨x10, x11, x12, x13⟩).toArray 177 (0, 0)) :: ((b6, Obj.cells (FoD.c ⟨x10, x11, x12, x13⟩).toArray 177 (0, 0)) :: ((cb, CuC a cc l s13) :: (l7 ++ (l2 ++ ([]))))))) (payC a2 x2.length c2 a7 x7.length c7 wa2 (xs.length + 1) wc2).toArray (hL := (perm_of fun f => by (simp only [List.map_append, List.map_cons, List.map_nil, List.sum_append, List.sum_cons, List.sum_nil] <;> omega))) (he := by rfl) (hf := by rw [List.size_toArray, payC_len]; decide) (h1 := by exact one_s _ _ _)) (fun _ => ?_)
    refine DR.done (by kernel_rfl) ?_
    refine x_ ?_
    exact RQ.upP (xs.length + 1) (xs ++ [⟨x10, x11, x12, x13⟩], s13, (wa2, wc2), l15) (Nat.lt_succ_self _) hk' ⟨cRep_step hrep rfl (show zFo (rk, false) = (⟨x10, x11, x12, x13⟩, s13) from by simp [zFo, cMap, cAnd, h10, h11, h12, h13]), hs13, by rw [List.length_append]; rfl, by rw [rws_app, rws_one]; exact h15⟩ ⟨rfl, rfl, rfl, rfl, trivial⟩ (L1 := ((cb, CuC a cc l s13) :: (l15 ++ ((tb, Obj.cells (payC a2 x2.length c2 a7 x7.length c7 wa2 (xs.length + 1) wc2).toArray 64 (0, 0)) :: (l7 ++ (l2 ++ ([])))))) ++ ((b14, Obj.cells (FoD.c ⟨x10, x11, x12, x13⟩).toArray 177 (0, 0)) :: ((b6, Obj.cells (FoD.c ⟨x10, x11, x12, x13⟩).toArray 177 (0, 0)) :: []))) (perm_of fun f => by (simp only [List.map_append, List.map_cons, List.map_nil, List.sum_append, List.sum_cons, List.sum_nil] <;> omega)) (List.sublist_append_left _ _)
  obtain ⟨⟨x9, s9, ⟨a9, c9⟩, l9⟩, hl9, hs9, o9⟩ := d
  dsimp only at hl9 hs9 o9 ⊢
  have h9 : cRow zFo s7 = (x9, s9) := by simp [cRow, h8, hl9]
  exact RQ.end0 rfl fun w' hm => CurC.fin (Ex := [(tb, Obj.cells (payC none 0 0 none 0 0 none 0 0).toArray 64 (0, 0))]) (Y := PayY) (V := fun _ _ => .tuple #[]) (L' := fun t y => (tb, Obj.cells (payC y.1.1.1.1 t.is.length y.1.1.1.2 y.1.1.2.1.1 t.os.length y.1.1.2.1.2 y.1.1.2.2.1 t.fs.length y.1.1.2.2.2).toArray 64 (0, 0)) :: (y.1.2.1 ++ (y.1.2.2.1 ++ y.1.2.2.2))) (show zPay s = (tPay x2 x7 x9, s9) from by simp [zPay, cMap, cAnd, h2, h7, h9]) ⟨(((a2, c2), (a7, c7), (a9, c9)), (l2, l7, l9)), o2, o7, o9⟩ hm (Lr := []) (show ((cb, CuC a cc l s9) :: (l9 ++ ((tb, Obj.cells (payC a2 x2.length c2 a7 x7.length c7 a9 x9.length c9).toArray 64 (0, 0)) :: (l7 ++ (l2 ++ ([]))))) : Hp).Perm ((cb, CuC a cc l s9) :: ((tb, Obj.cells (payC a2 x2.length c2 a7 x7.length c7 a9 x9.length c9).toArray 64 (0, 0)) :: ((l2 ++ (l7 ++ l9)) ++ []))) from (perm_of fun f => by (simp only [List.map_append, List.map_cons, List.map_nil, List.sum_append, List.sum_cons, List.sum_nil] <;> omega)))
theorem cuTx (cb : Nat) (a : Option Addr) (cc : Nat) (l : List Nat) (s : CuS) (hs : s.1 <:+ l) : CurC 91 [.pointer (some ⟨cb, 0, none⟩)] cb a cc l s [] (zTx s) (TxY) (fun t y => .agg (txC t y.1.1).toArray) (fun _ y => y.1.2) := by
  intro w hcc hI hw hnd
  refine enter Tryz.func91 rfl (Mem.init (S0 := ((cb, CuC a cc l s) :: []).map (·.1)) hw (fun p hp => List.mem_map_of_mem hp) hnd) rfl ?_
  have hbl := hI.bt
  refine x_ ?_
  refine Run.nw nal ?_
  intro b2
  refine x_ ?_
  have hp1 : ((b2, Obj.cells ti64.zero.cells 64 (0, 0)) :: ((cb, CuC a cc l s) :: []) : Hp).Perm (((cb, CuC a cc l s) :: []) ++ ((b2, Obj.cells ti64.zero.cells 64 (0, 0)) :: [])) := (perm_of fun f => by (simp only [List.map_append, List.map_cons, List.map_nil, List.sum_append, List.sum_cons, List.sum_nil] <;> omega))
  rcases h1 : cN 1 s with ⟨x1, s1⟩
  have hs1 : s1.1 <:+ l := by have := (agr_N 1).sfx s; rw [h1] at this; exact this.trans hs
  refine Run.op1 (callC Tryz.func51 (cuNum 1 (by decide) cb a cc l s hs) hcc hI hp1 h1) (fun _ => ?_)
  dsimp only [List.append_nil, List.cons_append, List.nil_append]
  refine x_ ?_
  refine Run.a (vbs (txC (TxD.nul x1) TxV.z).toArray) ?_
  refine x_ ?_
  refine Run.nw nal ?_
  intro b3
  refine x_ ?_
  refine Run.op1 (osa (arr := ti64.zero.cells) (e := 64) (L' := (cb, CuC a cc l s1) :: ((b2, Obj.cells ti64.zero.cells 64 (0, 0)) :: [])) (txC (TxD.nul x1) TxV.z).toArray (txC_one _ _) (hL := (perm_of fun f => by (simp only [List.map_append, List.map_cons, List.map_nil, List.sum_append, List.sum_cons, List.sum_nil] <;> omega)))) (fun _ => ?_)
  by_cases hk : x1 = 1
  · subst hk
    refine x_ ?_
    have hp2 : ((b3, Obj.cells (txC (TxD.nul 1) TxV.z).toArray 64 (0, 0)) :: ((cb, CuC a cc l s1) :: ((b2, Obj.cells ti64.zero.cells 64 (0, 0)) :: [])) : Hp).Perm (((cb, CuC a cc l s1) :: []) ++ ((b3, Obj.cells (txC (TxD.nul 1) TxV.z).toArray 64 (0, 0)) :: ((b2, Obj.cells ti64.zero.cells 64 (0, 0)) :: []))) := (perm_of fun f => by (simp only [List.map_append, List.map_cons, List.map_nil, List.sum_append, List.sum_cons, List.sum_nil] <;> omega))
    rcases h2 : cN 4 s1 with ⟨x2, s2⟩
    have hs2 : s2.1 <:+ l := by have := (agr_N 4).sfx s1; rw [h2] at this; exact this.trans hs1
    refine Run.op1 (callC Tryz.func51 (cuNum 4 (by decide) cb a cc l s1 hs1) hcc hI hp2 h2) (fun _ => ?_)
    dsimp only [List.append_nil, List.cons_append, List.nil_append]
    refine x_ ?_
    refine Run.op1 (ostE (arr := (txC (TxD.nul 1) TxV.z).toArray) (e := 64) (L' := (cb, CuC a cc l s2) :: ((b2, Obj.cells ti64.zero.cells 64 (0, 0)) :: [])) (txC { TxD.nul 1 with ht := x2 } TxV.z).toArray (hL := (perm_of fun f => by (simp only [List.map_append, List.map_cons, List.map_nil, List.sum_append, List.sum_cons, List.sum_nil] <;> omega))) (he := by rfl) (hf := by rw [List.size_toArray, txC_len]; decide) (h1 := by exact one_i _ _)) (fun _ => ?_)
    refine x_ ?_
    have hp3 : ((b3, Obj.cells (txC { TxD.nul 1 with ht := x2 } TxV.z).toArray 64 (0, 0)) :: ((cb, CuC a cc l s2) :: ((b2, Obj.cells ti64.zero.cells 64 (0, 0)) :: [])) : Hp).Perm (((cb, CuC a cc l s2) :: []) ++ ((b3, Obj.cells (txC { TxD.nul 1 with ht := x2 } TxV.z).toArray 64 (0, 0)) :: ((b2, Obj.cells ti64.zero.cells 64 (0, 0)) :: []))) := (perm_of fun f => by (simp only [List.map_append, List.map_cons, List.map_nil, List.sum_append, List.sum_cons, List.sum_nil] <;> omega))
    rcases h3 : cRow zOut s2 with ⟨x3, s3⟩
    have hs3 : s3.1 <:+ l := by have := (agr_out.row).sfx s2; rw [h3] at this; exact this.trans hs2
    refine Run.op1 (callC Tryz.func134 (cuOuts cb a cc l s2 hs2) hcc hI hp3 h3) (fun y3 => ?_)
    dsimp only [List.append_nil, List.cons_append, List.nil_append]
    obtain ⟨⟨⟨a3, c3⟩, l3⟩, o3⟩ := y3
    dsimp only at o3 ⊢
    refine x_ ?_
    refine Run.op1 (ostE (arr := (txC { TxD.nul 1 with ht := x2 } TxV.z).toArray) (e := 64) (L' := (cb, CuC a cc l s3) :: (l3 ++ ((b2, Obj.cells ti64.zero.cells 64 (0, 0)) :: []))) (txC (tCoin x2 x3) (TxV.z.mO a3 c3)).toArray (hL := (perm_of fun f => by (simp only [List.map_append, List.map_cons, List.map_nil, List.sum_append, List.sum_cons, List.sum_nil] <;> omega))) (he := by rfl) (hf := by rw [List.size_toArray, txC_len]; decide) (h1 := by exact one_s _ _ _)) (fun _ => ?_)
    have hsz : (txC (tCoin x2 x3) (TxV.z.mO a3 c3)).toArray.size = 170 := by rw [List.size_toArray, txC_len]
    refine x_ ?_
    refine Run.op1 (osa (arr := ti64.zero.cells) (e := 64) (L' := (b3, Obj.cells (txC (tCoin x2 x3) (TxV.z.mO a3 c3)).toArray 64 (0, 0)) :: ((cb, CuC a cc l s3) :: (l3 ++ ([])))) (txC (tCoin x2 x3) (TxV.z.mO a3 c3)).toArray (txC_one _ _) (hL := (perm_of fun f => by (simp only [List.map_append, List.map_cons, List.map_nil, List.sum_append, List.sum_cons, List.sum_nil] <;> omega))) (hs := by exact hsz)) (fun _ => ?_)
    refine x_ ?_
    exact RQ.ret1 rfl (Res.cellAll tabOk rfl rfl rfl m0 hsz) fun w' hm => CurC.fin (Ex := []) (Y := TxY) (V := fun t y => .agg (txC t y.1.1).toArray) (L' := fun _ y => y.1.2) (show zTx s = ((tCoin x2 x3), s3) from by simp [zTx, zCoin, cMap, cAnd, h1, h2, h3]) ⟨((TxV.z.mO a3 c3), l3), fun w hw => ⟨.nil, o3.srcW hw, .nil, .nil, .nil, .nil⟩⟩ hm (Lr := (b2, Obj.cells (txC (tCoin x2 x3) (TxV.z.mO a3 c3)).toArray 64 (0, 0)) :: ((b3, Obj.cells (txC (tCoin x2 x3) (TxV.z.mO a3 c3)).toArray 64 (0, 0)) :: [])) (by dsimp only; exact (perm_of fun f => by (simp only [List.map_append, List.map_cons, List.map_nil, List.sum_append, List.sum_cons, List.sum_nil] <;> omega)))
  have hk1 := hk; clear hk
  by_cases hk : x1 = 2
  · subst hk
    refine x_ ?_
    have hp2 : ((b3, Obj.cells (payC none 0 0 none 0 0 none 0 0).toArray 64 (0, 0)) :: ((cb, CuC a cc l s1) :: ((b2, Obj.cells ti64.zero.cells 64 (0, 0)) :: [])) : Hp).Perm (((cb, CuC a cc l s1) :: [(b3, Obj.cells (payC none 0 0 none 0 0 none 0 0).toArray 64 (0, 0))]) ++ ((b2, Obj.cells ti64.zero.cells 64 (0, 0)) :: [])) := (perm_of fun f => by (simp only [List.map_append, List.map_cons, List.map_nil, List.sum_append, List.sum_cons, List.sum_nil] <;> omega))
    rcases h2 : zPay s1 with ⟨x2, s2⟩
    have hs2 : s2.1 <:+ l := by have := agr_pay.sfx s1; rw [h2] at this; exact this.trans hs1
    obtain ⟨is, os, fs, rfl⟩ : ∃ is os fs, x2 = tPay is os fs := ⟨_, _, _, (congrArg Prod.fst h2).symm⟩
    refine Run.op1 (callC Tryz.func135 (cuPay b3 cb a cc l s1 hs1) hcc hI hp2 h2) (fun y2 => ?_)
    obtain ⟨⟨⟨⟨a2, c2⟩, ⟨a3, c3⟩, ⟨a4, c4⟩⟩, ⟨l2, l3, l4⟩⟩, o2, o3, o4⟩ := y2
    dsimp only [List.append_nil, List.cons_append, List.nil_append] at o2 o3 o4 ⊢
    refine runPerm (L' := (b3, Obj.cells (txC (tPay is os fs) (((TxV.z.mI a2 c2).mO a3 c3).mF a4 c4)).toArray 64 (0, 0)) :: ((cb, CuC a cc l s2) :: (l2 ++ (l3 ++ (l4 ++ ((b2, Obj.cells ti64.zero.cells 64 (0, 0)) :: [])))))) (show ((cb, CuC a cc l s2) :: ((b3, Obj.cells (payC a2 is.length c2 a3 os.length c3 a4 fs.length c4).toArray 64 (0, 0)) :: ((l2 ++ (l3 ++ l4)) ++ ((b2, Obj.cells ti64.zero.cells 64 (0, 0)) :: []))) : Hp).Perm ((b3, Obj.cells (payC a2 is.length c2 a3 os.length c3 a4 fs.length c4).toArray 64 (0, 0)) :: ((cb, CuC a cc l s2) :: (l2 ++ (l3 ++ (l4 ++ ((b2, Obj.cells ti64.zero.cells 64 (0, 0)) :: [])))))) from (perm_of fun f => by (simp only [List.map_append, List.map_cons, List.map_nil, List.sum_append, List.sum_cons, List.sum_nil] <;> omega))) ?_
    have hsz : (txC (tPay is os fs) (((TxV.z.mI a2 c2).mO a3 c3).mF a4 c4)).toArray.size = 170 := by rw [List.size_toArray, txC_len]
    refine x_ ?_
    refine Run.op1 (osa (arr := ti64.zero.cells) (e := 64) (L' := (b3, Obj.cells (txC (tPay is os fs) (((TxV.z.mI a2 c2).mO a3 c3).mF a4 c4)).toArray 64 (0, 0)) :: ((cb, CuC a cc l s2) :: (l2 ++ (l3 ++ (l4 ++ ([])))))) (txC (tPay is os fs) (((TxV.z.mI a2 c2).mO a3 c3).mF a4 c4)).toArray (txC_one _ _) (hL := (perm_of fun f => by (simp only [List.map_append, List.map_cons, List.map_nil, List.sum_append, List.sum_cons, List.sum_nil] <;> omega))) (hs := by exact hsz)) (fun _ => ?_)
    refine x_ ?_
    exact RQ.ret1 rfl (Res.cellAll tabOk rfl rfl rfl m0 hsz) fun w' hm => CurC.fin (Ex := []) (Y := TxY) (V := fun t y => .agg (txC t y.1.1).toArray) (L' := fun _ y => y.1.2) (show zTx s = ((tPay is os fs), s2) from by simp [zTx, zCoin, cMap, cAnd, h1, h2]) ⟨((((TxV.z.mI a2 c2).mO a3 c3).mF a4 c4), l2 ++ (l3 ++ (l4))), fun w hw => ⟨o2.srcW (hw.sub fun q hq => List.mem_append_left _ hq), o3.srcW (hw.sub fun q hq => List.mem_append_right _ (List.mem_append_left _ hq)), o4.srcW (hw.sub fun q hq => List.mem_append_right _ (List.mem_append_right _ hq)), .nil, .nil, .nil⟩⟩ hm (Lr := (b2, Obj.cells (txC (tPay is os fs) (((TxV.z.mI a2 c2).mO a3 c3).mF a4 c4)).toArray 64 (0, 0)) :: ((b3, Obj.cells (txC (tPay is os fs) (((TxV.z.mI a2 c2).mO a3 c3).mF a4 c4)).toArray 64 (0, 0)) :: [])) (by dsimp only; exact (perm_of fun f => by (simp only [List.map_append, List.map_cons, List.map_nil, List.sum_append, List.sum_cons, List.sum_nil] <;> omega)))
  have hk2 := hk; clear hk
  by_cases hk : x1 = 3
  · subst hk
    refine x_ ?_
    have hp2 : ((b3, Obj.cells (txC (TxD.nul 3) TxV.z).toArray 64 (0, 0)) :: ((cb, CuC a cc l s1) :: ((b2, Obj.cells ti64.zero.cells 64 (0, 0)) :: [])) : Hp).Perm (((cb, CuC a cc l s1) :: []) ++ ((b3, Obj.cells (txC (TxD.nul 3) TxV.z).toArray 64 (0, 0)) :: ((b2, Obj.cells ti64.zero.cells 64 (0, 0)) :: []))) := (perm_of fun f => by (simp only [List.map_append, List.map_cons, List.map_nil, List.sum_append, List.sum_cons, List.sum_nil] <;> omega))
    rcases h2 : zPr s1 with ⟨x2, s2⟩
    have hs2 : s2.1 <:+ l := by have := (agr_pr).sfx s1; rw [h2] at this; exact this.trans hs1
    refine Run.op1 (callC Tryz.func136 (cuPr cb a cc l s1 hs1) hcc hI hp2 h2) (fun y2 => ?_)
    dsimp only [List.append_nil, List.cons_append, List.nil_append]
    obtain ⟨⟨⟨a2, c2⟩, l2⟩, o2⟩ := y2
    dsimp only at o2 ⊢
    refine x_ ?_
    refine Run.op1 (ostE (arr := (txC (TxD.nul 3) TxV.z).toArray) (e := 64) (L' := (cb, CuC a cc l s2) :: (l2 ++ ((b2, Obj.cells ti64.zero.cells 64 (0, 0)) :: []))) (txC (tCreate x2) (TxV.z.mK a2 c2)).toArray (hL := (perm_of fun f => by (simp only [List.map_append, List.map_cons, List.map_nil, List.sum_append, List.sum_cons, List.sum_nil] <;> omega))) (he := by rfl) (hf := by rw [List.size_toArray, txC_len]; decide) (h1 := by exact prC_one _ _ _ _)) (fun _ => ?_)
    have hsz : (txC (tCreate x2) (TxV.z.mK a2 c2)).toArray.size = 170 := by rw [List.size_toArray, txC_len]
    refine x_ ?_
    refine Run.op1 (osa (arr := ti64.zero.cells) (e := 64) (L' := (b3, Obj.cells (txC (tCreate x2) (TxV.z.mK a2 c2)).toArray 64 (0, 0)) :: ((cb, CuC a cc l s2) :: (l2 ++ ([])))) (txC (tCreate x2) (TxV.z.mK a2 c2)).toArray (txC_one _ _) (hL := (perm_of fun f => by (simp only [List.map_append, List.map_cons, List.map_nil, List.sum_append, List.sum_cons, List.sum_nil] <;> omega))) (hs := by exact hsz)) (fun _ => ?_)
    refine x_ ?_
    exact RQ.ret1 rfl (Res.cellAll tabOk rfl rfl rfl m0 hsz) fun w' hm => CurC.fin (Ex := []) (Y := TxY) (V := fun t y => .agg (txC t y.1.1).toArray) (L' := fun _ y => y.1.2) (show zTx s = ((tCreate x2), s2) from by simp [zTx, zCoin, cMap, cAnd, h1, h2]) ⟨((TxV.z.mK a2 c2), l2), fun w hw => ⟨.nil, .nil, .nil, at_ks (o2.srcW hw), .nil, .nil⟩⟩ hm (Lr := (b2, Obj.cells (txC (tCreate x2) (TxV.z.mK a2 c2)).toArray 64 (0, 0)) :: ((b3, Obj.cells (txC (tCreate x2) (TxV.z.mK a2 c2)).toArray 64 (0, 0)) :: [])) (by dsimp only; exact (perm_of fun f => by (simp only [List.map_append, List.map_cons, List.map_nil, List.sum_append, List.sum_cons, List.sum_nil] <;> omega)))
  have hk3 := hk; clear hk
  by_cases hk : x1 = 4
  · subst hk
    refine x_ ?_
    have hp2 : ((b3, Obj.cells (txC (TxD.nul 4) TxV.z).toArray 64 (0, 0)) :: ((cb, CuC a cc l s1) :: ((b2, Obj.cells ti64.zero.cells 64 (0, 0)) :: [])) : Hp).Perm (((cb, CuC a cc l s1) :: []) ++ ((b3, Obj.cells (txC (TxD.nul 4) TxV.z).toArray 64 (0, 0)) :: ((b2, Obj.cells ti64.zero.cells 64 (0, 0)) :: []))) := (perm_of fun f => by (simp only [List.map_append, List.map_cons, List.map_nil, List.sum_append, List.sum_cons, List.sum_nil] <;> omega))
    rcases h2 : zCe s1 with ⟨x2, s2⟩
    have hs2 : s2.1 <:+ l := by have := (agr_ce).sfx s1; rw [h2] at this; exact this.trans hs1
    refine Run.op1 (callC Tryz.func137 (cuCe cb a cc l s1 hs1) hcc hI hp2 h2) (fun y2 => ?_)
    dsimp only [List.append_nil, List.cons_append, List.nil_append]
    obtain ⟨⟨⟨⟨a2, c2⟩, ⟨a3, c3⟩⟩, ⟨l2, l3⟩⟩, o2, o3⟩ := y2
    dsimp only at o2 o3 ⊢
    refine runPerm (L' := (cb, CuC a cc l s2) :: (l2 ++ (l3 ++ ((b3, Obj.cells (txC (TxD.nul 4) TxV.z).toArray 64 (0, 0)) :: ((b2, Obj.cells ti64.zero.cells 64 (0, 0)) :: []))))) (by exact (perm_of fun f => by (simp only [List.map_append, List.map_cons, List.map_nil, List.sum_append, List.sum_cons, List.sum_nil] <;> omega))) ?_
    have hs21 : (ceC x2 (.slice a2 x2.os.length c2) (.slice a3 x2.sg.length c3)).toArray.size = 21 := by rw [List.size_toArray, ceC_len]
    refine x_ ?_
    refine Run.op1 (ostE (arr := (txC (TxD.nul 4) TxV.z).toArray) (e := 64) (L' := (cb, CuC a cc l s2) :: (l2 ++ (l3 ++ ((b2, Obj.cells ti64.zero.cells 64 (0, 0)) :: [])))) (txC (tCert x2) (TxV.z.mC a2 c2 a3 c3)).toArray (hL := (perm_of fun f => by (simp only [List.map_append, List.map_cons, List.map_nil, List.sum_append, List.sum_cons, List.sum_nil] <;> omega))) (hs := by exact hs21) (he := by exact tx_w9 _ _ _ _ _ _ _) (hf := by rw [List.size_toArray, txC_len]; decide) (h1 := by exact ceC_one _ _ _ _ _ _ _)) (fun _ => ?_)
    have hsz : (txC (tCert x2) (TxV.z.mC a2 c2 a3 c3)).toArray.size = 170 := by rw [List.size_toArray, txC_len]
    refine x_ ?_
    refine Run.op1 (osa (arr := ti64.zero.cells) (e := 64) (L' := (b3, Obj.cells (txC (tCert x2) (TxV.z.mC a2 c2 a3 c3)).toArray 64 (0, 0)) :: ((cb, CuC a cc l s2) :: (l2 ++ (l3 ++ ([]))))) (txC (tCert x2) (TxV.z.mC a2 c2 a3 c3)).toArray (txC_one _ _) (hL := (perm_of fun f => by (simp only [List.map_append, List.map_cons, List.map_nil, List.sum_append, List.sum_cons, List.sum_nil] <;> omega))) (hs := by exact hsz)) (fun _ => ?_)
    refine x_ ?_
    exact RQ.ret1 rfl (Res.cellAll tabOk rfl rfl rfl m0 hsz) fun w' hm => CurC.fin (Ex := []) (Y := TxY) (V := fun t y => .agg (txC t y.1.1).toArray) (L' := fun _ y => y.1.2) (show zTx s = ((tCert x2), s2) from by simp [zTx, zCoin, cMap, cAnd, h1, h2]) ⟨((TxV.z.mC a2 c2 a3 c3), l2 ++ (l3)), fun w hw => ⟨.nil, .nil, .nil, .nil, o2.srcW (hw.sub fun q hq => List.mem_append_left _ hq), o3.srcW (hw.sub fun q hq => List.mem_append_right _ hq)⟩⟩ hm (Lr := (b2, Obj.cells (txC (tCert x2) (TxV.z.mC a2 c2 a3 c3)).toArray 64 (0, 0)) :: ((b3, Obj.cells (txC (tCert x2) (TxV.z.mC a2 c2 a3 c3)).toArray 64 (0, 0)) :: [])) (by dsimp only; exact (perm_of fun f => by (simp only [List.map_append, List.map_cons, List.map_nil, List.sum_append, List.sum_cons, List.sum_nil] <;> omega)))
  have hk4 := hk; clear hk
  by_cases hk : x1 = 5
  · subst hk
    refine x_ ?_
    have hp2 : ((b3, Obj.cells (txC (TxD.nul 5) TxV.z).toArray 64 (0, 0)) :: ((cb, CuC a cc l s1) :: ((b2, Obj.cells ti64.zero.cells 64 (0, 0)) :: [])) : Hp).Perm (((cb, CuC a cc l s1) :: []) ++ ((b3, Obj.cells (txC (TxD.nul 5) TxV.z).toArray 64 (0, 0)) :: ((b2, Obj.cells ti64.zero.cells 64 (0, 0)) :: []))) := (perm_of fun f => by (simp only [List.map_append, List.map_cons, List.map_nil, List.sum_append, List.sum_cons, List.sum_nil] <;> omega))
    rcases h2 : zCl s1 with ⟨x2, s2⟩
    have hs2 : s2.1 <:+ l := by have := (agr_cl).sfx s1; rw [h2] at this; exact this.trans hs1
    refine Run.op1 (callC Tryz.func138 (cuCl cb a cc l s1 hs1) hcc hI hp2 h2) (fun _ => ?_)
    dsimp only [List.append_nil, List.cons_append, List.nil_append]
    have hs140 : x2.c.toArray.size = 140 := by rw [List.size_toArray, ClD.len]
    refine x_ ?_
    refine Run.op1 (ostE (arr := (txC (TxD.nul 5) TxV.z).toArray) (e := 64) (L' := (cb, CuC a cc l s2) :: ((b2, Obj.cells ti64.zero.cells 64 (0, 0)) :: [])) (txC (tClaim x2) TxV.z).toArray (hL := (perm_of fun f => by (simp only [List.map_append, List.map_cons, List.map_nil, List.sum_append, List.sum_cons, List.sum_nil] <;> omega))) (hs := by exact hs140) (he := by exact tx_w30 _ _ _) (hf := by rw [List.size_toArray, txC_len]; decide) (h1 := by exact x2.one)) (fun _ => ?_)
    have hsz : (txC (tClaim x2) TxV.z).toArray.size = 170 := by rw [List.size_toArray, txC_len]
    refine x_ ?_
    refine Run.op1 (osa (arr := ti64.zero.cells) (e := 64) (L' := (b3, Obj.cells (txC (tClaim x2) TxV.z).toArray 64 (0, 0)) :: ((cb, CuC a cc l s2) :: [])) (txC (tClaim x2) TxV.z).toArray (txC_one _ _) (hL := (perm_of fun f => by (simp only [List.map_append, List.map_cons, List.map_nil, List.sum_append, List.sum_cons, List.sum_nil] <;> omega))) (hs := by exact hsz)) (fun _ => ?_)
    refine x_ ?_
    exact RQ.ret1 rfl (Res.cellAll tabOk rfl rfl rfl m0 hsz) fun w' hm => CurC.fin (Ex := []) (Y := TxY) (V := fun t y => .agg (txC t y.1.1).toArray) (L' := fun _ y => y.1.2) (show zTx s = ((tClaim x2), s2) from by simp [zTx, zCoin, cMap, cAnd, h1, h2]) ⟨(TxV.z, []), fun w hw => ⟨.nil, .nil, .nil, .nil, .nil, .nil⟩⟩ hm (Lr := (b2, Obj.cells (txC (tClaim x2) TxV.z).toArray 64 (0, 0)) :: ((b3, Obj.cells (txC (tClaim x2) TxV.z).toArray 64 (0, 0)) :: [])) (by dsimp only; exact (perm_of fun f => by (simp only [List.map_append, List.map_cons, List.map_nil, List.sum_append, List.sum_cons, List.sum_nil] <;> omega)))
  have hk5 := hk; clear hk
  have hkd : (TxD.nul x1).kd = x1 := rfl
  have hsz : (txC (TxD.nul x1) TxV.z).toArray.size = 170 := by rw [List.size_toArray, txC_len]
  refine x_ ?_
  refine Run.op1 (osa (arr := ti64.zero.cells) (e := 64) (L' := (b3, Obj.cells (txC (TxD.nul x1) TxV.z).toArray 64 (0, 0)) :: ((cb, CuC a cc l s1) :: [])) (txC (TxD.nul x1) TxV.z).toArray (txC_one _ _) (hL := (perm_of fun f => by (simp only [List.map_append, List.map_cons, List.map_nil, List.sum_append, List.sum_cons, List.sum_nil] <;> omega))) (hs := by exact hsz)) (fun _ => ?_)
  refine x_ ?_
  exact RQ.ret1 rfl (Res.cellAll tabOk rfl rfl rfl m0 hsz) fun w' hm => CurC.fin (Ex := []) (Y := TxY) (V := fun t y => .agg (txC t y.1.1).toArray) (L' := fun _ y => y.1.2) (show zTx s = ((TxD.nul x1), s1) from by simp [zTx, zCoin, cMap, cAnd, h1, hk1, hk2, hk3, hk4, hk5]) ⟨(TxV.z, []), fun w hw => ⟨.nil, .nil, .nil, .nil, .nil, .nil⟩⟩ hm (Lr := (b2, Obj.cells (txC (TxD.nul x1) TxV.z).toArray 64 (0, 0)) :: ((b3, Obj.cells (txC (TxD.nul x1) TxV.z).toArray 64 (0, 0)) :: [])) (by dsimp only; exact (perm_of fun f => by (simp only [List.map_append, List.map_cons, List.map_nil, List.sum_append, List.sum_cons, List.sum_nil] <;> omega)))
/-- What the end says. -/
def endE (s : CuS) : Int := if s.2 = true then 2 else if s.1 ≠ [] then 4 else 0
theorem cuEnd (cb : Nat) (a : Option Addr) (cc : Nat) (l : List Nat) (hl : l.length ≤ 131072) (s : CuS) (hs : s.1 <:+ l) (w : World) (hw : w.heap[cb]? = some (CuC a cc l s)) : Gives Tryz.prog 53 [.pointer (some ⟨cb, 0, none⟩)] (.int .i64 (endE s)) w := by
  have hL : Has [(cb, CuC a cc l s)] w := fun p hp => by rw [List.mem_singleton] at hp; subst hp; exact hw
  refine enter Tryz.func53 rfl (Mem.init (S0 := [cb]) hL (fun p hp => by rw [List.mem_singleton] at hp; subst hp; exact List.mem_singleton.2 rfl) (by simp)) rfl ?_
  have hrl := hs.length_le
  obtain ⟨r, b⟩ := s
  dsimp only at hs hrl
  have hfr : ∀ w', Mem w [cb] [(cb, CuC a cc l (r, b))] w' → Fr [] w w' := fun w' hm => Mem.frNil (Lst := [(cb, CuC a cc l (r, b))]) hm (fun p hp => hp) hL
  cases b
  · by_cases h0 : r = []
    · subst h0
      rw [show endE ([], false) = 0 from rfl]
      have hrl0 : ([] : List Nat).length = 0 := rfl
      refine x_ ?_
      (repeat refine RC.seq ?_); refine RC.draw ([(cb, CuC a cc l ([], false))]) mixed (N := 11) rfl ?_
      refine dt 0 ?_
      refine dt 1 ?_
      refine dt 2 ?_
      refine dt 3 ?_
      refine dt 4 ?_
      refine dt 5 ?_
      refine dt 6 ?_
      refine dt 7 ?_
      refine dt 8 ?_
      refine dt 9 ?_
      refine dt 10 ?_
      refine DR.done (by kernel_rfl) ?_
      refine x_ ?_
      exact RQ.ret1 rfl (Res.tmp rfl) fun w' hm => ⟨rfl, hfr w' hm⟩
    · have hp : 0 < r.length := List.length_pos_iff.2 h0
      rw [show endE (r, false) = 4 from by show (if (false : Bool) = true then (2 : Int) else if r ≠ [] then 4 else 0) = 4; rw [if_neg (by decide), if_pos h0]]
      refine x_ ?_
      (repeat refine RC.seq ?_); refine RC.draw ([(cb, CuC a cc l (r, false))]) mixed (N := 11) rfl ?_
      refine dt 0 ?_
      refine dt 1 ?_
      refine dt 2 ?_
      refine dt 3 ?_
      refine dt 4 ?_
      refine dt 5 ?_
      refine dt 6 ?_
      refine dt 7 ?_
      refine dt 8 ?_
      refine dt 9 ?_
      refine dt 10 ?_
      refine DR.done (by kernel_rfl) ?_
      refine x_ ?_
      exact RQ.ret1 rfl (Res.tmp rfl) fun w' hm => ⟨rfl, hfr w' hm⟩
  · rw [show endE (r, true) = 2 from rfl]
    refine x_ ?_
    exact RQ.ret1 rfl (Res.tmp rfl) fun w' hm => ⟨rfl, hfr w' hm⟩
end Go.Proofs.YtfoeakgnkfcbjaaGreatDoor
end
