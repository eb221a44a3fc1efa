/- Lemmas. -/
import Derived.Test.YtfoeakgnkfcbjaaGreatDoorPt18
set_option linter.unusedSimpArgs false
set_option linter.unusedVariables false
section
/- tx: the writer (gen_txr.py prints it). -/
namespace Go.Vc
open Go Go.Sha
theorem add_block (a : Addr) (k : Nat) : (a.add k).block = a.block := by first | rfl | (unfold Addr.add; split <;> rfl)
/-- A slice's cells, which are not among these blocks. -/
structure SrcA (w : World) (L : Hp) (sz : Nat) (v : Value) (n : Nat) (cs : List Value) : Prop where
  s : SrcW w sz v n cs
  a : 0 < n → ∀ ad m c, v = .slice (some ad) m c → ad.block ∉ L.map (·.1)
/-- A slice of an old world, in a new one. -/
theorem SrcA.old {w0 w : World} {L : Hp} {sz : Nat} {v : Value} {n : Nat} {cs : List Value} (h : SrcW w0 sz v n cs) (hz : 0 < sz) (hf : Fr [] w0 w) (hL : ∀ p ∈ L, w0.heap.size ≤ p.1) : SrcA w L sz v n cs := by
  refine ⟨h.fr hf, fun hn ad m c hv hin => ?_⟩
  obtain ⟨ad', c', hv', hc', hcl, hr⟩ := h.pos hn
  rw [hv] at hv'
  cases hv'
  have hlt : 0 < cs.length := by rw [hcl]; exact Nat.mul_pos hn hz
  have h0 := hr 0 _ (List.getElem?_eq_getElem hlt)
  have h1 : (ad.add 0).block < w0.heap.size := World.block_lt_of_cell? w0 _ h0
  rw [add_block] at h1
  obtain ⟨p, hp, e⟩ := List.mem_map.1 hin
  have := hL p hp
  omega
/-- A part of a block of the caller's own. -/
theorem SrcA.ofRow {w0 w : World} {S0 : List Nat} {L A Lr : Hp} {b off sz n : Nat} {F cs : List Value} {e : TypeId} {fz : Nat × Nat} (hp : L.Perm (A ++ Lr)) (hm : Mem w0 S0 L w) (hb : (b, Obj.cells F.toArray e fz) ∈ Lr) (hl : cs.length = n * sz) (hc : ∀ j u, cs[j]? = some u → F[off + j]? = some u) : SrcA w A sz (.slice (some ⟨b, off, none⟩) n n) n cs := by
  have hm' := hm.perm hp
  refine ⟨.at _ _ _ _ hl (Nat.le_refl _) fun j u hj => ?_, fun _ ad m c hv hin => ?_⟩
  · rw [add_lit, cell_of_row w b (off + j) _ _ _ (hm'.has _ (List.mem_append_right _ hb)), List.getElem?_toArray]
    exact hc j u hj
  · cases hv
    have hnd := hm'.nd
    rw [List.map_append] at hnd
    exact (List.nodup_append.1 hnd).2.2 b hin b (List.mem_map_of_mem (f := (·.1)) hb) rfl
end Go.Vc
namespace Go.Proofs.YtfoeakgnkfcbjaaGreatDoor
attribute [local irreducible] Go.Vc.Run Go.Vc.RC Go.Vc.RQ Go.Vc.DR Go.Vc.DOp Go.Vc.Knows Go.Vc.At
set_option maxHeartbeats 400000
open Go Go.Vc Go.Sha
abbrev TW (wb : Nat) := WrG 155 wb
theorem wNum {wb : Nat} (x : TW wb) (he : x.e = 0) (n : Int) (k : Nat) (hk : 1 ≤ k ∧ k ≤ 7) (hn : rg k n) (hfit : x.bs.length + k ≤ 131072) {w0 : World} {S0 : List Nat} {L Lr : Hp} (hp : L.Perm (x.L ++ Lr)) (w : World) (hm : Mem w0 S0 L w) :
    Turns Tryz.prog 69 [.pointer (some ⟨wb, 0, none⟩), .int .i64 n, .int .i64 k] w x.L (Y := PutG 155 wb (x.bs ++ le n.toNat k, 0)) (fun _ => .tuple #[]) (fun y => y.1.L) := by
  have h := WNum_calls x n k w (hasFs hp hm).1 (hasFs hp hm).2
  have e : numW x.bs x.e n k = (x.bs ++ le n.toNat k, 0) := by
    have hb : ¬ numBad n k := by
      unfold numBad
      rintro (h | h | h | h)
      · omega
      · omega
      · have := hn.1; omega
      · rw [Int.toNat_natCast] at h
        exact h (Nat.div_eq_of_lt hn.2)
    unfold numW
    rw [if_pos he, if_neg hb]
    unfold putW
    rw [if_pos rfl, if_neg (by rw [le_len, Int.toNat_natCast]; omega), Int.toNat_natCast]
  rw [e] at h
  exact h
theorem wHash {wb : Nat} (x : TW wb) (he : x.e = 0) (c : List Nat) (hc : c.length = 8) (hfit : x.bs.length + 8 ≤ 131072) {w0 : World} {S0 : List Nat} {L Lr : Hp} (hp : L.Perm (x.L ++ Lr)) (w : World) (hm : Mem w0 S0 L w) :
    Turns Tryz.prog 68 [.pointer (some ⟨wb, 0, none⟩), .agg (u8s c).toArray] w x.L (Y := PutG 155 wb (x.bs ++ c, 0)) (fun _ => .tuple #[]) (fun y => y.1.L) := by
  have h := WHash_calls x c hc w (hasFs hp hm).1 (hasFs hp hm).2
  have e : putW x.bs x.e c = (x.bs ++ c, 0) := by
    unfold putW
    rw [if_pos he, if_neg (by omega)]
  rw [e] at h
  exact h
theorem take_step {c : List Nat} {k : Nat} : c.take (k * 8) ++ (c.drop (k * 8)).take 8 = c.take ((k + 1) * 8) := by
  rw [Nat.add_mul, Nat.one_mul, List.take_add]
theorem rowT {α : Type} (b : α → List Nat) {l : List α} {k : Nat} {p : α} (hx : l[k]? = some p) : ((l.take (k + 1)).map b).flatten = ((l.take k).map b).flatten ++ b p := by
  rw [List.take_add_one, hx]
  simp
theorem rowTl {α : Type} {b : α → List Nat} {sz : Nat} (h : ∀ x, (b x).length = sz) {l : List α} {k : Nat} (hk : k ≤ l.length) : ((l.take k).map b).flatten.length = k * sz := by
  have := rowB_len h (l.take k)
  unfold rowB at this
  rw [List.length_append, le_len, List.length_take, Nat.min_eq_left hk] at this
  omega
theorem rg1 {n : Nat} (h : n < 256) : rg 1 (n : Int) := ⟨Int.natCast_nonneg _, by rw [Int.toNat_natCast]; omega⟩
set_option maxRecDepth 10000 in set_option maxHeartbeats 4000000 in
theorem Wrow_calls {wb : Nat} (x : TW wb) (he : x.e = 0) (n : Nat) (c : List Nat) (hc : c.length = n * 8) (hfit : x.bs.length + n * 8 ≤ 131072) {v : Value} (w : World) (hs : SrcA w x.L 8 v n (u8s c)) (hw : Has x.L w) (hnd : (x.L.map (·.1)).Nodup) :
    Turns Tryz.prog 149 [.pointer (some ⟨wb, 0, none⟩), v] w x.L (Y := PutG 155 wb (x.bs ++ c, 0)) (fun _ => .tuple #[]) (fun y => y.1.L) := by
  refine enter Tryz.func149 rfl (Mem.init (S0 := x.L.map (·.1)) hw (fun p hp => List.mem_map_of_mem hp) hnd) rfl ?_
  obtain ⟨aA, cA, rfl, hcA⟩ := hs.s.shape
  refine x_ ?_
  refine RC.up n (D := TW wb) (fun k d => d.bs = x.bs ++ c.take (k * 8) ∧ d.e = 0) (fun k _ => [(8, .int .i64 k), (7, .int .i64 n), (6, .slice aA n cA), (0, .pointer (some ⟨wb, 0, none⟩))]) (fun _ d => d.L) 0 x (Nat.zero_le _) ⟨by simp, he⟩ ⟨rfl, rfl, rfl, rfl, trivial⟩ (List.Sublist.refl _) ?_
  rintro k d hk ⟨hdb, hde⟩
  refine x_ ?_
  (repeat refine RC.seq ?_); refine RC.wh rfl (fun h => RQ.next ?_) (fun h => ?_)
  · have hk' : k < n := by have := of_decide_eq_true h; omega
    clear h
    obtain ⟨ad, c', hv', hc', hcl, hr⟩ := hs.s.pos (by omega)
    cases hv'
    have hS := hs.a (by omega) ad _ _ rfl
    have hS' : (ad.add (k * 8)).block ∉ x.L.map (·.1) := by rw [add_block]; exact hS
    obtain ⟨h, hh⟩ : ∃ h, h = (c.drop (k * 8)).take 8 := ⟨_, rfl⟩
    have h8 : h.length = 8 := by rw [hh, List.length_take, List.length_drop, hc]; omega
    have hbl : d.bs.length = x.bs.length + k * 8 := by rw [hdb, List.length_append, List.length_take, hc]; omega
    have q1 : At w (ad.add (k * 8)) (u8s h) := At.mk fun j u hj => by
      rw [add_add]
      refine hr _ u ?_
      rw [hh, u8s_take, u8s_drop, List.getElem?_take] at hj
      split at hj
      · rwa [List.getElem?_drop] at hj
      · cases hj
    have hl : (u8s h).length = 8 := by rw [u8s_len, h8]
    refine x_ ?_
    refine Run.nw nal ?_
    intro b5
    refine x_ ?_
    refine Run.op1 (osa (arr := ti23.zero.cells) (u8s h).toArray (u8s_one h) (hs := by rw [List.size_toArray, hl]; rfl)) (fun _ => ?_)
    have hsz : (u8s h).toArray.size = 8 := by rw [List.size_toArray, hl]
    refine x_ ?_
    (repeat refine RC.seq ?_); refine RC.drawS mixed (N := 5) rfl ?_
    refine dy 0 ?_
    refine dy 1 ?_
    refine dy 2 ?_
    refine dy 3 ?_
    have hq1 : ((b5, Obj.cells (u8s h).toArray 23 (0, 0)) :: d.L).Perm (d.L ++ [(b5, Obj.cells (u8s h).toArray 23 (0, 0))]) := (perm_of fun f => by (simp only [List.map_append, List.map_cons, List.map_nil, List.sum_append, List.sum_cons, List.sum_nil] <;> omega))
    refine DR.c 4 (DOp.op1 rfl (OpTo.callT Tryz.func68 hq1 (fun w' hm => wHash d hde h h8 (by omega) hq1 w' hm)) ?_)
    rintro ⟨y1, hy1⟩
    obtain ⟨hb1, he1⟩ := Prod.mk.inj hy1
    dsimp only
    refine DR.done (by kernel_rfl) ?_
    refine x_ ?_
    exact RQ.up (k + 1) y1 (Nat.lt_succ_self _) hk' ⟨by rw [hb1, hdb, List.append_assoc, hh, take_step], he1⟩ ⟨rfl, rfl, rfl, rfl, trivial⟩ (List.sublist_append_left _ _)
  · have hk' : k = n := by have := of_decide_eq_false h; omega
    clear h
    subst hk'
    rw [List.take_of_length_le (by omega)] at hdb
    (repeat refine RQ.thenExit ?_); refine RQ.blockHere ?_
    exact RQ.end0 rfl fun w' hm => Turns.of (Y := PutG 155 wb (x.bs ++ c, 0)) (V := fun _ => .tuple #[]) (L' := fun y => y.1.L) ⟨d, by rw [hdb, hde]⟩ hm (Lr := []) (by rw [List.append_nil])
theorem SigD.eq (s : SigD) : s.c = .int .i64 s.z :: (u8s s.op.1 ++ (u8s s.sh.1 ++ u8s s.pa.1)) := rfl
theorem mid_at {F pre cs post : List Value} {off : Nat} (e : F = pre ++ (cs ++ post)) (ho : pre.length = off) : ∀ j u, cs[j]? = some u → F[off + j]? = some u := fun j u hj => by
  rw [e, List.getElem?_append_right (by omega), ← ho, Nat.add_sub_cancel_left, List.getElem?_append_left (List.getElem?_eq_some_iff.1 hj).1]
  exact hj
theorem SigD.at1 (s : SigD) : ∀ j u, (u8s s.op.1)[j]? = some u → s.c[1 + j]? = some u := mid_at (pre := [Value.int .i64 s.z]) (post := u8s s.sh.1 ++ u8s s.pa.1) rfl rfl
theorem SigD.at2 (s : SigD) : ∀ j u, (u8s s.sh.1)[j]? = some u → s.c[129 + j]? = some u := mid_at (pre := .int .i64 s.z :: u8s s.op.1) (post := u8s s.pa.1) rfl (by rw [List.length_cons, u8s_len, s.op.2.1])
theorem SigD.at3 (s : SigD) : ∀ j u, (u8s s.pa.1)[j]? = some u → s.c[257 + j]? = some u := mid_at (pre := .int .i64 s.z :: (u8s s.op.1 ++ u8s s.sh.1)) (post := []) (by rw [List.append_nil, SigD.eq, List.cons_append, List.append_assoc]) (by rw [List.length_cons, List.length_append, u8s_len, u8s_len, s.op.2.1, s.sh.2.1])
set_option maxRecDepth 10000 in set_option maxHeartbeats 4000000 in
theorem Wsig_calls {wb : Nat} (x : TW wb) (he : x.e = 0) (s : SigD) (hr : s.rg) (hfit : x.bs.length + 281 ≤ 131072) (w : World) (hw : Has x.L w) (hnd : (x.L.map (·.1)).Nodup) :
    Turns Tryz.prog 148 [.pointer (some ⟨wb, 0, none⟩), .agg s.c.toArray] w x.L (Y := PutG 155 wb (x.bs ++ s.b, 0)) (fun _ => .tuple #[]) (fun y => y.1.L) := by
  refine enter Tryz.func148 rfl (Mem.init (S0 := x.L.map (·.1)) hw (fun p hp => List.mem_map_of_mem hp) hnd) rfl ?_
  have r0 : rdAt ti3 s.c.toArray 0 = some (.int .i64 s.z) := rd_one rfl rfl
  have a1 := s.at1
  have a2 := s.at2
  have a3 := s.at3
  have hbe : s.b = le s.z.toNat 1 ++ (s.op.1 ++ (s.sh.1 ++ s.pa.1)) := rfl
  generalize s.c = F at r0 a1 a2 a3 ⊢
  refine z_ ?_
  refine Run.nw nbx ?_
  intro b3
  refine x_ ?_
  (repeat refine RC.seq ?_); refine RC.drawS mixed (N := 6) rfl ?_
  refine dy 0 ?_
  refine dy 1 ?_
  refine dy 2 ?_
  refine dy 3 ?_
  refine dy 4 ?_
  have hq1 : ((b3, Obj.cells F.toArray 171 (0, 0)) :: x.L).Perm (x.L ++ [(b3, Obj.cells F.toArray 171 (0, 0))]) := (perm_of fun f => by (simp only [List.map_append, List.map_cons, List.map_nil, List.sum_append, List.sum_cons, List.sum_nil] <;> omega))
  refine DR.c 5 (DOp.op1 rfl (OpTo.callT Tryz.func69 hq1 (fun w' hm => wNum x he s.z 1 (by decide) hr (by omega) hq1 w' hm)) ?_)
  rintro ⟨y1, hy1⟩
  obtain ⟨hb1, he1⟩ := Prod.mk.inj hy1
  dsimp only
  refine DR.done (by kernel_rfl) ?_
  refine x_ ?_
  have ln1 : y1.bs.length = x.bs.length + 1 := by rw [hb1, List.length_append, le_len]
  refine Run.a (Val.sliceA tabOk rfl rfl rfl rfl rfl) ?_
  refine x_ ?_
  have hq2 : (y1.L ++ [(b3, Obj.cells F.toArray 171 (0, 0))]).Perm (y1.L ++ [(b3, Obj.cells F.toArray 171 (0, 0))]) := (perm_of fun f => by (simp only [List.map_append, List.map_cons, List.map_nil, List.sum_append, List.sum_cons, List.sum_nil] <;> omega))
  refine Run.op1 (OpTo.callT Tryz.func149 hq2 (fun w' hm => Wrow_calls y1 he1 16 s.op.1 s.op.2.1 (by omega) w' (SrcA.ofRow hq2 hm List.mem_cons_self (by rw [u8s_len, s.op.2.1]) a1) (hasFs hq2 hm).1 (hasFs hq2 hm).2)) ?_
  rintro ⟨y2, hy2⟩
  obtain ⟨hb2, he2⟩ := Prod.mk.inj hy2
  dsimp only
  refine x_ ?_
  have ln2 : y2.bs.length = x.bs.length + 129 := by rw [hb2, List.length_append, s.op.2.1, ln1]
  refine Run.a (Val.sliceA tabOk rfl rfl rfl rfl rfl) ?_
  refine x_ ?_
  have hq3 : (y2.L ++ [(b3, Obj.cells F.toArray 171 (0, 0))]).Perm (y2.L ++ [(b3, Obj.cells F.toArray 171 (0, 0))]) := (perm_of fun f => by (simp only [List.map_append, List.map_cons, List.map_nil, List.sum_append, List.sum_cons, List.sum_nil] <;> omega))
  refine Run.op1 (OpTo.callT Tryz.func149 hq3 (fun w' hm => Wrow_calls y2 he2 16 s.sh.1 s.sh.2.1 (by omega) w' (SrcA.ofRow hq3 hm List.mem_cons_self (by rw [u8s_len, s.sh.2.1]) a2) (hasFs hq3 hm).1 (hasFs hq3 hm).2)) ?_
  rintro ⟨y3, hy3⟩
  obtain ⟨hb3, he3⟩ := Prod.mk.inj hy3
  dsimp only
  refine x_ ?_
  have ln3 : y3.bs.length = x.bs.length + 257 := by rw [hb3, List.length_append, s.sh.2.1, ln2]
  refine Run.a (Val.sliceA tabOk rfl rfl rfl rfl rfl) ?_
  refine x_ ?_
  have hq4 : (y3.L ++ [(b3, Obj.cells F.toArray 171 (0, 0))]).Perm (y3.L ++ [(b3, Obj.cells F.toArray 171 (0, 0))]) := (perm_of fun f => by (simp only [List.map_append, List.map_cons, List.map_nil, List.sum_append, List.sum_cons, List.sum_nil] <;> omega))
  refine Run.op1 (OpTo.callT Tryz.func149 hq4 (fun w' hm => Wrow_calls y3 he3 3 s.pa.1 s.pa.2.1 (by omega) w' (SrcA.ofRow hq4 hm List.mem_cons_self (by rw [u8s_len, s.pa.2.1]) a3) (hasFs hq4 hm).1 (hasFs hq4 hm).2)) ?_
  rintro ⟨y4, hy4⟩
  obtain ⟨hb4, he4⟩ := Prod.mk.inj hy4
  dsimp only
  refine x_ ?_
  have ln4 : y4.bs.length = x.bs.length + 281 := by rw [hb4, List.length_append, s.pa.2.1, ln3]
  exact RQ.end0 rfl fun w' hm => Turns.of (Y := PutG 155 wb (x.bs ++ s.b, 0)) (V := fun _ => .tuple #[]) (L' := fun y => y.1.L) ⟨y4, by rw [hb4, hb3, hb2, hb1, he4, hbe, List.append_assoc, List.append_assoc, List.append_assoc]⟩ hm (Lr := [(b3, Obj.cells F.toArray 171 (0, 0))]) (List.Perm.refl _)
set_option maxRecDepth 10000 in set_option maxHeartbeats 4000000 in
theorem Wouts_calls {wb : Nat} (x : TW wb) (he : x.e = 0) (l : List OutD) (hl : l.length < 256 ∧ ∀ p ∈ l, p.rg) (hfit : x.bs.length + 1 + l.length * 15 ≤ 131072) {v : Value} (w : World) (hs : SrcA w x.L 9 v l.length (rws OutD.c l)) (hw : Has x.L w) (hnd : (x.L.map (·.1)).Nodup) :
    Turns Tryz.prog 108 [.pointer (some ⟨wb, 0, none⟩), v] w x.L (Y := PutG 155 wb (x.bs ++ rowB OutD.b l, 0)) (fun _ => .tuple #[]) (fun y => y.1.L) := by
  refine enter Tryz.func108 rfl (Mem.init (S0 := x.L.map (·.1)) hw (fun p hp => List.mem_map_of_mem hp) hnd) rfl ?_
  obtain ⟨aA, cA, rfl, hcA⟩ := hs.s.shape
  refine x_ ?_
  have hq1 : (x.L).Perm (x.L ++ []) := by rw [List.append_nil]
  refine Run.op1 (OpTo.callT Tryz.func69 hq1 (fun w' hm => wNum x he (l.length : Int) 1 (by decide) (rg1 hl.1) (by omega) hq1 w' hm)) ?_
  rintro ⟨y1, hy1⟩
  obtain ⟨hb1, he1⟩ := Prod.mk.inj hy1
  dsimp only
  refine x_ ?_
  rw [Int.toNat_natCast] at hb1
  refine RC.up l.length (D := TW wb) (fun k d => d.bs = x.bs ++ le l.length 1 ++ ((l.take k).map OutD.b).flatten ∧ d.e = 0) (fun k _ => [(14, .int .i64 k), (13, .int .i64 l.length), (12, .slice aA l.length cA), (0, .pointer (some ⟨wb, 0, none⟩))]) (fun _ d => d.L) 0 y1 (Nat.zero_le _) ⟨by rw [hb1]; simp, he1⟩ ⟨rfl, rfl, rfl, rfl, trivial⟩ (List.sublist_append_left _ _) ?_
  rintro k d hk ⟨hdb, hde⟩
  refine x_ ?_
  (repeat refine RC.seq ?_); refine RC.wh rfl (fun h => RQ.next ?_) (fun h => ?_)
  · have hk' : k < l.length := by have := of_decide_eq_true h; omega
    clear h
    obtain ⟨p, hx⟩ : ∃ p, l[k]? = some p := ⟨_, List.getElem?_eq_getElem hk'⟩
    have hpr := hl.2 p (List.mem_of_getElem? hx)
    obtain ⟨ad, c', hv', hc', hcl, hr⟩ := hs.s.pos (by omega)
    cases hv'
    have hS := hs.a (by omega) ad _ _ rfl
    have hS' : (ad.add (k * 9)).block ∉ x.L.map (·.1) := by rw [add_block]; exact hS
    have hbl : d.bs.length = x.bs.length + 1 + k * 15 := by rw [hdb, List.length_append, List.length_append, le_len, rowTl OutD.bl hk]
    have q1 : At w (ad.add (k * 9)) p.c := At.mk fun j u hj => by rw [add_add]; exact hr _ u (rws_at OutD.len hx j u hj)
    have hcl2 : p.c.length = 9 := p.len
    have n1 := p.one
    obtain ⟨r0, r8⟩ := out_rd p
    have hbe : p.b = p.t.1 ++ (le p.am.toNat 7) := rfl
    generalize p.c = F at q1 hcl2 n1 r0 r8
    refine x_ ?_
    refine Run.nw nal ?_
    intro b5
    refine x_ ?_
    refine Run.op1 (osa (arr := ti164.zero.cells) F.toArray n1 (hs := by rw [List.size_toArray, hcl2]; rfl)) (fun _ => ?_)
    refine x_ ?_
    (repeat refine RC.seq ?_); refine RC.drawS mixed (N := 6) rfl ?_
    refine dy 0 ?_
    refine dy 1 ?_
    refine dy 2 ?_
    refine dy 3 ?_
    refine dy 4 ?_
    have hq2 : ((b5, Obj.cells F.toArray 164 (0, 0)) :: d.L).Perm (d.L ++ [(b5, Obj.cells F.toArray 164 (0, 0))]) := (perm_of fun f => by (simp only [List.map_append, List.map_cons, List.map_nil, List.sum_append, List.sum_cons, List.sum_nil] <;> omega))
    refine DR.c 5 (DOp.op1 rfl (OpTo.callT Tryz.func68 hq2 (fun w' hm => wHash d hde p.t.1 p.t.2.1 (by omega) hq2 w' hm)) ?_)
    rintro ⟨y2, hy2⟩
    obtain ⟨hb2, he2⟩ := Prod.mk.inj hy2
    dsimp only
    refine DR.done (by kernel_rfl) ?_
    refine x_ ?_
    have ln2 : y2.bs.length = d.bs.length + 8 := by rw [hb2, List.length_append, p.t.2.1]
    (repeat refine RC.seq ?_); refine RC.drawS mixed (N := 6) rfl ?_
    refine dy 0 ?_
    refine dy 1 ?_
    refine dy 2 ?_
    refine dy 3 ?_
    refine dy 4 ?_
    have hq3 : (y2.L ++ [(b5, Obj.cells F.toArray 164 (0, 0))]).Perm (y2.L ++ [(b5, Obj.cells F.toArray 164 (0, 0))]) := (perm_of fun f => by (simp only [List.map_append, List.map_cons, List.map_nil, List.sum_append, List.sum_cons, List.sum_nil] <;> omega))
    refine DR.c 5 (DOp.op1 rfl (OpTo.callT Tryz.func69 hq3 (fun w' hm => wNum y2 he2 p.am 7 (by decide) hpr (by omega) hq3 w' hm)) ?_)
    rintro ⟨y3, hy3⟩
    obtain ⟨hb3, he3⟩ := Prod.mk.inj hy3
    dsimp only
    refine DR.done (by kernel_rfl) ?_
    refine x_ ?_
    have ln3 : y3.bs.length = d.bs.length + 15 := by rw [hb3, List.length_append, le_len, ln2]
    exact RQ.up (k + 1) y3 (Nat.lt_succ_self _) hk' ⟨by rw [hb3, hb2, hdb, rowT _ hx, hbe]; simp only [List.append_assoc], he3⟩ ⟨rfl, rfl, rfl, rfl, trivial⟩ (List.sublist_append_left _ _)
  · have hk' : k = l.length := by have := of_decide_eq_false h; omega
    clear h
    subst hk'
    rw [List.take_length] at hdb
    (repeat refine RQ.thenExit ?_); refine RQ.blockHere ?_
    exact RQ.end0 rfl fun w' hm => Turns.of (Y := PutG 155 wb (x.bs ++ rowB OutD.b l, 0)) (V := fun _ => .tuple #[]) (L' := fun y => y.1.L) ⟨d, by rw [hdb, hde]; unfold rowB; rw [List.append_assoc]⟩ hm (Lr := []) (by rw [List.append_nil])
set_option maxRecDepth 10000 in set_option maxHeartbeats 4000000 in
theorem Wins_calls {wb : Nat} (x : TW wb) (he : x.e = 0) (l : List InD) (hl : l.length < 256 ∧ ∀ p ∈ l, p.rg) (hfit : x.bs.length + 1 + l.length * 298 ≤ 131072) {v : Value} (w : World) (hs : SrcA w x.L 298 v l.length (rws InD.c l)) (hw : Has x.L w) (hnd : (x.L.map (·.1)).Nodup) :
    Turns Tryz.prog 109 [.pointer (some ⟨wb, 0, none⟩), v] w x.L (Y := PutG 155 wb (x.bs ++ rowB InD.b l, 0)) (fun _ => .tuple #[]) (fun y => y.1.L) := by
  refine enter Tryz.func109 rfl (Mem.init (S0 := x.L.map (·.1)) hw (fun p hp => List.mem_map_of_mem hp) hnd) rfl ?_
  obtain ⟨aA, cA, rfl, hcA⟩ := hs.s.shape
  refine x_ ?_
  have hq1 : (x.L).Perm (x.L ++ []) := by rw [List.append_nil]
  refine Run.op1 (OpTo.callT Tryz.func69 hq1 (fun w' hm => wNum x he (l.length : Int) 1 (by decide) (rg1 hl.1) (by omega) hq1 w' hm)) ?_
  rintro ⟨y1, hy1⟩
  obtain ⟨hb1, he1⟩ := Prod.mk.inj hy1
  dsimp only
  refine x_ ?_
  rw [Int.toNat_natCast] at hb1
  refine RC.up l.length (D := TW wb) (fun k d => d.bs = x.bs ++ le l.length 1 ++ ((l.take k).map InD.b).flatten ∧ d.e = 0) (fun k _ => [(14, .int .i64 k), (13, .int .i64 l.length), (12, .slice aA l.length cA), (0, .pointer (some ⟨wb, 0, none⟩))]) (fun _ d => d.L) 0 y1 (Nat.zero_le _) ⟨by rw [hb1]; simp, he1⟩ ⟨rfl, rfl, rfl, rfl, trivial⟩ (List.sublist_append_left _ _) ?_
  rintro k d hk ⟨hdb, hde⟩
  refine x_ ?_
  (repeat refine RC.seq ?_); refine RC.wh rfl (fun h => RQ.next ?_) (fun h => ?_)
  · have hk' : k < l.length := by have := of_decide_eq_true h; omega
    clear h
    obtain ⟨p, hx⟩ : ∃ p, l[k]? = some p := ⟨_, List.getElem?_eq_getElem hk'⟩
    have hpr := hl.2 p (List.mem_of_getElem? hx)
    obtain ⟨ad, c', hv', hc', hcl, hr⟩ := hs.s.pos (by omega)
    cases hv'
    have hS := hs.a (by omega) ad _ _ rfl
    have hS' : (ad.add (k * 298)).block ∉ x.L.map (·.1) := by rw [add_block]; exact hS
    have hbl : d.bs.length = x.bs.length + 1 + k * 298 := by rw [hdb, List.length_append, List.length_append, le_len, rowTl InD.bl hk]
    have q1 : At w (ad.add (k * 298)) p.c := At.mk fun j u hj => by rw [add_add]; exact hr _ u (rws_at InD.len hx j u hj)
    have hcl2 : p.c.length = 298 := p.len
    have n1 := p.one
    obtain ⟨rp, r0, r8, r9, r17, rs⟩ := in_rd p
    have hbe : p.b = p.tx.1 ++ (le p.i.toNat 1 ++ (p.key.1 ++ (p.s.b))) := rfl
    generalize p.c = F at q1 hcl2 n1 rp r0 r8 r9 r17 rs
    refine x_ ?_
    refine Run.nw nal ?_
    intro b5
    refine x_ ?_
    refine Run.op1 (osa (arr := ti173.zero.cells) F.toArray n1 (hs := by rw [List.size_toArray, hcl2]; rfl)) (fun _ => ?_)
    refine x_ ?_
    (repeat refine RC.seq ?_); refine RC.drawS mixed (N := 7) rfl ?_
    refine dy 0 ?_
    refine dy 1 ?_
    refine dy 2 ?_
    refine dy 3 ?_
    refine dy 4 ?_
    refine dy 5 ?_
    have hq2 : ((b5, Obj.cells F.toArray 173 (0, 0)) :: d.L).Perm (d.L ++ [(b5, Obj.cells F.toArray 173 (0, 0))]) := (perm_of fun f => by (simp only [List.map_append, List.map_cons, List.map_nil, List.sum_append, List.sum_cons, List.sum_nil] <;> omega))
    refine DR.c 6 (DOp.op1 rfl (OpTo.callT Tryz.func68 hq2 (fun w' hm => wHash d hde p.tx.1 p.tx.2.1 (by omega) hq2 w' hm)) ?_)
    rintro ⟨y2, hy2⟩
    obtain ⟨hb2, he2⟩ := Prod.mk.inj hy2
    dsimp only
    refine DR.done (by kernel_rfl) ?_
    refine x_ ?_
    have ln2 : y2.bs.length = d.bs.length + 8 := by rw [hb2, List.length_append, p.tx.2.1]
    (repeat refine RC.seq ?_); refine RC.drawS mixed (N := 7) rfl ?_
    refine dy 0 ?_
    refine dy 1 ?_
    refine dy 2 ?_
    refine dy 3 ?_
    refine dy 4 ?_
    refine dy 5 ?_
    have hq3 : (y2.L ++ [(b5, Obj.cells F.toArray 173 (0, 0))]).Perm (y2.L ++ [(b5, Obj.cells F.toArray 173 (0, 0))]) := (perm_of fun f => by (simp only [List.map_append, List.map_cons, List.map_nil, List.sum_append, List.sum_cons, List.sum_nil] <;> omega))
    refine DR.c 6 (DOp.op1 rfl (OpTo.callT Tryz.func69 hq3 (fun w' hm => wNum y2 he2 p.i 1 (by decide) hpr.1 (by omega) hq3 w' hm)) ?_)
    rintro ⟨y3, hy3⟩
    obtain ⟨hb3, he3⟩ := Prod.mk.inj hy3
    dsimp only
    refine DR.done (by kernel_rfl) ?_
    refine x_ ?_
    have ln3 : y3.bs.length = d.bs.length + 9 := by rw [hb3, List.length_append, le_len, ln2]
    (repeat refine RC.seq ?_); refine RC.drawS mixed (N := 6) rfl ?_
    refine dy 0 ?_
    refine dy 1 ?_
    refine dy 2 ?_
    refine dy 3 ?_
    refine dy 4 ?_
    have hq4 : (y3.L ++ [(b5, Obj.cells F.toArray 173 (0, 0))]).Perm (y3.L ++ [(b5, Obj.cells F.toArray 173 (0, 0))]) := (perm_of fun f => by (simp only [List.map_append, List.map_cons, List.map_nil, List.sum_append, List.sum_cons, List.sum_nil] <;> omega))
    refine DR.c 5 (DOp.op1 rfl (OpTo.callT Tryz.func68 hq4 (fun w' hm => wHash y3 he3 p.key.1 p.key.2.1 (by omega) hq4 w' hm)) ?_)
    rintro ⟨y4, hy4⟩
    obtain ⟨hb4, he4⟩ := Prod.mk.inj hy4
    dsimp only
    refine DR.done (by kernel_rfl) ?_
    refine x_ ?_
    have ln4 : y4.bs.length = d.bs.length + 17 := by rw [hb4, List.length_append, p.key.2.1, ln3]
    have hq5 : (y4.L ++ [(b5, Obj.cells F.toArray 173 (0, 0))]).Perm (y4.L ++ [(b5, Obj.cells F.toArray 173 (0, 0))]) := (perm_of fun f => by (simp only [List.map_append, List.map_cons, List.map_nil, List.sum_append, List.sum_cons, List.sum_nil] <;> omega))
    refine Run.op1 (OpTo.callT Tryz.func148 hq5 (fun w' hm => Wsig_calls y4 he4 p.s hpr.2 (by omega) w' (hasFs hq5 hm).1 (hasFs hq5 hm).2)) ?_
    rintro ⟨y5, hy5⟩
    obtain ⟨hb5, he5⟩ := Prod.mk.inj hy5
    dsimp only
    refine x_ ?_
    have ln5 : y5.bs.length = d.bs.length + 298 := by rw [hb5, List.length_append, p.s.bl, ln4]
    exact RQ.up (k + 1) y5 (Nat.lt_succ_self _) hk' ⟨by rw [hb5, hb4, hb3, hb2, hdb, rowT _ hx, hbe]; simp only [List.append_assoc], he5⟩ ⟨rfl, rfl, rfl, rfl, trivial⟩ (List.sublist_append_left _ _)
  · have hk' : k = l.length := by have := of_decide_eq_false h; omega
    clear h
    subst hk'
    rw [List.take_length] at hdb
    (repeat refine RQ.thenExit ?_); refine RQ.blockHere ?_
    exact RQ.end0 rfl fun w' hm => Turns.of (Y := PutG 155 wb (x.bs ++ rowB InD.b l, 0)) (V := fun _ => .tuple #[]) (L' := fun y => y.1.L) ⟨d, by rw [hdb, hde]; unfold rowB; rw [List.append_assoc]⟩ hm (Lr := []) (by rw [List.append_nil])
set_option maxRecDepth 10000 in set_option maxHeartbeats 4000000 in
theorem Wforwards_calls {wb : Nat} (x : TW wb) (he : x.e = 0) (l : List FoD) (hl : l.length < 256 ∧ ∀ p ∈ l, p.rg) (hfit : x.bs.length + 1 + l.length * 18 ≤ 131072) {v : Value} (w : World) (hs : SrcA w x.L 11 v l.length (rws FoD.c l)) (hw : Has x.L w) (hnd : (x.L.map (·.1)).Nodup) :
    Turns Tryz.prog 110 [.pointer (some ⟨wb, 0, none⟩), v] w x.L (Y := PutG 155 wb (x.bs ++ rowB FoD.b l, 0)) (fun _ => .tuple #[]) (fun y => y.1.L) := by
  refine enter Tryz.func110 rfl (Mem.init (S0 := x.L.map (·.1)) hw (fun p hp => List.mem_map_of_mem hp) hnd) rfl ?_
  obtain ⟨aA, cA, rfl, hcA⟩ := hs.s.shape
  refine x_ ?_
  have hq1 : (x.L).Perm (x.L ++ []) := by rw [List.append_nil]
  refine Run.op1 (OpTo.callT Tryz.func69 hq1 (fun w' hm => wNum x he (l.length : Int) 1 (by decide) (rg1 hl.1) (by omega) hq1 w' hm)) ?_
  rintro ⟨y1, hy1⟩
  obtain ⟨hb1, he1⟩ := Prod.mk.inj hy1
  dsimp only
  refine x_ ?_
  rw [Int.toNat_natCast] at hb1
  refine RC.up l.length (D := TW wb) (fun k d => d.bs = x.bs ++ le l.length 1 ++ ((l.take k).map FoD.b).flatten ∧ d.e = 0) (fun k _ => [(14, .int .i64 k), (13, .int .i64 l.length), (12, .slice aA l.length cA), (0, .pointer (some ⟨wb, 0, none⟩))]) (fun _ d => d.L) 0 y1 (Nat.zero_le _) ⟨by rw [hb1]; simp, he1⟩ ⟨rfl, rfl, rfl, rfl, trivial⟩ (List.sublist_append_left _ _) ?_
  rintro k d hk ⟨hdb, hde⟩
  refine x_ ?_
  (repeat refine RC.seq ?_); refine RC.wh rfl (fun h => RQ.next ?_) (fun h => ?_)
  · have hk' : k < l.length := by have := of_decide_eq_true h; omega
    clear h
    obtain ⟨p, hx⟩ : ∃ p, l[k]? = some p := ⟨_, List.getElem?_eq_getElem hk'⟩
    have hpr := hl.2 p (List.mem_of_getElem? hx)
    obtain ⟨ad, c', hv', hc', hcl, hr⟩ := hs.s.pos (by omega)
    cases hv'
    have hS := hs.a (by omega) ad _ _ rfl
    have hS' : (ad.add (k * 11)).block ∉ x.L.map (·.1) := by rw [add_block]; exact hS
    have hbl : d.bs.length = x.bs.length + 1 + k * 18 := by rw [hdb, List.length_append, List.length_append, le_len, rowTl FoD.bl hk]
    have q1 : At w (ad.add (k * 11)) p.c := At.mk fun j u hj => by rw [add_add]; exact hr _ u (rws_at FoD.len hx j u hj)
    have hcl2 : p.c.length = 11 := p.len
    have n1 := p.one
    obtain ⟨r0, r1, r2, r10⟩ := fo_rd p
    have hbe : p.b = le p.sd.toNat 1 ++ (le p.ac.toNat 2 ++ (p.o.1 ++ (le p.am.toNat 7))) := rfl
    generalize p.c = F at q1 hcl2 n1 r0 r1 r2 r10
    refine x_ ?_
    refine Run.nw nal ?_
    intro b5
    refine x_ ?_
    refine Run.op1 (osa (arr := ti177.zero.cells) F.toArray n1 (hs := by rw [List.size_toArray, hcl2]; rfl)) (fun _ => ?_)
    refine x_ ?_
    (repeat refine RC.seq ?_); refine RC.drawS mixed (N := 6) rfl ?_
    refine dy 0 ?_
    refine dy 1 ?_
    refine dy 2 ?_
    refine dy 3 ?_
    refine dy 4 ?_
    have hq2 : ((b5, Obj.cells F.toArray 177 (0, 0)) :: d.L).Perm (d.L ++ [(b5, Obj.cells F.toArray 177 (0, 0))]) := (perm_of fun f => by (simp only [List.map_append, List.map_cons, List.map_nil, List.sum_append, List.sum_cons, List.sum_nil] <;> omega))
    refine DR.c 5 (DOp.op1 rfl (OpTo.callT Tryz.func69 hq2 (fun w' hm => wNum d hde p.sd 1 (by decide) hpr.1 (by omega) hq2 w' hm)) ?_)
    rintro ⟨y2, hy2⟩
    obtain ⟨hb2, he2⟩ := Prod.mk.inj hy2
    dsimp only
    refine DR.done (by kernel_rfl) ?_
    refine x_ ?_
    have ln2 : y2.bs.length = d.bs.length + 1 := by rw [hb2, List.length_append, le_len]
    (repeat refine RC.seq ?_); refine RC.drawS mixed (N := 6) rfl ?_
    refine dy 0 ?_
    refine dy 1 ?_
    refine dy 2 ?_
    refine dy 3 ?_
    refine dy 4 ?_
    have hq3 : (y2.L ++ [(b5, Obj.cells F.toArray 177 (0, 0))]).Perm (y2.L ++ [(b5, Obj.cells F.toArray 177 (0, 0))]) := (perm_of fun f => by (simp only [List.map_append, List.map_cons, List.map_nil, List.sum_append, List.sum_cons, List.sum_nil] <;> omega))
    refine DR.c 5 (DOp.op1 rfl (OpTo.callT Tryz.func69 hq3 (fun w' hm => wNum y2 he2 p.ac 2 (by decide) hpr.2.1 (by omega) hq3 w' hm)) ?_)
    rintro ⟨y3, hy3⟩
    obtain ⟨hb3, he3⟩ := Prod.mk.inj hy3
    dsimp only
    refine DR.done (by kernel_rfl) ?_
    refine x_ ?_
    have ln3 : y3.bs.length = d.bs.length + 3 := by rw [hb3, List.length_append, le_len, ln2]
    (repeat refine RC.seq ?_); refine RC.drawS mixed (N := 6) rfl ?_
    refine dy 0 ?_
    refine dy 1 ?_
    refine dy 2 ?_
    refine dy 3 ?_
    refine dy 4 ?_
    have hq4 : (y3.L ++ [(b5, Obj.cells F.toArray 177 (0, 0))]).Perm (y3.L ++ [(b5, Obj.cells F.toArray 177 (0, 0))]) := (perm_of fun f => by (simp only [List.map_append, List.map_cons, List.map_nil, List.sum_append, List.sum_cons, List.sum_nil] <;> omega))
    refine DR.c 5 (DOp.op1 rfl (OpTo.callT Tryz.func68 hq4 (fun w' hm => wHash y3 he3 p.o.1 p.o.2.1 (by omega) hq4 w' hm)) ?_)
    rintro ⟨y4, hy4⟩
    obtain ⟨hb4, he4⟩ := Prod.mk.inj hy4
    dsimp only
    refine DR.done (by kernel_rfl) ?_
    refine x_ ?_
    have ln4 : y4.bs.length = d.bs.length + 11 := by rw [hb4, List.length_append, p.o.2.1, ln3]
    (repeat refine RC.seq ?_); refine RC.drawS mixed (N := 6) rfl ?_
    refine dy 0 ?_
    refine dy 1 ?_
    refine dy 2 ?_
    refine dy 3 ?_
    refine dy 4 ?_
    have hq5 : (y4.L ++ [(b5, Obj.cells F.toArray 177 (0, 0))]).Perm (y4.L ++ [(b5, Obj.cells F.toArray 177 (0, 0))]) := (perm_of fun f => by (simp only [List.map_append, List.map_cons, List.map_nil, List.sum_append, List.sum_cons, List.sum_nil] <;> omega))
    refine DR.c 5 (DOp.op1 rfl (OpTo.callT Tryz.func69 hq5 (fun w' hm => wNum y4 he4 p.am 7 (by decide) hpr.2.2 (by omega) hq5 w' hm)) ?_)
    rintro ⟨y5, hy5⟩
    obtain ⟨hb5, he5⟩ := Prod.mk.inj hy5
    dsimp only
    refine DR.done (by kernel_rfl) ?_
    refine x_ ?_
    have ln5 : y5.bs.length = d.bs.length + 18 := by rw [hb5, List.length_append, le_len, ln4]
    exact RQ.up (k + 1) y5 (Nat.lt_succ_self _) hk' ⟨by rw [hb5, hb4, hb3, hb2, hdb, rowT _ hx, hbe]; simp only [List.append_assoc], he5⟩ ⟨rfl, rfl, rfl, rfl, trivial⟩ (List.sublist_append_left _ _)
  · have hk' : k = l.length := by have := of_decide_eq_false h; omega
    clear h
    subst hk'
    rw [List.take_length] at hdb
    (repeat refine RQ.thenExit ?_); refine RQ.blockHere ?_
    exact RQ.end0 rfl fun w' hm => Turns.of (Y := PutG 155 wb (x.bs ++ rowB FoD.b l, 0)) (V := fun _ => .tuple #[]) (L' := fun y => y.1.L) ⟨d, by rw [hdb, hde]; unfold rowB; rw [List.append_assoc]⟩ hm (Lr := []) (by rw [List.append_nil])
end Go.Proofs.YtfoeakgnkfcbjaaGreatDoor

/- tx: the writer of parameters, certificates, claims (gen_txs.py prints it). -/
namespace Go.Proofs.YtfoeakgnkfcbjaaGreatDoor
attribute [local irreducible] Go.Vc.Run Go.Vc.RC Go.Vc.RQ Go.Vc.DR Go.Vc.DOp Go.Vc.Knows Go.Vc.At
set_option maxHeartbeats 400000
open Go Go.Vc Go.Sha
theorem ks_len (l : List (By 8)) : (l.map (·.1)).flatten.length = l.length * 8 := by
  have := rowTl (b := fun k : By 8 => k.1) (sz := 8) (fun k => k.2.1) (Nat.le_refl l.length)
  rwa [List.take_length] at this
theorem _root_.Go.Vc.SrcA.put {w0 w : World} {S0 : List Nat} {L A B Lr : Hp} {sz n : Nat} {v : Value} {cs : List Value} (h : SrcA w0 A sz v n cs) (hS : S0 = A.map (·.1)) (hp : L.Perm (B ++ Lr)) (hm : Mem w0 S0 L w) (hz : 0 < sz) : SrcA w B sz v n cs := by
  subst hS
  have key : 0 < n → ∀ ad m c, v = .slice (some ad) m c → ad.block < w0.heap.size := fun hn ad m c hv => by
    obtain ⟨ad', c', hv', hc', hcl, hr⟩ := h.s.pos hn
    rw [hv] at hv'
    cases hv'
    have hlt : 0 < cs.length := by rw [hcl]; exact Nat.mul_pos hn hz
    have h1 : (ad.add 0).block < w0.heap.size := World.block_lt_of_cell? w0 _ (hr 0 _ (List.getElem?_eq_getElem hlt))
    rwa [add_block] at h1
  refine ⟨?_, fun hn ad m c hv hin => ?_⟩
  · have hs := h.s
    by_cases hn : 0 < n
    · obtain ⟨ad, c, hv, hc, hcl, hr⟩ := hs.pos hn
      have ha := h.a hn ad _ _ hv
      subst hv
      exact .at ad _ _ _ hcl hc fun j u hj => hm.fr.cell (by rw [add_block]; exact ha) (hr j u hj)
    · obtain ⟨a, c, rfl, hc⟩ := hs.shape
      have : n = 0 := by omega
      subst this
      have : cs = [] := List.eq_nil_of_length_eq_zero (by rw [hs.len]; omega)
      subst this
      cases hs with
      | nil => exact .nil
      | «at» ad _ _ _ hl hc hr => exact .at ad _ _ _ hl hc fun j u hj => by cases hj
  · obtain ⟨p, hp', e⟩ := List.mem_map.1 hin
    rcases (hm.perm hp).own p (List.mem_append_left _ hp') with ho | ho
    · have := key hn ad m c hv
      omega
    · exact h.a hn ad m c hv (by rw [← e]; exact ho)
set_option maxRecDepth 10000 in set_option maxHeartbeats 4000000 in
theorem Wparams_calls {wb : Nat} (x : TW wb) (he : x.e = 0) (p : PrD) (hr : p.rg) (hfit : x.bs.length + 4 + p.ks.length * 8 ≤ 131072) (a : Option Addr) (cap : Nat) (w : World) (hs : SrcA w x.L 8 (.slice a p.ks.length cap) p.ks.length (u8s (p.ks.map (·.1)).flatten)) (hw : Has x.L w) (hnd : (x.L.map (·.1)).Nodup) :
    Turns Tryz.prog 111 [.pointer (some ⟨wb, 0, none⟩), .agg (prC p (.slice a p.ks.length cap)).toArray] w x.L (Y := PutG 155 wb (x.bs ++ p.b, 0)) (fun _ => .tuple #[]) (fun y => y.1.L) := by
  refine enter Tryz.func111 rfl (Mem.init (S0 := x.L.map (·.1)) hw (fun p hp => List.mem_map_of_mem hp) hnd) rfl ?_
  have hbe : p.b = le p.ln.toNat 1 ++ (le p.wd.toNat 1 ++ (le p.nd.toNat 1 ++ (le p.ks.length 1 ++ (p.ks.map (fun k : By 8 => k.1)).flatten))) := rfl
  have r0 : rdAt ti3 (prC p (.slice a p.ks.length cap)).toArray 0 = some (.int .i64 p.ln) := rfl
  have r1 : rdAt ti3 (prC p (.slice a p.ks.length cap)).toArray 1 = some (.int .i64 p.wd) := rfl
  have r2 : rdAt ti3 (prC p (.slice a p.ks.length cap)).toArray 2 = some (.int .i64 p.nd) := rfl
  have r3 : rdAt ti52 (prC p (.slice a p.ks.length cap)).toArray 3 = some (.slice a p.ks.length cap) := rfl
  generalize prC p (.slice a p.ks.length cap) = F at r0 r1 r2 r3 ⊢
  refine z_ ?_
  refine Run.nw nbx ?_
  intro b3
  refine x_ ?_
  (repeat refine RC.seq ?_); refine RC.drawS mixed (N := 6) rfl ?_
  refine dy 0 ?_
  refine dy 1 ?_
  refine dy 2 ?_
  refine dy 3 ?_
  refine dy 4 ?_
  have hq1 : ((b3, Obj.cells F.toArray 54 (0, 0)) :: x.L).Perm (x.L ++ [(b3, Obj.cells F.toArray 54 (0, 0))]) := (perm_of fun f => by (simp only [List.map_append, List.map_cons, List.map_nil, List.sum_append, List.sum_cons, List.sum_nil] <;> omega))
  refine DR.c 5 (DOp.op1 rfl (OpTo.callT Tryz.func69 hq1 (fun w' hm => wNum x he p.ln 1 (by decide) hr.1 (by omega) hq1 w' hm)) ?_)
  rintro ⟨y1, hy1⟩
  obtain ⟨hb1, he1⟩ := Prod.mk.inj hy1
  dsimp only
  refine DR.done (by kernel_rfl) ?_
  refine x_ ?_
  have ln1 : y1.bs.length = x.bs.length + 1 := by (rw [hb1, List.length_append, le_len]; try omega)
  (repeat refine RC.seq ?_); refine RC.drawS mixed (N := 6) rfl ?_
  refine dy 0 ?_
  refine dy 1 ?_
  refine dy 2 ?_
  refine dy 3 ?_
  refine dy 4 ?_
  have hq2 : (y1.L ++ [(b3, Obj.cells F.toArray 54 (0, 0))]).Perm (y1.L ++ [(b3, Obj.cells F.toArray 54 (0, 0))]) := (perm_of fun f => by (simp only [List.map_append, List.map_cons, List.map_nil, List.sum_append, List.sum_cons, List.sum_nil] <;> omega))
  refine DR.c 5 (DOp.op1 rfl (OpTo.callT Tryz.func69 hq2 (fun w' hm => wNum y1 he1 p.wd 1 (by decide) hr.2.1 (by omega) hq2 w' hm)) ?_)
  rintro ⟨y2, hy2⟩
  obtain ⟨hb2, he2⟩ := Prod.mk.inj hy2
  dsimp only
  refine DR.done (by kernel_rfl) ?_
  refine x_ ?_
  have ln2 : y2.bs.length = x.bs.length + 2 := by (rw [hb2, List.length_append, le_len, ln1]; try omega)
  (repeat refine RC.seq ?_); refine RC.drawS mixed (N := 6) rfl ?_
  refine dy 0 ?_
  refine dy 1 ?_
  refine dy 2 ?_
  refine dy 3 ?_
  refine dy 4 ?_
  have hq3 : (y2.L ++ [(b3, Obj.cells F.toArray 54 (0, 0))]).Perm (y2.L ++ [(b3, Obj.cells F.toArray 54 (0, 0))]) := (perm_of fun f => by (simp only [List.map_append, List.map_cons, List.map_nil, List.sum_append, List.sum_cons, List.sum_nil] <;> omega))
  refine DR.c 5 (DOp.op1 rfl (OpTo.callT Tryz.func69 hq3 (fun w' hm => wNum y2 he2 p.nd 1 (by decide) hr.2.2.1 (by omega) hq3 w' hm)) ?_)
  rintro ⟨y3, hy3⟩
  obtain ⟨hb3, he3⟩ := Prod.mk.inj hy3
  dsimp only
  refine DR.done (by kernel_rfl) ?_
  refine x_ ?_
  have ln3 : y3.bs.length = x.bs.length + 3 := by (rw [hb3, List.length_append, le_len, ln2]; try omega)
  (repeat refine RC.seq ?_); refine RC.drawS mixed (N := 7) rfl ?_
  refine dy 0 ?_
  refine dy 1 ?_
  refine dy 2 ?_
  refine dy 3 ?_
  refine dy 4 ?_
  refine dy 5 ?_
  have hq4 : (y3.L ++ [(b3, Obj.cells F.toArray 54 (0, 0))]).Perm (y3.L ++ [(b3, Obj.cells F.toArray 54 (0, 0))]) := (perm_of fun f => by (simp only [List.map_append, List.map_cons, List.map_nil, List.sum_append, List.sum_cons, List.sum_nil] <;> omega))
  refine DR.c 6 (DOp.op1 rfl (OpTo.callT Tryz.func69 hq4 (fun w' hm => wNum y3 he3 (p.ks.length : Int) 1 (by decide) (rg1 hr.2.2.2) (by omega) hq4 w' hm)) ?_)
  rintro ⟨y4, hy4⟩
  obtain ⟨hb4, he4⟩ := Prod.mk.inj hy4
  dsimp only
  refine DR.done (by kernel_rfl) ?_
  refine x_ ?_
  rw [Int.toNat_natCast] at hb4
  have ln4 : y4.bs.length = x.bs.length + 4 := by (rw [hb4, List.length_append, le_len, ln3]; try omega)
  have hq5 : (y4.L ++ [(b3, Obj.cells F.toArray 54 (0, 0))]).Perm (y4.L ++ [(b3, Obj.cells F.toArray 54 (0, 0))]) := (perm_of fun f => by (simp only [List.map_append, List.map_cons, List.map_nil, List.sum_append, List.sum_cons, List.sum_nil] <;> omega))
  refine Run.op1 (OpTo.callT Tryz.func149 hq5 (fun w' hm => Wrow_calls y4 he4 p.ks.length (p.ks.map (fun k : By 8 => k.1)).flatten (ks_len p.ks) (by omega) w' (hs.put rfl hq5 hm (by decide)) (hasFs hq5 hm).1 (hasFs hq5 hm).2)) ?_
  rintro ⟨y5, hy5⟩
  obtain ⟨hb5, he5⟩ := Prod.mk.inj hy5
  dsimp only
  refine x_ ?_
  have ln5 : y5.bs.length = x.bs.length + 4 + p.ks.length * 8 := by (rw [hb5, List.length_append, ks_len, ln4]; try omega)
  exact RQ.end0 rfl fun w' hm => Turns.of (Y := PutG 155 wb (x.bs ++ p.b, 0)) (V := fun _ => .tuple #[]) (L' := fun y => y.1.L) ⟨y5, by rw [hb5, hb4, hb3, hb2, hb1, he5, hbe, List.append_assoc, List.append_assoc, List.append_assoc, List.append_assoc]⟩ hm (Lr := [(b3, Obj.cells F.toArray 54 (0, 0))]) (List.Perm.refl _)
theorem ClD.eq (l : ClD) : l.c = (.int .i64 l.sd :: .int .i64 l.ac :: (u8s l.o.1 ++ [.int .i64 l.am, .int .i64 l.no])) ++ (u8s l.pf.1 ++ []) := by
  rw [List.append_nil]
  unfold ClD.c
  simp only [List.cons_append, List.append_assoc, List.nil_append]
theorem ClD.at12 (l : ClD) : ∀ j u, (u8s l.pf.1)[j]? = some u → l.c[12 + j]? = some u := mid_at l.eq (by simp only [List.length_cons, List.length_append, List.length_nil, u8s_len, l.o.2.1])
set_option maxRecDepth 10000 in set_option maxHeartbeats 4000000 in
theorem Wclaim_calls {wb : Nat} (x : TW wb) (he : x.e = 0) (l : ClD) (hr : l.rg) (hfit : x.bs.length + 147 ≤ 131072) (w : World) (hw : Has x.L w) (hnd : (x.L.map (·.1)).Nodup) :
    Turns Tryz.prog 113 [.pointer (some ⟨wb, 0, none⟩), .agg l.c.toArray] w x.L (Y := PutG 155 wb (x.bs ++ l.b, 0)) (fun _ => .tuple #[]) (fun y => y.1.L) := by
  refine enter Tryz.func113 rfl (Mem.init (S0 := x.L.map (·.1)) hw (fun p hp => List.mem_map_of_mem hp) hnd) rfl ?_
  have hbe : l.b = le l.sd.toNat 1 ++ (le l.ac.toNat 2 ++ (l.o.1 ++ (le l.am.toNat 7 ++ (le l.no.toNat 1 ++ l.pf.1)))) := rfl
  have a12 := l.at12
  obtain ⟨r0, r1, r2, r10, r11⟩ := cl_rd l
  generalize l.c = F at r0 r1 r2 r10 r11 a12 ⊢
  refine z_ ?_
  refine Run.nw nbx ?_
  intro b3
  refine x_ ?_
  (repeat refine RC.seq ?_); refine RC.drawS mixed (N := 6) rfl ?_
  refine dy 0 ?_
  refine dy 1 ?_
  refine dy 2 ?_
  refine dy 3 ?_
  refine dy 4 ?_
  have hq1 : ((b3, Obj.cells F.toArray 62 (0, 0)) :: x.L).Perm (x.L ++ [(b3, Obj.cells F.toArray 62 (0, 0))]) := (perm_of fun f => by (simp only [List.map_append, List.map_cons, List.map_nil, List.sum_append, List.sum_cons, List.sum_nil] <;> omega))
  refine DR.c 5 (DOp.op1 rfl (OpTo.callT Tryz.func69 hq1 (fun w' hm => wNum x he l.sd 1 (by decide) hr.1 (by omega) hq1 w' hm)) ?_)
  rintro ⟨y1, hy1⟩
  obtain ⟨hb1, he1⟩ := Prod.mk.inj hy1
  dsimp only
  refine DR.done (by kernel_rfl) ?_
  refine x_ ?_
  have ln1 : y1.bs.length = x.bs.length + 1 := by (rw [hb1, List.length_append, le_len]; try omega)
  (repeat refine RC.seq ?_); refine RC.drawS mixed (N := 6) rfl ?_
  refine dy 0 ?_
  refine dy 1 ?_
  refine dy 2 ?_
  refine dy 3 ?_
  refine dy 4 ?_
  have hq2 : (y1.L ++ [(b3, Obj.cells F.toArray 62 (0, 0))]).Perm (y1.L ++ [(b3, Obj.cells F.toArray 62 (0, 0))]) := (perm_of fun f => by (simp only [List.map_append, List.map_cons, List.map_nil, List.sum_append, List.sum_cons, List.sum_nil] <;> omega))
  refine DR.c 5 (DOp.op1 rfl (OpTo.callT Tryz.func69 hq2 (fun w' hm => wNum y1 he1 l.ac 2 (by decide) hr.2.1 (by omega) hq2 w' hm)) ?_)
  rintro ⟨y2, hy2⟩
  obtain ⟨hb2, he2⟩ := Prod.mk.inj hy2
  dsimp only
  refine DR.done (by kernel_rfl) ?_
  refine x_ ?_
  have ln2 : y2.bs.length = x.bs.length + 3 := by (rw [hb2, List.length_append, le_len, ln1]; try omega)
  (repeat refine RC.seq ?_); refine RC.drawS mixed (N := 7) rfl ?_
  refine dy 0 ?_
  refine dy 1 ?_
  refine dy 2 ?_
  refine dy 3 ?_
  refine dy 4 ?_
  refine dy 5 ?_
  have hq3 : (y2.L ++ [(b3, Obj.cells F.toArray 62 (0, 0))]).Perm (y2.L ++ [(b3, Obj.cells F.toArray 62 (0, 0))]) := (perm_of fun f => by (simp only [List.map_append, List.map_cons, List.map_nil, List.sum_append, List.sum_cons, List.sum_nil] <;> omega))
  refine DR.c 6 (DOp.op1 rfl (OpTo.callT Tryz.func68 hq3 (fun w' hm => wHash y2 he2 l.o.1 l.o.2.1 (by omega) hq3 w' hm)) ?_)
  rintro ⟨y3, hy3⟩
  obtain ⟨hb3, he3⟩ := Prod.mk.inj hy3
  dsimp only
  refine DR.done (by kernel_rfl) ?_
  refine x_ ?_
  have ln3 : y3.bs.length = x.bs.length + 11 := by (rw [hb3, List.length_append, l.o.2.1, ln2]; try omega)
  (repeat refine RC.seq ?_); refine RC.drawS mixed (N := 7) rfl ?_
  refine dy 0 ?_
  refine dy 1 ?_
  refine dy 2 ?_
  refine dy 3 ?_
  refine dy 4 ?_
  refine dy 5 ?_
  have hq4 : (y3.L ++ [(b3, Obj.cells F.toArray 62 (0, 0))]).Perm (y3.L ++ [(b3, Obj.cells F.toArray 62 (0, 0))]) := (perm_of fun f => by (simp only [List.map_append, List.map_cons, List.map_nil, List.sum_append, List.sum_cons, List.sum_nil] <;> omega))
  refine DR.c 6 (DOp.op1 rfl (OpTo.callT Tryz.func69 hq4 (fun w' hm => wNum y3 he3 l.am 7 (by decide) hr.2.2.1 (by omega) hq4 w' hm)) ?_)
  rintro ⟨y4, hy4⟩
  obtain ⟨hb4, he4⟩ := Prod.mk.inj hy4
  dsimp only
  refine DR.done (by kernel_rfl) ?_
  refine x_ ?_
  have ln4 : y4.bs.length = x.bs.length + 18 := by (rw [hb4, List.length_append, le_len, ln3]; try omega)
  (repeat refine RC.seq ?_); refine RC.drawS mixed (N := 7) rfl ?_
  refine dy 0 ?_
  refine dy 1 ?_
  refine dy 2 ?_
  refine dy 3 ?_
  refine dy 4 ?_
  refine dy 5 ?_
  have hq5 : (y4.L ++ [(b3, Obj.cells F.toArray 62 (0, 0))]).Perm (y4.L ++ [(b3, Obj.cells F.toArray 62 (0, 0))]) := (perm_of fun f => by (simp only [List.map_append, List.map_cons, List.map_nil, List.sum_append, List.sum_cons, List.sum_nil] <;> omega))
  refine DR.c 6 (DOp.op1 rfl (OpTo.callT Tryz.func69 hq5 (fun w' hm => wNum y4 he4 l.no 1 (by decide) hr.2.2.2 (by omega) hq5 w' hm)) ?_)
  rintro ⟨y5, hy5⟩
  obtain ⟨hb5, he5⟩ := Prod.mk.inj hy5
  dsimp only
  refine DR.done (by kernel_rfl) ?_
  refine x_ ?_
  have ln5 : y5.bs.length = x.bs.length + 19 := by (rw [hb5, List.length_append, le_len, ln4]; try omega)
  refine Run.a (Val.sliceA tabOk rfl rfl rfl rfl rfl) ?_
  refine x_ ?_
  have hq6 : (y5.L ++ [(b3, Obj.cells F.toArray 62 (0, 0))]).Perm (y5.L ++ [(b3, Obj.cells F.toArray 62 (0, 0))]) := (perm_of fun f => by (simp only [List.map_append, List.map_cons, List.map_nil, List.sum_append, List.sum_cons, List.sum_nil] <;> omega))
  refine Run.op1 (OpTo.callT Tryz.func149 hq6 (fun w' hm => Wrow_calls y5 he5 16 l.pf.1 l.pf.2.1 (by omega) w' (SrcA.ofRow hq6 hm List.mem_cons_self (by rw [u8s_len, l.pf.2.1]) a12) (hasFs hq6 hm).1 (hasFs hq6 hm).2)) ?_
  rintro ⟨y6, hy6⟩
  obtain ⟨hb6, he6⟩ := Prod.mk.inj hy6
  dsimp only
  refine x_ ?_
  have ln6 : y6.bs.length = x.bs.length + 147 := by (rw [hb6, List.length_append, l.pf.2.1, ln5]; try omega)
  exact RQ.end0 rfl fun w' hm => Turns.of (Y := PutG 155 wb (x.bs ++ l.b, 0)) (V := fun _ => .tuple #[]) (L' := fun y => y.1.L) ⟨y6, by rw [hb6, hb5, hb4, hb3, hb2, hb1, he6, hbe, List.append_assoc, List.append_assoc, List.append_assoc, List.append_assoc, List.append_assoc]⟩ hm (Lr := [(b3, Obj.cells F.toArray 62 (0, 0))]) (List.Perm.refl _)
set_option maxRecDepth 10000 in set_option maxHeartbeats 4000000 in
theorem Wcert_calls {wb : Nat} (x : TW wb) (he : x.e = 0) (c : CeD) (hr : c.rg) (hfit : x.bs.length + 27 + c.os.length * 15 + c.sg.length * 282 ≤ 131072) (a : Option Addr) (cap : Nat) (aA : Option Addr) (cA : Nat) (w : World) (hs : SrcA w x.L 9 (.slice a c.os.length cap) c.os.length (rws OutD.c c.os)) (hg : SrcA w x.L 282 (.slice aA c.sg.length cA) c.sg.length (rws SgD.c c.sg)) (hw : Has x.L w) (hnd : (x.L.map (·.1)).Nodup) :
    Turns Tryz.prog 112 [.pointer (some ⟨wb, 0, none⟩), .agg (ceC c (.slice a c.os.length cap) (.slice aA c.sg.length cA)).toArray] w x.L (Y := PutG 155 wb (x.bs ++ c.b, 0)) (fun _ => .tuple #[]) (fun y => y.1.L) := by
  refine enter Tryz.func112 rfl (Mem.init (S0 := x.L.map (·.1)) hw (fun p hp => List.mem_map_of_mem hp) hnd) rfl ?_
  have hbe : c.b = le c.sd.toNat 1 ++ (le c.ep.toNat 4 ++ (le c.ql.toNat 4 ++ (c.en.1 ++ (c.ro.1 ++ (rowB OutD.b c.os ++ rowB SgD.b c.sg))))) := rfl
  obtain ⟨r0, r1, r2, r3, r11, r19, r20⟩ := ce_rd c (.slice a c.os.length cap) (.slice aA c.sg.length cA)
  generalize ceC c (.slice a c.os.length cap) (.slice aA c.sg.length cA) = F at r0 r1 r2 r3 r11 r19 r20 ⊢
  refine z_ ?_
  refine Run.nw nbx ?_
  intro b3
  refine x_ ?_
  (repeat refine RC.seq ?_); refine RC.drawS mixed (N := 6) rfl ?_
  refine dy 0 ?_
  refine dy 1 ?_
  refine dy 2 ?_
  refine dy 3 ?_
  refine dy 4 ?_
  have hq1 : ((b3, Obj.cells F.toArray 57 (0, 0)) :: x.L).Perm (x.L ++ [(b3, Obj.cells F.toArray 57 (0, 0))]) := (perm_of fun f => by (simp only [List.map_append, List.map_cons, List.map_nil, List.sum_append, List.sum_cons, List.sum_nil] <;> omega))
  refine DR.c 5 (DOp.op1 rfl (OpTo.callT Tryz.func69 hq1 (fun w' hm => wNum x he c.sd 1 (by decide) hr.1 (by omega) hq1 w' hm)) ?_)
  rintro ⟨y1, hy1⟩
  obtain ⟨hb1, he1⟩ := Prod.mk.inj hy1
  dsimp only
  refine DR.done (by kernel_rfl) ?_
  refine x_ ?_
  have ln1 : y1.bs.length = x.bs.length + 1 := by (rw [hb1, List.length_append, le_len]; try omega)
  (repeat refine RC.seq ?_); refine RC.drawS mixed (N := 6) rfl ?_
  refine dy 0 ?_
  refine dy 1 ?_
  refine dy 2 ?_
  refine dy 3 ?_
  refine dy 4 ?_
  have hq2 : (y1.L ++ [(b3, Obj.cells F.toArray 57 (0, 0))]).Perm (y1.L ++ [(b3, Obj.cells F.toArray 57 (0, 0))]) := (perm_of fun f => by (simp only [List.map_append, List.map_cons, List.map_nil, List.sum_append, List.sum_cons, List.sum_nil] <;> omega))
  refine DR.c 5 (DOp.op1 rfl (OpTo.callT Tryz.func69 hq2 (fun w' hm => wNum y1 he1 c.ep 4 (by decide) hr.2.1 (by omega) hq2 w' hm)) ?_)
  rintro ⟨y2, hy2⟩
  obtain ⟨hb2, he2⟩ := Prod.mk.inj hy2
  dsimp only
  refine DR.done (by kernel_rfl) ?_
  refine x_ ?_
  have ln2 : y2.bs.length = x.bs.length + 5 := by (rw [hb2, List.length_append, le_len, ln1]; try omega)
  (repeat refine RC.seq ?_); refine RC.drawS mixed (N := 6) rfl ?_
  refine dy 0 ?_
  refine dy 1 ?_
  refine dy 2 ?_
  refine dy 3 ?_
  refine dy 4 ?_
  have hq3 : (y2.L ++ [(b3, Obj.cells F.toArray 57 (0, 0))]).Perm (y2.L ++ [(b3, Obj.cells F.toArray 57 (0, 0))]) := (perm_of fun f => by (simp only [List.map_append, List.map_cons, List.map_nil, List.sum_append, List.sum_cons, List.sum_nil] <;> omega))
  refine DR.c 5 (DOp.op1 rfl (OpTo.callT Tryz.func69 hq3 (fun w' hm => wNum y2 he2 c.ql 4 (by decide) hr.2.2.1 (by omega) hq3 w' hm)) ?_)
  rintro ⟨y3, hy3⟩
  obtain ⟨hb3, he3⟩ := Prod.mk.inj hy3
  dsimp only
  refine DR.done (by kernel_rfl) ?_
  refine x_ ?_
  have ln3 : y3.bs.length = x.bs.length + 9 := by (rw [hb3, List.length_append, le_len, ln2]; try omega)
  (repeat refine RC.seq ?_); refine RC.drawS mixed (N := 6) rfl ?_
  refine dy 0 ?_
  refine dy 1 ?_
  refine dy 2 ?_
  refine dy 3 ?_
  refine dy 4 ?_
  have hq4 : (y3.L ++ [(b3, Obj.cells F.toArray 57 (0, 0))]).Perm (y3.L ++ [(b3, Obj.cells F.toArray 57 (0, 0))]) := (perm_of fun f => by (simp only [List.map_append, List.map_cons, List.map_nil, List.sum_append, List.sum_cons, List.sum_nil] <;> omega))
  refine DR.c 5 (DOp.op1 rfl (OpTo.callT Tryz.func68 hq4 (fun w' hm => wHash y3 he3 c.en.1 c.en.2.1 (by omega) hq4 w' hm)) ?_)
  rintro ⟨y4, hy4⟩
  obtain ⟨hb4, he4⟩ := Prod.mk.inj hy4
  dsimp only
  refine DR.done (by kernel_rfl) ?_
  refine x_ ?_
  have ln4 : y4.bs.length = x.bs.length + 17 := by (rw [hb4, List.length_append, c.en.2.1, ln3]; try omega)
  (repeat refine RC.seq ?_); refine RC.drawS mixed (N := 6) rfl ?_
  refine dy 0 ?_
  refine dy 1 ?_
  refine dy 2 ?_
  refine dy 3 ?_
  refine dy 4 ?_
  have hq5 : (y4.L ++ [(b3, Obj.cells F.toArray 57 (0, 0))]).Perm (y4.L ++ [(b3, Obj.cells F.toArray 57 (0, 0))]) := (perm_of fun f => by (simp only [List.map_append, List.map_cons, List.map_nil, List.sum_append, List.sum_cons, List.sum_nil] <;> omega))
  refine DR.c 5 (DOp.op1 rfl (OpTo.callT Tryz.func68 hq5 (fun w' hm => wHash y4 he4 c.ro.1 c.ro.2.1 (by omega) hq5 w' hm)) ?_)
  rintro ⟨y5, hy5⟩
  obtain ⟨hb5, he5⟩ := Prod.mk.inj hy5
  dsimp only
  refine DR.done (by kernel_rfl) ?_
  refine x_ ?_
  have ln5 : y5.bs.length = x.bs.length + 25 := by (rw [hb5, List.length_append, c.ro.2.1, ln4]; try omega)
  have hq6 : (y5.L ++ [(b3, Obj.cells F.toArray 57 (0, 0))]).Perm (y5.L ++ [(b3, Obj.cells F.toArray 57 (0, 0))]) := (perm_of fun f => by (simp only [List.map_append, List.map_cons, List.map_nil, List.sum_append, List.sum_cons, List.sum_nil] <;> omega))
  refine Run.op1 (OpTo.callT Tryz.func108 hq6 (fun w' hm => Wouts_calls y5 he5 c.os hr.2.2.2.1 (by omega) w' (hs.put rfl hq6 hm (by decide)) (hasFs hq6 hm).1 (hasFs hq6 hm).2)) ?_
  rintro ⟨y6, hy6⟩
  obtain ⟨hb6, he6⟩ := Prod.mk.inj hy6
  dsimp only
  refine x_ ?_
  have ln6 : y6.bs.length = x.bs.length + 25 + (1 + c.os.length * 15) := by (rw [hb6, List.length_append, rowB_len OutD.bl, ln5]; try omega)
  (repeat refine RC.seq ?_); refine RC.drawS mixed (N := 7) rfl ?_
  refine dy 0 ?_
  refine dy 1 ?_
  refine dy 2 ?_
  refine dy 3 ?_
  refine dy 4 ?_
  refine dy 5 ?_
  have hq7 : (y6.L ++ [(b3, Obj.cells F.toArray 57 (0, 0))]).Perm (y6.L ++ [(b3, Obj.cells F.toArray 57 (0, 0))]) := (perm_of fun f => by (simp only [List.map_append, List.map_cons, List.map_nil, List.sum_append, List.sum_cons, List.sum_nil] <;> omega))
  refine DR.c 6 (DOp.op1 rfl (OpTo.callT Tryz.func69 hq7 (fun w' hm => wNum y6 he6 (c.sg.length : Int) 1 (by decide) (rg1 hr.2.2.2.2.1) (by omega) hq7 w' hm)) ?_)
  rintro ⟨y7, hy7⟩
  obtain ⟨hb7, he7⟩ := Prod.mk.inj hy7
  dsimp only
  refine DR.done (by kernel_rfl) ?_
  refine x_ ?_
  rw [Int.toNat_natCast] at hb7
  have ln7 : y7.bs.length = x.bs.length + 26 + (1 + c.os.length * 15) := by (rw [hb7, List.length_append, le_len, ln6]; try omega)
  refine RC.up c.sg.length (D := TW wb) (fun k d => d.bs = y7.bs ++ ((c.sg.take k).map SgD.b).flatten ∧ d.e = 0) (fun k _ => [(50, .int .i64 k), (49, .int .i64 c.sg.length), (48, .slice aA c.sg.length cA), (0, .pointer (some ⟨wb, 0, none⟩))]) (fun _ d => d.L) 0 y7 (Nat.zero_le _) ⟨by simp, he7⟩ ⟨rfl, rfl, rfl, rfl, trivial⟩ (List.sublist_append_left _ _) ?_
  rintro k d hk ⟨hdb, hde⟩
  refine x_ ?_
  (repeat refine RC.seq ?_); refine RC.wh rfl (fun h => RQ.next ?_) (fun h => ?_)
  · have hk' : k < c.sg.length := by have := of_decide_eq_true h; omega
    clear h
    obtain ⟨p, hx⟩ : ∃ p, c.sg[k]? = some p := ⟨_, List.getElem?_eq_getElem hk'⟩
    have hpr := hr.2.2.2.2.2 p (List.mem_of_getElem? hx)
    obtain ⟨ad, c', hv', hc', hcl, hrr⟩ := hg.s.pos (by omega)
    cases hv'
    have hS := hg.a (by omega) ad _ _ rfl
    have hS' : (ad.add (k * 282)).block ∉ x.L.map (·.1) := by rw [add_block]; exact hS
    have hbl : d.bs.length = y7.bs.length + k * 282 := by rw [hdb, List.length_append, rowTl SgD.bl hk]
    have q1 : At w (ad.add (k * 282)) p.c := At.mk fun j u hj => by rw [add_add]; exact hrr _ u (rws_at SgD.len hx j u hj)
    have hcl2 : p.c.length = 282 := p.len
    have n1 := p.one
    have s0 : rdAt ti3 p.c.toArray 0 = some (.int .i64 p.k) := rd_one rfl rfl
    have s1 : rdAt ti171 p.c.toArray 1 = some (.agg p.s.c.toArray) := rd_mid (pre := [.int .i64 p.k]) (post := []) (by rw [List.append_nil]; rfl) rfl p.s.len (by decide) rfl
    have hpe : p.b = le p.k.toNat 1 ++ p.s.b := rfl
    generalize p.c = H at q1 hcl2 n1 s0 s1
    refine x_ ?_
    refine Run.nw nal ?_
    intro b5
    refine x_ ?_
    refine Run.op1 (osa (arr := ti188.zero.cells) H.toArray n1 (hs := by rw [List.size_toArray, hcl2]; rfl)) (fun _ => ?_)
    refine x_ ?_
    (repeat refine RC.seq ?_); refine RC.drawS mixed (N := 6) rfl ?_
    refine dy 0 ?_
    refine dy 1 ?_
    refine dy 2 ?_
    refine dy 3 ?_
    refine dy 4 ?_
    have hq8 : ((b5, Obj.cells H.toArray 188 (0, 0)) :: d.L).Perm (d.L ++ [(b5, Obj.cells H.toArray 188 (0, 0))]) := (perm_of fun f => by (simp only [List.map_append, List.map_cons, List.map_nil, List.sum_append, List.sum_cons, List.sum_nil] <;> omega))
    refine DR.c 5 (DOp.op1 rfl (OpTo.callT Tryz.func69 hq8 (fun w' hm => wNum d hde p.k 1 (by decide) hpr.1 (by omega) hq8 w' hm)) ?_)
    rintro ⟨y8, hy8⟩
    obtain ⟨hb8, he8⟩ := Prod.mk.inj hy8
    dsimp only
    refine DR.done (by kernel_rfl) ?_
    refine x_ ?_
    have ln8 : y8.bs.length = d.bs.length + 1 := by rw [hb8, List.length_append, le_len]
    have hq9 : (y8.L ++ [(b5, Obj.cells H.toArray 188 (0, 0))]).Perm (y8.L ++ [(b5, Obj.cells H.toArray 188 (0, 0))]) := (perm_of fun f => by (simp only [List.map_append, List.map_cons, List.map_nil, List.sum_append, List.sum_cons, List.sum_nil] <;> omega))
    refine Run.op1 (OpTo.callT Tryz.func148 hq9 (fun w' hm => Wsig_calls y8 he8 p.s hpr.2 (by omega) w' (hasFs hq9 hm).1 (hasFs hq9 hm).2)) ?_
    rintro ⟨y9, hy9⟩
    obtain ⟨hb9, he9⟩ := Prod.mk.inj hy9
    dsimp only
    refine x_ ?_
    exact RQ.up (k + 1) y9 (Nat.lt_succ_self _) hk' ⟨by rw [hb9, hb8, hdb, rowT _ hx, hpe]; simp only [List.append_assoc], he9⟩ ⟨rfl, rfl, rfl, rfl, trivial⟩ (List.sublist_append_left _ _)
  · have hk' : k = c.sg.length := by have := of_decide_eq_false h; omega
    clear h
    rw [hk', List.take_length] at hdb
    (repeat refine RQ.thenExit ?_); refine RQ.blockHere ?_
    exact RQ.end0 rfl fun w' hm => Turns.of (Y := PutG 155 wb (x.bs ++ c.b, 0)) (V := fun _ => .tuple #[]) (L' := fun y => y.1.L) ⟨d, by rw [hdb, hde, hb7, hb6, hb5, hb4, hb3, hb2, hb1, hbe]; unfold rowB; simp only [List.append_assoc]⟩ hm (Lr := []) (by rw [List.append_nil])
end Go.Proofs.YtfoeakgnkfcbjaaGreatDoor

/- tx: Encode (gen_txt.py prints it). -/
namespace Go.Vc
open Go Go.Sha
theorem SrcA.top {w0 w : World} {L A Lr : Hp} {sz n : Nat} {v : Value} {cs : List Value} (h : SrcW w0 sz v n cs) (hp : L.Perm (A ++ Lr)) (hm : Mem w0 [] L w) (hz : 0 < sz) : SrcA w A sz v n cs :=
  SrcA.old h hz hm.fr fun p hp' => ((hm.perm hp).own p (List.mem_append_left _ hp')).resolve_right (by simp)
end Go.Vc
namespace Go.Proofs.YtfoeakgnkfcbjaaGreatDoor
attribute [local irreducible] Go.Vc.Run Go.Vc.RC Go.Vc.RQ Go.Vc.DR Go.Vc.DOp Go.Vc.Knows Go.Vc.At
set_option maxHeartbeats 400000
open Go Go.Vc Go.Sha
/-- What Encode answers. -/
noncomputable def encB (t : TxD) : List Nat := if TxMay t then t.b else []
noncomputable def encE (t : TxD) : Int := if TxMay t then 0 else 1
abbrev EncY (t : TxD) := {p : Value × Hp // Own 5 1 p.1 (encB t).length (u8s (encB t)) p.2}
/-- It encodes. -/
def EncT (f : FuncId) (t : TxD) (v : TxV) (w : World) : Prop := Turns Tryz.prog f [.agg (txC t v).toArray] w [] (Y := EncY t) (fun y => .tuple #[y.1.1, .int .i64 (encE t)]) (fun y => y.1.2)
set_option maxRecDepth 10000 in set_option maxHeartbeats 4000000 in
theorem TEncode_calls (t : TxD) (v : TxV) (hln : TxLn t) (w : World) (ht : TxAt w t v) : EncT 70 t v w := by
  unfold EncT
  refine enter Tryz.func70 rfl (Mem.nil w []) rfl ?_
  have c0 : Knows Tryz.prog w 81 [.agg (txC t v).toArray] (.bool (decide (TxMay t))) := Knows.mk Tryz.func81 (fun w' hf => TMay_calls t v hln w' (ht.fr hf))
  obtain ⟨rk, rh, ri, ro, rf, rp, _, rc, _, _, _, _, rl⟩ := tx_rd t v
  have hFs : (txC t v).toArray.size = 170 := by rw [List.size_toArray, txC_len]
  generalize txC t v = F at rk rh ri ro rf rp rc rl c0 hFs ⊢
  refine z_ ?_
  refine Run.nw nbx ?_
  intro b1
  by_cases hm : TxMay t
  rotate_left
  · rw [decide_eq_false hm] at c0
    have hE : encE t = 1 := if_neg hm
    have hB : encB t = [] := if_neg hm
    rw [hE]
    refine x_ ?_
    exact RQ.ret2 rfl (Res.tmp rfl) (Res.tmp rfl) fun w' hm => Turns.of (Y := EncY t) (V := fun y => .tuple #[y.1.1, .int .i64 1]) (L' := fun y => y.1.2) (Lst := []) ⟨(.slice none 0 0, []), by rw [hB]; exact Own.nil⟩ hm (Lr := _) (List.Perm.refl _)
  rw [decide_eq_true hm] at c0
  have hE : encE t = 0 := if_pos hm
  have hB : encB t = t.b := if_pos hm
  rw [hE]
  have hlen := hm.bl
  have hM := (TxMay.iff t).1 hm
  have hkr : rg 1 t.kd := ⟨by have := hM.k; omega, by have := hM.k; omega⟩
  refine x_ ?_
  refine Run.nw nbx ?_
  intro wb
  refine x_ ?_
  obtain ⟨x, hx⟩ : ∃ x : TW wb, x = ⟨.slice none 0 0, [], [], 0, Own.nil, by simp, by simp⟩ := ⟨_, rfl⟩
  have hxL : [(wb, Obj.cells #[.slice none 0 0, .int .i64 0] 155 (0, 0)), (b1, Obj.cells F.toArray 64 (0, 0))] = x.L ++ [(b1, Obj.cells F.toArray 64 (0, 0))] := by rw [hx]; rfl
  have he : x.e = 0 := by rw [hx]
  have hb0 : x.bs = [] := by rw [hx]
  have hl0 : x.bs.length = 0 := by rw [hb0]; rfl
  refine RC.perm (L' := x.L ++ [(b1, Obj.cells F.toArray 64 (0, 0))]) (by rw [← hxL]; exact List.Perm.refl _) ?_
  (repeat refine RC.seq ?_); refine RC.drawS mixed (N := 6) rfl ?_
  refine dy 0 ?_
  refine dy 1 ?_
  refine dy 2 ?_
  refine dy 3 ?_
  refine dy 4 ?_
  have hq1 : (x.L ++ [(b1, Obj.cells F.toArray 64 (0, 0))]).Perm (x.L ++ [(b1, Obj.cells F.toArray 64 (0, 0))]) := (perm_of fun f => by (simp only [List.map_append, List.map_cons, List.map_nil, List.sum_append, List.sum_cons, List.sum_nil] <;> omega))
  refine DR.c 5 (DOp.op1 rfl (OpTo.callT Tryz.func69 hq1 (fun w' hm => wNum x he t.kd 1 (by decide) hkr (by omega) hq1 w' hm)) ?_)
  rintro ⟨y1, hy1⟩
  obtain ⟨hb1, he1⟩ := Prod.mk.inj hy1
  dsimp only
  refine DR.done (by kernel_rfl) ?_
  have ln1 : y1.bs.length = 1 := by rw [hb1, List.length_append, le_len, hl0]
  by_cases hk : t.kd = 1
  · refine x_ ?_
    have hw2 := (hM.m1 hk).2.2
    (repeat refine RC.seq ?_); refine RC.drawS mixed (N := 6) rfl ?_
    refine dy 0 ?_
    refine dy 1 ?_
    refine dy 2 ?_
    refine dy 3 ?_
    refine dy 4 ?_
    have hq2 : (y1.L ++ [(b1, Obj.cells F.toArray 64 (0, 0))]).Perm (y1.L ++ [(b1, Obj.cells F.toArray 64 (0, 0))]) := (perm_of fun f => by (simp only [List.map_append, List.map_cons, List.map_nil, List.sum_append, List.sum_cons, List.sum_nil] <;> omega))
    refine DR.c 5 (DOp.op1 rfl (OpTo.callT Tryz.func69 hq2 (fun w' hm => wNum y1 he1 t.ht 4 (by decide) (rg_of (by have := hM.m1 hk; omega) (by have := hM.m1 hk; show t.ht < 4294967296; omega)) (by omega) hq2 w' hm)) ?_)
    rintro ⟨y2, hy2⟩
    obtain ⟨hb2, he2⟩ := Prod.mk.inj hy2
    dsimp only
    refine DR.done (by kernel_rfl) ?_
    refine x_ ?_
    have ln2 : y2.bs.length = y1.bs.length + (le t.ht.toNat 4).length := by rw [hb2, List.length_append]
    rw [le_len, ln1] at ln2
    have hq3 : (y2.L ++ [(b1, Obj.cells F.toArray 64 (0, 0))]).Perm (y2.L ++ [(b1, Obj.cells F.toArray 64 (0, 0))]) := (perm_of fun f => by (simp only [List.map_append, List.map_cons, List.map_nil, List.sum_append, List.sum_cons, List.sum_nil] <;> omega))
    refine Run.op1 (OpTo.callT Tryz.func108 hq3 (fun w' hm => Wouts_calls y2 he2 t.os (mayO_rg (hM.m1 hk).2) (by omega) w' (SrcA.top ht.o hq3 hm (by decide)) (hasFs hq3 hm).1 (hasFs hq3 hm).2)) ?_
    rintro ⟨y3, hy3⟩
    obtain ⟨hb3, he3⟩ := Prod.mk.inj hy3
    dsimp only
    refine x_ ?_
    have ln3 : y3.bs.length = y2.bs.length + (rowB OutD.b t.os).length := by rw [hb3, List.length_append]
    rw [rowB_len OutD.bl, ln2] at ln3
    have htb : t.b = le t.kd.toNat 1 ++ (le t.ht.toNat 4 ++ (rowB OutD.b t.os)) := by unfold TxD.b; rw [if_pos hk]
    have hyb : y3.bs = t.b := by rw [hb3, hb2, hb1, hb0, htb]; simp only [List.nil_append, List.append_assoc]
    have hz0 : (y3.L ++ [(b1, Obj.cells F.toArray 64 (0, 0))]).Perm ([] ++ (y3.L ++ [(b1, Obj.cells F.toArray 64 (0, 0))])) := List.Perm.refl _
    refine Run.op1 (OpTo.callT Tryz.func72 hz0 (fun w' hm' => WEnd_calls y3 w' (fun p hp => hm'.has p (List.mem_append_left _ hp)))) ?_
    rintro ⟨⟨v7, bl7⟩, hown⟩
    rw [he3] at hown
    dsimp only at hown ⊢
    have hown : Own 5 1 v7 y3.bs.length (u8s y3.bs) bl7 := hown
    rw [hyb, ← hB] at hown
    rw [he3]
    refine x_ ?_
    exact RQ.ret2 rfl (Res.tmp rfl) (Res.tmp rfl) fun w' hm => Turns.of (Y := EncY t) (V := fun y => .tuple #[y.1.1, .int .i64 0]) (L' := fun y => y.1.2) (Lst := []) ⟨(v7, bl7), hown⟩ hm (Lr := y3.L ++ [(b1, Obj.cells F.toArray 64 (0, 0))]) (List.Perm.refl _)
  have hk1 := hk; clear hk
  by_cases hk : t.kd = 2
  · refine x_ ?_
    have hw2 := (hM.m2 hk).1.2.2.2
    have hw3 := (hM.m2 hk).2.1.2
    have hw4 := (hM.m2 hk).2.2.1.2
    have hq2 : (y1.L ++ [(b1, Obj.cells F.toArray 64 (0, 0))]).Perm (y1.L ++ [(b1, Obj.cells F.toArray 64 (0, 0))]) := (perm_of fun f => by (simp only [List.map_append, List.map_cons, List.map_nil, List.sum_append, List.sum_cons, List.sum_nil] <;> omega))
    refine Run.op1 (OpTo.callT Tryz.func109 hq2 (fun w' hm => Wins_calls y1 he1 t.is (mayI_rg (hM.m2 hk).1) (by omega) w' (SrcA.top ht.i hq2 hm (by decide)) (hasFs hq2 hm).1 (hasFs hq2 hm).2)) ?_
    rintro ⟨y2, hy2⟩
    obtain ⟨hb2, he2⟩ := Prod.mk.inj hy2
    dsimp only
    refine x_ ?_
    have ln2 : y2.bs.length = y1.bs.length + (rowB InD.b t.is).length := by rw [hb2, List.length_append]
    rw [rowB_len InD.bl, ln1] at ln2
    have hq3 : (y2.L ++ [(b1, Obj.cells F.toArray 64 (0, 0))]).Perm (y2.L ++ [(b1, Obj.cells F.toArray 64 (0, 0))]) := (perm_of fun f => by (simp only [List.map_append, List.map_cons, List.map_nil, List.sum_append, List.sum_cons, List.sum_nil] <;> omega))
    refine Run.op1 (OpTo.callT Tryz.func108 hq3 (fun w' hm => Wouts_calls y2 he2 t.os (mayO_rg (hM.m2 hk).2.1) (by omega) w' (SrcA.top ht.o hq3 hm (by decide)) (hasFs hq3 hm).1 (hasFs hq3 hm).2)) ?_
    rintro ⟨y3, hy3⟩
    obtain ⟨hb3, he3⟩ := Prod.mk.inj hy3
    dsimp only
    refine x_ ?_
    have ln3 : y3.bs.length = y2.bs.length + (rowB OutD.b t.os).length := by rw [hb3, List.length_append]
    rw [rowB_len OutD.bl, ln2] at ln3
    have hq4 : (y3.L ++ [(b1, Obj.cells F.toArray 64 (0, 0))]).Perm (y3.L ++ [(b1, Obj.cells F.toArray 64 (0, 0))]) := (perm_of fun f => by (simp only [List.map_append, List.map_cons, List.map_nil, List.sum_append, List.sum_cons, List.sum_nil] <;> omega))
    refine Run.op1 (OpTo.callT Tryz.func110 hq4 (fun w' hm => Wforwards_calls y3 he3 t.fs (mayF_rg (hM.m2 hk).2.2.1) (by omega) w' (SrcA.top ht.f hq4 hm (by decide)) (hasFs hq4 hm).1 (hasFs hq4 hm).2)) ?_
    rintro ⟨y4, hy4⟩
    obtain ⟨hb4, he4⟩ := Prod.mk.inj hy4
    dsimp only
    refine x_ ?_
    have ln4 : y4.bs.length = y3.bs.length + (rowB FoD.b t.fs).length := by rw [hb4, List.length_append]
    rw [rowB_len FoD.bl, ln3] at ln4
    have htb : t.b = le t.kd.toNat 1 ++ (rowB InD.b t.is ++ (rowB OutD.b t.os ++ (rowB FoD.b t.fs))) := by unfold TxD.b; rw [if_neg (by omega), if_pos hk]
    have hyb : y4.bs = t.b := by rw [hb4, hb3, hb2, hb1, hb0, htb]; simp only [List.nil_append, List.append_assoc]
    have hz0 : (y4.L ++ [(b1, Obj.cells F.toArray 64 (0, 0))]).Perm ([] ++ (y4.L ++ [(b1, Obj.cells F.toArray 64 (0, 0))])) := List.Perm.refl _
    refine Run.op1 (OpTo.callT Tryz.func72 hz0 (fun w' hm' => WEnd_calls y4 w' (fun p hp => hm'.has p (List.mem_append_left _ hp)))) ?_
    rintro ⟨⟨v7, bl7⟩, hown⟩
    rw [he4] at hown
    dsimp only at hown ⊢
    have hown : Own 5 1 v7 y4.bs.length (u8s y4.bs) bl7 := hown
    rw [hyb, ← hB] at hown
    rw [he4]
    refine x_ ?_
    exact RQ.ret2 rfl (Res.tmp rfl) (Res.tmp rfl) fun w' hm => Turns.of (Y := EncY t) (V := fun y => .tuple #[y.1.1, .int .i64 0]) (L' := fun y => y.1.2) (Lst := []) ⟨(v7, bl7), hown⟩ hm (Lr := y4.L ++ [(b1, Obj.cells F.toArray 64 (0, 0))]) (List.Perm.refl _)
  have hk2 := hk; clear hk
  by_cases hk : t.kd = 3
  · refine x_ ?_
    have hw2 := (mayP_in (hM.m3 hk)).1
    rw [List.length_map] at hw2
    have hq2 : (y1.L ++ [(b1, Obj.cells F.toArray 64 (0, 0))]).Perm (y1.L ++ [(b1, Obj.cells F.toArray 64 (0, 0))]) := (perm_of fun f => by (simp only [List.map_append, List.map_cons, List.map_nil, List.sum_append, List.sum_cons, List.sum_nil] <;> omega))
    refine Run.op1 (OpTo.callT Tryz.func111 hq2 (fun w' hm => Wparams_calls y1 he1 t.p (PrD.may_rg (hM.m3 hk)) (by omega) v.aK v.cK w' (SrcA.top ht.k hq2 hm (by decide)) (hasFs hq2 hm).1 (hasFs hq2 hm).2)) ?_
    rintro ⟨y2, hy2⟩
    obtain ⟨hb2, he2⟩ := Prod.mk.inj hy2
    dsimp only
    refine x_ ?_
    have ln2 : y2.bs.length = y1.bs.length + (t.p.b).length := by rw [hb2, List.length_append]
    rw [PrD.bl, ln1] at ln2
    have htb : t.b = le t.kd.toNat 1 ++ (t.p.b) := by unfold TxD.b; rw [if_neg (by omega), if_neg (by omega), if_pos hk]
    have hyb : y2.bs = t.b := by rw [hb2, hb1, hb0, htb]; simp only [List.nil_append, List.append_assoc]
    have hz0 : (y2.L ++ [(b1, Obj.cells F.toArray 64 (0, 0))]).Perm ([] ++ (y2.L ++ [(b1, Obj.cells F.toArray 64 (0, 0))])) := List.Perm.refl _
    refine Run.op1 (OpTo.callT Tryz.func72 hz0 (fun w' hm' => WEnd_calls y2 w' (fun p hp => hm'.has p (List.mem_append_left _ hp)))) ?_
    rintro ⟨⟨v7, bl7⟩, hown⟩
    rw [he2] at hown
    dsimp only at hown ⊢
    have hown : Own 5 1 v7 y2.bs.length (u8s y2.bs) bl7 := hown
    rw [hyb, ← hB] at hown
    rw [he2]
    refine x_ ?_
    exact RQ.ret2 rfl (Res.tmp rfl) (Res.tmp rfl) fun w' hm => Turns.of (Y := EncY t) (V := fun y => .tuple #[y.1.1, .int .i64 0]) (L' := fun y => y.1.2) (Lst := []) ⟨(v7, bl7), hown⟩ hm (Lr := y2.L ++ [(b1, Obj.cells F.toArray 64 (0, 0))]) (List.Perm.refl _)
  have hk3 := hk; clear hk
  by_cases hk : t.kd = 4
  · refine x_ ?_
    have hw2 := (hM.m4 hk).2.2.1.2
    have hw3 := (hM.m4 hk).2.2.2
    have hq2 : (y1.L ++ [(b1, Obj.cells F.toArray 64 (0, 0))]).Perm (y1.L ++ [(b1, Obj.cells F.toArray 64 (0, 0))]) := (perm_of fun f => by (simp only [List.map_append, List.map_cons, List.map_nil, List.sum_append, List.sum_cons, List.sum_nil] <;> omega))
    refine Run.op1 (OpTo.callT Tryz.func112 hq2 (fun w' hm => Wcert_calls y1 he1 t.c (CeD.may_rg (hM.m4 hk)) (by omega) v.aA v.cA v.aS v.cS w' (SrcA.top ht.a hq2 hm (by decide)) (SrcA.top ht.s hq2 hm (by decide)) (hasFs hq2 hm).1 (hasFs hq2 hm).2)) ?_
    rintro ⟨y2, hy2⟩
    obtain ⟨hb2, he2⟩ := Prod.mk.inj hy2
    dsimp only
    refine x_ ?_
    have ln2 : y2.bs.length = y1.bs.length + (t.c.b).length := by rw [hb2, List.length_append]
    rw [CeD.bl, ln1] at ln2
    have htb : t.b = le t.kd.toNat 1 ++ (t.c.b) := by unfold TxD.b; rw [if_neg (by omega), if_neg (by omega), if_neg (by omega), if_pos hk]
    have hyb : y2.bs = t.b := by rw [hb2, hb1, hb0, htb]; simp only [List.nil_append, List.append_assoc]
    have hz0 : (y2.L ++ [(b1, Obj.cells F.toArray 64 (0, 0))]).Perm ([] ++ (y2.L ++ [(b1, Obj.cells F.toArray 64 (0, 0))])) := List.Perm.refl _
    refine Run.op1 (OpTo.callT Tryz.func72 hz0 (fun w' hm' => WEnd_calls y2 w' (fun p hp => hm'.has p (List.mem_append_left _ hp)))) ?_
    rintro ⟨⟨v7, bl7⟩, hown⟩
    rw [he2] at hown
    dsimp only at hown ⊢
    have hown : Own 5 1 v7 y2.bs.length (u8s y2.bs) bl7 := hown
    rw [hyb, ← hB] at hown
    rw [he2]
    refine x_ ?_
    exact RQ.ret2 rfl (Res.tmp rfl) (Res.tmp rfl) fun w' hm => Turns.of (Y := EncY t) (V := fun y => .tuple #[y.1.1, .int .i64 0]) (L' := fun y => y.1.2) (Lst := []) ⟨(v7, bl7), hown⟩ hm (Lr := y2.L ++ [(b1, Obj.cells F.toArray 64 (0, 0))]) (List.Perm.refl _)
  have hk4 := hk; clear hk
  by_cases hk : t.kd = 5
  · refine x_ ?_
    have hq2 : (y1.L ++ [(b1, Obj.cells F.toArray 64 (0, 0))]).Perm (y1.L ++ [(b1, Obj.cells F.toArray 64 (0, 0))]) := (perm_of fun f => by (simp only [List.map_append, List.map_cons, List.map_nil, List.sum_append, List.sum_cons, List.sum_nil] <;> omega))
    refine Run.op1 (OpTo.callT Tryz.func113 hq2 (fun w' hm => Wclaim_calls y1 he1 t.l (ClD.may_rg (hM.m5 hk)) (by omega) w' (hasFs hq2 hm).1 (hasFs hq2 hm).2)) ?_
    rintro ⟨y2, hy2⟩
    obtain ⟨hb2, he2⟩ := Prod.mk.inj hy2
    dsimp only
    refine x_ ?_
    have ln2 : y2.bs.length = y1.bs.length + (t.l.b).length := by rw [hb2, List.length_append]
    rw [ClD.bl, ln1] at ln2
    have htb : t.b = le t.kd.toNat 1 ++ (t.l.b) := by unfold TxD.b; rw [if_neg (by omega), if_neg (by omega), if_neg (by omega), if_neg (by omega), if_pos hk]
    have hyb : y2.bs = t.b := by rw [hb2, hb1, hb0, htb]; simp only [List.nil_append, List.append_assoc]
    have hz0 : (y2.L ++ [(b1, Obj.cells F.toArray 64 (0, 0))]).Perm ([] ++ (y2.L ++ [(b1, Obj.cells F.toArray 64 (0, 0))])) := List.Perm.refl _
    refine Run.op1 (OpTo.callT Tryz.func72 hz0 (fun w' hm' => WEnd_calls y2 w' (fun p hp => hm'.has p (List.mem_append_left _ hp)))) ?_
    rintro ⟨⟨v7, bl7⟩, hown⟩
    rw [he2] at hown
    dsimp only at hown ⊢
    have hown : Own 5 1 v7 y2.bs.length (u8s y2.bs) bl7 := hown
    rw [hyb, ← hB] at hown
    rw [he2]
    refine x_ ?_
    exact RQ.ret2 rfl (Res.tmp rfl) (Res.tmp rfl) fun w' hm => Turns.of (Y := EncY t) (V := fun y => .tuple #[y.1.1, .int .i64 0]) (L' := fun y => y.1.2) (Lst := []) ⟨(v7, bl7), hown⟩ hm (Lr := y2.L ++ [(b1, Obj.cells F.toArray 64 (0, 0))]) (List.Perm.refl _)
  have hk5 := hk; clear hk
  exfalso
  have := hM.k
  omega
end Go.Proofs.YtfoeakgnkfcbjaaGreatDoor
end
