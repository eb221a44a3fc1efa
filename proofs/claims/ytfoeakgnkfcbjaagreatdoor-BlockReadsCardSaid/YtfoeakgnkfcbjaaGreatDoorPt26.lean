/- Lemmas. -/
import Derived.Test.YtfoeakgnkfcbjaaGreatDoorPt25
set_option linter.unusedSimpArgs false
set_option linter.unusedVariables false
section
/- block: the data; what is written. -/
namespace Go.Proofs.YtfoeakgnkfcbjaaGreatDoor
attribute [local irreducible] Go.Vc.Run Go.Vc.RC Go.Vc.RQ Go.Vc.DR Go.Vc.DOp Go.Vc.Knows Go.Vc.At
set_option maxHeartbeats 400000
set_option maxRecDepth 10000
open Go Go.Vc Go.Sha
/-- A transaction and where its lists lie. -/
abbrev TxP := TxD × TxV
def txR (q : TxP) : List Value := txC q.1 q.2
theorem txR_len (q : TxP) : (txR q).length = 170 := txC_len _ _
/-- A block. -/
structure BkV where
  pv : By 8
  wk : Nat
  hw : wk < 18446744073709551616
  ts : List TxP
def bkC (b : BkV) (a : Option Addr) (c : Nat) : List Value := u8s b.pv.1 ++ [.float .f64 b.wk, .slice a b.ts.length c]
theorem bkC_len (b : BkV) (a : Option Addr) (c : Nat) : (bkC b a c).length = 10 := by
  unfold bkC
  rw [List.length_append, u8s_len, b.pv.2.1]
  rfl
theorem bkC_one (b : BkV) (a : Option Addr) (c : Nat) : ∀ u ∈ bkC b a c, u.oneCell' = true := by
  intro u hu
  rcases List.mem_append.1 hu with h | h
  · exact u8s_one _ u h
  · simp only [List.mem_cons, List.not_mem_nil, or_false] at h
    rcases h with rfl | rfl <;> rfl
theorem bk_r0 (b : BkV) (a : Option Addr) (c : Nat) : rdAt ti23 (bkC b a c).toArray 0 = some (.agg (u8s b.pv.1).toArray) := rd_mid (pre := []) (cs := u8s b.pv.1) (post := [.float .f64 b.wk, .slice a b.ts.length c]) rfl rfl (by rw [u8s_len, b.pv.2.1]; rfl) (by decide) rfl
theorem bk_r8 (b : BkV) (a : Option Addr) (c : Nat) : rdAt ti24 (bkC b a c).toArray 8 = some (.float .f64 b.wk) := rd_one rfl (at_mid (pre := u8s b.pv.1) (post := [.slice a b.ts.length c]) rfl (by rw [u8s_len, b.pv.2.1]))
theorem bk_r9 (b : BkV) (a : Option Addr) (c : Nat) : rdAt ti25 (bkC b a c).toArray 9 = some (.slice a b.ts.length c) := rd_one rfl (at_mid (pre := u8s b.pv.1 ++ [.float .f64 b.wk]) (post := []) (by unfold bkC; rw [List.append_assoc]; rfl) (by rw [List.length_append, u8s_len, b.pv.2.1]; rfl))
/-- Its lists stand there. -/
structure BkAt (w : World) (b : BkV) (a : Option Addr) (c : Nat) : Prop where
  s : SrcW w 170 (.slice a b.ts.length c) b.ts.length (rws txR b.ts)
  t : ∀ q ∈ b.ts, TxAt w q.1 q.2
theorem BkAt.fr {w w' : World} {b : BkV} {a : Option Addr} {c : Nat} (h : BkAt w b a c) (hf : Fr [] w w') : BkAt w' b a c := ⟨h.s.fr hf, fun q hq => (h.t q hq).fr hf⟩
/-- No list is long. -/
def BkLn (b : BkV) : Prop := ∀ q ∈ b.ts, TxLn q.1
/-- A transaction at its place. -/
def okAt (i : Nat) (t : TxD) : Prop := TxMay t ∧ (t.kd = 1 ↔ i = 0)
/-- May it be? -/
def MayB (b : BkV) : Prop := isWk b.wk = true ∧ (1 ≤ b.ts.length ∧ b.ts.length ≤ 32) ∧ ∀ i q, b.ts[i]? = some q → okAt i q.1
noncomputable instance (b : BkV) : Decidable (MayB b) := Classical.propDecidable _
def txB (t : TxD) : List Nat := le t.b.length 4 ++ t.b
def txsB (l : List TxP) : List Nat := (l.map fun q => txB q.1).flatten
def bkB (b : BkV) : List Nat := b.pv.1 ++ (bitsF b.wk ++ (le b.ts.length 1 ++ txsB b.ts))
noncomputable def wrB (b : BkV) : List Nat := if MayB b then bkB b else []
theorem txsB_succ {l : List TxP} {k : Nat} {q : TxP} (h : l[k]? = some q) : txsB (l.take (k + 1)) = txsB (l.take k) ++ txB q.1 := by
  unfold txsB
  rw [List.take_add_one, h, List.map_append, List.flatten_append]
  simp
theorem txsB_len {l : List TxP} (h : ∀ q ∈ l, TxMay q.1) : (txsB l).length ≤ l.length * 3004 := by
  induction l with
  | nil => exact Nat.le_refl 0
  | cons q l ih =>
    have h1 := ih fun y hy => h y (List.mem_cons_of_mem _ hy)
    have h2 := (h q List.mem_cons_self).bl
    unfold txsB at h1 ⊢
    rw [List.map_cons, List.flatten_cons, List.length_append, List.length_cons]
    have h3 : (txB q.1).length = 4 + q.1.b.length := by unfold txB; rw [List.length_append, le_len]
    omega
abbrev WrY (b : BkV) := {p : Value × Hp // Own 5 1 p.1 (wrB b).length (u8s (wrB b)) p.2}
theorem pHash {wb : Nat} (x : WrP wb) (he : x.e = 0) (c : List Nat) (hc : c.length = 8) (hfit : x.bs.length + 8 ≤ 131072) {w0 : World} {S0 : List Nat} {L Lr : Hp} (hp : L.Perm (x.L ++ Lr)) (w : World) (hm : Mem w0 S0 L w) :
    Turns Tryz.prog 68 [.pointer (some ⟨wb, 0, none⟩), .agg (u8s c).toArray] w x.L (Y := PutY wb (x.bs ++ c, 0)) (fun _ => .tuple #[]) (fun y => y.1.L) := by
  have h := WHash_calls x c hc w (hasFs hp hm).1 (hasFs hp hm).2
  have e : putW x.bs x.e c = (x.bs ++ c, 0) := by
    unfold putW
    rw [if_pos he, if_neg (by omega)]
  rw [e] at h
  exact h
theorem pNum {wb : Nat} (x : WrP wb) (he : x.e = 0) (n : Nat) (hn : n < 256) (hfit : x.bs.length + 1 ≤ 131072) {w0 : World} {S0 : List Nat} {L Lr : Hp} (hp : L.Perm (x.L ++ Lr)) (w : World) (hm : Mem w0 S0 L w) :
    Turns Tryz.prog 69 [.pointer (some ⟨wb, 0, none⟩), .int .i64 (n : Int), .int .i64 1] w x.L (Y := PutY wb (x.bs ++ le n 1, 0)) (fun _ => .tuple #[]) (fun y => y.1.L) := by
  have h := WNum_calls x n 1 w (hasFs hp hm).1 (hasFs hp hm).2
  have e : numW x.bs x.e n 1 = (x.bs ++ le n 1, 0) := by
    have hb : ¬ numBad n 1 := by
      unfold numBad
      rintro (h | h | h | h)
      · omega
      · omega
      · omega
      · exact h (Nat.div_eq_of_lt (by show (n : Int).toNat < 256; omega))
    unfold numW
    rw [if_pos he, if_neg hb]
    unfold putW
    rw [if_pos rfl]
    show (if ((le (n : Int).toNat 1).length : Int) > 131072 - x.bs.length then _ else _) = _
    rw [le_len, if_neg (by omega), Int.toNat_natCast]
    rfl
  rw [e] at h
  exact h
theorem pBytes {wb : Nat} (x : WrP wb) (he : x.e = 0) (a : List Nat) {u : Value} {ap : Hp} (hown : Own 5 1 u a.length (u8s a) ap) (hfit : x.bs.length + (4 + a.length) ≤ 131072) {w0 : World} {S0 : List Nat} {L Lr : Hp} (hp : L.Perm ((x.L ++ ap) ++ Lr)) (w : World) (hm : Mem w0 S0 L w) :
    Turns Tryz.prog 71 [.pointer (some ⟨wb, 0, none⟩), u] w (x.L ++ ap) (Y := PutY wb (x.bs ++ (le a.length 4 ++ a), 0)) (fun _ => .tuple #[]) (fun y => y.1.L ++ ap) := by
  have h := WBytes_calls x a (u := u) (ap := ap) (by omega) w (fun L hL => hown.src hL) (by obtain ⟨ua, uc, hu, _⟩ := hown.shape; exact ⟨ua, uc, hu⟩) (hasFs hp hm).1 (hasFs hp hm).2
  have e : putW x.bs x.e (le a.length 4 ++ a) = (x.bs ++ (le a.length 4 ++ a), 0) := by
    unfold putW
    rw [if_pos he, if_neg (by rw [List.length_append, le_len]; omega)]
  rw [e] at h
  exact h
end Go.Proofs.YtfoeakgnkfcbjaaGreatDoor
end
section
/- block: written. -/
namespace Go.Proofs.YtfoeakgnkfcbjaaGreatDoor
attribute [local irreducible] Go.Vc.Run Go.Vc.RC Go.Vc.RQ Go.Vc.DR Go.Vc.DOp Go.Vc.Knows Go.Vc.At
set_option maxHeartbeats 400000
set_option maxRecDepth 10000
open Go Go.Vc Go.Sha
theorem wr_no {b : BkV} {w w' : World} {L : Hp} (h : ¬ MayB b) (hm : Mem w [] L w') : ∃ y : WrY b, Ending.returned (.tuple #[.slice none 0 0, .bool false]) = .returned (.tuple #[y.1.1, .bool (decide (MayB b))]) ∧ Fr (([] : Hp).map (·.1)) w w' ∧ Has y.1.2 w' ∧ (∀ p ∈ y.1.2, w.heap.size ≤ p.1 ∨ p.1 ∈ ([] : Hp).map (·.1)) ∧ (y.1.2.map (·.1)).Nodup := by
  rw [decide_eq_false h]
  exact Turns.of (Y := WrY b) (V := fun y => .tuple #[y.1.1, .bool false]) (L' := fun y => y.1.2) (Lst := []) ⟨(.slice none 0 0, []), by rw [show wrB b = [] from if_neg h]; exact Own.nil⟩ hm (Lr := _) (List.Perm.refl _)
set_option maxRecDepth 10000 in set_option maxHeartbeats 4000000 in
theorem written_calls (b : BkV) (hln : BkLn b) (a : Option Addr) (c : Nat) (w : World) (hat : BkAt w b a c) :
    Turns Tryz.prog 38 [.agg (bkC b a c).toArray] w [] (Y := WrY b) (fun y => .tuple #[y.1.1, .bool (decide (MayB b))]) (fun y => y.1.2) := by
  refine enter Tryz.func38 rfl (Mem.nil w []) rfl ?_
  have r0 := bk_r0 b a c
  have r8 := bk_r8 b a c
  have r9 := bk_r9 b a c
  have hF10 : (bkC b a c).toArray.size = 10 := by rw [List.size_toArray, bkC_len]
  have kW : Knows Tryz.prog w 67 [.float .f64 b.wk] (.tuple #[.int .i64 (wkN b.wk), .bool (isWk b.wk)]) := Knows.mk Tryz.func67 (fun w' _ => Work_calls b.wk b.hw w')
  have kB : Knows Tryz.prog w 31 [.float .f64 b.wk] (.agg (u8s (bitsF b.wk)).toArray) := Knows.mk Tryz.func31 (fun w' _ => Bits_calls b.wk b.hw w')
  generalize bkC b a c = F at r0 r8 r9 hF10 ⊢
  refine z_ ?_
  refine Run.nw nbx ?_
  intro b1
  have hmem := hat.s
  obtain ⟨N, hN⟩ : ∃ N, N = b.ts.length := ⟨_, rfl⟩
  rw [← hN] at r9 hmem
  by_cases hwk : isWk b.wk = true
  rotate_left
  · have hno : ¬ MayB b := fun h => hwk h.1
    rw [Bool.not_eq_true] at hwk
    rw [hwk] at kW
    refine x_ ?_
    exact RQ.ret2 rfl (Res.tmp rfl) (Res.tmp rfl) fun w' hm => wr_no hno hm
  rw [hwk] at kW
  by_cases h1 : N < 1
  · have hno : ¬ MayB b := fun h => by have := h.2.1; omega
    refine x_ ?_
    exact RQ.ret2 rfl (Res.tmp rfl) (Res.tmp rfl) fun w' hm => wr_no hno hm
  by_cases h32 : 32 < N
  · have hno : ¬ MayB b := fun h => by have := h.2.1; omega
    refine x_ ?_
    exact RQ.ret2 rfl (Res.tmp rfl) (Res.tmp rfl) fun w' hm => wr_no hno hm
  refine x_ ?_
  refine Run.nw nbx ?_
  intro wb
  refine x_ ?_
  obtain ⟨x, hx⟩ : ∃ x : WrP wb, x = ⟨.slice none 0 0, [], [], 0, Own.nil, by simp, by simp⟩ := ⟨_, rfl⟩
  have hxL : [(wb, Obj.cells #[.slice none 0 0, .int .i64 0] 116 (0, 0)), (b1, Obj.cells F.toArray 27 (0, 0))] = x.L ++ [(b1, Obj.cells F.toArray 27 (0, 0))] := by rw [hx]; rfl
  have he : x.e = 0 := by rw [hx]
  have hb0 : x.bs = [] := by rw [hx]
  have hl0 : x.bs.length = 0 := by rw [hb0]; rfl
  have hq1 : ([(wb, Obj.cells #[.slice none 0 0, .int .i64 0] 116 (0, 0)), (b1, Obj.cells F.toArray 27 (0, 0))] : Hp).Perm (x.L ++ [(b1, Obj.cells F.toArray 27 (0, 0))]) := by rw [hxL]
  refine Run.op1 (OpTo.callT Tryz.func68 hq1 (fun w' hm => pHash x he b.pv.1 b.pv.2.1 (by omega) hq1 w' hm)) ?_
  rintro ⟨y1, hy1⟩
  obtain ⟨hb1, he1⟩ := Prod.mk.inj hy1
  dsimp only
  have ln1 : y1.bs.length = 8 := by rw [hb1, List.length_append, hl0, b.pv.2.1]
  refine x_ ?_
  have hq2 : (y1.L ++ [(b1, Obj.cells F.toArray 27 (0, 0))]).Perm (y1.L ++ [(b1, Obj.cells F.toArray 27 (0, 0))]) := List.Perm.refl _
  refine Run.op1 (OpTo.callT Tryz.func68 hq2 (fun w' hm => pHash y1 he1 (bitsF b.wk) (bits_len _) (by omega) hq2 w' hm)) ?_
  rintro ⟨y2, hy2⟩
  obtain ⟨hb2, he2⟩ := Prod.mk.inj hy2
  dsimp only
  have ln2 : y2.bs.length = 16 := by rw [hb2, List.length_append, ln1, bits_len]
  refine x_ ?_
  have hq3 : (y2.L ++ [(b1, Obj.cells F.toArray 27 (0, 0))]).Perm (y2.L ++ [(b1, Obj.cells F.toArray 27 (0, 0))]) := List.Perm.refl _
  refine Run.op1 (OpTo.callT Tryz.func69 hq3 (fun w' hm => pNum y2 he2 N (by omega) (by omega) hq3 w' hm)) ?_
  rintro ⟨y3, hy3⟩
  obtain ⟨hb3, he3⟩ := Prod.mk.inj hy3
  dsimp only
  have ln3 : y3.bs.length = 17 := by rw [hb3, List.length_append, ln2, le_len]
  have hy3b : y3.bs = b.pv.1 ++ (bitsF b.wk ++ le N 1) := by rw [hb3, hb2, hb1, hb0]; simp only [List.nil_append, List.append_assoc]
  refine x_ ?_
  refine RC.up N (D := WrP wb) (fun k d => (d.bs = y3.bs ++ txsB (b.ts.take k) ∧ d.e = 0) ∧ ∀ i q, i < k → b.ts[i]? = some q → okAt i q.1) (fun k _ => [(52, .int .i64 k), (51, .int .i64 N), (50, .slice a N c), (6, .pointer (some ⟨wb, 0, none⟩)), (1, .pointer (some ⟨b1, 0, none⟩))]) (fun _ d => d.L ++ [(b1, Obj.cells F.toArray 27 (0, 0))]) 0 y3 (Nat.zero_le _) ⟨⟨by simp [txsB], he3⟩, fun i q h => by omega⟩ ⟨rfl, rfl, rfl, rfl, rfl, trivial⟩ (List.Sublist.refl _) ?_
  rintro k d hk ⟨⟨hdb, hde⟩, hok⟩
  by_cases hk' : k < N
  · obtain ⟨q, hx⟩ : ∃ q, b.ts[k]? = some q := ⟨_, List.getElem?_eq_getElem (by omega)⟩
    obtain ⟨ad, c', hv', hc', hcl, hr⟩ := hmem.pos (by omega)
    cases hv'
    have hqm := List.mem_of_getElem? hx
    have hqa := hat.t q hqm
    have hqln := hln q hqm
    obtain ⟨rk, _⟩ := tx_rd q.1 q.2
    have q0 : At w (ad.add (k * 170)) (txC q.1 q.2) := At.mk fun j u hj => by rw [add_add]; exact hr _ u (rws_at txR_len hx j u hj)
    have hT170 : (txC q.1 q.2).length = 170 := txC_len _ _
    have hT1 := txC_one q.1 q.2
    have hEn := fun w' h1 => TEncode_calls q.1 q.2 hqln w' h1
    unfold EncT at hEn
    generalize txC q.1 q.2 = T at rk q0 hT170 hT1 hEn
    have hTs : T.toArray.size = 170 := by rw [List.size_toArray, hT170]
    refine x_ ?_
    refine Run.nw nal ?_
    intro b8
    refine x_ ?_
    refine Run.op1 (osa (arr := ti64.zero.cells) (e := 64) (L' := d.L ++ [(b1, Obj.cells F.toArray 27 (0, 0))]) T.toArray hT1 (hL := (perm_of fun f => by (simp only [List.map_append, List.map_cons, List.map_nil, List.sum_append, List.sum_cons, List.sum_nil] <;> omega))) (hs := by exact hTs)) (fun _ => ?_)
    refine x_ ?_
    have hz1 : ((b8, Obj.cells T.toArray 64 (0, 0)) :: (d.L ++ [(b1, Obj.cells F.toArray 27 (0, 0))]) : Hp).Perm ([] ++ ((b8, Obj.cells T.toArray 64 (0, 0)) :: (d.L ++ [(b1, Obj.cells F.toArray 27 (0, 0))]))) := List.Perm.refl _
    refine Run.op1 (OpTo.callT Tryz.func70 hz1 (fun w' hm => hEn w' (hqa.fr hm.fr))) ?_
    rintro ⟨⟨v9, l9⟩, hown⟩
    dsimp only at hown ⊢
    by_cases hmy : TxMay q.1
    rotate_left
    · have hno : ¬ MayB b := fun h => hmy (h.2.2 k q hx).1
      rw [show encE q.1 = 1 from if_neg hmy]
      refine x_ ?_
      exact RQ.ret2 rfl (Res.tmp rfl) (Res.tmp rfl) fun w' hm => wr_no hno hm
    rw [show encB q.1 = q.1.b from if_pos hmy] at hown
    rw [show encE q.1 = 0 from if_pos hmy]
    have hbl := hmy.bl
    have hsum : (y3.bs ++ txsB (b.ts.take k)).length ≤ 17 + k * 3004 := by
      rw [List.length_append, ln3]
      have := txsB_len (l := b.ts.take k) (fun y hy => by
        obtain ⟨i, hi, rfl⟩ := List.mem_iff_getElem.1 hy
        rw [List.length_take] at hi
        rw [List.getElem_take]
        exact (hok i _ (by omega) (List.getElem?_eq_getElem (by omega))).1)
      rw [List.length_take, Nat.min_eq_left (by omega)] at this
      omega
    rw [← hdb] at hsum
    obtain ⟨u9, c9, rfl, hc9⟩ := hown.shape
    have hq5 : (l9 ++ ((b8, Obj.cells T.toArray 64 (0, 0)) :: (d.L ++ [(b1, Obj.cells F.toArray 27 (0, 0))])) : Hp).Perm ((d.L ++ l9) ++ [(b8, Obj.cells T.toArray 64 (0, 0)), (b1, Obj.cells F.toArray 27 (0, 0))]) := (perm_of fun f => by (simp only [List.map_append, List.map_cons, List.map_nil, List.sum_append, List.sum_cons, List.sum_nil] <;> omega))
    refine x_ ?_
    by_cases hkk : (q.1.kd = 1 ↔ k = 0)
    rotate_left
    · have hno : ¬ MayB b := fun h => hkk (h.2.2 k q hx).2
      have hbq : ((q.1.kd == 1) != ((k : Int) == 0)) = true := by
        by_cases h1 : q.1.kd = 1 <;> by_cases h2 : k = 0
        · exact absurd (Iff.intro (fun _ => h2) (fun _ => h1)) hkk
        · rw [beq_iff_eq.2 h1, beq_eq_false_iff_ne.2 (show (k : Int) ≠ 0 by omega)]; rfl
        · rw [beq_eq_false_iff_ne.2 h1, beq_iff_eq.2 (show (k : Int) = 0 by omega)]; rfl
        · exact absurd (Iff.intro (fun h => absurd h h1) (fun h => absurd h h2)) hkk
      refine Run.a (Val.eq (Val.neBool tabOk rfl rfl rfl rfl rfl) (congrArg Value.bool hbq)) ?_
      refine x_ ?_
      exact RQ.ret2 rfl (Res.tmp rfl) (Res.tmp rfl) fun w' hm => wr_no hno hm
    have hbq : ((q.1.kd == 1) != ((k : Int) == 0)) = false := by
      by_cases h1 : q.1.kd = 1
      · rw [beq_iff_eq.2 h1, beq_iff_eq.2 (show (k : Int) = 0 by have := hkk.1 h1; omega)]; rfl
      · rw [beq_eq_false_iff_ne.2 h1, beq_eq_false_iff_ne.2 (show (k : Int) ≠ 0 from fun h => h1 (hkk.2 (by omega)))]; rfl
    refine Run.a (Val.eq (Val.neBool tabOk rfl rfl rfl rfl rfl) (congrArg Value.bool hbq)) ?_
    refine x_ ?_
    refine Run.op1 (OpTo.callT Tryz.func71 hq5 (fun w' hm => pBytes d hde q.1.b hown (by omega) hq5 w' hm)) ?_
    rintro ⟨y5, hy5⟩
    obtain ⟨hb5, he5⟩ := Prod.mk.inj hy5
    dsimp only
    refine x_ ?_
    exact RQ.upP (k + 1) y5 (Nat.lt_succ_self _) hk' ⟨⟨by rw [hb5, hdb, txsB_succ hx]; unfold txB; simp only [List.append_assoc], he5⟩, fun i p hi hp => by
      rcases Nat.lt_or_ge i k with h | h
      · exact hok i p h hp
      · obtain rfl : i = k := by omega
        obtain rfl : q = p := Option.some.inj (hx.symm.trans hp)
        exact ⟨hmy, hkk⟩⟩ ⟨rfl, rfl, rfl, rfl, rfl, trivial⟩ (L1 := (y5.L ++ [(b1, Obj.cells F.toArray 27 (0, 0))]) ++ (l9 ++ [(b8, Obj.cells T.toArray 64 (0, 0))])) (perm_of fun f => by (simp only [List.map_append, List.map_cons, List.map_nil, List.sum_append, List.sum_cons, List.sum_nil] <;> omega)) (List.sublist_append_left _ _)
  obtain rfl : k = N := by omega
  have hyes : MayB b := ⟨hwk, by omega, fun i q h => hok i q (by have := (List.getElem?_eq_some_iff.1 h).1; omega) h⟩
  have hwB : d.bs = bkB b := by rw [hdb, hy3b, List.take_of_length_le (by omega)]; unfold bkB; rw [← hN]; simp only [List.append_assoc]
  refine x_ ?_
  have hz9 : (d.L ++ [(b1, Obj.cells F.toArray 27 (0, 0))] : Hp).Perm ([] ++ (d.L ++ [(b1, Obj.cells F.toArray 27 (0, 0))])) := List.Perm.refl _
  refine Run.op1 (OpTo.callT Tryz.func72 hz9 (fun w' hm' => WEnd_calls d w' (fun p hp => hm'.has p (List.mem_append_left _ hp)))) ?_
  rintro ⟨⟨v7, bl7⟩, hown⟩
  rw [hde] at hown
  dsimp only at hown ⊢
  have hown : Own 5 1 v7 d.bs.length (u8s d.bs) bl7 := hown
  rw [hwB] at hown
  rw [hde, decide_eq_true hyes]
  refine x_ ?_
  exact RQ.ret2 rfl (Res.tmp rfl) (Res.tmp rfl) fun w' hm => Turns.of (Y := WrY b) (V := fun y => .tuple #[y.1.1, .bool true]) (L' := fun y => y.1.2) (Lst := []) ⟨(v7, bl7), by rw [show wrB b = bkB b from if_pos hyes]; exact hown⟩ hm (Lr := d.L ++ [(b1, Obj.cells F.toArray 27 (0, 0))]) (List.Perm.refl _)
end Go.Proofs.YtfoeakgnkfcbjaaGreatDoor
end
section
/- block: the reference's blockBytes. -/
namespace Go.Proofs.YtfoeakgnkfcbjaaGreatDoor
attribute [local irreducible] Go.Vc.Run Go.Vc.RC Go.Vc.RQ Go.Vc.DR Go.Vc.DOp Go.Vc.Knows Go.Vc.At
set_option maxHeartbeats 400000
set_option maxRecDepth 10000
open Go Go.Vc Go.Sha
set_option maxRecDepth 10000 in set_option maxHeartbeats 4000000 in
theorem RBytes_calls (b : BkV) (hln : BkLn b) (hok : ∀ q ∈ b.ts, TxMay q.1) (h32 : b.ts.length ≤ 32) (a : Option Addr) (c : Nat) (w : World) (hat : BkAt w b a c) : MakesB 47 [.agg (bkC b a c).toArray] w (bkB b) := by
  refine enter Tryz.func47 rfl (Mem.nil w []) rfl ?_
  have r0 := bk_r0 b a c
  have r8 := bk_r8 b a c
  have r9 := bk_r9 b a c
  have hF10 : (bkC b a c).toArray.size = 10 := by rw [List.size_toArray, bkC_len]
  have hF0 : ∀ j u, (u8s b.pv.1)[j]? = some u → (bkC b a c)[0 + j]? = some u := fun j u hj => by
    rw [Nat.zero_add]
    unfold bkC
    rw [List.getElem?_append_left (List.getElem?_eq_some_iff.1 hj).1]
    exact hj
  have kB : Knows Tryz.prog w 12 [.float .f64 b.wk] (.agg (u8s (bitsF b.wk)).toArray) := Knows.mk Tryz.func12 (fun w' _ => RBits_calls b.wk b.hw w')
  generalize bkC b a c = F at r0 r8 r9 hF10 hF0 ⊢
  have hb8 : (u8s (bitsF b.wk)).toArray.size = 8 := by rw [List.size_toArray, u8s_len, bits_len]
  have hp8 := b.pv.2.1
  have hbl := bits_len b.wk
  refine z_ ?_
  refine Run.nw nbx ?_
  intro b1
  have hmem := hat.s
  obtain ⟨N, hN⟩ : ∃ N, N = b.ts.length := ⟨_, rfl⟩
  rw [← hN] at r9 hmem h32
  refine x_ ?_
  refine Run.nw nal ?_
  intro b3
  refine x_ ?_
  refine Run.op1 (osa (arr := ti22.zero.cells) (u8s (bitsF b.wk)).toArray (u8s_one _) (hs := by exact hb8)) (fun _ => ?_)
  refine x_ ?_
  (repeat refine RC.seq ?_); refine RC.draw ([]) mixed (N := 6) rfl ?_
  refine dy 0 ?_
  refine DR.t 1 rfl (vslA) ?_
  refine DR.t 3 rfl (vslA) ?_
  have hp0 : ([(b3, Obj.cells (u8s (bitsF b.wk)).toArray 22 (0, 0)), (b1, Obj.cells F.toArray 27 (0, 0))] : Hp).Perm ([] ++ [(b3, Obj.cells (u8s (bitsF b.wk)).toArray 22 (0, 0)), (b1, Obj.cells F.toArray 27 (0, 0))]) := List.Perm.refl _
  refine DR.c 2 (DOp.op1 rfl (apB (bs := []) (L1 := [(b3, Obj.cells (u8s (bitsF b.wk)).toArray 22 (0, 0)), (b1, Obj.cells F.toArray 27 (0, 0))]) Own.nil b.pv.1 (srcR hp8 (List.mem_cons_of_mem _ List.mem_cons_self) hF0) (by rw [hp8]; decide) hp0) ?_)
  rintro ⟨⟨v1, l1⟩, h1⟩
  dsimp only at h1 ⊢
  rw [List.nil_append] at h1
  have hp1 : (l1 ++ [(b3, Obj.cells (u8s (bitsF b.wk)).toArray 22 (0, 0)), (b1, Obj.cells F.toArray 27 (0, 0))] : Hp).Perm (l1 ++ [(b3, Obj.cells (u8s (bitsF b.wk)).toArray 22 (0, 0)), (b1, Obj.cells F.toArray 27 (0, 0))]) := List.Perm.refl _
  refine DR.c 4 (DOp.op1 rfl (apB (L1 := [(b3, Obj.cells (u8s (bitsF b.wk)).toArray 22 (0, 0)), (b1, Obj.cells F.toArray 27 (0, 0))]) h1 (bitsF b.wk) (srcR (off := 0) hbl (List.mem_append_right _ List.mem_cons_self) (fun j u hj => by rw [Nat.zero_add]; exact hj)) (by rw [hp8, hbl]; decide) hp1) ?_)
  rintro ⟨⟨v2, l2⟩, h2⟩
  dsimp only at h2 ⊢
  refine dy 5 ?_
  refine DR.done (by kernel_rfl) ?_
  refine x_ ?_
  refine Run.op1 (mkB Tryz.func36 (fun w' hm => rNum (N : Int) 1 (by decide) (Int.natCast_nonneg _) w')) ?_
  rintro ⟨⟨v3, l3⟩, h3⟩
  rw [Int.toNat_natCast] at h3
  dsimp only at h3 ⊢
  have hp2 : (l3 ++ (l2 ++ [(b3, Obj.cells (u8s (bitsF b.wk)).toArray 22 (0, 0)), (b1, Obj.cells F.toArray 27 (0, 0))]) : Hp).Perm (l2 ++ (l3 ++ [(b3, Obj.cells (u8s (bitsF b.wk)).toArray 22 (0, 0)), (b1, Obj.cells F.toArray 27 (0, 0))])) := (perm_of fun f => by (simp only [List.map_append, List.map_cons, List.map_nil, List.sum_append, List.sum_cons, List.sum_nil] <;> omega))
  refine x_ ?_
  refine Run.op1 (apB (L1 := l3 ++ [(b3, Obj.cells (u8s (bitsF b.wk)).toArray 22 (0, 0)), (b1, Obj.cells F.toArray 27 (0, 0))]) h2 (le N 1) (h3.src (fun p hp => List.mem_append_left _ hp)) (by rw [List.length_append, hp8, hbl, le_len]; decide) hp2) ?_
  rintro ⟨⟨v4, l4⟩, h4⟩
  dsimp only at h4 ⊢
  have l4e : ((b.pv.1 ++ bitsF b.wk) ++ le N 1).length = 17 := by rw [List.length_append, List.length_append, hp8, hbl, le_len]
  obtain ⟨pre, hpre⟩ : ∃ pre, pre = (b.pv.1 ++ bitsF b.wk) ++ le N 1 := ⟨_, rfl⟩
  rw [← hpre] at h4 l4e
  refine x_ ?_
  refine RC.up N (D := Value × Hp) (fun k d => Own 5 1 d.1 (pre ++ txsB (b.ts.take k)).length (u8s (pre ++ txsB (b.ts.take k))) d.2) (fun k d => [(5, .int .i64 k), (4, d.1), (1, .pointer (some ⟨b1, 0, none⟩))]) (fun _ d => d.2 ++ [(b1, Obj.cells F.toArray 27 (0, 0))]) 0 (v4, l4) (Nat.zero_le _) (by rw [List.take_zero]; rw [show txsB [] = [] from rfl, List.append_nil]; exact h4) ⟨rfl, rfl, rfl, trivial⟩ (by dsimp only; exact List.Sublist.append (List.Sublist.refl _) (List.Sublist.trans (List.sublist_cons_self _ _) (List.sublist_append_right _ _))) ?_
  rintro k ⟨v5, l5⟩ hk h5
  dsimp only at h5 ⊢
  by_cases hk' : k < N
  · obtain ⟨q, hx⟩ : ∃ q, b.ts[k]? = some q := ⟨_, List.getElem?_eq_getElem (by omega)⟩
    obtain ⟨ad, c', hv', hc', hcl, hr⟩ := hmem.pos (by omega)
    cases hv'
    have hqm := List.mem_of_getElem? hx
    have hqa := hat.t q hqm
    have hqln := hln q hqm
    have hmy := hok q hqm
    have q0 : At w (ad.add (k * 170)) (txC q.1 q.2) := At.mk fun j u hj => by rw [add_add]; exact hr _ u (rws_at txR_len hx j u hj)
    have hT170 : (txC q.1 q.2).length = 170 := txC_len _ _
    have hEn := fun w' h1 => REncode_calls q.1 q.2 hqln w' h1
    unfold EncT at hEn
    rw [show encE q.1 = 0 from if_pos hmy] at hEn
    generalize txC q.1 q.2 = T at q0 hT170 hEn
    have hTs : T.toArray.size = 170 := by rw [List.size_toArray, hT170]
    have hbl2 := hmy.bl
    have hsum : (pre ++ txsB (b.ts.take k)).length ≤ 17 + k * 3004 := by
      rw [List.length_append, l4e]
      have := txsB_len (l := b.ts.take k) (fun y hy => hok y (List.mem_of_mem_take hy))
      rw [List.length_take, Nat.min_eq_left (by omega)] at this
      omega
    refine x_ ?_
    have hz1 : (l5 ++ [(b1, Obj.cells F.toArray 27 (0, 0))] : Hp).Perm ([] ++ (l5 ++ [(b1, Obj.cells F.toArray 27 (0, 0))])) := List.Perm.refl _
    refine Run.op1 (OpTo.callT Tryz.func55 hz1 (fun w' hm => hEn w' (hqa.fr hm.fr))) ?_
    rintro ⟨⟨v9, l9⟩, hown⟩
    dsimp only at hown ⊢
    rw [show encB q.1 = q.1.b from if_pos hmy] at hown
    obtain ⟨u9, c9, rfl, hc9⟩ := hown.shape
    refine x_ ?_
    refine Run.op1 (mkB Tryz.func36 (fun w' hm => rNum (q.1.b.length : Int) 4 (by decide) (Int.natCast_nonneg _) w')) ?_
    rintro ⟨⟨v6, l6⟩, h6⟩
    rw [Int.toNat_natCast] at h6
    dsimp only at h6 ⊢
    have hp6 : (l6 ++ (l9 ++ (l5 ++ [(b1, Obj.cells F.toArray 27 (0, 0))])) : Hp).Perm (l5 ++ (l6 ++ (l9 ++ [(b1, Obj.cells F.toArray 27 (0, 0))]))) := (perm_of fun f => by (simp only [List.map_append, List.map_cons, List.map_nil, List.sum_append, List.sum_cons, List.sum_nil] <;> omega))
    refine x_ ?_
    refine Run.op1 (apB (L1 := l6 ++ (l9 ++ [(b1, Obj.cells F.toArray 27 (0, 0))])) h5 (le q.1.b.length 4) (h6.src (fun p hp => List.mem_append_left _ hp)) (by rw [le_len]; omega) hp6) ?_
    rintro ⟨⟨v7, l7⟩, h7⟩
    dsimp only at h7 ⊢
    refine x_ ?_
    refine Run.op1 (apB (L1 := l6 ++ (l9 ++ [(b1, Obj.cells F.toArray 27 (0, 0))])) h7 q.1.b (hown.src (fun p hp => List.mem_append_right _ (List.mem_append_right _ (List.mem_append_left _ hp)))) (by rw [List.length_append, le_len]; omega) (List.Perm.refl _)) ?_
    rintro ⟨⟨v8, l8⟩, h8⟩
    dsimp only at h8 ⊢
    refine x_ ?_
    exact RQ.upP (k + 1) (v8, l8) (Nat.lt_succ_self _) hk' (by
      dsimp only
      rw [txsB_succ hx]
      unfold txB
      rw [← List.append_assoc, ← List.append_assoc]
      exact h8) ⟨rfl, rfl, rfl, trivial⟩ (L1 := (l8 ++ [(b1, Obj.cells F.toArray 27 (0, 0))]) ++ (l6 ++ l9)) (perm_of fun f => by (simp only [List.map_append, List.map_cons, List.map_nil, List.sum_append, List.sum_cons, List.sum_nil] <;> omega)) (List.sublist_append_left _ _)
  obtain rfl : k = N := by omega
  rw [List.take_of_length_le (by omega)] at h5
  have hpb : pre ++ txsB b.ts = bkB b := by rw [hpre]; unfold bkB; rw [← hN]; simp only [List.append_assoc]
  rw [hpb] at h5
  refine x_ ?_
  exact RQ.ret1 rfl (Res.tmp rfl) fun w' hm => Makes.of (L' := [(b1, Obj.cells F.toArray 27 (0, 0))]) h5 hm
end Go.Proofs.YtfoeakgnkfcbjaaGreatDoor
end
section
/- block: May, Encode of both. -/
namespace Go.Proofs.YtfoeakgnkfcbjaaGreatDoor
attribute [local irreducible] Go.Vc.Run Go.Vc.RC Go.Vc.RQ Go.Vc.DR Go.Vc.DOp Go.Vc.Knows Go.Vc.At
set_option maxHeartbeats 400000
set_option maxRecDepth 10000
open Go Go.Vc Go.Sha
theorem bkB_len {b : BkV} (h : MayB b) : (bkB b).length ≤ 100000 ∧ 17 ≤ (bkB b).length := by
  have h1 := txsB_len (l := b.ts) (fun q hq => by
    obtain ⟨i, hi, rfl⟩ := List.mem_iff_getElem.1 hq
    exact (h.2.2 i _ (List.getElem?_eq_getElem hi)).1)
  have h2 := h.2.1
  unfold bkB
  simp only [List.length_append, bits_len, le_len, b.pv.2.1]
  omega
theorem may_all {b : BkV} (h : MayB b) : ∀ q ∈ b.ts, TxMay q.1 := fun q hq => by
  obtain ⟨i, hi, rfl⟩ := List.mem_iff_getElem.1 hq
  exact (h.2.2 i _ (List.getElem?_eq_getElem hi)).1
theorem kd_ne {z : Int} {k : Nat} (h : ¬ (z = 1 ↔ k = 0)) : ((z == 1) != ((k : Int) == 0)) = true := by
  by_cases h1 : z = 1 <;> by_cases h2 : k = 0
  · exact absurd (Iff.intro (fun _ => h2) (fun _ => h1)) h
  · rw [beq_iff_eq.2 h1, beq_eq_false_iff_ne.2 (show (k : Int) ≠ 0 by omega)]; rfl
  · rw [beq_eq_false_iff_ne.2 h1, beq_iff_eq.2 (show (k : Int) = 0 by omega)]; rfl
  · exact absurd (Iff.intro (fun q => absurd q h1) (fun q => absurd q h2)) h
theorem kd_eq {z : Int} {k : Nat} (h : z = 1 ↔ k = 0) : ((z == 1) != ((k : Int) == 0)) = false := by
  by_cases h1 : z = 1
  · rw [beq_iff_eq.2 h1, beq_iff_eq.2 (show (k : Int) = 0 by have := h.1 h1; omega)]; rfl
  · rw [beq_eq_false_iff_ne.2 h1, beq_eq_false_iff_ne.2 (show (k : Int) ≠ 0 from fun q => h1 (h.2 (by omega)))]; rfl
set_option maxRecDepth 10000 in set_option maxHeartbeats 4000000 in
theorem RMayB_calls (b : BkV) (hln : BkLn b) (a : Option Addr) (c : Nat) (w : World) (hat : BkAt w b a c) : Gives Tryz.prog 21 [.agg (bkC b a c).toArray] (.bool (decide (MayB b))) w := by
  refine enter Tryz.func21 rfl (Mem.nil w []) rfl ?_
  have r8 := bk_r8 b a c
  have r9 := bk_r9 b a c
  have hF10 : (bkC b a c).toArray.size = 10 := by rw [List.size_toArray, bkC_len]
  have kW : Knows Tryz.prog w 25 [.float .f64 b.wk] (.tuple #[.int .i64 (wkN b.wk), .bool (isWk b.wk)]) := Knows.mk Tryz.func25 (fun w' _ => RWork_calls b.wk b.hw w')
  have hBy := fun h1 h2 w' h3 => RBytes_calls b hln h1 h2 a c w' h3
  generalize bkC b a c = F at r8 r9 hF10 hBy ⊢
  have hno : ∀ (w' : World), Fr [] w w' → ¬ MayB b → Ending.returned (.bool false) = Ending.returned (.bool (decide (MayB b))) ∧ Fr [] w w' := fun w' hf h => ⟨by rw [decide_eq_false h], hf⟩
  refine z_ ?_
  refine Run.nw nbx ?_
  intro b1
  have hmem := hat.s
  obtain ⟨N, hN⟩ : ∃ N, N = b.ts.length := ⟨_, rfl⟩
  rw [← hN] at r9 hmem
  by_cases hwk : isWk b.wk = true
  rotate_left
  · have hn : ¬ MayB b := fun h => hwk h.1
    rw [Bool.not_eq_true] at hwk
    rw [hwk] at kW
    refine x_ ?_
    exact RQ.ret1 rfl (Res.tmp rfl) fun w' hm => hno w' hm.fr hn
  rw [hwk] at kW
  by_cases h1 : N < 1
  · have hn : ¬ MayB b := fun h => by have := h.2.1; omega
    refine x_ ?_
    exact RQ.ret1 rfl (Res.tmp rfl) fun w' hm => hno w' hm.fr hn
  by_cases h32 : 32 < N
  · have hn : ¬ MayB b := fun h => by have := h.2.1; omega
    refine x_ ?_
    exact RQ.ret1 rfl (Res.tmp rfl) fun w' hm => hno w' hm.fr hn
  refine x_ ?_
  refine RC.up N (D := Unit) (fun k _ => ∀ i q, i < k → b.ts[i]? = some q → okAt i q.1) (fun k _ => [(5, .int .i64 k), (1, .pointer (some ⟨b1, 0, none⟩))]) (fun _ _ => [(b1, Obj.cells F.toArray 27 (0, 0))]) 0 () (Nat.zero_le _) (fun i q h => by omega) ⟨rfl, rfl, trivial⟩ (List.Sublist.refl _) ?_
  intro k _ hk hok
  by_cases hk' : k < N
  · obtain ⟨q, hx⟩ : ∃ q, b.ts[k]? = some q := ⟨_, List.getElem?_eq_getElem (by omega)⟩
    obtain ⟨ad, c', hv', hc', hcl, hr⟩ := hmem.pos (by omega)
    cases hv'
    have hqm := List.mem_of_getElem? hx
    have hqa := hat.t q hqm
    have hqln := hln q hqm
    have hcx : w.cell? ((ad.add (k * 170)).add 0) = some (.int .i64 q.1.kd) := by
      rw [add_add]
      exact hr _ _ (rws_at txR_len hx 0 _ rfl)
    have q0 : At w (ad.add (k * 170)) (txC q.1 q.2) := At.mk fun j u hj => by rw [add_add]; exact hr _ u (rws_at txR_len hx j u hj)
    have hT170 : (txC q.1 q.2).length = 170 := txC_len _ _
    have kM : Knows Tryz.prog w 48 [.agg (txC q.1 q.2).toArray] (.bool (decide (TxMay q.1))) := Knows.mk Tryz.func48 (fun w' hf => RMayTx_calls q.1 q.2 hqln w' (hqa.fr hf))
    generalize txC q.1 q.2 = T at q0 hT170 kM
    have hTs : T.toArray.size = 170 := by rw [List.size_toArray, hT170]
    by_cases hmy : TxMay q.1
    rotate_left
    · have hn : ¬ MayB b := fun h => hmy (h.2.2 k q hx).1
      rw [decide_eq_false hmy] at kM
      refine x_ ?_
      exact RQ.ret1 rfl (Res.tmp rfl) fun w' hm => hno w' hm.fr hn
    rw [decide_eq_true hmy] at kM
    refine x_ ?_
    by_cases hkk : (q.1.kd = 1 ↔ k = 0)
    rotate_left
    · have hn : ¬ MayB b := fun h => hkk (h.2.2 k q hx).2
      refine Run.a (Val.eq (Val.neBool tabOk rfl rfl rfl rfl rfl) (congrArg Value.bool (kd_ne hkk))) ?_
      refine x_ ?_
      exact RQ.ret1 rfl (Res.tmp rfl) fun w' hm => hno w' hm.fr hn
    refine Run.a (Val.eq (Val.neBool tabOk rfl rfl rfl rfl rfl) (congrArg Value.bool (kd_eq hkk))) ?_
    refine x_ ?_
    exact RQ.up (k + 1) () (Nat.lt_succ_self _) hk' (fun i p hi hp => by
      rcases Nat.lt_or_ge i k with h | h
      · exact hok i p h hp
      · obtain rfl : i = k := by omega
        obtain rfl : q = p := Option.some.inj (hx.symm.trans hp)
        exact ⟨hmy, hkk⟩) ⟨rfl, rfl, trivial⟩ (List.Sublist.refl _)
  obtain rfl : k = N := by omega
  have hyes : MayB b := ⟨hwk, by omega, fun i q h => hok i q (by have := (List.getElem?_eq_some_iff.1 h).1; omega) h⟩
  have hbl := bkB_len hyes
  rw [decide_eq_true hyes]
  refine x_ ?_
  refine Run.op1 (mkB Tryz.func47 (fun w' hm => hBy (may_all hyes) (by omega) w' (hat.fr hm.fr))) ?_
  rintro ⟨⟨v5, l5⟩, h5⟩
  dsimp only at h5 ⊢
  obtain ⟨u5, c5, rfl, hc5⟩ := h5.shape
  refine x_ ?_
  exact RQ.ret1 rfl (Res.tmp rfl) fun w' hm => ⟨by rw [decide_eq_true (show ((bkB b).length : Int) ≤ 131072 by omega)], hm.fr⟩
set_option maxRecDepth 10000 in set_option maxHeartbeats 4000000 in
theorem MayBk_calls (b : BkV) (hln : BkLn b) (a : Option Addr) (c : Nat) (w : World) (hat : BkAt w b a c) : Gives Tryz.prog 20 [.agg (bkC b a c).toArray] (.bool (decide (MayB b))) w := by
  refine enter Tryz.func20 rfl (Mem.nil w []) rfl ?_
  have hF10 : (bkC b a c).toArray.size = 10 := by rw [List.size_toArray, bkC_len]
  have hW := fun w' h3 => written_calls b hln a c w' h3
  generalize bkC b a c = F at hF10 hW ⊢
  refine z_ ?_
  refine Run.nw nbx ?_
  intro b1
  refine x_ ?_
  have hz1 : ([(b1, Obj.cells F.toArray 27 (0, 0))] : Hp).Perm ([] ++ [(b1, Obj.cells F.toArray 27 (0, 0))]) := List.Perm.refl _
  refine Run.op1 (OpTo.callT Tryz.func38 hz1 (fun w' hm => hW w' (hat.fr hm.fr))) ?_
  rintro ⟨⟨v9, l9⟩, hown⟩
  dsimp only at hown ⊢
  refine x_ ?_
  exact RQ.ret1 rfl (Res.tmp rfl) fun w' hm => ⟨rfl, hm.fr⟩
/-- What Encode answers. -/
noncomputable def ebE (b : BkV) : Int := if MayB b then 0 else 1
/-- It encodes. -/
def EncK (f : FuncId) (b : BkV) (a : Option Addr) (c : Nat) (w : World) : Prop := Turns Tryz.prog f [.agg (bkC b a c).toArray] w [] (Y := WrY b) (fun y => .tuple #[y.1.1, .int .i64 (ebE b)]) (fun y => y.1.2)
theorem EncK_no {b : BkV} {w w' : World} {L : Hp} (h : ¬ MayB b) (hm : Mem w [] L w') : ∃ y : WrY b, Ending.returned (.tuple #[.slice none 0 0, .int .i64 1]) = .returned (.tuple #[y.1.1, .int .i64 (ebE b)]) ∧ Fr (([] : Hp).map (·.1)) w w' ∧ Has y.1.2 w' ∧ (∀ p ∈ y.1.2, w.heap.size ≤ p.1 ∨ p.1 ∈ ([] : Hp).map (·.1)) ∧ (y.1.2.map (·.1)).Nodup := by
  rw [show ebE b = 1 from if_neg h]
  exact Turns.of (Y := WrY b) (V := fun y => .tuple #[y.1.1, .int .i64 1]) (L' := fun y => y.1.2) (Lst := []) ⟨(.slice none 0 0, []), by rw [show wrB b = [] from if_neg h]; exact Own.nil⟩ hm (Lr := _) (List.Perm.refl _)
set_option maxRecDepth 10000 in set_option maxHeartbeats 4000000 in
theorem EncBk_calls (b : BkV) (hln : BkLn b) (a : Option Addr) (c : Nat) (w : World) (hat : BkAt w b a c) : EncK 16 b a c w := by
  unfold EncK
  refine enter Tryz.func16 rfl (Mem.nil w []) rfl ?_
  have hF10 : (bkC b a c).toArray.size = 10 := by rw [List.size_toArray, bkC_len]
  have hW := fun w' h3 => written_calls b hln a c w' h3
  generalize bkC b a c = F at hF10 hW ⊢
  refine z_ ?_
  refine Run.nw nbx ?_
  intro b1
  refine x_ ?_
  have hz1 : ([(b1, Obj.cells F.toArray 27 (0, 0))] : Hp).Perm ([] ++ [(b1, Obj.cells F.toArray 27 (0, 0))]) := List.Perm.refl _
  refine Run.op1 (OpTo.callT Tryz.func38 hz1 (fun w' hm => hW w' (hat.fr hm.fr))) ?_
  rintro ⟨⟨v9, l9⟩, hown⟩
  dsimp only at hown ⊢
  by_cases h : MayB b
  · rw [decide_eq_true h, show ebE b = 0 from if_pos h]
    refine x_ ?_
    exact RQ.ret2 rfl (Res.tmp rfl) (Res.tmp rfl) fun w' hm => Turns.of (Y := WrY b) (V := fun y => .tuple #[y.1.1, .int .i64 0]) (L' := fun y => y.1.2) (Lst := []) ⟨(v9, l9), hown⟩ hm (Lr := [(b1, Obj.cells F.toArray 27 (0, 0))]) (List.Perm.refl _)
  · rw [decide_eq_false h]
    refine x_ ?_
    exact RQ.ret2 rfl (Res.tmp rfl) (Res.tmp rfl) fun w' hm => EncK_no h hm
set_option maxRecDepth 10000 in set_option maxHeartbeats 4000000 in
theorem REncBk_calls (b : BkV) (hln : BkLn b) (a : Option Addr) (c : Nat) (w : World) (hat : BkAt w b a c) : EncK 18 b a c w := by
  unfold EncK
  refine enter Tryz.func18 rfl (Mem.nil w []) rfl ?_
  have hF10 : (bkC b a c).toArray.size = 10 := by rw [List.size_toArray, bkC_len]
  have kM : Knows Tryz.prog w 21 [.agg (bkC b a c).toArray] (.bool (decide (MayB b))) := Knows.mk Tryz.func21 (fun w' hf => RMayB_calls b hln a c w' (hat.fr hf))
  have hBy := fun h1 h2 w' h3 => RBytes_calls b hln h1 h2 a c w' h3
  generalize bkC b a c = F at hF10 hBy kM ⊢
  refine z_ ?_
  refine Run.nw nbx ?_
  intro b1
  by_cases h : MayB b
  · rw [decide_eq_true h] at kM
    rw [show ebE b = 0 from if_pos h]
    refine x_ ?_
    refine Run.op1 (mkB Tryz.func47 (fun w' hm => hBy (may_all h) (h.2.1.2) w' (hat.fr hm.fr))) ?_
    rintro ⟨⟨v5, l5⟩, h5⟩
    dsimp only at h5 ⊢
    refine x_ ?_
    exact RQ.ret2 rfl (Res.tmp rfl) (Res.tmp rfl) fun w' hm => Turns.of (Y := WrY b) (V := fun y => .tuple #[y.1.1, .int .i64 0]) (L' := fun y => y.1.2) (Lst := []) ⟨(v5, l5), by rw [show wrB b = bkB b from if_pos h]; exact h5⟩ hm (Lr := [(b1, Obj.cells F.toArray 27 (0, 0))]) (List.Perm.refl _)
  · rw [decide_eq_false h] at kM
    refine x_ ?_
    exact RQ.ret2 rfl (Res.tmp rfl) (Res.tmp rfl) fun w' hm => EncK_no h hm
end Go.Proofs.YtfoeakgnkfcbjaaGreatDoor
end
section
/- block: Root of both. -/
namespace Go.Proofs.YtfoeakgnkfcbjaaGreatDoor
attribute [local irreducible] Go.Vc.Run Go.Vc.RC Go.Vc.RQ Go.Vc.DR Go.Vc.DOp Go.Vc.Knows Go.Vc.At
set_option maxHeartbeats 400000
set_option maxRecDepth 10000
open Go Go.Vc Go.Sha
/-- The transactions' names. -/
noncomputable def idT (q : TxP) : List Nat := dgH 120 q.1 []
noncomputable def idL (l : List TxP) : List (List Nat) := l.map idT
noncomputable def rootB (b : BkV) : List Nat := if MayB b then rootOf (idL b.ts) else List.replicate 8 0
theorem idT_ok (q : TxP) : (idT q).length = 8 ∧ ∀ x ∈ idT q, x < 256 := by
  refine ⟨dgH_len _ _ _, ?_⟩
  unfold idT dgH
  split
  · exact digest_lt _ _
  · intro z hz; rw [(List.mem_replicate.1 hz).2]; decide
theorem idL_HL (l : List TxP) : HL (idL l) := fun h hh => by
  obtain ⟨q, _, rfl⟩ := List.mem_map.1 hh
  exact idT_ok q
theorem idL_succ {l : List TxP} {k : Nat} {q : TxP} (h : l[k]? = some q) : idL (l.take (k + 1)) = idL (l.take k) ++ [idT q] := by
  unfold idL
  rw [List.take_add_one, h, List.map_append]
  rfl
set_option maxRecDepth 10000 in set_option maxHeartbeats 4000000 in
theorem RootBk_calls (b : BkV) (hln : BkLn b) (a : Option Addr) (c : Nat) (w : World) (hat : BkAt w b a c) (hK : Laid w) : Gives Tryz.prog 13 [.agg (bkC b a c).toArray] (.agg (u8s (rootB b)).toArray) w := by
  refine enter Tryz.func13 rfl (Mem.nil w []) rfl ?_
  have r9 := bk_r9 b a c
  have hF10 : (bkC b a c).toArray.size = 10 := by rw [List.size_toArray, bkC_len]
  have kM : Knows Tryz.prog w 20 [.agg (bkC b a c).toArray] (.bool (decide (MayB b))) := Knows.mk Tryz.func20 (fun w' hf => MayBk_calls b hln a c w' (hat.fr hf))
  generalize bkC b a c = F at r9 hF10 kM ⊢
  have hmem := hat.s
  obtain ⟨N, hN⟩ : ∃ N, N = b.ts.length := ⟨_, rfl⟩
  rw [← hN] at r9 hmem
  refine z_ ?_
  refine Run.nw nbx ?_
  intro b1
  refine x_ ?_
  refine Run.nw nal ?_
  intro b2
  by_cases hmy : MayB b
  rotate_left
  · rw [decide_eq_false hmy] at kM
    rw [show rootB b = List.replicate 8 0 from if_neg hmy]
    refine x_ ?_
    refine Run.op1 (osa (arr := ti23.zero.cells) (e := 23) (L' := [(b1, Obj.cells F.toArray 27 (0, 0))]) (u8s (List.replicate 8 0)).toArray (u8s_one _) (hL := (perm_of fun f => by (simp only [List.map_append, List.map_cons, List.map_nil, List.sum_append, List.sum_cons, List.sum_nil] <;> omega)))) (fun _ => ?_)
    refine x_ ?_
    exact RQ.ret1 rfl (Res.cellAll tabOk rfl rfl rfl m0 rfl) fun w' hm => ⟨rfl, hm.fr⟩
  rw [decide_eq_true hmy] at kM
  rw [show rootB b = rootOf (idL b.ts) from if_pos hmy]
  have h32 := hmy.2.1
  refine x_ ?_
  refine RC.up N (D := (Option Addr × Nat) × Hp) (fun k d => Own 23 8 (.slice d.1.1 k d.1.2) k (u8s (idL (b.ts.take k)).flatten) d.2) (fun k d => [(15, .int .i64 k), (14, .int .i64 N), (13, .slice a N c), (3, .slice d.1.1 k d.1.2), (2, .pointer (some ⟨b2, 0, none⟩)), (1, .pointer (some ⟨b1, 0, none⟩))]) (fun _ d => d.2 ++ [(b2, Obj.cells ti23.zero.cells 23 (0, 0)), (b1, Obj.cells F.toArray 27 (0, 0))]) 0 ((none, 0), []) (Nat.zero_le _) Own.nil ⟨rfl, rfl, rfl, rfl, rfl, rfl, trivial⟩ (List.Sublist.refl _) ?_
  rintro k ⟨⟨wa, wc⟩, wl⟩ hk hown
  dsimp only at hown ⊢
  by_cases hk' : k < N
  · obtain ⟨q, hx⟩ : ∃ q, b.ts[k]? = some q := ⟨_, List.getElem?_eq_getElem (by omega)⟩
    obtain ⟨ad, c', hv', hc', hcl, hr⟩ := hmem.pos (by omega)
    cases hv'
    have hqm := List.mem_of_getElem? hx
    have hqa := hat.t q hqm
    have hqln := hln q hqm
    have q0 : At w (ad.add (k * 170)) (txC q.1 q.2) := At.mk fun j u hj => by rw [add_add]; exact hr _ u (rws_at txR_len hx j u hj)
    have hT170 : (txC q.1 q.2).length = 170 := txC_len _ _
    have hT1 := txC_one q.1 q.2
    have kI : Knows Tryz.prog w 34 [.agg (txC q.1 q.2).toArray] (.tuple #[.agg (u8s (idT q)).toArray, .bool (decide (TxMay q.1))]) := Knows.mk Tryz.func34 (fun w' hf => TID_calls q.1 q.2 hqln w' (hqa.fr hf) (hK.fr hf (by simp)))
    generalize txC q.1 q.2 = T at q0 hT170 hT1 kI
    have hTs : T.toArray.size = 170 := by rw [List.size_toArray, hT170]
    have hid := idT_ok q
    have his := idL_succ hx
    generalize idT q = I at hid his kI
    have hIs : (u8s I).toArray.size = 8 := by rw [List.size_toArray, u8s_len, hid.1]
    refine x_ ?_
    refine Run.nw nal ?_
    intro b5
    refine x_ ?_
    refine Run.op1 (osa (arr := ti64.zero.cells) (e := 64) (L' := wl ++ [(b2, Obj.cells ti23.zero.cells 23 (0, 0)), (b1, Obj.cells F.toArray 27 (0, 0))]) T.toArray hT1 (hL := (perm_of fun f => by (simp only [List.map_append, List.map_cons, List.map_nil, List.sum_append, List.sum_cons, List.sum_nil] <;> omega))) (hs := by exact hTs)) (fun _ => ?_)
    refine x_ ?_
    refine Run.nw nal ?_
    intro b6
    refine x_ ?_
    refine Run.op1 (osa (arr := ti23.zero.cells) (e := 23) (L' := (b5, Obj.cells T.toArray 64 (0, 0)) :: (wl ++ [(b2, Obj.cells ti23.zero.cells 23 (0, 0)), (b1, Obj.cells F.toArray 27 (0, 0))])) (u8s I).toArray (u8s_one _) (hL := (perm_of fun f => by (simp only [List.map_append, List.map_cons, List.map_nil, List.sum_append, List.sum_cons, List.sum_nil] <;> omega))) (hs := by exact hIs)) (fun _ => ?_)
    refine x_ ?_
    refine Run.nw (nbsl (parts := [(0, .tmp 25)]) (u8s I).toArray (fillS_1 8 _ (u8s I) (by rw [u8s_len, hid.1]))) ?_
    intro b26
    refine Run.op1 (OpTo.append (L1 := (b26, Obj.cells (u8s I).toArray 23 (0, 0)) :: ((b6, Obj.cells (u8s I).toArray 23 (0, 0)) :: ((b5, Obj.cells T.toArray 64 (0, 0)) :: [(b2, Obj.cells ti23.zero.cells 23 (0, 0)), (b1, Obj.cells F.toArray 27 (0, 0))]))) tabOk hown (Src.at ⟨b26, 0, none⟩ 1 1 (u8s I) (by rw [u8s_len, hid.1]; rfl) (Rd.rowAll m0)) rfl rfl rfl rfl rfl rfl rfl rfl rfl (perm_of fun f => by (simp only [List.map_append, List.map_cons, List.map_nil, List.sum_append, List.sum_cons, List.sum_nil] <;> omega)) (u8s_one _) (by unfold maxLen; omega) (by simp only [ti23]; omega)) ?_
    rintro ⟨⟨v27, l27⟩, h27⟩
    dsimp only at h27 ⊢
    obtain ⟨wa2, wc2, rfl, hwc2⟩ := h27.shape
    refine x_ ?_
    exact RQ.upP (k + 1) ((wa2, wc2), l27) (Nat.lt_succ_self _) hk' (by dsimp only; rw [his, List.flatten_append, u8s_app, show ([I] : List (List Nat)).flatten = I from List.append_nil I]; exact h27) ⟨rfl, rfl, rfl, rfl, rfl, rfl, trivial⟩ (L1 := (l27 ++ [(b2, Obj.cells ti23.zero.cells 23 (0, 0)), (b1, Obj.cells F.toArray 27 (0, 0))]) ++ [(b26, Obj.cells (u8s I).toArray 23 (0, 0)), (b6, Obj.cells (u8s I).toArray 23 (0, 0)), (b5, Obj.cells T.toArray 64 (0, 0))]) (perm_of fun f => by (simp only [List.map_append, List.map_cons, List.map_nil, List.sum_append, List.sum_cons, List.sum_nil] <;> omega)) (List.sublist_append_left _ _)
  obtain rfl : k = N := by omega
  rw [List.take_of_length_le (by omega)] at hown
  have hR8 : (rootOf (idL b.ts)).length = 8 := rootOf_len _
  have hlen : (idL b.ts).length = k := by unfold idL; rw [List.length_map, hN]
  have hRt := fun w' (hw : Has wl w') (hk : Laid w') => Root_calls _ (idL b.ts) rfl (idL_HL b.ts) (.slice wa k wc) w' (by rw [hlen]; exact hown.srcW hw) hk
  refine x_ ?_
  refine Run.op1 (OpTo.cv Tryz.func35 (fun w' hm => hRt w' (fun p hp => hm.has p (List.mem_append_left _ hp)) (hK.fr hm.fr (by simp)))) (fun _ => ?_)
  refine Run.op1 (osa (arr := ti23.zero.cells) (e := 23) (L' := wl ++ [(b1, Obj.cells F.toArray 27 (0, 0))]) (u8s (rootOf (idL b.ts))).toArray (u8s_one _) (hL := (perm_of fun f => by (simp only [List.map_append, List.map_cons, List.map_nil, List.sum_append, List.sum_cons, List.sum_nil] <;> omega))) (hs := by rw [List.size_toArray, u8s_len, hR8]; rfl)) (fun _ => ?_)
  refine x_ ?_
  exact RQ.ret1 rfl (Res.cellAll tabOk rfl rfl rfl m0 (by rw [List.size_toArray, u8s_len, hR8]; rfl)) fun w' hm => ⟨rfl, hm.fr⟩
end Go.Proofs.YtfoeakgnkfcbjaaGreatDoor
end
