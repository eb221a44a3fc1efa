/- Lemmas. -/
import Derived.Test.YtfoeakgnkfcbjaaGreatDoorPt29
set_option linter.unusedSimpArgs false
set_option linter.unusedVariables false
section
/- tx: the reference's reading with the cursor (gen_cur.py prints it). -/
namespace Go.Vc
open Go
section
variable {P : Program} {n : Nat} {w0 : World} {S0 : List Nat} {Q : Exit → Act → World → Prop} {E : Env} {L : Hp}
/-- What is known behind a block. -/
theorem RC.midBY {c : Code} {id : Nat} {Y : Type} (Em : Y → Env) (Lm : Y → Hp) (h1 : RC P n w0 S0 c (Exit.inBlock id (Exit.then (fun a w => ∃ y, St n (Em y) a ∧ Mem w0 S0 (Lm y) w) Q)) E L) (h2 : ∀ y, RQ n w0 S0 .normal Q (Em y) (Lm y)) : RC P n w0 S0 c (Exit.inBlock id Q) E L := by
  intro a w hs hm
  refine wp_mono (h1 a w hs hm) ?_
  intro e a' w' h
  cases e with
  | normal => obtain ⟨y, h3, h4⟩ := h; exact h2 y a' w' h3 h4
  | exit i =>
    show (if i = id then Q .normal a' w' else Q (.exit i) a' w')
    change (if i = id then (∃ y, St n (Em y) a' ∧ Mem w0 S0 (Lm y) w') else Q (.exit i) a' w') at h
    split
    · rw [if_pos (by assumption)] at h; obtain ⟨y, h3, h4⟩ := h; exact h2 y a' w' h3 h4
    · rw [if_neg (by assumption)] at h; exact h
  | _ => exact h
theorem RQ.midB {Y : Type} {Em : Y → Env} {Lm : Y → Hp} (y : Y) (hE : Env.le (Em y) E) {L1 : Hp} (hp : L.Perm L1) (hL : (Lm y).Sublist L1) : RQ n w0 S0 .normal (Exit.then (fun a w => ∃ y, St n (Em y) a ∧ Mem w0 S0 (Lm y) w) Q) E L :=
  fun _ _ hs hm => ⟨y, hs.weak hE, (hm.perm hp).sublist hL⟩
end
end Go.Vc
namespace Go.Proofs.YtfoeakgnkfcbjaaGreatDoor
attribute [local irreducible] Go.Vc.Run Go.Vc.RC Go.Vc.RQ Go.Vc.DR Go.Vc.DOp Go.Vc.Knows Go.Vc.At
set_option maxHeartbeats 400000
set_option maxRecDepth 10000
open Go Go.Vc Go.Sha
theorem CurC.fin {cb : Nat} {a : Option Addr} {cc : Nat} {l : List Nat} {s s' : CuS} {Ex : Hp} {α : Type} {res : α × CuS} {Y : α → Type} {V : (x : α) → Y x → Value} {L' : (x : α) → Y x → Hp} {w w' : World} {L1 Lr : Hp} {x : α} (h : res = (x, s')) (y : Y x) (hm : Mem w (((cb, CuC a cc l s) :: Ex).map (·.1)) L1 w') (hp : L1.Perm (((cb, CuC a cc l s') :: L' x y) ++ Lr)) :
    ∃ y', Ending.returned (V x y) = .returned (V res.1 y') ∧ Fr (((cb, CuC a cc l s) :: Ex).map (·.1)) w w' ∧ Has ((cb, CuC a cc l res.2) :: L' res.1 y') w' ∧ (∀ p ∈ (cb, CuC a cc l res.2) :: L' res.1 y', w.heap.size ≤ p.1 ∨ p.1 ∈ ((cb, CuC a cc l s) :: Ex).map (·.1)) ∧ (((cb, CuC a cc l res.2) :: L' res.1 y').map (·.1)).Nodup := by
  subst h
  exact Turns.of (V := V x) (L' := fun y => (cb, CuC a cc l s') :: L' x y) y hm hp
theorem row_w {pre old post : List Value} {d x : List Nat} {m k off : Nat} (ho : old.length = m * 8) (hd : d.length = k * 8) (hx : x.length = 8) (hk : k < m) (hq : pre.length = off) : wrAt (pre ++ ((u8s d ++ old.drop (k * 8)) ++ post)).toArray (off + k * 8) (u8s x) = (pre ++ ((u8s (d ++ x) ++ old.drop ((k + 1) * 8)) ++ post)).toArray := by
  have hm8 : k * 8 + 8 ≤ m * 8 := by omega
  refine wr_at' (pre := pre ++ u8s d) (old := (old.drop (k * 8)).take 8) (new := u8s x) (post := old.drop ((k + 1) * 8) ++ post) ?_ ?_ (by rw [List.length_take, List.length_drop, u8s_len, hx, ho]; omega) (by rw [List.length_append, u8s_len, hd, hq])
  · rw [show old.drop ((k + 1) * 8) = (old.drop (k * 8)).drop 8 from by rw [List.drop_drop, Nat.add_mul, Nat.one_mul]]
    rw [← List.append_assoc ((old.drop (k * 8)).take 8), List.take_append_drop]
    simp only [List.append_assoc]
  · rw [u8s_app]
    simp only [List.append_assoc]
theorem row_f {pre old post : List Value} {d : List Nat} {m k off : Nat} (ho : old.length = m * 8) (hd : d.length = k * 8) (hk : k < m) (hq : pre.length = off) : off + k * 8 + 8 ≤ (pre ++ ((u8s d ++ old.drop (k * 8)) ++ post)).toArray.size := by
  have hm8 : k * 8 + 8 ≤ m * 8 := by omega
  simp only [List.size_toArray, List.length_append, u8s_len, hd, List.length_drop, ho, hq]
  omega
theorem ce_r20 (sd ep ql : Int) (en ro : By 8) (u : Value) (q : Option Addr) (m c : Nat) : rdAt ti55 (ceK sd ep ql en ro u (.slice q m c)).toArray 20 = some (.slice q m c) := by
  show (ceK sd ep ql en ro u (.slice q m c)).toArray[20]? = _
  have e : ceK sd ep ql en ro u (.slice q m c) = (.int .i64 sd :: .int .i64 ep :: .int .i64 ql :: (u8s en.1 ++ (u8s ro.1 ++ [u]))) ++ [.slice q m c] := by unfold ceK ceC; simp only [List.cons_append, List.append_assoc, List.nil_append]
  rw [List.getElem?_toArray, e, List.getElem?_append_right (by simp only [List.length_cons, List.length_append, List.length_nil, u8s_len, en.2.1, ro.2.1]; omega)]
  simp only [List.length_cons, List.length_append, List.length_nil, u8s_len, en.2.1, ro.2.1]
  rfl
theorem cuSig (cb : Nat) (a : Option Addr) (cc : Nat) (l : List Nat) (s : CuS) (hs : s.1 <:+ l) : CurC 161 [.pointer (some ⟨cb, 0, none⟩)] cb a cc l s [] (zSig s) (fun _ => Unit) (fun x _ => .agg x.c.toArray) (fun _ _ => []) := by
  intro w hcc hI hw hnd
  refine enter Tryz.func161 rfl (Mem.init (S0 := ((cb, CuC a cc l s) :: []).map (·.1)) hw (fun p hp => List.mem_map_of_mem hp) hnd) rfl ?_
  have hbl := hI.bt
  refine x_ ?_
  refine Run.nw nal ?_
  intro b2
  refine x_ ?_
  have hp1 : ((b2, Obj.cells ti171.zero.cells 171 (0, 0)) :: ((cb, CuC a cc l s) :: []) : Hp).Perm (((cb, CuC a cc l s) :: []) ++ ((b2, Obj.cells ti171.zero.cells 171 (0, 0)) :: [])) := (perm_of fun f => by (simp only [List.map_append, List.map_cons, List.map_nil, List.sum_append, List.sum_cons, List.sum_nil] <;> omega))
  rcases h1 : cN 1 s with ⟨x1, s1⟩
  have hs1 : s1.1 <:+ l := by have := (agr_N 1).sfx s; rw [h1] at this; exact this.trans hs
  refine Run.op1 (callC Tryz.func51 (cuNum 1 (by decide) cb a cc l s hs) hcc hI hp1 h1) (fun _ => ?_)
  dsimp only [List.append_nil, List.cons_append, List.nil_append]
  refine x_ ?_
  refine Run.a (vbs (SigD.c ⟨x1, By.z 128, By.z 128, By.z 24⟩).toArray) ?_
  refine x_ ?_
  refine Run.nw nal ?_
  intro b3
  refine x_ ?_
  refine Run.op1 (osa (arr := ti171.zero.cells) (e := 171) (L' := (cb, CuC a cc l s1) :: ((b2, Obj.cells ti171.zero.cells 171 (0, 0)) :: [])) (SigD.c ⟨x1, By.z 128, By.z 128, By.z 24⟩).toArray (SigD.one _) (hL := (perm_of fun f => by (simp only [List.map_append, List.map_cons, List.map_nil, List.sum_append, List.sum_cons, List.sum_nil] <;> omega)))) (fun _ => ?_)
  obtain ⟨pre2, old2, post2, hF2, hG2, ho2, hq2⟩ := sg_at1 x1 (By.z 128) (By.z 128) (By.z 24)
  rw [hF2]
  refine x_ ?_
  refine RC.up 16 (D := List Nat × CuS) (fun k d => (zHs k s1).1.1 = d.1 ∧ (zHs k s1).2 = d.2) (fun k _ => [(4, .int .i64 k), (3, .pointer (some ⟨b3, 0, none⟩)), (2, .pointer (some ⟨b2, 0, none⟩)), (0, .pointer (some ⟨cb, 0, none⟩))]) (fun k d => (b3, Obj.cells (pre2 ++ ((u8s d.1 ++ old2.drop (k * 8)) ++ post2)).toArray 171 (0, 0)) :: ((cb, CuC a cc l d.2) :: ((b2, Obj.cells ti171.zero.cells 171 (0, 0)) :: []))) 0 ([], s1) (Nat.zero_le _) ⟨rfl, rfl⟩ ⟨rfl, rfl, rfl, rfl, trivial⟩ (List.Sublist.refl _) ?_
  rintro k ⟨d, sk⟩ hk ⟨hd1, hd2⟩
  dsimp only at hd1 hd2 ⊢
  have hsk : sk.1 <:+ l := by have := (agr_Hs k).sfx s1; rw [hd2] at this; exact this.trans hs1
  have hdl : d.length = k * 8 := by rw [← hd1]; exact (zHs k s1).1.2.1
  refine x_ ?_
  (repeat refine RC.seq ?_); refine RC.wh rfl (fun h => RQ.next ?_) (fun h => ?_)
  · have hk' : k < 16 := by have := of_decide_eq_true h; omega
    clear h
    refine x_ ?_
    rcases hh : cB sk with ⟨x, s'⟩
    have hp2 : ((b3, Obj.cells (pre2 ++ ((u8s d ++ old2.drop (k * 8)) ++ post2)).toArray 171 (0, 0)) :: ((cb, CuC a cc l sk) :: ((b2, Obj.cells ti171.zero.cells 171 (0, 0)) :: [])) : Hp).Perm (((cb, CuC a cc l sk) :: []) ++ ((b3, Obj.cells (pre2 ++ ((u8s d ++ old2.drop (k * 8)) ++ post2)).toArray 171 (0, 0)) :: ((b2, Obj.cells ti171.zero.cells 171 (0, 0)) :: []))) := (perm_of fun f => by (simp only [List.map_append, List.map_cons, List.map_nil, List.sum_append, List.sum_cons, List.sum_nil] <;> omega))
    refine Run.op1 (callC Tryz.func49 (cuHash cb a cc l sk hsk) hcc hI hp2 hh) (fun _ => ?_)
    dsimp only [List.append_nil, List.cons_append, List.nil_append]
    refine x_ ?_
    refine Run.a (via k (1 + k * 8)) ?_
    refine Run.op1 (ostE (arr := (pre2 ++ ((u8s d ++ old2.drop (k * 8)) ++ post2)).toArray) (e := 171) (L' := (cb, CuC a cc l s') :: ((b2, Obj.cells ti171.zero.cells 171 (0, 0)) :: [])) (pre2 ++ ((u8s (d ++ x.1) ++ old2.drop ((k + 1) * 8)) ++ post2)).toArray (hL := (perm_of fun f => by (simp only [List.map_append, List.map_cons, List.map_nil, List.sum_append, List.sum_cons, List.sum_nil] <;> omega))) (hs := by show (u8s x.1).toArray.size = 8; rw [List.size_toArray, u8s_len, x.2.1]) (he := by exact row_w ho2 hdl x.2.1 hk' hq2) (hf := by exact row_f ho2 hdl hk' hq2) (h1 := by exact u8s_one _)) (fun _ => ?_)
    refine x_ ?_
    exact RQ.upP (k + 1) (d ++ x.1, s') (Nat.lt_succ_self _) hk' ⟨by show (zHs k s1).1.1 ++ (cB (zHs k s1).2).1.1 = d ++ x.1; rw [hd2, hh, hd1], by show (cB (zHs k s1).2).2 = s'; rw [hd2, hh]⟩ ⟨rfl, rfl, rfl, rfl, trivial⟩ (L1 := (b3, Obj.cells (pre2 ++ ((u8s (d ++ x.1) ++ old2.drop ((k + 1) * 8)) ++ post2)).toArray 171 (0, 0)) :: ((cb, CuC a cc l s') :: ((b2, Obj.cells ti171.zero.cells 171 (0, 0)) :: []))) (perm_of fun f => by (simp only [List.map_append, List.map_cons, List.map_nil, List.sum_append, List.sum_cons, List.sum_nil] <;> omega)) (List.Sublist.refl _)
  obtain rfl : k = 16 := by have := of_decide_eq_false h; omega
  clear h
  obtain ⟨x2, hx2⟩ : ∃ x : By 128, x = (zHs 16 s1).1 := ⟨_, rfl⟩
  have h2 : zHs 16 s1 = (x2, sk) := Prod.ext hx2.symm hd2
  have hd3 : x2.1 = d := by rw [hx2]; exact hd1
  rw [List.drop_of_length_le (l := old2) (by omega), List.append_nil, ← hd3, ← hG2 x2]
  clear hd1 hd2 hd3 hdl hk
  obtain ⟨s2, rfl⟩ : ∃ q, q = sk := ⟨_, rfl⟩
  have hs2 : s2.1 <:+ l := hsk
  (repeat refine RQ.thenExit ?_); refine RQ.blockHere ?_
  obtain ⟨pre3, old3, post3, hF3, hG3, ho3, hq3⟩ := sg_at2 x1 x2 (By.z 128) (By.z 24)
  rw [hF3]
  refine x_ ?_
  refine RC.up 16 (D := List Nat × CuS) (fun k d => (zHs k s2).1.1 = d.1 ∧ (zHs k s2).2 = d.2) (fun k _ => [(5, .int .i64 k), (3, .pointer (some ⟨b3, 0, none⟩)), (2, .pointer (some ⟨b2, 0, none⟩)), (0, .pointer (some ⟨cb, 0, none⟩))]) (fun k d => (b3, Obj.cells (pre3 ++ ((u8s d.1 ++ old3.drop (k * 8)) ++ post3)).toArray 171 (0, 0)) :: ((cb, CuC a cc l d.2) :: ((b2, Obj.cells ti171.zero.cells 171 (0, 0)) :: []))) 0 ([], s2) (Nat.zero_le _) ⟨rfl, rfl⟩ ⟨rfl, rfl, rfl, rfl, trivial⟩ (List.Sublist.refl _) ?_
  rintro k ⟨d, sk⟩ hk ⟨hd1, hd2⟩
  dsimp only at hd1 hd2 ⊢
  have hsk : sk.1 <:+ l := by have := (agr_Hs k).sfx s2; rw [hd2] at this; exact this.trans hs2
  have hdl : d.length = k * 8 := by rw [← hd1]; exact (zHs k s2).1.2.1
  refine x_ ?_
  (repeat refine RC.seq ?_); refine RC.wh rfl (fun h => RQ.next ?_) (fun h => ?_)
  · have hk' : k < 16 := by have := of_decide_eq_true h; omega
    clear h
    refine x_ ?_
    rcases hh : cB sk with ⟨x, s'⟩
    have hp3 : ((b3, Obj.cells (pre3 ++ ((u8s d ++ old3.drop (k * 8)) ++ post3)).toArray 171 (0, 0)) :: ((cb, CuC a cc l sk) :: ((b2, Obj.cells ti171.zero.cells 171 (0, 0)) :: [])) : Hp).Perm (((cb, CuC a cc l sk) :: []) ++ ((b3, Obj.cells (pre3 ++ ((u8s d ++ old3.drop (k * 8)) ++ post3)).toArray 171 (0, 0)) :: ((b2, Obj.cells ti171.zero.cells 171 (0, 0)) :: []))) := (perm_of fun f => by (simp only [List.map_append, List.map_cons, List.map_nil, List.sum_append, List.sum_cons, List.sum_nil] <;> omega))
    refine Run.op1 (callC Tryz.func49 (cuHash cb a cc l sk hsk) hcc hI hp3 hh) (fun _ => ?_)
    dsimp only [List.append_nil, List.cons_append, List.nil_append]
    refine x_ ?_
    refine Run.a (via k (129 + k * 8)) ?_
    refine Run.op1 (ostE (arr := (pre3 ++ ((u8s d ++ old3.drop (k * 8)) ++ post3)).toArray) (e := 171) (L' := (cb, CuC a cc l s') :: ((b2, Obj.cells ti171.zero.cells 171 (0, 0)) :: [])) (pre3 ++ ((u8s (d ++ x.1) ++ old3.drop ((k + 1) * 8)) ++ post3)).toArray (hL := (perm_of fun f => by (simp only [List.map_append, List.map_cons, List.map_nil, List.sum_append, List.sum_cons, List.sum_nil] <;> omega))) (hs := by show (u8s x.1).toArray.size = 8; rw [List.size_toArray, u8s_len, x.2.1]) (he := by exact row_w ho3 hdl x.2.1 hk' hq3) (hf := by exact row_f ho3 hdl hk' hq3) (h1 := by exact u8s_one _)) (fun _ => ?_)
    refine x_ ?_
    exact RQ.upP (k + 1) (d ++ x.1, s') (Nat.lt_succ_self _) hk' ⟨by show (zHs k s2).1.1 ++ (cB (zHs k s2).2).1.1 = d ++ x.1; rw [hd2, hh, hd1], by show (cB (zHs k s2).2).2 = s'; rw [hd2, hh]⟩ ⟨rfl, rfl, rfl, rfl, trivial⟩ (L1 := (b3, Obj.cells (pre3 ++ ((u8s (d ++ x.1) ++ old3.drop ((k + 1) * 8)) ++ post3)).toArray 171 (0, 0)) :: ((cb, CuC a cc l s') :: ((b2, Obj.cells ti171.zero.cells 171 (0, 0)) :: []))) (perm_of fun f => by (simp only [List.map_append, List.map_cons, List.map_nil, List.sum_append, List.sum_cons, List.sum_nil] <;> omega)) (List.Sublist.refl _)
  obtain rfl : k = 16 := by have := of_decide_eq_false h; omega
  clear h
  obtain ⟨x3, hx3⟩ : ∃ x : By 128, x = (zHs 16 s2).1 := ⟨_, rfl⟩
  have h3 : zHs 16 s2 = (x3, sk) := Prod.ext hx3.symm hd2
  have hd3 : x3.1 = d := by rw [hx3]; exact hd1
  rw [List.drop_of_length_le (l := old3) (by omega), List.append_nil, ← hd3, ← hG3 x3]
  clear hd1 hd2 hd3 hdl hk
  obtain ⟨s3, rfl⟩ : ∃ q, q = sk := ⟨_, rfl⟩
  have hs3 : s3.1 <:+ l := hsk
  (repeat refine RQ.thenExit ?_); refine RQ.blockHere ?_
  obtain ⟨pre4, old4, post4, hF4, hG4, ho4, hq4⟩ := sg_at3 x1 x2 x3 (By.z 24)
  rw [hF4]
  refine x_ ?_
  refine RC.up 3 (D := List Nat × CuS) (fun k d => (zHs k s3).1.1 = d.1 ∧ (zHs k s3).2 = d.2) (fun k _ => [(6, .int .i64 k), (3, .pointer (some ⟨b3, 0, none⟩)), (2, .pointer (some ⟨b2, 0, none⟩)), (0, .pointer (some ⟨cb, 0, none⟩))]) (fun k d => (b3, Obj.cells (pre4 ++ ((u8s d.1 ++ old4.drop (k * 8)) ++ post4)).toArray 171 (0, 0)) :: ((cb, CuC a cc l d.2) :: ((b2, Obj.cells ti171.zero.cells 171 (0, 0)) :: []))) 0 ([], s3) (Nat.zero_le _) ⟨rfl, rfl⟩ ⟨rfl, rfl, rfl, rfl, trivial⟩ (List.Sublist.refl _) ?_
  rintro k ⟨d, sk⟩ hk ⟨hd1, hd2⟩
  dsimp only at hd1 hd2 ⊢
  have hsk : sk.1 <:+ l := by have := (agr_Hs k).sfx s3; rw [hd2] at this; exact this.trans hs3
  have hdl : d.length = k * 8 := by rw [← hd1]; exact (zHs k s3).1.2.1
  refine x_ ?_
  (repeat refine RC.seq ?_); refine RC.wh rfl (fun h => RQ.next ?_) (fun h => ?_)
  · have hk' : k < 3 := by have := of_decide_eq_true h; omega
    clear h
    refine x_ ?_
    rcases hh : cB sk with ⟨x, s'⟩
    have hp4 : ((b3, Obj.cells (pre4 ++ ((u8s d ++ old4.drop (k * 8)) ++ post4)).toArray 171 (0, 0)) :: ((cb, CuC a cc l sk) :: ((b2, Obj.cells ti171.zero.cells 171 (0, 0)) :: [])) : Hp).Perm (((cb, CuC a cc l sk) :: []) ++ ((b3, Obj.cells (pre4 ++ ((u8s d ++ old4.drop (k * 8)) ++ post4)).toArray 171 (0, 0)) :: ((b2, Obj.cells ti171.zero.cells 171 (0, 0)) :: []))) := (perm_of fun f => by (simp only [List.map_append, List.map_cons, List.map_nil, List.sum_append, List.sum_cons, List.sum_nil] <;> omega))
    refine Run.op1 (callC Tryz.func49 (cuHash cb a cc l sk hsk) hcc hI hp4 hh) (fun _ => ?_)
    dsimp only [List.append_nil, List.cons_append, List.nil_append]
    refine x_ ?_
    refine Run.a (via k (257 + k * 8)) ?_
    refine Run.op1 (ostE (arr := (pre4 ++ ((u8s d ++ old4.drop (k * 8)) ++ post4)).toArray) (e := 171) (L' := (cb, CuC a cc l s') :: ((b2, Obj.cells ti171.zero.cells 171 (0, 0)) :: [])) (pre4 ++ ((u8s (d ++ x.1) ++ old4.drop ((k + 1) * 8)) ++ post4)).toArray (hL := (perm_of fun f => by (simp only [List.map_append, List.map_cons, List.map_nil, List.sum_append, List.sum_cons, List.sum_nil] <;> omega))) (hs := by show (u8s x.1).toArray.size = 8; rw [List.size_toArray, u8s_len, x.2.1]) (he := by exact row_w ho4 hdl x.2.1 hk' hq4) (hf := by exact row_f ho4 hdl hk' hq4) (h1 := by exact u8s_one _)) (fun _ => ?_)
    refine x_ ?_
    exact RQ.upP (k + 1) (d ++ x.1, s') (Nat.lt_succ_self _) hk' ⟨by show (zHs k s3).1.1 ++ (cB (zHs k s3).2).1.1 = d ++ x.1; rw [hd2, hh, hd1], by show (cB (zHs k s3).2).2 = s'; rw [hd2, hh]⟩ ⟨rfl, rfl, rfl, rfl, trivial⟩ (L1 := (b3, Obj.cells (pre4 ++ ((u8s (d ++ x.1) ++ old4.drop ((k + 1) * 8)) ++ post4)).toArray 171 (0, 0)) :: ((cb, CuC a cc l s') :: ((b2, Obj.cells ti171.zero.cells 171 (0, 0)) :: []))) (perm_of fun f => by (simp only [List.map_append, List.map_cons, List.map_nil, List.sum_append, List.sum_cons, List.sum_nil] <;> omega)) (List.Sublist.refl _)
  obtain rfl : k = 3 := by have := of_decide_eq_false h; omega
  clear h
  obtain ⟨x4, hx4⟩ : ∃ x : By 24, x = (zHs 3 s3).1 := ⟨_, rfl⟩
  have h4 : zHs 3 s3 = (x4, sk) := Prod.ext hx4.symm hd2
  have hd3 : x4.1 = d := by rw [hx4]; exact hd1
  rw [List.drop_of_length_le (l := old4) (by omega), List.append_nil, ← hd3, ← hG4 x4]
  clear hd1 hd2 hd3 hdl hk
  obtain ⟨s4, rfl⟩ : ∃ q, q = sk := ⟨_, rfl⟩
  have hs4 : s4.1 <:+ l := hsk
  (repeat refine RQ.thenExit ?_); refine RQ.blockHere ?_
  have hsz : (SigD.c ⟨x1, x2, x3, x4⟩).toArray.size = 281 := by rw [List.size_toArray, SigD.len]
  refine x_ ?_
  refine Run.op1 (osa (arr := ti171.zero.cells) (e := 171) (L' := (b3, Obj.cells (SigD.c ⟨x1, x2, x3, x4⟩).toArray 171 (0, 0)) :: ((cb, CuC a cc l s4) :: [])) (SigD.c ⟨x1, x2, x3, x4⟩).toArray (SigD.one _) (hL := (perm_of fun f => by (simp only [List.map_append, List.map_cons, List.map_nil, List.sum_append, List.sum_cons, List.sum_nil] <;> omega))) (hs := by exact hsz)) (fun _ => ?_)
  refine x_ ?_
  exact RQ.ret1 rfl (Res.cellAll tabOk rfl rfl rfl m0 hsz) fun w' hm => CurC.fin (Ex := []) (Y := fun _ => Unit) (V := fun x _ => .agg x.c.toArray) (L' := fun _ _ => []) (show zSig s = (⟨x1, x2, x3, x4⟩, s4) from by simp [zSig, cMap, cAnd, h1, h2, h3, h4]) () hm (Lr := (b2, Obj.cells (SigD.c ⟨x1, x2, x3, x4⟩).toArray 171 (0, 0)) :: ((b3, Obj.cells (SigD.c ⟨x1, x2, x3, x4⟩).toArray 171 (0, 0)) :: [])) (perm_of fun f => by (simp only [List.map_append, List.map_cons, List.map_nil, List.sum_append, List.sum_cons, List.sum_nil] <;> omega))
theorem cuOuts (cb : Nat) (a : Option Addr) (cc : Nat) (l : List Nat) (s : CuS) (hs : s.1 <:+ l) : CurC 134 [.pointer (some ⟨cb, 0, none⟩)] cb a cc l s [] (cRow zOut s) (fun xs => {q : (Option Addr × Nat) × Hp // Own 164 9 (.slice q.1.1 xs.length q.1.2) xs.length (rws OutD.c xs) q.2}) (fun xs y => .slice y.1.1.1 xs.length y.1.1.2) (fun _ y => y.1.2) := by
  intro w hcc hI hw hnd
  refine enter Tryz.func134 rfl (Mem.init (S0 := ((cb, CuC a cc l s) :: []).map (·.1)) hw (fun p hp => List.mem_map_of_mem hp) hnd) rfl ?_
  have hbl := hI.bt
  refine x_ ?_
  have hp1 : ((cb, CuC a cc l s) :: [] : Hp).Perm (((cb, CuC a cc l s) :: []) ++ ([])) := (perm_of fun f => by (simp only [List.map_append, List.map_cons, List.map_nil, List.sum_append, List.sum_cons, List.sum_nil] <;> omega))
  rcases h1 : cN 1 s with ⟨x1, s1⟩
  have hs1 : s1.1 <:+ l := by have := (agr_N 1).sfx s; rw [h1] at this; exact this.trans hs
  refine Run.op1 (callC Tryz.func51 (cuNum 1 (by decide) cb a cc l s hs) hcc hI hp1 h1) (fun _ => ?_)
  dsimp only [List.append_nil, List.cons_append, List.nil_append]
  obtain ⟨n1, rfl, hn1⟩ := cN_nat h1 (fun y hy => hbl y (hs.mem hy))
  refine x_ ?_
  refine RC.midBY (Y := {d : List OutD × CuS × (Option Addr × Nat) × Hp // cRep zOut n1 s1 = (d.1, d.2.1) ∧ d.2.1.1 <:+ l ∧ Own 164 9 (.slice d.2.2.1.1 d.1.length d.2.2.1.2) d.1.length (rws OutD.c d.1) d.2.2.2}) (fun d => [(4, .slice d.1.2.2.1.1 d.1.1.length d.1.2.2.1.2), (0, .pointer (some ⟨cb, 0, none⟩))]) (fun d => (cb, CuC a cc l d.1.2.1) :: (d.1.2.2.2 ++ ([]))) ?_ (fun d => ?_)
  · refine RC.up n1 (D := List OutD × CuS × (Option Addr × Nat) × Hp) (fun k d => cRep zOut k s1 = (d.1, d.2.1) ∧ d.2.1.1 <:+ l ∧ d.1.length = k ∧ Own 164 9 (.slice d.2.2.1.1 k d.2.2.1.2) k (rws OutD.c d.1) d.2.2.2) (fun k d => [(5, .int .i64 k), (3, .int .i64 n1), (4, .slice d.2.2.1.1 k d.2.2.1.2), (0, .pointer (some ⟨cb, 0, none⟩))]) (fun k d => (cb, CuC a cc l d.2.1) :: (d.2.2.2 ++ ([]))) 0 ([], s1, (none, 0), []) (Nat.zero_le _) ⟨rfl, hs1, rfl, Own.nil⟩ ⟨rfl, rfl, rfl, rfl, trivial⟩ (List.Sublist.refl _) ?_
    rintro k ⟨xs, ⟨rk, bk⟩, ⟨wa, wc⟩, wl⟩ hk ⟨hrep, hsk, hxl, hown⟩
    dsimp only at hrep hsk hxl hown ⊢
    subst hxl
    by_cases hk' : xs.length < n1
    rotate_left
    · obtain rfl : n1 = xs.length := by omega
      refine x_ ?_
      exact RQ.midB ⟨(xs, (rk, bk), (wa, wc), wl), hrep, hsk, hown⟩ ⟨rfl, rfl, trivial⟩ (List.Perm.refl _) (List.Sublist.refl _)
    cases bk
    rotate_left
    · refine x_ ?_
      exact RQ.midB ⟨(xs, (rk, true), (wa, wc), wl), (cRep_bad (by rw [hrep]) n1 (by omega)).trans hrep, hsk, hown⟩ ⟨rfl, rfl, trivial⟩ (List.Perm.refl _) (List.Sublist.refl _)
    refine x_ ?_
    have hp3 : ((cb, CuC a cc l (rk, false)) :: (wl ++ ([])) : Hp).Perm (((cb, CuC a cc l (rk, false)) :: []) ++ (wl ++ ([]))) := (perm_of fun f => by (simp only [List.map_append, List.map_cons, List.map_nil, List.sum_append, List.sum_cons, List.sum_nil] <;> omega))
    rcases h3 : cB (rk, false) with ⟨x3, s3⟩
    have hs3 : s3.1 <:+ l := by have := (agr_B).sfx (rk, false); rw [h3] at this; exact this.trans hsk
    refine Run.op1 (callC Tryz.func49 (cuHash cb a cc l (rk, false) hsk) hcc hI hp3 h3) (fun _ => ?_)
    dsimp only [List.append_nil, List.cons_append, List.nil_append]
    have hx3 : (u8s x3.1).length = 8 := by rw [u8s_len, x3.2.1]
    refine x_ ?_
    refine Run.a (vbs (OutD.c ⟨x3, 0⟩).toArray (hf := by exact fill_first (F := OutD.c ⟨x3, 0⟩) rfl (show (u8s x3.1).toArray.size = 8 by rw [List.size_toArray, hx3]) (by decide) rfl)) ?_
    refine x_ ?_
    refine Run.nw nal ?_
    intro b6
    have hsz0 : (OutD.c ⟨x3, 0⟩).toArray.size = 9 := by rw [List.size_toArray, OutD.len]
    refine x_ ?_
    refine Run.op1 (osa (arr := ti164.zero.cells) (e := 164) (L' := (cb, CuC a cc l s3) :: (wl ++ ([]))) (OutD.c ⟨x3, 0⟩).toArray (OutD.one _) (hL := (perm_of fun f => by (simp only [List.map_append, List.map_cons, List.map_nil, List.sum_append, List.sum_cons, List.sum_nil] <;> omega))) (hs := by exact hsz0)) (fun _ => ?_)
    refine x_ ?_
    have hp4 : ((b6, Obj.cells (OutD.c ⟨x3, 0⟩).toArray 164 (0, 0)) :: ((cb, CuC a cc l s3) :: (wl ++ ([]))) : Hp).Perm (((cb, CuC a cc l s3) :: []) ++ ((b6, Obj.cells (OutD.c ⟨x3, 0⟩).toArray 164 (0, 0)) :: (wl ++ ([])))) := (perm_of fun f => by (simp only [List.map_append, List.map_cons, List.map_nil, List.sum_append, List.sum_cons, List.sum_nil] <;> omega))
    rcases h4 : cN 7 s3 with ⟨x4, s4⟩
    have hs4 : s4.1 <:+ l := by have := (agr_N 7).sfx s3; rw [h4] at this; exact this.trans hs3
    refine Run.op1 (callC Tryz.func51 (cuNum 7 (by decide) cb a cc l s3 hs3) hcc hI hp4 h4) (fun _ => ?_)
    dsimp only [List.append_nil, List.cons_append, List.nil_append]
    refine x_ ?_
    refine Run.op1 (ostE (arr := (OutD.c ⟨x3, 0⟩).toArray) (e := 164) (L' := (cb, CuC a cc l s4) :: (wl ++ ([]))) (OutD.c ⟨x3, x4⟩).toArray (hL := (perm_of fun f => by (simp only [List.map_append, List.map_cons, List.map_nil, List.sum_append, List.sum_cons, List.sum_nil] <;> omega))) (he := by exact out_w8 x3 0 x4) (hf := by rw [hsz0]; decide) (h1 := by exact one_i _ _)) (fun _ => ?_)
    have hsz : (OutD.c ⟨x3, x4⟩).toArray.size = 9 := by rw [List.size_toArray, OutD.len]
    refine x_ ?_
    refine Run.nw (nbsl (OutD.c ⟨x3, x4⟩).toArray (fillS_1 9 _ (OutD.c ⟨x3, x4⟩) (OutD.len ⟨x3, x4⟩))) ?_
    intro b14
    refine Run.op1 (OpTo.append (L1 := (b14, Obj.cells (OutD.c ⟨x3, x4⟩).toArray 164 (0, 0)) :: ((b6, Obj.cells (OutD.c ⟨x3, x4⟩).toArray 164 (0, 0)) :: ((cb, CuC a cc l s4) :: []))) tabOk hown (Src.at ⟨b14, 0, none⟩ 1 1 (OutD.c ⟨x3, x4⟩) (by rw [OutD.len]; rfl) (Rd.rowAll m0)) rfl rfl rfl rfl rfl rfl rfl rfl rfl (perm_of fun f => by (simp only [List.map_append, List.map_cons, List.map_nil, List.sum_append, List.sum_cons, List.sum_nil] <;> omega)) (OutD.one ⟨x3, x4⟩) (by unfold maxLen; omega) (by simp only [ti164]; omega)) ?_
    rintro ⟨⟨v15, l15⟩, h15⟩
    dsimp only at h15 ⊢
    obtain ⟨wa2, wc2, rfl, hwc2⟩ := h15.shape
    refine x_ ?_
    exact RQ.upP (xs.length + 1) (xs ++ [⟨x3, x4⟩], s4, (wa2, wc2), l15) (Nat.lt_succ_self _) hk' ⟨cRep_step hrep rfl (show zOut (rk, false) = (⟨x3, x4⟩, s4) from by simp [zOut, cMap, cAnd, h3, h4]), hs4, by rw [List.length_append]; rfl, by rw [rws_app, rws_one]; exact h15⟩ ⟨rfl, rfl, rfl, rfl, trivial⟩ (L1 := ((cb, CuC a cc l s4) :: (l15 ++ ([]))) ++ ((b14, Obj.cells (OutD.c ⟨x3, x4⟩).toArray 164 (0, 0)) :: ((b6, Obj.cells (OutD.c ⟨x3, x4⟩).toArray 164 (0, 0)) :: []))) (perm_of fun f => by (simp only [List.map_append, List.map_cons, List.map_nil, List.sum_append, List.sum_cons, List.sum_nil] <;> omega)) (List.sublist_append_left _ _)
  obtain ⟨⟨x2, s2, ⟨a2, c2⟩, l2⟩, hl2, hs2, o2⟩ := d
  dsimp only at hl2 hs2 o2 ⊢
  have h2 : cRow zOut s = (x2, s2) := by simp [cRow, h1, hl2]
  refine x_ ?_
  exact RQ.ret1 rfl (Res.tmp rfl) fun w' hm => CurC.fin (Ex := []) (Y := fun xs => {q : (Option Addr × Nat) × Hp // Own 164 9 (.slice q.1.1 xs.length q.1.2) xs.length (rws OutD.c xs) q.2}) (V := fun xs y => .slice y.1.1.1 xs.length y.1.1.2) (L' := fun _ y => y.1.2) (show cRow zOut s = (x2, s2) from by simp [h2]) ⟨((a2, c2), l2), o2⟩ hm (Lr := []) (perm_of fun f => by (simp only [List.map_append, List.map_cons, List.map_nil, List.sum_append, List.sum_cons, List.sum_nil] <;> omega))
theorem cuPr (cb : Nat) (a : Option Addr) (cc : Nat) (l : List Nat) (s : CuS) (hs : s.1 <:+ l) : CurC 136 [.pointer (some ⟨cb, 0, none⟩)] cb a cc l s [] (zPr s) (PrY) (fun p y => .agg (prC p (.slice y.1.1.1 p.ks.length y.1.1.2)).toArray) (fun _ y => y.1.2) := by
  intro w hcc hI hw hnd
  refine enter Tryz.func136 rfl (Mem.init (S0 := ((cb, CuC a cc l s) :: []).map (·.1)) hw (fun p hp => List.mem_map_of_mem hp) hnd) rfl ?_
  have hbl := hI.bt
  refine x_ ?_
  refine Run.nw nal ?_
  intro b2
  refine x_ ?_
  have hp1 : ((b2, Obj.cells ti54.zero.cells 54 (0, 0)) :: ((cb, CuC a cc l s) :: []) : Hp).Perm (((cb, CuC a cc l s) :: []) ++ ((b2, Obj.cells ti54.zero.cells 54 (0, 0)) :: [])) := (perm_of fun f => by (simp only [List.map_append, List.map_cons, List.map_nil, List.sum_append, List.sum_cons, List.sum_nil] <;> omega))
  rcases h1 : cN 1 s with ⟨x1, s1⟩
  have hs1 : s1.1 <:+ l := by have := (agr_N 1).sfx s; rw [h1] at this; exact this.trans hs
  refine Run.op1 (callC Tryz.func51 (cuNum 1 (by decide) cb a cc l s hs) hcc hI hp1 h1) (fun _ => ?_)
  dsimp only [List.append_nil, List.cons_append, List.nil_append]
  refine x_ ?_
  refine Run.a (vbs (prC ⟨x1, 0, 0, []⟩ (.slice none 0 0)).toArray) ?_
  refine x_ ?_
  refine Run.nw nal ?_
  intro b3
  refine x_ ?_
  refine Run.op1 (osa (arr := ti54.zero.cells) (e := 54) (L' := (cb, CuC a cc l s1) :: ((b2, Obj.cells ti54.zero.cells 54 (0, 0)) :: [])) (prC ⟨x1, 0, 0, []⟩ (.slice none 0 0)).toArray (prC_one _ _ _ _) (hL := (perm_of fun f => by (simp only [List.map_append, List.map_cons, List.map_nil, List.sum_append, List.sum_cons, List.sum_nil] <;> omega)))) (fun _ => ?_)
  refine x_ ?_
  have hp2 : ((b3, Obj.cells (prC ⟨x1, 0, 0, []⟩ (.slice none 0 0)).toArray 54 (0, 0)) :: ((cb, CuC a cc l s1) :: ((b2, Obj.cells ti54.zero.cells 54 (0, 0)) :: [])) : Hp).Perm (((cb, CuC a cc l s1) :: []) ++ ((b3, Obj.cells (prC ⟨x1, 0, 0, []⟩ (.slice none 0 0)).toArray 54 (0, 0)) :: ((b2, Obj.cells ti54.zero.cells 54 (0, 0)) :: []))) := (perm_of fun f => by (simp only [List.map_append, List.map_cons, List.map_nil, List.sum_append, List.sum_cons, List.sum_nil] <;> omega))
  rcases h2 : cN 1 s1 with ⟨x2, s2⟩
  have hs2 : s2.1 <:+ l := by have := (agr_N 1).sfx s1; rw [h2] at this; exact this.trans hs1
  refine Run.op1 (callC Tryz.func51 (cuNum 1 (by decide) cb a cc l s1 hs1) hcc hI hp2 h2) (fun _ => ?_)
  dsimp only [List.append_nil, List.cons_append, List.nil_append]
  refine x_ ?_
  refine Run.op1 (ostE (arr := (prC ⟨x1, 0, 0, []⟩ (.slice none 0 0)).toArray) (e := 54) (L' := (cb, CuC a cc l s2) :: ((b2, Obj.cells ti54.zero.cells 54 (0, 0)) :: [])) (prC ⟨x1, x2, 0, []⟩ (.slice none 0 0)).toArray (hL := (perm_of fun f => by (simp only [List.map_append, List.map_cons, List.map_nil, List.sum_append, List.sum_cons, List.sum_nil] <;> omega))) (he := by rfl) (hf := by exact Nat.le_of_ble_eq_true rfl) (h1 := by exact one_i _ _)) (fun _ => ?_)
  refine x_ ?_
  have hp3 : ((b3, Obj.cells (prC ⟨x1, x2, 0, []⟩ (.slice none 0 0)).toArray 54 (0, 0)) :: ((cb, CuC a cc l s2) :: ((b2, Obj.cells ti54.zero.cells 54 (0, 0)) :: [])) : Hp).Perm (((cb, CuC a cc l s2) :: []) ++ ((b3, Obj.cells (prC ⟨x1, x2, 0, []⟩ (.slice none 0 0)).toArray 54 (0, 0)) :: ((b2, Obj.cells ti54.zero.cells 54 (0, 0)) :: []))) := (perm_of fun f => by (simp only [List.map_append, List.map_cons, List.map_nil, List.sum_append, List.sum_cons, List.sum_nil] <;> omega))
  rcases h3 : cN 1 s2 with ⟨x3, s3⟩
  have hs3 : s3.1 <:+ l := by have := (agr_N 1).sfx s2; rw [h3] at this; exact this.trans hs2
  refine Run.op1 (callC Tryz.func51 (cuNum 1 (by decide) cb a cc l s2 hs2) hcc hI hp3 h3) (fun _ => ?_)
  dsimp only [List.append_nil, List.cons_append, List.nil_append]
  refine x_ ?_
  refine Run.op1 (ostE (arr := (prC ⟨x1, x2, 0, []⟩ (.slice none 0 0)).toArray) (e := 54) (L' := (cb, CuC a cc l s3) :: ((b2, Obj.cells ti54.zero.cells 54 (0, 0)) :: [])) (prC ⟨x1, x2, x3, []⟩ (.slice none 0 0)).toArray (hL := (perm_of fun f => by (simp only [List.map_append, List.map_cons, List.map_nil, List.sum_append, List.sum_cons, List.sum_nil] <;> omega))) (he := by rfl) (hf := by exact Nat.le_of_ble_eq_true rfl) (h1 := by exact one_i _ _)) (fun _ => ?_)
  refine x_ ?_
  have hp4 : ((b3, Obj.cells (prC ⟨x1, x2, x3, []⟩ (.slice none 0 0)).toArray 54 (0, 0)) :: ((cb, CuC a cc l s3) :: ((b2, Obj.cells ti54.zero.cells 54 (0, 0)) :: [])) : Hp).Perm (((cb, CuC a cc l s3) :: []) ++ ((b3, Obj.cells (prC ⟨x1, x2, x3, []⟩ (.slice none 0 0)).toArray 54 (0, 0)) :: ((b2, Obj.cells ti54.zero.cells 54 (0, 0)) :: []))) := (perm_of fun f => by (simp only [List.map_append, List.map_cons, List.map_nil, List.sum_append, List.sum_cons, List.sum_nil] <;> omega))
  rcases h4 : cN 1 s3 with ⟨x4, s4⟩
  have hs4 : s4.1 <:+ l := by have := (agr_N 1).sfx s3; rw [h4] at this; exact this.trans hs3
  refine Run.op1 (callC Tryz.func51 (cuNum 1 (by decide) cb a cc l s3 hs3) hcc hI hp4 h4) (fun _ => ?_)
  dsimp only [List.append_nil, List.cons_append, List.nil_append]
  obtain ⟨n4, rfl, hn4⟩ := cN_nat h4 (fun y hy => hbl y (hs3.mem hy))
  refine x_ ?_
  refine RC.midBY (Y := {d : List (By 8) × CuS × (Option Addr × Nat) × Hp // cRep cB n4 s4 = (d.1, d.2.1) ∧ d.2.1.1 <:+ l ∧ Own 23 8 (.slice d.2.2.1.1 d.1.length d.2.2.1.2) d.1.length (rws hsC d.1) d.2.2.2}) (fun d => [(3, .pointer (some ⟨b3, 0, none⟩)), (2, .pointer (some ⟨b2, 0, none⟩)), (0, .pointer (some ⟨cb, 0, none⟩))]) (fun d => (cb, CuC a cc l d.1.2.1) :: (d.1.2.2.2 ++ ((b3, Obj.cells (prC ⟨x1, x2, x3, []⟩ (.slice d.1.2.2.1.1 d.1.1.length d.1.2.2.1.2)).toArray 54 (0, 0)) :: ((b2, Obj.cells ti54.zero.cells 54 (0, 0)) :: [])))) ?_ (fun d => ?_)
  · refine RC.up n4 (D := List (By 8) × CuS × (Option Addr × Nat) × Hp) (fun k d => cRep cB k s4 = (d.1, d.2.1) ∧ d.2.1.1 <:+ l ∧ d.1.length = k ∧ Own 23 8 (.slice d.2.2.1.1 k d.2.2.1.2) k (rws hsC d.1) d.2.2.2) (fun k d => [(5, .int .i64 k), (4, .int .i64 n4), (3, .pointer (some ⟨b3, 0, none⟩)), (2, .pointer (some ⟨b2, 0, none⟩)), (0, .pointer (some ⟨cb, 0, none⟩))]) (fun k d => (cb, CuC a cc l d.2.1) :: (d.2.2.2 ++ ((b3, Obj.cells (prC ⟨x1, x2, x3, []⟩ (.slice d.2.2.1.1 k d.2.2.1.2)).toArray 54 (0, 0)) :: ((b2, Obj.cells ti54.zero.cells 54 (0, 0)) :: [])))) 0 ([], s4, (none, 0), []) (Nat.zero_le _) ⟨rfl, hs4, rfl, Own.nil⟩ ⟨rfl, rfl, rfl, rfl, rfl, trivial⟩ (List.Sublist.refl _) ?_
    rintro k ⟨xs, ⟨rk, bk⟩, ⟨wa, wc⟩, wl⟩ hk ⟨hrep, hsk, hxl, hown⟩
    dsimp only at hrep hsk hxl hown ⊢
    subst hxl
    by_cases hk' : xs.length < n4
    rotate_left
    · obtain rfl : n4 = xs.length := by omega
      refine x_ ?_
      exact RQ.midB ⟨(xs, (rk, bk), (wa, wc), wl), hrep, hsk, hown⟩ ⟨rfl, rfl, rfl, trivial⟩ (List.Perm.refl _) (List.Sublist.refl _)
    cases bk
    rotate_left
    · refine x_ ?_
      exact RQ.midB ⟨(xs, (rk, true), (wa, wc), wl), (cRep_bad (by rw [hrep]) n4 (by omega)).trans hrep, hsk, hown⟩ ⟨rfl, rfl, rfl, trivial⟩ (List.Perm.refl _) (List.Sublist.refl _)
    refine x_ ?_
    (repeat refine RC.seq ?_); refine RC.draw ([(b3, Obj.cells (prC ⟨x1, x2, x3, []⟩ (.slice wa xs.length wc)).toArray 54 (0, 0))]) mixed (N := 8) rfl ?_
    refine dy 0 ?_
    refine dy 1 ?_
    refine dy 2 ?_
    have hp6 : ((cb, CuC a cc l (rk, false)) :: (wl ++ ((b3, Obj.cells (prC ⟨x1, x2, x3, []⟩ (.slice wa xs.length wc)).toArray 54 (0, 0)) :: ((b2, Obj.cells ti54.zero.cells 54 (0, 0)) :: []))) : Hp).Perm (((cb, CuC a cc l (rk, false)) :: []) ++ (wl ++ ((b3, Obj.cells (prC ⟨x1, x2, x3, []⟩ (.slice wa xs.length wc)).toArray 54 (0, 0)) :: ((b2, Obj.cells ti54.zero.cells 54 (0, 0)) :: [])))) := (perm_of fun f => by (simp only [List.map_append, List.map_cons, List.map_nil, List.sum_append, List.sum_cons, List.sum_nil] <;> omega))
    rcases h6 : cB (rk, false) with ⟨x6, s6⟩
    have hs6 : s6.1 <:+ l := by have := (agr_B).sfx (rk, false); rw [h6] at this; exact this.trans hsk
    refine DR.c 3 (DOp.op1 rfl (callC Tryz.func49 (cuHash cb a cc l (rk, false) hsk) hcc hI hp6 h6) (fun _ => ?_))
    dsimp only [List.append_nil, List.cons_append, List.nil_append]
    refine DR.c 4 ?_
    refine DOp.op1 rfl (OpTo.new rfl rfl (nbsl (hsC x6).toArray (fillS_1 8 _ (hsC x6) (hsC_len x6)))) ?_
    intro b14
    refine DR.c 5 (DOp.op1 rfl (OpTo.append (L1 := (b14, Obj.cells (hsC x6).toArray 23 (0, 0)) :: ((cb, CuC a cc l s6) :: ((b3, Obj.cells (prC ⟨x1, x2, x3, []⟩ (.slice wa xs.length wc)).toArray 54 (0, 0)) :: ((b2, Obj.cells ti54.zero.cells 54 (0, 0)) :: [])))) tabOk hown (Src.at ⟨b14, 0, none⟩ 1 1 (hsC x6) (by rw [hsC_len]; rfl) (Rd.rowAll m0)) rfl rfl rfl rfl rfl rfl rfl rfl rfl (perm_of fun f => by (simp only [List.map_append, List.map_cons, List.map_nil, List.sum_append, List.sum_cons, List.sum_nil] <;> omega)) (hsC_one x6) (by unfold maxLen; omega) (by simp only [ti23]; omega)) ?_)
    rintro ⟨⟨v15, l15⟩, h15⟩
    dsimp only at h15 ⊢
    obtain ⟨wa2, wc2, rfl, hwc2⟩ := h15.shape
    refine dy 6 ?_
    refine DR.c 7 ?_
    refine DOp.op1 rfl (ostE (arr := (prC ⟨x1, x2, x3, []⟩ (.slice wa xs.length wc)).toArray) (e := 54) (L' := l15 ++ ((b14, Obj.cells (hsC x6).toArray 23 (0, 0)) :: ((cb, CuC a cc l s6) :: ((b2, Obj.cells ti54.zero.cells 54 (0, 0)) :: [])))) (prC ⟨x1, x2, x3, []⟩ (.slice wa2 (xs.length + 1) wc2)).toArray (hL := (perm_of fun f => by (simp only [List.map_append, List.map_cons, List.map_nil, List.sum_append, List.sum_cons, List.sum_nil] <;> omega))) (he := by rfl) (hf := by exact Nat.le_of_ble_eq_true rfl) (h1 := by exact one_s _ _ _)) (fun _ => ?_)
    refine DR.done (by kernel_rfl) ?_
    refine x_ ?_
    exact RQ.upP (xs.length + 1) (xs ++ [x6], s6, (wa2, wc2), l15) (Nat.lt_succ_self _) hk' ⟨cRep_step hrep rfl (show cB (rk, false) = (x6, s6) from by simp [h6]), hs6, by rw [List.length_append]; rfl, by rw [rws_app, rws_one]; exact h15⟩ ⟨rfl, rfl, rfl, rfl, rfl, trivial⟩ (L1 := ((cb, CuC a cc l s6) :: (l15 ++ ((b3, Obj.cells (prC ⟨x1, x2, x3, []⟩ (.slice wa2 (xs.length + 1) wc2)).toArray 54 (0, 0)) :: ((b2, Obj.cells ti54.zero.cells 54 (0, 0)) :: [])))) ++ ((b14, Obj.cells (hsC x6).toArray 23 (0, 0)) :: [])) (perm_of fun f => by (simp only [List.map_append, List.map_cons, List.map_nil, List.sum_append, List.sum_cons, List.sum_nil] <;> omega)) (List.sublist_append_left _ _)
  obtain ⟨⟨x5, s5, ⟨a5, c5⟩, l5⟩, hl5, hs5, o5⟩ := d
  dsimp only at hl5 hs5 o5 ⊢
  have h5 : cRow cB s3 = (x5, s5) := by simp [cRow, h4, hl5]
  have hsz : (prC ⟨x1, x2, x3, x5⟩ (.slice a5 x5.length c5)).toArray.size = 4 := rfl
  change RQ _ _ _ _ _ _ ((cb, CuC a cc l s5) :: (l5 ++ ((b3, Obj.cells (prC ⟨x1, x2, x3, x5⟩ (.slice a5 x5.length c5)).toArray 54 (0, 0)) :: ((b2, Obj.cells ti54.zero.cells 54 (0, 0)) :: []))))
  refine x_ ?_
  refine Run.op1 (osa (arr := ti54.zero.cells) (e := 54) (L' := (cb, CuC a cc l s5) :: (l5 ++ ((b3, Obj.cells (prC ⟨x1, x2, x3, x5⟩ (.slice a5 x5.length c5)).toArray 54 (0, 0)) :: []))) (prC ⟨x1, x2, x3, x5⟩ (.slice a5 x5.length c5)).toArray (prC_one _ _ _ _) (hL := (perm_of fun f => by (simp only [List.map_append, List.map_cons, List.map_nil, List.sum_append, List.sum_cons, List.sum_nil] <;> omega)))) (fun _ => ?_)
  refine x_ ?_
  exact RQ.ret1 rfl (Res.cellAll tabOk rfl rfl rfl m0 hsz) fun w' hm => CurC.fin (Ex := []) (Y := PrY) (V := fun p y => .agg (prC p (.slice y.1.1.1 p.ks.length y.1.1.2)).toArray) (L' := fun _ y => y.1.2) (show zPr s = (⟨x1, x2, x3, x5⟩, s5) from by simp [zPr, cMap, cAnd, h1, h2, h3, h5]) ⟨((a5, c5), l5), o5⟩ hm (Lr := (b2, Obj.cells (prC ⟨x1, x2, x3, x5⟩ (.slice a5 x5.length c5)).toArray 54 (0, 0)) :: ((b3, Obj.cells (prC ⟨x1, x2, x3, x5⟩ (.slice a5 x5.length c5)).toArray 54 (0, 0)) :: [])) (by dsimp only; exact (perm_of fun f => by (simp only [List.map_append, List.map_cons, List.map_nil, List.sum_append, List.sum_cons, List.sum_nil] <;> omega)))
theorem cuCe (cb : Nat) (a : Option Addr) (cc : Nat) (l : List Nat) (s : CuS) (hs : s.1 <:+ l) : CurC 137 [.pointer (some ⟨cb, 0, none⟩)] cb a cc l s [] (zCe s) (CeY) (fun c y => .agg (ceC c (.slice y.1.1.1.1 c.os.length y.1.1.1.2) (.slice y.1.1.2.1 c.sg.length y.1.1.2.2)).toArray) (fun _ y => y.1.2.1 ++ y.1.2.2) := by
  intro w hcc hI hw hnd
  refine enter Tryz.func137 rfl (Mem.init (S0 := ((cb, CuC a cc l s) :: []).map (·.1)) hw (fun p hp => List.mem_map_of_mem hp) hnd) rfl ?_
  have hbl := hI.bt
  refine x_ ?_
  refine Run.nw nal ?_
  intro b2
  refine x_ ?_
  have hp1 : ((b2, Obj.cells ti57.zero.cells 57 (0, 0)) :: ((cb, CuC a cc l s) :: []) : Hp).Perm (((cb, CuC a cc l s) :: []) ++ ((b2, Obj.cells ti57.zero.cells 57 (0, 0)) :: [])) := (perm_of fun f => by (simp only [List.map_append, List.map_cons, List.map_nil, List.sum_append, List.sum_cons, List.sum_nil] <;> omega))
  rcases h1 : cN 1 s with ⟨x1, s1⟩
  have hs1 : s1.1 <:+ l := by have := (agr_N 1).sfx s; rw [h1] at this; exact this.trans hs
  refine Run.op1 (callC Tryz.func51 (cuNum 1 (by decide) cb a cc l s hs) hcc hI hp1 h1) (fun _ => ?_)
  dsimp only [List.append_nil, List.cons_append, List.nil_append]
  refine x_ ?_
  refine Run.a (vbs (ceK x1 0 0 (By.z 8) (By.z 8) (.slice none 0 0) (.slice none 0 0)).toArray) ?_
  refine x_ ?_
  refine Run.nw nal ?_
  intro b3
  refine x_ ?_
  refine Run.op1 (osa (arr := ti57.zero.cells) (e := 57) (L' := (cb, CuC a cc l s1) :: ((b2, Obj.cells ti57.zero.cells 57 (0, 0)) :: [])) (ceK x1 0 0 (By.z 8) (By.z 8) (.slice none 0 0) (.slice none 0 0)).toArray (ceK_one _ _ _ _ _ _ _ _ _ _ _) (hL := (perm_of fun f => by (simp only [List.map_append, List.map_cons, List.map_nil, List.sum_append, List.sum_cons, List.sum_nil] <;> omega)))) (fun _ => ?_)
  refine x_ ?_
  have hp2 : ((b3, Obj.cells (ceK x1 0 0 (By.z 8) (By.z 8) (.slice none 0 0) (.slice none 0 0)).toArray 57 (0, 0)) :: ((cb, CuC a cc l s1) :: ((b2, Obj.cells ti57.zero.cells 57 (0, 0)) :: [])) : Hp).Perm (((cb, CuC a cc l s1) :: []) ++ ((b3, Obj.cells (ceK x1 0 0 (By.z 8) (By.z 8) (.slice none 0 0) (.slice none 0 0)).toArray 57 (0, 0)) :: ((b2, Obj.cells ti57.zero.cells 57 (0, 0)) :: []))) := (perm_of fun f => by (simp only [List.map_append, List.map_cons, List.map_nil, List.sum_append, List.sum_cons, List.sum_nil] <;> omega))
  rcases h2 : cN 4 s1 with ⟨x2, s2⟩
  have hs2 : s2.1 <:+ l := by have := (agr_N 4).sfx s1; rw [h2] at this; exact this.trans hs1
  refine Run.op1 (callC Tryz.func51 (cuNum 4 (by decide) cb a cc l s1 hs1) hcc hI hp2 h2) (fun _ => ?_)
  dsimp only [List.append_nil, List.cons_append, List.nil_append]
  refine x_ ?_
  refine Run.op1 (ostE (arr := (ceK x1 0 0 (By.z 8) (By.z 8) (.slice none 0 0) (.slice none 0 0)).toArray) (e := 57) (L' := (cb, CuC a cc l s2) :: ((b2, Obj.cells ti57.zero.cells 57 (0, 0)) :: [])) (ceK x1 x2 0 (By.z 8) (By.z 8) (.slice none 0 0) (.slice none 0 0)).toArray (hL := (perm_of fun f => by (simp only [List.map_append, List.map_cons, List.map_nil, List.sum_append, List.sum_cons, List.sum_nil] <;> omega))) (he := by exact ce_w1 _ _ _ _ _ _ _ _) (hf := by rw [List.size_toArray, ceK_len]; decide) (h1 := by exact one_i _ _)) (fun _ => ?_)
  refine x_ ?_
  have hp3 : ((b3, Obj.cells (ceK x1 x2 0 (By.z 8) (By.z 8) (.slice none 0 0) (.slice none 0 0)).toArray 57 (0, 0)) :: ((cb, CuC a cc l s2) :: ((b2, Obj.cells ti57.zero.cells 57 (0, 0)) :: [])) : Hp).Perm (((cb, CuC a cc l s2) :: []) ++ ((b3, Obj.cells (ceK x1 x2 0 (By.z 8) (By.z 8) (.slice none 0 0) (.slice none 0 0)).toArray 57 (0, 0)) :: ((b2, Obj.cells ti57.zero.cells 57 (0, 0)) :: []))) := (perm_of fun f => by (simp only [List.map_append, List.map_cons, List.map_nil, List.sum_append, List.sum_cons, List.sum_nil] <;> omega))
  rcases h3 : cN 4 s2 with ⟨x3, s3⟩
  have hs3 : s3.1 <:+ l := by have := (agr_N 4).sfx s2; rw [h3] at this; exact this.trans hs2
  refine Run.op1 (callC Tryz.func51 (cuNum 4 (by decide) cb a cc l s2 hs2) hcc hI hp3 h3) (fun _ => ?_)
  dsimp only [List.append_nil, List.cons_append, List.nil_append]
  refine x_ ?_
  refine Run.op1 (ostE (arr := (ceK x1 x2 0 (By.z 8) (By.z 8) (.slice none 0 0) (.slice none 0 0)).toArray) (e := 57) (L' := (cb, CuC a cc l s3) :: ((b2, Obj.cells ti57.zero.cells 57 (0, 0)) :: [])) (ceK x1 x2 x3 (By.z 8) (By.z 8) (.slice none 0 0) (.slice none 0 0)).toArray (hL := (perm_of fun f => by (simp only [List.map_append, List.map_cons, List.map_nil, List.sum_append, List.sum_cons, List.sum_nil] <;> omega))) (he := by exact ce_w2 _ _ _ _ _ _ _ _) (hf := by rw [List.size_toArray, ceK_len]; decide) (h1 := by exact one_i _ _)) (fun _ => ?_)
  refine x_ ?_
  have hp4 : ((b3, Obj.cells (ceK x1 x2 x3 (By.z 8) (By.z 8) (.slice none 0 0) (.slice none 0 0)).toArray 57 (0, 0)) :: ((cb, CuC a cc l s3) :: ((b2, Obj.cells ti57.zero.cells 57 (0, 0)) :: [])) : Hp).Perm (((cb, CuC a cc l s3) :: []) ++ ((b3, Obj.cells (ceK x1 x2 x3 (By.z 8) (By.z 8) (.slice none 0 0) (.slice none 0 0)).toArray 57 (0, 0)) :: ((b2, Obj.cells ti57.zero.cells 57 (0, 0)) :: []))) := (perm_of fun f => by (simp only [List.map_append, List.map_cons, List.map_nil, List.sum_append, List.sum_cons, List.sum_nil] <;> omega))
  rcases h4 : cB s3 with ⟨x4, s4⟩
  have hs4 : s4.1 <:+ l := by have := (agr_B).sfx s3; rw [h4] at this; exact this.trans hs3
  refine Run.op1 (callC Tryz.func49 (cuHash cb a cc l s3 hs3) hcc hI hp4 h4) (fun _ => ?_)
  dsimp only [List.append_nil, List.cons_append, List.nil_append]
  refine x_ ?_
  refine Run.op1 (ostE (arr := (ceK x1 x2 x3 (By.z 8) (By.z 8) (.slice none 0 0) (.slice none 0 0)).toArray) (e := 57) (L' := (cb, CuC a cc l s4) :: ((b2, Obj.cells ti57.zero.cells 57 (0, 0)) :: [])) (ceK x1 x2 x3 x4 (By.z 8) (.slice none 0 0) (.slice none 0 0)).toArray (hL := (perm_of fun f => by (simp only [List.map_append, List.map_cons, List.map_nil, List.sum_append, List.sum_cons, List.sum_nil] <;> omega))) (he := by exact ce_w3 _ _ _ _ _ _ _ _) (hf := by rw [List.size_toArray, ceK_len]; decide) (h1 := by exact u8s_one _) (hs := by show (u8s x4.1).toArray.size = 8; rw [List.size_toArray, u8s_len, x4.2.1])) (fun _ => ?_)
  refine x_ ?_
  have hp5 : ((b3, Obj.cells (ceK x1 x2 x3 x4 (By.z 8) (.slice none 0 0) (.slice none 0 0)).toArray 57 (0, 0)) :: ((cb, CuC a cc l s4) :: ((b2, Obj.cells ti57.zero.cells 57 (0, 0)) :: [])) : Hp).Perm (((cb, CuC a cc l s4) :: []) ++ ((b3, Obj.cells (ceK x1 x2 x3 x4 (By.z 8) (.slice none 0 0) (.slice none 0 0)).toArray 57 (0, 0)) :: ((b2, Obj.cells ti57.zero.cells 57 (0, 0)) :: []))) := (perm_of fun f => by (simp only [List.map_append, List.map_cons, List.map_nil, List.sum_append, List.sum_cons, List.sum_nil] <;> omega))
  rcases h5 : cB s4 with ⟨x5, s5⟩
  have hs5 : s5.1 <:+ l := by have := (agr_B).sfx s4; rw [h5] at this; exact this.trans hs4
  refine Run.op1 (callC Tryz.func49 (cuHash cb a cc l s4 hs4) hcc hI hp5 h5) (fun _ => ?_)
  dsimp only [List.append_nil, List.cons_append, List.nil_append]
  refine x_ ?_
  refine Run.op1 (ostE (arr := (ceK x1 x2 x3 x4 (By.z 8) (.slice none 0 0) (.slice none 0 0)).toArray) (e := 57) (L' := (cb, CuC a cc l s5) :: ((b2, Obj.cells ti57.zero.cells 57 (0, 0)) :: [])) (ceK x1 x2 x3 x4 x5 (.slice none 0 0) (.slice none 0 0)).toArray (hL := (perm_of fun f => by (simp only [List.map_append, List.map_cons, List.map_nil, List.sum_append, List.sum_cons, List.sum_nil] <;> omega))) (he := by exact ce_w11 _ _ _ _ _ _ _ _) (hf := by rw [List.size_toArray, ceK_len]; decide) (h1 := by exact u8s_one _) (hs := by show (u8s x5.1).toArray.size = 8; rw [List.size_toArray, u8s_len, x5.2.1])) (fun _ => ?_)
  refine x_ ?_
  have hp6 : ((b3, Obj.cells (ceK x1 x2 x3 x4 x5 (.slice none 0 0) (.slice none 0 0)).toArray 57 (0, 0)) :: ((cb, CuC a cc l s5) :: ((b2, Obj.cells ti57.zero.cells 57 (0, 0)) :: [])) : Hp).Perm (((cb, CuC a cc l s5) :: []) ++ ((b3, Obj.cells (ceK x1 x2 x3 x4 x5 (.slice none 0 0) (.slice none 0 0)).toArray 57 (0, 0)) :: ((b2, Obj.cells ti57.zero.cells 57 (0, 0)) :: []))) := (perm_of fun f => by (simp only [List.map_append, List.map_cons, List.map_nil, List.sum_append, List.sum_cons, List.sum_nil] <;> omega))
  rcases h6 : cRow zOut s5 with ⟨x6, s6⟩
  have hs6 : s6.1 <:+ l := by have := (agr_out.row).sfx s5; rw [h6] at this; exact this.trans hs5
  refine Run.op1 (callC Tryz.func134 (cuOuts cb a cc l s5 hs5) hcc hI hp6 h6) (fun y6 => ?_)
  dsimp only [List.append_nil, List.cons_append, List.nil_append]
  obtain ⟨⟨⟨a6, c6⟩, l6⟩, o6⟩ := y6
  dsimp only at o6 ⊢
  refine x_ ?_
  refine Run.op1 (ostE (arr := (ceK x1 x2 x3 x4 x5 (.slice none 0 0) (.slice none 0 0)).toArray) (e := 57) (L' := (cb, CuC a cc l s6) :: (l6 ++ ((b2, Obj.cells ti57.zero.cells 57 (0, 0)) :: []))) (ceK x1 x2 x3 x4 x5 (.slice a6 x6.length c6) (.slice none 0 0)).toArray (hL := (perm_of fun f => by (simp only [List.map_append, List.map_cons, List.map_nil, List.sum_append, List.sum_cons, List.sum_nil] <;> omega))) (he := by exact ce_w19 _ _ _ _ _ _ _ _) (hf := by rw [List.size_toArray, ceK_len]; decide) (h1 := by exact one_s _ _ _)) (fun _ => ?_)
  refine x_ ?_
  have hp7 : ((b3, Obj.cells (ceK x1 x2 x3 x4 x5 (.slice a6 x6.length c6) (.slice none 0 0)).toArray 57 (0, 0)) :: ((cb, CuC a cc l s6) :: (l6 ++ ((b2, Obj.cells ti57.zero.cells 57 (0, 0)) :: []))) : Hp).Perm (((cb, CuC a cc l s6) :: []) ++ ((b3, Obj.cells (ceK x1 x2 x3 x4 x5 (.slice a6 x6.length c6) (.slice none 0 0)).toArray 57 (0, 0)) :: (l6 ++ ((b2, Obj.cells ti57.zero.cells 57 (0, 0)) :: [])))) := (perm_of fun f => by (simp only [List.map_append, List.map_cons, List.map_nil, List.sum_append, List.sum_cons, List.sum_nil] <;> omega))
  rcases h7 : cN 1 s6 with ⟨x7, s7⟩
  have hs7 : s7.1 <:+ l := by have := (agr_N 1).sfx s6; rw [h7] at this; exact this.trans hs6
  refine Run.op1 (callC Tryz.func51 (cuNum 1 (by decide) cb a cc l s6 hs6) hcc hI hp7 h7) (fun _ => ?_)
  dsimp only [List.append_nil, List.cons_append, List.nil_append]
  have hrd6 : ∀ (q : Option Addr) (m c : Nat), rdAt ti55 (ceK x1 x2 x3 x4 x5 (.slice a6 x6.length c6) (.slice q m c)).toArray 20 = some (.slice q m c) := fun q m c => ce_r20 _ _ _ _ _ _ _ _ _
  obtain ⟨n7, rfl, hn7⟩ := cN_nat h7 (fun y hy => hbl y (hs6.mem hy))
  refine x_ ?_
  refine RC.midBY (Y := {d : List SgD × CuS × (Option Addr × Nat) × Hp // cRep zSg n7 s7 = (d.1, d.2.1) ∧ d.2.1.1 <:+ l ∧ Own 188 282 (.slice d.2.2.1.1 d.1.length d.2.2.1.2) d.1.length (rws SgD.c d.1) d.2.2.2}) (fun d => [(3, .pointer (some ⟨b3, 0, none⟩)), (2, .pointer (some ⟨b2, 0, none⟩)), (0, .pointer (some ⟨cb, 0, none⟩))]) (fun d => (cb, CuC a cc l d.1.2.1) :: (d.1.2.2.2 ++ ((b3, Obj.cells (ceK x1 x2 x3 x4 x5 (.slice a6 x6.length c6) (.slice d.1.2.2.1.1 d.1.1.length d.1.2.2.1.2)).toArray 57 (0, 0)) :: (l6 ++ ((b2, Obj.cells ti57.zero.cells 57 (0, 0)) :: []))))) ?_ (fun d => ?_)
  · refine RC.up n7 (D := List SgD × CuS × (Option Addr × Nat) × Hp) (fun k d => cRep zSg k s7 = (d.1, d.2.1) ∧ d.2.1.1 <:+ l ∧ d.1.length = k ∧ Own 188 282 (.slice d.2.2.1.1 k d.2.2.1.2) k (rws SgD.c d.1) d.2.2.2) (fun k d => [(5, .int .i64 k), (4, .int .i64 n7), (3, .pointer (some ⟨b3, 0, none⟩)), (2, .pointer (some ⟨b2, 0, none⟩)), (0, .pointer (some ⟨cb, 0, none⟩))]) (fun k d => (cb, CuC a cc l d.2.1) :: (d.2.2.2 ++ ((b3, Obj.cells (ceK x1 x2 x3 x4 x5 (.slice a6 x6.length c6) (.slice d.2.2.1.1 k d.2.2.1.2)).toArray 57 (0, 0)) :: (l6 ++ ((b2, Obj.cells ti57.zero.cells 57 (0, 0)) :: []))))) 0 ([], s7, (none, 0), []) (Nat.zero_le _) ⟨rfl, hs7, rfl, Own.nil⟩ ⟨rfl, rfl, rfl, rfl, rfl, trivial⟩ (List.Sublist.refl _) ?_
    rintro k ⟨xs, ⟨rk, bk⟩, ⟨wa, wc⟩, wl⟩ hk ⟨hrep, hsk, hxl, hown⟩
    dsimp only at hrep hsk hxl hown ⊢
    subst hxl
    by_cases hk' : xs.length < n7
    rotate_left
    · obtain rfl : n7 = xs.length := by omega
      refine x_ ?_
      exact RQ.midB ⟨(xs, (rk, bk), (wa, wc), wl), hrep, hsk, hown⟩ ⟨rfl, rfl, rfl, trivial⟩ (List.Perm.refl _) (List.Sublist.refl _)
    cases bk
    rotate_left
    · refine x_ ?_
      exact RQ.midB ⟨(xs, (rk, true), (wa, wc), wl), (cRep_bad (by rw [hrep]) n7 (by omega)).trans hrep, hsk, hown⟩ ⟨rfl, rfl, rfl, trivial⟩ (List.Perm.refl _) (List.Sublist.refl _)
    refine x_ ?_
    have hp9 : ((cb, CuC a cc l (rk, false)) :: (wl ++ ((b3, Obj.cells (ceK x1 x2 x3 x4 x5 (.slice a6 x6.length c6) (.slice wa xs.length wc)).toArray 57 (0, 0)) :: (l6 ++ ((b2, Obj.cells ti57.zero.cells 57 (0, 0)) :: [])))) : Hp).Perm (((cb, CuC a cc l (rk, false)) :: []) ++ (wl ++ ((b3, Obj.cells (ceK x1 x2 x3 x4 x5 (.slice a6 x6.length c6) (.slice wa xs.length wc)).toArray 57 (0, 0)) :: (l6 ++ ((b2, Obj.cells ti57.zero.cells 57 (0, 0)) :: []))))) := (perm_of fun f => by (simp only [List.map_append, List.map_cons, List.map_nil, List.sum_append, List.sum_cons, List.sum_nil] <;> omega))
    rcases h9 : cN 1 (rk, false) with ⟨x9, s9⟩
    have hs9 : s9.1 <:+ l := by have := (agr_N 1).sfx (rk, false); rw [h9] at this; exact this.trans hsk
    refine Run.op1 (callC Tryz.func51 (cuNum 1 (by decide) cb a cc l (rk, false) hsk) hcc hI hp9 h9) (fun _ => ?_)
    dsimp only [List.append_nil, List.cons_append, List.nil_append]
    refine x_ ?_
    refine Run.a (vbs (SgD.c ⟨x9, SigD.nul⟩).toArray) ?_
    refine x_ ?_
    refine Run.nw nal ?_
    intro b6
    refine x_ ?_
    refine Run.op1 (osa (arr := ti188.zero.cells) (e := 188) (L' := (cb, CuC a cc l s9) :: (wl ++ ((b3, Obj.cells (ceK x1 x2 x3 x4 x5 (.slice a6 x6.length c6) (.slice wa xs.length wc)).toArray 57 (0, 0)) :: (l6 ++ ((b2, Obj.cells ti57.zero.cells 57 (0, 0)) :: []))))) (SgD.c ⟨x9, SigD.nul⟩).toArray (SgD.one _) (hL := (perm_of fun f => by (simp only [List.map_append, List.map_cons, List.map_nil, List.sum_append, List.sum_cons, List.sum_nil] <;> omega)))) (fun _ => ?_)
    refine x_ ?_
    have hp10 : ((b6, Obj.cells (SgD.c ⟨x9, SigD.nul⟩).toArray 188 (0, 0)) :: ((cb, CuC a cc l s9) :: (wl ++ ((b3, Obj.cells (ceK x1 x2 x3 x4 x5 (.slice a6 x6.length c6) (.slice wa xs.length wc)).toArray 57 (0, 0)) :: (l6 ++ ((b2, Obj.cells ti57.zero.cells 57 (0, 0)) :: []))))) : Hp).Perm (((cb, CuC a cc l s9) :: []) ++ ((b6, Obj.cells (SgD.c ⟨x9, SigD.nul⟩).toArray 188 (0, 0)) :: (wl ++ ((b3, Obj.cells (ceK x1 x2 x3 x4 x5 (.slice a6 x6.length c6) (.slice wa xs.length wc)).toArray 57 (0, 0)) :: (l6 ++ ((b2, Obj.cells ti57.zero.cells 57 (0, 0)) :: [])))))) := (perm_of fun f => by (simp only [List.map_append, List.map_cons, List.map_nil, List.sum_append, List.sum_cons, List.sum_nil] <;> omega))
    rcases h10 : zSig s9 with ⟨x10, s10⟩
    have hs10 : s10.1 <:+ l := by have := (agr_sig).sfx s9; rw [h10] at this; exact this.trans hs9
    refine Run.op1 (callC Tryz.func161 (cuSig cb a cc l s9 hs9) hcc hI hp10 h10) (fun _ => ?_)
    dsimp only [List.append_nil, List.cons_append, List.nil_append]
    have hx10 : x10.c.toArray.size = 281 := by rw [List.size_toArray, SigD.len]
    refine x_ ?_
    refine Run.op1 (ostE (arr := (SgD.c ⟨x9, SigD.nul⟩).toArray) (e := 188) (L' := (cb, CuC a cc l s10) :: (wl ++ ((b3, Obj.cells (ceK x1 x2 x3 x4 x5 (.slice a6 x6.length c6) (.slice wa xs.length wc)).toArray 57 (0, 0)) :: (l6 ++ ((b2, Obj.cells ti57.zero.cells 57 (0, 0)) :: []))))) (SgD.c ⟨x9, x10⟩).toArray (hL := (perm_of fun f => by (simp only [List.map_append, List.map_cons, List.map_nil, List.sum_append, List.sum_cons, List.sum_nil] <;> omega))) (hs := by exact hx10) (he := by exact sd_w1 _ _ _) (hf := by rw [List.size_toArray, SgD.len]; decide) (h1 := by exact x10.one)) (fun _ => ?_)
    have hsz : (SgD.c ⟨x9, x10⟩).toArray.size = 282 := by rw [List.size_toArray, SgD.len]
    have hrd := hrd6 wa xs.length wc
    refine x_ ?_
    refine Run.nw (nbsl (SgD.c ⟨x9, x10⟩).toArray (fillS_1 282 _ (SgD.c ⟨x9, x10⟩) (SgD.len ⟨x9, x10⟩))) ?_
    intro b14
    refine Run.op1 (OpTo.append (L1 := (b14, Obj.cells (SgD.c ⟨x9, x10⟩).toArray 188 (0, 0)) :: ((b6, Obj.cells (SgD.c ⟨x9, x10⟩).toArray 188 (0, 0)) :: ((cb, CuC a cc l s10) :: ((b3, Obj.cells (ceK x1 x2 x3 x4 x5 (.slice a6 x6.length c6) (.slice wa xs.length wc)).toArray 57 (0, 0)) :: (l6 ++ ((b2, Obj.cells ti57.zero.cells 57 (0, 0)) :: [])))))) tabOk hown (Src.at ⟨b14, 0, none⟩ 1 1 (SgD.c ⟨x9, x10⟩) (by rw [SgD.len]; rfl) (Rd.rowAll m0)) rfl rfl rfl rfl rfl rfl rfl rfl rfl (perm_of fun f => by (simp only [List.map_append, List.map_cons, List.map_nil, List.sum_append, List.sum_cons, List.sum_nil] <;> omega)) (SgD.one ⟨x9, x10⟩) (by unfold maxLen; omega) (by simp only [ti188]; omega)) ?_
    rintro ⟨⟨v15, l15⟩, h15⟩
    dsimp only at h15 ⊢
    obtain ⟨wa2, wc2, rfl, hwc2⟩ := h15.shape
    refine x_ ?_
    refine Run.op1 (ostE (arr := (ceK x1 x2 x3 x4 x5 (.slice a6 x6.length c6) (.slice wa xs.length wc)).toArray) (e := 57) (L' := l15 ++ ((b14, Obj.cells (SgD.c ⟨x9, x10⟩).toArray 188 (0, 0)) :: ((b6, Obj.cells (SgD.c ⟨x9, x10⟩).toArray 188 (0, 0)) :: ((cb, CuC a cc l s10) :: (l6 ++ ((b2, Obj.cells ti57.zero.cells 57 (0, 0)) :: [])))))) (ceK x1 x2 x3 x4 x5 (.slice a6 x6.length c6) (.slice wa2 (xs.length + 1) wc2)).toArray (hL := (perm_of fun f => by (simp only [List.map_append, List.map_cons, List.map_nil, List.sum_append, List.sum_cons, List.sum_nil] <;> omega))) (he := by exact ce_w20 _ _ _ _ _ _ _ _) (hf := by rw [List.size_toArray, ceK_len]; decide) (h1 := by exact one_s _ _ _)) (fun _ => ?_)
    refine x_ ?_
    exact RQ.upP (xs.length + 1) (xs ++ [⟨x9, x10⟩], s10, (wa2, wc2), l15) (Nat.lt_succ_self _) hk' ⟨cRep_step hrep rfl (show zSg (rk, false) = (⟨x9, x10⟩, s10) from by simp [zSg, cMap, cAnd, h9, h10]), hs10, by rw [List.length_append]; rfl, by rw [rws_app, rws_one]; exact h15⟩ ⟨rfl, rfl, rfl, rfl, rfl, trivial⟩ (L1 := ((cb, CuC a cc l s10) :: (l15 ++ ((b3, Obj.cells (ceK x1 x2 x3 x4 x5 (.slice a6 x6.length c6) (.slice wa2 (xs.length + 1) wc2)).toArray 57 (0, 0)) :: (l6 ++ ((b2, Obj.cells ti57.zero.cells 57 (0, 0)) :: []))))) ++ ((b14, Obj.cells (SgD.c ⟨x9, x10⟩).toArray 188 (0, 0)) :: ((b6, Obj.cells (SgD.c ⟨x9, x10⟩).toArray 188 (0, 0)) :: []))) (perm_of fun f => by (simp only [List.map_append, List.map_cons, List.map_nil, List.sum_append, List.sum_cons, List.sum_nil] <;> omega)) (List.sublist_append_left _ _)
  obtain ⟨⟨x8, s8, ⟨a8, c8⟩, l8⟩, hl8, hs8, o8⟩ := d
  dsimp only at hl8 hs8 o8 ⊢
  have h8 : cRow zSg s6 = (x8, s8) := by simp [cRow, h7, hl8]
  have hsz : (ceK x1 x2 x3 x4 x5 (.slice a6 x6.length c6) (.slice a8 x8.length c8)).toArray.size = 21 := by rw [List.size_toArray, ceK_len]
  refine x_ ?_
  refine Run.op1 (osa (arr := ti57.zero.cells) (e := 57) (L' := (cb, CuC a cc l s8) :: (l8 ++ ((b3, Obj.cells (ceK x1 x2 x3 x4 x5 (.slice a6 x6.length c6) (.slice a8 x8.length c8)).toArray 57 (0, 0)) :: (l6 ++ ([]))))) (ceK x1 x2 x3 x4 x5 (.slice a6 x6.length c6) (.slice a8 x8.length c8)).toArray (ceK_one _ _ _ _ _ _ _ _ _ _ _) (hL := (perm_of fun f => by (simp only [List.map_append, List.map_cons, List.map_nil, List.sum_append, List.sum_cons, List.sum_nil] <;> omega))) (hs := by exact hsz)) (fun _ => ?_)
  refine x_ ?_
  exact RQ.ret1 rfl (Res.cellAll tabOk rfl rfl rfl m0 hsz) fun w' hm => CurC.fin (Ex := []) (Y := CeY) (V := fun c y => .agg (ceC c (.slice y.1.1.1.1 c.os.length y.1.1.1.2) (.slice y.1.1.2.1 c.sg.length y.1.1.2.2)).toArray) (L' := fun _ y => y.1.2.1 ++ y.1.2.2) (show zCe s = (⟨x1, x2, x3, x4, x5, x6, x8⟩, s8) from by simp [zCe, cMap, cAnd, h1, h2, h3, h4, h5, h6, h8]) ⟨(((a6, c6), (a8, c8)), (l6, l8)), o6, o8⟩ hm (Lr := (b2, Obj.cells (ceK x1 x2 x3 x4 x5 (.slice a6 x6.length c6) (.slice a8 x8.length c8)).toArray 57 (0, 0)) :: ((b3, Obj.cells (ceK x1 x2 x3 x4 x5 (.slice a6 x6.length c6) (.slice a8 x8.length c8)).toArray 57 (0, 0)) :: [])) (by dsimp only; exact (perm_of fun f => by (simp only [List.map_append, List.map_cons, List.map_nil, List.sum_append, List.sum_cons, List.sum_nil] <;> omega)))
theorem cuCl (cb : Nat) (a : Option Addr) (cc : Nat) (l : List Nat) (s : CuS) (hs : s.1 <:+ l) : CurC 138 [.pointer (some ⟨cb, 0, none⟩)] cb a cc l s [] (zCl s) (fun _ => Unit) (fun x _ => .agg x.c.toArray) (fun _ _ => []) := by
  intro w hcc hI hw hnd
  refine enter Tryz.func138 rfl (Mem.init (S0 := ((cb, CuC a cc l s) :: []).map (·.1)) hw (fun p hp => List.mem_map_of_mem hp) hnd) rfl ?_
  have hbl := hI.bt
  refine x_ ?_
  refine Run.nw nal ?_
  intro b2
  refine x_ ?_
  have hp1 : ((b2, Obj.cells ti62.zero.cells 62 (0, 0)) :: ((cb, CuC a cc l s) :: []) : Hp).Perm (((cb, CuC a cc l s) :: []) ++ ((b2, Obj.cells ti62.zero.cells 62 (0, 0)) :: [])) := (perm_of fun f => by (simp only [List.map_append, List.map_cons, List.map_nil, List.sum_append, List.sum_cons, List.sum_nil] <;> omega))
  rcases h1 : cN 1 s with ⟨x1, s1⟩
  have hs1 : s1.1 <:+ l := by have := (agr_N 1).sfx s; rw [h1] at this; exact this.trans hs
  refine Run.op1 (callC Tryz.func51 (cuNum 1 (by decide) cb a cc l s hs) hcc hI hp1 h1) (fun _ => ?_)
  dsimp only [List.append_nil, List.cons_append, List.nil_append]
  refine x_ ?_
  refine Run.a (vbs (ClD.c ⟨x1, 0, By.z 8, 0, 0, By.z 128⟩).toArray) ?_
  refine x_ ?_
  refine Run.nw nal ?_
  intro b3
  refine x_ ?_
  refine Run.op1 (osa (arr := ti62.zero.cells) (e := 62) (L' := (cb, CuC a cc l s1) :: ((b2, Obj.cells ti62.zero.cells 62 (0, 0)) :: [])) (ClD.c ⟨x1, 0, By.z 8, 0, 0, By.z 128⟩).toArray (ClD.one _) (hL := (perm_of fun f => by (simp only [List.map_append, List.map_cons, List.map_nil, List.sum_append, List.sum_cons, List.sum_nil] <;> omega)))) (fun _ => ?_)
  refine x_ ?_
  have hp2 : ((b3, Obj.cells (ClD.c ⟨x1, 0, By.z 8, 0, 0, By.z 128⟩).toArray 62 (0, 0)) :: ((cb, CuC a cc l s1) :: ((b2, Obj.cells ti62.zero.cells 62 (0, 0)) :: [])) : Hp).Perm (((cb, CuC a cc l s1) :: []) ++ ((b3, Obj.cells (ClD.c ⟨x1, 0, By.z 8, 0, 0, By.z 128⟩).toArray 62 (0, 0)) :: ((b2, Obj.cells ti62.zero.cells 62 (0, 0)) :: []))) := (perm_of fun f => by (simp only [List.map_append, List.map_cons, List.map_nil, List.sum_append, List.sum_cons, List.sum_nil] <;> omega))
  rcases h2 : cN 2 s1 with ⟨x2, s2⟩
  have hs2 : s2.1 <:+ l := by have := (agr_N 2).sfx s1; rw [h2] at this; exact this.trans hs1
  refine Run.op1 (callC Tryz.func51 (cuNum 2 (by decide) cb a cc l s1 hs1) hcc hI hp2 h2) (fun _ => ?_)
  dsimp only [List.append_nil, List.cons_append, List.nil_append]
  refine x_ ?_
  refine Run.op1 (ostE (arr := (ClD.c ⟨x1, 0, By.z 8, 0, 0, By.z 128⟩).toArray) (e := 62) (L' := (cb, CuC a cc l s2) :: ((b2, Obj.cells ti62.zero.cells 62 (0, 0)) :: [])) (ClD.c ⟨x1, x2, By.z 8, 0, 0, By.z 128⟩).toArray (hL := (perm_of fun f => by (simp only [List.map_append, List.map_cons, List.map_nil, List.sum_append, List.sum_cons, List.sum_nil] <;> omega))) (he := by exact cl_w1 _ _ _ _ _ _ _) (hf := by rw [List.size_toArray, ClD.len]; decide) (h1 := by exact one_i _ _)) (fun _ => ?_)
  refine x_ ?_
  have hp3 : ((b3, Obj.cells (ClD.c ⟨x1, x2, By.z 8, 0, 0, By.z 128⟩).toArray 62 (0, 0)) :: ((cb, CuC a cc l s2) :: ((b2, Obj.cells ti62.zero.cells 62 (0, 0)) :: [])) : Hp).Perm (((cb, CuC a cc l s2) :: []) ++ ((b3, Obj.cells (ClD.c ⟨x1, x2, By.z 8, 0, 0, By.z 128⟩).toArray 62 (0, 0)) :: ((b2, Obj.cells ti62.zero.cells 62 (0, 0)) :: []))) := (perm_of fun f => by (simp only [List.map_append, List.map_cons, List.map_nil, List.sum_append, List.sum_cons, List.sum_nil] <;> omega))
  rcases h3 : cB s2 with ⟨x3, s3⟩
  have hs3 : s3.1 <:+ l := by have := (agr_B).sfx s2; rw [h3] at this; exact this.trans hs2
  refine Run.op1 (callC Tryz.func49 (cuHash cb a cc l s2 hs2) hcc hI hp3 h3) (fun _ => ?_)
  dsimp only [List.append_nil, List.cons_append, List.nil_append]
  refine x_ ?_
  refine Run.op1 (ostE (arr := (ClD.c ⟨x1, x2, By.z 8, 0, 0, By.z 128⟩).toArray) (e := 62) (L' := (cb, CuC a cc l s3) :: ((b2, Obj.cells ti62.zero.cells 62 (0, 0)) :: [])) (ClD.c ⟨x1, x2, x3, 0, 0, By.z 128⟩).toArray (hL := (perm_of fun f => by (simp only [List.map_append, List.map_cons, List.map_nil, List.sum_append, List.sum_cons, List.sum_nil] <;> omega))) (he := by exact cl_w2 _ _ _ _ _ _ _) (hf := by rw [List.size_toArray, ClD.len]; decide) (h1 := by exact u8s_one _) (hs := by show (u8s x3.1).toArray.size = 8; rw [List.size_toArray, u8s_len, x3.2.1])) (fun _ => ?_)
  refine x_ ?_
  have hp4 : ((b3, Obj.cells (ClD.c ⟨x1, x2, x3, 0, 0, By.z 128⟩).toArray 62 (0, 0)) :: ((cb, CuC a cc l s3) :: ((b2, Obj.cells ti62.zero.cells 62 (0, 0)) :: [])) : Hp).Perm (((cb, CuC a cc l s3) :: []) ++ ((b3, Obj.cells (ClD.c ⟨x1, x2, x3, 0, 0, By.z 128⟩).toArray 62 (0, 0)) :: ((b2, Obj.cells ti62.zero.cells 62 (0, 0)) :: []))) := (perm_of fun f => by (simp only [List.map_append, List.map_cons, List.map_nil, List.sum_append, List.sum_cons, List.sum_nil] <;> omega))
  rcases h4 : cN 7 s3 with ⟨x4, s4⟩
  have hs4 : s4.1 <:+ l := by have := (agr_N 7).sfx s3; rw [h4] at this; exact this.trans hs3
  refine Run.op1 (callC Tryz.func51 (cuNum 7 (by decide) cb a cc l s3 hs3) hcc hI hp4 h4) (fun _ => ?_)
  dsimp only [List.append_nil, List.cons_append, List.nil_append]
  refine x_ ?_
  refine Run.op1 (ostE (arr := (ClD.c ⟨x1, x2, x3, 0, 0, By.z 128⟩).toArray) (e := 62) (L' := (cb, CuC a cc l s4) :: ((b2, Obj.cells ti62.zero.cells 62 (0, 0)) :: [])) (ClD.c ⟨x1, x2, x3, x4, 0, By.z 128⟩).toArray (hL := (perm_of fun f => by (simp only [List.map_append, List.map_cons, List.map_nil, List.sum_append, List.sum_cons, List.sum_nil] <;> omega))) (he := by exact cl_w10 _ _ _ _ _ _ _) (hf := by rw [List.size_toArray, ClD.len]; decide) (h1 := by exact one_i _ _)) (fun _ => ?_)
  refine x_ ?_
  have hp5 : ((b3, Obj.cells (ClD.c ⟨x1, x2, x3, x4, 0, By.z 128⟩).toArray 62 (0, 0)) :: ((cb, CuC a cc l s4) :: ((b2, Obj.cells ti62.zero.cells 62 (0, 0)) :: [])) : Hp).Perm (((cb, CuC a cc l s4) :: []) ++ ((b3, Obj.cells (ClD.c ⟨x1, x2, x3, x4, 0, By.z 128⟩).toArray 62 (0, 0)) :: ((b2, Obj.cells ti62.zero.cells 62 (0, 0)) :: []))) := (perm_of fun f => by (simp only [List.map_append, List.map_cons, List.map_nil, List.sum_append, List.sum_cons, List.sum_nil] <;> omega))
  rcases h5 : cN 1 s4 with ⟨x5, s5⟩
  have hs5 : s5.1 <:+ l := by have := (agr_N 1).sfx s4; rw [h5] at this; exact this.trans hs4
  refine Run.op1 (callC Tryz.func51 (cuNum 1 (by decide) cb a cc l s4 hs4) hcc hI hp5 h5) (fun _ => ?_)
  dsimp only [List.append_nil, List.cons_append, List.nil_append]
  refine x_ ?_
  refine Run.op1 (ostE (arr := (ClD.c ⟨x1, x2, x3, x4, 0, By.z 128⟩).toArray) (e := 62) (L' := (cb, CuC a cc l s5) :: ((b2, Obj.cells ti62.zero.cells 62 (0, 0)) :: [])) (ClD.c ⟨x1, x2, x3, x4, x5, By.z 128⟩).toArray (hL := (perm_of fun f => by (simp only [List.map_append, List.map_cons, List.map_nil, List.sum_append, List.sum_cons, List.sum_nil] <;> omega))) (he := by exact cl_w11 _ _ _ _ _ _ _) (hf := by rw [List.size_toArray, ClD.len]; decide) (h1 := by exact one_i _ _)) (fun _ => ?_)
  obtain ⟨pre6, old6, post6, hF6, hG6, ho6, hq6⟩ := cl_at12 x1 x2 x3 x4 x5 (By.z 128)
  rw [hF6]
  refine x_ ?_
  refine RC.up 16 (D := List Nat × CuS) (fun k d => (zHs k s5).1.1 = d.1 ∧ (zHs k s5).2 = d.2) (fun k _ => [(4, .int .i64 k), (3, .pointer (some ⟨b3, 0, none⟩)), (2, .pointer (some ⟨b2, 0, none⟩)), (0, .pointer (some ⟨cb, 0, none⟩))]) (fun k d => (b3, Obj.cells (pre6 ++ ((u8s d.1 ++ old6.drop (k * 8)) ++ post6)).toArray 62 (0, 0)) :: ((cb, CuC a cc l d.2) :: ((b2, Obj.cells ti62.zero.cells 62 (0, 0)) :: []))) 0 ([], s5) (Nat.zero_le _) ⟨rfl, rfl⟩ ⟨rfl, rfl, rfl, rfl, trivial⟩ (List.Sublist.refl _) ?_
  rintro k ⟨d, sk⟩ hk ⟨hd1, hd2⟩
  dsimp only at hd1 hd2 ⊢
  have hsk : sk.1 <:+ l := by have := (agr_Hs k).sfx s5; rw [hd2] at this; exact this.trans hs5
  have hdl : d.length = k * 8 := by rw [← hd1]; exact (zHs k s5).1.2.1
  refine x_ ?_
  (repeat refine RC.seq ?_); refine RC.wh rfl (fun h => RQ.next ?_) (fun h => ?_)
  · have hk' : k < 16 := by have := of_decide_eq_true h; omega
    clear h
    refine x_ ?_
    rcases hh : cB sk with ⟨x, s'⟩
    have hp6 : ((b3, Obj.cells (pre6 ++ ((u8s d ++ old6.drop (k * 8)) ++ post6)).toArray 62 (0, 0)) :: ((cb, CuC a cc l sk) :: ((b2, Obj.cells ti62.zero.cells 62 (0, 0)) :: [])) : Hp).Perm (((cb, CuC a cc l sk) :: []) ++ ((b3, Obj.cells (pre6 ++ ((u8s d ++ old6.drop (k * 8)) ++ post6)).toArray 62 (0, 0)) :: ((b2, Obj.cells ti62.zero.cells 62 (0, 0)) :: []))) := (perm_of fun f => by (simp only [List.map_append, List.map_cons, List.map_nil, List.sum_append, List.sum_cons, List.sum_nil] <;> omega))
    refine Run.op1 (callC Tryz.func49 (cuHash cb a cc l sk hsk) hcc hI hp6 hh) (fun _ => ?_)
    dsimp only [List.append_nil, List.cons_append, List.nil_append]
    refine x_ ?_
    refine Run.a (via k (12 + k * 8)) ?_
    refine Run.op1 (ostE (arr := (pre6 ++ ((u8s d ++ old6.drop (k * 8)) ++ post6)).toArray) (e := 62) (L' := (cb, CuC a cc l s') :: ((b2, Obj.cells ti62.zero.cells 62 (0, 0)) :: [])) (pre6 ++ ((u8s (d ++ x.1) ++ old6.drop ((k + 1) * 8)) ++ post6)).toArray (hL := (perm_of fun f => by (simp only [List.map_append, List.map_cons, List.map_nil, List.sum_append, List.sum_cons, List.sum_nil] <;> omega))) (hs := by show (u8s x.1).toArray.size = 8; rw [List.size_toArray, u8s_len, x.2.1]) (he := by exact row_w ho6 hdl x.2.1 hk' hq6) (hf := by exact row_f ho6 hdl hk' hq6) (h1 := by exact u8s_one _)) (fun _ => ?_)
    refine x_ ?_
    exact RQ.upP (k + 1) (d ++ x.1, s') (Nat.lt_succ_self _) hk' ⟨by show (zHs k s5).1.1 ++ (cB (zHs k s5).2).1.1 = d ++ x.1; rw [hd2, hh, hd1], by show (cB (zHs k s5).2).2 = s'; rw [hd2, hh]⟩ ⟨rfl, rfl, rfl, rfl, trivial⟩ (L1 := (b3, Obj.cells (pre6 ++ ((u8s (d ++ x.1) ++ old6.drop ((k + 1) * 8)) ++ post6)).toArray 62 (0, 0)) :: ((cb, CuC a cc l s') :: ((b2, Obj.cells ti62.zero.cells 62 (0, 0)) :: []))) (perm_of fun f => by (simp only [List.map_append, List.map_cons, List.map_nil, List.sum_append, List.sum_cons, List.sum_nil] <;> omega)) (List.Sublist.refl _)
  obtain rfl : k = 16 := by have := of_decide_eq_false h; omega
  clear h
  obtain ⟨x6, hx6⟩ : ∃ x : By 128, x = (zHs 16 s5).1 := ⟨_, rfl⟩
  have h6 : zHs 16 s5 = (x6, sk) := Prod.ext hx6.symm hd2
  have hd3 : x6.1 = d := by rw [hx6]; exact hd1
  rw [List.drop_of_length_le (l := old6) (by omega), List.append_nil, ← hd3, ← hG6 x6]
  clear hd1 hd2 hd3 hdl hk
  obtain ⟨s6, rfl⟩ : ∃ q, q = sk := ⟨_, rfl⟩
  have hs6 : s6.1 <:+ l := hsk
  (repeat refine RQ.thenExit ?_); refine RQ.blockHere ?_
  have hsz : (ClD.c ⟨x1, x2, x3, x4, x5, x6⟩).toArray.size = 140 := by rw [List.size_toArray, ClD.len]
  refine x_ ?_
  refine Run.op1 (osa (arr := ti62.zero.cells) (e := 62) (L' := (b3, Obj.cells (ClD.c ⟨x1, x2, x3, x4, x5, x6⟩).toArray 62 (0, 0)) :: ((cb, CuC a cc l s6) :: [])) (ClD.c ⟨x1, x2, x3, x4, x5, x6⟩).toArray (ClD.one _) (hL := (perm_of fun f => by (simp only [List.map_append, List.map_cons, List.map_nil, List.sum_append, List.sum_cons, List.sum_nil] <;> omega))) (hs := by exact hsz)) (fun _ => ?_)
  refine x_ ?_
  exact RQ.ret1 rfl (Res.cellAll tabOk rfl rfl rfl m0 hsz) fun w' hm => CurC.fin (Ex := []) (Y := fun _ => Unit) (V := fun x _ => .agg x.c.toArray) (L' := fun _ _ => []) (show zCl s = (⟨x1, x2, x3, x4, x5, x6⟩, s6) from by simp [zCl, cMap, cAnd, h1, h2, h3, h4, h5, h6]) () hm (Lr := (b2, Obj.cells (ClD.c ⟨x1, x2, x3, x4, x5, x6⟩).toArray 62 (0, 0)) :: ((b3, Obj.cells (ClD.c ⟨x1, x2, x3, x4, x5, x6⟩).toArray 62 (0, 0)) :: [])) (perm_of fun f => by (simp only [List.map_append, List.map_cons, List.map_nil, List.sum_append, List.sum_cons, List.sum_nil] <;> omega))
end Go.Proofs.YtfoeakgnkfcbjaaGreatDoor
end
