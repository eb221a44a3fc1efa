/- sparse: the reference: Put. -/
import Derived.Test.YtaabinhpagbajaaDoorSpJ
set_option linter.unusedSimpArgs false
set_option linter.unusedVariables false
namespace Go.Sha
open Go.Vc
def stepL (i : Nat) (h : List Nat) (s : Lvs × Bool) (p : Nat × List Nat) : Lvs × Bool :=
  if p.1 = i then (if s.2 = false ∧ i ≤ p.1 then (s.1 ++ [(i, h)], true) else s)
  else ((if s.2 = false ∧ i ≤ p.1 then (s.1 ++ [(i, h)], true) else s).1 ++ [p], (if s.2 = false ∧ i ≤ p.1 then (s.1 ++ [(i, h)], true) else s).2)
def goL (i : Nat) (h : List Nat) (l : Lvs) : Lvs × Bool := l.foldl (stepL i h) ([], decide (h = Z8))
def putL (l : Lvs) (i : Int) (h : List Nat) : Lvs :=
  if 0 ≤ i ∧ i < 65536 then (if (goL i.toNat h l).2 then (goL i.toNat h l).1 else (goL i.toNat h l).1 ++ [(i.toNat, h)]) else l
theorem lvA_app (a b : Lvs) : lvA (a ++ b) = lvA a ++ lvA b := by unfold lvA; rw [List.map_append]
theorem lvH_app (a b : Lvs) : lvH (a ++ b) = lvH a ++ lvH b := by unfold lvH; rw [List.map_append, List.flatten_append]
theorem i64L_app (a b : List Int) : i64L (a ++ b) = i64L a ++ i64L b := by unfold i64L; rw [List.map_append]
end Go.Sha
namespace Go.Vc
open Go Go.Sha
theorem Own.rd {e : TypeId} {sz m c m' : Nat} {ad : Addr} {cs : List Value} {bl : Hp} (h : Own e sz (.slice (some ad) m c) m' cs bl) {w : World} (hb : ∀ p ∈ bl, w.heap[p.1]? = some p.2) : ∀ j u, cs[j]? = some u → w.cell? (ad.add j) = some u := by
  cases h with
  | row b n cap cs rest h1 h2 hn hc =>
    intro j u hj
    rw [add_lit, cell_of_row w b (0 + j) _ _ _ (hb _ List.mem_cons_self), Nat.zero_add, List.getElem?_toArray, List.getElem?_append_left (List.getElem?_eq_some_iff.1 hj).1]
    exact hj
theorem Own.adr {e : TypeId} {sz m c m' : Nat} {a : Option Addr} {cs : List Value} {bl : Hp} (h : Own e sz (.slice a m c) m' cs bl) (hm : 0 < m) : ∃ ad, a = some ad := by
  cases h with
  | nil => omega
  | row b n cap cs rest h1 h2 hn hc => exact ⟨_, rfl⟩
theorem Val.loadC1 {P : Program} {n : Nat} {w0 : World} {S0 : List Nat} {E : Env} {L : Hp} {o : Oper} {t : Nat} {ti : TI} {T : List (Nat × TI)} (hT : TabOk P T) {x : Operand} {ad : Addr} {v : Value} (ho : o.op = .load t x) (ht : tiGet T t = some ti)
    (hx : lk E x = some (.pointer (some ad))) (ha : TypeDesc.agg ti.desc = false) (hr : ∀ w, Mem w0 S0 L w → w.cell? ad = some v) : Val P n w0 S0 E L o v := by
  intro a w hs hmem
  have := run_loadVar_one (P := P) (hT _ _ ht) ha w ad v (hr w hmem)
  simp [execOp, ho, hs.eval hx, Instr.loadAt, Instr.sureAddr, this]
/-- Leaves in memory, with their blocks. -/
structure OwL (ti th : TypeId) where
  r : Lvs
  vA : Value
  vH : Value
  bA : Hp
  bH : Hp
  hA : Own ti 1 vA r.length (i64L (lvA r)) bA
  hH : Own th 8 vH r.length (u8s (lvH r)) bH
def OwL.L {ti th : TypeId} (tL : TypeId) (mb : Nat) (x : OwL ti th) : Hp := (mb, .cells #[x.vA, x.vH] tL (0, 0)) :: (x.bA ++ x.bH)
def OwL.snoc {ti th : TypeId} (d : OwL ti th) (a : Nat) (h : List Nat) {vA vH : Value} {bA bH : Hp} (hA : Own ti 1 vA (d.r.length + 1) (i64L (lvA d.r) ++ [.int .i64 (a : Int)]) bA) (hH : Own th 8 vH (d.r.length + 1) (u8s (lvH d.r) ++ u8s h) bH) : OwL ti th :=
  ⟨d.r ++ [(a, h)], vA, vH, bA, bH, by rw [List.length_append, lvA_app, i64L_app]; exact hA, by rw [List.length_append, lvH_app, u8s_app]; simpa [lvH] using hH⟩
theorem OwL.vAc {ti th : TypeId} (x : OwL ti th) : x.vA.cells = #[x.vA] := by obtain ⟨a, c, h, _⟩ := x.hA.shape; rw [h]; rfl
theorem OwL.vHc {ti th : TypeId} (x : OwL ti th) : x.vH.cells = #[x.vH] := by obtain ⟨a, c, h, _⟩ := x.hH.shape; rw [h]; rfl
theorem OwL.vA1 {ti th : TypeId} (x : OwL ti th) : ∀ u ∈ (#[x.vA] : Array Value).toList, u.oneCell' = true := by
  intro u hu
  obtain ⟨a, c, h, _⟩ := x.hA.shape
  rw [h] at hu
  simp at hu
  subst hu; rfl
theorem OwL.vH1 {ti th : TypeId} (x : OwL ti th) : ∀ u ∈ (#[x.vH] : Array Value).toList, u.oneCell' = true := by
  intro u hu
  obtain ⟨a, c, h, _⟩ := x.hH.shape
  rw [h] at hu
  simp at hu
  subst hu; rfl
theorem OwL.lvW {ti th tL : TypeId} {mb : Nat} (x : OwL ti th) {w : World} (hw : Has (x.L tL mb) w) : LvW tL w mb x.r :=
  ⟨x.vA, x.vH, hw _ List.mem_cons_self, x.hA.srcW fun p hp => hw p (List.mem_cons_of_mem _ (List.mem_append_left _ hp)), x.hH.srcW fun p hp => hw p (List.mem_cons_of_mem _ (List.mem_append_right _ hp))⟩
end Go.Vc
namespace Go.Proofs.YtaabinhpagbajaaDoor
attribute [local irreducible] Go.Vc.Run Go.Vc.RC Go.Vc.RQ Go.Vc.DR Go.Vc.DOp
open Go Go.Vc Go.Sha
abbrev OwT := OwL 3 29
abbrev LvL (mb : Nat) (x : OwT) : Hp := x.L 39 mb
set_option maxRecDepth 10000 in set_option maxHeartbeats 4000000 in
theorem LPut_calls (x : OwT) (hok : LvOk x.r) (mb : Nat) (i : Int) (h : List Nat) (hh : H8 h) (w : World) (hw : Has (LvL mb x) w) (hnd : ((LvL mb x).map (·.1)).Nodup) :
    Turns Tryd.prog 24 [.pointer (some ⟨mb, 0, none⟩), .int .i64 i, .agg (u8s h).toArray] w (LvL mb x) (Y := {y : OwT // y.r = putL x.r i h}) (fun _ => .bool (decide (0 ≤ i ∧ i < 65536))) (fun y => LvL mb y.1) := by
  refine enter Tryd.func24 rfl (Mem.init (S0 := (LvL mb x).map (·.1)) hw (fun p hp => List.mem_map_of_mem hp) hnd) rfl ?_
  have hsz : (u8s h).toArray.size = 8 := by rw [List.size_toArray, u8s_len, hh.1]
  have hl8 : (u8s h).length = 8 := by rw [u8s_len, hh.1]
  have hll := hok.len
  refine z_ ?_
  refine Run.nw nbx ?_
  intro b5
  by_cases h0 : 0 ≤ i
  case neg =>
    have e : putL x.r i h = x.r := if_neg (fun h => h0 h.1)
    rw [decide_eq_false (fun h => h0 h.1)]
    refine z_ ?_
    exact RQ.ret1 rfl (Res.tmp rfl) fun w' hm => Turns.of (Y := {y : OwT // y.r = putL x.r i h}) (V := fun _ => .bool false) (L' := fun y => LvL mb y.1) (Lst := LvL mb x) ⟨x, e.symm⟩ hm (Lr := [(b5, Obj.cells (u8s h).toArray 29 (0, 0))]) (perm_of fun f => by (simp only [List.map_append, List.map_cons, List.map_nil, List.sum_append, List.sum_cons, List.sum_nil] <;> omega))
  by_cases hi9 : i < 65536
  case neg =>
    have e : putL x.r i h = x.r := if_neg (fun h => hi9 h.2)
    rw [decide_eq_false (fun h => hi9 h.2)]
    refine z_ ?_
    exact RQ.ret1 rfl (Res.tmp rfl) fun w' hm => Turns.of (Y := {y : OwT // y.r = putL x.r i h}) (V := fun _ => .bool false) (L' := fun y => LvL mb y.1) (Lst := LvL mb x) ⟨x, e.symm⟩ hm (Lr := [(b5, Obj.cells (u8s h).toArray 29 (0, 0))]) (perm_of fun f => by (simp only [List.map_append, List.map_cons, List.map_nil, List.sum_append, List.sum_cons, List.sum_nil] <;> omega))
  have e : putL x.r i h = if (goL i.toNat h x.r).2 then (goL i.toNat h x.r).1 else (goL i.toNat h x.r).1 ++ [(i.toNat, h)] := if_pos ⟨h0, hi9⟩
  rw [decide_eq_true ⟨h0, hi9⟩]
  refine z_ ?_
  refine Run.a (vla (hv := hsz)) ?_
  refine Run.op1 (OpTo.cv Tryd.func34 (fun w' _ => refZ_calls h hh.1 w')) (fun _ => ?_)
  refine z_ ?_
  obtain ⟨i, rfl⟩ := Int.eq_ofNat_of_zero_le h0
  rw [Int.toNat_natCast] at e
  rw [e]
  clear e
  obtain ⟨l, vA, vH, bA, bH, hA, hH⟩ := x
  dsimp only [OwL.L] at hw hnd hok hll ⊢
  obtain ⟨aA, cA, rfl, hcA⟩ := hA.shape
  obtain ⟨aH, cH, rfl, hcH⟩ := hH.shape
  obtain ⟨R, hR⟩ : ∃ R : Hp, R = (b5, Obj.cells (u8s h).toArray 29 (0, 0)) :: (mb, Obj.cells #[.slice aA l.length cA, .slice aH l.length cH] 39 (0, 0)) :: (bA ++ bH) := ⟨_, rfl⟩
  refine RC.up l.length (D := OwT × Bool) (fun k d => (d.1.r, d.2) = goL i h (l.take k) ∧ d.1.r.length ≤ 2 * k) (fun k d => [(10, .int .i64 k), (9, .bool d.2), (8, d.1.vH), (7, d.1.vA), (5, .pointer (some ⟨b5, 0, none⟩)), (1, .int .i64 i), (0, .pointer (some ⟨mb, 0, none⟩))]) (fun k d => d.1.bA ++ (d.1.bH ++ ((b5, Obj.cells (u8s h).toArray 29 (0, 0)) :: (mb, Obj.cells #[.slice aA l.length cA, .slice aH l.length cH] 39 (0, 0)) :: (bA ++ bH)))) 0 (⟨[], .slice none 0 0, .slice none 0 0, [], [], Own.nil, Own.nil⟩, decide (h = Z8)) (Nat.zero_le _) ⟨rfl, Nat.zero_le _⟩ ⟨rfl, rfl, rfl, rfl, rfl, rfl, rfl, trivial⟩ (List.Sublist.refl _) ?_
  rintro k ⟨d, dn⟩ hk ⟨hgo, hdl⟩
  dsimp only at hgo hdl ⊢
  (repeat refine RC.seq ?_); refine RC.region ?_
  refine Run.a (Val.of rfl) ?_
  refine Run.a (Val.of rfl) ?_
  refine Run.a (Val.of rfl) ?_
  refine Run.a vf0 ?_
  refine Run.a (vl (.slice aA l.length cA) (arr := #[.slice aA l.length cA, .slice aH l.length cH]) (hm := (by repeat (first | exact List.mem_cons_self | apply List.mem_cons_of_mem | apply List.mem_append_right)))) ?_
  refine Run.a (vlen) ?_
  refine Run.a (Val.of rfl) ?_
  refine Run.nil (RQ.next ?_)
  (repeat refine RC.seq ?_); refine RC.wh rfl (fun h => RQ.next ?_) (fun h => ?_)
  · have hk' : k < l.length := by have := of_decide_eq_true h; omega
    clear h
    obtain ⟨p, hp⟩ : ∃ p, l[k]? = some p := ⟨_, List.getElem?_eq_getElem hk'⟩
    obtain ⟨adA, rfl⟩ := hA.adr (by omega)
    obtain ⟨adH, rfl⟩ := hH.adr (by omega)
    have hp8 := hok.h8 p (List.mem_of_getElem? hp)
    have sp : (u8s p.2).length = 8 := by rw [u8s_len, hp8.1]
    have rA : ∀ {S0 : List Nat} {L : Hp}, (∀ q ∈ bA, q ∈ L) → ∀ w', Mem w S0 L w' → w'.cell? (adA.add k) = some (.int .i64 p.1) := fun hL w' hm => hA.rd (fun q hq => hm.has q (hL q hq)) k _ (lvA_at hp)
    have rH : ∀ {S0 : List Nat} {L : Hp}, (∀ q ∈ bH, q ∈ L) → ∀ w', Mem w S0 L w' → ∀ j u, (u8s p.2)[j]? = some u → w'.cell? ((adH.add (k * 8)).add j) = some u := fun hL w' hm j u hj => by
      rw [add_add]; exact hH.rd (fun q hq => hm.has q (hL q hq)) _ u (lvH_at hok hp j u hj)
    have hnx : goL i h (l.take (k + 1)) = stepL i h (d.r, dn) p := by
      unfold goL at hgo ⊢
      rw [List.take_add_one, hp, Option.toList_some, List.foldl_append, ← hgo]; rfl
    obtain ⟨st, hst⟩ : ∃ st : Lvs × Bool, st = if dn = false ∧ i ≤ p.1 then (d.r ++ [(i, h)], true) else (d.r, dn) := ⟨_, rfl⟩
    refine RC.seq ?_
    refine RC.block ?_
    refine RC.seq ?_
    refine RC.thenCut (Y := {y : OwT // (y.r, st.2) = st}) (fun y => [(10, .int .i64 k), (9, .bool st.2), (8, y.1.vH), (7, y.1.vA), (5, .pointer (some ⟨b5, 0, none⟩)), (1, .int .i64 i), (0, .pointer (some ⟨mb, 0, none⟩))]) (fun y => y.1.bA ++ (y.1.bH ++ ((b5, Obj.cells (u8s h).toArray 29 (0, 0)) :: (mb, Obj.cells #[.slice (some adA) l.length cA, .slice (some adH) l.length cH] 39 (0, 0)) :: (bA ++ bH)))) ?_ ?_
    · cases dn with
      | true =>
        have e1 : st = (d.r, true) := by rw [hst, if_neg (by simp)]
        refine z_ ?_
        exact RQ.toP (⟨d, by rw [e1]⟩ : {y : OwT // (y.r, st.2) = st}) ⟨rfl, by rw [e1]; rfl, rfl, rfl, rfl, rfl, rfl, trivial⟩ (List.Perm.refl _) (List.Sublist.refl _)
      | false =>
        (repeat refine RC.seq ?_); refine RC.region ?_
        refine Run.a (Val.of rfl) ?_
        refine Run.a (Val.of rfl) ?_
        refine Run.a (Val.of rfl) ?_
        refine Run.a (Val.of rfl) ?_
        refine Run.a (Val.of rfl) ?_
        refine Run.a vf0 ?_
        refine Run.a (vl (.slice (some adA) l.length cA) (arr := #[.slice (some adA) l.length cA, .slice (some adH) l.length cH]) (hm := (by repeat (first | exact List.mem_cons_self | apply List.mem_cons_of_mem | apply List.mem_append_right)))) ?_
        refine Run.a (Val.of rfl) ?_
        refine Run.a (vix k hk' (adA.add k) (ha := by show adA.add (k * 1) = _; rw [Nat.mul_one])) ?_
        refine Run.a (Val.loadC1 tabOk rfl rfl rfl rfl (rA (fun q hq => by repeat (first | exact hq | exact List.mem_append_left _ hq | exact List.mem_append_right _ hq | apply List.mem_cons_of_mem | apply List.mem_append_right)))) ?_
        by_cases h1 : i ≤ p.1
        · have e1 : st = (d.r ++ [(i, h)], true) := by rw [hst, if_pos ⟨rfl, h1⟩]
          refine z_ ?_
          (repeat refine RC.seq ?_); refine RC.draw ((b5, Obj.cells (u8s h).toArray 29 (0, 0)) :: (mb, Obj.cells #[.slice (some adA) l.length cA, .slice (some adH) l.length cH] 39 (0, 0)) :: (bA ++ bH)) mixed (N := 11) rfl ?_
          refine dt 0 ?_
          refine dt 1 ?_
          refine dt 4 ?_
          refine DR.t 5 rfl (vla (hv := hsz)) ?_
          refine DR.two (i := 2) (j := 6) (by kernel_rfl) ?_ ?_
          · refine DOp.op1 rfl (OpTo.new rfl rfl (nbsl #[.int .i64 (i : Int)] (by kernel_rfl))) ?_
            intro s1
            refine DR.two (i := 3) (j := 6) (by kernel_rfl) ?_ ?_
            · refine DOp.op1 rfl (OpTo.append (L1 := (s1, Obj.cells #[.int .i64 (i : Int)] 3 (0, 0)) :: (d.bH ++ ((b5, Obj.cells (u8s h).toArray 29 (0, 0)) :: (mb, Obj.cells #[.slice (some adA) l.length cA, .slice (some adH) l.length cH] 39 (0, 0)) :: (bA ++ bH)))) tabOk d.hA (Src.at ⟨s1, 0, none⟩ 1 1 [.int .i64 (i : Int)] rfl (Rd.rowAll (arr := #[.int .i64 (i : Int)]) (e := 3) (fz := (0, 0)) (by repeat (first | exact List.mem_cons_self | apply List.mem_cons_of_mem | apply List.mem_append_right)))) rfl rfl rfl rfl rfl rfl rfl rfl rfl (perm_of fun f => by (simp only [List.map_append, List.map_cons, List.map_nil, List.sum_append, List.sum_cons, List.sum_nil] <;> omega)) (by simp [Value.oneCell']) (by unfold maxLen; omega) (by simp only [ti3]; omega)) ?_
              rintro ⟨⟨vA1, bA1⟩, hA1⟩
              dsimp only at hA1 ⊢
              refine DR.c 6 ?_
              refine DOp.op1 rfl (OpTo.new rfl rfl (nbsl (u8s h).toArray (fillS_1 8 _ (u8s h) hl8))) ?_
              intro s2
              refine DR.c 7 (DOp.op1 rfl (OpTo.append (L1 := (s2, Obj.cells (u8s h).toArray 29 (0, 0)) :: (bA1 ++ ((s1, Obj.cells #[.int .i64 (i : Int)] 3 (0, 0)) :: ((b5, Obj.cells (u8s h).toArray 29 (0, 0)) :: (mb, Obj.cells #[.slice (some adA) l.length cA, .slice (some adH) l.length cH] 39 (0, 0)) :: (bA ++ bH))))) tabOk d.hH (Src.at ⟨s2, 0, none⟩ 1 1 (u8s h) (by rw [hl8]; rfl) (Rd.rowAll (arr := (u8s h).toArray) (e := 29) (fz := (0, 0)) (by repeat (first | exact List.mem_cons_self | apply List.mem_cons_of_mem | apply List.mem_append_right)))) rfl rfl rfl rfl rfl rfl rfl rfl rfl (perm_of fun f => by (simp only [List.map_append, List.map_cons, List.map_nil, List.sum_append, List.sum_cons, List.sum_nil] <;> omega)) (u8s_one _) (by unfold maxLen; omega) (by simp only [ti29]; omega)) ?_)
              rintro ⟨⟨vH1, bH1⟩, hH1⟩
              dsimp only at hH1 ⊢
              refine DR.c 8 ?_
              refine DOp.vl rfl (Val.of rfl) ?_
              refine DR.c 9 ?_
              refine DOp.vl rfl (Val.of rfl) ?_
              refine DR.c 10 ?_
              refine DOp.vl rfl (Val.of rfl) ?_
              refine DR.done (by kernel_rfl) ?_
              exact RQ.toP (⟨d.snoc i h hA1 hH1, by rw [e1]; rfl⟩ : {y : OwT // (y.r, st.2) = st}) ⟨rfl, by rw [e1]; rfl, rfl, rfl, rfl, rfl, rfl, trivial⟩ (L1 := bA1 ++ (bH1 ++ ((b5, Obj.cells (u8s h).toArray 29 (0, 0)) :: (mb, Obj.cells #[.slice (some adA) l.length cA, .slice (some adH) l.length cH] 39 (0, 0)) :: (bA ++ bH))) ++ [(s1, Obj.cells #[.int .i64 (i : Int)] 3 (0, 0)), (s2, Obj.cells (u8s h).toArray 29 (0, 0))]) (perm_of fun f => by (simp only [List.map_append, List.map_cons, List.map_nil, List.sum_append, List.sum_cons, List.sum_nil] <;> omega)) (List.sublist_append_left _ _)
            · refine DOp.op1 rfl (OpTo.new rfl rfl (nbsl (u8s h).toArray (fillS_1 8 _ (u8s h) hl8))) ?_
              intro s2
              refine DR.c 3 (DOp.op1 rfl (OpTo.append (L1 := (s2, Obj.cells (u8s h).toArray 29 (0, 0)) :: (s1, Obj.cells #[.int .i64 (i : Int)] 3 (0, 0)) :: (d.bH ++ ((b5, Obj.cells (u8s h).toArray 29 (0, 0)) :: (mb, Obj.cells #[.slice (some adA) l.length cA, .slice (some adH) l.length cH] 39 (0, 0)) :: (bA ++ bH)))) tabOk d.hA (Src.at ⟨s1, 0, none⟩ 1 1 [.int .i64 (i : Int)] rfl (Rd.rowAll (arr := #[.int .i64 (i : Int)]) (e := 3) (fz := (0, 0)) (by repeat (first | exact List.mem_cons_self | apply List.mem_cons_of_mem | apply List.mem_append_right)))) rfl rfl rfl rfl rfl rfl rfl rfl rfl (perm_of fun f => by (simp only [List.map_append, List.map_cons, List.map_nil, List.sum_append, List.sum_cons, List.sum_nil] <;> omega)) (by simp [Value.oneCell']) (by unfold maxLen; omega) (by simp only [ti3]; omega)) ?_)
              rintro ⟨⟨vA1, bA1⟩, hA1⟩
              dsimp only at hA1 ⊢
              refine DR.c 7 (DOp.op1 rfl (OpTo.append (L1 := bA1 ++ ((s2, Obj.cells (u8s h).toArray 29 (0, 0)) :: (s1, Obj.cells #[.int .i64 (i : Int)] 3 (0, 0)) :: ((b5, Obj.cells (u8s h).toArray 29 (0, 0)) :: (mb, Obj.cells #[.slice (some adA) l.length cA, .slice (some adH) l.length cH] 39 (0, 0)) :: (bA ++ bH)))) tabOk d.hH (Src.at ⟨s2, 0, none⟩ 1 1 (u8s h) (by rw [hl8]; rfl) (Rd.rowAll (arr := (u8s h).toArray) (e := 29) (fz := (0, 0)) (by repeat (first | exact List.mem_cons_self | apply List.mem_cons_of_mem | apply List.mem_append_right)))) rfl rfl rfl rfl rfl rfl rfl rfl rfl (perm_of fun f => by (simp only [List.map_append, List.map_cons, List.map_nil, List.sum_append, List.sum_cons, List.sum_nil] <;> omega)) (u8s_one _) (by unfold maxLen; omega) (by simp only [ti29]; omega)) ?_)
              rintro ⟨⟨vH1, bH1⟩, hH1⟩
              dsimp only at hH1 ⊢
              refine DR.c 8 ?_
              refine DOp.vl rfl (Val.of rfl) ?_
              refine DR.c 9 ?_
              refine DOp.vl rfl (Val.of rfl) ?_
              refine DR.c 10 ?_
              refine DOp.vl rfl (Val.of rfl) ?_
              refine DR.done (by kernel_rfl) ?_
              exact RQ.toP (⟨d.snoc i h hA1 hH1, by rw [e1]; rfl⟩ : {y : OwT // (y.r, st.2) = st}) ⟨rfl, by rw [e1]; rfl, rfl, rfl, rfl, rfl, rfl, trivial⟩ (L1 := bA1 ++ (bH1 ++ ((b5, Obj.cells (u8s h).toArray 29 (0, 0)) :: (mb, Obj.cells #[.slice (some adA) l.length cA, .slice (some adH) l.length cH] 39 (0, 0)) :: (bA ++ bH))) ++ [(s1, Obj.cells #[.int .i64 (i : Int)] 3 (0, 0)), (s2, Obj.cells (u8s h).toArray 29 (0, 0))]) (perm_of fun f => by (simp only [List.map_append, List.map_cons, List.map_nil, List.sum_append, List.sum_cons, List.sum_nil] <;> omega)) (List.sublist_append_left _ _)
          · refine DOp.op1 rfl (OpTo.new rfl rfl (nbsl (u8s h).toArray (fillS_1 8 _ (u8s h) hl8))) ?_
            intro s2
            refine DR.c 2 ?_
            refine DOp.op1 rfl (OpTo.new rfl rfl (nbsl #[.int .i64 (i : Int)] (by kernel_rfl))) ?_
            intro s1
            refine DR.c 3 (DOp.op1 rfl (OpTo.append (L1 := (s2, Obj.cells (u8s h).toArray 29 (0, 0)) :: (s1, Obj.cells #[.int .i64 (i : Int)] 3 (0, 0)) :: (d.bH ++ ((b5, Obj.cells (u8s h).toArray 29 (0, 0)) :: (mb, Obj.cells #[.slice (some adA) l.length cA, .slice (some adH) l.length cH] 39 (0, 0)) :: (bA ++ bH)))) tabOk d.hA (Src.at ⟨s1, 0, none⟩ 1 1 [.int .i64 (i : Int)] rfl (Rd.rowAll (arr := #[.int .i64 (i : Int)]) (e := 3) (fz := (0, 0)) (by repeat (first | exact List.mem_cons_self | apply List.mem_cons_of_mem | apply List.mem_append_right)))) rfl rfl rfl rfl rfl rfl rfl rfl rfl (perm_of fun f => by (simp only [List.map_append, List.map_cons, List.map_nil, List.sum_append, List.sum_cons, List.sum_nil] <;> omega)) (by simp [Value.oneCell']) (by unfold maxLen; omega) (by simp only [ti3]; omega)) ?_)
            rintro ⟨⟨vA1, bA1⟩, hA1⟩
            dsimp only at hA1 ⊢
            refine DR.c 7 (DOp.op1 rfl (OpTo.append (L1 := bA1 ++ ((s2, Obj.cells (u8s h).toArray 29 (0, 0)) :: (s1, Obj.cells #[.int .i64 (i : Int)] 3 (0, 0)) :: ((b5, Obj.cells (u8s h).toArray 29 (0, 0)) :: (mb, Obj.cells #[.slice (some adA) l.length cA, .slice (some adH) l.length cH] 39 (0, 0)) :: (bA ++ bH)))) tabOk d.hH (Src.at ⟨s2, 0, none⟩ 1 1 (u8s h) (by rw [hl8]; rfl) (Rd.rowAll (arr := (u8s h).toArray) (e := 29) (fz := (0, 0)) (by repeat (first | exact List.mem_cons_self | apply List.mem_cons_of_mem | apply List.mem_append_right)))) rfl rfl rfl rfl rfl rfl rfl rfl rfl (perm_of fun f => by (simp only [List.map_append, List.map_cons, List.map_nil, List.sum_append, List.sum_cons, List.sum_nil] <;> omega)) (u8s_one _) (by unfold maxLen; omega) (by simp only [ti29]; omega)) ?_)
            rintro ⟨⟨vH1, bH1⟩, hH1⟩
            dsimp only at hH1 ⊢
            refine DR.c 8 ?_
            refine DOp.vl rfl (Val.of rfl) ?_
            refine DR.c 9 ?_
            refine DOp.vl rfl (Val.of rfl) ?_
            refine DR.c 10 ?_
            refine DOp.vl rfl (Val.of rfl) ?_
            refine DR.done (by kernel_rfl) ?_
            exact RQ.toP (⟨d.snoc i h hA1 hH1, by rw [e1]; rfl⟩ : {y : OwT // (y.r, st.2) = st}) ⟨rfl, by rw [e1]; rfl, rfl, rfl, rfl, rfl, rfl, trivial⟩ (L1 := bA1 ++ (bH1 ++ ((b5, Obj.cells (u8s h).toArray 29 (0, 0)) :: (mb, Obj.cells #[.slice (some adA) l.length cA, .slice (some adH) l.length cH] 39 (0, 0)) :: (bA ++ bH))) ++ [(s1, Obj.cells #[.int .i64 (i : Int)] 3 (0, 0)), (s2, Obj.cells (u8s h).toArray 29 (0, 0))]) (perm_of fun f => by (simp only [List.map_append, List.map_cons, List.map_nil, List.sum_append, List.sum_cons, List.sum_nil] <;> omega)) (List.sublist_append_left _ _)
        · have e1 : st = (d.r, false) := by rw [hst, if_neg (fun h => h1 h.2)]
          refine Run.a (Val.of rfl) ?_
          refine Run.a (Val.eq (Val.of rfl) (show _ = Value.bool false from congrArg Value.bool (decide_eq_false (by omega)))) ?_
          refine z_ ?_
          exact RQ.toP (⟨d, by rw [e1]⟩ : {y : OwT // (y.r, st.2) = st}) ⟨rfl, by rw [e1]; rfl, rfl, rfl, rfl, rfl, rfl, trivial⟩ (List.Perm.refl _) (List.Sublist.refl _)
    rintro ⟨y, hy⟩
    dsimp only
    have hyl : y.r.length ≤ 2 * k + 1 := by
      have : y.r = st.1 := by rw [← hy]
      rw [this, hst]
      split
      · rw [List.length_append, List.length_singleton]; omega
      · show d.r.length ≤ _; omega
    have hyn : stepL i h (d.r, dn) p = if p.1 = i then st else (st.1 ++ [p], st.2) := by rw [hst]; rfl
    rw [← hnx] at hyn
    (repeat refine RC.seq ?_); refine RC.region ?_
    refine Run.a (Val.of rfl) ?_
    refine Run.a (Val.of rfl) ?_
    refine Run.a vf0 ?_
    refine Run.a (vl (.slice (some adA) l.length cA) (arr := #[.slice (some adA) l.length cA, .slice (some adH) l.length cH]) (hm := (by repeat (first | exact List.mem_cons_self | apply List.mem_cons_of_mem | apply List.mem_append_right)))) ?_
    refine Run.a (Val.of rfl) ?_
    refine Run.a (vix k hk' (adA.add k) (ha := by show adA.add (k * 1) = _; rw [Nat.mul_one])) ?_
    refine Run.a (Val.loadC1 tabOk rfl rfl rfl rfl (rA (fun q hq => by repeat (first | exact hq | exact List.mem_append_left _ hq | exact List.mem_append_right _ hq | apply List.mem_cons_of_mem | apply List.mem_append_right)))) ?_
    by_cases h2 : p.1 = i
    · rw [if_pos h2] at hyn
      refine z_ ?_
      exact RQ.upS (k + 1) (y, st.2) (Nat.lt_succ_self _) hk' ⟨by rw [hyn]; exact hy, by show y.r.length ≤ _; omega⟩ ⟨rfl, rfl, rfl, rfl, rfl, rfl, rfl, trivial⟩ (List.Perm.refl _) (List.Sublist.refl _)
    · rw [if_neg h2] at hyn
      refine z_ ?_
      (repeat refine RC.seq ?_); refine RC.draw ((b5, Obj.cells (u8s h).toArray 29 (0, 0)) :: (mb, Obj.cells #[.slice (some adA) l.length cA, .slice (some adH) l.length cH] 39 (0, 0)) :: (bA ++ bH)) mixed (N := 22) rfl ?_
      refine dt 0 ?_
      refine dt 1 ?_
      refine dt 2 ?_
      refine dt 3 ?_
      refine DR.t 4 rfl (vl (.slice (some adA) l.length cA) (arr := #[.slice (some adA) l.length cA, .slice (some adH) l.length cH]) (hm := (by repeat (first | exact List.mem_cons_self | apply List.mem_cons_of_mem | apply List.mem_append_right)))) ?_
      refine dt 5 ?_
      refine DR.t 6 rfl (vix k hk' (adA.add k) (ha := by show adA.add (k * 1) = _; rw [Nat.mul_one])) ?_
      refine DR.t 7 rfl (Val.loadC1 tabOk rfl rfl rfl rfl (rA (fun q hq => by repeat (first | exact hq | exact List.mem_append_left _ hq | exact List.mem_append_right _ hq | apply List.mem_cons_of_mem | apply List.mem_append_right)))) ?_
      refine dt 10 ?_
      refine dt 11 ?_
      refine dt 12 ?_
      refine dt 13 ?_
      refine DR.t 14 rfl (vl (.slice (some adH) l.length cH) (arr := #[.slice (some adA) l.length cA, .slice (some adH) l.length cH]) (hm := (by repeat (first | exact List.mem_cons_self | apply List.mem_cons_of_mem | apply List.mem_append_right)))) ?_
      refine dt 15 ?_
      refine DR.t 16 rfl (vix k hk' (adH.add (k * 8))) ?_
      refine DR.t 17 rfl (Val.loadR tabOk (cs := u8s p.2) rfl rfl rfl rfl sp (rH (fun q hq => by repeat (first | exact hq | exact List.mem_append_left _ hq | exact List.mem_append_right _ hq | apply List.mem_cons_of_mem | apply List.mem_append_right)))) ?_
      refine DR.two (i := 8) (j := 18) (by kernel_rfl) ?_ ?_
      · refine DOp.op1 rfl (OpTo.new rfl rfl (nbsl #[.int .i64 (p.1 : Int)] (by kernel_rfl))) ?_
        intro s1
        refine DR.two (i := 9) (j := 18) (by kernel_rfl) ?_ ?_
        · refine DOp.op1 rfl (OpTo.append (L1 := (s1, Obj.cells #[.int .i64 (p.1 : Int)] 3 (0, 0)) :: (y.bH ++ ((b5, Obj.cells (u8s h).toArray 29 (0, 0)) :: (mb, Obj.cells #[.slice (some adA) l.length cA, .slice (some adH) l.length cH] 39 (0, 0)) :: (bA ++ bH)))) tabOk y.hA (Src.at ⟨s1, 0, none⟩ 1 1 [.int .i64 (p.1 : Int)] rfl (Rd.rowAll (arr := #[.int .i64 (p.1 : Int)]) (e := 3) (fz := (0, 0)) (by repeat (first | exact List.mem_cons_self | apply List.mem_cons_of_mem | apply List.mem_append_right)))) rfl rfl rfl rfl rfl rfl rfl rfl rfl (perm_of fun f => by (simp only [List.map_append, List.map_cons, List.map_nil, List.sum_append, List.sum_cons, List.sum_nil] <;> omega)) (by simp [Value.oneCell']) (by unfold maxLen; omega) (by simp only [ti3]; omega)) ?_
          rintro ⟨⟨vA1, bA1⟩, hA1⟩
          dsimp only at hA1 ⊢
          refine DR.c 18 ?_
          refine DOp.op1 rfl (OpTo.new rfl rfl (nbsl (u8s p.2).toArray (fillS_1 8 _ (u8s p.2) sp))) ?_
          intro s2
          refine DR.c 19 (DOp.op1 rfl (OpTo.append (L1 := (s2, Obj.cells (u8s p.2).toArray 29 (0, 0)) :: (bA1 ++ ((s1, Obj.cells #[.int .i64 (p.1 : Int)] 3 (0, 0)) :: ((b5, Obj.cells (u8s h).toArray 29 (0, 0)) :: (mb, Obj.cells #[.slice (some adA) l.length cA, .slice (some adH) l.length cH] 39 (0, 0)) :: (bA ++ bH))))) tabOk y.hH (Src.at ⟨s2, 0, none⟩ 1 1 (u8s p.2) (by rw [sp]; rfl) (Rd.rowAll (arr := (u8s p.2).toArray) (e := 29) (fz := (0, 0)) (by repeat (first | exact List.mem_cons_self | apply List.mem_cons_of_mem | apply List.mem_append_right)))) rfl rfl rfl rfl rfl rfl rfl rfl rfl (perm_of fun f => by (simp only [List.map_append, List.map_cons, List.map_nil, List.sum_append, List.sum_cons, List.sum_nil] <;> omega)) (u8s_one _) (by unfold maxLen; omega) (by simp only [ti29]; omega)) ?_)
          rintro ⟨⟨vH1, bH1⟩, hH1⟩
          dsimp only at hH1 ⊢
          refine DR.c 20 ?_
          refine DOp.vl rfl (Val.of rfl) ?_
          refine DR.c 21 ?_
          refine DOp.vl rfl (Val.of rfl) ?_
          refine DR.done (by kernel_rfl) ?_
          refine z_ ?_
          exact RQ.upS (k + 1) (y.snoc p.1 p.2 hA1 hH1, st.2) (Nat.lt_succ_self _) hk' ⟨by rw [hyn, ← hy]; rfl, by show (y.r ++ [(p.1, p.2)]).length ≤ _; rw [List.length_append, List.length_singleton]; omega⟩ ⟨rfl, rfl, rfl, rfl, rfl, rfl, rfl, trivial⟩ (L1 := bA1 ++ (bH1 ++ ((b5, Obj.cells (u8s h).toArray 29 (0, 0)) :: (mb, Obj.cells #[.slice (some adA) l.length cA, .slice (some adH) l.length cH] 39 (0, 0)) :: (bA ++ bH))) ++ [(s1, Obj.cells #[.int .i64 (p.1 : Int)] 3 (0, 0)), (s2, Obj.cells (u8s p.2).toArray 29 (0, 0))]) (perm_of fun f => by (simp only [List.map_append, List.map_cons, List.map_nil, List.sum_append, List.sum_cons, List.sum_nil] <;> omega)) (List.sublist_append_left _ _)
        · refine DOp.op1 rfl (OpTo.new rfl rfl (nbsl (u8s p.2).toArray (fillS_1 8 _ (u8s p.2) sp))) ?_
          intro s2
          refine DR.c 9 (DOp.op1 rfl (OpTo.append (L1 := (s2, Obj.cells (u8s p.2).toArray 29 (0, 0)) :: (s1, Obj.cells #[.int .i64 (p.1 : Int)] 3 (0, 0)) :: (y.bH ++ ((b5, Obj.cells (u8s h).toArray 29 (0, 0)) :: (mb, Obj.cells #[.slice (some adA) l.length cA, .slice (some adH) l.length cH] 39 (0, 0)) :: (bA ++ bH)))) tabOk y.hA (Src.at ⟨s1, 0, none⟩ 1 1 [.int .i64 (p.1 : Int)] rfl (Rd.rowAll (arr := #[.int .i64 (p.1 : Int)]) (e := 3) (fz := (0, 0)) (by repeat (first | exact List.mem_cons_self | apply List.mem_cons_of_mem | apply List.mem_append_right)))) rfl rfl rfl rfl rfl rfl rfl rfl rfl (perm_of fun f => by (simp only [List.map_append, List.map_cons, List.map_nil, List.sum_append, List.sum_cons, List.sum_nil] <;> omega)) (by simp [Value.oneCell']) (by unfold maxLen; omega) (by simp only [ti3]; omega)) ?_)
          rintro ⟨⟨vA1, bA1⟩, hA1⟩
          dsimp only at hA1 ⊢
          refine DR.c 19 (DOp.op1 rfl (OpTo.append (L1 := bA1 ++ ((s2, Obj.cells (u8s p.2).toArray 29 (0, 0)) :: (s1, Obj.cells #[.int .i64 (p.1 : Int)] 3 (0, 0)) :: ((b5, Obj.cells (u8s h).toArray 29 (0, 0)) :: (mb, Obj.cells #[.slice (some adA) l.length cA, .slice (some adH) l.length cH] 39 (0, 0)) :: (bA ++ bH)))) tabOk y.hH (Src.at ⟨s2, 0, none⟩ 1 1 (u8s p.2) (by rw [sp]; rfl) (Rd.rowAll (arr := (u8s p.2).toArray) (e := 29) (fz := (0, 0)) (by repeat (first | exact List.mem_cons_self | apply List.mem_cons_of_mem | apply List.mem_append_right)))) rfl rfl rfl rfl rfl rfl rfl rfl rfl (perm_of fun f => by (simp only [List.map_append, List.map_cons, List.map_nil, List.sum_append, List.sum_cons, List.sum_nil] <;> omega)) (u8s_one _) (by unfold maxLen; omega) (by simp only [ti29]; omega)) ?_)
          rintro ⟨⟨vH1, bH1⟩, hH1⟩
          dsimp only at hH1 ⊢
          refine DR.c 20 ?_
          refine DOp.vl rfl (Val.of rfl) ?_
          refine DR.c 21 ?_
          refine DOp.vl rfl (Val.of rfl) ?_
          refine DR.done (by kernel_rfl) ?_
          refine z_ ?_
          exact RQ.upS (k + 1) (y.snoc p.1 p.2 hA1 hH1, st.2) (Nat.lt_succ_self _) hk' ⟨by rw [hyn, ← hy]; rfl, by show (y.r ++ [(p.1, p.2)]).length ≤ _; rw [List.length_append, List.length_singleton]; omega⟩ ⟨rfl, rfl, rfl, rfl, rfl, rfl, rfl, trivial⟩ (L1 := bA1 ++ (bH1 ++ ((b5, Obj.cells (u8s h).toArray 29 (0, 0)) :: (mb, Obj.cells #[.slice (some adA) l.length cA, .slice (some adH) l.length cH] 39 (0, 0)) :: (bA ++ bH))) ++ [(s1, Obj.cells #[.int .i64 (p.1 : Int)] 3 (0, 0)), (s2, Obj.cells (u8s p.2).toArray 29 (0, 0))]) (perm_of fun f => by (simp only [List.map_append, List.map_cons, List.map_nil, List.sum_append, List.sum_cons, List.sum_nil] <;> omega)) (List.sublist_append_left _ _)
      · refine DOp.op1 rfl (OpTo.new rfl rfl (nbsl (u8s p.2).toArray (fillS_1 8 _ (u8s p.2) sp))) ?_
        intro s2
        refine DR.c 8 ?_
        refine DOp.op1 rfl (OpTo.new rfl rfl (nbsl #[.int .i64 (p.1 : Int)] (by kernel_rfl))) ?_
        intro s1
        refine DR.c 9 (DOp.op1 rfl (OpTo.append (L1 := (s2, Obj.cells (u8s p.2).toArray 29 (0, 0)) :: (s1, Obj.cells #[.int .i64 (p.1 : Int)] 3 (0, 0)) :: (y.bH ++ ((b5, Obj.cells (u8s h).toArray 29 (0, 0)) :: (mb, Obj.cells #[.slice (some adA) l.length cA, .slice (some adH) l.length cH] 39 (0, 0)) :: (bA ++ bH)))) tabOk y.hA (Src.at ⟨s1, 0, none⟩ 1 1 [.int .i64 (p.1 : Int)] rfl (Rd.rowAll (arr := #[.int .i64 (p.1 : Int)]) (e := 3) (fz := (0, 0)) (by repeat (first | exact List.mem_cons_self | apply List.mem_cons_of_mem | apply List.mem_append_right)))) rfl rfl rfl rfl rfl rfl rfl rfl rfl (perm_of fun f => by (simp only [List.map_append, List.map_cons, List.map_nil, List.sum_append, List.sum_cons, List.sum_nil] <;> omega)) (by simp [Value.oneCell']) (by unfold maxLen; omega) (by simp only [ti3]; omega)) ?_)
        rintro ⟨⟨vA1, bA1⟩, hA1⟩
        dsimp only at hA1 ⊢
        refine DR.c 19 (DOp.op1 rfl (OpTo.append (L1 := bA1 ++ ((s2, Obj.cells (u8s p.2).toArray 29 (0, 0)) :: (s1, Obj.cells #[.int .i64 (p.1 : Int)] 3 (0, 0)) :: ((b5, Obj.cells (u8s h).toArray 29 (0, 0)) :: (mb, Obj.cells #[.slice (some adA) l.length cA, .slice (some adH) l.length cH] 39 (0, 0)) :: (bA ++ bH)))) tabOk y.hH (Src.at ⟨s2, 0, none⟩ 1 1 (u8s p.2) (by rw [sp]; rfl) (Rd.rowAll (arr := (u8s p.2).toArray) (e := 29) (fz := (0, 0)) (by repeat (first | exact List.mem_cons_self | apply List.mem_cons_of_mem | apply List.mem_append_right)))) rfl rfl rfl rfl rfl rfl rfl rfl rfl (perm_of fun f => by (simp only [List.map_append, List.map_cons, List.map_nil, List.sum_append, List.sum_cons, List.sum_nil] <;> omega)) (u8s_one _) (by unfold maxLen; omega) (by simp only [ti29]; omega)) ?_)
        rintro ⟨⟨vH1, bH1⟩, hH1⟩
        dsimp only at hH1 ⊢
        refine DR.c 20 ?_
        refine DOp.vl rfl (Val.of rfl) ?_
        refine DR.c 21 ?_
        refine DOp.vl rfl (Val.of rfl) ?_
        refine DR.done (by kernel_rfl) ?_
        refine z_ ?_
        exact RQ.upS (k + 1) (y.snoc p.1 p.2 hA1 hH1, st.2) (Nat.lt_succ_self _) hk' ⟨by rw [hyn, ← hy]; rfl, by show (y.r ++ [(p.1, p.2)]).length ≤ _; rw [List.length_append, List.length_singleton]; omega⟩ ⟨rfl, rfl, rfl, rfl, rfl, rfl, rfl, trivial⟩ (L1 := bA1 ++ (bH1 ++ ((b5, Obj.cells (u8s h).toArray 29 (0, 0)) :: (mb, Obj.cells #[.slice (some adA) l.length cA, .slice (some adH) l.length cH] 39 (0, 0)) :: (bA ++ bH))) ++ [(s1, Obj.cells #[.int .i64 (p.1 : Int)] 3 (0, 0)), (s2, Obj.cells (u8s p.2).toArray 29 (0, 0))]) (perm_of fun f => by (simp only [List.map_append, List.map_cons, List.map_nil, List.sum_append, List.sum_cons, List.sum_nil] <;> omega)) (List.sublist_append_left _ _)
  · have hk' : k = l.length := by have := of_decide_eq_false h; omega
    clear h
    subst hk'
    rw [List.take_length] at hgo
    rw [← hgo]
    dsimp only
    have hr9 : ∀ (y : OwT), LvL mb y = (mb, .cells #[y.vA, y.vH] 39 (0, 0)) :: (y.bA ++ y.bH) := fun _ => rfl
    (repeat refine RQ.thenExit ?_); refine RQ.blockHere ?_
    refine RQ.next ?_
    refine RC.seq ?_
    refine RC.thenCut (Y := {y : OwT // y.r = if dn then d.r else d.r ++ [(i, h)]}) (fun y => [(8, y.1.vH), (7, y.1.vA), (5, .pointer (some ⟨b5, 0, none⟩)), (1, .int .i64 i), (0, .pointer (some ⟨mb, 0, none⟩))]) (fun y => y.1.bA ++ (y.1.bH ++ ((b5, Obj.cells (u8s h).toArray 29 (0, 0)) :: (mb, Obj.cells #[.slice aA l.length cA, .slice aH l.length cH] 39 (0, 0)) :: (bA ++ bH)))) ?_ ?_
    · cases dn with
      | true =>
        refine z_ ?_
        exact RQ.toP (⟨d, rfl⟩ : {y : OwT // y.r = if true then d.r else d.r ++ [(i, h)]}) ⟨rfl, rfl, rfl, rfl, rfl, trivial⟩ (List.Perm.refl _) (List.Sublist.refl _)
      | false =>
        refine z_ ?_
        (repeat refine RC.seq ?_); refine RC.draw ((b5, Obj.cells (u8s h).toArray 29 (0, 0)) :: (mb, Obj.cells #[.slice aA l.length cA, .slice aH l.length cH] 39 (0, 0)) :: (bA ++ bH)) mixed (N := 10) rfl ?_
        refine dt 0 ?_
        refine dt 1 ?_
        refine dt 4 ?_
        refine DR.t 5 rfl (vla (hv := hsz)) ?_
        refine DR.two (i := 2) (j := 6) (by kernel_rfl) ?_ ?_
        · refine DOp.op1 rfl (OpTo.new rfl rfl (nbsl #[.int .i64 (i : Int)] (by kernel_rfl))) ?_
          intro s1
          refine DR.two (i := 3) (j := 6) (by kernel_rfl) ?_ ?_
          · refine DOp.op1 rfl (OpTo.append (L1 := (s1, Obj.cells #[.int .i64 (i : Int)] 3 (0, 0)) :: (d.bH ++ ((b5, Obj.cells (u8s h).toArray 29 (0, 0)) :: (mb, Obj.cells #[.slice aA l.length cA, .slice aH l.length cH] 39 (0, 0)) :: (bA ++ bH)))) tabOk d.hA (Src.at ⟨s1, 0, none⟩ 1 1 [.int .i64 (i : Int)] rfl (Rd.rowAll (arr := #[.int .i64 (i : Int)]) (e := 3) (fz := (0, 0)) (by repeat (first | exact List.mem_cons_self | apply List.mem_cons_of_mem | apply List.mem_append_right)))) rfl rfl rfl rfl rfl rfl rfl rfl rfl (perm_of fun f => by (simp only [List.map_append, List.map_cons, List.map_nil, List.sum_append, List.sum_cons, List.sum_nil] <;> omega)) (by simp [Value.oneCell']) (by unfold maxLen; omega) (by simp only [ti3]; omega)) ?_
            rintro ⟨⟨vA1, bA1⟩, hA1⟩
            dsimp only at hA1 ⊢
            refine DR.c 6 ?_
            refine DOp.op1 rfl (OpTo.new rfl rfl (nbsl (u8s h).toArray (fillS_1 8 _ (u8s h) hl8))) ?_
            intro s2
            refine DR.c 7 (DOp.op1 rfl (OpTo.append (L1 := (s2, Obj.cells (u8s h).toArray 29 (0, 0)) :: (bA1 ++ ((s1, Obj.cells #[.int .i64 (i : Int)] 3 (0, 0)) :: ((b5, Obj.cells (u8s h).toArray 29 (0, 0)) :: (mb, Obj.cells #[.slice aA l.length cA, .slice aH l.length cH] 39 (0, 0)) :: (bA ++ bH))))) tabOk d.hH (Src.at ⟨s2, 0, none⟩ 1 1 (u8s h) (by rw [hl8]; rfl) (Rd.rowAll (arr := (u8s h).toArray) (e := 29) (fz := (0, 0)) (by repeat (first | exact List.mem_cons_self | apply List.mem_cons_of_mem | apply List.mem_append_right)))) rfl rfl rfl rfl rfl rfl rfl rfl rfl (perm_of fun f => by (simp only [List.map_append, List.map_cons, List.map_nil, List.sum_append, List.sum_cons, List.sum_nil] <;> omega)) (u8s_one _) (by unfold maxLen; omega) (by simp only [ti29]; omega)) ?_)
            rintro ⟨⟨vH1, bH1⟩, hH1⟩
            dsimp only at hH1 ⊢
            refine DR.c 8 ?_
            refine DOp.vl rfl (Val.of rfl) ?_
            refine DR.c 9 ?_
            refine DOp.vl rfl (Val.of rfl) ?_
            refine DR.done (by kernel_rfl) ?_
            exact RQ.toP (⟨d.snoc i h hA1 hH1, rfl⟩ : {y : OwT // y.r = if false then d.r else d.r ++ [(i, h)]}) ⟨rfl, rfl, rfl, rfl, rfl, trivial⟩ (L1 := bA1 ++ (bH1 ++ ((b5, Obj.cells (u8s h).toArray 29 (0, 0)) :: (mb, Obj.cells #[.slice aA l.length cA, .slice aH l.length cH] 39 (0, 0)) :: (bA ++ bH))) ++ [(s1, Obj.cells #[.int .i64 (i : Int)] 3 (0, 0)), (s2, Obj.cells (u8s h).toArray 29 (0, 0))]) (perm_of fun f => by (simp only [List.map_append, List.map_cons, List.map_nil, List.sum_append, List.sum_cons, List.sum_nil] <;> omega)) (List.sublist_append_left _ _)
          · refine DOp.op1 rfl (OpTo.new rfl rfl (nbsl (u8s h).toArray (fillS_1 8 _ (u8s h) hl8))) ?_
            intro s2
            refine DR.c 3 (DOp.op1 rfl (OpTo.append (L1 := (s2, Obj.cells (u8s h).toArray 29 (0, 0)) :: (s1, Obj.cells #[.int .i64 (i : Int)] 3 (0, 0)) :: (d.bH ++ ((b5, Obj.cells (u8s h).toArray 29 (0, 0)) :: (mb, Obj.cells #[.slice aA l.length cA, .slice aH l.length cH] 39 (0, 0)) :: (bA ++ bH)))) tabOk d.hA (Src.at ⟨s1, 0, none⟩ 1 1 [.int .i64 (i : Int)] rfl (Rd.rowAll (arr := #[.int .i64 (i : Int)]) (e := 3) (fz := (0, 0)) (by repeat (first | exact List.mem_cons_self | apply List.mem_cons_of_mem | apply List.mem_append_right)))) rfl rfl rfl rfl rfl rfl rfl rfl rfl (perm_of fun f => by (simp only [List.map_append, List.map_cons, List.map_nil, List.sum_append, List.sum_cons, List.sum_nil] <;> omega)) (by simp [Value.oneCell']) (by unfold maxLen; omega) (by simp only [ti3]; omega)) ?_)
            rintro ⟨⟨vA1, bA1⟩, hA1⟩
            dsimp only at hA1 ⊢
            refine DR.c 7 (DOp.op1 rfl (OpTo.append (L1 := bA1 ++ ((s2, Obj.cells (u8s h).toArray 29 (0, 0)) :: (s1, Obj.cells #[.int .i64 (i : Int)] 3 (0, 0)) :: ((b5, Obj.cells (u8s h).toArray 29 (0, 0)) :: (mb, Obj.cells #[.slice aA l.length cA, .slice aH l.length cH] 39 (0, 0)) :: (bA ++ bH)))) tabOk d.hH (Src.at ⟨s2, 0, none⟩ 1 1 (u8s h) (by rw [hl8]; rfl) (Rd.rowAll (arr := (u8s h).toArray) (e := 29) (fz := (0, 0)) (by repeat (first | exact List.mem_cons_self | apply List.mem_cons_of_mem | apply List.mem_append_right)))) rfl rfl rfl rfl rfl rfl rfl rfl rfl (perm_of fun f => by (simp only [List.map_append, List.map_cons, List.map_nil, List.sum_append, List.sum_cons, List.sum_nil] <;> omega)) (u8s_one _) (by unfold maxLen; omega) (by simp only [ti29]; omega)) ?_)
            rintro ⟨⟨vH1, bH1⟩, hH1⟩
            dsimp only at hH1 ⊢
            refine DR.c 8 ?_
            refine DOp.vl rfl (Val.of rfl) ?_
            refine DR.c 9 ?_
            refine DOp.vl rfl (Val.of rfl) ?_
            refine DR.done (by kernel_rfl) ?_
            exact RQ.toP (⟨d.snoc i h hA1 hH1, rfl⟩ : {y : OwT // y.r = if false then d.r else d.r ++ [(i, h)]}) ⟨rfl, rfl, rfl, rfl, rfl, trivial⟩ (L1 := bA1 ++ (bH1 ++ ((b5, Obj.cells (u8s h).toArray 29 (0, 0)) :: (mb, Obj.cells #[.slice aA l.length cA, .slice aH l.length cH] 39 (0, 0)) :: (bA ++ bH))) ++ [(s1, Obj.cells #[.int .i64 (i : Int)] 3 (0, 0)), (s2, Obj.cells (u8s h).toArray 29 (0, 0))]) (perm_of fun f => by (simp only [List.map_append, List.map_cons, List.map_nil, List.sum_append, List.sum_cons, List.sum_nil] <;> omega)) (List.sublist_append_left _ _)
        · refine DOp.op1 rfl (OpTo.new rfl rfl (nbsl (u8s h).toArray (fillS_1 8 _ (u8s h) hl8))) ?_
          intro s2
          refine DR.c 2 ?_
          refine DOp.op1 rfl (OpTo.new rfl rfl (nbsl #[.int .i64 (i : Int)] (by kernel_rfl))) ?_
          intro s1
          refine DR.c 3 (DOp.op1 rfl (OpTo.append (L1 := (s2, Obj.cells (u8s h).toArray 29 (0, 0)) :: (s1, Obj.cells #[.int .i64 (i : Int)] 3 (0, 0)) :: (d.bH ++ ((b5, Obj.cells (u8s h).toArray 29 (0, 0)) :: (mb, Obj.cells #[.slice aA l.length cA, .slice aH l.length cH] 39 (0, 0)) :: (bA ++ bH)))) tabOk d.hA (Src.at ⟨s1, 0, none⟩ 1 1 [.int .i64 (i : Int)] rfl (Rd.rowAll (arr := #[.int .i64 (i : Int)]) (e := 3) (fz := (0, 0)) (by repeat (first | exact List.mem_cons_self | apply List.mem_cons_of_mem | apply List.mem_append_right)))) rfl rfl rfl rfl rfl rfl rfl rfl rfl (perm_of fun f => by (simp only [List.map_append, List.map_cons, List.map_nil, List.sum_append, List.sum_cons, List.sum_nil] <;> omega)) (by simp [Value.oneCell']) (by unfold maxLen; omega) (by simp only [ti3]; omega)) ?_)
          rintro ⟨⟨vA1, bA1⟩, hA1⟩
          dsimp only at hA1 ⊢
          refine DR.c 7 (DOp.op1 rfl (OpTo.append (L1 := bA1 ++ ((s2, Obj.cells (u8s h).toArray 29 (0, 0)) :: (s1, Obj.cells #[.int .i64 (i : Int)] 3 (0, 0)) :: ((b5, Obj.cells (u8s h).toArray 29 (0, 0)) :: (mb, Obj.cells #[.slice aA l.length cA, .slice aH l.length cH] 39 (0, 0)) :: (bA ++ bH)))) tabOk d.hH (Src.at ⟨s2, 0, none⟩ 1 1 (u8s h) (by rw [hl8]; rfl) (Rd.rowAll (arr := (u8s h).toArray) (e := 29) (fz := (0, 0)) (by repeat (first | exact List.mem_cons_self | apply List.mem_cons_of_mem | apply List.mem_append_right)))) rfl rfl rfl rfl rfl rfl rfl rfl rfl (perm_of fun f => by (simp only [List.map_append, List.map_cons, List.map_nil, List.sum_append, List.sum_cons, List.sum_nil] <;> omega)) (u8s_one _) (by unfold maxLen; omega) (by simp only [ti29]; omega)) ?_)
          rintro ⟨⟨vH1, bH1⟩, hH1⟩
          dsimp only at hH1 ⊢
          refine DR.c 8 ?_
          refine DOp.vl rfl (Val.of rfl) ?_
          refine DR.c 9 ?_
          refine DOp.vl rfl (Val.of rfl) ?_
          refine DR.done (by kernel_rfl) ?_
          exact RQ.toP (⟨d.snoc i h hA1 hH1, rfl⟩ : {y : OwT // y.r = if false then d.r else d.r ++ [(i, h)]}) ⟨rfl, rfl, rfl, rfl, rfl, trivial⟩ (L1 := bA1 ++ (bH1 ++ ((b5, Obj.cells (u8s h).toArray 29 (0, 0)) :: (mb, Obj.cells #[.slice aA l.length cA, .slice aH l.length cH] 39 (0, 0)) :: (bA ++ bH))) ++ [(s1, Obj.cells #[.int .i64 (i : Int)] 3 (0, 0)), (s2, Obj.cells (u8s h).toArray 29 (0, 0))]) (perm_of fun f => by (simp only [List.map_append, List.map_cons, List.map_nil, List.sum_append, List.sum_cons, List.sum_nil] <;> omega)) (List.sublist_append_left _ _)
    rintro ⟨y, hy⟩
    dsimp only
    refine z_ ?_
    refine Run.op1 (os1 (off := 0) (v := y.vA) (e := 39) (arr := #[.slice aA l.length cA, .slice aH l.length cH]) (L' := y.bA ++ (y.bH ++ ((b5, Obj.cells (u8s h).toArray 29 (0, 0)) :: (bA ++ bH)))) #[y.vA, .slice aH l.length cH] (hL := (perm_of fun f => by (simp only [List.map_append, List.map_cons, List.map_nil, List.sum_append, List.sum_cons, List.sum_nil] <;> omega))) (he := by rw [y.vAc]; rfl) (hs := by rw [y.vAc]; rfl) (h1 := by rw [y.vAc]; exact y.vA1)) (fun _ => ?_)
    refine z_ ?_
    refine Run.op1 (os1 (off := 1) (v := y.vH) (e := 39) (arr := #[y.vA, .slice aH l.length cH]) (L' := y.bA ++ (y.bH ++ ((b5, Obj.cells (u8s h).toArray 29 (0, 0)) :: (bA ++ bH)))) #[y.vA, y.vH] (hL := (perm_of fun f => by (simp only [List.map_append, List.map_cons, List.map_nil, List.sum_append, List.sum_cons, List.sum_nil] <;> omega))) (he := by rw [y.vHc]; rfl) (hs := by rw [y.vHc]; rfl) (h1 := by rw [y.vHc]; exact y.vH1)) (fun _ => ?_)
    refine z_ ?_
    exact RQ.ret1 rfl (Res.tmp rfl) fun w' hm => Turns.of (Y := {y : OwT // y.r = if dn then d.r else d.r ++ [(i, h)]}) (V := fun _ => .bool true) (L' := fun y => LvL mb y.1) (Lst := LvL mb ⟨l, .slice aA l.length cA, .slice aH l.length cH, bA, bH, hA, hH⟩) ⟨y, hy⟩ hm (Lr := (b5, Obj.cells (u8s h).toArray 29 (0, 0)) :: (bA ++ bH)) (by rw [hr9]; exact (perm_of fun f => by (simp only [List.map_append, List.map_cons, List.map_nil, List.sum_append, List.sum_cons, List.sum_nil] <;> omega)))
end Go.Proofs.YtaabinhpagbajaaDoor
