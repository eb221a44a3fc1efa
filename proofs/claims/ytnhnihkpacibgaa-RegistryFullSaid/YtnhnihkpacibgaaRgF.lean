/- registry: Side, Total; Create, Forward, Set, Copy. -/
import Derived.Test.YtnhnihkpacibgaaRgE
set_option linter.unusedSimpArgs false
set_option linter.unusedVariables false
namespace Go.Sha
/-- What a record of parameters begins as. -/
def rcNew (ln wd nd : Int) (ks : List (List Nat)) (h : Int) : Rc := ⟨ln, wd, nd, h, 0, 0, false, 0, ks, []⟩
def createR (l : List Rc) (ok : Bool) (rc : Rc) : List Rc × Int × Int := bif ok then (if l.length < 8 then (l ++ [rc], (l.length : Int), 0) else (l, 0, 18)) else (l, 0, 4)
theorem createR_bad (l : List Rc) (rc : Rc) : createR l false rc = (l, 0, 4) := rfl
theorem createR_full {l : List Rc} (rc : Rc) (h : ¬ l.length < 8) : createR l true rc = (l, 0, 18) := by simp [createR, h]
theorem createR_ok {l : List Rc} (rc : Rc) (h : l.length < 8) : createR l true rc = (l ++ [rc], (l.length : Int), 0) := by simp [createR, h]
def mm : Int := 1125899906842624
def fits (r : Rc) (a : Int) : Bool := decide (1 ≤ a ∧ a ≤ 1125899906842624) && (decide (r.bal ≤ 1125899906842624 - a) && decide (r.fwd ≤ 1125899906842624 - a))
def Rc.plus (r : Rc) (a : Int) : Rc := { r with bal := r.bal + a, fwd := r.fwd + a }
def fwdR (l : List Rc) (s a : Int) : List Rc × Int :=
  if 0 ≤ s ∧ s < l.length then
    match l[s.toNat]? with
    | some r => if r.ce = true then (l, 14) else if fits r a = true then (l.set s.toNat (r.plus a), 0) else (l, 5)
    | none => (l, 8)
  else (l, 8)
theorem fwdR_no {l : List Rc} {s a : Int} (h : ¬ (0 ≤ s ∧ s < l.length)) : fwdR l s a = (l, 8) := if_neg h
theorem fwdR_ce {l : List Rc} {i : Nat} {r : Rc} {a : Int} (h : l[i]? = some r) (hc : r.ce = true) : fwdR l i a = (l, 14) := by
  have := (List.getElem?_eq_some_iff.1 h).1
  unfold fwdR; rw [if_pos (by omega)]; simp only [Int.toNat_natCast, h]; rw [if_pos hc]
theorem fwdR_bad {l : List Rc} {i : Nat} {r : Rc} {a : Int} (h : l[i]? = some r) (hc : r.ce = false) (hf : fits r a = false) : fwdR l i a = (l, 5) := by
  have := (List.getElem?_eq_some_iff.1 h).1
  unfold fwdR; rw [if_pos (by omega)]; simp only [Int.toNat_natCast, h]; rw [if_neg (by simp [hc]), if_neg (by simp [hf])]
theorem fwdR_ok {l : List Rc} {i : Nat} {r : Rc} {a : Int} (h : l[i]? = some r) (hc : r.ce = false) (hf : fits r a = true) : fwdR l i a = (l.set i (r.plus a), 0) := by
  have := (List.getElem?_eq_some_iff.1 h).1
  unfold fwdR; rw [if_pos (by omega)]; simp only [Int.toNat_natCast, h]; rw [if_neg (by simp [hc]), if_pos hf]
/-- A forward's cells. -/
def fwdC (s a : Int) (o : List Nat) (m : Int) : List Go.Value := .int .i64 s :: .int .i64 a :: (u8s o ++ [.int .i64 m])
theorem fwdC_at {s a m : Int} {o : List Nat} (h : o.length = 8) : (fwdC s a o m).toArray[10]? = some (.int .i64 m) := by
  rw [List.getElem?_toArray, fwdC, List.getElem?_cons_succ, List.getElem?_cons_succ, List.getElem?_append_right (by rw [u8s_len, h]; decide), u8s_len, h]; rfl
end Go.Sha
namespace Go.Proofs.Ytnhnihkpacibgaa
attribute [local irreducible] Go.Vc.Run Go.Vc.RC Go.Vc.RQ Go.Vc.DR Go.Vc.DOp
open Go Go.Vc Go.Sha
abbrev PSt := StO 76 44
abbrev RSt := StO 54 65

set_option maxRecDepth 10000 in set_option maxHeartbeats 4000000 in
theorem Side_calls {l : List SX} (hll : l.length ≤ 8) (sb : Nat) (v : Value) (w : World) (hst : StW 76 w sb v l) {i : Nat} {s : SX} (hx : l[i]? = some s) (hkl : s.r.keys.length ≤ 1000000) (hul : s.r.used.length ≤ 1000000) :
    MakesD Try.prog 14 [.pointer (some ⟨sb, 0, none⟩), .int .i64 (i : Int)] w (fun x : SX => .tuple #[.agg x.c.toArray, .bool true]) (fun x => x.r = s.r) (fun w x => x.ok w) := by
  refine enter Try.func14 rfl (Mem.nil w []) rfl ?_
  obtain ⟨hs1, hs2, hs3⟩ := hst
  have hi := (List.getElem?_eq_some_iff.1 hx).1
  obtain ⟨ad, c, rfl, hc, hcl, hr⟩ := hs2.pos (by omega)
  have hcell := cell_sb hs1
  have hok := hs3 s (List.mem_of_getElem? hx)
  have hI := fun w' hs' => in_calls sb l.length c (some ad) (by omega) (i : Int) w' hs'
  rw [show decide (0 ≤ (i : Int) ∧ (i : Int) < (l.length : Int)) = true from decide_eq_true (by omega)] at hI
  have hload : ∀ j u, s.c[j]? = some u → w.cell? ((ad.add (i * 42)).add j) = some u := fun j u hj => by
    rw [add_add]; exact hr _ u (rws_at SX.len hx j u hj)
  have hsl := s.len
  refine z_ ?_
  refine Run.nw nal ?_
  intro b4
  refine z_ ?_
  refine Run.op1 (OpTo.cv Try.func35 (fun w' hm => hI w' (hm.old hs1))) (fun _ => ?_)
  refine z_ ?_
  refine Run.a (vlo hcell) ?_
  refine z_ ?_
  refine Run.a (vix i hi (ad.add (i * 42))) ?_
  refine Run.a (vloA hload hsl) ?_
  refine Run.op1 (OpTo.callD Try.func32 (fun w' hm => copied_calls s hkl hul w' (hok.fr hm.fr))) ?_
  rintro ⟨⟨s2, bl⟩, hr2, hk2⟩
  dsimp only at hr2 hk2 ⊢
  have hl2 := s2.len
  refine Run.op1 (osa s2.c.toArray s2.one) (fun _ => ?_)
  refine z_ ?_
  refine RQ.ret2 rfl (Res.cellAll tabOk rfl rfl rfl m0 hl2) (Res.tmp rfl) fun w' hm => MakesD.of (V := fun x : SX => Value.tuple #[.agg x.c.toArray, .bool true]) (bl := bl) s2 hm (fun p hp => List.mem_cons_of_mem _ (List.mem_append_left _ hp)) ?_ hr2 hk2
  have := hm.nd
  rw [List.map_cons, List.nodup_cons, List.append_nil] at this
  exact this.2

theorem Side_bad {l : List SX} (hll : l.length ≤ 8) (sb : Nat) (v : Value) (w : World) (hst : StW 76 w sb v l) (z : Int) (hz : ¬ (0 ≤ z ∧ z < l.length)) :
    Gives Try.prog 14 [.pointer (some ⟨sb, 0, none⟩), .int .i64 z] (.tuple #[.agg zeroC.toArray, .bool false]) w := by
  refine enter Try.func14 rfl (Mem.nil w []) rfl ?_
  obtain ⟨hs1, hs2, hs3⟩ := hst
  obtain ⟨a, c, rfl, hc⟩ := hs2.shape
  have hI := fun w' hs' => in_calls sb l.length c a (by omega) z w' hs'
  rw [show decide (0 ≤ z ∧ z < (l.length : Int)) = false from decide_eq_false hz] at hI
  refine z_ ?_
  refine Run.nw nal ?_
  intro b4
  refine z_ ?_
  refine Run.op1 (OpTo.cv Try.func35 (fun w' hm => hI w' (hm.old hs1))) (fun _ => ?_)
  refine z_ ?_
  refine Run.a (vbs zeroC.toArray) ?_
  refine Run.op1 (osa zeroC.toArray (Rc.one ⟨0, 0, 0, 0, 0, 0, false, 0, [], []⟩ rfl rfl)) (fun _ => ?_)
  refine z_ ?_
  exact RQ.ret2 rfl (Res.cellAll tabOk rfl rfl rfl m0 rfl) (Res.tmp rfl) fun w' hm => ⟨rfl, hm.fr⟩

set_option maxRecDepth 10000 in set_option maxHeartbeats 4000000 in
theorem Total_calls {l : List SX} (hll : l.length ≤ 8) (hnn : ∀ r ∈ l.map SX.r, 0 ≤ r.bal) (htt : totR (l.map SX.r) ≤ 9223372036854775807) (sb : Nat) (v : Value) (w : World) (hst : StW 76 w sb v l) :
    Gives Try.prog 15 [.pointer (some ⟨sb, 0, none⟩)] (.int .i64 (totR (l.map SX.r))) w := by
  refine enter Try.func15 rfl (Mem.nil w []) rfl ?_
  obtain ⟨hs1, hs2, hs3⟩ := hst
  obtain ⟨a, c, rfl, hc⟩ := hs2.shape
  have hcell := cell_sb hs1
  refine z_ ?_
  refine Run.a (vlo hcell) ?_
  refine z_ ?_
  refine RC.up l.length (D := Unit) (fun _ _ => True) (fun i _ => [(13, .int .i64 i), (12, .int .i64 l.length), (11, .slice a l.length c), (3, .int .i64 (totR ((l.map SX.r).take i)))])
    (fun _ _ => []) 0 () (Nat.zero_le _) trivial ⟨rfl, rfl, rfl, rfl, trivial⟩ (List.nil_sublist _) ?_
  intro i _ hi _
  refine z_ ?_
  (repeat refine RC.seq ?_); refine RC.wh rfl (fun h => RQ.next ?_) (fun h => ?_)
  · have hi' : i < l.length := by have := of_decide_eq_true h; omega
    clear h
    obtain ⟨s, hx⟩ : ∃ s, l[i]? = some s := ⟨_, List.getElem?_eq_getElem hi'⟩
    obtain ⟨ad, c', hv', hc', hcl, hr⟩ := hs2.pos (by omega)
    cases hv'
    have hsl := s.len
    have hload : ∀ j u, s.c[j]? = some u → w.cell? ((ad.add (i * 42)).add j) = some u := fun j u hj => by
      rw [add_add]; exact hr _ u (rws_at SX.len hx j u hj)
    have hb0 : s.c.toArray[5]? = some (.int .i64 s.r.bal) := rfl
    have hnx : totR ((l.map SX.r).take (i + 1)) = totR ((l.map SX.r).take i) + s.r.bal := by
      rw [List.take_add_one, List.getElem?_map, hx, totR_app]
      show _ + (s.r.bal + 0) = _
      rw [Int.add_zero]
    have b1 := totR_take hnn i
    have b2 := totR_take hnn (i + 1)
    rw [hnx] at b2
    refine z_ ?_
    refine Run.a (vix i hi' (ad.add (i * 42))) ?_
    refine Run.a (vloA hload hsl) ?_
    refine Run.nw nal ?_
    intro b5
    refine Run.op1 (osa s.c.toArray s.one) (fun _ => ?_)
    refine z_ ?_
    exact RQ.up (i + 1) () (Nat.lt_succ_self _) hi' trivial ⟨rfl, rfl, rfl, by rw [hnx]; rfl, trivial⟩ (List.nil_sublist _)
  · have hi' : i = l.length := by have := of_decide_eq_false h; omega
    subst hi'
    rw [show (l.map SX.r).take l.length = l.map SX.r from List.take_of_length_le (by simp)]
    (repeat refine RQ.thenExit ?_); refine RQ.blockHere ?_
    refine RQ.next ?_
    refine z_ ?_
    exact RQ.ret1 rfl (Res.tmp rfl) fun w' hm => ⟨rfl, hm.fr⟩

abbrev SY (tS tR : TypeId) (sb : Nat) (pool : Hp) (rs : List Rc) := {y : (np : Hp) × StO tS tR sb (np ++ pool) // y.2.rs = rs}
abbrev CrY (sb : Nat) (pool : Hp) (rs : List Rc) := SY 76 44 sb pool rs
abbrev RrY (sb : Nat) (pool : Hp) (rs : List Rc) := SY 54 65 sb pool rs
theorem cr_of {tS tR : TypeId} {sb : Nat} {pool ap Lst L1 Lr : Hp} {rs : List Rc} {w w' : World} {x : Value} (np : Hp) (st' : StO tS tR sb (np ++ pool)) (hrs : st'.rs = rs) (hm : Mem w (Lst.map (·.1)) L1 w') (hp : L1.Perm (st'.L ++ (np ++ ap) ++ Lr)) :
    ∃ y' : SY tS tR sb pool rs, Ending.returned x = .returned x ∧ Fr (Lst.map (·.1)) w w' ∧ Has (y'.1.2.L ++ (y'.1.1 ++ ap)) w' ∧ (∀ p ∈ y'.1.2.L ++ (y'.1.1 ++ ap), w.heap.size ≤ p.1 ∨ p.1 ∈ Lst.map (·.1)) ∧ ((y'.1.2.L ++ (y'.1.1 ++ ap)).map (·.1)).Nodup :=
  Turns.of (Y := SY tS tR sb pool rs) (V := fun _ => x) (L' := fun y => y.1.2.L ++ (y.1.1 ++ ap)) ⟨⟨np, st'⟩, hrs⟩ hm hp

set_option maxRecDepth 10000 in set_option maxHeartbeats 4000000 in
theorem Create_calls {sb : Nat} {pool : Hp} (st : PSt sb pool) {ln wd nd : Int} {ks : List (List Nat)} (hH : HL ks) (hkl : ks.length ≤ 1000000) {kv : Value} (hk1 : kv.oneCell' = true) {ap : Hp} (hk : ∀ w, Has ap w → SrcW w 8 kv ks.length (u8s ks.flatten)) (h : Int) (w : World)
    (hw : Has (st.L ++ ap) w) (hnd : ((st.L ++ ap).map (·.1)).Nodup) :
    Turns Try.prog 11 [.pointer (some ⟨sb, 0, none⟩), .agg (prm ln wd nd kv).toArray, .int .i64 h] w (st.L ++ ap)
      (Y := CrY sb pool (createR st.rs (mayP ln wd nd ks) (rcNew ln wd nd ks h)).1)
      (fun _ => .tuple #[.int .i64 (createR st.rs (mayP ln wd nd ks) (rcNew ln wd nd ks h)).2.1, .int .i64 (createR st.rs (mayP ln wd nd ks) (rcNew ln wd nd ks h)).2.2]) (fun y => y.1.2.L ++ (y.1.1 ++ ap)) := by
  refine enter Try.func11 rfl (Mem.init (S0 := (st.L ++ ap).map (·.1)) hw (fun p hp => List.mem_map_of_mem hp) hnd) rfl ?_
  have hM := fun w' hs' => May_calls ln wd nd ks hH (by omega) kv w' hs'
  have hlr : st.rs.length = st.l.length := List.length_map _
  have hap : ∀ {w' : World} {L1 : Hp}, Mem w ((st.L ++ ap).map (·.1)) (L1 ++ (st.L ++ ap)) w' → Has ap w' := fun hm p hp => hm.has p (List.mem_append_right _ (List.mem_append_right _ hp))
  refine z_ ?_
  refine Run.nw nbx ?_
  intro b4
  refine z_ ?_
  refine Run.op1 (OpTo.cv Try.func31 (fun w' hm => hM w' (hk w' (hap (L1 := [_]) hm)))) (fun _ => ?_)
  cases hmay : mayP ln wd nd ks with
  | false =>
    rw [createR_bad]
    refine z_ ?_
    exact RQ.ret2 rfl (Res.tmp rfl) (Res.tmp rfl) fun w' hm => cr_of (Lr := [(b4, .cells (prm ln wd nd kv).toArray 31 (0, 0))]) [] st rfl hm (perm_of fun f => by (simp only [List.map_append, List.map_cons, List.map_nil, List.sum_append, List.sum_cons, List.sum_nil] <;> omega))
  | true =>
    obtain ⟨va, vc, hv, hvc⟩ := st.own.shape
    have hcells : st.L = (sb, .cells #[.slice va st.l.length vc] 76 (0, 0)) :: st.bb := by unfold StO.L; rw [hv]
    by_cases h8 : st.l.length < 8
    · rw [createR_ok _ (by omega), hlr]
      have hcop := fun w' h1 => copied_calls ⟨rcNew ln wd nd ks h, kv, .slice none 0 0, hk1, rfl⟩ hkl (Nat.zero_le _) w' h1
      have hown := st.own
      rw [hv] at hown
      rw [show (st.L ++ ap) = (sb, .cells #[.slice va st.l.length vc] 76 (0, 0)) :: (st.bb ++ ap) by rw [hcells]; rfl] at hap ⊢
      refine z_ ?_
      (repeat refine RC.seq ?_); refine RC.draw ([(b4, .cells (prm ln wd nd kv).toArray 31 (0, 0)), (sb, .cells #[.slice va st.l.length vc] 76 (0, 0))]) mixed (N := 14) rfl ?_
      refine dt 0 ?_
      refine dt 1 ?_
      refine dt 2 ?_
      refine dt 3 ?_
      refine dt 4 ?_
      refine dt 5 ?_
      refine dt 6 ?_
      refine DR.t 7 rfl (vbs (SX.c ⟨rcNew ln wd nd ks h, kv, .slice none 0 0, hk1, rfl⟩).toArray) ?_
      refine DR.c 8 (DOp.op1 rfl (OpTo.callD Try.func32 (fun w' hm => hcop w' ⟨hk w' (hap (L1 := [_]) hm), SrcW.nil⟩)) ?_)
      rintro ⟨⟨s2, bl⟩, hr2, hk2⟩
      dsimp only at hr2 hk2 ⊢
      have hl2 := s2.len
      refine DR.c 9 ?_
      refine DOp.op1 rfl (OpTo.new rfl rfl (nbsl s2.c.toArray (fillS_1 42 _ s2.c hl2))) ?_
      intro b31
      refine DR.c 10 (DOp.op1 rfl (OpTo.append (L1 := (b31, .cells s2.c.toArray 44 (0, 0)) :: (bl ++ ((b4, .cells (prm ln wd nd kv).toArray 31 (0, 0)) :: (sb, .cells #[.slice va st.l.length vc] 76 (0, 0)) :: ap))) tabOk hown (Src.at ⟨b31, 0, none⟩ 1 1 s2.c (by rw [hl2]; rfl) (Rd.rowAll m0)) rfl rfl rfl rfl rfl rfl rfl rfl rfl (perm_of fun f => by (simp only [List.map_append, List.map_cons, List.map_nil, List.sum_append, List.sum_cons, List.sum_nil] <;> omega)) s2.one (by unfold maxLen; omega) (by simp only [ti44]; omega)) ?_)
      rintro ⟨⟨v9, bl9⟩, hown9⟩
      dsimp only at hown9 ⊢
      obtain ⟨a9, c9, rfl, hc9⟩ := hown9.shape
      refine dt 11 ?_
      refine dt 12 ?_
      refine DR.c 13 (DOp.op1 rfl (os1 (arr := #[.slice va st.l.length vc]) (e := 76) (L' := bl9 ++ ((b31, .cells s2.c.toArray 44 (0, 0)) :: (bl ++ ((b4, .cells (prm ln wd nd kv).toArray 31 (0, 0)) :: ap)))) #[.slice a9 (st.l.length + 1) c9] (hL := (perm_of fun f => by (simp only [List.map_append, List.map_cons, List.map_nil, List.sum_append, List.sum_cons, List.sum_nil] <;> omega)))) (fun _ => ?_))
      refine DR.done (by kernel_rfl) (RQ.next ?_)
      refine z_ ?_
      refine RQ.ret2 rfl (Res.tmp rfl) (Res.tmp rfl) fun w' hm => ?_
      rw [show ((st.l.length + 1 : Nat) : Int) - 1 = (st.l.length : Int) from by omega]
      have hown' : Own 44 42 (.slice a9 (st.l.length + 1) c9) (st.l ++ [s2]).length (rws SX.c (st.l ++ [s2])) bl9 := by
        rw [rws_app, rws_one, List.length_append]; exact hown9
      have hnd' := hm.nd
      have hrs : (st.l ++ [s2]).map SX.r = st.rs ++ [rcNew ln wd nd ks h] := by rw [List.map_append, List.map_cons, hr2]; rfl
      refine cr_of (sb := sb) (pool := pool) (ap := ap) bl ⟨_, bl9, st.l ++ [s2], hown', ?_, by rw [List.length_append]; exact h8, ?_, ?_⟩ hrs hm (Lr := [(b31, .cells s2.c.toArray 44 (0, 0)), (b4, .cells (prm ln wd nd kv).toArray 31 (0, 0))]) (by unfold StO.L; exact (perm_of fun f => by (simp only [List.map_append, List.map_cons, List.map_nil, List.sum_append, List.sum_cons, List.sum_nil] <;> omega)))
      · rw [List.map_cons, List.map_append, ← List.cons_append] at hnd'
        exact (List.nodup_append.1 hnd').1
      · intro s hs
        rcases List.mem_append.1 hs with hs | hs
        · exact st.hk s hs
        · rw [List.mem_singleton] at hs; subst hs; rw [hr2]; exact ⟨hkl, Nat.zero_le _⟩
      · intro w hw s hs
        rcases List.mem_append.1 hs with hs | hs
        · exact st.kn w hw.right s hs
        · rw [List.mem_singleton] at hs; subst hs; exact hk2 w hw.left
    · rw [createR_full _ (by omega)]
      rw [show (st.L ++ ap) = (sb, .cells #[.slice va st.l.length vc] 76 (0, 0)) :: (st.bb ++ ap) by rw [hcells]; rfl]
      refine z_ ?_
      exact RQ.ret2 rfl (Res.tmp rfl) (Res.tmp rfl) fun w' hm => cr_of (Lr := [(b4, .cells (prm ln wd nd kv).toArray 31 (0, 0))]) [] st rfl hm (by rw [hcells]; exact (perm_of fun f => by (simp only [List.map_append, List.map_cons, List.map_nil, List.sum_append, List.sum_cons, List.sum_nil] <;> omega)))
end Go.Proofs.Ytnhnihkpacibgaa
