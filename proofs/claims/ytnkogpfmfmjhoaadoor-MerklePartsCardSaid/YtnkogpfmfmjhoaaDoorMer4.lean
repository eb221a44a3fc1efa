/- merkle's awake; MerkleMakes, MerkleChecks. -/
import Derived.Test.YtnkogpfmfmjhoaaDoorMerS
import Derived.Test.YtnkogpfmfmjhoaaDoorFin5
namespace Go.Sha
def hOne : List Nat := [1, 0, 0, 0, 0, 0, 0, 0]
def hTwo : List Nat := [2, 0, 0, 0, 0, 0, 0, 0]
def hThree : List Nat := [3, 0, 0, 0, 0, 0, 0, 0]
def hAll : List (List Nat) := [hOne, hTwo, hThree]
theorem hAll_HL : HL hAll := by
  intro h hh
  simp only [hAll, List.mem_cons, List.not_mem_nil, or_false] at hh
  rcases hh with rfl | rfl | rfl <;> decide
theorem cut_three : cut 3 = 2 := by kernel_rfl
theorem hAll_prove : mprove hAll 2 = [mroot [hOne, hTwo]] := by
  have h := mprove_right (l := hAll) (i := 2) (by decide) (by show cut 3 ≤ 2; rw [cut_three]; exact Nat.le_refl 2)
  rw [h, show hAll.length = 3 from rfl, cut_three, mprove_small (by decide)]
  rfl
theorem hAll_leads : leads (mroot hAll) hThree 2 3 [mroot [hOne, hTwo]] = true := by
  rw [← hAll_prove]
  exact mprove_leads hAll 2 hThree rfl
theorem rootOf_small {l : List (List Nat)} (h : l.length ≤ 65536) : rootOf l = mroot l := by unfold rootOf; rw [if_pos h]
/-- A piece of a row that has more behind. -/
theorem pc_rowR {c : Nat} {l : List Nat} {rest : List Go.Value} (i : Nat) : ∀ j u, (u8s (pc c l i))[j]? = some u → (u8s l ++ rest).toArray[i * c + j]? = some u := by
  intro j u hj
  have h := pc_row i j u hj
  rw [List.getElem?_toArray] at h
  rw [List.getElem?_toArray, List.getElem?_append_left (List.getElem?_eq_some_iff.1 h).1]
  exact h
theorem provN_HL (l : List (List Nat)) (z : Int) : HL (provN l z) := by
  unfold provN
  split
  · exact mprove_mem (fun h => h.length = 8 ∧ ∀ x ∈ h, x < 256) (fun l => ⟨mroot_len l, mroot_lt l⟩) _ l _ rfl
  · intro h hh; cases hh
theorem provN_le (l : List (List Nat)) (z : Int) : (provN l z).length ≤ l.length := by
  unfold provN
  split
  · rename_i h
    have h1 := of_decide_eq_true h
    rw [mprove_len _ l _ rfl (by omega)]
    exact turnsN_le _ _ _ rfl
  · exact Nat.zero_le _
end Go.Sha
namespace Go.Proofs.YtnkogpfmfmjhoaaDoor
open Go Go.Vc Go.Sha

/-- A hash of a row of the call's own. -/
theorem Own.hash {P : Program} {n : Nat} {w0 : World} {S0 : List Nat} {E : Env} {L : Hp} {e : TypeId} {l : List (List Nat)} {b : Nat} {rest : List Value} {k : Nat} {x : List Nat} (hH : HL l) (hx : l[k]? = some x)
    {o : Oper} {T : List (Nat × TI)} {t : Nat} {ti : TI} (hT : TabOk P T) {y : Operand} {off : Nat} {fz : Nat × Nat} (ho : o.op = .load t y) (ht : tiGet T t = some ti)
    (hy : lk E y = some (.pointer (some ⟨b, off, none⟩))) (ha : TypeDesc.agg ti.desc = true) (hm : (b, .cells (u8s l.flatten ++ rest).toArray e fz) ∈ L) (hoff : off = k * 8) (hs : ti.size = 8) : Val P n w0 S0 E L o (.agg (u8s x).toArray) := by
  subst hoff
  have hp := pc_flat hH hx
  have hx8 := hH x (List.mem_of_getElem? hx)
  have := @pc_rowR 8 l.flatten rest k
  rw [hp] at this
  exact Val.loadR hT ho ht hy ha (by rw [u8s_len, hx8.1, hs]) (Rd.row hm this)

theorem mer_awake_calls (w : World) (hK : Laid w) : Gives Tryd.prog 21 [] (.bool true) w := by
  refine enter Tryd.func21 rfl (Mem.nil w []) rfl ?_
  have hH := hAll_HL
  have hH2 : HL [hOne, hTwo] := hAll_HL.take 2
  have g2 : provN hAll 2 = [mroot [hOne, hTwo]] := by
    have h := (prov_good (l := hAll) (i := 2) (by decide) (by decide)).1
    rw [hAll_prove] at h
    exact h
  have g3 : provB hAll 2 = true := (prov_good (l := hAll) (i := 2) (by decide) (by decide)).2
  have hlead : checkM (mroot hAll) hThree 2 3 [mroot [hOne, hTwo]] = true := by rw [← hAll_leads]; exact chk_good (i := 2) (n := 3) (by decide) (by decide)
  have rl := mroot_len hAll
  have r2 := mroot_len [hOne, hTwo]
  have s2 := mroot_lt [hOne, hTwo]
  have e1 : rootOf hAll = mroot hAll := rootOf_small (by decide)
  have e2 : rootOf [hOne, hTwo] = mroot [hOne, hTwo] := rootOf_small (by decide)
  have hPH : HL [mroot [hOne, hTwo]] := by intro h hh; rw [List.mem_singleton] at hh; subst hh; exact ⟨r2, s2⟩
  have hR2 := Root_calls _ [hOne, hTwo] rfl hH2
  have hR3 := Root_calls _ hAll rfl hH
  have hP := Prove_calls _ hAll rfl hH 2
  have hC := fun v w' hs => Check_calls (mroot hAll) hThree [mroot [hOne, hTwo]] rl rfl (by decide) hPH 2 3 v w' hs (by decide)
  rw [g2, g3] at hP
  rw [e2] at hR2
  rw [e1] at hR3
  rw [hlead] at hC
  generalize mroot [hOne, hTwo] = m2 at *
  generalize mroot hAll = m3 at *
  (repeat refine RC.seq ?_); refine RC.region ?_
  refine Run.v rfl rfl rfl (Val.of rfl) ?_
  refine Run.nil (RQ.next ?_)
  (repeat refine RC.seq ?_); refine RC.region ?_
  refine Run.v rfl rfl rfl (Val.buildA tabOk (parts := [(0, .const (.int .u8 1))]) (cells := (u8s hOne).toArray) rfl rfl rfl rfl rfl rfl) ?_
  refine Run.v rfl rfl rfl (Val.buildA tabOk (parts := [(0, .const (.int .u8 2))]) (cells := (u8s hTwo).toArray) rfl rfl rfl rfl rfl rfl) ?_
  refine Run.v rfl rfl rfl (Val.buildA tabOk (parts := [(0, .const (.int .u8 3))]) (cells := (u8s hThree).toArray) rfl rfl rfl rfl rfl rfl) ?_
  refine Run.mk rfl rfl rfl (New.buildSlice tabOk (parts := [(0, .tmp 4), (1, .tmp 5), (2, .tmp 6)]) (cells := (u8s hAll.flatten).toArray) rfl rfl rfl rfl rfl rfl (fillS_full 8 3 _ [.agg (u8s hOne).toArray, .agg (u8s hTwo).toArray, .agg (u8s hThree).toArray] rfl (by simp [Value.cells, hOne, hTwo, hThree, u8s_len]))) ?_
  intro b7
  refine Run.v rfl rfl rfl (Val.of rfl) ?_
  refine Run.nil (RQ.next ?_)
  have hsl : ∀ w', Mem w [] [(b7, .cells (u8s hAll.flatten).toArray 23 (0, 0))] w' → SrcW w' 8 (.slice (some ⟨b7, 0, none⟩) 3 3) hAll.length (u8s hAll.flatten) := fun w' hm => SrcW.row hm m0 rfl (Nat.le_refl 3)
  (repeat refine RC.seq ?_); refine RC.region ?_
  refine Run.v rfl rfl rfl (Val.of rfl) ?_
  refine Run.op rfl (OpTo.callMk2 Tryd.func22 rfl rfl rfl rfl rfl rfl (fun w' hm => hP _ w' (hsl w' hm) (hK.fr hm.fr (by simp)))) ?_
  rintro ⟨⟨vp, blp⟩, hownp⟩
  dsimp only at hownp ⊢
  obtain ⟨bp, cap, rest, rfl, rfl, g1, g4, g5, g6⟩ := hownp.pos (show 0 < 1 from Nat.zero_lt_one)
  refine Run.v rfl rfl rfl (Val.of rfl) ?_
  refine Run.v rfl rfl rfl (Val.of rfl) ?_
  refine Run.v rfl rfl rfl (Val.of rfl) ?_
  refine Run.v rfl rfl rfl (Val.of rfl) ?_
  refine Run.v rfl rfl rfl (Val.of rfl) ?_
  refine Run.nil (RQ.next ?_)
  have hsl' : ∀ w', Mem w [] [(bp, .cells (u8s [m2].flatten ++ rest).toArray 23 (0, 0)), (b7, .cells (u8s hAll.flatten).toArray 23 (0, 0))] w' → SrcW w' 8 (.slice (some ⟨b7, 0, none⟩) 3 3) hAll.length (u8s hAll.flatten) := fun w' hm => SrcW.row hm m1 rfl (Nat.le_refl 3)
  have hsl2 : ∀ w', Mem w [] [(bp, .cells (u8s [m2].flatten ++ rest).toArray 23 (0, 0)), (b7, .cells (u8s hAll.flatten).toArray 23 (0, 0))] w' → SrcW w' 8 (.slice (some ⟨b7, 0, none⟩) 2 3) ([hOne, hTwo] : List (List Nat)).length (u8s ([hOne, hTwo] : List (List Nat)).flatten) := fun w' hm =>
    .at _ _ _ _ rfl (by decide) fun j u hj => Rd.row m1 (cs := u8s ([hOne, hTwo] : List (List Nat)).flatten) (fun j u hj => by
      have h9 : (u8s hAll.flatten)[j]? = some u := by
        rw [show u8s hAll.flatten = u8s ([hOne, hTwo] : List (List Nat)).flatten ++ u8s hThree from rfl, List.getElem?_append_left (List.getElem?_eq_some_iff.1 hj).1]
        exact hj
      rw [Nat.zero_add, List.getElem?_toArray]
      exact h9) w' hm j u hj
  (repeat refine RC.seq ?_); refine RC.drawS mixed (N := 25) rfl ?_
  refine DR.take 0 rfl (by repeat (first | exact List.nil_sublist _ | exact List.Sublist.refl _ | apply List.Sublist.cons_cons | apply List.Sublist.cons)) inferInstance (by kernel_rfl) (by kernel_rfl) (by kernel_rfl) (by kernel_rfl) rfl rfl (Wanted.plain rfl) (Val.of rfl) ?_
  refine DR.take 1 rfl (by repeat (first | exact List.nil_sublist _ | exact List.Sublist.refl _ | apply List.Sublist.cons_cons | apply List.Sublist.cons)) inferInstance (by kernel_rfl) (by kernel_rfl) (by kernel_rfl) (by kernel_rfl) rfl rfl (Wanted.plain rfl) (Val.of rfl) ?_
  refine DR.take 2 rfl (by repeat (first | exact List.nil_sublist _ | exact List.Sublist.refl _ | apply List.Sublist.cons_cons | apply List.Sublist.cons)) inferInstance (by kernel_rfl) (by kernel_rfl) (by kernel_rfl) (by kernel_rfl) rfl rfl (Wanted.guard rfl rfl rfl rfl) (Val.of rfl) ?_
  refine DR.take 3 rfl (by repeat (first | exact List.nil_sublist _ | exact List.Sublist.refl _ | apply List.Sublist.cons_cons | apply List.Sublist.cons)) inferInstance (by kernel_rfl) (by kernel_rfl) (by kernel_rfl) (by kernel_rfl) rfl rfl (Wanted.guard rfl rfl rfl rfl) (Val.len (len := 1) tabOk rfl rfl rfl rfl) ?_
  refine DR.take 4 rfl (by repeat (first | exact List.nil_sublist _ | exact List.Sublist.refl _ | apply List.Sublist.cons_cons | apply List.Sublist.cons)) inferInstance (by kernel_rfl) (by kernel_rfl) (by kernel_rfl) (by kernel_rfl) rfl rfl (Wanted.guard rfl rfl rfl rfl) (Val.eq (Val.of rfl) (show _ = Value.bool true from rfl)) ?_
  refine DR.take 5 rfl (by repeat (first | exact List.nil_sublist _ | exact List.Sublist.refl _ | apply List.Sublist.cons_cons | apply List.Sublist.cons)) inferInstance (by kernel_rfl) (by kernel_rfl) (by kernel_rfl) (by kernel_rfl) rfl rfl (Wanted.plain rfl) (Val.of rfl) ?_
  refine DR.take 6 rfl (by repeat (first | exact List.nil_sublist _ | exact List.Sublist.refl _ | apply List.Sublist.cons_cons | apply List.Sublist.cons)) inferInstance (by kernel_rfl) (by kernel_rfl) (by kernel_rfl) (by kernel_rfl) rfl rfl (Wanted.plain rfl) (Val.of rfl) ?_
  refine DR.take 7 rfl (by repeat (first | exact List.nil_sublist _ | exact List.Sublist.refl _ | apply List.Sublist.cons_cons | apply List.Sublist.cons)) inferInstance (by kernel_rfl) (by kernel_rfl) (by kernel_rfl) (by kernel_rfl) rfl rfl (Wanted.guard rfl rfl rfl rfl) (Val.of rfl) ?_
  refine DR.take 8 rfl (by repeat (first | exact List.nil_sublist _ | exact List.Sublist.refl _ | apply List.Sublist.cons_cons | apply List.Sublist.cons)) inferInstance (by kernel_rfl) (by kernel_rfl) (by kernel_rfl) (by kernel_rfl) rfl rfl (Wanted.guard rfl rfl rfl rfl) (Val.ixS tabOk 0 (ad' := ⟨bp, 0, none⟩) rfl rfl rfl rfl rfl rfl rfl (show 0 < 1 from Nat.zero_lt_one) rfl) ?_
  refine DR.take 9 rfl (by repeat (first | exact List.nil_sublist _ | exact List.Sublist.refl _ | apply List.Sublist.cons_cons | apply List.Sublist.cons)) inferInstance (by kernel_rfl) (by kernel_rfl) (by kernel_rfl) (by kernel_rfl) rfl rfl (Wanted.guard rfl rfl rfl rfl) (Own.hash (k := 0) (x := m2) hPH rfl tabOk rfl rfl rfl rfl m0 rfl rfl) ?_
  refine DR.take 10 rfl (by repeat (first | exact List.nil_sublist _ | exact List.Sublist.refl _ | apply List.Sublist.cons_cons | apply List.Sublist.cons)) inferInstance (by kernel_rfl) (by kernel_rfl) (by kernel_rfl) (by kernel_rfl) rfl rfl (Wanted.guard rfl rfl rfl rfl) (Val.of rfl) ?_
  refine DR.take 11 rfl (by repeat (first | exact List.nil_sublist _ | exact List.Sublist.refl _ | apply List.Sublist.cons_cons | apply List.Sublist.cons)) inferInstance (by kernel_rfl) (by kernel_rfl) (by kernel_rfl) (by kernel_rfl) rfl rfl (Wanted.guard rfl rfl rfl rfl) (Val.sliceS' tabOk 0 2 rfl rfl rfl rfl rfl (.inl ⟨rfl, rfl⟩) (.inr ⟨_, rfl, rfl⟩) (by decide) (by decide) (by decide) rfl) ?_
  refine DR.one (i := 12) (by kernel_rfl) ?_
  refine DOp.op rfl (Wanted.guard rfl rfl rfl rfl) (OpTo.callV Tryd.func24 rfl rfl rfl rfl rfl rfl (fun w' hm => hR2 _ w' (hsl2 w' hm) (hK.fr hm.fr (by simp)))) (.inl fun _ => by repeat (first | exact List.nil_sublist _ | exact List.Sublist.refl _ | apply List.Sublist.cons_cons | apply List.Sublist.cons)) (fun _ => ?_)
  refine DR.take 13 rfl (by repeat (first | exact List.nil_sublist _ | exact List.Sublist.refl _ | apply List.Sublist.cons_cons | apply List.Sublist.cons)) inferInstance (by kernel_rfl) (by kernel_rfl) (by kernel_rfl) (by kernel_rfl) rfl rfl (Wanted.guard rfl rfl rfl rfl) (Val.eq (Val.eqU (m := 8) (a := m2) (b := m2) tabOk rfl rfl rfl (by kernel_rfl) (by kernel_rfl) rfl rfl r2 r2) (show _ = Value.bool true from by simp)) ?_
  refine DR.take 14 rfl (by repeat (first | exact List.nil_sublist _ | exact List.Sublist.refl _ | apply List.Sublist.cons_cons | apply List.Sublist.cons)) inferInstance (by kernel_rfl) (by kernel_rfl) (by kernel_rfl) (by kernel_rfl) rfl rfl (Wanted.plain rfl) (Val.of rfl) ?_
  refine DR.take 15 rfl (by repeat (first | exact List.nil_sublist _ | exact List.Sublist.refl _ | apply List.Sublist.cons_cons | apply List.Sublist.cons)) inferInstance (by kernel_rfl) (by kernel_rfl) (by kernel_rfl) (by kernel_rfl) rfl rfl (Wanted.plain rfl) (Val.of rfl) ?_
  refine DR.take 16 rfl (by repeat (first | exact List.nil_sublist _ | exact List.Sublist.refl _ | apply List.Sublist.cons_cons | apply List.Sublist.cons)) inferInstance (by kernel_rfl) (by kernel_rfl) (by kernel_rfl) (by kernel_rfl) rfl rfl (Wanted.guard rfl rfl rfl rfl) (Val.of rfl) ?_
  refine DR.take 18 rfl (by repeat (first | exact List.nil_sublist _ | exact List.Sublist.refl _ | apply List.Sublist.cons_cons | apply List.Sublist.cons)) inferInstance (by kernel_rfl) (by kernel_rfl) (by kernel_rfl) (by kernel_rfl) rfl rfl (Wanted.guard rfl rfl rfl rfl) (Val.of rfl) ?_
  refine DR.take 19 rfl (by repeat (first | exact List.nil_sublist _ | exact List.Sublist.refl _ | apply List.Sublist.cons_cons | apply List.Sublist.cons)) inferInstance (by kernel_rfl) (by kernel_rfl) (by kernel_rfl) (by kernel_rfl) rfl rfl (Wanted.guard rfl rfl rfl rfl) (Val.ixS tabOk 2 (ad' := ⟨b7, 16, none⟩) rfl rfl rfl rfl rfl rfl rfl (by decide) rfl) ?_
  refine DR.take 20 rfl (by repeat (first | exact List.nil_sublist _ | exact List.Sublist.refl _ | apply List.Sublist.cons_cons | apply List.Sublist.cons)) inferInstance (by kernel_rfl) (by kernel_rfl) (by kernel_rfl) (by kernel_rfl) rfl rfl (Wanted.guard rfl rfl rfl rfl) (Val.eq (Val.loadPc tabOk 2 (c := 8) rfl rfl rfl rfl m1 rfl rfl rfl) (show _ = Value.agg (u8s hThree).toArray from rfl)) ?_
  refine DR.take 21 rfl (by repeat (first | exact List.nil_sublist _ | exact List.Sublist.refl _ | apply List.Sublist.cons_cons | apply List.Sublist.cons)) inferInstance (by kernel_rfl) (by kernel_rfl) (by kernel_rfl) (by kernel_rfl) rfl rfl (Wanted.guard rfl rfl rfl rfl) (Val.of rfl) ?_
  refine DR.one (i := 17) (by kernel_rfl) ?_
  refine DOp.op rfl (Wanted.guard rfl rfl rfl rfl) (OpTo.callV Tryd.func24 rfl rfl rfl rfl rfl rfl (fun w' hm => hR3 _ w' (hsl' w' hm) (hK.fr hm.fr (by simp)))) (.inl fun _ => by repeat (first | exact List.nil_sublist _ | exact List.Sublist.refl _ | apply List.Sublist.cons_cons | apply List.Sublist.cons)) (fun _ => ?_)
  refine DR.one (i := 22) (by kernel_rfl) ?_
  refine DOp.op rfl (Wanted.guard rfl rfl rfl rfl) (OpTo.callV Tryd.func26 rfl rfl rfl rfl rfl rfl (fun w' hm => hC _ w' (hownp.srcW (fun q hq => hm.has q (by rw [List.mem_singleton] at hq; subst hq; exact m0))) (hK.fr hm.fr (by simp)))) (.inl fun _ => by repeat (first | exact List.nil_sublist _ | exact List.Sublist.refl _ | apply List.Sublist.cons_cons | apply List.Sublist.cons)) (fun _ => ?_)
  refine DR.take 23 rfl (by repeat (first | exact List.nil_sublist _ | exact List.Sublist.refl _ | apply List.Sublist.cons_cons | apply List.Sublist.cons)) inferInstance (by kernel_rfl) (by kernel_rfl) (by kernel_rfl) (by kernel_rfl) rfl rfl (Wanted.plain rfl) (Val.of rfl) ?_
  refine DR.take 24 rfl (by repeat (first | exact List.nil_sublist _ | exact List.Sublist.refl _ | apply List.Sublist.cons_cons | apply List.Sublist.cons)) inferInstance (by kernel_rfl) (by kernel_rfl) (by kernel_rfl) (by kernel_rfl) rfl rfl (Wanted.plain rfl) (Val.of rfl) ?_
  refine DR.done (by kernel_rfl) (RQ.next ?_)
  refine RC.ret ?_; (repeat first | refine RQ.thenRet ?_ | refine RQ.blockRet ?_); exact RQ.ret1 rfl (Res.tmp rfl) fun w' hm => ⟨rfl, hm.fr⟩

theorem MerkleMakes_calls (l : List (List Nat)) (hH : HL l) (hll : l.length ≤ 9223372036854775807) (z : Int) (v : Value) (w : World) (hs : SrcW w 8 v l.length (u8s l.flatten)) (hK : Laid w) :
    Gives Tryd.prog 8 [v, .int .i64 z] (.bool true) w := by
  refine enter Tryd.func8 rfl (Mem.nil w []) rfl ?_
  obtain ⟨va, vc, hv, hvc⟩ := hs.shape
  have hrl := rootOf_len l
  (repeat refine RC.seq ?_); refine RC.region ?_
  refine Run.v rfl rfl rfl (Val.of rfl) ?_
  refine Run.nil (RQ.next ?_)
  (repeat refine RC.seq ?_); refine RC.region ?_
  refine Run.callV Tryd.func21 rfl rfl rfl rfl rfl rfl rfl (fun w' hm => mer_awake_calls w' (hK.fr hm.fr (by simp))) ?_
  refine Run.v rfl rfl rfl (Val.of rfl) ?_
  refine Run.nil (RQ.next ?_)
  (repeat refine RC.seq ?_); refine RC.condF rfl rfl (RC.skip (RQ.next ?_))
  (repeat refine RC.seq ?_); refine RC.region ?_
  refine Run.v rfl rfl rfl (Val.of rfl) ?_
  refine Run.v rfl rfl rfl (Val.len (len := l.length) tabOk rfl rfl rfl (by rw [hv]; rfl)) ?_
  refine Run.v rfl rfl rfl (Val.eq (Val.of rfl) (show _ = Value.bool (decide (200 < l.length)) from congrArg Value.bool (by rw [decide_eq_decide]; omega))) ?_
  refine Run.nil (RQ.next ?_)
  (repeat refine RC.seq ?_); refine RC.cond rfl (fun h => ?_) (fun h => ?_)
  · (repeat refine RC.seq ?_); refine RC.region ?_
    refine Run.v rfl rfl rfl (Val.of rfl) ?_
    refine Run.nil (RQ.next ?_)
    refine RC.ret ?_; (repeat first | refine RQ.thenRet ?_ | refine RQ.blockRet ?_); exact RQ.ret1 rfl (Res.tmp rfl) fun w' hm => ⟨rfl, hm.fr⟩
  have h2 := of_decide_eq_false h
  clear h
  refine RC.skip (RQ.next ?_)
  have hpH := provN_HL l z
  have hple := provN_le l z
  have hP := Prove_calls _ l rfl hH z
  have hQ := ref_Prove_calls _ l rfl hH z
  have hR := Root_calls _ l rfl hH
  have hS := ref_Root_calls _ l rfl hH
  generalize provN l z = pp at *
  generalize provB l z = pb at *
  generalize rootOf l = rt at *
  (repeat refine RC.seq ?_); refine RC.region ?_
  refine Run.v rfl rfl rfl (Val.of rfl) ?_
  refine Run.v rfl rfl rfl (Val.of rfl) ?_
  refine Run.op rfl (OpTo.callMk2 Tryd.func22 rfl rfl rfl rfl rfl rfl (fun w' hm => hP _ w' (hs.mem hm) (hK.fr hm.fr (by simp)))) ?_
  rintro ⟨⟨v5, bl5⟩, hown5⟩
  dsimp only at hown5 ⊢
  refine Run.v rfl rfl rfl (Val.of rfl) ?_
  refine Run.v rfl rfl rfl (Val.of rfl) ?_
  refine Run.v rfl rfl rfl (Val.of rfl) ?_
  refine Run.v rfl rfl rfl (Val.of rfl) ?_
  refine Run.v rfl rfl rfl (Val.of rfl) ?_
  refine Run.nil (RQ.next ?_)
  (repeat refine RC.seq ?_); refine RC.region ?_
  refine Run.v rfl rfl rfl (Val.of rfl) ?_
  refine Run.v rfl rfl rfl (Val.of rfl) ?_
  refine Run.op rfl (OpTo.callMk2 Tryd.func23 rfl rfl rfl rfl rfl rfl (fun w' hm => hQ _ w' (hs.mem hm))) ?_
  rintro ⟨⟨v7, bl7⟩, hown7⟩
  dsimp only at hown7 ⊢
  refine Run.v rfl rfl rfl (Val.of rfl) ?_
  refine Run.v rfl rfl rfl (Val.of rfl) ?_
  refine Run.v rfl rfl rfl (Val.of rfl) ?_
  refine Run.v rfl rfl rfl (Val.of rfl) ?_
  refine Run.v rfl rfl rfl (Val.of rfl) ?_
  refine Run.nil (RQ.next ?_)
  obtain ⟨a5, c5, hv5, hc5⟩ := hown5.shape
  obtain ⟨a7, c7, hv7, hc7⟩ := hown7.shape
  (repeat refine RC.seq ?_); refine RC.region ?_
  refine Run.v rfl rfl rfl (Val.of rfl) ?_
  refine Run.v rfl rfl rfl (Val.of rfl) ?_
  refine Run.v rfl rfl rfl (Val.eq (Val.neBool tabOk rfl rfl rfl rfl rfl) (show _ = Value.bool false from by cases pb <;> rfl)) ?_
  refine Run.v rfl rfl rfl (Val.of rfl) ?_
  refine Run.vG (Wanted.guard rfl rfl rfl rfl) rfl rfl (Val.of rfl) ?_
  refine Run.vG (Wanted.guard rfl rfl rfl rfl) rfl rfl (Val.len (len := pp.length) tabOk rfl rfl rfl (by rw [hv5]; rfl)) ?_
  refine Run.vG (Wanted.guard rfl rfl rfl rfl) rfl rfl (Val.of rfl) ?_
  refine Run.vG (Wanted.guard rfl rfl rfl rfl) rfl rfl (Val.len (len := pp.length) tabOk rfl rfl rfl (by rw [hv7]; rfl)) ?_
  refine Run.vG (Wanted.guard rfl rfl rfl rfl) rfl rfl (Val.eq (Val.of rfl) (show _ = Value.bool false from by simp)) ?_
  refine Run.v rfl rfl rfl (Val.of rfl) ?_
  refine Run.nil (RQ.next ?_)
  (repeat refine RC.seq ?_); refine RC.condF rfl rfl (RC.skip (RQ.next ?_))
  (repeat refine RC.seq ?_); refine RC.region ?_
  refine Run.v rfl rfl rfl (Val.of rfl) ?_
  refine Run.nil (RQ.next ?_)
  (repeat refine RC.seq ?_); refine RC.block ?_
  refine RC.up pp.length (D := Unit) (fun _ _ => True) (fun k _ => [(9, .int .i64 k), (5, v5), (7, v7), (0, v)]) (fun _ _ => bl7 ++ (bl5 ++ [])) 0 () (Nat.zero_le _) trivial ⟨rfl, rfl, rfl, rfl, trivial⟩ (List.Sublist.refl _) ?_
  intro k _ hk _
  (repeat refine RC.seq ?_); refine RC.region ?_
  refine Run.v rfl rfl rfl (Val.of rfl) ?_
  refine Run.v rfl rfl rfl (Val.of rfl) ?_
  refine Run.v rfl rfl rfl (Val.len (len := pp.length) tabOk rfl rfl rfl (by rw [hv5]; rfl)) ?_
  refine Run.v rfl rfl rfl (Val.of rfl) ?_
  refine Run.nil (RQ.next ?_)
  (repeat refine RC.seq ?_); refine RC.wh rfl (fun h => RQ.next ?_) (fun h => ?_)
  · have hk' : k < pp.length := by have := of_decide_eq_true h; omega
    clear h
    obtain ⟨x, hx⟩ : ∃ x, pp[k]? = some x := ⟨_, List.getElem?_eq_getElem hk'⟩
    have hx8 := hpH x (List.mem_of_getElem? hx)
    clear hv5 hv7 hc5 hc7
    obtain ⟨b5, cap5, rest5, rfl, rfl, g1, g2, g3, g4⟩ := hown5.pos (by omega)
    obtain ⟨b7, cap7, rest7, rfl, rfl, g1', g2', g3', g4'⟩ := hown7.pos (by omega)
    (repeat refine RC.seq ?_); refine RC.block ?_
    (repeat refine RC.seq ?_); refine RC.drawS mixed (N := 9) rfl ?_
    refine DR.take 0 rfl (by repeat (first | exact List.nil_sublist _ | exact List.Sublist.refl _ | apply List.Sublist.cons_cons | apply List.Sublist.cons)) inferInstance (by kernel_rfl) (by kernel_rfl) (by kernel_rfl) (by kernel_rfl) rfl rfl (Wanted.plain rfl) (Val.of rfl) ?_
    refine DR.take 1 rfl (by repeat (first | exact List.nil_sublist _ | exact List.Sublist.refl _ | apply List.Sublist.cons_cons | apply List.Sublist.cons)) inferInstance (by kernel_rfl) (by kernel_rfl) (by kernel_rfl) (by kernel_rfl) rfl rfl (Wanted.plain rfl) (Val.of rfl) ?_
    refine DR.take 2 rfl (by repeat (first | exact List.nil_sublist _ | exact List.Sublist.refl _ | apply List.Sublist.cons_cons | apply List.Sublist.cons)) inferInstance (by kernel_rfl) (by kernel_rfl) (by kernel_rfl) (by kernel_rfl) rfl rfl (Wanted.plain rfl) (Val.ixS tabOk k (ad' := ⟨b5, k * 8, none⟩) rfl rfl rfl rfl rfl rfl rfl hk' (by rw [add_lit]; simp [ti23])) ?_
    refine DR.take 3 rfl (by repeat (first | exact List.nil_sublist _ | exact List.Sublist.refl _ | apply List.Sublist.cons_cons | apply List.Sublist.cons)) inferInstance (by kernel_rfl) (by kernel_rfl) (by kernel_rfl) (by kernel_rfl) rfl rfl (Wanted.plain rfl) (Own.hash (k := k) (x := x) hpH hx tabOk rfl rfl rfl rfl (List.mem_cons_of_mem _ List.mem_cons_self) rfl rfl) ?_
    refine DR.take 4 rfl (by repeat (first | exact List.nil_sublist _ | exact List.Sublist.refl _ | apply List.Sublist.cons_cons | apply List.Sublist.cons)) inferInstance (by kernel_rfl) (by kernel_rfl) (by kernel_rfl) (by kernel_rfl) rfl rfl (Wanted.plain rfl) (Val.of rfl) ?_
    refine DR.take 5 rfl (by repeat (first | exact List.nil_sublist _ | exact List.Sublist.refl _ | apply List.Sublist.cons_cons | apply List.Sublist.cons)) inferInstance (by kernel_rfl) (by kernel_rfl) (by kernel_rfl) (by kernel_rfl) rfl rfl (Wanted.plain rfl) (Val.of rfl) ?_
    refine DR.take 6 rfl (by repeat (first | exact List.nil_sublist _ | exact List.Sublist.refl _ | apply List.Sublist.cons_cons | apply List.Sublist.cons)) inferInstance (by kernel_rfl) (by kernel_rfl) (by kernel_rfl) (by kernel_rfl) rfl rfl (Wanted.plain rfl) (Val.ixS tabOk k (ad' := ⟨b7, k * 8, none⟩) rfl rfl rfl rfl rfl rfl rfl hk' (by rw [add_lit]; simp [ti23])) ?_
    refine DR.take 7 rfl (by repeat (first | exact List.nil_sublist _ | exact List.Sublist.refl _ | apply List.Sublist.cons_cons | apply List.Sublist.cons)) inferInstance (by kernel_rfl) (by kernel_rfl) (by kernel_rfl) (by kernel_rfl) rfl rfl (Wanted.plain rfl) (Own.hash (k := k) (x := x) hpH hx tabOk rfl rfl rfl rfl List.mem_cons_self rfl rfl) ?_
    refine DR.take 8 rfl (by repeat (first | exact List.nil_sublist _ | exact List.Sublist.refl _ | apply List.Sublist.cons_cons | apply List.Sublist.cons)) inferInstance (by kernel_rfl) (by kernel_rfl) (by kernel_rfl) (by kernel_rfl) rfl rfl (Wanted.plain rfl) (Val.eq (Val.neU (m := 8) (a := x) (b := x) tabOk rfl rfl rfl (by kernel_rfl) (by kernel_rfl) rfl rfl hx8.1 hx8.1) (show _ = Value.bool false from by simp)) ?_
    refine DR.done (by kernel_rfl) (RQ.next ?_)
    (repeat refine RC.seq ?_); refine RC.condF rfl rfl (RC.skip (RQ.blockNormal (RQ.next ?_)))
    refine RC.region ?_
    repeat (first | refine Run.v rfl rfl rfl (Val.ar rfl rfl rfl rfl (by dsimp only [inK]; omega)) ?_ | refine Run.v rfl rfl rfl (Val.of rfl) ?_)
    exact Run.nil (RQ.up (k + 1) () (Nat.lt_succ_self _) hk' trivial ⟨rfl, rfl, rfl, rfl, trivial⟩ (List.Sublist.refl _))
  · (repeat refine RQ.thenExit ?_); refine RQ.blockHere ?_
    refine RQ.next ?_
    (repeat refine RC.seq ?_); refine RC.region ?_
    refine Run.v rfl rfl rfl (Val.of rfl) ?_
    refine Run.callV Tryd.func24 rfl rfl rfl rfl rfl rfl rfl (fun w' hm => hR _ w' (hs.mem hm) (hK.fr hm.fr (by simp))) ?_
    refine Run.v rfl rfl rfl (Val.of rfl) ?_
    refine Run.callV Tryd.func25 rfl rfl rfl rfl rfl rfl rfl (fun w' hm => hS _ w' (hs.mem hm)) ?_
    refine Run.v rfl rfl rfl (Val.eq (Val.eqU (m := 8) (a := rt) (b := rt) tabOk rfl rfl rfl (by kernel_rfl) (by kernel_rfl) rfl rfl hrl hrl) (show _ = Value.bool true from by simp)) ?_
    refine Run.v rfl rfl rfl (Val.of rfl) ?_
    refine Run.nil (RQ.next ?_)
    refine RC.ret ?_; (repeat first | refine RQ.thenRet ?_ | refine RQ.blockRet ?_); exact RQ.ret1 rfl (Res.tmp rfl) fun w' hm => ⟨rfl, hm.fr⟩

theorem MerkleChecks_calls (q : List Nat) (hq : q.length = 16) (hqlt : ∀ x ∈ q, x < 256) (zs : List Int) (hz : zs.length = 2) (ps : List (List Nat)) (hH : HL ps) (hll : ps.length ≤ 9223372036854775807) (v : Value) (w : World) (hs : SrcW w 8 v ps.length (u8s ps.flatten)) (hK : Laid w) :
    Gives Tryd.prog 10 [.agg (u8s q).toArray, .agg (i64s zs).toArray, v] (.bool true) w := by
  refine enter Tryd.func10 rfl (Mem.nil w []) rfl ?_
  obtain ⟨va, vc, hv, hvc⟩ := hs.shape
  obtain ⟨z0, z1, rfl⟩ : ∃ z0 z1, zs = [z0, z1] := by
    match zs, hz with
    | [z0, z1], _ => exact ⟨z0, z1, rfl⟩
  have p0 := pc_len (c := 8) (n := 2) hq (show 0 < 2 by decide)
  have p1' := pc_len (c := 8) (n := 2) hq (show 1 < 2 by decide)
  have q1 := pc_lt (c := 8) hqlt 1
  have hC := fun w' hs' => Check_calls (pc 8 q 0) (pc 8 q 1) ps p0 p1' q1 hH z0 z1 v w' hs' hll
  have hD := fun w' hs' => ref_CheckRow_calls (pc 8 q 0) (pc 8 q 1) ps p0 p1' q1 hH z0 z1 v w' hs' hll
  generalize checkM (pc 8 q 0) (pc 8 q 1) z0 z1 ps = ok at *
  (repeat refine RC.seq ?_); refine RC.region ?_
  refine Run.mk rfl rfl rfl (New.boxA rfl rfl) ?_
  intro b3
  refine Run.mk rfl rfl rfl (New.boxA rfl rfl) ?_
  intro b4
  refine Run.v rfl rfl rfl (Val.of rfl) ?_
  refine Run.nil (RQ.next ?_)
  (repeat refine RC.seq ?_); refine RC.region ?_
  refine Run.callV Tryd.func21 rfl rfl rfl rfl rfl rfl rfl (fun w' hm => mer_awake_calls w' (hK.fr hm.fr (by simp))) ?_
  refine Run.v rfl rfl rfl (Val.of rfl) ?_
  refine Run.nil (RQ.next ?_)
  (repeat refine RC.seq ?_); refine RC.condF rfl rfl (RC.skip (RQ.next ?_))
  (repeat refine RC.seq ?_); refine RC.region ?_
  refine Run.v rfl rfl rfl (Val.of rfl) ?_
  refine Run.v rfl rfl rfl (Val.len (len := ps.length) tabOk rfl rfl rfl (by rw [hv]; rfl)) ?_
  refine Run.v rfl rfl rfl (Val.of rfl) ?_
  refine Run.nil (RQ.next ?_)
  (repeat refine RC.seq ?_); refine RC.cond rfl (fun h => ?_) (fun h => ?_)
  · (repeat refine RC.seq ?_); refine RC.region ?_
    refine Run.v rfl rfl rfl (Val.of rfl) ?_
    refine Run.nil (RQ.next ?_)
    refine RC.ret ?_; (repeat first | refine RQ.thenRet ?_ | refine RQ.blockRet ?_); exact RQ.ret1 rfl (Res.tmp rfl) fun w' hm => ⟨rfl, hm.fr⟩
  clear h
  refine RC.skip (RQ.next ?_)
  (repeat refine RC.seq ?_); refine RC.drawS mixed (N := 22) rfl ?_
  refine DR.take 0 rfl (by repeat (first | exact List.nil_sublist _ | exact List.Sublist.refl _ | apply List.Sublist.cons_cons | apply List.Sublist.cons)) inferInstance (by kernel_rfl) (by kernel_rfl) (by kernel_rfl) (by kernel_rfl) rfl rfl (Wanted.plain rfl) (Val.ix tabOk 0 (off' := 0 * 8) rfl rfl rfl rfl rfl rfl rfl (by decide) rfl) ?_
  refine DR.take 1 rfl (by repeat (first | exact List.nil_sublist _ | exact List.Sublist.refl _ | apply List.Sublist.cons_cons | apply List.Sublist.cons)) inferInstance (by kernel_rfl) (by kernel_rfl) (by kernel_rfl) (by kernel_rfl) rfl rfl (Wanted.plain rfl) (Val.loadPc tabOk 0 (c := 8) rfl rfl rfl rfl (by repeat (first | exact List.mem_cons_self | apply List.mem_cons_of_mem | apply List.mem_append_right)) rfl rfl p0) ?_
  refine DR.take 2 rfl (by repeat (first | exact List.nil_sublist _ | exact List.Sublist.refl _ | apply List.Sublist.cons_cons | apply List.Sublist.cons)) inferInstance (by kernel_rfl) (by kernel_rfl) (by kernel_rfl) (by kernel_rfl) rfl rfl (Wanted.plain rfl) (Val.ix tabOk 1 (off' := 1 * 8) rfl rfl rfl rfl rfl rfl rfl (by decide) rfl) ?_
  refine DR.take 3 rfl (by repeat (first | exact List.nil_sublist _ | exact List.Sublist.refl _ | apply List.Sublist.cons_cons | apply List.Sublist.cons)) inferInstance (by kernel_rfl) (by kernel_rfl) (by kernel_rfl) (by kernel_rfl) rfl rfl (Wanted.plain rfl) (Val.loadPc tabOk 1 (c := 8) rfl rfl rfl rfl (by repeat (first | exact List.mem_cons_self | apply List.mem_cons_of_mem | apply List.mem_append_right)) rfl rfl p1') ?_
  refine DR.take 4 rfl (by repeat (first | exact List.nil_sublist _ | exact List.Sublist.refl _ | apply List.Sublist.cons_cons | apply List.Sublist.cons)) inferInstance (by kernel_rfl) (by kernel_rfl) (by kernel_rfl) (by kernel_rfl) rfl rfl (Wanted.plain rfl) (Val.ix tabOk 0 (off' := 0) rfl rfl rfl rfl rfl rfl rfl (by decide) rfl) ?_
  refine DR.take 5 rfl (by repeat (first | exact List.nil_sublist _ | exact List.Sublist.refl _ | apply List.Sublist.cons_cons | apply List.Sublist.cons)) inferInstance (by kernel_rfl) (by kernel_rfl) (by kernel_rfl) (by kernel_rfl) rfl rfl (Wanted.plain rfl) (Val.load (v := .int .i64 z0) tabOk rfl rfl rfl (by repeat (first | exact List.mem_cons_self | apply List.mem_cons_of_mem | apply List.mem_append_right)) rfl) ?_
  refine DR.take 6 rfl (by repeat (first | exact List.nil_sublist _ | exact List.Sublist.refl _ | apply List.Sublist.cons_cons | apply List.Sublist.cons)) inferInstance (by kernel_rfl) (by kernel_rfl) (by kernel_rfl) (by kernel_rfl) rfl rfl (Wanted.plain rfl) (Val.ix tabOk 1 (off' := 1) rfl rfl rfl rfl rfl rfl rfl (by decide) rfl) ?_
  refine DR.take 7 rfl (by repeat (first | exact List.nil_sublist _ | exact List.Sublist.refl _ | apply List.Sublist.cons_cons | apply List.Sublist.cons)) inferInstance (by kernel_rfl) (by kernel_rfl) (by kernel_rfl) (by kernel_rfl) rfl rfl (Wanted.plain rfl) (Val.load (v := .int .i64 z1) tabOk rfl rfl rfl (by repeat (first | exact List.mem_cons_self | apply List.mem_cons_of_mem | apply List.mem_append_right)) rfl) ?_
  refine DR.take 8 rfl (by repeat (first | exact List.nil_sublist _ | exact List.Sublist.refl _ | apply List.Sublist.cons_cons | apply List.Sublist.cons)) inferInstance (by kernel_rfl) (by kernel_rfl) (by kernel_rfl) (by kernel_rfl) rfl rfl (Wanted.plain rfl) (Val.of rfl) ?_
  refine DR.take 10 rfl (by repeat (first | exact List.nil_sublist _ | exact List.Sublist.refl _ | apply List.Sublist.cons_cons | apply List.Sublist.cons)) inferInstance (by kernel_rfl) (by kernel_rfl) (by kernel_rfl) (by kernel_rfl) rfl rfl (Wanted.plain rfl) (Val.ix tabOk 0 (off' := 0 * 8) rfl rfl rfl rfl rfl rfl rfl (by decide) rfl) ?_
  refine DR.take 11 rfl (by repeat (first | exact List.nil_sublist _ | exact List.Sublist.refl _ | apply List.Sublist.cons_cons | apply List.Sublist.cons)) inferInstance (by kernel_rfl) (by kernel_rfl) (by kernel_rfl) (by kernel_rfl) rfl rfl (Wanted.plain rfl) (Val.loadPc tabOk 0 (c := 8) rfl rfl rfl rfl (by repeat (first | exact List.mem_cons_self | apply List.mem_cons_of_mem | apply List.mem_append_right)) rfl rfl p0) ?_
  refine DR.take 12 rfl (by repeat (first | exact List.nil_sublist _ | exact List.Sublist.refl _ | apply List.Sublist.cons_cons | apply List.Sublist.cons)) inferInstance (by kernel_rfl) (by kernel_rfl) (by kernel_rfl) (by kernel_rfl) rfl rfl (Wanted.plain rfl) (Val.ix tabOk 1 (off' := 1 * 8) rfl rfl rfl rfl rfl rfl rfl (by decide) rfl) ?_
  refine DR.take 13 rfl (by repeat (first | exact List.nil_sublist _ | exact List.Sublist.refl _ | apply List.Sublist.cons_cons | apply List.Sublist.cons)) inferInstance (by kernel_rfl) (by kernel_rfl) (by kernel_rfl) (by kernel_rfl) rfl rfl (Wanted.plain rfl) (Val.loadPc tabOk 1 (c := 8) rfl rfl rfl rfl (by repeat (first | exact List.mem_cons_self | apply List.mem_cons_of_mem | apply List.mem_append_right)) rfl rfl p1') ?_
  refine DR.take 14 rfl (by repeat (first | exact List.nil_sublist _ | exact List.Sublist.refl _ | apply List.Sublist.cons_cons | apply List.Sublist.cons)) inferInstance (by kernel_rfl) (by kernel_rfl) (by kernel_rfl) (by kernel_rfl) rfl rfl (Wanted.plain rfl) (Val.ix tabOk 0 (off' := 0) rfl rfl rfl rfl rfl rfl rfl (by decide) rfl) ?_
  refine DR.take 15 rfl (by repeat (first | exact List.nil_sublist _ | exact List.Sublist.refl _ | apply List.Sublist.cons_cons | apply List.Sublist.cons)) inferInstance (by kernel_rfl) (by kernel_rfl) (by kernel_rfl) (by kernel_rfl) rfl rfl (Wanted.plain rfl) (Val.load (v := .int .i64 z0) tabOk rfl rfl rfl (by repeat (first | exact List.mem_cons_self | apply List.mem_cons_of_mem | apply List.mem_append_right)) rfl) ?_
  refine DR.take 16 rfl (by repeat (first | exact List.nil_sublist _ | exact List.Sublist.refl _ | apply List.Sublist.cons_cons | apply List.Sublist.cons)) inferInstance (by kernel_rfl) (by kernel_rfl) (by kernel_rfl) (by kernel_rfl) rfl rfl (Wanted.plain rfl) (Val.ix tabOk 1 (off' := 1) rfl rfl rfl rfl rfl rfl rfl (by decide) rfl) ?_
  refine DR.take 17 rfl (by repeat (first | exact List.nil_sublist _ | exact List.Sublist.refl _ | apply List.Sublist.cons_cons | apply List.Sublist.cons)) inferInstance (by kernel_rfl) (by kernel_rfl) (by kernel_rfl) (by kernel_rfl) rfl rfl (Wanted.plain rfl) (Val.load (v := .int .i64 z1) tabOk rfl rfl rfl (by repeat (first | exact List.mem_cons_self | apply List.mem_cons_of_mem | apply List.mem_append_right)) rfl) ?_
  refine DR.take 18 rfl (by repeat (first | exact List.nil_sublist _ | exact List.Sublist.refl _ | apply List.Sublist.cons_cons | apply List.Sublist.cons)) inferInstance (by kernel_rfl) (by kernel_rfl) (by kernel_rfl) (by kernel_rfl) rfl rfl (Wanted.plain rfl) (Val.of rfl) ?_
  refine DR.one (i := 9) (by kernel_rfl) ?_
  refine DOp.op rfl (Wanted.plain rfl) (OpTo.callV Tryd.func26 rfl rfl rfl rfl rfl rfl (fun w' hm => hC w' (hs.mem hm) (hK.fr hm.fr (by simp)))) (.inl fun _ => (by repeat (first | exact List.nil_sublist _ | exact List.Sublist.refl _ | apply List.Sublist.cons_cons | apply List.Sublist.cons))) (fun _ => ?_)
  refine DR.one (i := 19) (by kernel_rfl) ?_
  refine DOp.op rfl (Wanted.plain rfl) (OpTo.callV Tryd.func27 rfl rfl rfl rfl rfl rfl (fun w' hm => hD w' (hs.mem hm))) (.inl fun _ => (by repeat (first | exact List.nil_sublist _ | exact List.Sublist.refl _ | apply List.Sublist.cons_cons | apply List.Sublist.cons))) (fun _ => ?_)
  refine DR.take 20 rfl (by repeat (first | exact List.nil_sublist _ | exact List.Sublist.refl _ | apply List.Sublist.cons_cons | apply List.Sublist.cons)) inferInstance (by kernel_rfl) (by kernel_rfl) (by kernel_rfl) (by kernel_rfl) rfl rfl (Wanted.plain rfl) (Val.eq (Val.eqBool tabOk rfl rfl rfl rfl rfl) (show _ = Value.bool true from by simp)) ?_
  refine DR.take 21 rfl (by repeat (first | exact List.nil_sublist _ | exact List.Sublist.refl _ | apply List.Sublist.cons_cons | apply List.Sublist.cons)) inferInstance (by kernel_rfl) (by kernel_rfl) (by kernel_rfl) (by kernel_rfl) rfl rfl (Wanted.plain rfl) (Val.of rfl) ?_
  refine DR.done (by kernel_rfl) (RQ.next ?_)
  refine RC.ret ?_; (repeat first | refine RQ.thenRet ?_ | refine RQ.blockRet ?_); exact RQ.ret1 rfl (Res.tmp rfl) fun w' hm => ⟨rfl, hm.fr⟩
end Go.Proofs.YtnkogpfmfmjhoaaDoor
