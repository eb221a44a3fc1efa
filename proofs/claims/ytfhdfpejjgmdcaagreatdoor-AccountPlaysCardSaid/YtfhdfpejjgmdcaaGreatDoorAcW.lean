import Derived.Test.YtfhdfpejjgmdcaaGreatDoorAcU
import Derived.Test.YtfhdfpejjgmdcaaGreatDoorTraB
set_option linter.unusedSimpArgs false
set_option linter.unusedVariables false
/- account: Seed, Make. -/
namespace Go.Proofs.YtfhdfpejjgmdcaaGreatDoor
attribute [local irreducible] Go.Vc.Run Go.Vc.RC Go.Vc.RQ Go.Vc.DR Go.Vc.DOp
open Go Go.Vc Go.Sha
/-- A deed. -/
structure DyD where
  d : Int
  sd : Int
  ac : Int
  o : List Nat
  am : Int
  who : Int
  t : SxD
  be : Nat
  h8 : H8 o
  hb : be < 256
def dyC (d : Int) (f : List Value) (who : Int) (t : List Value) (be : Nat) : List Value := .int .i64 d :: (f ++ (.int .i64 who :: (t ++ [.int .u8 be])))
def DyD.c (x : DyD) : List Value := dyC x.d (fwC x.sd x.ac x.o x.am) x.who x.t.c x.be
theorem DyD.len (x : DyD) : x.c.length = 307 := by
  unfold DyD.c dyC
  simp only [List.length_cons, List.length_append, x.t.len, (fw_rd x.h8.1 x.sd x.ac x.am).2.2.2, List.length_nil]
theorem DyD.one (x : DyD) : ∀ u ∈ x.c, u.oneCell' = true := by
  intro u hu
  unfold DyD.c dyC at hu
  simp only [List.mem_cons, List.mem_append, List.not_mem_nil, or_false] at hu
  rcases hu with rfl | hu | rfl | hu | rfl
  · rfl
  · exact fw_one _ _ _ _ u hu
  · rfl
  · exact x.t.one u hu
  · rfl
theorem dy_rd (x : DyD) : x.c.toArray[0]? = some (.int .i64 x.d) ∧ (∀ (j : Nat) (u : Value), (fwC x.sd x.ac x.o x.am)[j]? = some u → x.c.toArray[1 + j]? = some u) ∧ x.c.toArray[12]? = some (.int .i64 x.who) ∧ (∀ (j : Nat) (u : Value), x.t.c[j]? = some u → x.c.toArray[13 + j]? = some u) ∧ x.c.toArray[306]? = some (.int .u8 x.be) := by
  have h1 := (fw_rd x.h8.1 x.sd x.ac x.am).2.2.2
  have h2 := x.t.len
  unfold DyD.c dyC
  refine ⟨rfl, fun j u hj => ?_, ?_, fun j u hj => ?_, ?_⟩
  · have := (List.getElem?_eq_some_iff.1 hj).1
    rw [List.getElem?_toArray, show 1 + j = j + 1 by omega, List.getElem?_cons_succ, List.getElem?_append_left this]
    exact hj
  · rw [List.getElem?_toArray, List.getElem?_cons_succ, List.getElem?_append_right (by omega), h1]; rfl
  · have := (List.getElem?_eq_some_iff.1 hj).1
    rw [List.getElem?_toArray, show 13 + j = 12 + j + 1 by omega, List.getElem?_cons_succ, List.getElem?_append_right (by omega), h1, show 12 + j - 11 = j + 1 by omega, List.getElem?_cons_succ, List.getElem?_append_left this]
    exact hj
  · rw [List.getElem?_toArray, List.getElem?_cons_succ, List.getElem?_append_right (by omega), h1, show 305 - 11 = 293 + 1 from rfl, List.getElem?_cons_succ, List.getElem?_append_right (by omega), h2]; rfl
def zer (n : Nat) : List Nat := List.replicate n 0
theorem zer_ok (n : Nat) : (zer n).length = n ∧ ∀ x ∈ zer n, x < 256 := ⟨List.length_replicate, fun x hx => by rw [(List.mem_replicate.1 hx).2]; decide⟩
/-- Without a signature. -/
def SxD.bare (t : SxD) (z : Int) : SxD := ⟨t.kd, t.fr, t.tt, t.ou, t.am, z, zer 128, zer 128, zer 24, t.h8, zer_ok 128, zer_ok 128, zer_ok 24⟩
def SxD.signed (t : SxD) (z : Int) (seed m : List Nat) : SxD :=
  if h : 0 ≤ z ∧ z < 8 then ⟨t.kd, t.fr, t.tt, t.ou, t.am, z, rowOf (opened seed z.toNat m) 16, rowOf (shutd seed z.toNat m) 16, (wayOf seed z.toNat).flatten, t.h8, ⟨rowOf_len (opened_len _ _ _) 16, rowOf_lt (opened_lt _ _ _) 16⟩, ⟨rowOf_len (shutd_len _ _ _) 16, rowOf_lt (shutd_lt _ _ _) 16⟩, ⟨wayOf_flat seed (by omega), (wayOf_HL seed z.toNat).flat_lt⟩⟩
  else t.bare z
theorem signed_c (t : SxD) (z : Int) (seed m : List Nat) : (sgB z = true → sxC t.kd t.fr t.tt t.ou t.am z (zer 128) (zer 128) (zer 24) = (t.bare z).c ∧ (t.signed z seed m).c = .int .i64 t.kd :: .int .i64 t.fr :: .int .i64 t.tt :: (u8s t.ou ++ (.int .i64 t.am :: sgN seed z m))) ∧ (sgB z = false → t.signed z seed m = t.bare z) := by
  unfold sgB
  constructor
  · intro h
    have h := of_decide_eq_true h
    refine ⟨rfl, ?_⟩
    unfold SxD.signed sgN
    rw [dif_pos h, if_pos h]
    unfold SxD.c sxC sgo
    dsimp only
    rw [Int.toNat_of_nonneg h.1]
  · intro h
    exact dif_neg (of_decide_eq_false h)
def sedV (n : Int) : List Nat := [118, (n % 4).toNat, 0, 0, 0, 0, 0, 0]
theorem sedV_8 (n : Int) : H8 (sedV n) := ⟨rfl, fun x hx => by
  unfold sedV at hx
  simp only [List.mem_cons, List.not_mem_nil, or_false] at hx
  omega⟩
def mkZ (s : LS) (x : DyD) : Int := noO (acGet x.t.fr s.acs) + if x.be = 2 then 1 else 0
def flip (m : List Nat) : List Nat := match m with
  | a :: r => (a ^^^ 1) :: r
  | [] => []
theorem flip_8 {m : List Nat} (h : H8 m) : H8 (flip m) := by
  obtain ⟨m0, m1, m2, m3, m4, m5, m6, m7, rfl⟩ := len8 h.1
  refine ⟨rfl, fun x hx => ?_⟩
  rcases List.mem_cons.1 hx with rfl | hx
  · exact Nat.xor_lt_two_pow (n := 8) (h.2 m0 List.mem_cons_self) (by decide)
  · exact h.2 x (List.mem_cons_of_mem _ hx)
def mkM (side : Int) (x : DyD) (z : Int) : List Nat := if x.be = 1 then flip (messX side (x.t.bare z)) else messX side (x.t.bare z)
theorem mkM_8 (side : Int) (x : DyD) (z : Int) : H8 (mkM side x z) := by
  unfold mkM
  split
  · exact flip_8 (messX_8 _ _)
  · exact messX_8 _ _
/-- The transaction of a deed, signed. -/
def mkT (s : LS) (side : Int) (x : DyD) : SxD := x.t.signed (mkZ s x) (sedV x.who) (mkM side x (mkZ s x))
theorem and3 (z : Int) (ib : Nat) (hz : z % 4 = (ib : Int)) : IntKind.wrap .i64 ((BitVec.ofInt IntKind.i64.bits z &&& BitVec.ofInt IntKind.i64.bits 3).toNat : Int) = (ib : Int) := by
  have e : (BitVec.ofInt 64 z &&& BitVec.ofInt 64 3).toNat = ib := by
    rw [BitVec.toNat_and, show (BitVec.ofInt 64 3).toNat = 2 ^ 2 - 1 from rfl, Nat.and_two_pow_sub_one_eq_mod, BitVec.toNat_ofInt]
    omega
  show IntKind.wrap .i64 (((BitVec.ofInt 64 z &&& BitVec.ofInt 64 3).toNat : Nat) : Int) = _
  rw [e]
  exact wrap_in (by dsimp only [inK]; omega)
theorem u8_xor1' : ∀ a : Fin 256, IntKind.wrap .u8 (BitVec.ofInt IntKind.u8.bits (a.val : Int) ^^^ BitVec.ofInt IntKind.u8.bits 1).toNat = ((a.val ^^^ 1 : Nat) : Int) := by decide +kernel
theorem u8_xor1 (a : Nat) (h : a < 256) : IntKind.wrap .u8 (BitVec.ofInt IntKind.u8.bits (a : Int) ^^^ BitVec.ofInt IntKind.u8.bits 1).toNat = ((a ^^^ 1 : Nat) : Int) := u8_xor1' ⟨a, h⟩
set_option maxRecDepth 10000 in set_option maxHeartbeats 4000000 in
theorem aSeed_calls (z : Int) (w : World) : Gives Tryz.prog 7 [.int .i64 z] (.agg (u8s (sedV z)).toArray) w := by
  refine enter Tryz.func7 rfl (Mem.nil w []) rfl ?_
  obtain ⟨ib, hib⟩ : ∃ ib : Nat, z % 4 = ib := ⟨(z % 4).toNat, by omega⟩
  have hA := and3 z ib hib
  have hlt : (ib : Int) < 4 := by omega
  have hw : IntKind.wrap .u8 (IntKind.wrap .i64 ((BitVec.ofInt IntKind.i64.bits z &&& BitVec.ofInt IntKind.i64.bits 3).toNat : Int)) = ib := by rw [hA]; exact wrap_in (by dsimp only [inK]; omega)
  have e : sedV z = [118, ib, 0, 0, 0, 0, 0, 0] := by unfold sedV; rw [hib]; rfl
  rw [e]
  refine z_ ?_
  refine Run.nw nal ?_
  intro b2
  refine Run.nil (RQ.next ?_)
  (repeat refine RC.seq ?_); refine RC.region ?_
  refine Run.a (Val.of rfl) ?_
  refine Run.a (Val.eq (Val.of rfl) (show _ = Value.int .i64 ib from congrArg (Value.int .i64) hA)) ?_
  refine Run.a (vci) ?_
  refine Run.a (vba (u8s [118, ib, 0, 0, 0, 0, 0, 0]).toArray) ?_
  refine Run.op1 (osa (u8s [118, ib, 0, 0, 0, 0, 0, 0]).toArray (u8s_one _)) (fun _ => ?_)
  refine z_ ?_
  exact RQ.ret1 rfl (Res.cellAll tabOk rfl rfl rfl m0 rfl) fun w' hm => ⟨rfl, hm.fr⟩
/-- The signature is written; its number. -/
theorem sx_ws {kd fr tt am z z' : Int} {ou op sh pa op' sh' pa' : List Nat} (ho : ou.length = 8) (h : (sigC z op sh pa).length = (sigC z' op' sh' pa').length) : wrAt (sxC kd fr tt ou am z op sh pa).toArray 12 (sigC z' op' sh' pa') = (sxC kd fr tt ou am z' op' sh' pa').toArray := by
  have := wr_mid' (.int .i64 kd :: .int .i64 fr :: .int .i64 tt :: (u8s ou ++ [.int .i64 am])) (sigC z op sh pa) (sigC z' op' sh' pa') [] h 12 (by simp only [List.length_cons, List.length_append, u8s_len, ho, List.length_nil])
  unfold sxC
  simpa using this
theorem sx_wn {kd fr tt am z : Int} {ou : List Nat} {R : List Value} (ho : ou.length = 8) (h : R.length = 281) : wrAt (sxC kd fr tt ou am z (zer 128) (zer 128) (zer 24)).toArray 12 R = (.int .i64 kd :: .int .i64 fr :: .int .i64 tt :: (u8s ou ++ (.int .i64 am :: R))).toArray := by
  have := wr_mid' (.int .i64 kd :: .int .i64 fr :: .int .i64 tt :: (u8s ou ++ [.int .i64 am])) (sigC z (zer 128) (zer 128) (zer 24)) R [] (by rw [h, sigC_len (zer_ok 128).1 (zer_ok 128).1 (zer_ok 24).1]) 12 (by simp only [List.length_cons, List.length_append, u8s_len, ho, List.length_nil])
  unfold sxC
  simpa using this
theorem sx_wz {kd fr tt am z z' : Int} {ou op sh pa : List Nat} (ho : ou.length = 8) : wrAt (sxC kd fr tt ou am z op sh pa).toArray 12 [.int .i64 z'] = (sxC kd fr tt ou am z' op sh pa).toArray := by
  have := wr_mid' (.int .i64 kd :: .int .i64 fr :: .int .i64 tt :: (u8s ou ++ [.int .i64 am])) [.int .i64 z] [.int .i64 z'] (u8s op ++ (u8s sh ++ u8s pa)) rfl 12 (by simp only [List.length_cons, List.length_append, u8s_len, ho, List.length_nil])
  unfold sxC sigC
  simpa using this
theorem sx_z {kd fr tt am z : Int} {ou op sh pa : List Nat} (ho : ou.length = 8) : rdAt ti3 (sxC kd fr tt ou am z op sh pa).toArray 12 = some (.int .i64 z) := by
  obtain ⟨o0, o1, o2, o3, o4, o5, o6, o7, rfl⟩ := len8 ho
  rfl
theorem sgz_zer : sgz = sigC 0 (zer 128) (zer 128) (zer 24) := rfl
set_option maxRecDepth 10000 in set_option maxHeartbeats 4000000 in
theorem aMake_calls {rb : Nat} (y : RlP rb) (side : Int) (x : DyD) (w : World) (hw : Has y.L w) :
    Gives Tryz.prog 10 [.agg x.c.toArray, .int .i64 side, .pointer (some ⟨rb, 0, none⟩)] (.agg (mkT y.s side x).c.toArray) w := by
  refine enter Tryz.func10 rfl (Mem.nil w []) rfl ?_
  obtain ⟨q0, qf, qw, qt, qb⟩ := dy_rd x
  have hxl : x.c.toArray.size = 307 := x.len
  have ht8 := x.t.h8.1
  have htl := x.t.len
  have hto := x.t.one
  have hfr := (sx_rd x.t).2.1
  have hsz : x.t.c.toArray.size = 293 := x.t.len
  have cg := fun w' hw' => RGet_calls y x.t.fr w' hw'
  have hno : 0 ≤ noO (acGet x.t.fr y.s.acs) ∧ noO (acGet x.t.fr y.s.acs) ≤ 8 := by
    cases h : acGet x.t.fr y.s.acs with
    | none => exact ⟨Int.le_refl _, by show (0 : Int) ≤ 8; decide⟩
    | some a => exact y.ok.no _ (acGet_in h)
  have sA := acCells_len (acGet x.t.fr y.s.acs)
  have oA := acCells_one (acGet x.t.fr y.s.acs)
  obtain ⟨z1, hz1⟩ : ∃ z1, z1 = noO (acGet x.t.fr y.s.acs) := ⟨_, rfl⟩
  obtain ⟨z2, hz2⟩ : ∃ z2, z2 = mkZ y.s x := ⟨_, rfl⟩
  have hz12 : z2 = z1 + if x.be = 2 then 1 else 0 := by rw [hz2, hz1]; rfl
  rw [← hz1] at hno
  have hA9 : (acGet x.t.fr y.s.acs).isSome = true → rdAt ti3 (acCells (acGet x.t.fr y.s.acs)).toArray 9 = some (.int .i64 z1) := fun _ => by
    rw [hz1, acO, (ac_rd (owO_8 _).1 _ _).2]
  have hA0 : (acGet x.t.fr y.s.acs).isSome = false → z1 = 0 := fun h => by
    rw [hz1]
    cases hg : acGet x.t.fr y.s.acs with
    | none => rfl
    | some a => rw [hg] at h; cases h
  have hres : mkT y.s side x = x.t.signed z2 (sedV x.who) (mkM side x z2) := by rw [hz2]; rfl
  rw [hres]
  clear hres hz1 hz2
  generalize (acGet x.t.fr y.s.acs).isSome = ok at cg hA9 hA0
  generalize acCells (acGet x.t.fr y.s.acs) = AC at cg hA9 sA oA
  generalize x.c = D at q0 qf qw qt qb hxl
  have hrt : ∀ {S0 : List Nat} {L : Hp} {b : Nat}, (b, Obj.cells D.toArray 43 (0, 0)) ∈ L → Rd w S0 L ⟨b, 13, none⟩ x.t.c := fun hm => Rd.row hm qt
  obtain ⟨sc1, sc2⟩ := signed_c x.t z2 (sedV x.who) (mkM side x z2)
  have cm := fun w' => RMess_calls side (x.t.bare z2) w'
  have hM8 := messX_8 side (x.t.bare z2)
  have hmk : mkM side x z2 = if x.be = 1 then flip (messX side (x.t.bare z2)) else messX side (x.t.bare z2) := rfl
  have hmk8 := mkM_8 side x z2
  have cs := fun w' => SignTree_calls (sedV x.who) (mkM side x z2) (sedV_8 x.who).1 (sedV_8 x.who).2 hmk8.1 hmk8.2 z2 w'
  have sG := sgN_len (sedV x.who) (mkM side x z2) z2
  have oG : ∀ u ∈ sgN (sedV x.who) z2 (mkM side x z2), u.oneCell' = true := by
    unfold sgN
    split
    · exact sigC_one
    · exact sigC_one
  have hseed := fun w' => aSeed_calls x.who w'
  have sS : (u8s (sedV x.who)).toArray.size = 8 := rfl
  generalize sgN (sedV x.who) z2 (mkM side x z2) = G at cs sG oG sc1
  generalize sedV x.who = seed at cs hseed sS sc1 sc2 ⊢
  generalize mkM side x z2 = MM at cs hmk hmk8 sc1 sc2 ⊢
  generalize messX side (x.t.bare z2) = M at cm hM8 hmk
  generalize decide (mokX side (x.t.bare z2)) = mok at cm
  have hbl := (x.t.bare z2).len
  have hbo := (x.t.bare z2).one
  have hsgl := (x.t.signed z2 seed MM).len
  have hsgo := (x.t.signed z2 seed MM).one
  have hbare : (x.t.bare z2).c = sxC x.t.kd x.t.fr x.t.tt x.t.ou x.t.am z2 (zer 128) (zer 128) (zer 24) := rfl
  generalize (x.t.bare z2).c = BC at cm hbl hbo hbare sc1
  have hsb : sgB z2 = false → (x.t.signed z2 seed MM).c = BC := fun h => by rw [sc2 h, hbare]; rfl
  have hsy : sgB z2 = true → (x.t.signed z2 seed MM).c = .int .i64 x.t.kd :: .int .i64 x.t.fr :: .int .i64 x.t.tt :: (u8s x.t.ou ++ (.int .i64 x.t.am :: G)) := fun h => (sc1 h).2
  clear sc1 sc2
  generalize (x.t.signed z2 seed MM).c = FC at hsgl hsgo hsb hsy ⊢
  refine z_ ?_
  refine Run.nw nbx ?_
  intro b3
  refine Run.nw nal ?_
  intro b6
  refine z_ ?_
  refine Run.a (Val.loadR tabOk (cs := x.t.c) rfl rfl rfl rfl htl (hrt (by repeat (first | exact List.mem_cons_self | apply List.mem_cons_of_mem | apply List.mem_append_right)))) ?_
  refine Run.nw nal ?_
  intro b7
  refine Run.op1 (osa (L' := (b6, Obj.cells ti41.zero.cells 41 (0, 0)) :: (b3, Obj.cells D.toArray 43 (0, 0)) :: []) x.t.c.toArray hto (hs := hsz) (hf := by kernel_rfl)) (fun _ => ?_)
  refine z_ ?_
  refine Run.op1 (OpTo.cv Tryz.func38 (fun w' hm => cg w' (fun q hq => hm.old (hw q hq)))) (fun _ => ?_)
  refine z_ ?_
  refine Run.nw nal ?_
  intro b8
  refine Run.op1 (osa (L' := (b7, Obj.cells x.t.c.toArray 41 (0, 0)) :: (b6, Obj.cells ti41.zero.cells 41 (0, 0)) :: (b3, Obj.cells D.toArray 43 (0, 0)) :: []) AC.toArray oA (hs := sA) (hf := by kernel_rfl)) (fun _ => ?_)
  refine z_ ?_
  refine Run.a (vbs sgz.toArray) ?_
  refine z_ ?_
  rw [show x.t.c = sxC x.t.kd x.t.fr x.t.tt x.t.ou x.t.am x.t.z x.t.op x.t.sh x.t.pa from rfl]
  refine Run.op1 (ost (ti := ti39) (off := 12) (v := .agg sgz.toArray) (L' := (b8, Obj.cells AC.toArray 79 (0, 0)) :: (b6, Obj.cells ti41.zero.cells 41 (0, 0)) :: (b3, Obj.cells D.toArray 43 (0, 0)) :: []) (arr := (sxC x.t.kd x.t.fr x.t.tt x.t.ou x.t.am x.t.z x.t.op x.t.sh x.t.pa).toArray) (e := 41) (sxC x.t.kd x.t.fr x.t.tt x.t.ou x.t.am 0 (zer 128) (zer 128) (zer 24)).toArray (by simp only [Value.cells]; rw [sgz_zer]; exact sx_ws ht8 (by rw [sigC_len x.t.h1.1 x.t.h2.1 x.t.h3.1, sigC_len (zer_ok 128).1 (zer_ok 128).1 (zer_ok 24).1])) (by show 12 + 281 ≤ _; rw [show (sxC x.t.kd x.t.fr x.t.tt x.t.ou x.t.am x.t.z x.t.op x.t.sh x.t.pa).toArray.size = 293 from x.t.len]; decide) (fun u hu => sigC_one u (by simpa [Value.cells, sgz] using hu)) (hL := (perm_of fun f => by (simp only [List.map_append, List.map_cons, List.map_nil, List.sum_append, List.sum_cons, List.sum_nil] <;> omega))) (hs := by exact sgz_len)) (fun _ => ?_)
  have sX : ∀ z, (sxC x.t.kd x.t.fr x.t.tt x.t.ou x.t.am z (zer 128) (zer 128) (zer 24)).toArray.size = 293 := fun z => (x.t.bare z).len
  refine Run.nil (RQ.next ?_)
  refine RC.seq ?_
  refine z_ ?_
  refine RC.thenCut (Y := Unit) (fun _ => [(8, .pointer (some ⟨b8, 0, none⟩)), (7, .pointer (some ⟨b7, 0, none⟩)), (6, .pointer (some ⟨b6, 0, none⟩)), (3, .pointer (some ⟨b3, 0, none⟩)), (2, .pointer (some ⟨rb, 0, none⟩)), (1, .int .i64 side)]) (fun _ => (b7, Obj.cells (sxC x.t.kd x.t.fr x.t.tt x.t.ou x.t.am z1 (zer 128) (zer 128) (zer 24)).toArray 41 (0, 0)) :: (b8, Obj.cells AC.toArray 79 (0, 0)) :: (b6, Obj.cells ti41.zero.cells 41 (0, 0)) :: (b3, Obj.cells D.toArray 43 (0, 0)) :: []) ?_ (fun _ => ?_)
  · cases hok : ok with
    | false =>
      rw [hA0 hok]
      refine z_ ?_
      exact RQ.toP () ⟨rfl, rfl, rfl, rfl, rfl, rfl, trivial⟩ (List.Perm.refl _) (List.Sublist.refl _)
    | true =>
      refine z_ ?_
      refine Run.a (vl (.int .i64 z1) (arr := AC.toArray) (hm := (by repeat (first | exact List.mem_cons_self | apply List.mem_cons_of_mem | apply List.mem_append_right))) (hv := hA9 hok)) ?_
      refine z_ ?_
      refine Run.op1 (os1 (off := 12) (v := .int .i64 z1) (arr := (sxC x.t.kd x.t.fr x.t.tt x.t.ou x.t.am 0 (zer 128) (zer 128) (zer 24)).toArray) (e := 41) (L' := (b8, Obj.cells AC.toArray 79 (0, 0)) :: (b6, Obj.cells ti41.zero.cells 41 (0, 0)) :: (b3, Obj.cells D.toArray 43 (0, 0)) :: []) (sxC x.t.kd x.t.fr x.t.tt x.t.ou x.t.am z1 (zer 128) (zer 128) (zer 24)).toArray (he := sx_wz ht8) (hf := by rw [sX]; decide)) (fun _ => ?_)
      refine z_ ?_
      exact RQ.toP () ⟨rfl, rfl, rfl, rfl, rfl, rfl, trivial⟩ (List.Perm.refl _) (List.Sublist.refl _)
  refine RC.seq ?_
  refine RC.thenCut (Y := Unit) (fun _ => [(8, .pointer (some ⟨b8, 0, none⟩)), (7, .pointer (some ⟨b7, 0, none⟩)), (6, .pointer (some ⟨b6, 0, none⟩)), (3, .pointer (some ⟨b3, 0, none⟩)), (2, .pointer (some ⟨rb, 0, none⟩)), (1, .int .i64 side)]) (fun _ => (b7, Obj.cells (sxC x.t.kd x.t.fr x.t.tt x.t.ou x.t.am z2 (zer 128) (zer 128) (zer 24)).toArray 41 (0, 0)) :: (b8, Obj.cells AC.toArray 79 (0, 0)) :: (b6, Obj.cells ti41.zero.cells 41 (0, 0)) :: (b3, Obj.cells D.toArray 43 (0, 0)) :: []) ?_ (fun _ => ?_)
  · refine z_ ?_
    refine Run.a (vl (.int .u8 x.be) (arr := D.toArray) (hm := (by repeat (first | exact List.mem_cons_self | apply List.mem_cons_of_mem | apply List.mem_append_right))) (hv := by exact qb)) ?_
    by_cases hb2 : x.be = 2
    · rw [if_pos hb2] at hz12
      refine z_ ?_
      refine Run.a (vl (.int .i64 z1) (arr := (sxC x.t.kd x.t.fr x.t.tt x.t.ou x.t.am z1 (zer 128) (zer 128) (zer 24)).toArray) (hm := (by repeat (first | exact List.mem_cons_self | apply List.mem_cons_of_mem | apply List.mem_append_right))) (hv := sx_z ht8)) ?_
      refine z_ ?_
      refine Run.op1 (os1 (off := 12) (v := .int .i64 (z1 + 1)) (arr := (sxC x.t.kd x.t.fr x.t.tt x.t.ou x.t.am z1 (zer 128) (zer 128) (zer 24)).toArray) (e := 41) (L' := (b8, Obj.cells AC.toArray 79 (0, 0)) :: (b6, Obj.cells ti41.zero.cells 41 (0, 0)) :: (b3, Obj.cells D.toArray 43 (0, 0)) :: []) (sxC x.t.kd x.t.fr x.t.tt x.t.ou x.t.am z2 (zer 128) (zer 128) (zer 24)).toArray (he := by rw [hz12]; exact sx_wz ht8) (hf := by rw [sX]; decide)) (fun _ => ?_)
      refine z_ ?_
      exact RQ.toP () ⟨rfl, rfl, rfl, rfl, rfl, rfl, trivial⟩ (List.Perm.refl _) (List.Sublist.refl _)
    · rw [if_neg hb2, Int.add_zero] at hz12
      rw [hz12]
      refine z_ ?_
      exact RQ.toP () ⟨rfl, rfl, rfl, rfl, rfl, rfl, trivial⟩ (List.Perm.refl _) (List.Sublist.refl _)
  have hz5 : rdAt ti3 BC.toArray 12 = some (.int .i64 z2) := by rw [hbare]; exact sx_z ht8
  rw [← hbare]
  refine z_ ?_
  refine Run.a (vla (arr := BC.toArray) (hv := hbl)) ?_
  refine Run.op1 (OpTo.cv Tryz.func12 (fun w' _ => cm w')) (fun _ => ?_)
  refine z_ ?_
  refine Run.nw nal ?_
  intro b10
  refine Run.op1 (osa (L' := (b7, Obj.cells BC.toArray 41 (0, 0)) :: (b8, Obj.cells AC.toArray 79 (0, 0)) :: (b6, Obj.cells ti41.zero.cells 41 (0, 0)) :: (b3, Obj.cells D.toArray 43 (0, 0)) :: []) (u8s M).toArray (u8s_one _) (hs := by rw [List.size_toArray, u8s_len, hM8.1]; rfl) (hf := by kernel_rfl)) (fun _ => ?_)
  refine Run.a (Val.of rfl) ?_
  refine Run.nil (RQ.next ?_)
  refine RC.seq ?_
  refine RC.thenCut (Y := Unit) (fun _ => [(10, .pointer (some ⟨b10, 0, none⟩)), (8, .pointer (some ⟨b8, 0, none⟩)), (7, .pointer (some ⟨b7, 0, none⟩)), (6, .pointer (some ⟨b6, 0, none⟩)), (3, .pointer (some ⟨b3, 0, none⟩)), (2, .pointer (some ⟨rb, 0, none⟩)), (1, .int .i64 side)]) (fun _ => (b10, Obj.cells (u8s MM).toArray 33 (0, 0)) :: (b7, Obj.cells BC.toArray 41 (0, 0)) :: (b8, Obj.cells AC.toArray 79 (0, 0)) :: (b6, Obj.cells ti41.zero.cells 41 (0, 0)) :: (b3, Obj.cells D.toArray 43 (0, 0)) :: []) ?_ (fun _ => ?_)
  · refine z_ ?_
    refine Run.a (vl (.int .u8 x.be) (arr := D.toArray) (hm := (by repeat (first | exact List.mem_cons_self | apply List.mem_cons_of_mem | apply List.mem_append_right))) (hv := by exact qb)) ?_
    by_cases hb1 : x.be = 1
    · rw [if_pos hb1] at hmk
      have hM8' := hM8.1
      obtain ⟨m0, m1, m2, m3, m4, m5, m6, m7, rfl⟩ := len8 hM8'
      rw [hmk]
      refine z_ ?_
      refine Run.a (via 0 0) ?_
      refine Run.a (vl (.int .u8 m0) (arr := (u8s [m0, m1, m2, m3, m4, m5, m6, m7]).toArray) (hm := List.mem_cons_self)) ?_
      refine Run.a (Val.eq (Val.of rfl) (show _ = Value.int .u8 ((m0 ^^^ 1 : Nat) : Int) from congrArg (Value.int .u8) (u8_xor1 m0 (hM8.2 m0 List.mem_cons_self)))) ?_
      refine Run.a (via 0 0) ?_
      refine Run.op1 (os1 (off := 0) (v := .int .u8 ((m0 ^^^ 1 : Nat) : Int)) (arr := (u8s [m0, m1, m2, m3, m4, m5, m6, m7]).toArray) (e := 33) (L' := (b7, Obj.cells BC.toArray 41 (0, 0)) :: (b8, Obj.cells AC.toArray 79 (0, 0)) :: (b6, Obj.cells ti41.zero.cells 41 (0, 0)) :: (b3, Obj.cells D.toArray 43 (0, 0)) :: []) (u8s (flip [m0, m1, m2, m3, m4, m5, m6, m7])).toArray) (fun _ => ?_)
      refine z_ ?_
      exact RQ.toP () ⟨rfl, rfl, rfl, rfl, rfl, rfl, rfl, trivial⟩ (List.Perm.refl _) (List.Sublist.refl _)
    · rw [if_neg hb1] at hmk
      rw [hmk]
      refine z_ ?_
      exact RQ.toP () ⟨rfl, rfl, rfl, rfl, rfl, rfl, rfl, trivial⟩ (List.Perm.refl _) (List.Sublist.refl _)
  refine RC.seq ?_
  have sMM : (u8s MM).toArray.size = 8 := by rw [List.size_toArray, u8s_len, hmk8.1]
  refine RC.thenCut (Y := Nat) (fun b12 => [(13, .bool (sgB z2)), (12, .pointer (some ⟨b12, 0, none⟩)), (10, .pointer (some ⟨b10, 0, none⟩)), (8, .pointer (some ⟨b8, 0, none⟩)), (7, .pointer (some ⟨b7, 0, none⟩)), (6, .pointer (some ⟨b6, 0, none⟩)), (3, .pointer (some ⟨b3, 0, none⟩)), (2, .pointer (some ⟨rb, 0, none⟩)), (1, .int .i64 side)]) (fun b12 => (b12, Obj.cells G.toArray 39 (0, 0)) :: (b10, Obj.cells (u8s MM).toArray 33 (0, 0)) :: (b7, Obj.cells BC.toArray 41 (0, 0)) :: (b8, Obj.cells AC.toArray 79 (0, 0)) :: (b6, Obj.cells ti41.zero.cells 41 (0, 0)) :: (b3, Obj.cells D.toArray 43 (0, 0)) :: []) ?_ (fun b12 => ?_)
  · (repeat refine RC.seq ?_); refine RC.drawS mixed (N := 14) rfl ?_
    refine dt 0 ?_
    refine DR.t 1 rfl (vl (.int .i64 x.who) (arr := D.toArray) (hm := (by repeat (first | exact List.mem_cons_self | apply List.mem_cons_of_mem | apply List.mem_append_right))) (hv := by exact qw)) ?_
    refine dt 3 ?_
    refine dt 4 ?_
    refine DR.t 5 rfl (vl (.int .i64 z2) (arr := BC.toArray) (hm := (by repeat (first | exact List.mem_cons_self | apply List.mem_cons_of_mem | apply List.mem_append_right))) (hv := hz5)) ?_
    refine DR.t 6 rfl (vla (arr := (u8s MM).toArray) (hm := (by repeat (first | exact List.mem_cons_self | apply List.mem_cons_of_mem | apply List.mem_append_right))) (hv := sMM)) ?_
    refine DR.two (i := 2) (j := 11) (by kernel_rfl) ?_ ?_
    · refine DOp.op1 rfl (OpTo.cv Tryz.func7 (fun w' _ => hseed w')) (fun _ => ?_)
      refine DR.two (i := 7) (j := 11) (by kernel_rfl) ?_ ?_
      · refine DOp.op1 rfl (OpTo.cv Tryz.func39 (fun w' _ => cs w')) (fun _ => ?_)
        refine dt 8 ?_
        refine dt 9 ?_
        refine dt 10 ?_
        refine DR.c 11 ?_
        refine DOp.op1 rfl (OpTo.new rfl rfl (nal)) ?_
        intro b12
        refine DR.c 12 ?_
        refine DOp.op1 rfl (osa (L' := (b10, Obj.cells (u8s MM).toArray 33 (0, 0)) :: (b7, Obj.cells BC.toArray 41 (0, 0)) :: (b8, Obj.cells AC.toArray 79 (0, 0)) :: (b6, Obj.cells ti41.zero.cells 41 (0, 0)) :: (b3, Obj.cells D.toArray 43 (0, 0)) :: []) G.toArray oG (hs := sG) (hf := by kernel_rfl)) (fun _ => ?_)
        refine dt 13 ?_
        refine DR.done (by kernel_rfl) ?_
        exact RQ.toP b12 ⟨rfl, rfl, rfl, rfl, rfl, rfl, rfl, rfl, rfl, trivial⟩ (List.Perm.refl _) (List.Sublist.refl _)
      · refine DOp.op1 rfl (OpTo.new rfl rfl (nal)) ?_
        intro b12
        refine DR.c 7 (DOp.op1 rfl (OpTo.cv Tryz.func39 (fun w' _ => cs w')) (fun _ => ?_))
        refine dt 8 ?_
        refine dt 9 ?_
        refine dt 10 ?_
        refine DR.c 12 ?_
        refine DOp.op1 rfl (osa (L' := (b10, Obj.cells (u8s MM).toArray 33 (0, 0)) :: (b7, Obj.cells BC.toArray 41 (0, 0)) :: (b8, Obj.cells AC.toArray 79 (0, 0)) :: (b6, Obj.cells ti41.zero.cells 41 (0, 0)) :: (b3, Obj.cells D.toArray 43 (0, 0)) :: []) G.toArray oG (hs := sG) (hf := by kernel_rfl)) (fun _ => ?_)
        refine dt 13 ?_
        refine DR.done (by kernel_rfl) ?_
        exact RQ.toP b12 ⟨rfl, rfl, rfl, rfl, rfl, rfl, rfl, rfl, rfl, trivial⟩ (List.Perm.refl _) (List.Sublist.refl _)
    · refine DOp.op1 rfl (OpTo.new rfl rfl (nal)) ?_
      intro b12
      refine DR.c 2 (DOp.op1 rfl (OpTo.cv Tryz.func7 (fun w' _ => hseed w')) (fun _ => ?_))
      refine DR.c 7 (DOp.op1 rfl (OpTo.cv Tryz.func39 (fun w' _ => cs w')) (fun _ => ?_))
      refine dt 8 ?_
      refine dt 9 ?_
      refine dt 10 ?_
      refine DR.c 12 ?_
      refine DOp.op1 rfl (osa (L' := (b10, Obj.cells (u8s MM).toArray 33 (0, 0)) :: (b7, Obj.cells BC.toArray 41 (0, 0)) :: (b8, Obj.cells AC.toArray 79 (0, 0)) :: (b6, Obj.cells ti41.zero.cells 41 (0, 0)) :: (b3, Obj.cells D.toArray 43 (0, 0)) :: []) G.toArray oG (hs := sG) (hf := by kernel_rfl)) (fun _ => ?_)
      refine dt 13 ?_
      refine DR.done (by kernel_rfl) ?_
      exact RQ.toP b12 ⟨rfl, rfl, rfl, rfl, rfl, rfl, rfl, rfl, rfl, trivial⟩ (List.Perm.refl _) (List.Sublist.refl _)
  refine RC.seq ?_
  refine RC.thenCut (Y := Unit) (fun _ => [(7, .pointer (some ⟨b7, 0, none⟩)), (6, .pointer (some ⟨b6, 0, none⟩)), (3, .pointer (some ⟨b3, 0, none⟩)), (2, .pointer (some ⟨rb, 0, none⟩)), (1, .int .i64 side)]) (fun _ => (b7, Obj.cells FC.toArray 41 (0, 0)) :: (b12, Obj.cells G.toArray 39 (0, 0)) :: (b10, Obj.cells (u8s MM).toArray 33 (0, 0)) :: (b8, Obj.cells AC.toArray 79 (0, 0)) :: (b6, Obj.cells ti41.zero.cells 41 (0, 0)) :: (b3, Obj.cells D.toArray 43 (0, 0)) :: []) ?_ (fun _ => ?_)
  · cases hsg : sgB z2 with
    | false =>
      rw [hsb hsg]
      refine z_ ?_
      exact RQ.toP () ⟨rfl, rfl, rfl, rfl, rfl, trivial⟩ (L1 := (b7, Obj.cells BC.toArray 41 (0, 0)) :: (b12, Obj.cells G.toArray 39 (0, 0)) :: (b10, Obj.cells (u8s MM).toArray 33 (0, 0)) :: (b8, Obj.cells AC.toArray 79 (0, 0)) :: (b6, Obj.cells ti41.zero.cells 41 (0, 0)) :: (b3, Obj.cells D.toArray 43 (0, 0)) :: []) (perm_of fun f => by (simp only [List.map_append, List.map_cons, List.map_nil, List.sum_append, List.sum_cons, List.sum_nil] <;> omega)) (List.Sublist.refl _)
    | true =>
      have hFC := hsy hsg
      refine z_ ?_
      refine Run.a (vla (arr := G.toArray) (hm := (by repeat (first | exact List.mem_cons_self | apply List.mem_cons_of_mem | apply List.mem_append_right))) (hv := sG)) ?_
      refine z_ ?_
      refine Run.op1 (ost (ti := ti39) (off := 12) (v := .agg G.toArray) (L' := (b12, Obj.cells G.toArray 39 (0, 0)) :: (b10, Obj.cells (u8s MM).toArray 33 (0, 0)) :: (b8, Obj.cells AC.toArray 79 (0, 0)) :: (b6, Obj.cells ti41.zero.cells 41 (0, 0)) :: (b3, Obj.cells D.toArray 43 (0, 0)) :: []) (arr := BC.toArray) (e := 41) FC.toArray (by simp only [Value.cells]; rw [hbare, hFC]; exact sx_wn ht8 sG) (by rw [List.size_toArray, hbl]; decide) (fun u hu => oG u (by simpa [Value.cells] using hu)) (hL := (perm_of fun f => by (simp only [List.map_append, List.map_cons, List.map_nil, List.sum_append, List.sum_cons, List.sum_nil] <;> omega))) (hs := by exact sG)) (fun _ => ?_)
      refine z_ ?_
      exact RQ.toP () ⟨rfl, rfl, rfl, rfl, rfl, trivial⟩ (List.Perm.refl _) (List.Sublist.refl _)
  refine z_ ?_
  refine Run.a (vla (arr := FC.toArray) (hm := (by repeat (first | exact List.mem_cons_self | apply List.mem_cons_of_mem | apply List.mem_append_right))) (hv := hsgl)) ?_
  refine Run.op1 (osa (arr := ti41.zero.cells) (e := 41) (L' := (b7, Obj.cells FC.toArray 41 (0, 0)) :: (b12, Obj.cells G.toArray 39 (0, 0)) :: (b10, Obj.cells (u8s MM).toArray 33 (0, 0)) :: (b8, Obj.cells AC.toArray 79 (0, 0)) :: (b3, Obj.cells D.toArray 43 (0, 0)) :: []) FC.toArray hsgo (hs := hsgl) (hf := by kernel_rfl) (hL := (perm_of fun f => by (simp only [List.map_append, List.map_cons, List.map_nil, List.sum_append, List.sum_cons, List.sum_nil] <;> omega)))) (fun _ => ?_)
  refine z_ ?_
  exact RQ.ret1 rfl (Res.cellAll tabOk rfl rfl rfl m0 hsgl) fun w' hm => ⟨rfl, hm.fr⟩
end Go.Proofs.YtfhdfpejjgmdcaaGreatDoor

/- account: what is signed is right; the law's awake. -/
namespace Go.Proofs.YtfhdfpejjgmdcaaGreatDoor
attribute [local irreducible] Go.Vc.Run Go.Vc.RC Go.Vc.RQ Go.Vc.DR Go.Vc.DOp
open Go Go.Vc Go.Sha
theorem signed_f (t : SxD) (z : Int) (seed m : List Nat) : (t.signed z seed m).kd = t.kd ∧ (t.signed z seed m).fr = t.fr ∧ (t.signed z seed m).tt = t.tt ∧ (t.signed z seed m).ou = t.ou ∧ (t.signed z seed m).am = t.am ∧ (t.signed z seed m).z = z := by
  unfold SxD.signed
  split
  · exact ⟨rfl, rfl, rfl, rfl, rfl, rfl⟩
  · exact ⟨rfl, rfl, rfl, rfl, rfl, rfl⟩
theorem may_signed (t : SxD) (z : Int) (seed m : List Nat) : maySx (t.signed z seed m) ↔ maySx (t.bare z) := by
  obtain ⟨h1, h2, h3, h4, h5, h6⟩ := signed_f t z seed m
  unfold maySx fitsX kindX
  rw [h1, h2, h3, h4, h5, h6]
  rfl
theorem mess_signed (side : Int) (t : SxD) (z : Int) (seed m : List Nat) : messX side (t.signed z seed m) = messX side (t.bare z) := by
  obtain ⟨h1, h2, h3, h4, h5, h6⟩ := signed_f t z seed m
  unfold messX
  have hg : msgX side (t.signed z seed m) = msgX side (t.bare z) := by unfold msgX; rw [h1, h2, h3, h4, h5, h6]; rfl
  by_cases h : mokX side (t.bare z)
  · rw [if_pos h, if_pos (show mokX side (t.signed z seed m) from ⟨(may_signed t z seed m).2 h.1, h.2⟩), hg]
  · rw [if_neg h, if_neg (show ¬ mokX side (t.signed z seed m) from fun h' => h ⟨(may_signed t z seed m).1 h'.1, h'.2⟩)]
/-- What an owner signs, as it must, is right, as long as there are keys. -/
theorem check_signed (side : Int) (t : SxD) (z : Int) (seed : List Nat) : checkT (treeOf seed) (messX side (t.signed z seed (messX side (t.bare z)))) (t.signed z seed (messX side (t.bare z))).z (t.signed z seed (messX side (t.bare z))).op (t.signed z seed (messX side (t.bare z))).sh (t.signed z seed (messX side (t.bare z))).pa = decide (0 ≤ z ∧ z < 8) := by
  rw [mess_signed]
  generalize messX side (t.bare z) = m
  by_cases h : 0 ≤ z ∧ z < 8
  · rw [decide_eq_true h]
    unfold SxD.signed
    rw [dif_pos h]
    have := checkT_signed seed m (i := z.toNat) (by omega)
    rw [Int.toNat_of_nonneg h.1] at this
    exact this
  · rw [decide_eq_false h, (signed_f t z seed m).2.2.2.2.2]
    exact checkT_bad (by omega)
/-- What is wrong with a deed that is signed as it must be. -/
theorem erX_made {s : LS} {x : DyD} {f : AcD} (hf : acGet x.t.fr s.acs = some f) (ho : f.o = treeOf (sedV x.who)) (h1 : x.be ≠ 1) (h2 : x.be ≠ 2) (hside : 0 ≤ s.side ∧ s.side < 8) :
    erX s (mkT s s.side x) = if ¬ maySx (x.t.bare f.no) then 4 else if x.t.kd = 1 ∧ (acGet x.t.tt s.acs).isNone then 19 else if ¬ (0 ≤ f.no ∧ f.no < 8) then 7 else if x.t.am > f.am ∨ x.t.kd = 1 ∧ toAm s x.t + x.t.am > maxM then 5 else if x.t.kd ≠ 1 ∧ s.out.length ≥ 16 then 18 else 0 := by
  have hz : mkZ s x = f.no := by unfold mkZ; rw [hf, if_neg h2]; show f.no + 0 = _; omega
  have hm : mkM s.side x f.no = messX s.side (x.t.bare f.no) := if_neg h1
  have hck := check_signed s.side x.t f.no (sedV x.who)
  rw [← ho] at hck
  have hms := may_signed x.t f.no (sedV x.who) (messX s.side (x.t.bare f.no))
  obtain ⟨e1, e2, e3, e4, e5, e6⟩ := signed_f x.t f.no (sedV x.who) (messX s.side (x.t.bare f.no))
  unfold mkT
  rw [hz, hm]
  generalize x.t.signed f.no (sedV x.who) (messX s.side (x.t.bare f.no)) = t at hck hms e1 e2 e3 e4 e5 e6
  have htA : toAm s t = toAm s x.t := by unfold toAm; rw [e3]
  rw [e6] at hck
  unfold erX
  rw [htA, e1, e2, e3, e5, e6, hf]
  dsimp only
  rw [hck]
  by_cases hmay : maySx (x.t.bare f.no)
  · rw [if_neg (show ¬ ¬ maySx (x.t.bare f.no) from fun h => h hmay), if_neg (show ¬ ¬ maySx t from fun h => h (hms.2 hmay))]
    by_cases hn : x.t.kd = 1 ∧ (acGet x.t.tt s.acs).isNone
    · simp only [if_pos hn]
    · simp only [if_neg hn]
      rw [if_neg (show ¬ (f.no ≠ f.no) from fun h => h rfl)]
      by_cases hk : 0 ≤ f.no ∧ f.no < 8
      · rw [if_neg (show ¬ ¬ (0 ≤ f.no ∧ f.no < 8) from fun h => h hk), if_neg (show ¬ ¬ (mokX s.side t ∧ decide (0 ≤ f.no ∧ f.no < 8) = true) from fun h => h ⟨⟨hms.2 hmay, hside⟩, decide_eq_true hk⟩)]
      · rw [if_pos (show ¬ (0 ≤ f.no ∧ f.no < 8) from hk), if_pos (show ¬ (mokX s.side t ∧ decide (0 ≤ f.no ∧ f.no < 8) = true) from fun h => hk (of_decide_eq_true h.2))]
  · rw [if_pos hmay, if_pos (show ¬ maySx t from fun h => hmay (hms.1 h))]
theorem doX_made {s : LS} {x : DyD} {f : AcD} (hf : acGet x.t.fr s.acs = some f) (h0 : erX s (mkT s s.side x) = 0) : doX s (mkT s s.side x) = (if x.t.kd = 1 then match acGet x.t.tt s.acs with
      | none => s
      | some g => { s with acs := acSet x.t.tt { g with am := g.am + x.t.am } (acSet x.t.fr { f with am := f.am - x.t.am, no := f.no + 1 } s.acs) }
    else { s with acs := acSet x.t.fr { f with am := f.am - x.t.am, no := f.no + 1 } s.acs, out := s.out ++ [⟨x.t.ou, x.t.am, x.t.h8⟩] }) := by
  obtain ⟨e1, e2, e3, e4, e5, e6⟩ := signed_f x.t (mkZ s x) (sedV x.who) (mkM s.side x (mkZ s x))
  unfold doX
  rw [if_neg (fun h => h h0)]
  unfold mkT at h0 ⊢
  generalize x.t.signed (mkZ s x) (sedV x.who) (mkM s.side x (mkZ s x)) = t at h0 e1 e2 e3 e4 e5 e6
  obtain ⟨kd, fr, tt, ou, am, z, op, sh, pa, h8, _, _, _⟩ := t
  dsimp only at e1 e2 e3 e4 e5 e6 ⊢
  subst e1 e2 e3 e4 e5 e6
  rw [hf]
  rfl
/-- An empty one. -/
def rlNil (rb : Nat) (side : Int) : RlP rb := ⟨.slice none 0 0, .slice none 0 0, .slice none 0 0, [], [], [], ⟨side, [], []⟩, ⟨acOk_nil, fun p hp => (by cases hp), fun p hp => (by cases hp), Nat.zero_le _, fun x hx => (by cases hx)⟩, Own.nil, Own.nil, Own.nil⟩
def o1T : List Nat := [156, 76, 241, 144, 211, 208, 104, 49]
theorem o1T_8 : H8 o1T := ⟨rfl, by decide⟩
theorem o1T_eq : treeOf (sedV 1) = o1T := owner1
theorem o1T_ne : o1T ≠ Z8 := by decide
def X3 : List Nat := [3, 0, 0, 0, 0, 0, 0, 0]
theorem X3_8 : H8 X3 := ⟨rfl, by decide⟩
def dyL (who fr : Int) (ou : List Nat) (h : H8 ou) (am : Int) : DyD := ⟨0, 0, 0, Z8, 0, who, SxD.bare ⟨2, fr, 0, ou, am, 0, zer 128, zer 128, zer 24, h, zer_ok 128, zer_ok 128, zer_ok 24⟩ 0, 0, H8.z, by decide⟩
theorem fresh0 {w w' : World} {S0 : List Nat} {L L1 : Hp} (hK : Laid w) (hS : 0 ∉ S0) (hm : Mem w S0 L w') (hs : ∀ p ∈ L1, p ∈ L) : 0 ∉ L1.map (·.1) := fresh_idsS hK hS hm hs
set_option maxRecDepth 10000 in set_option maxHeartbeats 4000000 in
theorem ac_awake_calls (w : World) (hK : Laid w) : Gives Tryz.prog 4 [] (.bool true) w := by
  refine enter Tryz.func4 rfl (Mem.nil w []) rfl ?_
  refine z_ ?_
  have hz0 : ([] : Hp).Perm ([] ++ []) := List.Perm.refl _
  refine Run.op1 (OpTo.callT Tryz.func5 hz0 (fun w' hm => ANew_calls 2 w')) ?_
  rintro ⟨⟨ab, y0⟩, hy0⟩
  dsimp only at hy0 ⊢
  refine Run.a (vbs #[.int .i64 2, .slice none 0 0, .slice none 0 0, .slice none 0 0]) ?_
  refine Run.nw nbx ?_
  intro rb
  have htr := ref_Tree_calls (sedV 1) (sedV_8 1).1 (sedV_8 1).2
  rw [o1T_eq] at htr
  refine z_ ?_
  refine Run.op1 (OpTo.cv Tryz.func7 (fun w' _ => aSeed_calls 1 w')) (fun _ => ?_)
  refine Run.op1 (OpTo.cv Tryz.func6 (fun w' _ => htr w')) (fun _ => ?_)
  refine Run.a (vbs (fwC 2 5 o1T 9).toArray) ?_
  refine Run.nw nal ?_
  intro b3
  refine Run.op1 (osa (L' := (rb, Obj.cells (rlNil rb 2).row 31 (0, 0)) :: (y0.L ++ [])) (fwC 2 5 o1T 9).toArray (fw_one 2 5 9 o1T) (hf := by kernel_rfl)) (fun _ => ?_)
  have hp1 : ((b3, Obj.cells (fwC 2 5 o1T 9).toArray 35 (0, 0)) :: (rb, Obj.cells (rlNil rb 2).row 31 (0, 0)) :: (y0.L ++ []) : Hp).Perm (y0.L ++ ((b3, Obj.cells (fwC 2 5 o1T 9).toArray 35 (0, 0)) :: (rb, Obj.cells (rlNil rb 2).row 31 (0, 0)) :: [])) := (perm_of fun f => by (simp only [List.map_append, List.map_cons, List.map_nil, List.sum_append, List.sum_cons, List.sum_nil] <;> omega))
  have hc1 : crOk y0.s 2 5 o1T 9 := by rw [hy0]; exact ⟨rfl, by omega, by unfold maxM; omega, o1T_ne, trivial⟩
  have hs1 : crS y0.s 2 5 o1T o1T_8 9 = ⟨2, [(5, ⟨o1T, 9, 0, o1T_8⟩)], []⟩ := by unfold crS; rw [if_pos hc1, hy0]; rfl
  refine z_ ?_
  refine Run.op1 (OpTo.callT Tryz.func8 hp1 (fun w' hm => ACredit_calls y0 2 5 o1T o1T_8 9 w' (hm.part hp1).1 (hm.part hp1).2 (hK.fr hm.fr (by simp)) (fresh_idsS hK (by simp) (hm.perm hp1) (fun p hp => List.mem_append_left _ hp)))) ?_
  rintro ⟨y1, hy1⟩
  rw [hs1] at hy1
  rw [decide_eq_true hc1]
  dsimp only at hy1 ⊢
  have hp2 : (y1.L ++ ((b3, Obj.cells (fwC 2 5 o1T 9).toArray 35 (0, 0)) :: (rb, Obj.cells (rlNil rb 2).row 31 (0, 0)) :: []) : Hp).Perm ((rlNil rb 2).L ++ ((b3, Obj.cells (fwC 2 5 o1T 9).toArray 35 (0, 0)) :: y1.L)) := by
    rw [show (rlNil rb 2).L = [(rb, Obj.cells (rlNil rb 2).row 31 (0, 0))] from rfl]; exact (perm_of fun f => by (simp only [List.map_append, List.map_cons, List.map_nil, List.sum_append, List.sum_cons, List.sum_nil] <;> omega))
  have hc2 : crOk (rlNil rb 2).s 2 5 o1T 9 := ⟨rfl, by omega, by unfold maxM; omega, o1T_ne, trivial⟩
  have hs2 : crS (rlNil rb 2).s 2 5 o1T o1T_8 9 = ⟨2, [(5, ⟨o1T, 9, 0, o1T_8⟩)], []⟩ := by unfold crS; rw [if_pos hc2]; rfl
  refine z_ ?_
  refine Run.op1 (OpTo.callT Tryz.func9 hp2 (fun w' hm => RCredit_calls (rlNil rb 2) 2 5 o1T o1T_8 9 w' (hm.part hp2).1 (hm.part hp2).2)) ?_
  rintro ⟨z1, hz1⟩
  rw [hs2] at hz1
  rw [decide_eq_true hc2]
  dsimp only at hz1 ⊢
  obtain ⟨x0, hx0⟩ : ∃ x, x = dyL 1 5 X3 X3_8 4 := ⟨_, rfl⟩
  have e0 : erX y1.s (mkT y1.s 2 x0) = 0 := by
    have h1 := erX_made (s := y1.s) (x := x0) (f := ⟨o1T, 9, 0, o1T_8⟩) (by rw [hy1, hx0]; rfl) (by rw [hx0]; exact o1T_eq.symm) (by rw [hx0]; decide) (by rw [hx0]; decide) (by rw [hy1]; decide)
    rw [show y1.s.side = 2 from by rw [hy1]] at h1
    rw [h1, hy1, hx0]
    have hm : maySx ((dyL 1 5 X3 X3_8 4).t.bare 0) := ⟨by unfold fitsX; dsimp only [dyL, SxD.bare]; unfold maxM; omega, .inr ⟨rfl, rfl, by decide⟩⟩
    rw [if_neg (fun h => h hm)]
    rfl
  have d0 : doX y1.s (mkT y1.s 2 x0) = ⟨2, [(5, ⟨o1T, 5, 1, o1T_8⟩)], [⟨X3, 4, X3_8⟩]⟩ := by
    have h1 := doX_made (s := y1.s) (x := x0) (f := ⟨o1T, 9, 0, o1T_8⟩) (by rw [hy1, hx0]; rfl) (by rw [show y1.s.side = 2 from by rw [hy1]]; exact e0)
    rw [show y1.s.side = 2 from by rw [hy1]] at h1
    rw [h1, hy1, hx0]
    rfl
  have cmk := fun w' hw' => aMake_calls z1 2 x0 w' hw'
  rw [hz1, ← hy1] at cmk
  have hxt : x0.c = dyC 0 (fwC 0 0 Z8 0) 1 (sxC 2 5 0 X3 4 0 (zer 128) (zer 128) (zer 24)) 0 := by rw [hx0]; rfl
  generalize mkT y1.s 2 x0 = tx at e0 d0 cmk
  rw [hxt] at cmk
  refine z_ ?_
  refine Run.a (vba (u8s X3).toArray) ?_
  refine Run.a (vbs (sxC 2 5 0 X3 4 0 (zer 128) (zer 128) (zer 24)).toArray) ?_
  refine Run.a (vbs (dyC 0 (fwC 0 0 Z8 0) 1 (sxC 2 5 0 X3 4 0 (zer 128) (zer 128) (zer 24)) 0).toArray) ?_
  refine z_ ?_
  refine Run.op1 (OpTo.cv Tryz.func10 (fun w' hm => cmk w' (fun q hq => hm.has q (List.mem_append_left _ hq)))) (fun _ => ?_)
  have hp3 : (z1.L ++ ((b3, Obj.cells (fwC 2 5 o1T 9).toArray 35 (0, 0)) :: y1.L) : Hp).Perm (y1.L ++ ((b3, Obj.cells (fwC 2 5 o1T 9).toArray 35 (0, 0)) :: z1.L)) := (perm_of fun f => by (simp only [List.map_append, List.map_cons, List.map_nil, List.sum_append, List.sum_cons, List.sum_nil] <;> omega))
  refine Run.op1 (OpTo.callT Tryz.func15 hp3 (fun w' hm => ADo_calls y1 tx w' (hm.part hp3).1 (hm.part hp3).2 (hK.fr hm.fr (by simp)) (fresh_idsS hK (by simp) (hm.perm hp3) (fun p hp => List.mem_append_left _ hp)))) ?_
  rintro ⟨y2, hy2⟩
  rw [d0] at hy2
  rw [e0]
  dsimp only at hy2 ⊢
  clear cmk e0 d0 hxt
  have hp4 : (y2.L ++ ((b3, Obj.cells (fwC 2 5 o1T 9).toArray 35 (0, 0)) :: z1.L) : Hp).Perm (y2.L ++ ((b3, Obj.cells (fwC 2 5 o1T 9).toArray 35 (0, 0)) :: z1.L)) := List.Perm.refl _
  have hO := y2.hO
  have hol : y2.s.out = [⟨X3, 4, X3_8⟩] := by rw [hy2]
  have ct := fun w' hw' => ATotal_calls y2.shut w' hw'
  have cl := fun w' hw' => ALeaving_calls y2.shut w' hw'
  have cr := fun w' hw' => ARoot_calls y2.shut w' hw'
  rw [show IntKind.i64.wrap (totX y2.shut.s) = 5 from by show IntKind.i64.wrap (totX { y2.s with out := [] }) = 5; rw [hy2]; decide] at ct
  rw [show IntKind.i64.wrap (leavX y2.shut.s) = 0 from by show IntKind.i64.wrap (leavX { y2.s with out := [] }) = 0; rw [hy2]; decide] at cl
  change ∀ w', _ → Gives _ _ _ (.agg (u8s (nodeF (acF y2.s.acs) 16 0)).toArray) w' at cr
  have h8 := nodeF_8 (acF_ok y2.s.acs) 16 0
  have cc := fun w' hw' hn' => AClose_calls y2 w' hw' hn'
  generalize nodeF (acF y2.s.acs) 16 0 = R at h8 cr cc
  have sR : (u8s R).toArray.size = 8 := by rw [List.size_toArray, u8s_len, h8.1]
  rw [hol] at hO
  obtain ⟨bq, cap, rest, evO, ebO, hcl, hn1, hn2, hcr⟩ := hO.pos (by decide)
  rw [evO, ebO] at cc
  refine z_ ?_
  refine Run.op1 (OpTo.callT Tryz.func17 hp4 (fun w' hm => cc w' (hm.part hp4).1 (hm.part hp4).2)) ?_
  intro _
  refine z_ ?_
  refine Run.nw nal ?_
  intro b5
  refine Run.op1 (osa (u8s R).toArray (u8s_one _) (hs := sR) (hf := by kernel_rfl)) (fun _ => ?_)
  refine z_ ?_
  have hsh : ∀ {S0 : List Nat} {L : Hp} {w' : World}, Mem w S0 L w' → (∀ q ∈ y2.shut.L, q ∈ L) → Has y2.shut.L w' := fun hm h q hq => hm.has q (h q hq)
  (repeat refine RC.seq ?_); refine RC.drawS mixed (N := 31) rfl ?_
  refine dt 0 ?_
  refine dt 1 ?_
  refine dt 2 ?_
  refine dt 3 ?_
  refine DR.c 4 (DOp.op1 rfl (OpTo.cv Tryz.func25 (fun w' hm => ct w' (hsh hm (fun q hq => (by repeat (first | exact List.mem_append_left _ hq | exact List.mem_append_left _ (List.mem_append_left _ hq) | exact hq | apply List.mem_cons_of_mem)))))) (fun _ => ?_))
  refine dt 5 ?_
  refine dt 6 ?_
  refine dt 7 ?_
  refine dt 8 ?_
  refine dt 9 ?_
  refine dt 10 ?_
  refine dt 11 ?_
  refine dt 12 ?_
  refine dt 13 ?_
  refine DR.t 14 rfl (vix 0 (show 0 < 1 from by decide) ⟨bq, 0, none⟩) ?_
  refine dt 15 ?_
  refine DR.t 16 rfl (vl (.int .i64 4) (arr := (rws OuD.c [(⟨X3, 4, X3_8⟩ : OuD)] ++ rest).toArray) (e := 66) (fz := (0, 0)) (hm := by refine List.mem_cons_of_mem _ (List.mem_append_left _ (List.mem_append_right _ ?_)); exact List.mem_cons_self)) ?_
  refine dt 17 ?_
  refine dt 18 ?_
  refine dt 19 ?_
  refine DR.t 20 rfl (vla (arr := (u8s R).toArray) (hm := (by repeat (first | exact List.mem_cons_self | apply List.mem_cons_of_mem | apply List.mem_append_right))) (hv := sR)) ?_
  refine dt 21 ?_
  refine DR.c 22 (DOp.op1 rfl (OpTo.cv Tryz.func26 (fun w' hm => cr w' (hsh hm (fun q hq => (by repeat (first | exact List.mem_append_left _ hq | exact List.mem_append_left _ (List.mem_append_left _ hq) | exact hq | apply List.mem_cons_of_mem)))))) (fun _ => ?_))
  refine DR.t 23 rfl (veu 8 R h8.1 (by kernel_rfl)) ?_
  refine dt 24 ?_
  refine dt 25 ?_
  refine dt 26 ?_
  refine DR.c 27 (DOp.op1 rfl (OpTo.cv Tryz.func27 (fun w' hm => cl w' (hsh hm (fun q hq => (by repeat (first | exact List.mem_append_left _ hq | exact List.mem_append_left _ (List.mem_append_left _ hq) | exact hq | apply List.mem_cons_of_mem)))))) (fun _ => ?_))
  refine dt 28 ?_
  refine dt 29 ?_
  refine dt 30 ?_
  refine DR.done (by kernel_rfl) ?_
  refine z_ ?_
  exact RQ.ret1 rfl (Res.tmp rfl) fun w' hm => ⟨rfl, hm.fr⟩
end Go.Proofs.YtfhdfpejjgmdcaaGreatDoor
