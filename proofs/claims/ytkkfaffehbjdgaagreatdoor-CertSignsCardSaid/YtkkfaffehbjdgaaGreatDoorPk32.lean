/- Lemmas. -/
import Derived.Test.YtkkfaffehbjdgaaGreatDoorPk31
set_option linter.unusedSimpArgs false
set_option linter.unusedVariables false
section
/- The tree of the seed 113 0. -/
namespace Go.Sha
theorem key0_0 : pubKey [113, 0, 0, 0, 0, 0, 0, 0] 0 = [255, 106, 171, 30, 0, 1, 99, 59] := (pub_fast _ _).trans (by kernel_rfl)
theorem key0_1 : pubKey [113, 0, 0, 0, 0, 0, 0, 0] 1 = [106, 245, 50, 117, 138, 20, 162, 202] := (pub_fast _ _).trans (by kernel_rfl)
theorem key0_2 : pubKey [113, 0, 0, 0, 0, 0, 0, 0] 2 = [234, 21, 117, 53, 147, 136, 25, 49] := (pub_fast _ _).trans (by kernel_rfl)
theorem key0_3 : pubKey [113, 0, 0, 0, 0, 0, 0, 0] 3 = [122, 192, 39, 3, 116, 185, 173, 155] := (pub_fast _ _).trans (by kernel_rfl)
theorem key0_4 : pubKey [113, 0, 0, 0, 0, 0, 0, 0] 4 = [163, 196, 91, 208, 17, 10, 174, 107] := (pub_fast _ _).trans (by kernel_rfl)
theorem key0_5 : pubKey [113, 0, 0, 0, 0, 0, 0, 0] 5 = [39, 62, 226, 115, 218, 223, 114, 112] := (pub_fast _ _).trans (by kernel_rfl)
theorem key0_6 : pubKey [113, 0, 0, 0, 0, 0, 0, 0] 6 = [198, 101, 244, 187, 35, 6, 155, 28] := (pub_fast _ _).trans (by kernel_rfl)
theorem key0_7 : pubKey [113, 0, 0, 0, 0, 0, 0, 0] 7 = [83, 125, 202, 234, 100, 14, 204, 230] := (pub_fast _ _).trans (by kernel_rfl)
theorem tree0 : treeOf [113, 0, 0, 0, 0, 0, 0, 0] = [42, 27, 56, 72, 149, 84, 97, 106] := (tree_fast key0_0 key0_1 key0_2 key0_3 key0_4 key0_5 key0_6 key0_7).trans (by kernel_rfl)
end Go.Sha

/- The tree of the seed 113 1. -/
namespace Go.Sha
theorem key1_0 : pubKey [113, 1, 0, 0, 0, 0, 0, 0] 0 = [24, 103, 56, 166, 213, 68, 131, 201] := (pub_fast _ _).trans (by kernel_rfl)
theorem key1_1 : pubKey [113, 1, 0, 0, 0, 0, 0, 0] 1 = [162, 216, 153, 28, 237, 215, 27, 138] := (pub_fast _ _).trans (by kernel_rfl)
theorem key1_2 : pubKey [113, 1, 0, 0, 0, 0, 0, 0] 2 = [130, 180, 169, 244, 28, 86, 199, 75] := (pub_fast _ _).trans (by kernel_rfl)
theorem key1_3 : pubKey [113, 1, 0, 0, 0, 0, 0, 0] 3 = [241, 30, 197, 19, 210, 185, 195, 3] := (pub_fast _ _).trans (by kernel_rfl)
theorem key1_4 : pubKey [113, 1, 0, 0, 0, 0, 0, 0] 4 = [244, 17, 179, 74, 1, 202, 203, 54] := (pub_fast _ _).trans (by kernel_rfl)
theorem key1_5 : pubKey [113, 1, 0, 0, 0, 0, 0, 0] 5 = [106, 101, 98, 80, 42, 75, 89, 22] := (pub_fast _ _).trans (by kernel_rfl)
theorem key1_6 : pubKey [113, 1, 0, 0, 0, 0, 0, 0] 6 = [177, 218, 208, 155, 150, 1, 121, 172] := (pub_fast _ _).trans (by kernel_rfl)
theorem key1_7 : pubKey [113, 1, 0, 0, 0, 0, 0, 0] 7 = [208, 246, 89, 60, 132, 47, 8, 163] := (pub_fast _ _).trans (by kernel_rfl)
theorem tree1 : treeOf [113, 1, 0, 0, 0, 0, 0, 0] = [198, 66, 121, 243, 225, 231, 225, 136] := (tree_fast key1_0 key1_1 key1_2 key1_3 key1_4 key1_5 key1_6 key1_7).trans (by kernel_rfl)
end Go.Sha

/- The tree of the seed 113 2. -/
namespace Go.Sha
theorem key2_0 : pubKey [113, 2, 0, 0, 0, 0, 0, 0] 0 = [33, 255, 187, 84, 137, 93, 191, 196] := (pub_fast _ _).trans (by kernel_rfl)
theorem key2_1 : pubKey [113, 2, 0, 0, 0, 0, 0, 0] 1 = [14, 162, 189, 31, 23, 195, 101, 25] := (pub_fast _ _).trans (by kernel_rfl)
theorem key2_2 : pubKey [113, 2, 0, 0, 0, 0, 0, 0] 2 = [166, 93, 144, 216, 28, 32, 191, 0] := (pub_fast _ _).trans (by kernel_rfl)
theorem key2_3 : pubKey [113, 2, 0, 0, 0, 0, 0, 0] 3 = [171, 99, 17, 185, 16, 73, 246, 151] := (pub_fast _ _).trans (by kernel_rfl)
theorem key2_4 : pubKey [113, 2, 0, 0, 0, 0, 0, 0] 4 = [251, 167, 119, 251, 87, 129, 253, 47] := (pub_fast _ _).trans (by kernel_rfl)
theorem key2_5 : pubKey [113, 2, 0, 0, 0, 0, 0, 0] 5 = [58, 35, 103, 254, 209, 157, 229, 217] := (pub_fast _ _).trans (by kernel_rfl)
theorem key2_6 : pubKey [113, 2, 0, 0, 0, 0, 0, 0] 6 = [110, 242, 228, 153, 203, 74, 94, 94] := (pub_fast _ _).trans (by kernel_rfl)
theorem key2_7 : pubKey [113, 2, 0, 0, 0, 0, 0, 0] 7 = [177, 148, 97, 173, 185, 47, 203, 92] := (pub_fast _ _).trans (by kernel_rfl)
theorem tree2 : treeOf [113, 2, 0, 0, 0, 0, 0, 0] = [103, 242, 72, 14, 141, 212, 250, 235] := (tree_fast key2_0 key2_1 key2_2 key2_3 key2_4 key2_5 key2_6 key2_7).trans (by kernel_rfl)
end Go.Sha

/- The tree of the seed 113 3. -/
namespace Go.Sha
theorem key3_0 : pubKey [113, 3, 0, 0, 0, 0, 0, 0] 0 = [182, 48, 41, 251, 133, 212, 111, 146] := (pub_fast _ _).trans (by kernel_rfl)
theorem key3_1 : pubKey [113, 3, 0, 0, 0, 0, 0, 0] 1 = [28, 215, 189, 152, 184, 170, 93, 23] := (pub_fast _ _).trans (by kernel_rfl)
theorem key3_2 : pubKey [113, 3, 0, 0, 0, 0, 0, 0] 2 = [222, 93, 104, 164, 237, 40, 177, 39] := (pub_fast _ _).trans (by kernel_rfl)
theorem key3_3 : pubKey [113, 3, 0, 0, 0, 0, 0, 0] 3 = [114, 174, 237, 126, 127, 154, 95, 13] := (pub_fast _ _).trans (by kernel_rfl)
theorem key3_4 : pubKey [113, 3, 0, 0, 0, 0, 0, 0] 4 = [250, 33, 139, 169, 149, 112, 36, 11] := (pub_fast _ _).trans (by kernel_rfl)
theorem key3_5 : pubKey [113, 3, 0, 0, 0, 0, 0, 0] 5 = [222, 186, 198, 248, 81, 63, 99, 241] := (pub_fast _ _).trans (by kernel_rfl)
theorem key3_6 : pubKey [113, 3, 0, 0, 0, 0, 0, 0] 6 = [250, 68, 62, 251, 63, 177, 251, 6] := (pub_fast _ _).trans (by kernel_rfl)
theorem key3_7 : pubKey [113, 3, 0, 0, 0, 0, 0, 0] 7 = [132, 78, 115, 60, 112, 212, 148, 101] := (pub_fast _ _).trans (by kernel_rfl)
theorem tree3 : treeOf [113, 3, 0, 0, 0, 0, 0, 0] = [136, 180, 213, 230, 174, 33, 93, 175] := (tree_fast key3_0 key3_1 key3_2 key3_3 key3_4 key3_5 key3_6 key3_7).trans (by kernel_rfl)
end Go.Sha

/- The tree of the seed 113 4. -/
namespace Go.Sha
theorem key4_0 : pubKey [113, 4, 0, 0, 0, 0, 0, 0] 0 = [26, 13, 74, 223, 213, 17, 205, 178] := (pub_fast _ _).trans (by kernel_rfl)
theorem key4_1 : pubKey [113, 4, 0, 0, 0, 0, 0, 0] 1 = [206, 77, 153, 109, 184, 7, 236, 61] := (pub_fast _ _).trans (by kernel_rfl)
theorem key4_2 : pubKey [113, 4, 0, 0, 0, 0, 0, 0] 2 = [102, 118, 219, 136, 58, 68, 221, 111] := (pub_fast _ _).trans (by kernel_rfl)
theorem key4_3 : pubKey [113, 4, 0, 0, 0, 0, 0, 0] 3 = [125, 23, 41, 204, 118, 3, 84, 245] := (pub_fast _ _).trans (by kernel_rfl)
theorem key4_4 : pubKey [113, 4, 0, 0, 0, 0, 0, 0] 4 = [52, 51, 253, 160, 16, 137, 106, 151] := (pub_fast _ _).trans (by kernel_rfl)
theorem key4_5 : pubKey [113, 4, 0, 0, 0, 0, 0, 0] 5 = [186, 227, 98, 81, 84, 139, 190, 34] := (pub_fast _ _).trans (by kernel_rfl)
theorem key4_6 : pubKey [113, 4, 0, 0, 0, 0, 0, 0] 6 = [47, 234, 64, 164, 171, 138, 247, 138] := (pub_fast _ _).trans (by kernel_rfl)
theorem key4_7 : pubKey [113, 4, 0, 0, 0, 0, 0, 0] 7 = [225, 14, 240, 141, 128, 213, 197, 13] := (pub_fast _ _).trans (by kernel_rfl)
theorem tree4 : treeOf [113, 4, 0, 0, 0, 0, 0, 0] = [170, 223, 126, 121, 129, 128, 94, 198] := (tree_fast key4_0 key4_1 key4_2 key4_3 key4_4 key4_5 key4_6 key4_7).trans (by kernel_rfl)
end Go.Sha
end
section
/- quorum's law: awake; QuorumMay, QuorumChecks. -/
namespace Go.Sha
open Go.Vc (insI)
theorem certs_five : certs 5 = [treeOf [113, 0, 0, 0, 0, 0, 0, 0], treeOf [113, 1, 0, 0, 0, 0, 0, 0], treeOf [113, 2, 0, 0, 0, 0, 0, 0], treeOf [113, 3, 0, 0, 0, 0, 0, 0], treeOf [113, 4, 0, 0, 0, 0, 0, 0]] := rfl
theorem certs_take {n : Nat} (h : n ≤ 5) : certs n = (certs 5).take n := by
  unfold certs
  rw [← List.map_take, List.take_range, Nat.min_eq_left h]
theorem kOk_five : kOk (certs 5) = true := by
  rw [certs_five, tree0, tree1, tree2, tree3, tree4]
  decide
theorem kOk_certs {n : Nat} (h : n ≤ 5) : kOk (certs n) = true := by
  have h5 := of_decide_eq_true kOk_five
  rw [certs_take h]
  exact decide_eq_true ⟨fun hm => h5.1 (List.mem_of_mem_take hm), h5.2.sublist (List.take_sublist _ _)⟩
theorem may_certs {n : Nat} {nd : Int} (h : n ≤ 5) (h1 : 1 ≤ n) (h2 : 1 ≤ nd) (h3 : nd ≤ n) : mayP 4 2 nd (certs n) = true :=
  mayP_good (by rw [certs_len]; omega) (kOk_certs h) (by omega)
theorem right_signed {n k i : Nat} {m : List Nat} {who : List Int} (hk : who.getD i 0 = (k : Int)) (hkn : k < n) : rightS (certs n) m (sgOne m who [] i) = true := by
  rw [rightS_good (s := sgOne m who [] i) hk (certs_at hkn)]
  show checkT (treeOf (seedQ (k : Int))) m ((i % 8 : Nat) : Int) (rowOf (opened (seedQ (who.getD i 0)) (i % 8) (msgQ m [] i)) 16) (rowOf (shutd (seedQ (who.getD i 0)) (i % 8) (msgQ m [] i)) 16) (wayOf (seedQ (who.getD i 0)) (i % 8)).flatten = true
  rw [hk, msgQ_nil]
  exact checkT_signed (seedQ k) m (Nat.mod_lt _ (by decide))
/-- Numbers that go up. -/
def incr : Int → List Int → Bool
  | _, [] => true
  | last, k :: r => decide (last < k) && incr k r
theorem sgL_at {m : List Nat} {who : List Int} {bent : List Bool} {n i : Nat} (h : i < n) : (sgL m who bent n)[i]? = some (sgOne m who bent i) := by simp [sgL, h]
def inR (n : Nat) (who : List Int) : Prop := ∀ i, i < who.length → ∃ k : Nat, who.getD i 0 = (k : Int) ∧ k < n
theorem goes_who {n : Nat} {m : List Nat} {who : List Int} (hin : inR n who) : ∀ (d i : Nat) (last : Int), i + d = who.length → goes (certs n) m last ((sgL m who [] who.length).drop i) = incr last (who.drop i)
  | 0, i, last, h => by
    rw [List.drop_of_length_le (by rw [sgL_len]; omega), List.drop_of_length_le (by omega)]
    rfl
  | d + 1, i, last, h => by
    obtain ⟨k, hk, hkn⟩ := hin i (by omega)
    have ih := goes_who (m := m) hin d (i + 1) (k : Int) (by omega)
    have hw : who.drop i = (k : Int) :: who.drop (i + 1) := by
      rw [List.drop_eq_getElem_cons (show i < who.length by omega)]
      congr 1
      have := getD_some (l := who) (i := i) (by omega) 0
      rw [hk] at this
      exact (List.getElem?_eq_some_iff.1 this).2
    rw [goes_step (sgL_at (by omega)), right_signed hk hkn, hw, show (sgOne m who [] i).key = (k : Int) from hk, ih, Bool.true_and]
    rfl
theorem goes_all {n : Nat} {m : List Nat} {who : List Int} (hin : inR n who) : goes (certs n) m (-1) (sgL m who [] who.length) = incr (-1) who := by
  have := goes_who (m := m) hin who.length 0 (-1) (by omega)
  rwa [List.drop_zero, List.drop_zero] at this
theorem chk_all {n : Nat} {nd : Int} {m : List Nat} {who : List Int} (hin : inR n who) (h : n ≤ 5) (h1 : 1 ≤ n) (h2 : 1 ≤ nd) (h3 : nd ≤ n) : chkQ 4 2 nd (certs n) m (sgL m who [] who.length) = (decide (nd ≤ who.length) && incr (-1) who) := by
  unfold chkQ
  rw [may_certs h h1 h2 h3, goes_all hin, sgL_len, Bool.true_and]
end Go.Sha
namespace Go.Proofs.YtkkfaffehbjdgaaGreatDoor
open Go Go.Vc Go.Sha

end Go.Proofs.YtkkfaffehbjdgaaGreatDoor
end
section
/- A cut behind a loop that has two ends (Tc2 has it of its own). -/
namespace Go.Vc
open Go
section
variable {P : Program} {n : Nat} {w0 : World} {S0 : List Nat} {Q : Exit → Act → World → Prop} {E : Env} {L : Hp}
/-- What is known behind a block. -/
theorem RC.midBY {c : Code} {id : Nat} {Y : Type} (Em : Y → Env) (Lm : Y → Hp) (h1 : RC P n w0 S0 c (Exit.inBlock id (Exit.then (fun a w => ∃ y, St n (Em y) a ∧ Mem w0 S0 (Lm y) w) Q)) E L) (h2 : ∀ y, RQ n w0 S0 .normal Q (Em y) (Lm y)) : RC P n w0 S0 c (Exit.inBlock id Q) E L := by
  intro a w hs hm
  refine wp_mono (h1 a w hs hm) ?_
  intro e a' w' h
  cases e with
  | normal => obtain ⟨y, h3, h4⟩ := h; exact h2 y a' w' h3 h4
  | exit i =>
    show (if i = id then Q .normal a' w' else Q (.exit i) a' w')
    change (if i = id then (∃ y, St n (Em y) a' ∧ Mem w0 S0 (Lm y) w') else Q (.exit i) a' w') at h
    split
    · rw [if_pos (by assumption)] at h; obtain ⟨y, h3, h4⟩ := h; exact h2 y a' w' h3 h4
    · rw [if_neg (by assumption)] at h; exact h
  | _ => exact h
theorem RQ.midB {Y : Type} {Em : Y → Env} {Lm : Y → Hp} (y : Y) (hE : Env.le (Em y) E) {L1 : Hp} (hp : L.Perm L1) (hL : (Lm y).Sublist L1) : RQ n w0 S0 .normal (Exit.then (fun a w => ∃ y, St n (Em y) a ∧ Mem w0 S0 (Lm y) w) Q) E L :=
  fun _ _ hs hm => ⟨y, hs.weak hE, (hm.perm hp).sublist hL⟩
end
end Go.Vc
end
section
/- cert: End, Make. -/
namespace Go.Proofs.YtkkfaffehbjdgaaGreatDoor
attribute [local irreducible] Go.Vc.Run Go.Vc.RC Go.Vc.RQ Go.Vc.DR Go.Vc.DOp Go.Vc.Knows Go.Vc.At
set_option maxHeartbeats 400000
set_option maxRecDepth 10000
open Go Go.Vc Go.Sha
def endB : By 8 := ⟨[101, 1, 0, 0, 0, 0, 0, 0], rfl, by decide⟩
set_option maxRecDepth 10000 in set_option maxHeartbeats 4000000 in
theorem End_calls (w : World) : Gives Tryz.prog 11 [] (.agg (u8s endB.1).toArray) w := by
  refine enter Tryz.func11 rfl (Mem.nil w []) rfl ?_
  refine x_ ?_
  refine Run.nw nal ?_
  intro b0
  refine x_ ?_
  refine Run.a (vba (u8s endB.1).toArray) ?_
  refine Run.op1 (osa (arr := ti32.zero.cells) (u8s endB.1).toArray (u8s_one _)) (fun _ => ?_)
  refine x_ ?_
  exact RQ.ret1 rfl (Res.cellAll tabOk rfl rfl rfl m0 rfl) fun w' hm => ⟨rfl, hm.fr⟩
/-- An out of a plan. -/
def outI (i : Nat) (a : Int) : OutD := ⟨⟨[1, i % 256, 0, 0, 0, 0, 0, 0], rfl, fun x hx => by
  simp only [List.mem_cons, List.not_mem_nil, or_false] at hx
  rcases hx with rfl | rfl | rfl | rfl | rfl | rfl | rfl | rfl
  all_goals omega⟩, a⟩
def outsI (l : List Int) : List OutD := l.mapIdx outI
def rootQ (q : Nat) : By 8 := ⟨[114, q % 256, 0, 0, 0, 0, 0, 0], rfl, fun x hx => by
  simp only [List.mem_cons, List.not_mem_nil, or_false] at hx
  rcases hx with rfl | rfl | rfl | rfl | rfl | rfl | rfl | rfl
  all_goals omega⟩
/-- A signature of the one kind as of the other. -/
def Sg.D (s : Sg) : SgD := ⟨s.key, s.z, ⟨s.op, s.h1, s.h1'⟩, ⟨s.sh, s.h2, s.h2'⟩, ⟨s.pa, s.h3, s.h3'⟩⟩
theorem rowD (l : List Sg) : rws SgD.c (l.map Sg.D) = rowSg l := by
  unfold rws rowSg
  rw [List.map_map]
  rfl
theorem outsI_succ {l : List Int} {k : Nat} {a : Int} (h : l[k]? = some a) : outsI (l.take (k + 1)) = outsI (l.take k) ++ [outI k a] := by
  have hk := (List.getElem?_eq_some_iff.1 h).1
  unfold outsI
  rw [List.take_add_one, h]
  simp [List.mapIdx_append, List.length_take, Nat.min_eq_left (Nat.le_of_lt hk)]
/-- A plan's cells. -/
def planC (sd ep ql : Int) (va vw : Value) (bd : Nat) : List Value := [.int .i64 sd, .int .i64 ep, .int .i64 ql, va, vw, .int .u8 bd]
/-- The certificate of a plan, without signatures. -/
def crt0 (sd ep : Int) (ql : Nat) (ams : List Int) : CeD := ⟨sd, ep, ql, endB, rootQ ql, outsI ams, []⟩
/-- What is signed: its message, or another one. -/
noncomputable def msgC (c : CeD) (bd : Nat) : List Nat := if bd = 2 then bend (crtH c) else crtH c
noncomputable def crtP (sd ep : Int) (ql : Nat) (ams : List Int) (who : List Nat) (bd : Nat) : CeD := { crt0 sd ep ql ams with sg := (sgL (msgC (crt0 sd ep ql ams) bd) (who.map fun k : Nat => (k : Int)) [] who.length).map Sg.D }
theorem crtH_lt (c : CeD) : (crtH c).length = 8 ∧ ∀ z ∈ crtH c, z < 256 := by
  refine ⟨dgH_len _ _ _, ?_⟩
  unfold crtH dgH
  split
  · exact digest_lt _ _
  · intro z hz; rw [(List.mem_replicate.1 hz).2]; decide
theorem msgC_ok (c : CeD) (bd : Nat) : (msgC c bd).length = 8 ∧ ∀ z ∈ msgC c bd, z < 256 := by
  have h := crtH_lt c
  unfold msgC
  split
  · exact ⟨bend_len h.1, bend_lt h.2⟩
  · exact h
end Go.Proofs.YtkkfaffehbjdgaaGreatDoor
end
section
/- cert: Make. -/
namespace Go.Proofs.YtkkfaffehbjdgaaGreatDoor
attribute [local irreducible] Go.Vc.Run Go.Vc.RC Go.Vc.RQ Go.Vc.DR Go.Vc.DOp Go.Vc.Knows Go.Vc.At
set_option maxHeartbeats 400000
set_option maxRecDepth 10000
open Go Go.Vc Go.Sha
theorem ceK_r19 (sd ep ql : Int) (en ro : By 8) (u v : Value) : rdAt ti33 (ceK sd ep ql en ro u v).toArray 19 = some u := ce_r19 ⟨sd, ep, ql, en, ro, [], []⟩ u v
theorem outsI_len (l : List Int) : (outsI l).length = l.length := List.length_mapIdx
set_option maxRecDepth 10000 in set_option maxHeartbeats 4000000 in
theorem CMake_calls (sd ep : Int) (q : Nat) (hq : q < 2147483648) (ams : List Int) (hal : ams.length ≤ 64) (who : List Nat) (hwl : who.length ≤ 8) (hwb : ∀ k ∈ who, k < 256) (bd : Nat) (hbd : bd = 0 ∨ bd = 2) (va vw : Value) (w : World) (hsa : SrcW w 1 va ams.length (i64L ams)) (hsw : SrcW w 1 vw who.length (u8s who)) :
    MakesD Tryz.prog 10 [.agg (planC sd ep q va vw bd).toArray] w (fun y : (Option Addr × Nat) × (Option Addr × Nat) => .agg (ceC (crtP sd ep q ams who bd) (.slice y.1.1 ams.length y.1.2) (.slice y.2.1 who.length y.2.2)).toArray) (fun _ => True) (fun w y => SrcW w 9 (.slice y.1.1 ams.length y.1.2) ams.length (rws OutD.c (outsI ams)) ∧ SrcW w 282 (.slice y.2.1 who.length y.2.2) who.length (rws SgD.c (crtP sd ep q ams who bd).sg)) := by
  refine enter Tryz.func10 rfl (Mem.nil w []) rfl ?_
  obtain ⟨aa, ac, rfl, hac⟩ := hsa.shape
  obtain ⟨wa, wc, rfl, hwc⟩ := hsw.shape
  obtain ⟨PL, hPL⟩ : ∃ PL, PL = planC sd ep q (.slice aa ams.length ac) (.slice wa who.length wc) bd := ⟨_, rfl⟩
  have kE : Knows Tryz.prog w 11 [] (.agg (u8s endB.1).toArray) := Knows.mk Tryz.func11 (fun w' _ => End_calls w')
  have p0 : rdAt ti3 PL.toArray 0 = some (.int .i64 sd) := by rw [hPL]; exact rd_one rfl rfl
  have p1 : rdAt ti3 PL.toArray 1 = some (.int .i64 ep) := by rw [hPL]; exact rd_one rfl rfl
  have p2 : rdAt ti3 PL.toArray 2 = some (.int .i64 (q : Int)) := by rw [hPL]; exact rd_one rfl rfl
  have p3 : rdAt ti28 PL.toArray 3 = some (.slice aa ams.length ac) := by rw [hPL]; exact rd_one rfl rfl
  have p4 : rdAt ti22 PL.toArray 4 = some (.slice wa who.length wc) := by rw [hPL]; exact rd_one rfl rfl
  have p5' : rdAt ti5 PL.toArray 5 = some (.int .u8 (bd : Nat)) := by rw [hPL]; exact rd_one rfl rfl
  rw [← hPL]
  refine z_ ?_
  refine Run.nw nbx ?_
  intro b1
  refine x_ ?_
  refine Run.nw nal ?_
  intro b2
  refine x_ ?_
  refine RC.thenCut (Y := Nat) (fun b3 => [(3, .pointer (some ⟨b3, 0, none⟩)), (2, .pointer (some ⟨b2, 0, none⟩)), (1, .pointer (some ⟨b1, 0, none⟩))]) (fun b3 => [(b3, Obj.cells (ceK sd ep q endB (rootQ q) (.slice none 0 0) (.slice none 0 0)).toArray 36 (0, 0)), (b2, Obj.cells ti36.zero.cells 36 (0, 0)), (b1, Obj.cells PL.toArray 39 (0, 0))]) ?_ (fun b3 => ?_)
  · (repeat refine RC.seq ?_); refine RC.draw ([(b1, Obj.cells PL.toArray 39 (0, 0))]) mixed (N := 14) rfl ?_
    refine dy 0 ?_
    refine dy 1 ?_
    refine dy 2 ?_
    refine dy 3 ?_
    refine dy 4 ?_
    refine dy 5 ?_
    refine dy 7 ?_
    refine dy 8 ?_
    refine DR.t 9 rfl (Val.eq (Val.conv tabOk rfl rfl rfl rfl rfl rfl) (show _ = Value.int .u8 ((q % 256 : Nat) : Int) from congrArg (Value.int .u8) (by rw [wrap_u8]; rfl))) ?_
    refine DR.t 10 rfl (vba (u8s (rootQ q).1).toArray) ?_
    refine DR.two (i := 6) (j := 12) (by kernel_rfl) ?_ ?_
    · refine DOp.op1 rfl cvK (fun _ => ?_)
      refine DR.t 11 rfl (vbs (ceK sd ep q endB (rootQ q) (.slice none 0 0) (.slice none 0 0)).toArray) ?_
      refine DR.c 12 ?_
      refine DOp.op1 rfl (OpTo.new rfl rfl (nal)) ?_
      intro b3
      refine DR.c 13 ?_
      refine DOp.op1 rfl (osa (arr := ti36.zero.cells) (e := 36) (L' := [(b2, Obj.cells ti36.zero.cells 36 (0, 0)), (b1, Obj.cells PL.toArray 39 (0, 0))]) (ceK sd ep q endB (rootQ q) (.slice none 0 0) (.slice none 0 0)).toArray (ceK_one _ _ _ _ _ _ _ _ _ _ _) (hL := (perm_of fun f => by (simp only [List.map_append, List.map_cons, List.map_nil, List.sum_append, List.sum_cons, List.sum_nil] <;> omega)))) (fun _ => ?_)
      refine DR.done (by kernel_rfl) ?_
      exact RQ.toP b3 ⟨rfl, rfl, rfl, trivial⟩ (List.Perm.refl _) (by repeat (first | exact List.nil_sublist _ | exact List.Sublist.refl _ | apply List.Sublist.cons_cons | apply List.Sublist.cons | apply Go.Vc.subApp))
    · refine DOp.op1 rfl (OpTo.new rfl rfl (nal)) ?_
      intro b3
      refine DR.c 6 (DOp.op1 rfl cvK (fun _ => ?_))
      refine DR.t 11 rfl (vbs (ceK sd ep q endB (rootQ q) (.slice none 0 0) (.slice none 0 0)).toArray) ?_
      refine DR.c 13 ?_
      refine DOp.op1 rfl (osa (arr := ti36.zero.cells) (e := 36) (L' := [(b2, Obj.cells ti36.zero.cells 36 (0, 0)), (b1, Obj.cells PL.toArray 39 (0, 0))]) (ceK sd ep q endB (rootQ q) (.slice none 0 0) (.slice none 0 0)).toArray (ceK_one _ _ _ _ _ _ _ _ _ _ _) (hL := (perm_of fun f => by (simp only [List.map_append, List.map_cons, List.map_nil, List.sum_append, List.sum_cons, List.sum_nil] <;> omega)))) (fun _ => ?_)
      refine DR.done (by kernel_rfl) ?_
      exact RQ.toP b3 ⟨rfl, rfl, rfl, trivial⟩ (List.Perm.refl _) (by repeat (first | exact List.nil_sublist _ | exact List.Sublist.refl _ | apply List.Sublist.cons_cons | apply List.Sublist.cons | apply Go.Vc.subApp))
  refine x_ ?_
  refine RC.midBY (Y := {d : (Option Addr × Nat) × Hp // Own 49 9 (.slice d.1.1 ams.length d.1.2) ams.length (rws OutD.c (outsI ams)) d.2}) (fun _ => [(3, .pointer (some ⟨b3, 0, none⟩)), (2, .pointer (some ⟨b2, 0, none⟩)), (1, .pointer (some ⟨b1, 0, none⟩))]) (fun d => (b3, Obj.cells (ceK sd ep q endB (rootQ q) (.slice d.1.1.1 ams.length d.1.1.2) (.slice none 0 0)).toArray 36 (0, 0)) :: (d.1.2 ++ [(b2, Obj.cells ti36.zero.cells 36 (0, 0)), (b1, Obj.cells PL.toArray 39 (0, 0))])) ?_ (fun d => ?_)
  · refine RC.up ams.length (D := (Option Addr × Nat) × Hp) (fun k d => Own 49 9 (.slice d.1.1 k d.1.2) k (rws OutD.c (outsI (ams.take k))) d.2) (fun k d => [(4, .int .i64 k), (3, .pointer (some ⟨b3, 0, none⟩)), (2, .pointer (some ⟨b2, 0, none⟩)), (1, .pointer (some ⟨b1, 0, none⟩))]) (fun k d => (b3, Obj.cells (ceK sd ep q endB (rootQ q) (.slice d.1.1 k d.1.2) (.slice none 0 0)).toArray 36 (0, 0)) :: (d.2 ++ [(b2, Obj.cells ti36.zero.cells 36 (0, 0)), (b1, Obj.cells PL.toArray 39 (0, 0))])) 0 ((none, 0), []) (Nat.zero_le _) Own.nil ⟨rfl, rfl, rfl, rfl, trivial⟩ (List.Sublist.refl _) ?_
    rintro k ⟨⟨xa, xc⟩, xl⟩ hk hown
    dsimp only at hown ⊢
    by_cases hk' : k < ams.length
    · obtain ⟨am, hx⟩ : ∃ am, ams[k]? = some am := ⟨_, List.getElem?_eq_getElem hk'⟩
      obtain ⟨ad, c', hv', hc', hcl, hr⟩ := hsa.pos (by omega)
      cases hv'
      have hcx : w.cell? (ad.add (k * 1)) = some (.int .i64 am) := by
        rw [Nat.mul_one]
        exact hr k _ (by unfold i64L; rw [List.getElem?_map, hx]; rfl)
      have r19 := ceK_r19 sd ep q endB (rootQ q) (.slice xa k xc) (.slice none 0 0)
      refine x_ ?_
      (repeat refine RC.seq ?_); refine RC.draw ([(b3, Obj.cells (ceK sd ep q endB (rootQ q) (.slice xa k xc) (.slice none 0 0)).toArray 36 (0, 0)), (b1, Obj.cells PL.toArray 39 (0, 0))]) mixed (N := 15) rfl ?_
      refine dy 0 ?_
      refine dy 1 ?_
      refine dy 2 ?_
      refine DR.t 3 rfl (Val.eq (Val.conv tabOk rfl rfl rfl rfl rfl rfl) (show _ = Value.int .u8 ((k % 256 : Nat) : Int) from congrArg (Value.int .u8) (by rw [wrap_u8]; rfl))) ?_
      refine DR.t 4 rfl (vba (u8s (outI k am).t.1).toArray) ?_
      refine dy 5 ?_
      refine dy 6 ?_
      refine dy 7 ?_
      refine DR.t 8 rfl (vixA) ?_
      refine dy 9 ?_
      refine DR.t 10 rfl (vbs (outI k am).c.toArray (hf := by exact fill_two' (F := (outI k am).c) (a := 8) (b := 1) rfl rfl rfl rfl (by decide) rfl)) ?_
      refine DR.c 11 ?_
      refine DOp.op1 rfl (OpTo.new rfl rfl (nbsl (outI k am).c.toArray (fillS_1 9 _ (outI k am).c (OutD.len _)))) ?_
      intro b14
      refine DR.c 12 (DOp.op1 rfl (OpTo.append (L1 := (b14, Obj.cells (outI k am).c.toArray 49 (0, 0)) :: ((b3, Obj.cells (ceK sd ep q endB (rootQ q) (.slice xa k xc) (.slice none 0 0)).toArray 36 (0, 0)) :: [(b2, Obj.cells ti36.zero.cells 36 (0, 0)), (b1, Obj.cells PL.toArray 39 (0, 0))])) tabOk hown (Src.at ⟨b14, 0, none⟩ 1 1 ((outI k am).c) (by rw [OutD.len]; rfl) (Rd.rowAll m0)) rfl rfl rfl rfl rfl rfl rfl rfl rfl (perm_of fun f => by (simp only [List.map_append, List.map_cons, List.map_nil, List.sum_append, List.sum_cons, List.sum_nil] <;> omega)) (OutD.one _) (by unfold maxLen; omega) (by simp only [ti49]; omega)) ?_)
      rintro ⟨⟨v15, l15⟩, h15⟩
      dsimp only at h15 ⊢
      obtain ⟨xa2, xc2, rfl, hxc2⟩ := h15.shape
      refine dy 13 ?_
      refine DR.c 14 ?_
      refine DOp.op1 rfl (ostE (arr := (ceK sd ep q endB (rootQ q) (.slice xa k xc) (.slice none 0 0)).toArray) (e := 36) (L' := l15 ++ ((b14, Obj.cells (outI k am).c.toArray 49 (0, 0)) :: [(b2, Obj.cells ti36.zero.cells 36 (0, 0)), (b1, Obj.cells PL.toArray 39 (0, 0))])) (ceK sd ep q endB (rootQ q) (.slice xa2 (k + 1) xc2) (.slice none 0 0)).toArray (hL := (perm_of fun f => by (simp only [List.map_append, List.map_cons, List.map_nil, List.sum_append, List.sum_cons, List.sum_nil] <;> omega))) (he := by exact ce_w19 _ _ _ _ _ _ _ _) (hf := by rw [List.size_toArray, ceK_len]; decide) (h1 := by exact one_s _ _ _)) (fun _ => ?_)
      refine DR.done (by kernel_rfl) ?_
      refine x_ ?_
      exact RQ.upP (k + 1) ((xa2, xc2), l15) (Nat.lt_succ_self _) hk' (by dsimp only; rw [outsI_succ hx, rws_app, rws_one]; exact h15) ⟨rfl, rfl, rfl, rfl, trivial⟩ (L1 := ((b3, Obj.cells (ceK sd ep q endB (rootQ q) (.slice xa2 (k + 1) xc2) (.slice none 0 0)).toArray 36 (0, 0)) :: (l15 ++ [(b2, Obj.cells ti36.zero.cells 36 (0, 0)), (b1, Obj.cells PL.toArray 39 (0, 0))])) ++ [(b14, Obj.cells (outI k am).c.toArray 49 (0, 0))]) (perm_of fun f => by (simp only [List.map_append, List.map_cons, List.map_nil, List.sum_append, List.sum_cons, List.sum_nil] <;> omega)) (List.sublist_append_left _ _)
    · obtain rfl : k = ams.length := by omega
      rw [List.take_length] at hown
      refine x_ ?_
      exact RQ.midB ⟨((xa, xc), xl), hown⟩ ⟨rfl, rfl, rfl, trivial⟩ (List.Perm.refl _) (List.Sublist.refl _)
  obtain ⟨⟨⟨xa, xc⟩, xl⟩, hown⟩ := d
  dsimp only at hown ⊢
  have hR := fun w' (hw : Has xl w') => RCertM_calls (crt0 sd ep q ams) xa xc none 0 0 (by show (outsI ams).length ≤ 4096; rw [outsI_len]; omega) w' (by show SrcW w' 9 (.slice xa (outsI ams).length xc) (outsI ams).length (rws OutD.c (outsI ams)); rw [outsI_len]; exact hown.srcW hw)
  have hceE : ceC (crt0 sd ep q ams) (.slice xa (crt0 sd ep q ams).os.length xc) (.slice none 0 0) = ceK sd ep q endB (rootQ q) (.slice xa ams.length xc) (.slice none 0 0) := by
    rw [ceK_eq]
    show ceK sd ep q endB (rootQ q) (.slice xa (outsI ams).length xc) (.slice none 0 0) = _
    rw [outsI_len]
  rw [hceE] at hR
  have hm8 := crtH_lt (crt0 sd ep q ams)
  have hMok := msgC_ok (crt0 sd ep q ams) bd
  have hM8 : (u8s (crtH (crt0 sd ep q ams))).toArray.size = 8 := by rw [List.size_toArray, u8s_len, hm8.1]
  have hck21 : (ceK sd ep q endB (rootQ q) (.slice xa ams.length xc) (.slice none 0 0)).toArray.size = 21 := by rw [List.size_toArray, ceK_len]
  refine x_ ?_
  refine Run.op1 (OpTo.cv Tryz.func24 (fun w' hm => hR w' (fun p hp => hm.has p (List.mem_cons_of_mem _ (List.mem_append_left _ hp))))) (fun _ => ?_)
  refine x_ ?_
  refine Run.nw nal ?_
  intro b5
  refine x_ ?_
  refine Run.op1 (osa (arr := ti32.zero.cells) (e := 32) (L' := (b3, Obj.cells (ceK sd ep q endB (rootQ q) (.slice xa ams.length xc) (.slice none 0 0)).toArray 36 (0, 0)) :: (xl ++ [(b2, Obj.cells ti36.zero.cells 36 (0, 0)), (b1, Obj.cells PL.toArray 39 (0, 0))])) (u8s (crtH (crt0 sd ep q ams))).toArray (u8s_one _) (hL := (perm_of fun f => by (simp only [List.map_append, List.map_cons, List.map_nil, List.sum_append, List.sum_cons, List.sum_nil] <;> omega))) (hs := by exact hM8)) (fun _ => ?_)
  refine x_ ?_
  refine RC.thenCut (Y := Unit) (fun _ => [(5, .pointer (some ⟨b5, 0, none⟩)), (3, .pointer (some ⟨b3, 0, none⟩)), (2, .pointer (some ⟨b2, 0, none⟩)), (1, .pointer (some ⟨b1, 0, none⟩))]) (fun _ => (b5, Obj.cells (u8s (msgC (crt0 sd ep q ams) bd)).toArray 32 (0, 0)) :: ((b3, Obj.cells (ceK sd ep q endB (rootQ q) (.slice xa ams.length xc) (.slice none 0 0)).toArray 36 (0, 0)) :: (xl ++ [(b2, Obj.cells ti36.zero.cells 36 (0, 0)), (b1, Obj.cells PL.toArray 39 (0, 0))]))) ?_ (fun _ => ?_)
  · generalize hmm : (crtH (crt0 sd ep q ams)) = m at hm8 hM8
    refine RC.cond rfl (fun h => ?_) (fun h => ?_)
    · have hb2 : bd = 2 := by
        rcases hbd with rfl | rfl
        · exact absurd h (by decide)
        · rfl
      have hM : (msgC (crt0 sd ep q ams) bd) = bend m := by rw [← hmm]; exact if_pos hb2
      rw [hM]
      obtain ⟨o1, o2⟩ := bend_old hm8.1
      have h0 : (u8s m).toArray[0]? = some (.int .u8 (m.getD 0 0 : Nat)) := by rw [List.getElem?_toArray]; exact u8s_at m 0 (by have := hm8.1; omega)
      have hlt0 : m.getD 0 0 < 256 := by
        have := hm8.1
        rw [List.getD_eq_getElem?_getD, List.getElem?_eq_getElem (by omega)]
        exact hm8.2 _ (List.getElem_mem _)
      (repeat refine RC.seq ?_); refine RC.region ?_
      refine Run.a (Val.ix tabOk 0 (off' := 0) rfl rfl rfl rfl rfl rfl rfl (by decide) rfl) ?_
      refine Run.a (Val.load (v := .int .u8 (m.getD 0 0 : Nat)) tabOk rfl rfl rfl m0 h0) ?_
      refine Run.a (Val.xorB (b := 1) rfl rfl rfl hlt0 (by decide)) ?_
      refine Run.a (Val.ix tabOk 0 (off' := 0) rfl rfl rfl rfl rfl rfl rfl (by decide) rfl) ?_
      refine Run.op1 (OpTo.setV tabOk [] [.int .u8 (m.getD 0 0 : Nat)] [.int .u8 (Nat.xor (m.getD 0 0) 1 : Nat)] (u8s (m.drop 1)) rfl rfl rfl rfl rfl (List.Perm.refl _) rfl o1 rfl rfl rfl (by intro u hu; rw [List.mem_singleton] at hu; subst hu; rfl)) (fun _ => ?_)
      rw [o2]
      exact Run.nil (RQ.to () ⟨rfl, rfl, rfl, rfl, trivial⟩ (List.Sublist.refl _))
    · have hb2 : ¬ bd = 2 := fun e => by subst e; exact absurd h (by decide)
      have hM : (msgC (crt0 sd ep q ams) bd) = m := by rw [← hmm]; exact if_neg hb2
      rw [hM]
      exact RC.skip (RQ.to () ⟨rfl, rfl, rfl, rfl, trivial⟩ (List.Sublist.refl _))
  generalize hmm : (msgC (crt0 sd ep q ams) bd) = m at hMok
  have hm8' : (u8s m).toArray.size = 8 := by rw [List.size_toArray, u8s_len, hMok.1]
  refine x_ ?_
  refine RC.up who.length (D := (Option Addr × Nat) × Hp) (fun k d => Own 3 1 (.slice d.1.1 k d.1.2) k (i64L ((who.take k).map fun k : Nat => (k : Int))) d.2) (fun k d => [(8, .int .i64 k), (7, .slice d.1.1 k d.1.2), (5, .pointer (some ⟨b5, 0, none⟩)), (3, .pointer (some ⟨b3, 0, none⟩)), (2, .pointer (some ⟨b2, 0, none⟩)), (1, .pointer (some ⟨b1, 0, none⟩))]) (fun _ d => (b5, Obj.cells (u8s m).toArray 32 (0, 0)) :: (d.2 ++ ((b3, Obj.cells (ceK sd ep q endB (rootQ q) (.slice xa ams.length xc) (.slice none 0 0)).toArray 36 (0, 0)) :: (xl ++ [(b2, Obj.cells ti36.zero.cells 36 (0, 0)), (b1, Obj.cells PL.toArray 39 (0, 0))])))) 0 ((none, 0), []) (Nat.zero_le _) Own.nil ⟨rfl, rfl, rfl, rfl, rfl, rfl, trivial⟩ (List.Sublist.refl _) ?_
  rintro k ⟨⟨ya, yc⟩, yl⟩ hk hown2
  dsimp only at hown2 ⊢
  by_cases hk' : k < who.length
  · obtain ⟨x, hx⟩ : ∃ x, who[k]? = some x := ⟨_, List.getElem?_eq_getElem hk'⟩
    have hx8 := hwb x (List.mem_of_getElem? hx)
    obtain ⟨ad, c', hv', hc', hcl, hr⟩ := hsw.pos (by omega)
    cases hv'
    have hcx : w.cell? (ad.add (k * 1)) = some (.int .u8 (x : Nat)) := by
      rw [Nat.mul_one]
      exact hr k _ (by unfold u8s; rw [List.getElem?_map, hx]; rfl)
    refine x_ ?_
    refine Run.nw (nbsk (parts := [(0, .tmp 83)]) #[.int .i64 (x : Nat)]) ?_
    intro b84
    refine Run.op1 (OpTo.append (L1 := (b84, Obj.cells #[.int .i64 (x : Nat)] 3 (0, 0)) :: ((b5, Obj.cells (u8s m).toArray 32 (0, 0)) :: ((b3, Obj.cells (ceK sd ep q endB (rootQ q) (.slice xa ams.length xc) (.slice none 0 0)).toArray 36 (0, 0)) :: (xl ++ [(b2, Obj.cells ti36.zero.cells 36 (0, 0)), (b1, Obj.cells PL.toArray 39 (0, 0))])))) tabOk hown2 (Src.at ⟨b84, 0, none⟩ 1 1 [.int .i64 (x : Nat)] rfl (Rd.rowAll m0)) rfl rfl rfl rfl rfl rfl rfl rfl rfl (perm_of fun f => by (simp only [List.map_append, List.map_cons, List.map_nil, List.sum_append, List.sum_cons, List.sum_nil] <;> omega)) (by intro u hu; rw [List.mem_singleton] at hu; subst hu; rfl) (by unfold maxLen; omega) (by simp only [ti3]; omega)) ?_
    rintro ⟨⟨v15, l15⟩, h15⟩
    dsimp only at h15 ⊢
    obtain ⟨ya2, yc2, rfl, hyc2⟩ := h15.shape
    refine x_ ?_
    exact RQ.upP (k + 1) ((ya2, yc2), l15) (Nat.lt_succ_self _) hk' (by dsimp only; rw [List.take_add_one, hx, List.map_append]; unfold i64L at h15 ⊢; rw [List.map_append]; exact h15) ⟨rfl, rfl, rfl, rfl, rfl, rfl, trivial⟩ (L1 := ((b5, Obj.cells (u8s m).toArray 32 (0, 0)) :: (l15 ++ ((b3, Obj.cells (ceK sd ep q endB (rootQ q) (.slice xa ams.length xc) (.slice none 0 0)).toArray 36 (0, 0)) :: (xl ++ [(b2, Obj.cells ti36.zero.cells 36 (0, 0)), (b1, Obj.cells PL.toArray 39 (0, 0))])))) ++ [(b84, Obj.cells #[.int .i64 (x : Nat)] 3 (0, 0))]) (perm_of fun f => by (simp only [List.map_append, List.map_cons, List.map_nil, List.sum_append, List.sum_cons, List.sum_nil] <;> omega)) (List.sublist_append_left _ _)
  · obtain rfl : k = who.length := by omega
    rw [List.take_length] at hown2
    have hSg : ∀ w', Has yl w' → Makes Tryz.prog 25 [.agg (u8s m).toArray, .slice ya who.length yc, .slice none 0 0] w' 102 282 who.length (rowSg (sgL m (who.map fun k : Nat => (k : Int)) [] who.length)) := fun w' hw => by
      have h1 := hown2.srcW hw
      have h2 := Signed_calls m hMok.1 hMok.2 (who.map fun k : Nat => (k : Int)) (by rw [List.length_map]; exact hwl) [] (by decide) (.slice ya who.length yc) (.slice none 0 0) w' (by rw [List.length_map]; exact h1) .nil
      rw [List.length_map] at h2
      exact h2
    refine x_ ?_
    refine Run.op1 (OpTo.callMk Tryz.func25 rfl rfl rfl rfl rfl rfl (fun w' hm => hSg w' (fun p hp => hm.has p (List.mem_cons_of_mem _ (List.mem_append_left _ hp))))) ?_
    rintro ⟨⟨v88, l88⟩, h88⟩
    dsimp only at h88 ⊢
    obtain ⟨ga, gc, rfl, hgc⟩ := h88.shape
    have hF : (ceK sd ep q endB (rootQ q) (.slice xa ams.length xc) (.slice ga who.length gc)).toArray.size = 21 := by rw [List.size_toArray, ceK_len]
    refine x_ ?_
    refine Run.op1 (ostE (arr := (ceK sd ep q endB (rootQ q) (.slice xa ams.length xc) (.slice none 0 0)).toArray) (e := 36) (L' := l88 ++ ((b5, Obj.cells (u8s m).toArray 32 (0, 0)) :: (yl ++ (xl ++ [(b2, Obj.cells ti36.zero.cells 36 (0, 0)), (b1, Obj.cells PL.toArray 39 (0, 0))])))) (ceK sd ep q endB (rootQ q) (.slice xa ams.length xc) (.slice ga who.length gc)).toArray (hL := (perm_of fun f => by (simp only [List.map_append, List.map_cons, List.map_nil, List.sum_append, List.sum_cons, List.sum_nil] <;> omega))) (he := by exact ce_w20 _ _ _ _ _ _ _ _) (hf := by rw [List.size_toArray, ceK_len]; decide) (h1 := by exact one_s _ _ _)) (fun _ => ?_)
    refine x_ ?_
    refine Run.op1 (osa (arr := ti36.zero.cells) (e := 36) (L' := (b3, Obj.cells (ceK sd ep q endB (rootQ q) (.slice xa ams.length xc) (.slice ga who.length gc)).toArray 36 (0, 0)) :: (l88 ++ ((b5, Obj.cells (u8s m).toArray 32 (0, 0)) :: (yl ++ (xl ++ [(b1, Obj.cells PL.toArray 39 (0, 0))]))))) (ceK sd ep q endB (rootQ q) (.slice xa ams.length xc) (.slice ga who.length gc)).toArray (ceK_one _ _ _ _ _ _ _ _ _ _ _) (hL := (perm_of fun f => by (simp only [List.map_append, List.map_cons, List.map_nil, List.sum_append, List.sum_cons, List.sum_nil] <;> omega))) (hs := by exact hF)) (fun _ => ?_)
    refine x_ ?_
    refine RQ.ret1 rfl (Res.cellAll tabOk rfl rfl rfl m0 hF) fun w' hm => ?_
    have hm' := hm.perm (show (_ : Hp).Perm ((l88 ++ xl) ++ ((b2, Obj.cells (ceK sd ep q endB (rootQ q) (.slice xa ams.length xc) (.slice ga who.length gc)).toArray 36 (0, 0)) :: ((b3, Obj.cells (ceK sd ep q endB (rootQ q) (.slice xa ams.length xc) (.slice ga who.length gc)).toArray 36 (0, 0)) :: ((b5, Obj.cells (u8s m).toArray 32 (0, 0)) :: (yl ++ [(b1, Obj.cells PL.toArray 39 (0, 0))]))))) from (perm_of fun f => by (simp only [List.map_append, List.map_cons, List.map_nil, List.sum_append, List.sum_cons, List.sum_nil] <;> omega)))
    exact MakesD.ofApp (V := fun y : (Option Addr × Nat) × (Option Addr × Nat) => .agg (ceC (crtP sd ep q ams who bd) (.slice y.1.1 ams.length y.1.2) (.slice y.2.1 who.length y.2.2)).toArray) (bl := l88 ++ xl) ((xa, xc), (ga, gc)) hm' trivial (fun w hw => ⟨hown.srcW hw.right, by
      have := h88.srcW hw.left
      rw [← rowD, ← hmm] at this
      exact this⟩)
end Go.Proofs.YtkkfaffehbjdgaaGreatDoor
end
section
/- registry: Copy. -/
namespace Go.Proofs.YtkkfaffehbjdgaaGreatDoor
attribute [local irreducible] Go.Vc.Run Go.Vc.RC Go.Vc.RQ Go.Vc.DR Go.Vc.DOp
open Go Go.Vc Go.Sha
end Go.Proofs.YtkkfaffehbjdgaaGreatDoor
end
