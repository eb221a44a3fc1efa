/- quorum's law: awake; QuorumMay, QuorumChecks. -/
import Derived.Test.YtnhnihkpacibgaaQuF
import Derived.Test.YtnhnihkpacibgaaTre4
namespace Go.Sha
open Go.Vc (insI)
theorem certs_five : certs 5 = [treeOf [113, 0, 0, 0, 0, 0, 0, 0], treeOf [113, 1, 0, 0, 0, 0, 0, 0], treeOf [113, 2, 0, 0, 0, 0, 0, 0], treeOf [113, 3, 0, 0, 0, 0, 0, 0], treeOf [113, 4, 0, 0, 0, 0, 0, 0]] := rfl
theorem certs_take {n : Nat} (h : n ≤ 5) : certs n = (certs 5).take n := by
  unfold certs
  rw [← List.map_take, List.take_range, Nat.min_eq_left h]
theorem kOk_five : kOk (certs 5) = true := by
  rw [certs_five, tree0, tree1, tree2, tree3, tree4]
  decide
theorem kOk_certs {n : Nat} (h : n ≤ 5) : kOk (certs n) = true := by
  have h5 := of_decide_eq_true kOk_five
  rw [certs_take h]
  exact decide_eq_true ⟨fun hm => h5.1 (List.mem_of_mem_take hm), h5.2.sublist (List.take_sublist _ _)⟩
theorem may_certs {n : Nat} {nd : Int} (h : n ≤ 5) (h1 : 1 ≤ n) (h2 : 1 ≤ nd) (h3 : nd ≤ n) : mayP 4 2 nd (certs n) = true :=
  mayP_good (by rw [certs_len]; omega) (kOk_certs h) (by omega)
theorem right_signed {n k i : Nat} {m : List Nat} {who : List Int} (hk : who.getD i 0 = (k : Int)) (hkn : k < n) : rightS (certs n) m (sgOne m who [] i) = true := by
  rw [rightS_good (s := sgOne m who [] i) hk (certs_at hkn)]
  show checkT (treeOf (seedQ (k : Int))) m ((i % 8 : Nat) : Int) (rowOf (opened (seedQ (who.getD i 0)) (i % 8) (msgQ m [] i)) 16) (rowOf (shutd (seedQ (who.getD i 0)) (i % 8) (msgQ m [] i)) 16) (wayOf (seedQ (who.getD i 0)) (i % 8)).flatten = true
  rw [hk, msgQ_nil]
  exact checkT_signed (seedQ k) m (Nat.mod_lt _ (by decide))
/-- Numbers that go up. -/
def incr : Int → List Int → Bool
  | _, [] => true
  | last, k :: r => decide (last < k) && incr k r
theorem sgL_at {m : List Nat} {who : List Int} {bent : List Bool} {n i : Nat} (h : i < n) : (sgL m who bent n)[i]? = some (sgOne m who bent i) := by simp [sgL, h]
def inR (n : Nat) (who : List Int) : Prop := ∀ i, i < who.length → ∃ k : Nat, who.getD i 0 = (k : Int) ∧ k < n
theorem goes_who {n : Nat} {m : List Nat} {who : List Int} (hin : inR n who) : ∀ (d i : Nat) (last : Int), i + d = who.length → goes (certs n) m last ((sgL m who [] who.length).drop i) = incr last (who.drop i)
  | 0, i, last, h => by
    rw [List.drop_of_length_le (by rw [sgL_len]; omega), List.drop_of_length_le (by omega)]
    rfl
  | d + 1, i, last, h => by
    obtain ⟨k, hk, hkn⟩ := hin i (by omega)
    have ih := goes_who (m := m) hin d (i + 1) (k : Int) (by omega)
    have hw : who.drop i = (k : Int) :: who.drop (i + 1) := by
      rw [List.drop_eq_getElem_cons (show i < who.length by omega)]
      congr 1
      have := getD_some (l := who) (i := i) (by omega) 0
      rw [hk] at this
      exact (List.getElem?_eq_some_iff.1 this).2
    rw [goes_step (sgL_at (by omega)), right_signed hk hkn, hw, show (sgOne m who [] i).key = (k : Int) from hk, ih, Bool.true_and]
    rfl
def dist (who : List Int) : List Int := who.foldl (fun ks k => insI k ks) []
theorem cnt_who {n : Nat} {m : List Nat} {who : List Int} (hin : inR n who) : ∀ i, i ≤ who.length → cntK (certs n) m ((sgL m who [] who.length).take i) = dist (who.take i)
  | 0, _ => by simp [cntK, dist]
  | i + 1, h => by
    obtain ⟨k, hk, hkn⟩ := hin i (by omega)
    rw [cntK_step (sgL_at (by omega)), cnt_who hin i (by omega), right_signed hk hkn, if_pos rfl]
    unfold dist
    rw [List.take_add_one, getD_some (l := who) (i := i) (by omega) 0, Option.toList_some, List.foldl_append]
    rfl
theorem goes_all {n : Nat} {m : List Nat} {who : List Int} (hin : inR n who) : goes (certs n) m (-1) (sgL m who [] who.length) = incr (-1) who := by
  have := goes_who (m := m) hin who.length 0 (-1) (by omega)
  rwa [List.drop_zero, List.drop_zero] at this
theorem cnt_all {n : Nat} {m : List Nat} {who : List Int} (hin : inR n who) : cntK (certs n) m (sgL m who [] who.length) = dist who := by
  have := cnt_who (m := m) hin who.length (Nat.le_refl _)
  rwa [List.take_of_length_le (by rw [sgL_len]; omega), List.take_length] at this
theorem chk_all {n : Nat} {nd : Int} {m : List Nat} {who : List Int} (hin : inR n who) (h : n ≤ 5) (h1 : 1 ≤ n) (h2 : 1 ≤ nd) (h3 : nd ≤ n) : chkQ 4 2 nd (certs n) m (sgL m who [] who.length) = (decide (nd ≤ who.length) && incr (-1) who) := by
  unfold chkQ
  rw [may_certs h h1 h2 h3, goes_all hin, sgL_len, Bool.true_and]
end Go.Sha
namespace Go.Proofs.Ytnhnihkpacibgaa
open Go Go.Vc Go.Sha

end Go.Proofs.Ytnhnihkpacibgaa
