import Derived.Test.YtnhnihkpacibgaaQuC
/- quorum: right, Check, Count, and the reference's. -/
namespace Go.Sha
open Go.Vc (insI)
/-- Whether a signature is right. -/
def rightS (l : List (List Nat)) (m : List Nat) (s : Sg) : Bool := if 0 ≤ s.key ∧ s.key < l.length then checkT (l.getD s.key.toNat []) m s.z s.op s.sh s.pa else false
theorem rightS_bad {l : List (List Nat)} {m : List Nat} {s : Sg} (h : ¬ (0 ≤ s.key ∧ s.key < l.length)) : rightS l m s = false := by unfold rightS; rw [if_neg h]
theorem rightS_good {l : List (List Nat)} {m : List Nat} {s : Sg} {k : Nat} {y : List Nat} (h : s.key = k) (hy : l[k]? = some y) : rightS l m s = checkT y m s.z s.op s.sh s.pa := by
  have hk := (List.getElem?_eq_some_iff.1 hy).1
  unfold rightS
  rw [if_pos (by omega), h, Int.toNat_natCast, List.getD_eq_getElem?_getD, hy]
  rfl
theorem rightS_in {l : List (List Nat)} {m : List Nat} {s : Sg} (h : rightS l m s = true) : 0 ≤ s.key ∧ s.key < l.length := by
  unfold rightS at h
  split at h
  · assumption
  · cases h
/-- Signatures in order, all right. -/
def goes (l : List (List Nat)) (m : List Nat) : Int → List Sg → Bool
  | _, [] => true
  | last, s :: r => decide (last < s.key) && (rightS l m s && goes l m s.key r)
theorem goes_step {l : List (List Nat)} {m : List Nat} {last : Int} {ss : List Sg} {i : Nat} {s : Sg} (h : ss[i]? = some s) : goes l m last (ss.drop i) = (decide (last < s.key) && (rightS l m s && goes l m s.key (ss.drop (i + 1)))) := by
  have hi := (List.getElem?_eq_some_iff.1 h).1
  have h2 := (List.getElem?_eq_some_iff.1 h).2
  rw [List.drop_eq_getElem_cons hi, h2]
  rfl
theorem goes_few {l : List (List Nat)} {m : List Nat} : ∀ (ss : List Sg) (last : Int), -1 ≤ last → goes l m last ss = true → (ss.length : Int) ≤ l.length - (last + 1) ∨ ss = []
  | [], _, _, _ => .inr rfl
  | s :: r, last, hl, h => by
    simp only [goes, Bool.and_eq_true, decide_eq_true_eq] at h
    obtain ⟨h1, h2, h3⟩ := h
    have h4 := rightS_in h2
    left
    rcases goes_few r s.key (by omega) h3 with h5 | rfl
    · rw [List.length_cons]; omega
    · simp only [List.length_cons, List.length_nil]; omega
/-- Whether they are enough. -/
def chkQ (ln wd nd : Int) (l : List (List Nat)) (m : List Nat) (ss : List Sg) : Bool := mayP ln wd nd l && (decide (nd ≤ ss.length) && goes l m (-1) ss)
theorem chkQ_may {ln wd nd : Int} {l : List (List Nat)} {m : List Nat} {ss : List Sg} (h : mayP ln wd nd l = false) : chkQ ln wd nd l m ss = false := by unfold chkQ; rw [h]; rfl
theorem chkQ_few {ln wd nd : Int} {l : List (List Nat)} {m : List Nat} {ss : List Sg} (h : ¬ nd ≤ ss.length) : chkQ ln wd nd l m ss = false := by unfold chkQ; rw [decide_eq_false h]; simp
theorem chkQ_goes {ln wd nd : Int} {l : List (List Nat)} {m : List Nat} {ss : List Sg} (h1 : mayP ln wd nd l = true) (h2 : nd ≤ ss.length) : chkQ ln wd nd l m ss = goes l m (-1) ss := by unfold chkQ; rw [h1, decide_eq_true h2]; rfl
theorem chkQ_many {ln wd nd : Int} {l : List (List Nat)} {m : List Nat} {ss : List Sg} (h : l.length < ss.length) : chkQ ln wd nd l m ss = false := by
  cases hg : goes l m (-1) ss
  · unfold chkQ; rw [hg]; simp
  · rcases goes_few ss (-1) (Int.le_refl _) hg with h2 | rfl
    · omega
    · simp at h
/-- The keys that signed, by the program. -/
def cntK (l : List (List Nat)) (m : List Nat) (ss : List Sg) : List Int := ss.foldl (fun ks s => if rightS l m s = true then insI s.key ks else ks) []
theorem cntK_step {l : List (List Nat)} {m : List Nat} {ss : List Sg} {i : Nat} {s : Sg} (h : ss[i]? = some s) : cntK l m (ss.take (i + 1)) = if rightS l m s = true then insI s.key (cntK l m (ss.take i)) else cntK l m (ss.take i) := by
  unfold cntK
  rw [List.take_add_one, h, List.foldl_append]
  rfl
theorem insI_mem {z y : Int} {ks : List Int} : y ∈ insI z ks ↔ y = z ∨ y ∈ ks := by
  unfold insI
  split
  · rename_i h
    constructor
    · exact .inr
    · rintro (rfl | h2)
      · exact h
      · exact h2
  · rw [List.mem_append, List.mem_singleton]
    exact Or.comm
theorem insI_nodup {z : Int} {ks : List Int} (h : ks.Nodup) : (insI z ks).Nodup := by
  unfold insI
  split
  · exact h
  · rename_i hz
    refine List.nodup_append.2 ⟨h, by simp, ?_⟩
    intro a ha b hb
    rw [List.mem_singleton] at hb
    subst hb
    rintro rfl
    exact hz ha
theorem cntK_nodup (l : List (List Nat)) (m : List Nat) (ss : List Sg) : (cntK l m ss).Nodup := by
  have : ∀ (ss : List Sg) (ks : List Int), ks.Nodup → (ss.foldl (fun ks s => if rightS l m s = true then insI s.key ks else ks) ks).Nodup := by
    intro ss
    induction ss with
    | nil => exact fun _ h => h
    | cons s ss ih =>
      intro ks h
      rw [List.foldl_cons]
      apply ih
      split
      · exact insI_nodup h
      · exact h
  exact this ss [] List.nodup_nil
theorem cntK_mem (l : List (List Nat)) (m : List Nat) (ss : List Sg) (y : Int) : y ∈ cntK l m ss ↔ ∃ s ∈ ss, s.key = y ∧ rightS l m s = true := by
  have : ∀ (ss : List Sg) (ks : List Int), y ∈ ss.foldl (fun ks s => if rightS l m s = true then insI s.key ks else ks) ks ↔ y ∈ ks ∨ ∃ s ∈ ss, s.key = y ∧ rightS l m s = true := by
    intro ss
    induction ss with
    | nil => intro ks; simp
    | cons s ss ih =>
      intro ks
      rw [List.foldl_cons, ih]
      constructor
      · rintro (h | ⟨t, ht, h⟩)
        · split at h
          · rename_i hr
            rcases insI_mem.1 h with rfl | h
            · exact .inr ⟨s, List.mem_cons_self, rfl, hr⟩
            · exact .inl h
          · exact .inl h
        · exact .inr ⟨t, List.mem_cons_of_mem _ ht, h⟩
      · rintro (h | ⟨t, ht, h1, h2⟩)
        · left
          split
          · exact insI_mem.2 (.inr h)
          · exact h
        · rcases List.mem_cons.1 ht with rfl | ht
          · left
            rw [if_pos h2]
            exact insI_mem.2 (.inl h1.symm)
          · exact .inr ⟨t, ht, h1, h2⟩
  rw [cntK, this ss []]
  simp
/-- How many, by the reference. -/
def has (l : List (List Nat)) (m : List Nat) (ss : List Sg) (k : Nat) : Bool := ss.any fun s => decide (s.key = (k : Int)) && rightS l m s
def cntR (l : List (List Nat)) (m : List Nat) (ss : List Sg) (i : Nat) : Nat := ((List.range i).filter (has l m ss)).length
theorem cntR_succ (l : List (List Nat)) (m : List Nat) (ss : List Sg) (i : Nat) : cntR l m ss (i + 1) = cntR l m ss i + if has l m ss i = true then 1 else 0 := by
  unfold cntR
  rw [List.range_succ, List.filter_append, List.length_append]
  congr 1
  cases h : has l m ss i <;> simp [List.filter_cons, h]
theorem cntR_le (l : List (List Nat)) (m : List Nat) (ss : List Sg) (i : Nat) : cntR l m ss i ≤ i := by
  unfold cntR
  have := List.length_filter_le (has l m ss) (List.range i)
  simpa using this
theorem has_mem (l : List (List Nat)) (m : List Nat) (ss : List Sg) (k : Nat) : has l m ss k = true ↔ ∃ s ∈ ss, s.key = (k : Int) ∧ rightS l m s = true := by
  unfold has
  rw [List.any_eq_true]
  constructor
  · rintro ⟨s, hs, h⟩
    rw [Bool.and_eq_true, decide_eq_true_eq] at h
    exact ⟨s, hs, h⟩
  · rintro ⟨s, hs, h⟩
    exact ⟨s, hs, by rw [Bool.and_eq_true, decide_eq_true_eq]; exact h⟩
theorem cnt_same (l : List (List Nat)) (m : List Nat) (ss : List Sg) : (cntK l m ss).length = cntR l m ss l.length := by
  have hn : (((List.range l.length).filter (has l m ss)).map (fun k : Nat => (k : Int))).Nodup := by
    refine List.Pairwise.map _ ?_ (List.nodup_range.sublist (List.filter_sublist))
    intro a b hab h
    exact hab (by omega)
  have hp := (List.perm_ext_iff_of_nodup (cntK_nodup l m ss) hn).2 (by
    intro y
    rw [cntK_mem, List.mem_map]
    constructor
    · rintro ⟨s, hs, rfl, hr⟩
      have h4 := rightS_in hr
      refine ⟨s.key.toNat, ?_, by omega⟩
      rw [List.mem_filter, List.mem_range, has_mem]
      exact ⟨by omega, s, hs, by omega, hr⟩
    · rintro ⟨k, hk, rfl⟩
      rw [List.mem_filter, has_mem] at hk
      exact hk.2)
  have := hp.length_eq
  rw [List.length_map] at this
  exact this
theorem Sg.sig (s : Sg) : ∀ j u, (sigC s.z s.op s.sh s.pa)[j]? = some u → s.c.toArray[1 + j]? = some u := by
  intro j u hj
  rw [List.getElem?_toArray, Nat.add_comm]
  exact hj
def sgCz : List Go.Value := .int .i64 0 :: sgz
theorem sgCz_len : sgCz.length = 282 := by unfold sgCz; rw [List.length_cons, sgz_len]
end Go.Sha
namespace Go.Vc
open Go Go.Sha
theorem sgAt {w : World} {ad : Addr} {ss : List Sg} (hr : ∀ j u, (rowSg ss)[j]? = some u → w.cell? (ad.add j) = some u) {i : Nat} {s : Sg} (h : ss[i]? = some s) : ∀ j u, s.c[j]? = some u → w.cell? ((ad.add (i * 282)).add j) = some u := fun j u hj => by
  rw [add_add]
  exact hr _ u (rowSg_at h j u hj)
end Go.Vc
namespace Go.Proofs.Ytnhnihkpacibgaa
open Go Go.Vc Go.Sha

end Go.Proofs.Ytnhnihkpacibgaa

/- quorum: Check, Count, and the reference's. -/
namespace Go.Proofs.Ytnhnihkpacibgaa
open Go Go.Vc Go.Sha

end Go.Proofs.Ytnhnihkpacibgaa

/- quorum: Count, and the reference's. -/
namespace Go.Proofs.Ytnhnihkpacibgaa
open Go Go.Vc Go.Sha

theorem has_take {l : List (List Nat)} {m : List Nat} {ss : List Sg} {j k : Nat} {s : Sg} (h : ss[j]? = some s) : has l m (ss.take (j + 1)) k = (has l m (ss.take j) k || (decide (s.key = (k : Int)) && rightS l m s)) := by
  unfold has
  rw [List.take_add_one, h, List.any_append]
  simp

end Go.Proofs.Ytnhnihkpacibgaa
