/- wire: parts; Few. -/
import Derived.Test.YtgnjdpaenojfhaaWrP
import Derived.Test.YtgnjdpaenojfhaaQuC
set_option linter.unusedSimpArgs false
set_option linter.unusedVariables false
namespace Go.Sha
/-- A part. -/
structure PtD where
  k : Int
  n : Int
  h : List Nat
  b : List Nat
  v : Go.Value
  h8 : h.length = 8
  hh : ∀ x ∈ h, x < 256
  hb : ∀ x ∈ b, x < 256
  hk : -9223372036854775808 ≤ k ∧ k ≤ 9223372036854775807
  hn : -9223372036854775808 ≤ n ∧ n ≤ 9223372036854775807
  hl : b.length ≤ 140737488351232
def PtD.c (a : PtD) : List Go.Value := .int .i64 a.k :: .int .i64 a.n :: (u8s a.h ++ [a.v])
theorem PtD.len (a : PtD) : a.c.length = 11 := by
  unfold PtD.c
  rw [List.length_cons, List.length_cons, List.length_append, u8s_len, a.h8]
  rfl
/-- What stands of a part at an address. -/
structure PtAt (w : Go.World) (A : Go.Addr) (p : PtD) : Prop where
  k : w.cell? (A.add 0) = some (.int .i64 p.k)
  n : w.cell? (A.add 1) = some (.int .i64 p.n)
  h : ∀ j u, (u8s p.h)[j]? = some u → w.cell? ((A.add 2).add j) = some u
  b : w.cell? (A.add 10) = some p.v
end Go.Sha
namespace Go.Vc
open Go Go.Sha
theorem pt_at {w : World} {ad : Addr} {ps : List PtD} (hr : ∀ j u, (rws PtD.c ps)[j]? = some u → w.cell? (ad.add j) = some u) {i : Nat} {p : PtD} (h : ps[i]? = some p) : PtAt w (ad.add (i * 11)) p := by
  have hload : ∀ j u, p.c[j]? = some u → w.cell? ((ad.add (i * 11)).add j) = some u := fun j u hj => by
    rw [add_add]; exact hr _ u (rws_at PtD.len h j u hj)
  refine ⟨hload 0 _ rfl, hload 1 _ rfl, fun j u hj => ?_, hload 10 _ ?_⟩
  · rw [add_add]
    refine hload (2 + j) u ?_
    have hjl := (List.getElem?_eq_some_iff.1 hj).1
    unfold PtD.c
    rw [show 2 + j = j + 1 + 1 by omega, List.getElem?_cons_succ, List.getElem?_cons_succ, List.getElem?_append_left hjl]
    exact hj
  · unfold PtD.c
    rw [List.getElem?_cons_succ, List.getElem?_cons_succ, List.getElem?_append_right (by rw [u8s_len, p.h8]; decide), u8s_len, p.h8]
    rfl
/-- What parts hold on to. -/
def PtIn (w : World) (ps : List PtD) : Prop := ∀ p ∈ ps, SrcW w 1 p.v p.b.length (u8s p.b)
theorem PtIn.fr {w w' : World} {ps : List PtD} (h : PtIn w ps) (hf : Fr [] w w') : PtIn w' ps := fun p hp => (h p hp).fr hf
/-- Are they few and short? -/
def fewN (ps : List PtD) : Int := (ps.map fun p => 12 + (p.b.length : Int)).sum
def fewB (ps : List PtD) : Bool := decide (ps.length ≤ 100 ∧ fewN ps ≤ 20000)
theorem fewN_app (a : List PtD) (p : PtD) : fewN (a ++ [p]) = fewN a + (12 + (p.b.length : Int)) := by simp [fewN]
theorem fewN_bound : ∀ (a : List PtD), 0 ≤ fewN a ∧ fewN a ≤ a.length * 140737488351244
  | [] => by simp [fewN]
  | p :: a => by
    have h := fewN_bound a
    have h2 := p.hl
    simp only [fewN, List.map_cons, List.sum_cons, List.length_cons] at h ⊢
    omega
end Go.Vc
namespace Go.Proofs.Ytgnjdpaenojfhaa
attribute [local irreducible] Go.Vc.Run Go.Vc.RC Go.Vc.RQ Go.Vc.DR Go.Vc.DOp
open Go Go.Vc Go.Sha
set_option maxRecDepth 10000 in set_option maxHeartbeats 4000000 in
theorem Few_calls (ps : List PtD) (hpl : ps.length ≤ 9223372036854775807) (vl : Value) (w : World) (hs : SrcW w 11 vl ps.length (rws PtD.c ps)) (hin : PtIn w ps) :
    Gives Try.prog 9 [vl] (.bool (fewB ps)) w := by
  refine enter Try.func9 rfl (Mem.nil w []) rfl ?_
  obtain ⟨la, lc, rfl, hlc⟩ := hs.shape
  refine z_ ?_
  refine RC.up ps.length (D := Int) (fun i d => ps.length ≤ 100 → d = fewN (ps.take i)) (fun i d => [(4, .int .i64 i), (3, .int .i64 d), (0, .slice la ps.length lc)]) (fun _ _ => []) 0 (0 : Int) (Nat.zero_le _) (fun _ => rfl) ⟨rfl, rfl, rfl, trivial⟩ (List.Sublist.refl _) ?_
  intro i d hi hd
  refine z_ ?_
  (repeat refine RC.seq ?_); refine RC.wh rfl (fun h => RQ.next ?_) (fun h => ?_)
  · have hi' : i < ps.length := by have := of_decide_eq_true h; omega
    clear h
    obtain ⟨p, hp⟩ : ∃ p, ps[i]? = some p := ⟨_, List.getElem?_eq_getElem hi'⟩
    obtain ⟨ad, c', hv', hc', hcl, hr⟩ := hs.pos (by omega)
    cases hv'
    have hat := pt_at hr hp
    obtain ⟨ba, bc, hbv, hbc⟩ := (hin p (List.mem_of_getElem? hp)).shape
    have hb := hat.b
    rw [hbv] at hb
    refine z_ ?_
    refine Run.a (vix i hi' (ad.add (i * 11))) ?_
    refine Run.a (vfA) ?_
    refine Run.a (vlo hb) ?_
    refine z_ ?_
    refine RQ.up (i + 1) _ (Nat.lt_succ_self _) hi' (fun h100 => ?_) ⟨rfl, rfl, rfl, trivial⟩ (List.Sublist.refl _)
    rw [List.take_add_one, hp, Option.toList_some, fewN_app, hd h100]
    have h1 := fewN_bound (ps.take i)
    have h2 := p.hl
    have h3 : (ps.take i).length ≤ 100 := by rw [List.length_take]; omega
    rw [show IntKind.i64.wrap (fewN (ps.take i) + 12) = fewN (ps.take i) + 12 from wrap_in (by dsimp only [inK]; omega), wrap_in (by dsimp only [inK]; omega)]
    omega
  · have hi' : i = ps.length := by have := of_decide_eq_false h; omega
    subst hi'
    rw [List.take_length] at hd
    (repeat refine RQ.thenExit ?_); refine RQ.blockHere ?_
    by_cases h100 : ps.length ≤ 100
    · have hd' := hd h100
      subst hd'
      refine z_ ?_
      exact RQ.ret1 rfl (Res.tmp rfl) fun w' hm => ⟨by unfold fewB; simp only [h100, true_and]; rfl, hm.fr⟩
    · refine z_ ?_
      exact RQ.ret1 rfl (Res.tmp rfl) fun w' hm => ⟨by unfold fewB; simp only [h100, false_and, decide_false]; rfl, hm.fr⟩
end Go.Proofs.Ytgnjdpaenojfhaa
