import Derived.Test.YtgnjdpaenojfhaaWrU
set_option linter.unusedSimpArgs false
set_option linter.unusedVariables false
/- wire: WireWrites. -/
namespace Go.Proofs.Ytgnjdpaenojfhaa
attribute [local irreducible] Go.Vc.Run Go.Vc.RC Go.Vc.RQ Go.Vc.DR Go.Vc.DOp
open Go Go.Vc Go.Sha
/-- One part by hand. -/
def stepP (s : List Nat × Bool) (p : PtD) : List Nat × Bool := if s.2 then (s.1 ++ (plainW p).1, (plainW p).2) else s
theorem stepW_err {s : List Nat} {e : Int} (he : e ≠ 0) (p : PtD) : stepW (s, e) p = (s, e) := by
  unfold stepW numW putW
  simp only [if_neg he, ite_self]
theorem foldW_err {s : List Nat} {e : Int} (he : e ≠ 0) : ∀ l : List PtD, l.foldl stepW (s, e) = (s, e)
  | [] => rfl
  | p :: l => by rw [List.foldl_cons, stepW_err he, foldW_err he l]
theorem foldP_no {s : List Nat} : ∀ l : List PtD, l.foldl stepP (s, false) = (s, false)
  | [] => rfl
  | p :: l => by rw [List.foldl_cons]; exact foldP_no l
theorem plainW_len (p : PtD) : ((plainW p).1.length : Int) ≤ 12 + p.b.length := by
  unfold plainW
  split
  · rw [p.h8]; omega
  split
  · rw [List.length_append, le_len]; omega
  split
  · simp only [List.length_nil]; omega
  · rename_i h8 h9 hb
    simp only [numBad, not_or] at hb
    rw [le_len]; omega
theorem step_same {s : List Nat} (p : PtD) (hl : (s.length : Int) + (plainW p).1.length ≤ 131072) : ((plainW p).2 = true → stepW (s, 0) p = (s ++ (plainW p).1, 0)) ∧ ((plainW p).2 = false → stepW (s, 0) p = (s, 1)) := by
  have hput : ∀ a : List Nat, (s.length : Int) + a.length ≤ 131072 → putW s 0 a = (s ++ a, 0) := by
    intro a ha
    unfold putW
    rw [if_pos rfl, if_neg (by omega)]
  unfold plainW at hl ⊢
  unfold stepW
  by_cases h8 : p.k = 8
  · simp only [if_pos h8] at hl ⊢
    exact ⟨fun _ => hput _ hl, fun h => by cases h⟩
  by_cases h9 : p.k = 9
  · simp only [if_neg h8, if_pos h9] at hl ⊢
    exact ⟨fun _ => hput _ hl, fun h => by cases h⟩
  by_cases hb : numBad p.n p.k
  · simp only [if_neg h8, if_neg h9, if_pos hb] at hl ⊢
    exact ⟨fun h => by (cases h), fun _ => by unfold numW; rw [if_pos rfl, if_pos hb]⟩
  · simp only [if_neg h8, if_neg h9, if_neg hb] at hl ⊢
    exact ⟨fun _ => by unfold numW; rw [if_pos rfl, if_neg hb]; exact hput _ hl, fun h => by cases h⟩
theorem fold_same : ∀ (l : List PtD) (s : List Nat), (s.length : Int) + fewN l ≤ 131072 → ((l.foldl stepP (s, true)).2 = true → l.foldl stepW (s, 0) = ((l.foldl stepP (s, true)).1, 0)) ∧ ((l.foldl stepP (s, true)).2 = false → (l.foldl stepW (s, 0)).2 = 1)
  | [], s, _ => ⟨fun _ => rfl, fun h => by cases h⟩
  | p :: l, s, hl => by
    have h1 := plainW_len p
    have h2 := (fewN_bound l).1
    have h3 : fewN (p :: l) = (12 + (p.b.length : Int)) + fewN l := by simp [fewN]
    rw [h3] at hl
    have h4 := step_same p (s := s) (by omega)
    have e : stepP (s, true) p = (s ++ (plainW p).1, (plainW p).2) := rfl
    rw [List.foldl_cons, List.foldl_cons, e]
    cases hp : (plainW p).2 with
    | true =>
      rw [h4.1 hp]
      exact fold_same l _ (by rw [List.length_append]; omega)
    | false =>
      rw [h4.2 hp, foldP_no, foldW_err (by decide)]
      exact ⟨fun h => by (cases h), fun _ => rfl⟩
theorem few_len {ps : List PtD} (h : fewB ps = true) : ps.length ≤ 100 ∧ fewN ps ≤ 20000 := of_decide_eq_true h
theorem few_b {ps : List PtD} (h : fewN ps ≤ 20000) : ∀ p ∈ ps, p.b.length ≤ 900000 := by
  have key : ∀ (l : List PtD) (p : PtD), p ∈ l → (p.b.length : Int) ≤ fewN l := by
    intro l
    induction l with
    | nil => intro p hp; cases hp
    | cons q l ih =>
      intro p hp
      have h3 : fewN (q :: l) = (12 + (q.b.length : Int)) + fewN l := by simp [fewN]
      have h2 := (fewN_bound l).1
      rcases List.mem_cons.1 hp with rfl | hp
      · omega
      · have := ih p hp
        omega
  intro p hp
  have := key ps p hp
  omega
theorem fewN_apps (a b : List PtD) : fewN (a ++ b) = fewN a + fewN b := by simp [fewN]
theorem fewN_take (ps : List PtD) (i : Nat) : fewN (ps.take i) ≤ fewN ps := by
  have h := fewN_apps (ps.take i) (ps.drop i)
  rw [List.take_append_drop] at h
  have := (fewN_bound (ps.drop i)).1
  omega
theorem foldP_len : ∀ (l : List PtD) (s : List Nat) (b : Bool), ((l.foldl stepP (s, b)).1.length : Int) ≤ s.length + fewN l
  | [], s, _ => by simp [fewN]
  | p :: l, s, b => by
    have h3 : fewN (p :: l) = (12 + (p.b.length : Int)) + fewN l := by simp [fewN]
    have h1 := plainW_len p
    rw [List.foldl_cons]
    cases b with
    | true =>
      have := foldP_len l (s ++ (plainW p).1) (plainW p).2
      rw [List.length_append] at this
      show ((l.foldl stepP (s ++ (plainW p).1, (plainW p).2)).1.length : Int) ≤ _
      omega
    | false =>
      have := foldP_len l s false
      show ((l.foldl stepP (s, false)).1.length : Int) ≤ _
      omega
theorem le_bytes (n : Nat) : ∀ k, ∀ x ∈ le n k, x < 256
  | 0, x, hx => by cases hx
  | k + 1, x, hx => by
    rcases List.mem_append.1 hx with hx | hx
    · exact le_bytes n k x hx
    · rw [List.mem_singleton] at hx
      subst hx
      exact Nat.mod_lt _ (by decide)
theorem plainW_bytes (p : PtD) : ∀ x ∈ (plainW p).1, x < 256 := by
  unfold plainW
  split
  · exact p.hh
  split
  · intro x hx
    rcases List.mem_append.1 hx with hx | hx
    · exact le_bytes _ _ x hx
    · exact p.hb x hx
  split
  · intro x hx; cases hx
  · exact le_bytes _ _
theorem foldP_bytes : ∀ (l : List PtD) (s : List Nat × Bool), (∀ x ∈ s.1, x < 256) → ∀ x ∈ (l.foldl stepP s).1, x < 256
  | [], _, h => h
  | p :: l, s, h => by
    rw [List.foldl_cons]
    refine foldP_bytes l _ ?_
    unfold stepP
    split
    · intro x hx
      rcases List.mem_append.1 hx with hx | hx
      · exact h x hx
      · exact plainW_bytes p x hx
    · exact h
end Go.Proofs.Ytgnjdpaenojfhaa

/- wire: WireWrites, walked. -/
namespace Go.Vc
open Go Go.Sha
theorem pt_load {w : World} {ad : Addr} {ps : List PtD} (hr : ∀ j u, (rws PtD.c ps)[j]? = some u → w.cell? (ad.add j) = some u) {i : Nat} {p : PtD} (h : ps[i]? = some p) : ∀ j u, p.c[j]? = some u → w.cell? ((ad.add (i * 11)).add j) = some u := fun j u hj => by
  rw [add_add]; exact hr _ u (rws_at PtD.len h j u hj)
end Go.Vc
namespace Go.Proofs.Ytgnjdpaenojfhaa
attribute [local irreducible] Go.Vc.Run Go.Vc.RC Go.Vc.RQ Go.Vc.DR Go.Vc.DOp
open Go Go.Vc Go.Sha
set_option maxRecDepth 10000 in set_option maxHeartbeats 4000000 in
theorem WireWrites_calls (ps : List PtD) (hpl : ps.length ≤ 9223372036854775807) (vl : Value) (w : World) (hs : SrcW w 11 vl ps.length (rws PtD.c ps)) (hin : PtIn w ps) :
    Gives Try.prog 3 [vl] (.bool true) w := by
  refine enter Try.func3 rfl (Mem.nil w []) rfl ?_
  refine z_ ?_
  refine Run.op1 (OpTo.cv Try.func8 (fun w' _ => wr_awake_calls w')) (fun _ => ?_)
  refine z_ ?_
  refine Run.op1 (OpTo.cv Try.func9 (fun w' hm => Few_calls ps hpl vl w' (hs.mem hm) (hin.fr hm.fr))) (fun _ => ?_)
  cases hfew : fewB ps with
  | false =>
    refine z_ ?_
    exact RQ.ret1 rfl (Res.tmp rfl) fun w' hm => ⟨rfl, hm.fr⟩
  | true =>
  obtain ⟨h100, h20⟩ := few_len hfew
  have hpb := few_b h20
  have hwr := fun w' h1 h2 => write_calls ps hpl hpb vl w' h1 h2
  obtain ⟨la, lc, rfl, hlc⟩ := hs.shape
  refine z_ ?_
  refine RC.up ps.length (D := (Value × Hp) × (List Nat × Bool)) (fun i d => Own 5 1 d.1.1 d.2.1.length (u8s d.2.1) d.1.2 ∧ d.2 = (ps.take i).foldl stepP ([], true)) (fun i d => [(5, .int .i64 i), (4, .bool d.2.2), (3, d.1.1), (0, .slice la ps.length lc)]) (fun _ d => d.1.2) 0 ((.slice none 0 0, []), ([], true)) (Nat.zero_le _) ⟨.nil, rfl⟩ ⟨rfl, rfl, rfl, rfl, trivial⟩ (List.Sublist.refl _) ?_
  rintro i ⟨⟨v, bl⟩, bs, ok⟩ hi ⟨hown, hd⟩
  dsimp only at hown hd ⊢
  have hbl : (bs.length : Int) ≤ 20000 := by
    have h1 := foldP_len (ps.take i) [] true
    rw [← hd] at h1
    have h2 := fewN_take ps i
    simp only [List.length_nil] at h1
    omega
  have hbs : ∀ x ∈ bs, x < 256 := by
    have h1 := foldP_bytes (ps.take i) ([], true) (fun x hx => by cases hx)
    rw [← hd] at h1
    exact h1
  by_cases hi' : i < ps.length
  · cases ok
    · have hfin : (bs, false) = ps.foldl stepP ([], true) := by
        conv => rhs; rw [← List.take_append_drop i ps, List.foldl_append, ← hd, foldP_no]
      refine z_ ?_
      refine Run.op1 (OpTo.callT Try.func11 (show _ from List.Perm.refl ([] ++ bl)) (fun w' hm => hwr w' (hs.mem hm) (hin.fr hm.fr))) ?_
      rintro ⟨⟨v2, bl2⟩, hown2⟩
      dsimp only at hown2 ⊢
      have hWe : (writeW ps).2 = 1 := (fold_same ps [] (by simp only [List.length_nil]; omega)).2 (by rw [← hfin])
      rw [hWe] at hown2 ⊢
      rw [show endW (writeW ps).1 1 = [] from if_neg (by decide)] at hown2
      obtain ⟨a2, c2, rfl, hc2⟩ := hown2.shape
      refine z_ ?_
      exact RQ.ret1 rfl (Res.tmp rfl) fun w' hm => ⟨rfl, hm.fr⟩
    obtain ⟨p, hp⟩ : ∃ p, ps[i]? = some p := ⟨_, List.getElem?_eq_getElem hi'⟩
    obtain ⟨ad, c', hv', hc', hcl, hr⟩ := hs.pos (by omega)
    cases hv'
    have hload := pt_load hr hp
    have hpm := List.mem_of_getElem? hp
    have hplen := p.len
    have hpl1 := plainW_len p
    have hpbl := hpb p hpm
    refine z_ ?_
    refine Run.a (vix i hi' (ad.add (i * 11))) ?_
    refine Run.a (vloA hload hplen) ?_
    refine Run.op1 (OpTo.callMk2 Try.func10 rfl rfl rfl rfl rfl rfl (fun w' hm => plain_calls p hpbl w' ((hin p hpm).mem hm))) ?_
    rintro ⟨⟨v28, bl28⟩, hown28⟩
    dsimp only at hown28 ⊢
    refine z_ ?_
    refine Run.op1 (OpTo.append (L1 := bl28) tabOk hown (hown28.src (fun q hq => List.mem_append_left _ hq)) rfl rfl rfl rfl rfl rfl rfl rfl rfl (perm_of fun f => by (simp only [List.map_append, List.map_cons, List.map_nil, List.sum_append, List.sum_cons, List.sum_nil] <;> omega)) (u8s_one _) (by unfold maxLen; omega) (by simp only [ti5]; omega)) ?_
    rintro ⟨⟨v9, bl9⟩, hown9⟩
    dsimp only at hown9 ⊢
    rw [← u8s_app] at hown9
    refine z_ ?_
    refine RQ.upQ (i + 1) ((v9, bl9), (bs ++ (plainW p).1, (plainW p).2)) (Nat.lt_succ_self _) hi' ⟨by rw [List.length_append]; exact hown9, ?_⟩ ⟨rfl, rfl, rfl, rfl, trivial⟩ (L1 := bl9 ++ bl28) (List.Perm.refl _) (List.sublist_append_left _ _)
    rw [List.take_add_one, hp, Option.toList_some, List.foldl_append, ← hd]
    rfl
  · have hi9 : i = ps.length := by omega
    subst hi9
    rw [List.take_length] at hd
    cases ok
    · have hfin := hd
      refine z_ ?_
      refine Run.op1 (OpTo.callT Try.func11 (show _ from List.Perm.refl ([] ++ bl)) (fun w' hm => hwr w' (hs.mem hm) (hin.fr hm.fr))) ?_
      rintro ⟨⟨v2, bl2⟩, hown2⟩
      dsimp only at hown2 ⊢
      have hWe : (writeW ps).2 = 1 := (fold_same ps [] (by simp only [List.length_nil]; omega)).2 (by rw [← hfin])
      rw [hWe] at hown2 ⊢
      rw [show endW (writeW ps).1 1 = [] from if_neg (by decide)] at hown2
      obtain ⟨a2, c2, rfl, hc2⟩ := hown2.shape
      refine z_ ?_
      exact RQ.ret1 rfl (Res.tmp rfl) fun w' hm => ⟨rfl, hm.fr⟩
    have hfin := hd
    refine z_ ?_
    refine Run.op1 (OpTo.callT Try.func11 (show _ from List.Perm.refl ([] ++ bl)) (fun w' hm => hwr w' (hs.mem hm) (hin.fr hm.fr))) ?_
    rintro ⟨⟨v2, bl2⟩, hown2⟩
    dsimp only at hown2 ⊢
    have hW : writeW ps = (bs, 0) := by
      have h := (fold_same ps [] (by simp only [List.length_nil]; omega)).1 (by rw [← hfin])
      rw [← hfin] at h
      exact h
    rw [hW] at hown2 ⊢
    dsimp only at hown2 ⊢
    rw [show endW bs 0 = bs from if_pos rfl] at hown2
    refine z_ ?_
    refine Run.a (Val.bytesStr (a := bs) tabOk rfl rfl rfl rfl rfl rfl rfl rfl (hown2.src (fun p hp => List.mem_append_left _ hp))) ?_
    refine z_ ?_
    refine Run.a (Val.bytesStr (a := bs) tabOk rfl rfl rfl rfl rfl rfl rfl rfl (hown.src (fun p hp => List.mem_append_right _ hp))) ?_
    refine Run.a (Val.eq (Val.eqStr (a := bs) (b := bs) rfl rfl rfl hbs hbs) (show _ = Value.bool true from congrArg Value.bool (decide_eq_true rfl))) ?_
    refine z_ ?_
    exact RQ.ret1 rfl (Res.tmp rfl) fun w' hm => ⟨rfl, hm.fr⟩
end Go.Proofs.Ytgnjdpaenojfhaa
