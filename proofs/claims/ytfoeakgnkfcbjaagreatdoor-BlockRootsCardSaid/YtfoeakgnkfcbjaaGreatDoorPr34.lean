/- Lemmas. -/
import Derived.Test.YtfoeakgnkfcbjaaGreatDoorPr33
set_option linter.unusedSimpArgs false
set_option linter.unusedVariables false
section
/- Arguments that are transactions, signatures. -/
namespace Go.Vc
open Go Go.Sha Go.ChangeShapes Go.WideShapes Go.ChangeAt Go.RowKit Go.Deep
section
variable {H : Type} {enc : TypeId × Value → H} {P : Program}
/-- A slice of records among the cells of an argument. -/
theorem rows_trod {α : Type} [Inhabited α] (c : α → List Value) (sz : Nat) (hsz : 0 < sz) (hcl : ∀ a, (c a).length = sz) {w : World} {t e fuel : Nat} {held : Bool} {cs0 : List Value} {x : DataW H × List MemPlace} (hu : P.underlying t = some (.slice e)) (hc : P.cellsOf e = sz)
    (hf : ∀ n cs x, cs.length = sz → DataW.trod enc P w 0 (fun _ => true) held n e cs = some x → ∃ a, cs = c a)
    (h : DataW.trod enc P w 0 (fun _ => true) held fuel t cs0 = some x) : ∃ (a : Option Addr) (cap : Nat) (l : List α), cs0 = [.slice a l.length cap] ∧ SrcW w sz (.slice a l.length cap) l.length (rws c l) := by
  rcases open_slice hu h with ⟨rfl, _⟩ | ⟨a, len, cap, m, n', D, Pl, rfl, _, hlc, hml, hmm, hxd, hx⟩
  · exact ⟨none, 0, [], rfl, .nil⟩
  · rw [if_pos rfl] at hmm
    subst hmm
    rw [hc] at hx
    have hex : ∀ i, i < len → ∃ y : α, ∀ j, j < sz → w.cell? (a.add (i * sz + j)) = (c y)[j]? := by
      intro i hi
      obtain ⟨cs', h1, h2⟩ := hx i (by omega)
      obtain ⟨_, hlen, hcell⟩ := World.cells?_some h1
      obtain ⟨y, rfl⟩ := hf _ _ _ (by rw [hlen]) h2
      exact ⟨y, fun j hj => by rw [← add_add]; exact hcell j hj⟩
    obtain ⟨F, hF⟩ := choose_lt hex
    have hlen : ((List.range len).map F).length = len := by simp
    refine ⟨some a, _, (List.range len).map F, by rw [hlen], ?_⟩
    rw [hlen]
    refine .at a _ _ _ (by rw [rws_len hcl, hlen]) hlc fun j u hj => ?_
    have hjl : j < len * sz := by
      have := (List.getElem?_eq_some_iff.1 hj).1
      rwa [rws_len hcl, hlen] at this
    have hi : j / sz < len := (Nat.div_lt_iff_lt_mul hsz).2 hjl
    have h2 := Nat.mod_lt j hsz
    have h3 := hF (j / sz) hi (j % sz) h2
    have h4 : j / sz * sz + j % sz = j := by rw [Nat.mul_comm]; exact Nat.div_add_mod j sz
    rw [h4] at h3
    rw [h3]
    have h5 : (c (F (j / sz)))[j % sz]? = some ((c (F (j / sz)))[j % sz]'(by rw [hcl]; exact h2)) := List.getElem?_eq_getElem _
    have h6 := rws_at hcl (l := (List.range len).map F) (i := j / sz) (s := F (j / sz)) (by simp [hi]) (j % sz) _ h5
    rw [h4, hj] at h6
    rw [h5, Option.some.inj h6]
theorem cut_at (l : List Value) (k n : Nat) : l.drop k = (l.drop k).take n ++ l.drop (k + n) := by rw [← List.drop_drop, List.take_append_drop]
theorem hkU8 {n : Nat} {ks : List IntKind} {cs : List Value} (h : HasK (List.replicate n .u8 ++ ks) cs) (ho : ∀ v ∈ cs, Ok1 v) : ∃ l r, cs = u8s l ++ r ∧ (l.length = n ∧ ∀ x ∈ l, x < 256) ∧ HasK ks r ∧ ∀ v ∈ r, Ok1 v := by
  obtain ⟨h1, h2⟩ := h.split
  obtain ⟨l, hl, h8, hb⟩ := u8list_of h1 (fun v hv => ho v (List.mem_of_mem_take hv))
  refine ⟨l, cs.drop (List.replicate n IntKind.u8).length, ?_, ⟨h8, hb⟩, h2, fun v hv => ho v (List.mem_of_mem_drop hv)⟩
  conv => lhs; rw [← List.take_append_drop (List.replicate n IntKind.u8).length cs, hl]
theorem hkI64 {ks : List IntKind} {cs : List Value} (h : HasK (.i64 :: ks) cs) (ho : ∀ v ∈ cs, Ok1 v) : ∃ z r, cs = .int .i64 z :: r ∧ HasK ks r ∧ ∀ v ∈ r, Ok1 v := by
  cases h with
  | cons _ z h => exact ⟨z, _, rfl, h, fun v hv => ho v (List.mem_cons_of_mem _ hv)⟩
end
end Go.Vc
namespace Go.Proofs.YtfoeakgnkfcbjaaGreatDoor
open Go Go.Vc Go.Sha Go.ChangeShapes Go.WideShapes Go.ChangeAt Go.RowKit Go.Deep
set_option maxRecDepth 10000
def sgK : List IntKind := .i64 :: (List.replicate 128 .u8 ++ (List.replicate 128 .u8 ++ (List.replicate 24 .u8 ++ [])))
theorem sg_kinds {cs : List Value} {ks : List IntKind} (h : HasK (.i64 :: (List.replicate 128 .u8 ++ (List.replicate 128 .u8 ++ (List.replicate 24 .u8 ++ ks)))) cs) (ho : ∀ v ∈ cs, Ok1 v) : ∃ (s : SigD) (r : List Value), cs = s.c ++ r ∧ HasK ks r ∧ ∀ v ∈ r, Ok1 v := by
  obtain ⟨z, cs, rfl, h, ho⟩ := hkI64 h ho
  obtain ⟨op, cs, rfl, h1, h, ho⟩ := hkU8 h ho
  obtain ⟨sh, cs, rfl, h2, h, ho⟩ := hkU8 h ho
  obtain ⟨pa, cs, rfl, h3, h, ho⟩ := hkU8 h ho
  exact ⟨⟨z, ⟨op, h1⟩, ⟨sh, h2⟩, ⟨pa, h3⟩⟩, cs, by rw [SigD.eq]; simp only [List.cons_append, List.append_assoc], h, ho⟩
theorem hk_nil {r : List Value} (h : HasK [] r) : r = [] := by cases h; rfl
variable {H : Type} {enc : TypeId × Value → H}
theorem in_trod {w : World} {n : Nat} {held : Bool} {cs : List Value} {x : DataW H × List MemPlace} (h : DataW.trod enc Tryz.prog w 0 (fun _ => true) held n 173 cs = some x) : ∃ a : InD, cs = a.c := by
  obtain ⟨h1, ho⟩ := flat_trod kLaidOut kMaps 8 n 173 (List.replicate 8 .u8 ++ (.i64 :: (List.replicate 8 .u8 ++ sgK))) cs x (Nat.blt_eq.mp (show Nat.blt 173 Tryz.prog.types.size = true by kernel_rfl)) (by kernel_rfl) (by kernel_rfl) h
  obtain ⟨t, cs, rfl, ht, h1, ho⟩ := hkU8 h1 ho
  obtain ⟨i, cs, rfl, h1, ho⟩ := hkI64 h1 ho
  obtain ⟨k, cs, rfl, hk, h1, ho⟩ := hkU8 h1 ho
  obtain ⟨s, cs, rfl, h1, ho⟩ := sg_kinds (ks := []) h1 ho
  rw [hk_nil h1, List.append_nil]
  exact ⟨⟨⟨t, ht⟩, i, ⟨k, hk⟩, s⟩, rfl⟩
theorem out_trod {w : World} {n : Nat} {held : Bool} {cs : List Value} {x : DataW H × List MemPlace} (h : DataW.trod enc Tryz.prog w 0 (fun _ => true) held n 164 cs = some x) : ∃ a : OutD, cs = a.c := by
  obtain ⟨h1, ho⟩ := flat_trod kLaidOut kMaps 8 n 164 (List.replicate 8 .u8 ++ [.i64]) cs x (Nat.blt_eq.mp (show Nat.blt 164 Tryz.prog.types.size = true by kernel_rfl)) (by kernel_rfl) (by kernel_rfl) h
  obtain ⟨t, cs, rfl, ht, h1, ho⟩ := hkU8 h1 ho
  obtain ⟨i, cs, rfl, h1, ho⟩ := hkI64 h1 ho
  rw [hk_nil h1]
  exact ⟨⟨⟨t, ht⟩, i⟩, rfl⟩
theorem fo_trod {w : World} {n : Nat} {held : Bool} {cs : List Value} {x : DataW H × List MemPlace} (h : DataW.trod enc Tryz.prog w 0 (fun _ => true) held n 177 cs = some x) : ∃ a : FoD, cs = a.c := by
  obtain ⟨h1, ho⟩ := flat_trod kLaidOut kMaps 8 n 177 (.i64 :: .i64 :: (List.replicate 8 .u8 ++ [.i64])) cs x (Nat.blt_eq.mp (show Nat.blt 177 Tryz.prog.types.size = true by kernel_rfl)) (by kernel_rfl) (by kernel_rfl) h
  obtain ⟨s, cs, rfl, h1, ho⟩ := hkI64 h1 ho
  obtain ⟨a, cs, rfl, h1, ho⟩ := hkI64 h1 ho
  obtain ⟨t, cs, rfl, ht, h1, ho⟩ := hkU8 h1 ho
  obtain ⟨i, cs, rfl, h1, ho⟩ := hkI64 h1 ho
  rw [hk_nil h1]
  exact ⟨⟨s, a, ⟨t, ht⟩, i⟩, rfl⟩
theorem sd_trod {w : World} {n : Nat} {held : Bool} {cs : List Value} {x : DataW H × List MemPlace} (h : DataW.trod enc Tryz.prog w 0 (fun _ => true) held n 188 cs = some x) : ∃ a : SgD, cs = a.c := by
  obtain ⟨h1, ho⟩ := flat_trod kLaidOut kMaps 8 n 188 (.i64 :: sgK) cs x (Nat.blt_eq.mp (show Nat.blt 188 Tryz.prog.types.size = true by kernel_rfl)) (by kernel_rfl) (by kernel_rfl) h
  obtain ⟨k, cs, rfl, h1, ho⟩ := hkI64 h1 ho
  obtain ⟨s, cs, rfl, h1, ho⟩ := sg_kinds (ks := []) h1 ho
  rw [hk_nil h1, List.append_nil]
  exact ⟨⟨k, s⟩, rfl⟩
theorem hs_trod {w : World} {n : Nat} {held : Bool} {cs : List Value} {x : DataW H × List MemPlace} (h : DataW.trod enc Tryz.prog w 0 (fun _ => true) held n 23 cs = some x) : ∃ a : By 8, cs = hsC a := by
  obtain ⟨h1, ho⟩ := flat_trod kLaidOut kMaps 8 n 23 (List.replicate 8 .u8) cs x (Nat.blt_eq.mp (show Nat.blt 23 Tryz.prog.types.size = true by kernel_rfl)) (by kernel_rfl) (by kernel_rfl) h
  obtain ⟨l, rfl, hl⟩ := u8list_of h1 ho
  exact ⟨⟨l, hl⟩, rfl⟩
theorem cl_trod {w : World} {n : Nat} {held : Bool} {cs : List Value} {x : DataW H × List MemPlace} (h : DataW.trod enc Tryz.prog w 0 (fun _ => true) held n 62 cs = some x) : ∃ a : ClD, cs = a.c := by
  obtain ⟨h1, ho⟩ := flat_trod kLaidOut kMaps 8 n 62 clK cs x (Nat.blt_eq.mp (show Nat.blt 62 Tryz.prog.types.size = true by kernel_rfl)) (by kernel_rfl) (by kernel_rfl) h
  obtain ⟨s, cs, rfl, h1, ho⟩ := hkI64 h1 ho
  obtain ⟨a, cs, rfl, h1, ho⟩ := hkI64 h1 ho
  obtain ⟨t, cs, rfl, ht, h1, ho⟩ := hkU8 h1 ho
  obtain ⟨i, cs, rfl, h1, ho⟩ := hkI64 h1 ho
  obtain ⟨j, cs, rfl, h1, ho⟩ := hkI64 h1 ho
  obtain ⟨l, rfl, hl⟩ := u8list_of (n := 128) h1 ho
  exact ⟨⟨s, a, ⟨t, ht⟩, i, j, ⟨l, hl⟩⟩, rfl⟩
instance : Inhabited SigD := ⟨SigD.nul⟩
instance : Inhabited (By 8) := ⟨By.z 8⟩
instance : Inhabited InD := ⟨⟨By.z 8, 0, By.z 8, SigD.nul⟩⟩
instance : Inhabited OutD := ⟨⟨By.z 8, 0⟩⟩
instance : Inhabited FoD := ⟨⟨0, 0, By.z 8, 0⟩⟩
instance : Inhabited SgD := ⟨⟨0, SigD.nul⟩⟩
theorem cTx : Tryz.prog.cellsOf 64 = 170 := by kernel_rfl
theorem cPr : Tryz.prog.cellsOf 54 = 4 := by kernel_rfl
theorem cCe : Tryz.prog.cellsOf 57 = 21 := by kernel_rfl
theorem cCl : Tryz.prog.cellsOf 62 = 140 := by kernel_rfl
theorem cI : Tryz.prog.cellsOf 3 = 1 := by kernel_rfl
theorem cHs : Tryz.prog.cellsOf 23 = 8 := by kernel_rfl
theorem cSI : Tryz.prog.cellsOf 49 = 1 := by kernel_rfl
theorem cSO : Tryz.prog.cellsOf 50 = 1 := by kernel_rfl
theorem cSF : Tryz.prog.cellsOf 51 = 1 := by kernel_rfl
theorem cSH : Tryz.prog.cellsOf 52 = 1 := by kernel_rfl
theorem cSS : Tryz.prog.cellsOf 55 = 1 := by kernel_rfl
theorem pr_trod {w : World} {n : Nat} {held : Bool} {cs : List Value} {x : DataW H × List MemPlace} (h : DataW.trod enc Tryz.prog w 0 (fun _ => true) held n 54 cs = some x) : ∃ (p : PrD) (a : Option Addr) (c : Nat), cs = prC p (.slice a p.ks.length c) ∧ SrcW w 8 (.slice a p.ks.length c) p.ks.length (rws hsC p.ks) := by
  obtain ⟨xs, n', _, _, hlen, hxl, hf⟩ := DataW.trod_struct Tryz.underlying54 h
  rw [cPr] at hlen
  match xs, hxl with
  | [x0, x1, x2, x3], _ =>
    have e0 : DataW.trod enc Tryz.prog w 0 (fun _ => true) held n' 3 ((cs.drop 0).take (Tryz.prog.cellsOf 3)) = some x0 := hf 0 _ rfl
    have e1 : DataW.trod enc Tryz.prog w 0 (fun _ => true) held n' 3 ((cs.drop 1).take (Tryz.prog.cellsOf 3)) = some x1 := hf 1 _ rfl
    have e2 : DataW.trod enc Tryz.prog w 0 (fun _ => true) held n' 3 ((cs.drop 2).take (Tryz.prog.cellsOf 3)) = some x2 := hf 2 _ rfl
    have e3 : DataW.trod enc Tryz.prog w 0 (fun _ => true) held n' 52 ((cs.drop 3).take (Tryz.prog.cellsOf 52)) = some x3 := hf 3 _ rfl
    rw [cI] at e0 e1 e2
    rw [cSH] at e3
    obtain ⟨z0, h0, _, _⟩ := DataW.trod_int Tryz.underlying3 e0
    obtain ⟨z1, h1, _, _⟩ := DataW.trod_int Tryz.underlying3 e1
    obtain ⟨z2, h2, _, _⟩ := DataW.trod_int Tryz.underlying3 e2
    obtain ⟨a, c, l, h3, hs⟩ := rows_trod hsC 8 (by decide) hsC_len Tryz.underlying52 cHs (fun n cs x _ h => hs_trod h) e3
    refine ⟨⟨z0, z1, z2, l⟩, a, c, ?_, hs⟩
    have hend : cs.drop 4 = [] := List.drop_of_length_le (by omega)
    show cs = [.int .i64 z0, .int .i64 z1, .int .i64 z2, .slice a l.length c]
    calc cs = cs.drop 0 := rfl
      _ = _ := by rw [cut_at cs 0 1, cut_at cs (0 + 1) 1, cut_at cs (0 + 1 + 1) 1, cut_at cs (0 + 1 + 1 + 1) 1, h0, h1, h2, h3, hend]; rfl
theorem ce_trod {w : World} {n : Nat} {held : Bool} {cs : List Value} {x : DataW H × List MemPlace} (h : DataW.trod enc Tryz.prog w 0 (fun _ => true) held n 57 cs = some x) : ∃ (e : CeD) (a : Option Addr) (c : Nat) (a' : Option Addr) (c' : Nat), cs = ceC e (.slice a e.os.length c) (.slice a' e.sg.length c') ∧ SrcW w 9 (.slice a e.os.length c) e.os.length (rws OutD.c e.os) ∧ SrcW w 282 (.slice a' e.sg.length c') e.sg.length (rws SgD.c e.sg) := by
  obtain ⟨xs, n', _, _, hlen, hxl, hf⟩ := DataW.trod_struct Tryz.underlying57 h
  rw [cCe] at hlen
  match xs, hxl with
  | [x0, x1, x2, x3, x4, x5, x6], _ =>
    have e0 : DataW.trod enc Tryz.prog w 0 (fun _ => true) held n' 3 ((cs.drop 0).take (Tryz.prog.cellsOf 3)) = some x0 := hf 0 _ rfl
    have e1 : DataW.trod enc Tryz.prog w 0 (fun _ => true) held n' 3 ((cs.drop 1).take (Tryz.prog.cellsOf 3)) = some x1 := hf 1 _ rfl
    have e2 : DataW.trod enc Tryz.prog w 0 (fun _ => true) held n' 3 ((cs.drop 2).take (Tryz.prog.cellsOf 3)) = some x2 := hf 2 _ rfl
    have e3 : DataW.trod enc Tryz.prog w 0 (fun _ => true) held n' 23 ((cs.drop 3).take (Tryz.prog.cellsOf 23)) = some x3 := hf 3 _ rfl
    have e4 : DataW.trod enc Tryz.prog w 0 (fun _ => true) held n' 23 ((cs.drop 11).take (Tryz.prog.cellsOf 23)) = some x4 := hf 4 _ rfl
    have e5 : DataW.trod enc Tryz.prog w 0 (fun _ => true) held n' 50 ((cs.drop 19).take (Tryz.prog.cellsOf 50)) = some x5 := hf 5 _ rfl
    have e6 : DataW.trod enc Tryz.prog w 0 (fun _ => true) held n' 55 ((cs.drop 20).take (Tryz.prog.cellsOf 55)) = some x6 := hf 6 _ rfl
    rw [cI] at e0 e1 e2
    rw [cHs] at e3 e4
    rw [cSO] at e5
    rw [cSS] at e6
    obtain ⟨z0, h0, _, _⟩ := DataW.trod_int Tryz.underlying3 e0
    obtain ⟨z1, h1, _, _⟩ := DataW.trod_int Tryz.underlying3 e1
    obtain ⟨z2, h2, _, _⟩ := DataW.trod_int Tryz.underlying3 e2
    obtain ⟨en, h3⟩ := hs_trod e3
    obtain ⟨ro, h4⟩ := hs_trod e4
    obtain ⟨a, c, l, h5, hs⟩ := rows_trod OutD.c 9 (by decide) OutD.len Tryz.underlying50 (e := 164) (by kernel_rfl) (fun n cs x _ h => out_trod h) e5
    obtain ⟨a', c', l', h6, hs'⟩ := rows_trod SgD.c 282 (by decide) SgD.len Tryz.underlying55 (e := 188) (by kernel_rfl) (fun n cs x _ h => sd_trod h) e6
    refine ⟨⟨z0, z1, z2, en, ro, l, l'⟩, a, c, a', c', ?_, hs, hs'⟩
    have hend : cs.drop 21 = [] := List.drop_of_length_le (by omega)
    show cs = .int .i64 z0 :: .int .i64 z1 :: .int .i64 z2 :: (u8s en.1 ++ (u8s ro.1 ++ [.slice a l.length c, .slice a' l'.length c']))
    calc cs = cs.drop 0 := rfl
      _ = _ := by
        rw [cut_at cs 0 1, cut_at cs (0 + 1) 1, cut_at cs (0 + 1 + 1) 1, cut_at cs (0 + 1 + 1 + 1) 8, cut_at cs (0 + 1 + 1 + 1 + 8) 8, cut_at cs (0 + 1 + 1 + 1 + 8 + 8) 1, cut_at cs (0 + 1 + 1 + 1 + 8 + 8 + 1) 1, h0, h1, h2, h3, h4, h5, h6, hend]
        rfl
end Go.Proofs.YtfoeakgnkfcbjaaGreatDoor
end
section
/- Arguments that are blocks, floats. -/
namespace Go.Vc
open Go Go.Sha Go.ChangeShapes Go.WideShapes Go.ChangeAt Go.RowKit Go.Deep
section
variable {H : Type} {enc : TypeId × Value → H} {P : Program}
/-- A slice of records among the cells of an argument. -/
theorem rows_trodP {α : Type} [Inhabited α] (Pr : α → Prop) (c : α → List Value) (sz : Nat) (hsz : 0 < sz) (hcl : ∀ a, (c a).length = sz) {w : World} {t e fuel : Nat} {held : Bool} {cs0 : List Value} {x : DataW H × List MemPlace} (hu : P.underlying t = some (.slice e)) (hc : P.cellsOf e = sz)
    (hf : ∀ n cs x, cs.length = sz → DataW.trod enc P w 0 (fun _ => true) held n e cs = some x → ∃ a, cs = c a ∧ Pr a)
    (h : DataW.trod enc P w 0 (fun _ => true) held fuel t cs0 = some x) : ∃ (a : Option Addr) (cap : Nat) (l : List α), cs0 = [.slice a l.length cap] ∧ SrcW w sz (.slice a l.length cap) l.length (rws c l) ∧ ∀ y ∈ l, Pr y := by
  rcases open_slice hu h with ⟨rfl, _⟩ | ⟨a, len, cap, m, n', D, Pl, rfl, _, hlc, hml, hmm, hxd, hx⟩
  · exact ⟨none, 0, [], rfl, .nil, fun y hy => by cases hy⟩
  · rw [if_pos rfl] at hmm
    subst hmm
    rw [hc] at hx
    have hex : ∀ i, i < len → ∃ y : α, Pr y ∧ ∀ j, j < sz → w.cell? (a.add (i * sz + j)) = (c y)[j]? := by
      intro i hi
      obtain ⟨cs', h1, h2⟩ := hx i (by omega)
      obtain ⟨_, hlen, hcell⟩ := World.cells?_some h1
      obtain ⟨y, rfl, hp⟩ := hf _ _ _ (by rw [hlen]) h2
      exact ⟨y, hp, fun j hj => by rw [← add_add]; exact hcell j hj⟩
    obtain ⟨F, hF⟩ := choose_lt hex
    have hlen : ((List.range len).map F).length = len := by simp
    refine ⟨some a, _, (List.range len).map F, by rw [hlen], ?_, fun y hy => by
      obtain ⟨i, hi, rfl⟩ := List.mem_map.1 hy
      exact (hF i (List.mem_range.1 hi)).1⟩
    rw [hlen]
    refine .at a _ _ _ (by rw [rws_len hcl, hlen]) hlc fun j u hj => ?_
    have hjl : j < len * sz := by
      have := (List.getElem?_eq_some_iff.1 hj).1
      rwa [rws_len hcl, hlen] at this
    have hi : j / sz < len := (Nat.div_lt_iff_lt_mul hsz).2 hjl
    have h2 := Nat.mod_lt j hsz
    have h3 := (hF (j / sz) hi).2 (j % sz) h2
    have h4 : j / sz * sz + j % sz = j := by rw [Nat.mul_comm]; exact Nat.div_add_mod j sz
    rw [h4] at h3
    rw [h3]
    have h5 : (c (F (j / sz)))[j % sz]? = some ((c (F (j / sz)))[j % sz]'(by rw [hcl]; exact h2)) := List.getElem?_eq_getElem _
    have h6 := rws_at hcl (l := (List.range len).map F) (i := j / sz) (s := F (j / sz)) (by simp [hi]) (j % sz) _ h5
    rw [h4, hj] at h6
    rw [h5, Option.some.inj h6]
theorem trod_float {w : World} {n : Nat} {held : Bool} {t : TypeId} {k : FloatKind} {v : Value} {x : DataW H × List MemPlace} (ht : P.underlying t = some (.float k)) (hf : DataW.trod enc P w 0 (fun _ => true) held n t [v] = some x) : ∃ b, v = .float k b ∧ (Lit.float k b).wf = true := by
  cases n with
  | zero => simp [DataW.trod] at hf
  | succ n =>
    simp only [DataW.trod, ht] at hf
    cases v <;> simp_all
theorem flt_lt {b : Nat} (h : (Lit.float .f64 b).wf = true) : b < 18446744073709551616 := by
  unfold Lit.wf at h
  exact of_decide_eq_true h
end
end Go.Vc
namespace Go.Proofs.YtfoeakgnkfcbjaaGreatDoor
open Go Go.Vc Go.Sha Go.ChangeShapes Go.WideShapes Go.ChangeAt Go.RowKit Go.Deep
set_option maxRecDepth 10000
variable {H : Type} {enc : TypeId × Value → H}
/-- The cells of a transaction. -/
theorem tx_trod {w : World} {n : Nat} {held : Bool} {cs : List Value} {x : DataW H × List MemPlace} (h : DataW.trod enc Tryz.prog w 0 (fun _ => true) held n 64 cs = some x) : ∃ (t : TxD) (u : TxV), cs = txC t u ∧ TxAt w t u := by
  obtain ⟨xs, n', _, _, hlen, hxl, hf⟩ := DataW.trod_struct Tryz.underlying64 h
  rw [cTx] at hlen
  match xs, hxl with
  | [x0, x1, x2, x3, x4, x5, x6, x7], _ =>
    have e0 : DataW.trod enc Tryz.prog w 0 (fun _ => true) held n' 3 ((cs.drop 0).take (Tryz.prog.cellsOf 3)) = some x0 := hf 0 _ rfl
    have e1 : DataW.trod enc Tryz.prog w 0 (fun _ => true) held n' 3 ((cs.drop 1).take (Tryz.prog.cellsOf 3)) = some x1 := hf 1 _ rfl
    have e2 : DataW.trod enc Tryz.prog w 0 (fun _ => true) held n' 49 ((cs.drop 2).take (Tryz.prog.cellsOf 49)) = some x2 := hf 2 _ rfl
    have e3 : DataW.trod enc Tryz.prog w 0 (fun _ => true) held n' 50 ((cs.drop 3).take (Tryz.prog.cellsOf 50)) = some x3 := hf 3 _ rfl
    have e4 : DataW.trod enc Tryz.prog w 0 (fun _ => true) held n' 51 ((cs.drop 4).take (Tryz.prog.cellsOf 51)) = some x4 := hf 4 _ rfl
    have e5 : DataW.trod enc Tryz.prog w 0 (fun _ => true) held n' 54 ((cs.drop 5).take (Tryz.prog.cellsOf 54)) = some x5 := hf 5 _ rfl
    have e6 : DataW.trod enc Tryz.prog w 0 (fun _ => true) held n' 57 ((cs.drop 9).take (Tryz.prog.cellsOf 57)) = some x6 := hf 6 _ rfl
    have e7 : DataW.trod enc Tryz.prog w 0 (fun _ => true) held n' 62 ((cs.drop 30).take (Tryz.prog.cellsOf 62)) = some x7 := hf 7 _ rfl
    rw [cI] at e0 e1
    rw [cSI] at e2
    rw [cSO] at e3
    rw [cSF] at e4
    rw [cPr] at e5
    rw [cCe] at e6
    rw [cCl] at e7
    obtain ⟨z0, h0, _, _⟩ := DataW.trod_int Tryz.underlying3 e0
    obtain ⟨z1, h1, _, _⟩ := DataW.trod_int Tryz.underlying3 e1
    obtain ⟨a2, c2, l2, h2, s2⟩ := rows_trod InD.c 298 (by decide) InD.len Tryz.underlying49 (e := 173) (by kernel_rfl) (fun n cs x _ h => in_trod h) e2
    obtain ⟨a3, c3, l3, h3, s3⟩ := rows_trod OutD.c 9 (by decide) OutD.len Tryz.underlying50 (e := 164) (by kernel_rfl) (fun n cs x _ h => out_trod h) e3
    obtain ⟨a4, c4, l4, h4, s4⟩ := rows_trod FoD.c 11 (by decide) FoD.len Tryz.underlying51 (e := 177) (by kernel_rfl) (fun n cs x _ h => fo_trod h) e4
    obtain ⟨p, a5, c5, h5, s5⟩ := pr_trod e5
    obtain ⟨e, a6, c6, a7, c7, h6, s6, s7⟩ := ce_trod e6
    obtain ⟨l, h7⟩ := cl_trod e7
    refine ⟨⟨z0, z1, l2, l3, l4, p, e, l⟩, ⟨a2, c2, a3, c3, a4, c4, a5, c5, a6, c6, a7, c7⟩, ?_, s2, s3, s4, at_ks s5, s6, s7⟩
    have hend : cs.drop 170 = [] := List.drop_of_length_le (by omega)
    have hall : cs = txC ⟨z0, z1, l2, l3, l4, p, e, l⟩ ⟨a2, c2, a3, c3, a4, c4, a5, c5, a6, c6, a7, c7⟩ := by
      show cs = .int .i64 z0 :: .int .i64 z1 :: .slice a2 l2.length c2 :: .slice a3 l3.length c3 :: .slice a4 l4.length c4 :: (prC p (.slice a5 p.ks.length c5) ++ (ceC e (.slice a6 e.os.length c6) (.slice a7 e.sg.length c7) ++ l.c))
      calc cs = cs.drop 0 := rfl
        _ = _ := by
          rw [cut_at cs 0 1, cut_at cs (0 + 1) 1, cut_at cs (0 + 1 + 1) 1, cut_at cs (0 + 1 + 1 + 1) 1, cut_at cs (0 + 1 + 1 + 1 + 1) 1, cut_at cs (0 + 1 + 1 + 1 + 1 + 1) 4, cut_at cs (0 + 1 + 1 + 1 + 1 + 1 + 4) 21, cut_at cs (0 + 1 + 1 + 1 + 1 + 1 + 4 + 21) 140, h0, h1, h2, h3, h4, h5, h6, h7, hend, List.append_nil]
          rfl
    exact hall
theorem cBk : Tryz.prog.cellsOf 27 = 10 := by kernel_rfl
theorem cFl : Tryz.prog.cellsOf 24 = 1 := by kernel_rfl
theorem cST : Tryz.prog.cellsOf 25 = 1 := by kernel_rfl
instance : Inhabited TxP := ⟨(TxD.nul 0, TxV.z)⟩
def BkV.nil0 : BkV := ⟨By.z 8, 0, by decide, []⟩
/-- A block as argument. -/
theorem bk_arg {w : World} {b0 : Nat} {r : Reach} {held : Bool} {v : Value} {d : DataW H} {ps : List MemPlace} (hval : Value.okWide Tryz.prog w r b0 27 v) (h : DataW.Trod enc Tryz.prog w 0 (fun _ => true) held 27 v d ps) : ∃ (b : BkV) (a : Option Addr) (c : Nat), v = .agg (bkC b a c).toArray ∧ BkAt w b a c := by
  unfold Value.okWide at hval
  rw [Tryz.underlying27] at hval
  obtain ⟨ca, rfl, hs, _⟩ := hval
  obtain ⟨n, h⟩ := h
  obtain ⟨xs, n', _, _, hlen, hxl, hf⟩ := DataW.trod_struct Tryz.underlying27 h
  obtain ⟨cs, hcs⟩ : ∃ cs, cs = (Value.agg ca).cells.toList := ⟨_, rfl⟩
  rw [← hcs] at hlen hf
  rw [cBk] at hlen
  match xs, hxl with
  | [x0, x1, x2], _ =>
    have e0 : DataW.trod enc Tryz.prog w 0 (fun _ => true) held n' 23 ((cs.drop 0).take (Tryz.prog.cellsOf 23)) = some x0 := hf 0 _ rfl
    have e1 : DataW.trod enc Tryz.prog w 0 (fun _ => true) held n' 24 ((cs.drop 8).take (Tryz.prog.cellsOf 24)) = some x1 := hf 1 _ rfl
    have e2 : DataW.trod enc Tryz.prog w 0 (fun _ => true) held n' 25 ((cs.drop 9).take (Tryz.prog.cellsOf 25)) = some x2 := hf 2 _ rfl
    rw [cHs] at e0
    rw [cFl] at e1
    rw [cST] at e2
    obtain ⟨pv, h0⟩ := hs_trod e0
    obtain ⟨v1, hv1⟩ : ∃ v1, (cs.drop 8).take 1 = [v1] := by
      have : ((cs.drop 8).take 1).length = 1 := by rw [List.length_take, List.length_drop]; omega
      match (cs.drop 8).take 1, this with
      | [q], _ => exact ⟨q, rfl⟩
    rw [hv1] at e1
    obtain ⟨x, rfl, hw⟩ := trod_float Tryz.underlying24 e1
    obtain ⟨a, c, l, h2, hs2, ht⟩ := rows_trodP (fun q : TxP => TxAt w q.1 q.2) txR 170 (by decide) txR_len Tryz.underlying25 cTx (fun n cs x _ h => by
      obtain ⟨t, u, rfl, hu⟩ := tx_trod h
      exact ⟨(t, u), rfl, hu⟩) e2
    refine ⟨⟨pv, x, flt_lt hw, l⟩, a, c, ?_, hs2, ht⟩
    have hend : cs.drop 10 = [] := List.drop_of_length_le (by omega)
    have hall : cs = bkC ⟨pv, x, flt_lt hw, l⟩ a c := by
      show cs = u8s pv.1 ++ [.float .f64 x, .slice a l.length c]
      calc cs = cs.drop 0 := rfl
        _ = _ := by
          rw [cut_at cs 0 8, cut_at cs (0 + 8) 1, cut_at cs (0 + 8 + 1) 1, h0, hv1, h2, hend]
          rfl
    rw [← hall, hcs]
    rfl
end Go.Proofs.YtfoeakgnkfcbjaaGreatDoor
end
