import Derived.Test.YtfhdfpejjgmdcaaGreatDoorAcW
import Derived.Test.YtfhdfpejjgmdcaaGreatDoorTraB
import Derived.Test.YtfhdfpejjgmdcaaGreatDoorVcS
set_option linter.unusedSimpArgs false
set_option linter.unusedVariables false
/- account: AccountKeeps. -/
namespace Go.Vc
open Go
section
variable {P : Program} {n : Nat} {w0 : World} {S0 : List Nat} {Q : Exit → Act → World → Prop} {E : Env} {L : Hp}
/-- A cut that lets those pass that leave early. -/
def Mid (n : Nat) (w0 : World) (S0 : List Nat) {Y : Type} (Ey : Y → Env) (Ly : Y → Hp) (a : Act) (w : World) : Prop := ∃ y, St n (Ey y) a ∧ Mem w0 S0 (Ly y) w
theorem RC.thenMid {c : Code} {K : Act → World → Prop} {Y : Type} (Ey : Y → Env) (Ly : Y → Hp) (h : RC P n w0 S0 c (Exit.then (Mid n w0 S0 Ey Ly) Q) E L) (k : ∀ y, RQ n w0 S0 .normal (Exit.then K Q) (Ey y) (Ly y)) : RC P n w0 S0 c (Exit.then K Q) E L :=
  fun a w hs hm => wp_mono (h a w hs hm) fun e a w q => by
    cases e with
    | normal => obtain ⟨y, h1, h2⟩ := q; exact k y a w h1 h2
    | _ => exact q
theorem RQ.midY {Y : Type} {Ey : Y → Env} {Ly : Y → Hp} (y : Y) {L1 : Hp} (he : Env.le (Ey y) E) (hp : L.Perm L1) (hl : (Ly y).Sublist L1) : RQ n w0 S0 .normal (Exit.then (Mid n w0 S0 Ey Ly) Q) E L :=
  fun _ _ hs hm => ⟨y, hs.weak he, (hm.perm hp).sublist hl⟩
end
end Go.Vc
namespace Go.Proofs.YtfhdfpejjgmdcaaGreatDoor
attribute [local irreducible] Go.Vc.Run Go.Vc.RC Go.Vc.RQ Go.Vc.DR Go.Vc.DOp
open Go Go.Vc Go.Sha
/-- A ledger and its model, which hold the same. -/
structure Bk (ab rb : Nat) where
  y : AlP ab
  z : RlP rb
  e : y.s = z.s
def Bk.L {ab rb : Nat} (b : Bk ab rb) : Hp := b.y.L ++ b.z.L
theorem totX_nn {s : LS} (ok : LsOk s) : 0 ≤ totX s := by
  unfold totX
  have h := ok.am
  generalize s.acs = l at h
  induction l with
  | nil => exact Int.le_refl _
  | cons p l ih =>
    rw [List.map_cons, List.sum_cons]
    have h1 := h p List.mem_cons_self
    have h2 := ih fun q hq => h q (List.mem_cons_of_mem _ hq)
    omega
theorem leavX_nn {s : LS} (ok : LsOk s) : 0 ≤ leavX s := by
  unfold leavX
  have h := ok.oa
  generalize s.out = l at h
  induction l with
  | nil => exact Int.le_refl _
  | cons p l ih =>
    rw [List.map_cons, List.sum_cons]
    have h1 := h p List.mem_cons_self
    have h2 := ih fun q hq => h q (List.mem_cons_of_mem _ hq)
    omega
theorem acGet_at : ∀ {l : Acs} {k : Nat} {i : Int} {a : AcD}, (l.map (·.1)).Nodup → l[k]? = some (i, a) → acGet i l = some a
  | [], _, _, _, _, h => by simp at h
  | p :: l, 0, i, a, _, h => by
    simp only [List.getElem?_cons_zero, Option.some.injEq] at h
    subst h
    rw [acGet_cons, if_pos rfl]
  | p :: l, k + 1, i, a, nd, h => by
    rw [List.getElem?_cons_succ] at h
    rw [List.map_cons, List.nodup_cons] at nd
    rw [acGet_cons, if_neg (fun e => nd.1 (by rw [e]; exact List.mem_map.2 ⟨_, List.mem_of_getElem? h, rfl⟩)), acGet_at nd.2 h]
theorem dy_am (x : DyD) : x.c.toArray[11]? = some (.int .i64 x.am) := by
  obtain ⟨_, qf, _⟩ := dy_rd x
  exact qf 10 _ (by obtain ⟨o0, o1, o2, o3, o4, o5, o6, o7, e⟩ := len8 x.h8.1; rw [e]; rfl)
theorem dy_w1 (x : DyD) (z : Int) : wrAt x.c.toArray 1 (Value.cells (.int .i64 z)).toList = ({ x with sd := z } : DyD).c.toArray := rfl
theorem dy_w3 (x : DyD) (o : List Nat) (h : H8 o) : wrAt x.c.toArray 3 (u8s o) = ({ x with o := o, h8 := h } : DyD).c.toArray := by
  have := wr_mid' [.int .i64 x.d, .int .i64 x.sd, .int .i64 x.ac] (u8s x.o) (u8s o) ([.int .i64 x.am] ++ (.int .i64 x.who :: (x.t.c ++ [.int .u8 x.be]))) (by rw [u8s_len, u8s_len, h.1, x.h8.1]) 3 rfl
  unfold DyD.c dyC fwC
  simpa using this
theorem treeOf_8 (s : List Nat) : H8 (treeOf s) := ⟨treeOf_len s, treeOf_lt s⟩
theorem sum_take {l : List OuD} {k : Nat} {e : OuD} (h : l[k]? = some e) : ((l.take (k + 1)).map (·.am)).sum = ((l.take k).map (·.am)).sum + e.am := by
  rw [List.take_add_one, h, Option.toList_some, List.map_append, List.sum_append]; simp
theorem sum_take_le {l : List OuD} (h : ∀ x ∈ l, 1 ≤ x.am) (k : Nat) : 0 ≤ ((l.take k).map (·.am)).sum ∧ ((l.take k).map (·.am)).sum ≤ (l.map (·.am)).sum := by
  have nn : ∀ l : List OuD, (∀ x ∈ l, 1 ≤ x.am) → 0 ≤ (l.map (·.am)).sum := by
    intro l h
    induction l with
    | nil => exact Int.le_refl _
    | cons p l ih =>
      rw [List.map_cons, List.sum_cons]
      have h1 := h p List.mem_cons_self
      have h2 := ih fun q hq => h q (List.mem_cons_of_mem _ hq)
      omega
  have h1 := nn (l.take k) fun x hx => h x (List.mem_of_mem_take hx)
  have h2 := nn (l.drop k) fun x hx => h x (List.mem_of_mem_drop hx)
  refine ⟨h1, ?_⟩
  conv => rhs; rw [← List.take_append_drop k l]
  rw [List.map_append, List.sum_append]
  omega
/-- What holds at the head of each round. -/
structure KpI {ab rb : Nat} (i : Nat) (x : Bk ab rb × Int × Int) : Prop where
  sum : totX x.1.y.s + leavX x.1.y.s + x.2.2 = x.2.1
  nn : 0 ≤ x.2.2
  le : x.2.1 ≤ (i : Int) * 1099511627776
theorem fw_len (x : DyD) : (fwC x.sd x.ac x.o x.am).length = 11 := (fw_rd x.h8.1 x.sd x.ac x.am).2.2.2
end Go.Proofs.YtfhdfpejjgmdcaaGreatDoor

/- account: AccountSigns. -/
namespace Go.Proofs.YtfhdfpejjgmdcaaGreatDoor
attribute [local irreducible] Go.Vc.Run Go.Vc.RC Go.Vc.RQ Go.Vc.DR Go.Vc.DOp
open Go Go.Vc Go.Sha
/-- What holds at the head of each round. -/
structure SgI {ab rb : Nat} (side : Int) (i : Nat) (x : Bk ab rb × Int) : Prop where
  sd : x.1.y.s.side = side
  acs : ∃ f : AcD, x.1.y.s.acs = [(5, f)] ∧ f.o = o1T ∧ f.am = x.2 ∧ f.no = ((min i 8 : Nat) : Int)
  out : x.1.y.s.out.length = min i 8
  lv : leavX x.1.y.s = 5000 - x.2
  lo : 5000 - (min i 8 : Nat) * 256 ≤ x.2
  hi : x.2 ≤ 5000
theorem leav_app (sd : Int) (a : Acs) (os : List OuD) (o : OuD) : leavX ⟨sd, a, os ++ [o]⟩ = (os.map (·.am)).sum + o.am := by
  unfold leavX
  rw [List.map_append, List.sum_append]; simp
theorem crS_none {s : LS} {sd ac : Int} {o : List Nat} {h : H8 o} {am : Int} (hc : crOk s sd ac o am) (hg : acGet ac s.acs = none) : crS s sd ac o h am = { s with acs := s.acs ++ [(ac, ⟨o, am, 0, h⟩)] } := by
  unfold crS crTo
  rw [if_pos hc, hg]
  dsimp only
  rw [acSet_new hg]
end Go.Proofs.YtfhdfpejjgmdcaaGreatDoor

/- account: AccountMoves. -/
namespace Go.Proofs.YtfhdfpejjgmdcaaGreatDoor
attribute [local irreducible] Go.Vc.Run Go.Vc.RC Go.Vc.RQ Go.Vc.DR Go.Vc.DOp
open Go Go.Vc Go.Sha
/-- The owners. -/
def owT (k : Nat) : List Nat := match k with
  | 0 => [89, 243, 141, 14, 110, 122, 193, 48]
  | 1 => o1T
  | _ => [215, 145, 207, 158, 171, 213, 178, 251]
theorem owT_8 (k : Nat) : H8 (owT k) := by
  match k with
  | 0 => exact ⟨rfl, by decide⟩
  | 1 => exact o1T_8
  | k + 2 => exact ⟨rfl, (by decide : ∀ x ∈ owT 2, x < 256)⟩
theorem owT_ne (k : Nat) : owT k ≠ Z8 := by
  match k with
  | 0 => decide
  | 1 => exact o1T_ne
  | k + 2 => exact (by decide : owT 2 ≠ Z8)
theorem owT_eq {k : Nat} (h : k < 3) : treeOf (sedV k) = owT k := by
  match k, h with
  | 0, _ => exact owner0
  | 1, _ => exact o1T_eq
  | 2, _ => exact owner2
def owA (k : Nat) (am no : Int) : AcD := ⟨owT k, am, no, owT_8 k⟩
def mv0 (i : Nat) : LS := ⟨3, (List.range i).map fun k : Nat => ((k : Int), owA k 60 0), []⟩
def mvS (H N : List Int) : LS := ⟨3, [(0, owA 0 (H.getD 0 0) (N.getD 0 0)), (1, owA 1 (H.getD 1 0) (N.getD 1 0)), (2, owA 2 (H.getD 2 0) (N.getD 2 0))], []⟩
theorem mv0_cr {i : Nat} (h : i < 3) : crOk (mv0 i) 3 i (owT i) 60 ∧ crS (mv0 i) 3 i (owT i) (owT_8 i) 60 = mv0 (i + 1) := by
  have hc : crOk (mv0 i) 3 i (owT i) 60 ∧ acGet i (mv0 i).acs = none := by
    match i, h with
    | 0, _ => exact ⟨⟨rfl, by omega, by unfold maxM; omega, owT_ne 0, trivial⟩, rfl⟩
    | 1, _ => exact ⟨⟨rfl, by omega, by unfold maxM; omega, owT_ne 1, trivial⟩, rfl⟩
    | 2, _ => exact ⟨⟨rfl, by omega, by unfold maxM; omega, owT_ne 2, trivial⟩, rfl⟩
  refine ⟨hc.1, ?_⟩
  rw [crS_none hc.1 hc.2]
  unfold mv0
  rw [List.range_succ, List.map_append]
  rfl
theorem mv_get (H N : List Int) {k : Nat} (h : k < 3) : acGet (k : Int) (mvS H N).acs = some (owA k (H.getD k 0) (N.getD k 0)) := by
  match k, h with
  | 0, _ => rfl
  | 1, _ => rfl
  | 2, _ => rfl
theorem len3 {α : Type} {l : List α} (h : l.length = 3) : ∃ a b c, l = [a, b, c] := by
  match l, h with
  | [a, b, c], _ => exact ⟨a, b, c, rfl⟩
theorem mv_set {H N : List Int} (h1 : H.length = 3) (h2 : N.length = 3) {p q : Nat} (hp : p < 3) (hq : q < 3) (hpq : p ≠ q) (u v m : Int) :
    (⟨3, acSet (q : Int) (owA q v (N.getD q 0)) (acSet (p : Int) (owA p u m) (mvS H N).acs), []⟩ : LS) = mvS ((H.set p u).set q v) (N.set p m) := by
  obtain ⟨a0, a1, a2, rfl⟩ := len3 h1
  obtain ⟨c0, c1, c2, rfl⟩ := len3 h2
  match p, hp, q, hq with
  | 0, _, 0, _ => exact absurd rfl hpq
  | 0, _, 1, _ => rfl
  | 0, _, 2, _ => rfl
  | 1, _, 0, _ => rfl
  | 1, _, 1, _ => exact absurd rfl hpq
  | 1, _, 2, _ => rfl
  | 2, _, 0, _ => rfl
  | 2, _, 1, _ => rfl
  | 2, _, 2, _ => exact absurd rfl hpq
structure MvI {ab rb : Nat} (x : Bk ab rb × List Int × List Int) : Prop where
  s : x.1.y.s = mvS x.2.1 x.2.2
  hl : x.2.1.length = 3
  nl : x.2.2.length = 3
  sum : x.2.1.getD 0 0 + x.2.1.getD 1 0 + x.2.1.getD 2 0 = 180
  nn : ∀ k, k < 3 → 0 ≤ x.2.1.getD k 0
  no : ∀ k, k < 3 → 0 ≤ x.2.2.getD k 0 ∧ x.2.2.getD k 0 ≤ 8
theorem sum3 {H : List Int} (h : H.length = 3) {p q : Nat} (hp : p < 3) (hq : q < 3) (hpq : p ≠ q) (n : Int) : ((H.set p (H.getD p 0 - n)).set q (H.getD q 0 + n)).getD 0 0 + ((H.set p (H.getD p 0 - n)).set q (H.getD q 0 + n)).getD 1 0 + ((H.set p (H.getD p 0 - n)).set q (H.getD q 0 + n)).getD 2 0 = H.getD 0 0 + H.getD 1 0 + H.getD 2 0 := by
  obtain ⟨a0, a1, a2, rfl⟩ := len3 h
  match p, hp, q, hq with
  | 0, _, 0, _ => exact absurd rfl hpq
  | 0, _, 1, _ => show a0 - n + (a1 + n) + a2 = a0 + a1 + a2; omega
  | 0, _, 2, _ => show a0 - n + a1 + (a2 + n) = a0 + a1 + a2; omega
  | 1, _, 0, _ => show a0 + n + (a1 - n) + a2 = a0 + a1 + a2; omega
  | 1, _, 1, _ => exact absurd rfl hpq
  | 1, _, 2, _ => show a0 + (a1 - n) + (a2 + n) = a0 + a1 + a2; omega
  | 2, _, 0, _ => show a0 + n + a1 + (a2 - n) = a0 + a1 + a2; omega
  | 2, _, 1, _ => show a0 + (a1 + n) + (a2 - n) = a0 + a1 + a2; omega
  | 2, _, 2, _ => exact absurd rfl hpq
theorem sum_le3 {H : List Int} (h : H.getD 0 0 + H.getD 1 0 + H.getD 2 0 = 180) (hn : ∀ k, k < 3 → 0 ≤ H.getD k 0) {k : Nat} (hk : k < 3) : H.getD k 0 ≤ 180 := by
  have a0 := hn 0 (by decide)
  have a1 := hn 1 (by decide)
  have a2 := hn 2 (by decide)
  match k, hk with
  | 0, _ => omega
  | 1, _ => omega
  | 2, _ => omega
theorem getD_set3 {H : List Int} {p : Nat} {u : Int} (k : Nat) (hp : p < H.length) : (H.set p u).getD k 0 = if p = k then u else H.getD k 0 := by
  rw [List.getD_eq_getElem?_getD, List.getD_eq_getElem?_getD, List.getElem?_set]
  split <;> first | rfl | (rw [if_pos hp]; rfl)
theorem at3 {H : List Int} {k : Nat} (hk : k < H.length) : (i64L H).toArray[k]? = some (.int .i64 (H.getD k 0)) := i64L_at (by rw [List.getD_eq_getElem?_getD, List.getElem?_eq_getElem hk]; rfl)
theorem _root_.Go.Vc.Val.idxAg {P : Program} {n : Nat} {w0 : World} {S0 : List Nat} {E : Env} {L : Hp} {o : Oper} {T : List (Nat × TI)} {t : Nat} {ti : TI} (hT : TabOk P T) {x y : Operand} {ad : Addr} {len el : Nat} {k : IntKind} {z : Int} {ei : TI} (ho : o.op = .indexAddr t x y) (ht : tiGet T t = some ti) (hd : ti.desc = .array len el) (he : tiGet T el = some ei)
    (hx : lk E x = some (.pointer (some ad))) (hy : lk E y = some (.int k z)) (h0 : 0 ≤ z) (h1 : z < len) : Val P n w0 S0 E L o (.pointer (some (ad.add (z.toNat * ei.size)))) := by
  intro a w hs _
  have h2 := (hT _ _ ht).1
  rw [hd] at h2
  simp [execOp, ho, hs.eval hx, hs.eval hy, Instr.indexAt, asIntOf, run_underlying h2, Instr.sureAddr, h0, h1, (hT _ _ he).size]
theorem vxa {n : Nat} {w0 : World} {S0 : List Nat} {E : Env} {L : Hp} {o : Oper} {t : Nat} {ti : TI} {x y : Operand} {ad : Addr} {len el : Nat} {k : IntKind} {ei : TI} (j : Nat) (ho : o.op = .indexAddr t x y := by exact rfl) (ht : tiGet tab t = some ti := by exact rfl) (hd : ti.desc = .array len el := by exact rfl) (he : tiGet tab el = some ei := by exact rfl) (hx : lk E x = some (.pointer (some ad)) := by exact rfl) (hy : lk E y = some (.int k j) := by exact rfl) (hz : ei.size = 1 := by exact rfl) (hj : j < len := by decide) :
    Val Tryz.prog n w0 S0 E L o (.pointer (some (ad.add j))) := by
  have := Val.idxAg (P := Tryz.prog) (n := n) (w0 := w0) (S0 := S0) (L := L) tabOk ho ht hd he hx hy (Int.natCast_nonneg j) (by omega)
  rwa [hz, Nat.mul_one, Int.toNat_natCast] at this
theorem has_set {i : Nat} (h : i < 3) : (List.replicate i (60 : Int) ++ List.replicate (3 - i) 0).set i 60 = List.replicate (i + 1) 60 ++ List.replicate (3 - (i + 1)) 0 := by
  match i, h with
  | 0, _ => rfl
  | 1, _ => rfl
  | 2, _ => rfl
/-- Three small numbers. -/
structure T3D where
  l : List Nat
  h3 : l.length = 3
  hb : ∀ x ∈ l, x < 256
def T3D.c (x : T3D) : List Value := u8s x.l
theorem T3D.len (x : T3D) : x.c.length = 3 := by unfold T3D.c; rw [u8s_len, x.h3]
def dyM (p q : Nat) (n : Int) : DyD := ⟨0, 0, 0, Z8, 0, p, SxD.bare ⟨1, p, q, Z8, n, 0, zer 128, zer 128, zer 24, H8.z, zer_ok 128, zer_ok 128, zer_ok 24⟩ 0, 0, H8.z, by decide⟩
/-- What comes of a move. -/
theorem mv_do {H N : List Int} (hl : H.length = 3) (nl : N.length = 3) (hsum : H.getD 0 0 + H.getD 1 0 + H.getD 2 0 = 180) (hn : ∀ k, k < 3 → 0 ≤ H.getD k 0) (hno : ∀ k, k < 3 → 0 ≤ N.getD k 0 ∧ N.getD k 0 ≤ 8) {p q : Nat} (hp : p < 3) (hq : q < 3) {n : Int} (hn1 : 1 ≤ n ∧ n ≤ 100) :
    (erX (mvS H N) (mkT (mvS H N) 3 (dyM p q n)) = 0 ↔ p ≠ q ∧ N.getD p 0 < 8 ∧ n ≤ H.getD p 0) ∧ (p = q → erX (mvS H N) (mkT (mvS H N) 3 (dyM p q n)) = 4) ∧
    (erX (mvS H N) (mkT (mvS H N) 3 (dyM p q n)) = 0 → doX (mvS H N) (mkT (mvS H N) 3 (dyM p q n)) = mvS ((H.set p (H.getD p 0 - n)).set q (H.getD q 0 + n)) (N.set p (N.getD p 0 + 1))) := by
  have hg := mv_get H N hp
  have hq2 := mv_get H N hq
  have hnp := hno p hp
  have hle := sum_le3 hsum hn hq
  have e0 := erX_made (s := mvS H N) (x := dyM p q n) hg (owT_eq hp).symm (by decide : (0 : Nat) ≠ 1) (by decide : (0 : Nat) ≠ 2) (by decide : (0 : Int) ≤ 3 ∧ (3 : Int) < 8)
  have hmay : maySx ((dyM p q n).t.bare (owA p (H.getD p 0) (N.getD p 0)).no) ↔ p ≠ q := by
    unfold maySx fitsX kindX
    dsimp only [dyM, SxD.bare, owA]
    unfold maxM
    constructor
    · rintro ⟨_, h | h⟩
      · intro e; exact h.2.2.1 (by rw [e])
      · omega
    · intro h
      exact ⟨by omega, .inl ⟨rfl, by omega, by omega, rfl⟩⟩
  have htn : ¬ ((dyM p q n).t.kd = 1 ∧ (acGet (dyM p q n).t.tt (mvS H N).acs).isNone = true) := by
    rintro ⟨_, h⟩
    change (acGet (q : Int) (mvS H N).acs).isNone = true at h
    rw [hq2] at h
    cases h
  have hto : toAm (mvS H N) (dyM p q n).t = H.getD q 0 := by
    unfold toAm
    show (match acGet (q : Int) (mvS H N).acs with | some g => g.am | none => 0) = _
    rw [hq2]; rfl
  change erX (mvS H N) (mkT (mvS H N) 3 (dyM p q n)) = _ at e0
  have hkd : (dyM p q n).t.kd = 1 := rfl
  have ham : (dyM p q n).t.am = n := rfl
  rw [hto, ham] at e0
  by_cases hpq : p = q
  · rw [if_pos (show ¬ maySx ((dyM p q n).t.bare (owA p (H.getD p 0) (N.getD p 0)).no) from fun h => hmay.1 h hpq)] at e0
    rw [e0]
    exact ⟨⟨fun h => absurd h (by decide), fun h => absurd hpq h.1⟩, fun _ => rfl, fun h => absurd h (by decide)⟩
  rw [if_neg (show ¬ ¬ maySx ((dyM p q n).t.bare (owA p (H.getD p 0) (N.getD p 0)).no) from fun h => h (hmay.2 hpq)), if_neg htn] at e0
  refine ⟨?_, fun h => absurd h hpq, fun h0 => ?_⟩
  · rw [e0]
    change (if ¬ (0 ≤ N.getD p 0 ∧ N.getD p 0 < 8) then (7 : Int) else if n > H.getD p 0 ∨ (dyM p q n).t.kd = 1 ∧ H.getD q 0 + n > maxM then 5 else if (dyM p q n).t.kd ≠ 1 ∧ (mvS H N).out.length ≥ 16 then 18 else 0) = 0 ↔ _
    by_cases h1 : N.getD p 0 < 8
    · rw [if_neg (show ¬ ¬ (0 ≤ N.getD p 0 ∧ N.getD p 0 < 8) by omega)]
      by_cases h2 : n ≤ H.getD p 0
      · rw [if_neg (show ¬ (n > H.getD p 0 ∨ (dyM p q n).t.kd = 1 ∧ H.getD q 0 + n > maxM) by unfold maxM; omega), if_neg (show ¬ ((dyM p q n).t.kd ≠ 1 ∧ (mvS H N).out.length ≥ 16) from fun h => h.1 rfl)]
        exact ⟨fun _ => ⟨hpq, h1, h2⟩, fun _ => rfl⟩
      · rw [if_pos (.inl (by omega))]
        exact ⟨fun h => absurd h (by decide), fun h => absurd h.2.2 h2⟩
    · rw [if_pos (show ¬ (0 ≤ N.getD p 0 ∧ N.getD p 0 < 8) by omega)]
      exact ⟨fun h => absurd h (by decide), fun h => absurd h.2.1 h1⟩
  · have d0 := doX_made (s := mvS H N) (x := dyM p q n) hg h0
    change doX (mvS H N) (mkT (mvS H N) 3 (dyM p q n)) = _ at d0
    rw [d0, if_pos hkd]
    show (match acGet (q : Int) (mvS H N).acs with | none => _ | some g => _) = _
    rw [hq2]
    exact mv_set hl nl hp hq hpq _ _ _
end Go.Proofs.YtfhdfpejjgmdcaaGreatDoor
