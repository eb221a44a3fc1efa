/- sparse: the plain law of the orders; parts of slices. -/
import Derived.Test.YtfhdfpejjgmdcaaGreatDoorSpP
import Derived.Test.YtfhdfpejjgmdcaaGreatDoorMer2
set_option linter.unusedSimpArgs false
set_option linter.unusedVariables false
namespace Go.Vc
open Go Go.Sha
section
variable {P : Program} {n : Nat} {w0 : World} {S0 : List Nat} {Q : Exit → Act → World → Prop} {E : Env} {L : Hp} {o : Oper} {t : TypeId} {ti ei : TI} {T : List (Nat × TI)}
def cutA (a : Option Addr) (k sz c : Nat) : Option Addr := a.map fun ad => if c = k then ad else ad.add (k * sz)
theorem Val.slLo (hT : TabOk P T) {x y : Operand} {a : Option Addr} {len cap el : Nat} (k : Nat) (ho : o.op = .slice t x (some y) none none) (ht : tiGet T t = some ti) (hd : ti.desc = .slice el) (he : tiGet T el = some ei)
    (hx : lk E x = some (.slice a len cap)) (hy : lk E y = some (.int .i64 k)) (h1 : k ≤ len) (h2 : len ≤ cap) : Val P n w0 S0 E L o (.slice (cutA a k ei.size cap) (len - k) (cap - k)) := by
  intro ac w hs _
  have hu := (hT _ _ ht).1
  rw [hd] at hu
  have b3 := run_sliceBound (P := P) w .i64 k len .sliceB (by omega) (by omega)
  cases a with
  | none => simp [execOp, ho, hs.eval hx, hs.eval hy, Instr.sliceAt, Instr.slice, run_underlying hu, Instr.sliceBounds, (hT _ _ he).size, b3, cutA]
  | some ad =>
    simp [execOp, ho, hs.eval hx, hs.eval hy, Instr.sliceAt, Instr.slice, run_underlying hu, Instr.sliceBounds, (hT _ _ he).size, b3, cutA]
    split <;> rfl
theorem Val.slHi (hT : TabOk P T) {x y : Operand} {a : Option Addr} {len cap el : Nat} (k : Nat) (ho : o.op = .slice t x none (some y) none) (ht : tiGet T t = some ti) (hd : ti.desc = .slice el) (he : tiGet T el = some ei)
    (hx : lk E x = some (.slice a len cap)) (hy : lk E y = some (.int .i64 k)) (h1 : k ≤ len) (h2 : len ≤ cap) : Val P n w0 S0 E L o (.slice a k cap) := by
  intro ac w hs _
  have hu := (hT _ _ ht).1
  rw [hd] at hu
  have b3 := run_sliceBound (P := P) w .i64 k cap .sliceAcap (by omega) (by omega)
  cases a with
  | none => simp [execOp, ho, hs.eval hx, hs.eval hy, Instr.sliceAt, Instr.slice, run_underlying hu, Instr.sliceBounds, (hT _ _ he).size, b3]
  | some ad => simp [execOp, ho, hs.eval hx, hs.eval hy, Instr.sliceAt, Instr.slice, run_underlying hu, Instr.sliceBounds, (hT _ _ he).size, b3, Addr.add]
theorem Val.ptrNe3 (hT : TabOk P T) {x y : Operand} {a : Addr} {el t2 : Nat} (ho : o.op = .binOp .neq t x y t2) (ht : tiGet T t = some ti) (hd : ti.desc = .pointer el) (hx : lk E x = some (.pointer (some a))) (hy : lk E y = some (.pointer none)) :
    Val P n w0 S0 E L o (.bool true) := by
  intro ac w hs _
  have h2 := (hT _ _ ht).1
  rw [hd] at h2
  have h3 : P.underlying t = some (.pointer (P.pointee t)) := by rw [h2]; simp [Program.pointee, h2]
  have hg : (eqGuard .neq t x y (.pointer (some a)) (.pointer none)).run P w = .ok () w := by simp [eqGuard]
  simp [execOp, ho, hs.eval hx, hs.eval hy, hg, run_neq_pointer_nil w t (some a) h3]
end
theorem SrcW.lo {w : World} {sz m c k : Nat} {a : Option Addr} {cs : List Value} (h : SrcW w sz (.slice a m c) m cs) (hk : k ≤ m) : SrcW w sz (.slice (cutA a k sz c) (m - k) (c - k)) (m - k) (cs.drop (k * sz)) := by
  cases h with
  | nil =>
    obtain rfl : k = 0 := by omega
    show SrcW w sz (.slice none 0 0) 0 (List.drop (0 * sz) [])
    rw [List.drop_nil]
    exact .nil
  | «at» ad _ _ _ hl hmc hr =>
    unfold cutA
    rw [Option.map_some]
    by_cases e : c = k
    · rw [if_pos e]
      refine .at _ _ _ _ (by rw [List.length_drop, hl, Nat.sub_mul]) (by omega) fun j u hj => ?_
      rw [List.drop_eq_nil_of_le (by rw [hl]; exact Nat.mul_le_mul_right _ (by omega))] at hj
      cases hj
    · rw [if_neg e]
      exact SrcW.dropN hl hr hmc
theorem SrcW.hi {w : World} {sz m c k : Nat} {a : Option Addr} {cs : List Value} (h : SrcW w sz (.slice a m c) m cs) (hk : k ≤ m) : SrcW w sz (.slice a k c) k (cs.take (k * sz)) := by
  cases h with
  | nil =>
    obtain rfl : k = 0 := by omega
    rw [List.take_nil]
    exact .nil
  | «at» ad _ _ _ hl hmc hr => exact SrcW.takeN hl hr hk hmc
end Go.Vc
namespace Go.Sha
open Go.Vc
theorem rws_drop {α : Type} {c : α → List Go.Value} {sz : Nat} (hc : ∀ a, (c a).length = sz) (l : List α) (k : Nat) : (rws c l).drop (k * sz) = rws c (l.drop k) ∧ (rws c l).take (k * sz) = rws c (l.take k) := by
  by_cases hk : k ≤ l.length
  · have e : rws c l = rws c (l.take k) ++ rws c (l.drop k) := by rw [← rws_app, List.take_append_drop]
    have hl : (rws c (l.take k)).length = k * sz := by rw [rws_len hc, List.length_take, Nat.min_eq_left hk]
    rw [e, ← hl]
    exact ⟨List.drop_left, List.take_left⟩
  · have hl : (rws c l).length ≤ k * sz := by rw [rws_len hc]; exact Nat.mul_le_mul_right _ (by omega)
    rw [List.drop_eq_nil_of_le hl, List.take_of_length_le hl, List.drop_eq_nil_of_le (by omega), List.take_of_length_le (by omega)]
    exact ⟨rfl, rfl⟩
end Go.Sha
namespace Go.Proofs.YtfhdfpejjgmdcaaGreatDoor
open Go Go.Vc Go.Sha
/-- What lies at a place, after Puts. -/
theorem put_at {a : Lvs} (ok : LvOk a) (d : DpD) (j : Nat) : lfF (putL a d.i d.h) j = if d.i = (j : Int) ∧ j < 65536 then d.h else lfF a j := by
  rw [lf_put ok d.i d.h8]
  unfold putF
  by_cases h : 0 ≤ d.i ∧ d.i < 65536
  · rw [if_pos h]
    unfold updF
    by_cases e : d.i = (j : Int)
    · rw [if_pos (by omega), if_pos ⟨e, by omega⟩]
    · rw [if_neg (by omega), if_neg (fun h => e h.1)]
  · rw [if_neg h, if_neg (by omega)]
theorem fold_no (j : Nat) : ∀ (l : List DpD) (a : Lvs), LvOk a → (∀ d ∈ l, d.i ≠ (j : Int)) → lfF (l.foldl (fun a d => putL a d.i d.h) a) j = lfF a j
  | [], _, _, _ => rfl
  | d :: l, a, ok, h => by
    rw [List.foldl_cons, fold_no j l _ (putL_ok ok d.i d.h8) fun e he => h e (List.mem_cons_of_mem _ he), put_at ok, if_neg (fun e => h d List.mem_cons_self e.1)]
theorem fold_in (j : Nat) (hj : j < 65536) : ∀ (l : List DpD) (a : Lvs), LvOk a → l.Pairwise (fun x y => x.i ≠ y.i) → ∀ d ∈ l, d.i = (j : Int) → lfF (l.foldl (fun a d => putL a d.i d.h) a) j = d.h
  | [], _, _, _, d, hd, _ => by cases hd
  | e :: l, a, ok, hp, d, hd, hi => by
    rw [List.pairwise_cons] at hp
    rw [List.foldl_cons]
    rcases List.mem_cons.1 hd with rfl | hd
    · rw [fold_no j l _ (putL_ok ok d.i d.h8) fun x hx h => hp.1 x hx (by rw [hi, h]), put_at ok, if_pos ⟨hi, hj⟩]
    · exact fold_in j hj l _ (putL_ok ok e.i e.h8) hp.2 d hd hi
theorem fin_same {l l' : List DpD} (hp : l.Perm l') (h : l.Pairwise (fun x y => x.i ≠ y.i)) : lfF (finL l) = lfF (finL l') := by
  have h' : l'.Pairwise (fun x y => x.i ≠ y.i) := (hp.pairwise_iff (fun {x y} hxy => fun e => hxy e.symm)).1 h
  have ok0 : LvOk [] := ⟨List.nodup_nil, fun _ h => (by cases h), fun _ h => (by cases h), fun _ h => (by cases h)⟩
  funext j
  by_cases hj : j < 65536
  · by_cases hd : ∃ d ∈ l, d.i = (j : Int)
    · obtain ⟨d, hd, hi⟩ := hd
      unfold finL
      rw [fold_in j hj l [] ok0 h d hd hi, fold_in j hj l' [] ok0 h' d (hp.mem_iff.1 hd) hi]
    · unfold finL
      rw [fold_no j l [] ok0 fun d hx e => hd ⟨d, hx, e⟩, fold_no j l' [] ok0 fun d hx e => hd ⟨d, hp.mem_iff.2 hx, e⟩]
  · rw [lf_no fun p hp e => by have := (fin_ok l).lt p hp; omega, lf_no fun p hp e => by have := (fin_ok l').lt p hp; omega]
theorem upd_back {F : Nat → List Nat} {g : Nat} {x : List Nat} : updF (updF F g x) g (F g) = F := by
  funext j
  unfold updF
  by_cases h : j = g
  · rw [if_pos h, h]
  · rw [if_neg h, if_neg h]
end Go.Proofs.YtfhdfpejjgmdcaaGreatDoor
