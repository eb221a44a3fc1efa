/- LamportTwo. -/
import Derived.Test.YtnkogpfmfmjhoaaDoorLam6
namespace Go.Sha
/-- Which of two messages a bit comes from. -/
def pick2 (X Y : List Nat) (mix i : Nat) : List Nat := if mix / 2 ^ i % 2 = 1 then X else Y
def wOpen (seed X Y : List Nat) (mix : Nat) : Nat → List Nat := fun i => opened seed 1 (pick2 X Y mix i) i
def wShut (seed X Y : List Nat) (mix : Nat) : Nat → List Nat := fun i => shutd seed 1 (pick2 X Y mix i) i
/-- The first i bits are put together. -/
structure Mixed (X Y : List Nat) (mix i : Nat) (d : List Nat) : Prop where
  len : d.length = 8
  lt : ∀ x ∈ d, x < 256
  low : ∀ j, j < i → bitOf d j = bitOf (pick2 X Y mix j) j
  high : ∀ j, i ≤ j → bitOf d j = 0
theorem bit_test (v s : Nat) : v / 2 ^ s % 2 = (v.testBit s).toNat := by
  rw [Nat.testBit_eq_decide_div_mod_eq]
  have := Nat.mod_lt (v / 2 ^ s) (show 0 < 2 by decide)
  by_cases h : v / 2 ^ s % 2 = 1
  · rw [h]; rfl
  · rw [decide_eq_false h]; show _ = 0; omega
theorem mixed_step {X Y d Z : List Nat} {mix i : Nat} (h : Mixed X Y mix i d) (hi : i < 16) (hZ : pick2 X Y mix i = Z) :
    Mixed X Y mix (i + 1) (d.set (i / 8) (d.getD (i / 8) 0 ||| (Z.getD (i / 8) 0 &&& 2 ^ (i % 8)))) := by
  obtain ⟨h1, h2, h3, h4⟩ := h
  have hd : d.getD (i / 8) 0 < 256 := by
    rw [List.getD_eq_getElem?_getD]
    cases e : d[i / 8]? with
    | none => decide
    | some x => exact h2 x (List.mem_of_getElem? e)
  have hp : Z.getD (i / 8) 0 &&& 2 ^ (i % 8) < 256 := by
    refine Nat.lt_of_le_of_lt Nat.and_le_right ?_
    exact Nat.lt_of_lt_of_le (Nat.pow_lt_pow_right (by decide) (Nat.mod_lt i (show 0 < 8 by decide))) (Nat.le_refl _)
  have hv : d.getD (i / 8) 0 ||| (Z.getD (i / 8) 0 &&& 2 ^ (i % 8)) < 256 := Nat.or_lt_two_pow (n := 8) hd hp
  have key : ∀ j, bitOf (d.set (i / 8) (d.getD (i / 8) 0 ||| (Z.getD (i / 8) 0 &&& 2 ^ (i % 8)))) j = if j = i then bitOf Z i else bitOf d j := by
    intro j
    unfold bitOf
    rw [List.getD_eq_getElem?_getD, List.getElem?_set]
    by_cases e8 : i / 8 = j / 8
    · rw [if_pos e8, if_pos (by omega)]
      simp only [Option.getD_some]
      rw [bit_test, Nat.testBit_or, Nat.testBit_and, Nat.testBit_two_pow]
      by_cases e : j = i
      · subst e
        have h0 := h4 j (Nat.le_refl _)
        unfold bitOf at h0
        rw [bit_test] at h0
        have h0' : (d.getD (j / 8) 0).testBit (j % 8) = false := by
          cases hb : (d.getD (j / 8) 0).testBit (j % 8) with
          | false => rfl
          | true => rw [hb] at h0; cases h0
        rw [if_pos rfl, h0', bit_test]
        simp
      · have : i % 8 ≠ j % 8 := by omega
        rw [if_neg e, decide_eq_false this, e8, bit_test]
        simp
    · have e : j ≠ i := by intro e; exact e8 (by rw [e])
      rw [if_neg e8, if_neg e, ← List.getD_eq_getElem?_getD]
  refine ⟨by rw [List.length_set]; exact h1, ?_, ?_, ?_⟩
  · intro x hx
    rcases List.mem_or_eq_of_mem_set hx with hx | rfl
    · exact h2 x hx
    · exact hv
  · intro j hj
    rw [key]
    by_cases e : j = i
    · subst e; rw [if_pos rfl, hZ]
    · rw [if_neg e]; exact h3 j (by omega)
  · intro j hj
    rw [key, if_neg (by omega)]
    exact h4 j (by omega)
theorem mixed_zero (X Y : List Nat) (mix : Nat) : Mixed X Y mix 0 (List.replicate 8 0) := ⟨rfl, by decide, fun j h => (by omega), fun j _ => bitOf_zero j⟩
theorem wOpen_row {X Y d : List Nat} {mix : Nat} (seed : List Nat) (h : Mixed X Y mix 16 d) : rowOf (wOpen seed X Y mix) 16 = rowOf (opened seed 1 d) 16 :=
  rowOf_congr fun i hi => by unfold wOpen opened; rw [h.low i hi]
theorem wShut_row {X Y d : List Nat} {mix : Nat} (seed : List Nat) (h : Mixed X Y mix 16 d) : rowOf (wShut seed X Y mix) 16 = rowOf (shutd seed 1 d) 16 :=
  rowOf_congr fun i hi => by unfold wShut shutd; rw [h.low i hi]
end Go.Sha
namespace Go.Vc
open Go Go.Sha
section
variable {P : Program} {n : Nat} {w0 : World} {S0 : List Nat} {E : Env} {L : Hp} {o : Oper}
theorem RQ.upP {Q : Exit → Act → World → Prop} {D : Type} {N : Nat} {R : Nat → D → Prop} {Ei : Nat → D → Env} {Li : Nat → D → Hp} {i : Nat} (j : Nat) (d : D) (hij : i < j) (hj : j ≤ N) (hR : R j d) (hE : Env.le (Ei j d) E) {L1 : Hp} (hp : L.Perm L1) (hL : (Li j d).Sublist L1) :
    RQ n w0 S0 .normal (Exit.then (Up n w0 S0 N R Ei Li i) Q) E L :=
  fun _ _ hs hm => ⟨j, d, hij, hj, hR, hs.weak hE, (hm.perm hp).sublist hL⟩
theorem ofInt8 (a : Nat) (h : a < 256) : (BitVec.ofInt 8 (a : Int)).toNat = a := by rw [BitVec.toNat_ofInt]; omega
theorem Val.andB {t1 t2 : Nat} {x y : Operand} {a b : Nat} (ho : o.op = .binOp .and t1 x y t2) (hx : lk E x = some (.int .u8 a)) (hy : lk E y = some (.int .u8 b)) (ha : a < 256) (hb : b < 256) : Val P n w0 S0 E L o (.int .u8 ((a &&& b : Nat) : Int)) := by
  refine Val.of ?_
  have e : (BitVec.ofInt 8 (a : Int) &&& BitVec.ofInt 8 (b : Int)).toNat = a &&& b := by rw [BitVec.toNat_and, ofInt8 a ha, ofInt8 b hb]
  have h : a &&& b < 256 := Nat.lt_of_le_of_lt Nat.and_le_left ha
  rw [ho]
  simp only [ev, hx, hy, evBin, if_true]
  show some (Value.int .u8 (IntKind.wrap .u8 ((BitVec.ofInt 8 (a : Int) &&& BitVec.ofInt 8 (b : Int)).toNat : Int))) = _
  rw [e, wrap_in (by simp only [inK]; omega)]
theorem Val.orB {t1 t2 : Nat} {x y : Operand} {a b : Nat} (ho : o.op = .binOp .or t1 x y t2) (hx : lk E x = some (.int .u8 a)) (hy : lk E y = some (.int .u8 b)) (ha : a < 256) (hb : b < 256) : Val P n w0 S0 E L o (.int .u8 ((a ||| b : Nat) : Int)) := by
  refine Val.of ?_
  have e : (BitVec.ofInt 8 (a : Int) ||| BitVec.ofInt 8 (b : Int)).toNat = a ||| b := by rw [BitVec.toNat_or, ofInt8 a ha, ofInt8 b hb]
  have h : a ||| b < 256 := Nat.or_lt_two_pow (n := 8) ha hb
  rw [ho]
  simp only [ev, hx, hy, evBin, if_true]
  show some (Value.int .u8 (IntKind.wrap .u8 ((BitVec.ofInt 8 (a : Int) ||| BitVec.ofInt 8 (b : Int)).toNat : Int))) = _
  rw [e, wrap_in (by simp only [inK]; omega)]
theorem Val.and1w {t1 t2 : Nat} {x y : Operand} {a : Nat} (ho : o.op = .binOp .and t1 x y t2) (hx : lk E x = some (.int .u16 a)) (hy : lk E y = some (.int .u16 1)) (ha : a < 65536) : Val P n w0 S0 E L o (.int .u16 ((a % 2 : Nat) : Int)) := by
  refine Val.of ?_
  have e1 : (BitVec.ofInt 16 (a : Int)).toNat = a := by rw [BitVec.toNat_ofInt]; omega
  have e : (BitVec.ofInt 16 (a : Int) &&& BitVec.ofInt 16 1).toNat = a % 2 := by rw [BitVec.toNat_and, e1, show (BitVec.ofInt 16 1).toNat = 1 from rfl, Nat.and_one_is_mod]
  rw [ho]
  simp only [ev, hx, hy, evBin, if_true]
  show some (Value.int .u16 (IntKind.wrap .u16 ((BitVec.ofInt 16 (a : Int) &&& BitVec.ofInt 16 1).toNat : Int))) = _
  rw [e, wrap_in (by simp only [inK]; omega)]
end
end Go.Vc
namespace Go.Proofs.YtnkogpfmfmjhoaaDoor
open Go Go.Vc Go.Sha

theorem LamportTwo_calls (seed N : List Nat) (hs : seed.length = 8) (hlt : ∀ x ∈ seed, x < 256) (hN4 : N.length = 4) (hNlt : ∀ x ∈ N, x < 256) (mix : Nat) (hmx : mix < 65536) (w : World) (hK : Laid w) :
    Gives Tryd.prog 7 [.agg (u8s seed).toArray, .agg (u8s N).toArray, .int .u16 mix] (.bool true) w := by
  refine enter Tryd.func7 rfl (Mem.nil w []) rfl ?_
  (repeat refine RC.seq ?_); refine RC.region ?_
  refine Run.mk rfl rfl rfl (New.boxA rfl rfl) ?_
  intro b3
  refine Run.mk rfl rfl rfl (New.boxA rfl rfl) ?_
  intro b4
  refine Run.v rfl rfl rfl (Val.of rfl) ?_
  refine Run.nil (RQ.next ?_)
  (repeat refine RC.seq ?_); refine RC.region ?_
  refine Run.callV Tryd.func12 rfl rfl rfl rfl rfl rfl rfl (fun w' hm => lam_awake_calls w' (hK.fr hm.fr (by simp))) ?_
  refine Run.v rfl rfl rfl (Val.of rfl) ?_
  refine Run.nil (RQ.next ?_)
  (repeat refine RC.seq ?_); refine RC.condF rfl rfl (RC.skip (RQ.next ?_))
  (repeat refine RC.seq ?_); refine RC.drawS mixed (N := 4) rfl ?_
  refine DR.take 0 rfl (by repeat (first | exact List.nil_sublist _ | exact List.Sublist.refl _ | apply List.Sublist.cons_cons | apply List.Sublist.cons)) inferInstance (by kernel_rfl) (by kernel_rfl) (by kernel_rfl) (by kernel_rfl) rfl rfl (Wanted.plain rfl) (Val.sliceAhi tabOk rfl rfl rfl rfl rfl rfl (by decide) (by decide)) ?_
  refine DR.take 1 rfl (by repeat (first | exact List.nil_sublist _ | exact List.Sublist.refl _ | apply List.Sublist.cons_cons | apply List.Sublist.cons)) inferInstance (by kernel_rfl) (by kernel_rfl) (by kernel_rfl) (by kernel_rfl) rfl rfl (Wanted.plain rfl) (Val.sliceAlo tabOk rfl rfl rfl rfl rfl rfl (by decide) (by decide)) ?_
  refine DR.take 2 rfl (by repeat (first | exact List.nil_sublist _ | exact List.Sublist.refl _ | apply List.Sublist.cons_cons | apply List.Sublist.cons)) inferInstance (by kernel_rfl) (by kernel_rfl) (by kernel_rfl) (by kernel_rfl) rfl rfl (Wanted.plain rfl) (Val.of rfl) ?_
  refine DR.take 3 rfl (by repeat (first | exact List.nil_sublist _ | exact List.Sublist.refl _ | apply List.Sublist.cons_cons | apply List.Sublist.cons)) inferInstance (by kernel_rfl) (by kernel_rfl) (by kernel_rfl) (by kernel_rfl) rfl rfl (Wanted.plain rfl) (Val.of rfl) ?_
  refine DR.done (by kernel_rfl) (RQ.next ?_)
  (repeat refine RC.seq ?_); refine RC.region ?_
  refine Run.v rfl rfl rfl (Val.loadU tabOk rfl rfl rfl rfl (by repeat (first | exact List.mem_cons_self | apply List.mem_cons_of_mem | apply List.mem_append_right)) hs) ?_
  refine Run.op rfl (OpTo.callNew Tryd.func13 rfl rfl rfl rfl rfl rfl (fun w' hm => Make_calls seed hs hlt 1 1 rfl w' (hK.fr hm.fr (by simp)))) ?_
  intro kb
  refine Run.v rfl rfl rfl (Val.of rfl) ?_
  refine Run.nil (RQ.next ?_)
  (repeat refine RC.seq ?_); refine RC.region ?_
  refine Run.v rfl rfl rfl (Val.of rfl) ?_
  refine Run.v rfl rfl rfl (Val.ptrNil tabOk rfl rfl rfl rfl rfl) ?_
  refine Run.nil (RQ.next ?_)
  (repeat refine RC.seq ?_); refine RC.condF rfl rfl (RC.skip (RQ.next ?_))
  obtain ⟨n0, n1, n2, n3, rfl⟩ : ∃ n0 n1 n2 n3, N = [n0, n1, n2, n3] := by
    match N, hN4 with
    | [n0, n1, n2, n3], _ => exact ⟨n0, n1, n2, n3, rfl⟩
  have hn0 := hNlt n0 (by simp)
  have hn1 := hNlt n1 (by simp)
  have hn2 := hNlt n2 (by simp)
  have hn3 := hNlt n3 (by simp)
  obtain ⟨X, hX⟩ : ∃ X, X = [n0, n1, 0, 0, 0, 0, 0, 0] := ⟨_, rfl⟩
  obtain ⟨Y, hY⟩ : ∃ Y, Y = [n2, n3, 0, 0, 0, 0, 0, 0] := ⟨_, rfl⟩
  have hX8 : X.length = 8 := by rw [hX]; rfl
  have hY8 : Y.length = 8 := by rw [hY]; rfl
  have hXlt : ∀ x ∈ X, x < 256 := by rw [hX]; intro x hx; simp at hx; omega
  have hYlt : ∀ x ∈ Y, x < 256 := by rw [hY]; intro x hx; simp at hx; omega
  refine RC.seq ?_
  refine RC.thenCut (Y := Nat × Nat) (fun y => [(10, .pointer (some ⟨y.1, 0, none⟩)), (11, .pointer (some ⟨y.2, 0, none⟩)), (2, .int .u16 mix), (9, .pointer (some ⟨kb, 0, none⟩))])
    (fun y => (y.2, .cells (u8s Y).toArray 23 (0, 0)) :: (y.1, .cells (u8s X).toArray 23 (0, 0)) :: [(kb, .cells (u8s (rowOf (secs seed 1) 16)).toArray 59 (0, 0))]) ?_ (fun y => ?_)
  · (repeat refine RC.seq ?_); refine RC.drawS mixed (N := 18) rfl ?_
    refine DR.take 0 rfl (by repeat (first | exact List.nil_sublist _ | exact List.Sublist.refl _ | apply List.Sublist.cons_cons | apply List.Sublist.cons)) inferInstance (by kernel_rfl) (by kernel_rfl) (by kernel_rfl) (by kernel_rfl) rfl rfl (Wanted.plain rfl) (Val.of rfl) ?_
    refine DR.take 1 rfl (by repeat (first | exact List.nil_sublist _ | exact List.Sublist.refl _ | apply List.Sublist.cons_cons | apply List.Sublist.cons)) inferInstance (by kernel_rfl) (by kernel_rfl) (by kernel_rfl) (by kernel_rfl) rfl rfl (Wanted.plain rfl) (Val.ixS tabOk 0 (ad' := ⟨b4, 0, none⟩) rfl rfl rfl rfl rfl rfl rfl (by decide) rfl) ?_
    refine DR.take 2 rfl (by repeat (first | exact List.nil_sublist _ | exact List.Sublist.refl _ | apply List.Sublist.cons_cons | apply List.Sublist.cons)) inferInstance (by kernel_rfl) (by kernel_rfl) (by kernel_rfl) (by kernel_rfl) rfl rfl (Wanted.plain rfl) (Val.load (v := .int .u8 n0) tabOk rfl rfl rfl (by repeat (first | exact List.mem_cons_self | apply List.mem_cons_of_mem | apply List.mem_append_right)) rfl) ?_
    refine DR.take 3 rfl (by repeat (first | exact List.nil_sublist _ | exact List.Sublist.refl _ | apply List.Sublist.cons_cons | apply List.Sublist.cons)) inferInstance (by kernel_rfl) (by kernel_rfl) (by kernel_rfl) (by kernel_rfl) rfl rfl (Wanted.plain rfl) (Val.of rfl) ?_
    refine DR.take 4 rfl (by repeat (first | exact List.nil_sublist _ | exact List.Sublist.refl _ | apply List.Sublist.cons_cons | apply List.Sublist.cons)) inferInstance (by kernel_rfl) (by kernel_rfl) (by kernel_rfl) (by kernel_rfl) rfl rfl (Wanted.plain rfl) (Val.ixS tabOk 1 (ad' := ⟨b4, 1, none⟩) rfl rfl rfl rfl rfl rfl rfl (by decide) rfl) ?_
    refine DR.take 5 rfl (by repeat (first | exact List.nil_sublist _ | exact List.Sublist.refl _ | apply List.Sublist.cons_cons | apply List.Sublist.cons)) inferInstance (by kernel_rfl) (by kernel_rfl) (by kernel_rfl) (by kernel_rfl) rfl rfl (Wanted.plain rfl) (Val.load (v := .int .u8 n1) tabOk rfl rfl rfl (by repeat (first | exact List.mem_cons_self | apply List.mem_cons_of_mem | apply List.mem_append_right)) rfl) ?_
    refine DR.take 6 rfl (by repeat (first | exact List.nil_sublist _ | exact List.Sublist.refl _ | apply List.Sublist.cons_cons | apply List.Sublist.cons)) inferInstance (by kernel_rfl) (by kernel_rfl) (by kernel_rfl) (by kernel_rfl) rfl rfl (Wanted.plain rfl) (Val.buildA tabOk (parts := [(0, .tmp 30), (1, .tmp 33)]) (vs := [.int .u8 n0, .int .u8 n1]) (cells := (u8s X).toArray) rfl rfl rfl rfl rfl (by rw [hX]; rfl)) ?_
    refine DR.take 7 rfl (by repeat (first | exact List.nil_sublist _ | exact List.Sublist.refl _ | apply List.Sublist.cons_cons | apply List.Sublist.cons)) inferInstance (by kernel_rfl) (by kernel_rfl) (by kernel_rfl) (by kernel_rfl) rfl rfl (Wanted.plain rfl) (Val.of rfl) ?_
    refine DR.take 8 rfl (by repeat (first | exact List.nil_sublist _ | exact List.Sublist.refl _ | apply List.Sublist.cons_cons | apply List.Sublist.cons)) inferInstance (by kernel_rfl) (by kernel_rfl) (by kernel_rfl) (by kernel_rfl) rfl rfl (Wanted.plain rfl) (Val.ixS tabOk 0 (ad' := ⟨b4, 2, none⟩) rfl rfl rfl rfl rfl rfl rfl (by decide) rfl) ?_
    refine DR.take 9 rfl (by repeat (first | exact List.nil_sublist _ | exact List.Sublist.refl _ | apply List.Sublist.cons_cons | apply List.Sublist.cons)) inferInstance (by kernel_rfl) (by kernel_rfl) (by kernel_rfl) (by kernel_rfl) rfl rfl (Wanted.plain rfl) (Val.load (v := .int .u8 n2) tabOk rfl rfl rfl (by repeat (first | exact List.mem_cons_self | apply List.mem_cons_of_mem | apply List.mem_append_right)) rfl) ?_
    refine DR.take 10 rfl (by repeat (first | exact List.nil_sublist _ | exact List.Sublist.refl _ | apply List.Sublist.cons_cons | apply List.Sublist.cons)) inferInstance (by kernel_rfl) (by kernel_rfl) (by kernel_rfl) (by kernel_rfl) rfl rfl (Wanted.plain rfl) (Val.of rfl) ?_
    refine DR.take 11 rfl (by repeat (first | exact List.nil_sublist _ | exact List.Sublist.refl _ | apply List.Sublist.cons_cons | apply List.Sublist.cons)) inferInstance (by kernel_rfl) (by kernel_rfl) (by kernel_rfl) (by kernel_rfl) rfl rfl (Wanted.plain rfl) (Val.ixS tabOk 1 (ad' := ⟨b4, 3, none⟩) rfl rfl rfl rfl rfl rfl rfl (by decide) rfl) ?_
    refine DR.take 12 rfl (by repeat (first | exact List.nil_sublist _ | exact List.Sublist.refl _ | apply List.Sublist.cons_cons | apply List.Sublist.cons)) inferInstance (by kernel_rfl) (by kernel_rfl) (by kernel_rfl) (by kernel_rfl) rfl rfl (Wanted.plain rfl) (Val.load (v := .int .u8 n3) tabOk rfl rfl rfl (by repeat (first | exact List.mem_cons_self | apply List.mem_cons_of_mem | apply List.mem_append_right)) rfl) ?_
    refine DR.take 13 rfl (by repeat (first | exact List.nil_sublist _ | exact List.Sublist.refl _ | apply List.Sublist.cons_cons | apply List.Sublist.cons)) inferInstance (by kernel_rfl) (by kernel_rfl) (by kernel_rfl) (by kernel_rfl) rfl rfl (Wanted.plain rfl) (Val.buildA tabOk (parts := [(0, .tmp 37), (1, .tmp 40)]) (vs := [.int .u8 n2, .int .u8 n3]) (cells := (u8s Y).toArray) rfl rfl rfl rfl rfl (by rw [hY]; rfl)) ?_
    refine DR.two (i := 14) (j := 15) (by kernel_rfl) ?_ ?_
    · refine DOp.op rfl (Wanted.plain rfl) (OpTo.new rfl rfl (New.alloc tabOk rfl rfl)) (.inl fun _ => by repeat (first | exact List.nil_sublist _ | exact List.Sublist.refl _ | apply List.Sublist.cons_cons | apply List.Sublist.cons)) ?_
      intro b10
      refine DR.one (i := 15) (by kernel_rfl) ?_
      refine DOp.op rfl (Wanted.plain rfl) (OpTo.new rfl rfl (New.alloc tabOk rfl rfl)) (.inl fun _ => by repeat (first | exact List.nil_sublist _ | exact List.Sublist.refl _ | apply List.Sublist.cons_cons | apply List.Sublist.cons)) ?_
      intro b11
      refine DR.one (i := 16) (by kernel_rfl) ?_
      refine DOp.op rfl (Wanted.plain rfl) (OpTo.setAll tabOk rfl rfl rfl rfl rfl p1 hX8 rfl) (.inl fun _ => (by repeat (first | exact List.nil_sublist _ | exact List.Sublist.refl _ | apply List.Sublist.cons_cons | apply List.Sublist.cons))) (fun _ => ?_)
      refine DR.one (i := 17) (by kernel_rfl) ?_
      refine DOp.op rfl (Wanted.plain rfl) (OpTo.setAll tabOk rfl rfl rfl rfl rfl p1 hY8 rfl) (.inr (by kernel_rfl)) (fun _ => ?_)
      refine DR.done (by kernel_rfl) ?_
      exact RQ.to (b10, b11) ⟨rfl, rfl, rfl, rfl, trivial⟩ (by repeat (first | exact List.nil_sublist _ | exact List.Sublist.refl _ | apply List.Sublist.cons_cons | apply List.Sublist.cons))
    · refine DOp.op rfl (Wanted.plain rfl) (OpTo.new rfl rfl (New.alloc tabOk rfl rfl)) (.inl fun _ => by repeat (first | exact List.nil_sublist _ | exact List.Sublist.refl _ | apply List.Sublist.cons_cons | apply List.Sublist.cons)) ?_
      intro b11
      refine DR.one (i := 14) (by kernel_rfl) ?_
      refine DOp.op rfl (Wanted.plain rfl) (OpTo.new rfl rfl (New.alloc tabOk rfl rfl)) (.inl fun _ => by repeat (first | exact List.nil_sublist _ | exact List.Sublist.refl _ | apply List.Sublist.cons_cons | apply List.Sublist.cons)) ?_
      intro b10
      refine DR.one (i := 16) (by kernel_rfl) ?_
      refine DOp.op rfl (Wanted.plain rfl) (OpTo.setAll tabOk rfl rfl rfl rfl rfl (List.Perm.refl _) hX8 rfl) (.inl fun _ => (by repeat (first | exact List.nil_sublist _ | exact List.Sublist.refl _ | apply List.Sublist.cons_cons | apply List.Sublist.cons))) (fun _ => ?_)
      refine DR.one (i := 17) (by kernel_rfl) ?_
      refine DOp.op rfl (Wanted.plain rfl) (OpTo.setAll tabOk rfl rfl rfl rfl rfl p1 hY8 rfl) (.inr (by kernel_rfl)) (fun _ => ?_)
      refine DR.done (by kernel_rfl) ?_
      exact RQ.to (b10, b11) ⟨rfl, rfl, rfl, rfl, trivial⟩ (by repeat (first | exact List.nil_sublist _ | exact List.Sublist.refl _ | apply List.Sublist.cons_cons | apply List.Sublist.cons))
  obtain ⟨b10, b11⟩ := y
  dsimp only
  clear hX hY hNlt hN4
  have l12 := rowOf_len (opened_len seed 1 X) 16
  have l13 := rowOf_len (shutd_len seed 1 X) 16
  have l14 := rowOf_len (opened_len seed 1 Y) 16
  have l15 := rowOf_len (shutd_len seed 1 Y) 16
  have g12 := fun {i : Nat} (hi : i < 16) => pc_rowOf (opened_len seed 1 X) hi
  have g13 := fun {i : Nat} (hi : i < 16) => pc_rowOf (shutd_len seed 1 X) hi
  have g14 := fun {i : Nat} (hi : i < 16) => pc_rowOf (opened_len seed 1 Y) hi
  have g15 := fun {i : Nat} (hi : i < 16) => pc_rowOf (shutd_len seed 1 Y) hi
  (repeat refine RC.seq ?_); refine RC.region ?_
  refine Run.v rfl rfl rfl (Val.of rfl) ?_
  refine Run.v rfl rfl rfl (Val.loadU tabOk rfl rfl rfl rfl (by repeat (first | exact List.mem_cons_self | apply List.mem_cons_of_mem | apply List.mem_append_right)) hX8) ?_
  refine Run.callV Tryd.func14 rfl rfl rfl rfl rfl rfl rfl (fun w' hm => Key_Sign_calls kb seed X 1 hX8 hXlt w' (hK.fr hm.fr (by simp)) (hm.has (kb, _) (by repeat (first | exact List.mem_cons_self | apply List.mem_cons_of_mem | apply List.mem_append_right)))) ?_
  refine Run.v rfl rfl rfl (Val.of rfl) ?_
  refine Run.v rfl rfl rfl (Val.of rfl) ?_
  refine Run.v rfl rfl rfl (Val.of rfl) ?_
  refine Run.mk rfl rfl rfl (New.alloc tabOk rfl rfl) ?_
  intro b12
  refine Run.mk rfl rfl rfl (New.alloc tabOk rfl rfl) ?_
  intro b13
  refine Run.op rfl (OpTo.setAll tabOk rfl rfl rfl rfl rfl p1 l12 rfl) (fun _ => ?_)
  refine Run.op rfl (OpTo.setAll tabOk rfl rfl rfl rfl rfl p1 l13 rfl) (fun _ => ?_)
  refine Run.nil (RQ.next ?_)
  (repeat refine RC.seq ?_); refine RC.region ?_
  refine Run.v rfl rfl rfl (Val.of rfl) ?_
  refine Run.v rfl rfl rfl (Val.loadU tabOk rfl rfl rfl rfl (by repeat (first | exact List.mem_cons_self | apply List.mem_cons_of_mem | apply List.mem_append_right)) hY8) ?_
  refine Run.callV Tryd.func14 rfl rfl rfl rfl rfl rfl rfl (fun w' hm => Key_Sign_calls kb seed Y 1 hY8 hYlt w' (hK.fr hm.fr (by simp)) (hm.has (kb, _) (by repeat (first | exact List.mem_cons_self | apply List.mem_cons_of_mem | apply List.mem_append_right)))) ?_
  refine Run.v rfl rfl rfl (Val.of rfl) ?_
  refine Run.v rfl rfl rfl (Val.of rfl) ?_
  refine Run.v rfl rfl rfl (Val.of rfl) ?_
  refine Run.mk rfl rfl rfl (New.alloc tabOk rfl rfl) ?_
  intro b14
  refine Run.mk rfl rfl rfl (New.alloc tabOk rfl rfl) ?_
  intro b15
  refine Run.op rfl (OpTo.setAll tabOk rfl rfl rfl rfl rfl p1 l14 rfl) (fun _ => ?_)
  refine Run.op rfl (OpTo.setAll tabOk rfl rfl rfl rfl rfl p1 l15 rfl) (fun _ => ?_)
  refine Run.nil (RQ.next ?_)
  generalize rowOf (opened seed 1 X) 16 = r12 at *
  generalize rowOf (shutd seed 1 X) 16 = r13 at *
  generalize rowOf (opened seed 1 Y) 16 = r14 at *
  generalize rowOf (shutd seed 1 Y) 16 = r15 at *
  have wol : ∀ i, (wOpen seed X Y mix i).length = 8 := fun i => opened_len _ _ _ _
  have wsl : ∀ i, (wShut seed X Y mix i).length = 8 := fun i => shutd_len _ _ _ _
  (repeat refine RC.seq ?_); refine RC.region ?_
  refine Run.mk rfl rfl rfl (New.allocTo tabOk (cs := (u8s (List.replicate 8 0)).toArray) rfl rfl (by kernel_rfl)) ?_
  intro b16
  refine Run.nil (RQ.next ?_)
  (repeat refine RC.seq ?_); refine RC.region ?_
  refine Run.mk rfl rfl rfl (New.allocTo tabOk (cs := (u8s (rowOf (wOpen seed X Y mix) 0 ++ List.replicate ((16 - 0) * 8) 0)).toArray) rfl rfl (by kernel_rfl)) ?_
  intro b17
  refine Run.mk rfl rfl rfl (New.allocTo tabOk (cs := (u8s (rowOf (wShut seed X Y mix) 0 ++ List.replicate ((16 - 0) * 8) 0)).toArray) rfl rfl (by kernel_rfl)) ?_
  intro b18
  refine Run.nil (RQ.next ?_)
  (repeat refine RC.seq ?_); refine RC.region ?_
  refine Run.v rfl rfl rfl (Val.of rfl) ?_
  refine Run.nil (RQ.next ?_)
  (repeat refine RC.seq ?_); refine RC.block ?_
  refine RC.up 16 (D := List Nat) (fun i d => Mixed X Y mix i d)
    (fun i _ => [(19, .int .i64 i), (2, .int .u16 mix), (9, .pointer (some ⟨kb, 0, none⟩)), (10, .pointer (some ⟨b10, 0, none⟩)), (11, .pointer (some ⟨b11, 0, none⟩)), (12, .pointer (some ⟨b12, 0, none⟩)), (13, .pointer (some ⟨b13, 0, none⟩)), (14, .pointer (some ⟨b14, 0, none⟩)), (15, .pointer (some ⟨b15, 0, none⟩)), (16, .pointer (some ⟨b16, 0, none⟩)), (17, .pointer (some ⟨b17, 0, none⟩)), (18, .pointer (some ⟨b18, 0, none⟩))])
    (fun i d => [(b18, .cells (u8s (rowOf (wShut seed X Y mix) i ++ List.replicate ((16 - i) * 8) 0)).toArray 27 (0, 0)), (b17, .cells (u8s (rowOf (wOpen seed X Y mix) i ++ List.replicate ((16 - i) * 8) 0)).toArray 27 (0, 0)), (b16, .cells (u8s d).toArray 23 (0, 0)), (b15, .cells (u8s r15).toArray 27 (0, 0)), (b14, .cells (u8s r14).toArray 27 (0, 0)), (b13, .cells (u8s r13).toArray 27 (0, 0)), (b12, .cells (u8s r12).toArray 27 (0, 0)), (b11, .cells (u8s Y).toArray 23 (0, 0)), (b10, .cells (u8s X).toArray 23 (0, 0)), (kb, .cells (u8s (rowOf (secs seed 1) 16)).toArray 59 (0, 0))])
    0 (List.replicate 8 0) (Nat.zero_le _) (mixed_zero X Y mix) ⟨rfl, rfl, rfl, rfl, rfl, rfl, rfl, rfl, rfl, rfl, rfl, rfl, trivial⟩ (List.Sublist.refl _) ?_
  intro i d hi hd
  (repeat refine RC.seq ?_); refine RC.region ?_
  refine Run.v rfl rfl rfl (Val.of rfl) ?_
  refine Run.v rfl rfl rfl (Val.of rfl) ?_
  refine Run.nil (RQ.next ?_)
  (repeat refine RC.seq ?_); refine RC.wh rfl (fun h => RQ.next ?_) (fun h => ?_)
  · have hi' : i < 16 := by have := of_decide_eq_true h; omega
    clear h
    have hm2 : mix / 2 ^ i < 65536 := Nat.lt_of_le_of_lt (Nat.div_le_self _ _) hmx
    have hmd := getD_lt hd.lt (i / 8)
    have hmX := getD_lt hXlt (i / 8)
    have hmY := getD_lt hYlt (i / 8)
    have hd8 := hd.len
    have hatd := u8s_arr d (i / 8) (by omega)
    have hatX := u8s_arr X (i / 8) (by omega)
    have hatY := u8s_arr Y (i / 8) (by omega)
    have f12 := g12 hi'
    have f13 := g13 hi'
    have f14 := g14 hi'
    have f15 := g15 hi'
    have o12 := opened_len seed 1 X i
    have o13 := shutd_len seed 1 X i
    have o14 := opened_len seed 1 Y i
    have o15 := shutd_len seed 1 Y i
    have e1 : rowOf (wOpen seed X Y mix) (i + 1) = rowOf (wOpen seed X Y mix) i ++ wOpen seed X Y mix i := rfl
    have e2 : rowOf (wShut seed X Y mix) (i + 1) = rowOf (wShut seed X Y mix) i ++ wShut seed X Y mix i := rfl
    have z1 := zrow (wOpen seed X Y mix) 8 i 16 wol hi'
    have z2 := zrow (wShut seed X Y mix) 8 i 16 wsl hi'
    have q1 := rowOf_len wol i
    have q2 := rowOf_len wsl i
    have v1 := wol i
    have v2 := wsl i
    have hp8 : 2 ^ (i % 8) < 256 := Nat.lt_of_lt_of_le (Nat.pow_lt_pow_right (by decide) (Nat.mod_lt i (show 0 < 8 by decide))) (Nat.le_refl _)
    (repeat refine RC.seq ?_); refine RC.block ?_
    rw [z1, z2]
    clear z1 z2
    generalize rowOf (wOpen seed X Y mix) i = ro at *
    generalize rowOf (wShut seed X Y mix) i = rs at *
    (repeat refine RC.seq ?_); refine RC.region ?_
    refine Run.v rfl rfl rfl (Val.of rfl) ?_
    refine Run.v rfl rfl rfl (Val.of rfl) ?_
    refine Run.v rfl rfl rfl (Val.convIn tabOk rfl rfl rfl rfl rfl rfl (by simp only [inK]; omega)) ?_
    refine Run.v rfl rfl rfl (Val.shr (m := i) rfl rfl rfl (by show _ ≤ 16; omega)) ?_
    refine Run.v rfl rfl rfl (Val.and1w rfl rfl rfl hm2) ?_
    refine Run.v rfl rfl rfl (Val.eq (Val.of rfl) (show _ = Value.bool (decide (mix / 2 ^ i % 2 = 1)) from congrArg Value.bool (by rw [Bool.eq_iff_iff, beq_iff_eq, decide_eq_true_iff]; omega))) ?_
    refine Run.nil (RQ.next ?_)
    refine RC.cond rfl (fun h => ?_) (fun h => ?_)
    · have h1 := of_decide_eq_true h
      have hpk : pick2 X Y mix i = X := by unfold pick2; exact if_pos h1
      have w1 : wOpen seed X Y mix i = opened seed 1 X i := by unfold wOpen; rw [hpk]
      have w2 : wShut seed X Y mix i = shutd seed 1 X i := by unfold wShut; rw [hpk]
      have hset := mixed_step hd hi' hpk
      rw [w1] at e1 v1 ⊢
      rw [w2] at e2 v2 ⊢
      (repeat refine RC.seq ?_); refine RC.draw ([(b13, .cells (u8s r13).toArray 27 (0, 0)), (b12, .cells (u8s r12).toArray 27 (0, 0))]) mixed (N := 12) rfl ?_
      refine DR.take 0 rfl (by repeat (first | exact List.nil_sublist _ | exact List.Sublist.refl _ | apply List.Sublist.cons_cons | apply List.Sublist.cons)) inferInstance (by kernel_rfl) (by kernel_rfl) (by kernel_rfl) (by kernel_rfl) rfl rfl (Wanted.plain rfl) (Val.of rfl) ?_
      refine DR.take 1 rfl (by repeat (first | exact List.nil_sublist _ | exact List.Sublist.refl _ | apply List.Sublist.cons_cons | apply List.Sublist.cons)) inferInstance (by kernel_rfl) (by kernel_rfl) (by kernel_rfl) (by kernel_rfl) rfl rfl (Wanted.plain rfl) (Val.of rfl) ?_
      refine DR.take 2 rfl (by repeat (first | exact List.nil_sublist _ | exact List.Sublist.refl _ | apply List.Sublist.cons_cons | apply List.Sublist.cons)) inferInstance (by kernel_rfl) (by kernel_rfl) (by kernel_rfl) (by kernel_rfl) rfl rfl (Wanted.plain rfl) (Val.of rfl) ?_
      refine DR.take 3 rfl (by repeat (first | exact List.nil_sublist _ | exact List.Sublist.refl _ | apply List.Sublist.cons_cons | apply List.Sublist.cons)) inferInstance (by kernel_rfl) (by kernel_rfl) (by kernel_rfl) (by kernel_rfl) rfl rfl (Wanted.plain rfl) (Val.ix tabOk i (off' := i * 8) rfl rfl rfl rfl rfl rfl rfl hi' (by simp [ti23])) ?_
      refine DR.take 4 rfl (by repeat (first | exact List.nil_sublist _ | exact List.Sublist.refl _ | apply List.Sublist.cons_cons | apply List.Sublist.cons)) inferInstance (by kernel_rfl) (by kernel_rfl) (by kernel_rfl) (by kernel_rfl) rfl rfl (Wanted.plain rfl) (Val.eq (Val.loadPc tabOk i (c := 8) rfl rfl rfl rfl (by repeat (first | exact List.mem_cons_self | apply List.mem_cons_of_mem | apply List.mem_append_right)) rfl rfl (by rw [f12]; exact o12)) (congrArg (fun l => Value.agg (u8s l).toArray) f12)) ?_
      refine DR.take 5 rfl (by repeat (first | exact List.nil_sublist _ | exact List.Sublist.refl _ | apply List.Sublist.cons_cons | apply List.Sublist.cons)) inferInstance (by kernel_rfl) (by kernel_rfl) (by kernel_rfl) (by kernel_rfl) rfl rfl (Wanted.plain rfl) (Val.of rfl) ?_
      refine DR.take 6 rfl (by repeat (first | exact List.nil_sublist _ | exact List.Sublist.refl _ | apply List.Sublist.cons_cons | apply List.Sublist.cons)) inferInstance (by kernel_rfl) (by kernel_rfl) (by kernel_rfl) (by kernel_rfl) rfl rfl (Wanted.plain rfl) (Val.ix tabOk i (off' := i * 8) rfl rfl rfl rfl rfl rfl rfl hi' (by simp [ti23])) ?_
      refine DR.take 7 rfl (by repeat (first | exact List.nil_sublist _ | exact List.Sublist.refl _ | apply List.Sublist.cons_cons | apply List.Sublist.cons)) inferInstance (by kernel_rfl) (by kernel_rfl) (by kernel_rfl) (by kernel_rfl) rfl rfl (Wanted.plain rfl) (Val.eq (Val.loadPc tabOk i (c := 8) rfl rfl rfl rfl (by repeat (first | exact List.mem_cons_self | apply List.mem_cons_of_mem | apply List.mem_append_right)) rfl rfl (by rw [f13]; exact o13)) (congrArg (fun l => Value.agg (u8s l).toArray) f13)) ?_
      refine DR.take 8 rfl (by repeat (first | exact List.nil_sublist _ | exact List.Sublist.refl _ | apply List.Sublist.cons_cons | apply List.Sublist.cons)) inferInstance (by kernel_rfl) (by kernel_rfl) (by kernel_rfl) (by kernel_rfl) rfl rfl (Wanted.plain rfl) (Val.ix tabOk i (off' := i * 8) rfl rfl rfl rfl rfl rfl rfl hi' (by simp [ti23])) ?_
      refine DR.one (i := 9) (by kernel_rfl) ?_
      refine DOp.op rfl (Wanted.plain rfl) (OpTo.setU tabOk ro (List.replicate (opened seed 1 X i).length 0) (opened seed 1 X i) (List.replicate ((16 - (i + 1)) * 8) 0) rfl rfl rfl rfl rfl (by first | exact List.Perm.refl _ | exact p1 | exact p2 | exact p3 | exact p4 | exact p5 | exact p6 | exact p7 | exact p8) rfl q1.symm (by simp) v1) (.inl fun _ => (by repeat (first | exact List.nil_sublist _ | exact List.Sublist.refl _ | apply List.Sublist.cons_cons | apply List.Sublist.cons))) (fun _ => ?_)
      refine DR.take 10 rfl (by repeat (first | exact List.nil_sublist _ | exact List.Sublist.refl _ | apply List.Sublist.cons_cons | apply List.Sublist.cons)) inferInstance (by kernel_rfl) (by kernel_rfl) (by kernel_rfl) (by kernel_rfl) rfl rfl (Wanted.plain rfl) (Val.ix tabOk i (off' := i * 8) rfl rfl rfl rfl rfl rfl rfl hi' (by simp [ti23])) ?_
      refine DR.one (i := 11) (by kernel_rfl) ?_
      refine DOp.op rfl (Wanted.plain rfl) (OpTo.setU tabOk rs (List.replicate (shutd seed 1 X i).length 0) (shutd seed 1 X i) (List.replicate ((16 - (i + 1)) * 8) 0) rfl rfl rfl rfl rfl (by first | exact List.Perm.refl _ | exact p1 | exact p2 | exact p3 | exact p4 | exact p5 | exact p6 | exact p7 | exact p8) rfl q2.symm (by simp) v2) (.inr (by kernel_rfl)) (fun _ => ?_)
      refine DR.done (by kernel_rfl) (RQ.next ?_)
      rw [← e1, ← e2]
      generalize X.getD (i / 8) 0 = xb at *
      have hda : xb &&& 2 ^ (i % 8) < 256 := Nat.lt_of_le_of_lt Nat.and_le_left hmX
      generalize hdv : d.getD (i / 8) 0 = db at *
      (repeat refine RC.seq ?_); refine RC.drawS mixed (N := 16) rfl ?_
      refine DR.take 0 rfl (by repeat (first | exact List.nil_sublist _ | exact List.Sublist.refl _ | apply List.Sublist.cons_cons | apply List.Sublist.cons)) inferInstance (by kernel_rfl) (by kernel_rfl) (by kernel_rfl) (by kernel_rfl) rfl rfl (Wanted.plain rfl) (Val.of rfl) ?_
      refine DR.take 1 rfl (by repeat (first | exact List.nil_sublist _ | exact List.Sublist.refl _ | apply List.Sublist.cons_cons | apply List.Sublist.cons)) inferInstance (by kernel_rfl) (by kernel_rfl) (by kernel_rfl) (by kernel_rfl) rfl rfl (Wanted.plain rfl) (Val.quoN rfl rfl rfl rfl (by decide) (by simp only [inK]; omega)) ?_
      refine DR.take 2 rfl (by repeat (first | exact List.nil_sublist _ | exact List.Sublist.refl _ | apply List.Sublist.cons_cons | apply List.Sublist.cons)) inferInstance (by kernel_rfl) (by kernel_rfl) (by kernel_rfl) (by kernel_rfl) rfl rfl (Wanted.plain rfl) (Val.ix tabOk (i / 8) (off' := i / 8) rfl rfl rfl rfl rfl rfl rfl (by omega) (by simp [ti5])) ?_
      refine DR.take 3 rfl (by repeat (first | exact List.nil_sublist _ | exact List.Sublist.refl _ | apply List.Sublist.cons_cons | apply List.Sublist.cons)) inferInstance (by kernel_rfl) (by kernel_rfl) (by kernel_rfl) (by kernel_rfl) rfl rfl (Wanted.plain rfl) (Val.load tabOk rfl rfl rfl (by repeat (first | exact List.mem_cons_self | apply List.mem_cons_of_mem | apply List.mem_append_right)) hatd) ?_
      refine DR.take 4 rfl (by repeat (first | exact List.nil_sublist _ | exact List.Sublist.refl _ | apply List.Sublist.cons_cons | apply List.Sublist.cons)) inferInstance (by kernel_rfl) (by kernel_rfl) (by kernel_rfl) (by kernel_rfl) rfl rfl (Wanted.plain rfl) (Val.of rfl) ?_
      refine DR.take 5 rfl (by repeat (first | exact List.nil_sublist _ | exact List.Sublist.refl _ | apply List.Sublist.cons_cons | apply List.Sublist.cons)) inferInstance (by kernel_rfl) (by kernel_rfl) (by kernel_rfl) (by kernel_rfl) rfl rfl (Wanted.plain rfl) (Val.quoN rfl rfl rfl rfl (by decide) (by simp only [inK]; omega)) ?_
      refine DR.take 6 rfl (by repeat (first | exact List.nil_sublist _ | exact List.Sublist.refl _ | apply List.Sublist.cons_cons | apply List.Sublist.cons)) inferInstance (by kernel_rfl) (by kernel_rfl) (by kernel_rfl) (by kernel_rfl) rfl rfl (Wanted.plain rfl) (Val.ix tabOk (i / 8) (off' := i / 8) rfl rfl rfl rfl rfl rfl rfl (by omega) (by simp [ti5])) ?_
      refine DR.take 7 rfl (by repeat (first | exact List.nil_sublist _ | exact List.Sublist.refl _ | apply List.Sublist.cons_cons | apply List.Sublist.cons)) inferInstance (by kernel_rfl) (by kernel_rfl) (by kernel_rfl) (by kernel_rfl) rfl rfl (Wanted.plain rfl) (Val.load tabOk rfl rfl rfl (by repeat (first | exact List.mem_cons_self | apply List.mem_cons_of_mem | apply List.mem_append_right)) hatX) ?_
      refine DR.take 8 rfl (by repeat (first | exact List.nil_sublist _ | exact List.Sublist.refl _ | apply List.Sublist.cons_cons | apply List.Sublist.cons)) inferInstance (by kernel_rfl) (by kernel_rfl) (by kernel_rfl) (by kernel_rfl) rfl rfl (Wanted.plain rfl) (Val.of rfl) ?_
      refine DR.take 9 rfl (by repeat (first | exact List.nil_sublist _ | exact List.Sublist.refl _ | apply List.Sublist.cons_cons | apply List.Sublist.cons)) inferInstance (by kernel_rfl) (by kernel_rfl) (by kernel_rfl) (by kernel_rfl) rfl rfl (Wanted.plain rfl) (Val.remN rfl rfl rfl rfl (by decide)) ?_
      refine DR.take 10 rfl (by repeat (first | exact List.nil_sublist _ | exact List.Sublist.refl _ | apply List.Sublist.cons_cons | apply List.Sublist.cons)) inferInstance (by kernel_rfl) (by kernel_rfl) (by kernel_rfl) (by kernel_rfl) rfl rfl (Wanted.plain rfl) (Val.convIn tabOk rfl rfl rfl rfl rfl rfl (by simp only [inK]; omega)) ?_
      refine DR.take 11 rfl (by repeat (first | exact List.nil_sublist _ | exact List.Sublist.refl _ | apply List.Sublist.cons_cons | apply List.Sublist.cons)) inferInstance (by kernel_rfl) (by kernel_rfl) (by kernel_rfl) (by kernel_rfl) rfl rfl (Wanted.plain rfl) (Val.eq (Val.shl (a := 1) (m := i % 8) rfl rfl rfl (by show _ ≤ 8; omega)) (show _ = Value.int .u8 ((2 ^ (i % 8) : Nat) : Int) from by rw [Nat.one_mul, wrap_in (by simp only [inK]; generalize 2 ^ (i % 8) = pw at *; omega)])) ?_
      refine DR.take 12 rfl (by repeat (first | exact List.nil_sublist _ | exact List.Sublist.refl _ | apply List.Sublist.cons_cons | apply List.Sublist.cons)) inferInstance (by kernel_rfl) (by kernel_rfl) (by kernel_rfl) (by kernel_rfl) rfl rfl (Wanted.plain rfl) (Val.andB rfl rfl rfl hmX hp8) ?_
      refine DR.take 13 rfl (by repeat (first | exact List.nil_sublist _ | exact List.Sublist.refl _ | apply List.Sublist.cons_cons | apply List.Sublist.cons)) inferInstance (by kernel_rfl) (by kernel_rfl) (by kernel_rfl) (by kernel_rfl) rfl rfl (Wanted.plain rfl) (Val.orB rfl rfl rfl hmd hda) ?_
      refine DR.take 14 rfl (by repeat (first | exact List.nil_sublist _ | exact List.Sublist.refl _ | apply List.Sublist.cons_cons | apply List.Sublist.cons)) inferInstance (by kernel_rfl) (by kernel_rfl) (by kernel_rfl) (by kernel_rfl) rfl rfl (Wanted.plain rfl) (Val.ix tabOk (i / 8) (off' := i / 8) rfl rfl rfl rfl rfl rfl rfl (by omega) (by simp [ti5])) ?_
      refine DR.one (i := 15) (by kernel_rfl) ?_
      refine DOp.op rfl (Wanted.plain rfl) (OpTo.storeTo tabOk (arr' := (u8s (d.set (i / 8) (db ||| (xb &&& 2 ^ (i % 8))))).toArray) (u8s_set _ _ _ (by omega)) rfl rfl rfl rfl rfl (by first | exact List.Perm.refl _ | exact p1 | exact p2 | exact p3 | exact p4 | exact p5 | exact p6 | exact p7 | exact p8) rfl (by simp [u8s_len, hd8, ti5]; omega) (by simp [Value.cells]; rfl)) (.inr (by kernel_rfl)) (fun _ => ?_)
      refine DR.done (by kernel_rfl) (RQ.blockNormal (RQ.next ?_))
      refine RC.region ?_
      repeat (first | refine Run.v rfl rfl rfl (Val.ar rfl rfl rfl rfl (by dsimp only [inK]; omega)) ?_ | refine Run.v rfl rfl rfl (Val.of rfl) ?_)
      exact Run.nil <| RQ.upP (i + 1) _ (Nat.lt_succ_self _) hi' hset ⟨rfl, rfl, rfl, rfl, rfl, rfl, rfl, rfl, rfl, rfl, rfl, rfl, trivial⟩ p2.symm (List.Sublist.refl _)
    · have h1 := of_decide_eq_false h
      have hpk : pick2 X Y mix i = Y := by unfold pick2; exact if_neg h1
      have w1 : wOpen seed X Y mix i = opened seed 1 Y i := by unfold wOpen; rw [hpk]
      have w2 : wShut seed X Y mix i = shutd seed 1 Y i := by unfold wShut; rw [hpk]
      have hset := mixed_step hd hi' hpk
      rw [w1] at e1 v1 ⊢
      rw [w2] at e2 v2 ⊢
      (repeat refine RC.seq ?_); refine RC.draw ([(b15, .cells (u8s r15).toArray 27 (0, 0)), (b14, .cells (u8s r14).toArray 27 (0, 0))]) mixed (N := 12) rfl ?_
      refine DR.take 0 rfl (by repeat (first | exact List.nil_sublist _ | exact List.Sublist.refl _ | apply List.Sublist.cons_cons | apply List.Sublist.cons)) inferInstance (by kernel_rfl) (by kernel_rfl) (by kernel_rfl) (by kernel_rfl) rfl rfl (Wanted.plain rfl) (Val.of rfl) ?_
      refine DR.take 1 rfl (by repeat (first | exact List.nil_sublist _ | exact List.Sublist.refl _ | apply List.Sublist.cons_cons | apply List.Sublist.cons)) inferInstance (by kernel_rfl) (by kernel_rfl) (by kernel_rfl) (by kernel_rfl) rfl rfl (Wanted.plain rfl) (Val.of rfl) ?_
      refine DR.take 2 rfl (by repeat (first | exact List.nil_sublist _ | exact List.Sublist.refl _ | apply List.Sublist.cons_cons | apply List.Sublist.cons)) inferInstance (by kernel_rfl) (by kernel_rfl) (by kernel_rfl) (by kernel_rfl) rfl rfl (Wanted.plain rfl) (Val.of rfl) ?_
      refine DR.take 3 rfl (by repeat (first | exact List.nil_sublist _ | exact List.Sublist.refl _ | apply List.Sublist.cons_cons | apply List.Sublist.cons)) inferInstance (by kernel_rfl) (by kernel_rfl) (by kernel_rfl) (by kernel_rfl) rfl rfl (Wanted.plain rfl) (Val.ix tabOk i (off' := i * 8) rfl rfl rfl rfl rfl rfl rfl hi' (by simp [ti23])) ?_
      refine DR.take 4 rfl (by repeat (first | exact List.nil_sublist _ | exact List.Sublist.refl _ | apply List.Sublist.cons_cons | apply List.Sublist.cons)) inferInstance (by kernel_rfl) (by kernel_rfl) (by kernel_rfl) (by kernel_rfl) rfl rfl (Wanted.plain rfl) (Val.eq (Val.loadPc tabOk i (c := 8) rfl rfl rfl rfl (by repeat (first | exact List.mem_cons_self | apply List.mem_cons_of_mem | apply List.mem_append_right)) rfl rfl (by rw [f14]; exact o14)) (congrArg (fun l => Value.agg (u8s l).toArray) f14)) ?_
      refine DR.take 5 rfl (by repeat (first | exact List.nil_sublist _ | exact List.Sublist.refl _ | apply List.Sublist.cons_cons | apply List.Sublist.cons)) inferInstance (by kernel_rfl) (by kernel_rfl) (by kernel_rfl) (by kernel_rfl) rfl rfl (Wanted.plain rfl) (Val.of rfl) ?_
      refine DR.take 6 rfl (by repeat (first | exact List.nil_sublist _ | exact List.Sublist.refl _ | apply List.Sublist.cons_cons | apply List.Sublist.cons)) inferInstance (by kernel_rfl) (by kernel_rfl) (by kernel_rfl) (by kernel_rfl) rfl rfl (Wanted.plain rfl) (Val.ix tabOk i (off' := i * 8) rfl rfl rfl rfl rfl rfl rfl hi' (by simp [ti23])) ?_
      refine DR.take 7 rfl (by repeat (first | exact List.nil_sublist _ | exact List.Sublist.refl _ | apply List.Sublist.cons_cons | apply List.Sublist.cons)) inferInstance (by kernel_rfl) (by kernel_rfl) (by kernel_rfl) (by kernel_rfl) rfl rfl (Wanted.plain rfl) (Val.eq (Val.loadPc tabOk i (c := 8) rfl rfl rfl rfl (by repeat (first | exact List.mem_cons_self | apply List.mem_cons_of_mem | apply List.mem_append_right)) rfl rfl (by rw [f15]; exact o15)) (congrArg (fun l => Value.agg (u8s l).toArray) f15)) ?_
      refine DR.take 8 rfl (by repeat (first | exact List.nil_sublist _ | exact List.Sublist.refl _ | apply List.Sublist.cons_cons | apply List.Sublist.cons)) inferInstance (by kernel_rfl) (by kernel_rfl) (by kernel_rfl) (by kernel_rfl) rfl rfl (Wanted.plain rfl) (Val.ix tabOk i (off' := i * 8) rfl rfl rfl rfl rfl rfl rfl hi' (by simp [ti23])) ?_
      refine DR.one (i := 9) (by kernel_rfl) ?_
      refine DOp.op rfl (Wanted.plain rfl) (OpTo.setU tabOk ro (List.replicate (opened seed 1 Y i).length 0) (opened seed 1 Y i) (List.replicate ((16 - (i + 1)) * 8) 0) rfl rfl rfl rfl rfl (by first | exact List.Perm.refl _ | exact p1 | exact p2 | exact p3 | exact p4 | exact p5 | exact p6 | exact p7 | exact p8) rfl q1.symm (by simp) v1) (.inl fun _ => (by repeat (first | exact List.nil_sublist _ | exact List.Sublist.refl _ | apply List.Sublist.cons_cons | apply List.Sublist.cons))) (fun _ => ?_)
      refine DR.take 10 rfl (by repeat (first | exact List.nil_sublist _ | exact List.Sublist.refl _ | apply List.Sublist.cons_cons | apply List.Sublist.cons)) inferInstance (by kernel_rfl) (by kernel_rfl) (by kernel_rfl) (by kernel_rfl) rfl rfl (Wanted.plain rfl) (Val.ix tabOk i (off' := i * 8) rfl rfl rfl rfl rfl rfl rfl hi' (by simp [ti23])) ?_
      refine DR.one (i := 11) (by kernel_rfl) ?_
      refine DOp.op rfl (Wanted.plain rfl) (OpTo.setU tabOk rs (List.replicate (shutd seed 1 Y i).length 0) (shutd seed 1 Y i) (List.replicate ((16 - (i + 1)) * 8) 0) rfl rfl rfl rfl rfl (by first | exact List.Perm.refl _ | exact p1 | exact p2 | exact p3 | exact p4 | exact p5 | exact p6 | exact p7 | exact p8) rfl q2.symm (by simp) v2) (.inr (by kernel_rfl)) (fun _ => ?_)
      refine DR.done (by kernel_rfl) (RQ.next ?_)
      rw [← e1, ← e2]
      generalize Y.getD (i / 8) 0 = xb at *
      have hda : xb &&& 2 ^ (i % 8) < 256 := Nat.lt_of_le_of_lt Nat.and_le_left hmY
      generalize hdv : d.getD (i / 8) 0 = db at *
      (repeat refine RC.seq ?_); refine RC.drawS mixed (N := 16) rfl ?_
      refine DR.take 0 rfl (by repeat (first | exact List.nil_sublist _ | exact List.Sublist.refl _ | apply List.Sublist.cons_cons | apply List.Sublist.cons)) inferInstance (by kernel_rfl) (by kernel_rfl) (by kernel_rfl) (by kernel_rfl) rfl rfl (Wanted.plain rfl) (Val.of rfl) ?_
      refine DR.take 1 rfl (by repeat (first | exact List.nil_sublist _ | exact List.Sublist.refl _ | apply List.Sublist.cons_cons | apply List.Sublist.cons)) inferInstance (by kernel_rfl) (by kernel_rfl) (by kernel_rfl) (by kernel_rfl) rfl rfl (Wanted.plain rfl) (Val.quoN rfl rfl rfl rfl (by decide) (by simp only [inK]; omega)) ?_
      refine DR.take 2 rfl (by repeat (first | exact List.nil_sublist _ | exact List.Sublist.refl _ | apply List.Sublist.cons_cons | apply List.Sublist.cons)) inferInstance (by kernel_rfl) (by kernel_rfl) (by kernel_rfl) (by kernel_rfl) rfl rfl (Wanted.plain rfl) (Val.ix tabOk (i / 8) (off' := i / 8) rfl rfl rfl rfl rfl rfl rfl (by omega) (by simp [ti5])) ?_
      refine DR.take 3 rfl (by repeat (first | exact List.nil_sublist _ | exact List.Sublist.refl _ | apply List.Sublist.cons_cons | apply List.Sublist.cons)) inferInstance (by kernel_rfl) (by kernel_rfl) (by kernel_rfl) (by kernel_rfl) rfl rfl (Wanted.plain rfl) (Val.load tabOk rfl rfl rfl (by repeat (first | exact List.mem_cons_self | apply List.mem_cons_of_mem | apply List.mem_append_right)) hatd) ?_
      refine DR.take 4 rfl (by repeat (first | exact List.nil_sublist _ | exact List.Sublist.refl _ | apply List.Sublist.cons_cons | apply List.Sublist.cons)) inferInstance (by kernel_rfl) (by kernel_rfl) (by kernel_rfl) (by kernel_rfl) rfl rfl (Wanted.plain rfl) (Val.of rfl) ?_
      refine DR.take 5 rfl (by repeat (first | exact List.nil_sublist _ | exact List.Sublist.refl _ | apply List.Sublist.cons_cons | apply List.Sublist.cons)) inferInstance (by kernel_rfl) (by kernel_rfl) (by kernel_rfl) (by kernel_rfl) rfl rfl (Wanted.plain rfl) (Val.quoN rfl rfl rfl rfl (by decide) (by simp only [inK]; omega)) ?_
      refine DR.take 6 rfl (by repeat (first | exact List.nil_sublist _ | exact List.Sublist.refl _ | apply List.Sublist.cons_cons | apply List.Sublist.cons)) inferInstance (by kernel_rfl) (by kernel_rfl) (by kernel_rfl) (by kernel_rfl) rfl rfl (Wanted.plain rfl) (Val.ix tabOk (i / 8) (off' := i / 8) rfl rfl rfl rfl rfl rfl rfl (by omega) (by simp [ti5])) ?_
      refine DR.take 7 rfl (by repeat (first | exact List.nil_sublist _ | exact List.Sublist.refl _ | apply List.Sublist.cons_cons | apply List.Sublist.cons)) inferInstance (by kernel_rfl) (by kernel_rfl) (by kernel_rfl) (by kernel_rfl) rfl rfl (Wanted.plain rfl) (Val.load tabOk rfl rfl rfl (by repeat (first | exact List.mem_cons_self | apply List.mem_cons_of_mem | apply List.mem_append_right)) hatY) ?_
      refine DR.take 8 rfl (by repeat (first | exact List.nil_sublist _ | exact List.Sublist.refl _ | apply List.Sublist.cons_cons | apply List.Sublist.cons)) inferInstance (by kernel_rfl) (by kernel_rfl) (by kernel_rfl) (by kernel_rfl) rfl rfl (Wanted.plain rfl) (Val.of rfl) ?_
      refine DR.take 9 rfl (by repeat (first | exact List.nil_sublist _ | exact List.Sublist.refl _ | apply List.Sublist.cons_cons | apply List.Sublist.cons)) inferInstance (by kernel_rfl) (by kernel_rfl) (by kernel_rfl) (by kernel_rfl) rfl rfl (Wanted.plain rfl) (Val.remN rfl rfl rfl rfl (by decide)) ?_
      refine DR.take 10 rfl (by repeat (first | exact List.nil_sublist _ | exact List.Sublist.refl _ | apply List.Sublist.cons_cons | apply List.Sublist.cons)) inferInstance (by kernel_rfl) (by kernel_rfl) (by kernel_rfl) (by kernel_rfl) rfl rfl (Wanted.plain rfl) (Val.convIn tabOk rfl rfl rfl rfl rfl rfl (by simp only [inK]; omega)) ?_
      refine DR.take 11 rfl (by repeat (first | exact List.nil_sublist _ | exact List.Sublist.refl _ | apply List.Sublist.cons_cons | apply List.Sublist.cons)) inferInstance (by kernel_rfl) (by kernel_rfl) (by kernel_rfl) (by kernel_rfl) rfl rfl (Wanted.plain rfl) (Val.eq (Val.shl (a := 1) (m := i % 8) rfl rfl rfl (by show _ ≤ 8; omega)) (show _ = Value.int .u8 ((2 ^ (i % 8) : Nat) : Int) from by rw [Nat.one_mul, wrap_in (by simp only [inK]; generalize 2 ^ (i % 8) = pw at *; omega)])) ?_
      refine DR.take 12 rfl (by repeat (first | exact List.nil_sublist _ | exact List.Sublist.refl _ | apply List.Sublist.cons_cons | apply List.Sublist.cons)) inferInstance (by kernel_rfl) (by kernel_rfl) (by kernel_rfl) (by kernel_rfl) rfl rfl (Wanted.plain rfl) (Val.andB rfl rfl rfl hmY hp8) ?_
      refine DR.take 13 rfl (by repeat (first | exact List.nil_sublist _ | exact List.Sublist.refl _ | apply List.Sublist.cons_cons | apply List.Sublist.cons)) inferInstance (by kernel_rfl) (by kernel_rfl) (by kernel_rfl) (by kernel_rfl) rfl rfl (Wanted.plain rfl) (Val.orB rfl rfl rfl hmd hda) ?_
      refine DR.take 14 rfl (by repeat (first | exact List.nil_sublist _ | exact List.Sublist.refl _ | apply List.Sublist.cons_cons | apply List.Sublist.cons)) inferInstance (by kernel_rfl) (by kernel_rfl) (by kernel_rfl) (by kernel_rfl) rfl rfl (Wanted.plain rfl) (Val.ix tabOk (i / 8) (off' := i / 8) rfl rfl rfl rfl rfl rfl rfl (by omega) (by simp [ti5])) ?_
      refine DR.one (i := 15) (by kernel_rfl) ?_
      refine DOp.op rfl (Wanted.plain rfl) (OpTo.storeTo tabOk (arr' := (u8s (d.set (i / 8) (db ||| (xb &&& 2 ^ (i % 8))))).toArray) (u8s_set _ _ _ (by omega)) rfl rfl rfl rfl rfl (by first | exact List.Perm.refl _ | exact p1 | exact p2 | exact p3 | exact p4 | exact p5 | exact p6 | exact p7 | exact p8) rfl (by simp [u8s_len, hd8, ti5]; omega) (by simp [Value.cells]; rfl)) (.inr (by kernel_rfl)) (fun _ => ?_)
      refine DR.done (by kernel_rfl) (RQ.blockNormal (RQ.next ?_))
      refine RC.region ?_
      repeat (first | refine Run.v rfl rfl rfl (Val.ar rfl rfl rfl rfl (by dsimp only [inK]; omega)) ?_ | refine Run.v rfl rfl rfl (Val.of rfl) ?_)
      exact Run.nil <| RQ.upP (i + 1) _ (Nat.lt_succ_self _) hi' hset ⟨rfl, rfl, rfl, rfl, rfl, rfl, rfl, rfl, rfl, rfl, rfl, rfl, trivial⟩ p2.symm (List.Sublist.refl _)
  · have hi' : i = 16 := by have := of_decide_eq_false h; omega
    subst hi'
    have hpub : ∀ w', Laid w' → Gives _ _ _ _ w' := fun w' hK' => lam_Public_calls d (rowOf (wOpen seed X Y mix) 16) (rowOf (wShut seed X Y mix) 16) hd.len hd.lt (rowOf_len wol 16) (rowOf_lt (fun i => opened_lt _ _ _ i) 16) (rowOf_len wsl 16) (rowOf_lt (fun i => shutd_lt _ _ _ i) 16) w' hK'
    have l1 := rowOf_len wol 16
    have l2 := rowOf_len wsl 16
    have hpe : pubBy d (rowOf (wOpen seed X Y mix) 16) (rowOf (wShut seed X Y mix) 16) = pubKey seed 1 := by rw [wOpen_row seed hd, wShut_row seed hd, pubBy_signed]
    have hpd : (pubKey seed 1).length = 8 := digest_len _ _
    rw [show (16 - 16) * 8 = 0 from rfl, List.replicate_zero, List.append_nil, List.append_nil]
    generalize rowOf (wOpen seed X Y mix) 16 = ro at *
    generalize rowOf (wShut seed X Y mix) 16 = rs at *
    (repeat refine RQ.thenExit ?_); refine RQ.blockHere ?_
    refine RQ.next ?_
    (repeat refine RC.seq ?_); refine RC.region ?_
    refine Run.v rfl rfl rfl (Val.loadU tabOk rfl rfl rfl rfl (by repeat (first | exact List.mem_cons_self | apply List.mem_cons_of_mem | apply List.mem_append_right)) hd.len) ?_
    refine Run.v rfl rfl rfl (Val.loadU tabOk rfl rfl rfl rfl (by repeat (first | exact List.mem_cons_self | apply List.mem_cons_of_mem | apply List.mem_append_right)) l1) ?_
    refine Run.v rfl rfl rfl (Val.loadU tabOk rfl rfl rfl rfl (by repeat (first | exact List.mem_cons_self | apply List.mem_cons_of_mem | apply List.mem_append_right)) l2) ?_
    refine Run.callV Tryd.func18 rfl rfl rfl rfl rfl rfl rfl (fun w' hm => hpub w' (hK.fr hm.fr (by simp))) ?_
    rw [hpe]
    refine Run.v rfl rfl rfl (Val.of rfl) ?_
    refine Run.callV Tryd.func16 rfl rfl rfl rfl rfl rfl rfl (fun w' hm => Key_Public_calls kb seed 1 w' (hK.fr hm.fr (by simp)) (hm.has (kb, _) (by repeat (first | exact List.mem_cons_self | apply List.mem_cons_of_mem | apply List.mem_append_right)))) ?_
    refine Run.v rfl rfl rfl (Val.eq (Val.eqU (m := 8) (a := pubKey seed 1) (b := pubKey seed 1) tabOk rfl rfl rfl (by kernel_rfl) (by kernel_rfl) rfl rfl hpd hpd) (show _ = Value.bool true from by simp)) ?_
    refine Run.v rfl rfl rfl (Val.of rfl) ?_
    refine Run.nil (RQ.next ?_)
    refine RC.ret ?_; (repeat first | refine RQ.thenRet ?_ | refine RQ.blockRet ?_); exact RQ.ret1 rfl (Res.tmp rfl) fun w' hm => ⟨rfl, hm.fr⟩
end Go.Proofs.YtnkogpfmfmjhoaaDoor
