import Derived.Test.YtfhdfpejjgmdcaaDoorSpD
import Derived.Test.YtfhdfpejjgmdcaaDoorLam0
set_option linter.unusedSimpArgs false
set_option linter.unusedVariables false
/- sparse: Prove. -/
namespace Go.Vc
open Go Go.Sha
theorem xor1 {a : Nat} (h : a < 65536) : IntKind.i64.wrap ((BitVec.ofInt IntKind.i64.bits (a : Int) ^^^ BitVec.ofInt IntKind.i64.bits 1).toNat : Nat) = ((a ^^^ 1 : Nat) : Int) := by
  have hx : a ^^^ 1 < 2 ^ 16 := Nat.xor_lt_two_pow (by omega) (by decide)
  have e : (BitVec.ofInt IntKind.i64.bits (a : Int) ^^^ BitVec.ofInt IntKind.i64.bits 1).toNat = a ^^^ 1 := by
    rw [show (1 : Int) = ((1 : Nat) : Int) from rfl, BitVec.toNat_xor, BitVec.ofInt_natCast, BitVec.ofInt_natCast, BitVec.toNat_ofNat, BitVec.toNat_ofNat, show IntKind.i64.bits = 64 from rfl, Nat.mod_eq_of_lt (by omega), Nat.mod_eq_of_lt (by decide)]
  rw [e]
  exact wrap_in (by dsimp only [inK]; omega)
theorem shr_nat {a k : Nat} (hk : k ≤ 64) : (a : Int).fdiv (2 ^ min (k : Int).toNat IntKind.i64.bits) = ((a / 2 ^ k : Nat) : Int) := by
  rw [show min (k : Int).toNat IntKind.i64.bits = k from by rw [Int.toNat_natCast]; exact Nat.min_eq_left hk, Int.fdiv_eq_ediv_of_nonneg _ (Int.le_of_lt (Int.pow_pos (by decide)))]
  rfl
/-- The place beside the way of a leaf. -/
def sib (i k : Nat) : Nat := (i / 2 ^ k) ^^^ 1
end Go.Vc
namespace Go.Proofs.YtfhdfpejjgmdcaaDoor
attribute [local irreducible] Go.Vc.Run Go.Vc.RC Go.Vc.RQ Go.Vc.DR Go.Vc.DOp
open Go Go.Vc Go.Sha
def inB (i : Int) : Bool := decide (0 ≤ i ∧ i < 65536)
/-- A proof. -/
def prfT (f : Nat → Nat → List Nat) (i : Int) : List Nat := if inB i then rowOf (fun k => f k (sib i.toNat k)) 16 else List.replicate 128 0
theorem prfT_len {f : Nat → Nat → List Nat} (h : ∀ q j, (f q j).length = 8) (i : Int) : (prfT f i).length = 128 := by
  unfold prfT
  split
  · rw [rowOf_len (c := 8) (fun k => h _ _)]
  · rfl
end Go.Proofs.YtfhdfpejjgmdcaaDoor

/- sparse: Check. -/
namespace Go.Sha
open Go.Vc
/-- What a proof leads to, of its first pieces. -/
def upT (i : Nat) (p : List Nat) (h : List Nat) : Nat → List Nat
  | 0 => h
  | k + 1 => if i / 2 ^ k % 2 = 1 then overH (pc 8 p k) (upT i p h k) else overH (upT i p h k) (pc 8 p k)
theorem upT_8 {i : Nat} {p h : List Nat} (hh : H8 h) : ∀ k, H8 (upT i p h k)
  | 0 => hh
  | k + 1 => by
    unfold upT
    split
    · exact overH_8
    · exact overH_8
theorem pc_8 {p : List Nat} (hl : p.length = 128) (hb : ∀ x ∈ p, x < 256) {k : Nat} (hk : k < 16) : H8 (pc 8 p k) :=
  ⟨by unfold pc; rw [List.length_take, List.length_drop, hl]; omega, fun x hx => hb x (List.mem_of_mem_drop (List.mem_of_mem_take hx))⟩
end Go.Sha
namespace Go.Vc
open Go Go.Sha
theorem and1 {a : Nat} (h : a < 65536) : IntKind.i64.wrap ((BitVec.ofInt IntKind.i64.bits (a : Int) &&& BitVec.ofInt IntKind.i64.bits 1).toNat : Nat) = ((a % 2 : Nat) : Int) := by
  have e : (BitVec.ofInt IntKind.i64.bits (a : Int) &&& BitVec.ofInt IntKind.i64.bits 1).toNat = a % 2 := by
    rw [show (1 : Int) = ((1 : Nat) : Int) from rfl, BitVec.toNat_and, BitVec.ofInt_natCast, BitVec.ofInt_natCast, BitVec.toNat_ofNat, BitVec.toNat_ofNat, show IntKind.i64.bits = 64 from rfl, Nat.mod_eq_of_lt (by omega), Nat.mod_eq_of_lt (by decide), Nat.and_one_is_mod]
  rw [e]
  exact wrap_in (by dsimp only [inK]; omega)
end Go.Vc
namespace Go.Proofs.YtfhdfpejjgmdcaaDoor
attribute [local irreducible] Go.Vc.Run Go.Vc.RC Go.Vc.RQ Go.Vc.DR Go.Vc.DOp
open Go Go.Vc Go.Sha
/-- Does a proof lead from a leaf to a root? -/
def chkT (root : List Nat) (i : Int) (h p : List Nat) : Bool := inB i && decide (upT i.toNat p h 16 = root)
end Go.Proofs.YtfhdfpejjgmdcaaDoor

/- sparse: Len, Copy. -/
namespace Go.Proofs.YtfhdfpejjgmdcaaDoor
attribute [local irreducible] Go.Vc.Run Go.Vc.RC Go.Vc.RQ Go.Vc.DR Go.Vc.DOp
open Go Go.Vc Go.Sha
/-- How many leaves. -/
def cnt0 (es : List MpE) : Nat := (es.filter fun x => x.k == 0).length
theorem cnt0_app (a : List MpE) (x : MpE) : cnt0 (a ++ [x]) = cnt0 a + if x.k = 0 then 1 else 0 := by
  unfold cnt0
  rw [List.filter_append, List.length_append]
  by_cases h : x.k = 0
  · simp [h]
  · simp [h]
theorem cnt0_all {vs es : List MpE} (h1 : (vs.map (·.born)).Nodup) (h2 : (es.map (·.born)).Nodup) (hs : ∀ x ∈ vs, x ∈ es) (ha : ∀ x ∈ es, (vs.map (·.born)).toArray.contains x.born = true) : cnt0 vs = cnt0 es := by
  have inj : ∀ {x y : MpE}, x ∈ es → y ∈ es → x.born = y.born → x = y := by
    intro x y hx hy e
    obtain ⟨a, ha, rfl⟩ := List.mem_iff_getElem.1 hx
    obtain ⟨b, hb, rfl⟩ := List.mem_iff_getElem.1 hy
    have := (List.getElem_inj (h₀ := by simpa using ha) (h₁ := by simpa using hb) h2).1 (by simpa using e)
    subst this
    rfl
  have nd1 : vs.Nodup := List.Pairwise.of_map (·.born) (fun a b h e => h (by rw [e])) h1
  have nd2 : es.Nodup := List.Pairwise.of_map (·.born) (fun a b h e => h (by rw [e])) h2
  have hp : vs.Perm es := by
    rw [List.perm_ext_iff_of_nodup nd1 nd2]
    intro x
    refine ⟨hs x, fun hx => ?_⟩
    have := ha x hx
    rw [List.contains_toArray, List.contains_iff_mem] at this
    obtain ⟨y, hy, e⟩ := List.mem_map.1 this
    rw [← inj (hs y hy) hx e]
    exact hy
  exact (hp.filter _).length_eq
end Go.Proofs.YtfhdfpejjgmdcaaDoor
