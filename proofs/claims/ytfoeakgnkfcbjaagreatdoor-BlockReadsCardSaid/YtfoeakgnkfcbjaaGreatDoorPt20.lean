/- Lemmas. -/
import Derived.Test.YtfoeakgnkfcbjaaGreatDoorPt19
set_option linter.unusedSimpArgs false
set_option linter.unusedVariables false
section
/- Bytes of one's own: made by calls, appended to. -/
namespace Go.Proofs.YtfoeakgnkfcbjaaGreatDoor
open Go Go.Vc Go.Sha
abbrev OB (bs : List Nat) := {p : Value × Hp // Own 5 1 p.1 bs.length (u8s bs) p.2}
abbrev MakesB (f : FuncId) (vs : List Value) (w : World) (bs : List Nat) : Prop := Makes Tryz.prog f vs w 5 1 bs.length (u8s bs)
section
variable {n : Nat} {w0 : World} {S0 : List Nat} {Q : Exit → Act → World → Prop} {E : Env} {L : Hp} {o : Oper} {d : Nat} {t : Nat} {ti : TI}
theorem mkB {f : FuncId} {xs : List Operand} {ts : Array TypeId} {fn : Func} {vs : List Value} {bs : List Nat} (hf : Tryz.prog.funcs[f]? = some fn) (hc : ∀ w, Mem w0 S0 L w → MakesB f vs w bs) (hd : o.dst = some d := by exact rfl) (hn : Nat.blt d n = true := by exact rfl)
    (ho : o.op = .call { callee := .value (.func f), args := xs.toArray, argTypes := ts } := by exact rfl) (hnm : (fn.name == "runtime.NumGoroutine") = false := by exact rfl) (hb : fn.body.isNone = false := by exact rfl)
    (hx : lkAll E xs = some vs := by exact rfl) : OpTo Tryz.prog n w0 S0 Q E L o (Y := OB bs) (fun y => (d, y.1.1) :: E) (fun y => y.1.2 ++ L) :=
  OpTo.callMk hf hd hn ho hnm hb hx hc
theorem apB {bs : List Nat} {L1 bl : Hp} {s x : Operand} {v u : Value} (hown : Own 5 1 v bs.length (u8s bs) bl) (new : List Nat) (hsrc : Src w0 S0 L 1 u new.length (u8s new)) (hlen : bs.length + new.length ≤ 1000000) (hL : L.Perm (bl ++ L1))
    (hd : o.dst = some d := by exact rfl) (hn : Nat.blt d n = true := by exact rfl) (ho : o.op = .call { callee := .builtin .append, args := #[s, x], argTypes := #[35, 35] } := by exact rfl) (hs : lk E s = some v := by exact rfl) (hx : lk E x = some u := by exact rfl) :
    OpTo Tryz.prog n w0 S0 Q E L o (Y := OB (bs ++ new)) (fun z => (d, z.1.1) :: E) (fun z => z.1.2 ++ L1) := by
  have h := OpTo.append (P := Tryz.prog) (n := n) (Q := Q) (E := E) (o := o) (d := d) (L1 := L1) (s := s) (x := x) (t := 35) tabOk hown hsrc hd hn ho rfl rfl rfl rfl hs hx hL (u8s_one _) (by unfold maxLen; omega) (by simp only [ti5]; omega)
  unfold OB
  rw [List.length_append, u8s_app]
  exact h
theorem vslA {x : Operand} {ad : Addr} {len el : Nat} {ei : TI} (ho : o.op = .slice t x none none none := by exact rfl) (ht : tiGet tab t = some ti := by exact rfl) (hd : ti.desc = .array len el := by exact rfl) (he : tiGet tab el = some ei := by exact rfl)
    (hx : lk E x = some (.pointer (some ad)) := by exact rfl) : Val Tryz.prog n w0 S0 E L o (.slice (some ad) len len) := by
  intro a w hs _
  have h2 := (tabOk _ _ ht).1
  rw [hd] at h2
  by_cases hl : len = 0 <;> simp [execOp, ho, hs.eval hx, Instr.sliceAt, run_underlying h2, Instr.sureAddr, Instr.sliceBounds, (tabOk _ _ he).size, hl, Addr.add]
end
/-- A number's bytes, as the reference writes them. -/
theorem rNum (n : Int) (k : Nat) (hk : k ≤ 8) (hn : 0 ≤ n) (w : World) : MakesB 36 [.int .i64 n, .int .i64 k] w (le n.toNat k) := by
  have h := Num_calls n.toNat k hk w
  rw [Int.toNat_of_nonneg hn] at h
  unfold MakesB
  rw [le_len]
  exact h
end Go.Proofs.YtfoeakgnkfcbjaaGreatDoor
end
