/- Entering a function and leaving it. -/
import Derived.Test.YtilfbomjaflbjaaDoorVcC
namespace Go.Vc
open Go

def argEnv : Nat → List Value → Env
  | _, [] => []
  | i, v :: r => (i, v) :: argEnv (i + 1) r

theorem argEnv_get : ∀ (vs : List Value) (i t : Nat) (v : Value), (argEnv i vs).get t = some v → i ≤ t ∧ vs[t - i]? = some v
  | [], _, _, _, h => by simp [argEnv, Env.get] at h
  | u :: r, i, t, v, h => by
    simp only [argEnv] at h
    rw [Env.get_cons] at h
    by_cases e : i = t
    · rw [if_pos e] at h; cases h; subst e; simp
    · rw [if_neg e] at h
      obtain ⟨h1, h2⟩ := argEnv_get r (i + 1) t v h
      refine ⟨by omega, ?_⟩
      rw [show t - i = (t - (i + 1)) + 1 by omega]
      simpa using h2

theorem St.enter (vs : List Value) (n : Nat) (hn : Nat.ble vs.length n = true) :
    St n (argEnv 0 vs) { tmps := vs.toArray ++ Array.replicate (n - vs.toArray.size) undef, defers := [] } := by
  have hn' : vs.length ≤ n := Nat.le_of_ble_eq_true hn
  refine ⟨rfl, by simp; omega, fun t v h => ?_⟩
  obtain ⟨_, h2⟩ := argEnv_get vs 0 t v h
  simp only [Nat.sub_zero] at h2
  have ht : t < vs.length := by
    rcases Nat.lt_or_ge t vs.length with h | h
    · exact h
    · rw [List.getElem?_eq_none h] at h2; cases h2
  simp only [Array.getD_eq_getD_getElem?]
  rw [Array.getElem?_append_left (by simpa using ht)]
  simp [h2]

theorem Mem.init {w : World} {S0 : List Nat} {L : Hp} (h : ∀ p ∈ L, w.heap[p.1]? = some p.2) (hs : ∀ p ∈ L, p.1 ∈ S0) (hd : (L.map (·.1)).Nodup) : Mem w S0 L w :=
  ⟨Fr.refl _ _, h, fun p hp => .inr (hs p hp), hd⟩

theorem enter {P : Program} {f : FuncId} {fn : Func} {c : Code} {vs : List Value} {w : World} {R : Ending → World → Prop} {S0 : List Nat} {L : Hp}
    (hf : P.funcs[f]? = some fn) (hb : fn.body = some c) (hm : Mem w S0 L w) (hn : Nat.ble vs.length fn.ntmps = true)
    (h : RC P fn.ntmps w S0 c (bodyPost P fn R) (argEnv 0 vs) L) : Calls P f vs.toArray w R :=
  calls_of_wp hf hb (h _ _ (St.enter vs _ hn) hm)

section
variable (P : Program) (n : Nat) (w0 : World) (S0 : List Nat) (E : Env) (L : Hp)
def resOf (tmps : Array Value) : ResultVar → Sem Value
  | .tmp t => pure (tmps.getD t undef)
  | .cell a t => do loadVar t (← asAddr (tmps.getD a undef))
def Res (r : ResultVar) (v : Value) : Prop := ∀ a w, St n E a → Mem w0 S0 L w → (resOf a.tmps r).run P w = .ok v w
end

section
variable {P : Program} {n : Nat} {w0 : World} {S0 : List Nat} {E : Env} {L : Hp} {fn : Func} {R : Ending → World → Prop} {T : List (Nat × TI)}
theorem Res.tmp {t : Nat} {v : Value} (h : E.get t = some v) : Res P n w0 S0 E L (.tmp t) v := fun a w hs _ => by
  simp only [resOf, hs.env t v h]; rfl
theorem Res.cellAll (hT : TabOk P T) {x t b : Nat} {ti : TI} {arr : Array Value} {e : TypeId} {fz : Nat × Nat} (ht : tiGet T t = some ti) (h : E.get x = some (.pointer (some ⟨b, 0, none⟩)))
    (ha : TypeDesc.agg ti.desc = true) (hm : (b, .cells arr e fz) ∈ L) (hs : arr.size = ti.size) : Res P n w0 S0 E L (.cell x t) (.agg arr) := fun a w hst hmem => by
  simp [resOf, hst.env x _ h, asAddr, run_loadVar_all (P := P) (hT _ _ ht) ha w (hmem.has _ hm) hs]
theorem Res.cell (hT : TabOk P T) {x t b off : Nat} {ti : TI} {arr : Array Value} {e : TypeId} {fz : Nat × Nat} {v : Value} (ht : tiGet T t = some ti) (h : E.get x = some (.pointer (some ⟨b, off, none⟩)))
    (hm : (b, .cells arr e fz) ∈ L) (hv : rdAt ti arr off = some v) : Res P n w0 S0 E L (.cell x t) v := fun a w hst hmem => by
  simp [resOf, hst.env x _ h, asAddr, run_loadVar_at (P := P) (hT _ _ ht) w (hmem.has _ hm) hv]

theorem results_eq (tmps : Array Value) : results fn tmps = (do
    let vs ← fn.results.mapM (resOf tmps)
    pure (if h : vs.size = 1 then vs[0] else .tuple vs)) := by
  unfold results
  congr 1

theorem RQ.ret0 (hr : fn.results = #[]) (h : ∀ w, Mem w0 S0 L w → R (.returned (.tuple #[])) w) : RQ n w0 S0 .ret (bodyPost P fn R) E L := by
  intro a w hs hm
  refine ⟨hs.defers, .tuple #[], ?_, h w hm⟩
  rw [results_eq, hr]; simp
theorem RQ.ret1 {r : ResultVar} {v : Value} (hr : fn.results = #[r]) (h1 : Res P n w0 S0 E L r v) (h : ∀ w, Mem w0 S0 L w → R (.returned v) w) : RQ n w0 S0 .ret (bodyPost P fn R) E L := by
  intro a w hs hm
  refine ⟨hs.defers, v, ?_, h w hm⟩
  rw [results_eq, hr]; simp [h1 a w hs hm]
theorem RQ.ret2 {r s : ResultVar} {u v : Value} (hr : fn.results = #[r, s]) (h1 : Res P n w0 S0 E L r u) (h2 : Res P n w0 S0 E L s v) (h : ∀ w, Mem w0 S0 L w → R (.returned (.tuple #[u, v])) w) : RQ n w0 S0 .ret (bodyPost P fn R) E L := by
  intro a w hs hm
  refine ⟨hs.defers, .tuple #[u, v], ?_, h w hm⟩
  rw [results_eq, hr]; simp [h1 a w hs hm, h2 a w hs hm]
theorem RQ.ret3 {r s q : ResultVar} {u v x : Value} (hr : fn.results = #[r, s, q]) (h1 : Res P n w0 S0 E L r u) (h2 : Res P n w0 S0 E L s v) (h3 : Res P n w0 S0 E L q x) (h : ∀ w, Mem w0 S0 L w → R (.returned (.tuple #[u, v, x])) w) : RQ n w0 S0 .ret (bodyPost P fn R) E L := by
  intro a w hs hm
  refine ⟨hs.defers, .tuple #[u, v, x], ?_, h w hm⟩
  rw [results_eq, hr]; simp [h1 a w hs hm, h2 a w hs hm, h3 a w hs hm]
theorem RQ.normal (h : RQ n w0 S0 .ret (bodyPost P fn R) E L) : RQ n w0 S0 .normal (bodyPost P fn R) E L := h
end
end Go.Vc
