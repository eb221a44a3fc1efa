/- []byte of a []byte: the row is marked. -/
import Derived.Test.YtilfbomjaflbjaaDoorVcK
namespace Go.Vc
open Go Go.Sha
section
variable {P : Program} {n : Nat} {w0 : World} {S0 : List Nat} {Q : Exit → Act → World → Prop} {E : Env} {L : Hp} {o : Oper} {d : Nat} {T : List (Nat × TI)} {t : Nat} {ti : TI} {ops : Array Oper} {l rest : List Oper}

theorem OpTo.mark (hT : TabOk P T) {x : Operand} {b m c el : Nat} {arr : Array Value} {e : TypeId} {ei : TI} {L' : Hp} (hd : o.dst = some d) (hn : Nat.blt d n = true) (ho : o.op = .convert t t x) (ht : tiGet T t = some ti) (htd : ti.desc = .slice el) (he : tiGet T el = some ei) (hed : ei.desc = .int .u8)
    (hx : lk E x = some (.slice (some ⟨b, 0, none⟩) m c)) (hL : L.Perm ((b, .cells arr e (0, 0)) :: L')) :
    OpTo P n w0 S0 Q E L o (Y := Unit) (fun _ => (d, .slice (some ⟨b, 0, none⟩) m c) :: E) (fun _ => (b, .cells arr e (arr.size, arr.size + 1)) :: L') := by
  intro a w hs hm K hK
  have hu := (hT _ _ ht).1
  rw [htd] at hu
  have hk := (hT _ _ he).1
  rw [hed] at hk
  have hm' := hm.perm hL
  have hb : w.heap[b]? = some (.cells arr e (0, 0)) := hm'.has _ List.mem_cons_self
  have hsh : w.shape? b = some (e, arr.size) := by
    unfold World.shape?
    rw [hb]
  have hex : (execOp a.eval o).run P w = .ok (.value (.slice (some ⟨b, 0, none⟩) m c)) (w.freeze ⟨b, arr.size, none⟩ 1) := by
    simp [execOp, ho, hs.eval hx, convert, run_underlying hu, run_underlying hk, markStringish, hsh]
  simp only [Oper.wp, hex, Oper.upon_value, hd]
  have hlt : b < w.heap.size := (Array.getElem?_eq_some_iff.1 hb).1
  refine hK () _ _ (hs.put hn _) (hm'.write ⟨rfl, rfl, rfl, by simp [World.freeze], fun k hk hkS => ?_⟩ ?_)
  · have : b ≠ k := fun h => hkS (by simp [h])
    simp [World.freeze, Array.getElem?_modify, this]
  · rw [Array.getElem?_eq_getElem hlt] at hb
    cases hb' : w.heap[b] with
    | cells c' e' fz =>
      rw [hb'] at hb
      cases hb
      unfold World.freeze
      rw [if_neg (by decide)]
      simp only [Array.getElem?_modify, Array.getElem?_eq_getElem hlt, hb', if_true, Option.map_some]
      simp
    | _ => rw [hb'] at hb; cases hb
end
end Go.Vc
