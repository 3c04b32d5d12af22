/- laws for the walk on values of many cells -/
import Derived.Test.YtjhpemlgcjdpfaaB
import Derived.Deep.MidRow
import Derived.Laws.CopyOwn
namespace Go.Proofs.Ytjhpemlgcjdpfaa
open Go.RowKit

section
variable {P : Program} {ops : Array Oper} {rest : List Oper} {o : Oper} {a : Act} {w : World} {Q : Exit → Act → World → Prop}

theorem run_allocT (w : World) (ty : TypeId) (cs : Array Value) (hz : (P.info? ty).map (fun i => i.zero.map Value.cells) = some (some cs)) :
    (Instr.alloc ty true (.tuple #[])).run P w = .ok (.pointer (some ⟨w.heap.size, 0, none⟩)) (w.alloc (.cells cs ty)) := by
  cases hq : P.info? ty with
  | none => simp [hq] at hz
  | some i =>
    cases hi : i.zero with
    | none => simp [hq, hi] at hz
    | some z =>
      simp [hq, hi] at hz
      subst hz
      simp [Instr.alloc, zeroValue, typeInfo, hq, hi, newVar, newRow, newObj]
      rfl

theorem wpList_allocT (hgd : o.guard = none) (ty : TypeId) (ho : o.op = .alloc ty) (cs : Array Value) (hz : (P.info? ty).map (fun i => i.zero.map Value.cells) = some (some cs))
    (h : wpList P ops Q rest (a.put o.dst (.pointer (some ⟨w.heap.size, 0, none⟩))) (w.alloc (.cells cs ty))) : wpList P ops Q (o :: rest) a w :=
  wpList_plain hgd fun _ hK => by
    unfold Oper.wp execOp
    simp only [ho, Sem.run_bind, run_allocT w ty cs hz, Result.andThen_ok]
    exact hK _ _ h
end

section
variable {P : Program}
theorem run_index_cell (T : TypeId) (n : Nat) (e : TypeId) (ht : P.underlying T = some (.array n e)) (d : TypeDesc) (hd : P.underlying e = some d) (hda : d.isRow = false) (hs : (P.info? e).map (·.size) = some 1)
    (cs : Array Value) (k : IntKind) (i : Nat) (hi : i < n) (v : Value) (hv : cs[i]? = some v) (w : World) : (Instr.index T (.agg cs) (.int k i)).run P w = .ok v w := by
  cases hq : P.info? e with
  | none => simp [hq] at hs
  | some ie =>
    have h1 : ie.size = 1 := by simpa [hq] using hs
    have hagg : (isAgg e).run P w = .ok false w := by
      unfold isAgg
      rw [Sem.run_bind, run_underlying hd w]
      cases d <;> simp_all
    simp [Instr.index, asIntOf, run_underlying ht, sizeOf, typeInfo, hq, h1, part, hagg, hv, Result.andThen]
    intro h
    omega
end
end Go.Proofs.Ytjhpemlgcjdpfaa
