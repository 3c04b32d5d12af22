/- laws on arrays and structs by value -/
import Derived.Test.YtjhpemlgcjdpfaaG
import Derived.ChangeKeysEq
import Derived.Laws.StructEq
namespace Go.Proofs.Ytjhpemlgcjdpfaa
open Go.RowKit

section
variable {P : Program}
theorem run_isAgg_of {e : TypeId} {d : TypeDesc} (hd : P.underlying e = some d) (w : World) : (isAgg e).run P w = .ok d.isRow w := by
  unfold isAgg
  rw [Sem.run_bind, run_underlying hd w]
  cases d <;> rfl
theorem run_part_cell {e : TypeId} {d : TypeDesc} (hd : P.underlying e = some d) (hda : d.isRow = false) (xs : Array Value) (off : Nat) (v : Value) (hv : xs[off]? = some v) (w : World) : (part e xs off).run P w = .ok v w := by
  simp [part, run_isAgg_of hd w, hda, hv, Result.andThen]
theorem run_part_agg {e : TypeId} {d : TypeDesc} (hd : P.underlying e = some d) (hda : d.isRow = true) {n : Nat} (hs : (P.info? e).map (·.size) = some n) (xs : Array Value) (off : Nat) (w : World) :
    (part e xs off).run P w = .ok (.agg (xs.extract off (off + n))) w := by
  cases hq : P.info? e with
  | none => simp [hq] at hs
  | some i =>
    have hi : i.size = n := by simpa [hq] using hs
    simp [part, run_isAgg_of hd w, hda, Result.andThen, sizeOf, typeInfo, hq, hi]

theorem run_eqItems_bytes (d : Nat) {e : TypeId} (hu : P.underlying e = some (.int .u8)) (w : World) (xs ys : List Int) : ∀ (m k : Nat), xs.length = k + m → ys.length = k + m →
    (Op.eqItems (d + 1) e 1 (zB xs).toArray (zB ys).toArray (List.range' k m)).run P w = .ok (decide (xs.drop k = ys.drop k)) w
  | 0, k, hx, hy => by
    rw [List.drop_eq_nil_of_le (by omega), List.drop_eq_nil_of_le (by omega)]
    simp [Op.eqItems]
  | m + 1, k, hx, hy => by
    have ih := run_eqItems_bytes d hu w xs ys m (k + 1) (by omega) (by omega)
    have h1 : k < xs.length := by omega
    have h2 : k < ys.length := by omega
    have p1 := run_part_cell hu rfl (zB xs).toArray (k * 1) (.int .u8 xs[k]) (by simp [h1]) w
    have p2 := run_part_cell hu rfl (zB ys).toArray (k * 1) (.int .u8 ys[k]) (by simp [h2]) w
    rw [List.range'_succ]
    simp only [Op.eqItems, Sem.run_bind, p1, p2, Result.andThen_ok, run_equalIn_int w d e _ .u8 _ _ hu]
    have e : (xs.drop k = ys.drop k) ↔ (xs[k] = ys[k] ∧ xs.drop (k + 1) = ys.drop (k + 1)) := by
      rw [List.drop_eq_getElem_cons h1, List.drop_eq_getElem_cons h2, List.cons.injEq]
    by_cases hxy : xs[k] = ys[k]
    · simp only [hxy, e, true_and]
      simpa using ih
    · simp only [e, hxy, false_and]
      simp [hxy]

theorem run_equalIn_bytes (d : Nat) {t e : TypeId} {n : Nat} (ht : P.underlying t = some (.array n e)) (hu : P.underlying e = some (.int .u8)) (hi : (P.info? e).map (·.size) = some 1) (w : World) (xs ys : List Int) (hx : xs.length = n) (hy : ys.length = n) :
    (Op.equalIn (d + 2) t (.agg (zB xs).toArray) (.agg (zB ys).toArray)).run P w = .ok (decide (xs = ys)) w := by
  cases hq : P.info? e with
  | none => simp [hq] at hi
  | some i =>
    have h1 : P.cellsOf e = 1 := by
      have h2 : i.size = 1 := by simpa [hq] using hi
      simp [Program.cellsOf, hq, h2]
    rw [run_equalIn_array w (d + 1) _ _ ht hq, h1, List.range_eq_range', run_eqItems_bytes d hu w xs ys n 0 (by omega) (by omega)]
    simp

/-- many cells laid one by one -/
theorem fold_set (vs : List Value) (off : Nat) : ∀ (k : Nat) (cs : Array Value) (x : Nat), ((vs.zipIdx k).foldl (fun cs (p : Value × Nat) => cs.setIfInBounds (off + p.2) p.1) cs)[x]? =
    if off + k ≤ x ∧ x < off + k + vs.length ∧ x < cs.size then vs[x - (off + k)]? else cs[x]? := by
  induction vs with
  | nil => intro k cs x; simp; omega
  | cons v r ih =>
    intro k cs x
    rw [List.zipIdx_cons, List.foldl_cons, ih (k + 1)]
    simp only [Array.size_setIfInBounds, List.length_cons]
    by_cases h : x < cs.size
    · by_cases e : x = off + k
      · subst e
        rw [if_neg (by omega), if_pos (by omega), Array.getElem?_setIfInBounds_self, if_pos h]
        simp
      · rw [Array.getElem?_setIfInBounds_ne (by omega)]
        by_cases h1 : off + k + 1 ≤ x ∧ x < off + k + 1 + r.length
        · rw [if_pos (by omega), if_pos (by omega), show x - (off + k) = (x - (off + (k + 1))) + 1 by omega, List.getElem?_cons_succ]
        · rw [if_neg (by omega), if_neg (by omega)]
    · rw [if_neg (by omega), if_neg (by omega), Array.getElem?_eq_none (by simpa using by omega), Array.getElem?_eq_none (by omega)]
theorem fold_splice (vs cells : List Value) (off : Nat) (h : off + vs.length ≤ cells.length) :
    vs.toArray.zipIdx.foldl (fun cs (p : Value × Nat) => cs.setIfInBounds (off + p.2) p.1) cells.toArray = (splice cells off vs).toArray := by
  apply Array.ext_getElem?
  intro x
  have e1 : vs.toArray.zipIdx = (vs.zipIdx 0).toArray := by simp
  rw [e1, List.foldl_toArray, fold_set]
  simp only [List.getElem?_toArray, List.size_toArray, splice]
  by_cases h1 : x < off
  · rw [if_neg (by omega), List.getElem?_append_left (by simp; omega), List.getElem?_take_of_lt h1]
  · by_cases h2 : x < off + vs.length
    · rw [if_pos (by omega), List.getElem?_append_right (by simp; omega), List.length_take, Nat.min_eq_left (by omega), List.getElem?_append_left (by omega)]
      rfl
    · rw [if_neg (by omega), List.getElem?_append_right (by simp; omega), List.length_take, Nat.min_eq_left (by omega), List.getElem?_append_right (by omega), List.getElem?_drop]
      congr 1; omega
/-- a part more of a struct's value -/
theorem fill_part (place : Nat → Option (Nat × Nat)) (cells vs : List Value) (i off n : Nat) (v : Value) (rest : List (Nat × Value)) (hp : place i = some (off, n)) (hv : v.cells = vs.toArray) (hn : vs.length = n) (h : off + n ≤ cells.length) :
    Instr.fill place cells.toArray ((i, v) :: rest) = Instr.fill place (splice cells off vs).toArray rest := by
  rw [Instr.fill, hp]
  simp only [hv]
  rw [if_neg (by simp [hn]; omega), fold_splice vs cells off (by omega)]

theorem wpList_buildT {ops : Array Oper} {rest : List Oper} {o : Oper} {a : Act} {w : World} {Q : Exit → Act → World → Prop} (hgd : o.guard = none) (t : TypeId) (ps : List (Nat × Operand)) (ho : o.op = .build t ps.toArray)
    (cells : Array Value) (hf : P.built t (ps.map fun p => (p.1, a.eval p.2)) = some cells) (h : wpList P ops Q rest (a.put o.dst (.agg cells)) w) : wpList P ops Q (o :: rest) a w :=
  wpList_plain hgd fun _ hK => by
    have hf' : P.built t (ps.toArray.map fun p => (p.1, a.eval p.2)).toList = some cells := by simpa using hf
    refine wp_build t ps.toArray ho ?_ ?_
    · rw [hf']; rfl
    · rw [hf']; exact hK _ _ h
end

/-! ### votes -/
structure VoteM where
  kind : Int
  slot : Int
  view : Int
  sum : List Int
  frm : Int
  tag : List Int
structure VoteM.Ok (v : VoteM) : Prop where
  sum : v.sum.length = 32
  tag : v.tag.length = 32
def VoteM.cells (v : VoteM) : List Value := [.int .i64 v.kind, .int .i64 v.slot, .int .i64 v.view] ++ (zB v.sum ++ (.int .i64 v.frm :: zB v.tag))
def VoteM.val (v : VoteM) : Value := .agg v.cells.toArray
def VoteM.arr (v : VoteM) : Array Value := v.cells.toArray
theorem VoteM.length {v : VoteM} (h : v.Ok) : v.cells.length = 68 := by simp [VoteM.cells, h.sum, h.tag]
theorem VoteM.one {v : VoteM} : ∀ u ∈ v.cells, u.oneCell' = true := by
  intro u hu
  simp only [VoteM.cells, List.mem_append, List.mem_cons, List.not_mem_nil, or_false] at hu
  rcases hu with (rfl | rfl | rfl) | hu | rfl | hu
  · rfl
  · rfl
  · rfl
  · exact one_bytes _ u hu
  · rfl
  · exact one_bytes _ u hu
theorem info26 : (Try.prog.info? 26).map (·.size) = some 68 := by kernel_rfl
def z32 : List Int := List.replicate 32 0
def VoteM.nil : VoteM := ⟨0, 0, 0, z32, 0, z32⟩
theorem zero26 : (Try.prog.info? 26).map (fun i => i.zero.map Value.cells) = some (some VoteM.nil.arr) := by kernel_rfl
theorem ok_nil : VoteM.nil.Ok := ⟨by decide, by decide⟩
end Go.Proofs.Ytjhpemlgcjdpfaa
