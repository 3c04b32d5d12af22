/- votes compared -/
import Derived.Test.YtjhpemlgcjdpfaaMk
namespace Go.Proofs.Ytjhpemlgcjdpfaa
open Go.RowKit

def eqV (v u : VoteM) : Bool := v.kind == u.kind && (v.slot == u.slot && (v.view == u.view && (decide (v.sum = u.sum) && (v.frm == u.frm && decide (v.tag = u.tag)))))
theorem eqV_iff (v u : VoteM) : eqV v u = true ↔ v = u := by
  obtain ⟨a, b, c, d, e, f⟩ := v
  obtain ⟨a', b', c', d', e', f'⟩ := u
  simp [eqV]
theorem eqV_refl (v : VoteM) : eqV v v = true := (eqV_iff v v).2 rfl

theorem eqFields_step {P : Program} {w : World} {d : Nat} {f : Field} {fs : List Field} {xs ys : Array Value} {a b : Value} {r : Bool} (hn : f.name ≠ "_") (pa : (part f.type xs f.offset).run P w = .ok a w)
    (pb : (part f.type ys f.offset).run P w = .ok b w) (hr : (Op.equalIn d f.type a b).run P w = .ok r w) (R : Bool) (h : r = true → (Op.eqFields d xs ys fs).run P w = .ok R w) :
    (Op.eqFields d xs ys (f :: fs)).run P w = .ok (r && R) w := by
  rw [Op.eqFields, if_pos hn]
  simp only [Sem.run_bind, pa, pb, hr, Result.andThen_ok]
  cases r
  · simp
  · simpa using h rfl

theorem sumPart {v : VoteM} (hv : v.Ok) : v.arr.extract 3 (3 + 32) = (zB v.sum).toArray := by
  unfold VoteM.arr VoteM.cells
  simp [hv.sum]
theorem tagPart {v : VoteM} (hv : v.Ok) : v.arr.extract 36 (36 + 32) = (zB v.tag).toArray := by
  unfold VoteM.arr VoteM.cells
  have h : (zB v.sum).length = 32 := by simp [hv.sum]
  have h2 : List.drop 33 (zB v.sum) = [] := List.drop_eq_nil_of_le (by omega)
  simp [List.drop_append, h, h2]
  exact List.take_of_length_le (by simp [hv.tag])
theorem info24s : (Try.prog.info? 24).map (·.size) = some 32 := by kernel_rfl

set_option maxRecDepth 100000 in
theorem eql26 (v u : VoteM) (hv : v.Ok) (hu : u.Ok) (w : World) : (binOp .eql 26 (.agg v.arr) (.agg u.arr)).run Try.prog w = .ok (.bool (eqV v u)) w := by
  have e : (Op.equalIn 10000 26 (.agg v.arr) (.agg u.arr)).run Try.prog w = .ok (eqV v u) w := by
    rw [show (10000 : Nat) = 9999 + 1 from rfl, run_equalIn_struct w 9999 26 _ _ (by rw [Program.fieldsOf, Try.underlying26]) (by kernel_rfl)]
    have hf : Try.prog.fieldsOf 26 = #[{ name := "Kind", type := 3, offset := 0, embedded := false, tag := "", pkgPath := "", byteOffset := 0 },
        { name := "Slot", type := 3, offset := 1, embedded := false, tag := "", pkgPath := "", byteOffset := 8 },
        { name := "View", type := 3, offset := 2, embedded := false, tag := "", pkgPath := "", byteOffset := 16 },
        { name := "Sum", type := 24, offset := 3, embedded := false, tag := "", pkgPath := "", byteOffset := 24 },
        { name := "From", type := 3, offset := 35, embedded := false, tag := "", pkgPath := "", byteOffset := 56 },
        { name := "Tag", type := 24, offset := 36, embedded := false, tag := "", pkgPath := "", byteOffset := 64 }] := by rw [Program.fieldsOf, Try.underlying26]
    rw [hf]
    unfold eqV
    have pi : ∀ (x : VoteM) (o : Nat) (c : Int), x.arr[o]? = some (.int .i64 c) → (part 3 x.arr o).run Try.prog w = .ok (.int .i64 c) w := fun x o c h => run_part_cell Try.underlying3 rfl x.arr o _ h w
    refine eqFields_step ?_ (pi v 0 _ v.at0) (pi u 0 _ u.at0) (run_equalIn_int w 9998 3 _ .i64 _ _ Try.underlying3) _ fun _ => ?_
    · decide
    refine eqFields_step ?_ (pi v 1 _ v.at1) (pi u 1 _ u.at1) (run_equalIn_int w 9998 3 _ .i64 _ _ Try.underlying3) _ fun _ => ?_
    · decide
    refine eqFields_step ?_ (pi v 2 _ v.at2) (pi u 2 _ u.at2) (run_equalIn_int w 9998 3 _ .i64 _ _ Try.underlying3) _ fun _ => ?_
    · decide
    refine eqFields_step ?_ (a := .agg (zB v.sum).toArray) (b := .agg (zB u.sum).toArray) ?_ ?_ (run_equalIn_bytes 9997 Try.underlying24 Try.underlying5 info5 w _ _ hv.sum hu.sum) _ fun _ => ?_
    · decide
    · rw [← sumPart hv]; exact run_part_agg Try.underlying24 rfl info24s v.arr 3 w
    · rw [← sumPart hu]; exact run_part_agg Try.underlying24 rfl info24s u.arr 3 w
    refine eqFields_step ?_ (pi v 35 _ (VoteM.at35 hv)) (pi u 35 _ (VoteM.at35 hu)) (run_equalIn_int w 9998 3 _ .i64 _ _ Try.underlying3) _ fun _ => ?_
    · decide
    have hl : (Op.eqFields 9999 v.arr u.arr [{ name := "Tag", type := 24, offset := 36, embedded := false, tag := "", pkgPath := "", byteOffset := 64 }]).run Try.prog w = .ok (decide (v.tag = u.tag) && true) w := by
      refine eqFields_step ?_ (a := .agg (zB v.tag).toArray) (b := .agg (zB u.tag).toArray) ?_ ?_ (run_equalIn_bytes 9997 Try.underlying24 Try.underlying5 info5 w _ _ hv.tag hu.tag) _ fun _ => ?_
      · decide
      · rw [← tagPart hv]; exact run_part_agg Try.underlying24 rfl info24s v.arr 36 w
      · rw [← tagPart hu]; exact run_part_agg Try.underlying24 rfl info24s u.arr 36 w
      rfl
    rw [Bool.and_true] at hl
    exact hl
  rw [run_eql_struct, e]
  rfl
end Go.Proofs.Ytjhpemlgcjdpfaa
