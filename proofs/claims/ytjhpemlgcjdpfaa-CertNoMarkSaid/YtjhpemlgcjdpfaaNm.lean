/- CertNoMark: the walk -/
import Derived.Test.YtjhpemlgcjdpfaaAc
import Derived.Test.YtjhpemlgcjdpfaaEq
import Derived.Deep.CutRange
namespace Go.Proofs.Ytjhpemlgcjdpfaa
open Go.RowKit

theorem markB_eq (k p e t : Int) : markB k p e t = decide (1 ≤ k ∧ k ≤ 3 ∧ 0 ≤ p ∧ p < 8 ∧ 0 ≤ e ∧ e ≤ 100 ∧ 0 ≤ t ∧ t ≤ 100 ∧ (k ≠ 1 ∨ t = 0)) := by
  rw [Bool.eq_iff_iff]
  simp only [markB, prodB, inB, Bool.and_eq_true, Bool.or_eq_true, decide_eq_true_eq]
  omega
theorem markB_f {k p e t : Int} (h : ¬ (1 ≤ k ∧ k ≤ 3 ∧ 0 ≤ p ∧ p < 8 ∧ 0 ≤ e ∧ e ≤ 100 ∧ 0 ≤ t ∧ t ≤ 100 ∧ (k ≠ 1 ∨ t = 0))) : markB k p e t = false := by rw [markB_eq]; exact decide_eq_false h
theorem markB_t {k p e t : Int} (h : 1 ≤ k ∧ k ≤ 3 ∧ 0 ≤ p ∧ p < 8 ∧ 0 ≤ e ∧ e ≤ 100 ∧ 0 ≤ t ∧ t ≤ 100 ∧ (k ≠ 1 ∨ t = 0)) : markB k p e t = true := by rw [markB_eq]; exact decide_eq_true h

theorem guard26 : Try.prog.eqGuardType Try.prog.depth 26 = false := by kernel_rfl
theorem exec_eql26 {o : Oper} {a : Act} {w : World} {rt : TypeId} (x y : Operand) (ho : o.op = .binOp .eql 26 x y rt) (v u : VoteM) (hx : a.eval x = .agg v.arr) (hy : a.eval y = .agg u.arr) (hv : v.Ok) (hu : u.Ok) :
    (execOp a.eval o).run Try.prog w = .ok (.value (.bool (eqV v u))) w := by
  unfold execOp
  simp only [ho, hx, hy, Sem.run_bind, run_eqGuard_agg _ _ _ _ _ _ _ guard26, Result.andThen_ok, eql26 v u hv hu w, Sem.run_pure]
theorem wpList_eql26 {ops : Array Oper} {rest : List Oper} {o : Oper} {a : Act} {w : World} {Q : Exit → Act → World → Prop} (rt : TypeId) (x y : Operand) (ho : o.op = .binOp .eql 26 x y rt) (hw : Region.wanted o (yielded ops a.tmps) = true)
    (v u : VoteM) (hv : v.Ok) (hu : u.Ok) (hx : a.eval x = .agg v.arr) (hy : a.eval y = .agg u.arr) (R : Bool) (hR : eqV v u = R)
    (h : wpList Try.prog ops Q rest (a.put o.dst (.bool R)) w) : wpList Try.prog ops Q (o :: rest) a w :=
  wpList_yieldG hw (hR ▸ exec_eql26 x y ho v u hx hy hv hu) h
theorem built48 (a b c d : Int) (ad : Option Addr) (n m : Nat) : Try.prog.built 48 [(0, .agg #[.int .i64 a, .int .i64 b, .int .i64 c, .int .i64 d]), (1, .slice ad n m)] = some #[.int .i64 a, .int .i64 b, .int .i64 c, .int .i64 d, .slice ad n m] := by kernel_rfl

abbrev noMarkM (k p e t : Int) : Obj := .cells #[.int .i64 k, .int .i64 p, .int .i64 e, .int .i64 t] 46
set_option maxRecDepth 1000000 in
set_option maxHeartbeats 4000000 in
theorem noMark_walk (k p e t i : Int) (w : World) : Calls Try.prog 14 #[.agg #[.int .i64 k, .int .i64 p, .int .i64 e, .int .i64 t], .int .i64 i] w fun ee w' => ee = .returned (.bool true) ∧ Below w.heap.size w w' := by
  obtain ⟨i26, hi26, hz260, hz261, hz262⟩ := info_parts infoP26
  obtain ⟨bb, hbb⟩ : ∃ bb, bb = markB k p e t := ⟨_, rfl⟩
  have Hbb := Lib.hid hbb
  clear hbb
  go_enter Try.func14, Try.ntmps14
  go_upto_region 1 with fail
  go_cut [55] from 8 to 55 (fun s wx => s = .bool bb ∧ wx = w.alloc (noMarkM k p e t))
  case first =>
    refine Classical.byCases (p := 1 ≤ k) (fun c0 => ?_) (fun c0 => ?_)
    rotate_left
    · go_wp2
      go_meet
      exact ⟨by rw [Hbb.out, markB_f (by omega)], rfl⟩
    refine Classical.byCases (p := k ≤ 3) (fun c1 => ?_) (fun c1 => ?_)
    rotate_left
    · go_wp2
      go_meet
      exact ⟨by rw [Hbb.out, markB_f (by omega)], rfl⟩
    refine Classical.byCases (p := 0 ≤ p) (fun c2 => ?_) (fun c2 => ?_)
    rotate_left
    · go_wp2
      go_meet
      exact ⟨by rw [Hbb.out, markB_f (by omega)], rfl⟩
    refine Classical.byCases (p := p < 8) (fun c3 => ?_) (fun c3 => ?_)
    rotate_left
    · go_wp2
      go_meet
      exact ⟨by rw [Hbb.out, markB_f (by omega)], rfl⟩
    refine Classical.byCases (p := 0 ≤ e) (fun c4 => ?_) (fun c4 => ?_)
    rotate_left
    · go_wp2
      go_meet
      exact ⟨by rw [Hbb.out, markB_f (by omega)], rfl⟩
    refine Classical.byCases (p := e ≤ 100) (fun c5 => ?_) (fun c5 => ?_)
    rotate_left
    · go_wp2
      go_meet
      exact ⟨by rw [Hbb.out, markB_f (by omega)], rfl⟩
    refine Classical.byCases (p := 0 ≤ t) (fun c6 => ?_) (fun c6 => ?_)
    rotate_left
    · go_wp2
      go_meet
      exact ⟨by rw [Hbb.out, markB_f (by omega)], rfl⟩
    refine Classical.byCases (p := t ≤ 100) (fun c7 => ?_) (fun c7 => ?_)
    rotate_left
    · go_wp2
      go_meet
      exact ⟨by rw [Hbb.out, markB_f (by omega)], rfl⟩
    refine Classical.byCases (p := k = 1) (fun c8 => ?_) (fun c8 => ?_)
    · subst c8
      refine Classical.byCases (p := t = 0) (fun c9 => ?_) (fun c9 => ?_)
      · subst c9
        go_wp2
        go_meet
        exact ⟨by rw [Hbb.out, markB_t (by omega)], rfl⟩
      · go_wp2
        go_meet
        exact ⟨by rw [Hbb.out, markB_f (by omega), beq_eq_false_iff_ne.2 c9], rfl⟩
    · go_wp2
      go_meet
      exact ⟨by rw [Hbb.out, markB_t (by omega)], rfl⟩
  case rest =>
    obtain ⟨rfl, rfl⟩ := hcut
    cases bb
    · have hm : markB k p e t = false := Hbb.out.symm
      have Hm := Lib.hid hm
      clear hm Hbb
      obtain ⟨zv, hzv⟩ : ∃ zv, zv = VoteM.nil := ⟨_, rfl⟩
      have zok : zv.Ok := by rw [hzv]; exact ok_nil
      have hz26 : (Try.prog.info? 26).map (fun i => i.zero.map Value.cells) = some (some zv.arr) := by rw [hzv]; exact zero26
      have hb26 : Try.prog.built 26 [] = some zv.arr := by rw [hzv]; exact built26_nil
      have Hz26 := Lib.hid hz26
      have Hb26 := Lib.hid hb26
      have Hzv := Lib.hid hzv
      clear hz26 hb26 hzv
      have hx68 : (Try.prog.info? 26).map (·.size) = some zv.cells.length := by rw [info26, VoteM.length zok]
      have Hx68 := Lib.hid hx68
      have hx26 : (Try.prog.info? 26).map (·.size) = some zv.arr.size := by rw [info26]; simp [VoteM.arr, VoteM.length zok]
      have Hx26 := Lib.hid hx26
      have hx1 : zv.arr.all (·.oneCell') = true := all_oneCell_toArray VoteM.one
      have Hx1 := Lib.hid hx1
      clear hx68 hx26 hx1
      have hnn : Hid (nodesN 4 = 4) := rfl
      have hT : (w.alloc (noMarkM k p e t)).heap[w.heap.size]? = some (noMarkM k p e t) := World.alloc_heap_new w _
      have hA : Below w.heap.size w (w.alloc (noMarkM k p e t)) := (Below.refl _ _).alloc (Nat.le_refl _) _
      go_wp2_with (first
        | (refine wpList_buildG 24 [(0, .const (.int .u8 1))] (by with_reducible rfl) (by rfl) (zB s1).toArray ?_ ?_; exact built24_1)
        | (go_at_call 16; refine (new_any _ 4 s1 s1_len).mono ?_; rintro ee w1 ⟨rfl, hr1, hB1⟩; rw [hnn.out] at hr1; simp only [World.size_alloc] at hr1; have hT1 := (hB1.block w.heap.size (by simp)).trans hT; have d0 := cell_of_block hT1 0; have d1 := cell_of_block hT1 1; have d2 := cell_of_block hT1 2; have d3 := cell_of_block hT1 3)
        | (go_at_call 35; refine (markVoteBad_any _ _ k p e t i Hm.out).mono ?_; rintro ee w2 ⟨rfl, hB2⟩; rw [← Hzv.out]; clear d0 d1 d2 d3; have hr2 := hr1.below hB2; have hT2 := (hB2.block w.heap.size (Array.getElem?_eq_some_iff.1 hT1).1).trans hT1; have hn2 := World.alloc_heap_new w2 (.cells zv.arr 26); have hA2 : Below w2.heap.size w2 (w2.alloc (.cells zv.arr 26)) := (Below.refl _ _).alloc (Nat.le_refl _) _)
        | (refine wpList_allocT rfl 26 (by with_reducible rfl) zv.arr Hz26.out ?_; try simp only)
        | (refine wpList_store_any 26 (.tmp 6) (.tmp 66) (by with_reducible rfl) (by rfl) w2.heap.size zv.arr ?_ ?_ 26 zv.arr ?_ ?_ ?_ ?_ ?_; rfl; rfl; exact hn2; exact Hx26.out; rfl; exact Hx1.out; intro w3 hg3 hc3; have hB3 : Below w2.heap.size w2 w3 := hA2.grown hg3 (by simp) (fun j hj => by cases hj; exact Nat.le_refl _); have hr3 := hr2.below hB3; have hT3 := (hB3.block w.heap.size (Array.getElem?_eq_some_iff.1 hT2).1).trans hT2; have g0 := cell_of_block hT3 0; have g1 := cell_of_block hT3 1; have g2 := cell_of_block hT3 2; have g3 := cell_of_block hT3 3; have hn4 := World.alloc_heap_new w3 (.cells (votesC [zv, zv, zv]).toArray 26); have hA4 : Below w3.heap.size w3 (w3.alloc (.cells (votesC [zv, zv, zv]).toArray 26)) := (Below.refl _ _).alloc (Nat.le_refl _) _)
        | (refine wpList_loadG 26 (.tmp 6) (by with_reducible rfl) (by rfl) w2.heap.size 0 ?_ zv.cells _ ?_ Try.underlying26 rfl ?_ ?_; rfl; exact (range_of hc3 0 _ (fun j _ => by simp [VoteM.arr])); exact Hx68.out)
        | (refine wpList_buildG 26 [] (by with_reducible rfl) (by rfl) zv.arr Hb26.out ?_)
        | (refine wpList_eql26 26 (.tmp 71) (.tmp 72) (by with_reducible rfl) (by rfl) zv zv zok zok ?_ ?_ true ?_ ?_; rfl; rfl; exact eqV_refl _)
        | (refine wpList_buildSliceG 22 26 3 [(0, .tmp 78), (1, .tmp 79), (2, .tmp 80)] (by with_reducible rfl) (by rfl) (votesC [zv, zv, zv]).toArray i26 (.agg VoteM.nil.arr) 68 (votesC [VoteM.nil, VoteM.nil, VoteM.nil]).toArray Try.underlying22 hi26 hz260 hz261 (by decide) (by decide) zfillV3 ?_ ?_; exact fillV3 _ _ _ zok zok zok)
        | (refine wpList_buildG 48 [(0, .tmp 77), (1, .tmp 81)] (by with_reducible rfl) (by rfl) #[.int .i64 k, .int .i64 p, .int .i64 e, .int .i64 t, .slice (some ⟨w3.heap.size, 0, none⟩) 3 3] ?_ ?_; exact built48 _ _ _ _ _ _ _)
        | (go_at_call 37; refine (accepts_any _ (w.heap.size + 1 + 1) 4 (keyB s1) (hr3.below hA4) k p e t (some ⟨w3.heap.size, 0, none⟩) 3 26 [zv, zv, zv] (votesAt_new (m := 3) hn4 (by simpa using zok) rfl (by decide))).mono ?_; rintro ee w5 ⟨rfl, hB5⟩; rw [accB, Hm.out])
        | (go_at_call 27; refine (known_any _).mono ?_; rintro ee w6 ⟨rfl, hB6⟩))
      go_ret
      refine ⟨rfl, ?_⟩
      have z1 := hB1.size
      have z2 := hB2.size
      have z3 := hB3.size
      have z5 := hB5.size
      simp only [World.size_alloc] at z1 z2 z3 z5
      exact hA.trans ((hB1.mono (by simp)).trans ((hB2.mono (by omega)).trans ((hB3.mono (by omega)).trans ((hA4.mono (by omega)).trans ((hB5.mono (by simp; omega)).trans (hB6.mono (by omega)))))))
    · clear Hbb
      have hA : Below w.heap.size w (w.alloc (noMarkM k p e t)) := (Below.refl _ _).alloc (Nat.le_refl _) _
      go_wp2_with (go_at_call 27; refine (known_any _).mono ?_; rintro ee w5 ⟨rfl, hB5⟩)
      go_ret
      exact ⟨rfl, hA.trans (hB5.mono hA.size)⟩
end Go.Proofs.Ytjhpemlgcjdpfaa
