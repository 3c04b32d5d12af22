/- walks: the reference's Set -/
import Derived.Test.YtjahfjfanaocpaaD
import Derived.Deep.CutRange
namespace Go.Proofs.Ytjahfjfanaocpaa
open Go.RowKit Plain

set_option maxRecDepth 100000 in
set_option maxHeartbeats 1600000 in
theorem set_found (x : Nat) (K V : List Int) (k v : Int) (w : World) (h : RefAt w x K V) (hf : found K k = true) (hlen : K.length * 8 ≤ 140737488355328) :
    Calls Try.prog 19 #[.pointer (some ⟨x, 0, none⟩), .int .i64 k, .int .i64 v] w fun e w' => e = .returned (.tuple #[]) ∧ RefAt w' x K (V.set (pos K k) v) ∧ Kept (fun b => b = x) w w' := by
  have hc := place_any x K V k w h
  obtain ⟨kv, vv, hb, hK, hV, hl⟩ := h
  have hlt : pos K k < K.length := by rw [found_eq] at hf; simp at hf; omega
  simp only [hf] at hc
  have Hf := Lib.hid hf
  clear hf
  obtain ⟨vb, vo, vcap, rfl, vc, vm, _⟩ := hV.cell (by omega)
  unfold maxLen at vm
  have c1 := cell_of_block hb 1
  have f1 := free_of_block hb 1
  simp at c1
  generalize pos K k = i at *
  have hVn : V.length = V.length := rfl
  generalize hVn' : V.length = n' at *
  have hlt' : i < n' := by omega
  have hlen' : n' * 8 ≤ 140737488355328 := by omega
  have hi0 : (0 : Int) ≤ (i : Int) := by omega
  have hi1' : (i : Int) < (n' : Int) := by omega
  have Hl := Lib.hid hl
  have HVn := Lib.hid hVn'
  clear hl hVn hVn'
  have lx : x < w.heap.size := (Array.getElem?_eq_some_iff.1 hb).1
  obtain ⟨i0, hi, hz0, hz1, hz2⟩ := info_parts info3
  have hiV : i < V.length := by have := HVn.out; omega
  have hzv : Hid (([] ++ zI V)[i]? = some (.int .i64 (V[i]'hiV))) := by simp [hiV, Hid]
  have hca : ∀ m o, ((w.drewN m).alloc o).cell? ⟨x, 1, none⟩ = some (.slice (some ⟨vb, vo, none⟩) n' vcap) := fun m o => (((bel_drewN w.heap.size w m).alloc (Nat.le_refl _) o).cell (p := ⟨x, 1, none⟩) lx).trans c1
  go_enter Try.func19, Try.ntmps19
  go_wp2_with (first
    | (go_at_call 28; refine hc.mono ?_; rintro e w' ⟨rfl, m, rfl⟩)
    | (at_builtin; refine wpList_append_rowAt _ rfl (.tmp 16) (.tmp 20) 26 rfl w.heap.size 3 i0 (.int .i64 0) 1 8 Try.underlying26 hi hz0 hz1 hz2 rfl (by decide) _ 0 [] rfl (World.ownsRow_made _ #[] 0 (Nat.le_refl _) (by decide) rfl) 3 _ n' (zI V) rfl (hV.below ((bel_drewN w.heap.size w _).alloc (Nat.le_refl _) _) (Nat.le_refl _)) (by have := HVn.out; simp; omega) (one_ints _ V fun u hu => hu) (by unfold maxLen; omega) (by omega) (by simp) ?_; intro a1 p1 w1 ho1 hg1 hat1; have hB1 := ((bel_drewN w.heap.size w _).alloc (Nat.le_refl _) _).grown hg1 (by simp) (fun j hj => by cases hj; exact Nat.le_refl _); obtain ⟨g, cg, hv, hge, hlt2⟩ := ho1.form (by omega); simp only [Value.slice.injEq, true_and] at hv; obtain ⟨rfl, rfl⟩ := hv; have cs1 := (hB1.cell (p := ⟨x, 1, none⟩) lx).trans c1; have fs1 := (hB1.frozen (p := ⟨x, 1, none⟩) lx).trans f1; have hgx : g ≠ x := (by omega); have hgc := (ho1.cellAt i (by omega)).trans hzv.out; have hgf := ho1.frozenAt i))
  refine bodyPost_ret (results_none rfl _ _ _) rfl ?_
  have hb2 : w1.heap[x]? = _ := (hB1.block x lx).trans hb
  have hb3 := Ytjahfjfanaocpaa.heap_setCell_same hb2 (j := 1) (.slice (some ⟨g, 0, none⟩) n' p1)
  have hg3 : w1.grownBy (w1.setCell ⟨x, 1, none⟩ (.slice (some ⟨g, 0, none⟩) n' p1)) (some x) := ⟨rfl, rfl, rfl, by simp [World.setCell], fun k _ hk => Below.heap_setCell _ _ _ _ (fun e => hk (by rw [e]))⟩
  have ho2 := ho1.kept hg3 (.inr (by simp [Value.ownBlock, hgx]))
  have h4 := ho2.stored i (.int .i64 v)
  have hk2 : Kept (fun b => b = x) w ((w1.setCell ⟨x, 1, none⟩ (.slice (some ⟨g, 0, none⟩) n' p1)).setCell ⟨g, i, none⟩ (.int .i64 v)) :=
    (Kept.setCell (R := fun b => b = x) (Kept.of_below hB1) ⟨x, 1, none⟩ rfl _).setCell_new ⟨g, i, none⟩ hge _
  refine ⟨rfl, ⟨kv, .slice (some ⟨g, 0, none⟩) n' p1, ?_, ?_, ?_, ?_⟩, hk2⟩
  · rw [Below.heap_setCell _ _ _ _ (fun e => hgx e.symm)]
    exact hb3
  · exact hK.keptBut hk2 hb (by decide)
  · have h5 := RowAt.of_owns h4.1
    rw [Nat.zero_add] at h5
    rw [show (V.set i v).length = n' by simp; exact HVn.out, show zI (V.set i v) = (([] ++ zI V).set i (.int .i64 v)) by simp [List.map_set]]
    exact h5
  · have := Hl.out
    have := HVn.out
    simp
    omega

end Go.Proofs.Ytjahfjfanaocpaa
