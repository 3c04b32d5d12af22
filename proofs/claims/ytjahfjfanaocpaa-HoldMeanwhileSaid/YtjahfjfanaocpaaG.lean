/- walks: the reference's Set into nothing -/
import Derived.Test.YtjahfjfanaocpaaF
namespace Go.Proofs.Ytjahfjfanaocpaa
open Go.RowKit Plain

set_option maxRecDepth 100000 in
set_option maxHeartbeats 3200000 in
theorem set_empty (x : Nat) (k v : Int) (w : World) (h : RefAt w x [] []) :
    Calls Try.prog 19 #[.pointer (some ⟨x, 0, none⟩), .int .i64 k, .int .i64 v] w fun e w' => e = .returned (.tuple #[]) ∧ RefAt w' x (insZ [] 0 k) (insZ [] 0 v) ∧ Kept (fun b => b = x) w w' := by
  have hc := place_any x [] [] k w h
  obtain ⟨kv, vv, hb, hK, hV, hl⟩ := h
  have Hp : pos [] k = 0 := rfl
  have Hq : found [] k = false := by simp [found]
  rw [Hp, Hq] at hc
  clear Hp Hq
  obtain ⟨ka, kcap, rfl, kc, km⟩ := hK.shape
  obtain ⟨va, vcap, rfl, vc, vm⟩ := hV.shape
  unfold maxLen at km vm
  have lx : x < w.heap.size := (Array.getElem?_eq_some_iff.1 hb).1
  have c0 := cell_of_block hb 0
  have f0 := free_of_block hb 0
  simp at c0
  have hi4 : (0 : Int) ≤ (kcap : Int) := by omega
  have hi4' : (0 : Int) ≤ (vcap : Int) := by omega
  clear hl
  obtain ⟨i0, hi, hz0, hz1, hz2⟩ := info_parts info3
  go_enter Try.func19, Try.ntmps19
  go_wp2_with (go_at_call 28; refine hc.mono ?_; rintro e w' ⟨rfl, m, rfl⟩)
  go_cut [] from 31 to 51 (fun wr => Ins w x 0 [] 0 k (.slice va 0 vcap) wr)
  case first =>
    have hS : ∀ w', Below w.heap.size w w' → w'.cell? ⟨x, 0, none⟩ = some (.slice ka 0 kcap) := fun w' h => (h.cell (p := ⟨x, 0, none⟩) lx).trans c0
    refine wp_region_tree 21 [0, 2, 3, 4, 5, 6, 7, 9, 12, 13, 14, 15, 16, 17] (.fork 1 (.fork 8 (.step 10 (.step 11 (.step 18 (.step 19 (.step 20 (.step 21 .done)))))) 10 (.step 8 (.step 11 (.step 18 (.step 19 (.step 20 (.step 21 .done))))))) 10 (.step 1 (.step 8 (.step 11 (.step 18 (.step 19 (.step 20 (.step 21 .done)))))))) (fun w' => Below w.heap.size w w') (by kernel_rfl) (by kernel_rfl) (fun _ d _ _ _ h => by cases d <;> exact h) ?_ ?_
    · exact ⟨rfl, rfl, rfl, Nat.le_refl _, fun _ _ => rfl⟩
    repeat
      refine wpReads_take (v := ?_) rfl (by rfl) ?_ ?_
      rotate_left
      · intro w' hS'
        go_simp
        try with_reducible rfl
      simp only [Act.put, List.setIfInBounds_toArray, List.set_cons_zero, List.set_cons_succ]
    refine wpReads_nil ?_
    have hT : RowAt w 3 (.slice ka 0 kcap) 0 ((zI []).take 0) := hK
    have hD : RowAt w 3 (.slice ka 0 kcap) (0 - 0) ((zI []).drop 0) := hK
    refine wpTree_fork ?_ ?_
    · refine wpTree_run (v := ?_) (w' := ?_) rfl (by rfl) ?_ (.inr ?_) ?_
      rotate_left 2
      · go_simp
        refine ⟨?_, ?_⟩ <;> with_reducible rfl
      · exact (bel_drewN _ _ _).alloc (Nat.le_refl _) _
      simp only [Act.put, List.setIfInBounds_toArray, List.set_cons_zero, List.set_cons_succ]
      have hBa : Below w.heap.size w ((w.drewN (m + 1)).alloc (.cells #[] 3)) := (bel_drewN _ _ _).alloc (Nat.le_refl _) _
      have hoa : ((w.drewN (m + 1)).alloc (.cells #[] 3)).ownsRow w.heap.size 3 1 (.slice (some ⟨w.heap.size, 0, none⟩) 0 0) 0 [] := World.ownsRow_made _ #[] 0 (Nat.le_refl _) (by decide) rfl
      refine wpTree_fork ?_ ?_
      · refine wpTree_step rfl (fun KK hKK => ?_)
        refine step_append_rowAt _ rfl (.tmp 32) (.tmp 38) 26 rfl w.heap.size 3 i0 (.int .i64 0) 1 8 Try.underlying26 hi hz0 hz1 hz2 rfl (by decide) _ 0 [] rfl hoa 3  _ 0 ((zI []).take 0) rfl (hT.below hBa (Nat.le_refl _)) (by simp; try omega) (one_ints _ _ fun u hu => List.mem_of_mem_take hu) (by unfold maxLen; omega) (by omega) hBa.size ?_
        intro a1 p1 w1 ho1 hg1 hat1
        have hB1 := hBa.grown hg1 hBa.size (fun j hj => (hoa.lt j hj).1)
        refine hKK.out _ _ (.inr hB1) ?_
        clear hKK KK
        simp only [Act.put, List.setIfInBounds_toArray, List.set_cons_zero, List.set_cons_succ]
        refine wpTree_run (v := ?_) (w' := ?_) rfl (by rfl) ?_ (.inr ?_) ?_
        rotate_left 2
        · go_simp
          refine ⟨?_, ?_⟩ <;> with_reducible rfl
        · exact hB1.alloc hB1.size _
        simp only [Act.put, List.setIfInBounds_toArray, List.set_cons_zero, List.set_cons_succ]
        refine wpTree_step rfl (fun KK hKK => ?_)
        refine step_append_rowAt _ rfl (.tmp 39) (.tmp 41) 26 rfl w.heap.size 3 i0 (.int .i64 0) 1 8 Try.underlying26 hi hz0 hz1 hz2 rfl (by decide) _ (0 + 0) ([] ++ (zI []).take 0) rfl (ho1.alloc (.cells #[.int .i64 k] 3)) 3 _ 1 [Value.int .i64 k] rfl (row_new _ _ _ _ rfl) (by simp; try omega) (by simp [Value.oneCell']) (by unfold maxLen; omega) (by omega) (hB1.alloc hB1.size (.cells #[.int .i64 k] 3)).size ?_
        intro a2 p2 w2 ho2 hg2 hat2
        have hB2 := (hB1.alloc hB1.size (.cells #[.int .i64 k] 3)).grown hg2 (hB1.alloc hB1.size (.cells #[.int .i64 k] 3)).size (fun j hj => ((ho1.alloc (.cells #[.int .i64 k] 3)).lt j hj).1)
        refine hKK.out _ _ (.inr hB2) ?_
        clear hKK KK
        simp only [Act.put, List.setIfInBounds_toArray, List.set_cons_zero, List.set_cons_succ]
        refine wpTree_step rfl (fun KK hKK => ?_)
        refine step_append_rowAt _ rfl (.tmp 42) (.tmp 48) 26 rfl w.heap.size 3 i0 (.int .i64 0) 1 8 Try.underlying26 hi hz0 hz1 hz2 rfl (by decide) _ (0 + 0 + 1) ([] ++ (zI []).take 0 ++ [Value.int .i64 k]) rfl ho2 3 _ (0 - 0) ((zI []).drop 0) rfl (hD.below hB2 (Nat.le_refl _)) (by simp; try omega) (one_ints _ _ fun u hu => List.mem_of_mem_drop hu) (by unfold maxLen; omega) (by omega) hB2.size ?_
        intro a3 p3 w3 ho3 hg3 hat3
        have hB3 := hB2.grown hg3 hB2.size (fun j hj => (ho2.lt j hj).1)
        refine hKK.out _ _ (.inr hB3) ?_
        clear hKK KK
        simp only [Act.put, List.setIfInBounds_toArray, List.set_cons_zero, List.set_cons_succ]
        refine wpTree_still (v := ?_) rfl (by rfl) (by assumption) ?_ ?_
        rotate_left
        · go_simp
          try with_reducible rfl
        simp only [Act.put, List.setIfInBounds_toArray, List.set_cons_zero, List.set_cons_succ]
        refine wpTree_still (v := ?_) rfl (by rfl) (by assumption) ?_ ?_
        rotate_left
        · go_simp
          try with_reducible rfl
        simp only [Act.put, List.setIfInBounds_toArray, List.set_cons_zero, List.set_cons_succ]
        simp only [Nat.zero_add, Nat.sub_self, Nat.add_zero] at ho3
        have cs : w3.cell? ⟨x, 0, none⟩ = some (.slice ka 0 kcap) := (hB3.cell (p := ⟨x, 0, none⟩) lx).trans c0
        have fs : w3.frozen? ⟨x, 0, none⟩ = false := (hB3.frozen (p := ⟨x, 0, none⟩) lx).trans f0
        refine wpTree_step rfl (fun KK hKK => ?_)
        go_simp
        refine hKK.out _ _ (.inl (Nat.le_refl _)) ?_
        clear hKK KK
        refine wpTree_done ?_
        go_wp2_with fail
        go_meet
        exact ⟨_, ins_done (n := 1) hb hB3 rfl ho3 rfl (zI_ins [] 0 k)⟩
      · refine wpTree_run (v := ?_) (w' := ?_) rfl (by rfl) ?_ (.inr ?_) ?_
        rotate_left 2
        · go_simp
          refine ⟨?_, ?_⟩ <;> with_reducible rfl
        · exact hBa.alloc (by simp) _
        simp only [Act.put, List.setIfInBounds_toArray, List.set_cons_zero, List.set_cons_succ]
        have hBb := hBa.alloc (by simp) (.cells #[.int .i64 k] 3)
        have hob := hoa.alloc (.cells #[.int .i64 k] 3)
        have hrb := row_new ((w.drewN (m + 1)).alloc (.cells #[] 3)) 3 (.int .i64 k) (w.heap.size + 1) (by simp)
        refine wpTree_step rfl (fun KK hKK => ?_)
        refine step_append_rowAt _ rfl (.tmp 32) (.tmp 38) 26 rfl w.heap.size 3 i0 (.int .i64 0) 1 8 Try.underlying26 hi hz0 hz1 hz2 rfl (by decide) _ 0 [] rfl hob 3  _ 0 ((zI []).take 0) rfl (hT.below hBb (Nat.le_refl _)) (by simp; try omega) (one_ints _ _ fun u hu => List.mem_of_mem_take hu) (by unfold maxLen; omega) (by omega) hBb.size ?_
        intro a1 p1 w1 ho1 hg1 hat1
        have hB1 := hBb.grown hg1 hBb.size (fun j hj => (hob.lt j hj).1)
        refine hKK.out _ _ (.inr hB1) ?_
        clear hKK KK
        simp only [Act.put, List.setIfInBounds_toArray, List.set_cons_zero, List.set_cons_succ]
        refine wpTree_step rfl (fun KK hKK => ?_)
        refine step_append_rowAt _ rfl (.tmp 39) (.tmp 41) 26 rfl w.heap.size 3 i0 (.int .i64 0) 1 8 Try.underlying26 hi hz0 hz1 hz2 rfl (by decide) _ (0 + 0) ([] ++ (zI []).take 0) rfl ho1 3 _ 1 [Value.int .i64 k] rfl (hrb.off hg1 (by simp) (fun e => Nat.succ_ne_self _ (Option.some.inj (e : some (w.heap.size + 1) = some w.heap.size)))) (by simp; try omega) (by simp [Value.oneCell']) (by unfold maxLen; omega) (by omega) hB1.size ?_
        intro a2 p2 w2 ho2 hg2 hat2
        have hB2 := hB1.grown hg2 hB1.size (fun j hj => (ho1.lt j hj).1)
        refine hKK.out _ _ (.inr hB2) ?_
        clear hKK KK
        simp only [Act.put, List.setIfInBounds_toArray, List.set_cons_zero, List.set_cons_succ]
        refine wpTree_step rfl (fun KK hKK => ?_)
        refine step_append_rowAt _ rfl (.tmp 42) (.tmp 48) 26 rfl w.heap.size 3 i0 (.int .i64 0) 1 8 Try.underlying26 hi hz0 hz1 hz2 rfl (by decide) _ (0 + 0 + 1) ([] ++ (zI []).take 0 ++ [Value.int .i64 k]) rfl ho2 3 _ (0 - 0) ((zI []).drop 0) rfl (hD.below hB2 (Nat.le_refl _)) (by simp; try omega) (one_ints _ _ fun u hu => List.mem_of_mem_drop hu) (by unfold maxLen; omega) (by omega) hB2.size ?_
        intro a3 p3 w3 ho3 hg3 hat3
        have hB3 := hB2.grown hg3 hB2.size (fun j hj => (ho2.lt j hj).1)
        refine hKK.out _ _ (.inr hB3) ?_
        clear hKK KK
        simp only [Act.put, List.setIfInBounds_toArray, List.set_cons_zero, List.set_cons_succ]
        refine wpTree_still (v := ?_) rfl (by rfl) (by assumption) ?_ ?_
        rotate_left
        · go_simp
          try with_reducible rfl
        simp only [Act.put, List.setIfInBounds_toArray, List.set_cons_zero, List.set_cons_succ]
        refine wpTree_still (v := ?_) rfl (by rfl) (by assumption) ?_ ?_
        rotate_left
        · go_simp
          try with_reducible rfl
        simp only [Act.put, List.setIfInBounds_toArray, List.set_cons_zero, List.set_cons_succ]
        simp only [Nat.zero_add, Nat.sub_self, Nat.add_zero] at ho3
        have cs : w3.cell? ⟨x, 0, none⟩ = some (.slice ka 0 kcap) := (hB3.cell (p := ⟨x, 0, none⟩) lx).trans c0
        have fs : w3.frozen? ⟨x, 0, none⟩ = false := (hB3.frozen (p := ⟨x, 0, none⟩) lx).trans f0
        refine wpTree_step rfl (fun KK hKK => ?_)
        go_simp
        refine hKK.out _ _ (.inl (Nat.le_refl _)) ?_
        clear hKK KK
        refine wpTree_done ?_
        go_wp2_with fail
        go_meet
        exact ⟨_, ins_done (n := 1) hb hB3 rfl ho3 rfl (zI_ins [] 0 k)⟩
    · refine wpTree_run (v := ?_) (w' := ?_) rfl (by rfl) ?_ (.inr ?_) ?_
      rotate_left 2
      · go_simp
        refine ⟨?_, ?_⟩ <;> with_reducible rfl
      · exact (bel_drewN _ _ _).alloc (Nat.le_refl _) _
      simp only [Act.put, List.setIfInBounds_toArray, List.set_cons_zero, List.set_cons_succ]
      refine wpTree_run (v := ?_) (w' := ?_) rfl (by rfl) ?_ (.inr ?_) ?_
      rotate_left 2
      · go_simp
        refine ⟨?_, ?_⟩ <;> with_reducible rfl
      · exact ((bel_drewN _ _ _).alloc (Nat.le_refl _) _).alloc (by simp) _
      simp only [Act.put, List.setIfInBounds_toArray, List.set_cons_zero, List.set_cons_succ]
      have hBc : Below w.heap.size w (((w.drewN (m + 1)).alloc (.cells #[.int .i64 k] 3)).alloc (.cells #[] 3)) := ((bel_drewN w.heap.size w _).alloc (Nat.le_refl _) (.cells #[.int .i64 k] 3)).alloc (by simp) (.cells #[] 3)
      have hoc := own_new ((w.drewN (m + 1)).alloc (.cells #[.int .i64 k] 3)) w.heap.size 3 (w.heap.size + 1) (by simp) (by omega)
      have hrc := (row_new (w.drewN (m + 1)) 3 (.int .i64 k) w.heap.size rfl).off (World.grownBy_alloc _ (.cells #[] 3) none) (by simp) (by simp)
      refine wpTree_step rfl (fun KK hKK => ?_)
      refine step_append_rowAt _ rfl (.tmp 32) (.tmp 38) 26 rfl w.heap.size 3 i0 (.int .i64 0) 1 8 Try.underlying26 hi hz0 hz1 hz2 rfl (by decide) _ 0 [] rfl hoc 3  _ 0 ((zI []).take 0) rfl (hT.below hBc (Nat.le_refl _)) (by simp; try omega) (one_ints _ _ fun u hu => List.mem_of_mem_take hu) (by unfold maxLen; omega) (by omega) hBc.size ?_
      intro a1 p1 w1 ho1 hg1 hat1
      have hB1 := hBc.grown hg1 hBc.size (fun j hj => (hoc.lt j hj).1)
      refine hKK.out _ _ (.inr hB1) ?_
      clear hKK KK
      simp only [Act.put, List.setIfInBounds_toArray, List.set_cons_zero, List.set_cons_succ]
      refine wpTree_step rfl (fun KK hKK => ?_)
      refine step_append_rowAt _ rfl (.tmp 39) (.tmp 41) 26 rfl w.heap.size 3 i0 (.int .i64 0) 1 8 Try.underlying26 hi hz0 hz1 hz2 rfl (by decide) _ (0 + 0) ([] ++ (zI []).take 0) rfl ho1 3 _ 1 [Value.int .i64 k] rfl (hrc.off hg1 (by simp; try omega) (fun e => Nat.succ_ne_self _ (Option.some.inj (e : some w.heap.size = some (w.heap.size + 1))).symm)) (by simp; try omega) (by simp [Value.oneCell']) (by unfold maxLen; omega) (by omega) hB1.size ?_
      intro a2 p2 w2 ho2 hg2 hat2
      have hB2 := hB1.grown hg2 hB1.size (fun j hj => (ho1.lt j hj).1)
      refine hKK.out _ _ (.inr hB2) ?_
      clear hKK KK
      simp only [Act.put, List.setIfInBounds_toArray, List.set_cons_zero, List.set_cons_succ]
      refine wpTree_step rfl (fun KK hKK => ?_)
      refine step_append_rowAt _ rfl (.tmp 42) (.tmp 48) 26 rfl w.heap.size 3 i0 (.int .i64 0) 1 8 Try.underlying26 hi hz0 hz1 hz2 rfl (by decide) _ (0 + 0 + 1) ([] ++ (zI []).take 0 ++ [Value.int .i64 k]) rfl ho2 3 _ (0 - 0) ((zI []).drop 0) rfl (hD.below hB2 (Nat.le_refl _)) (by simp; try omega) (one_ints _ _ fun u hu => List.mem_of_mem_drop hu) (by unfold maxLen; omega) (by omega) hB2.size ?_
      intro a3 p3 w3 ho3 hg3 hat3
      have hB3 := hB2.grown hg3 hB2.size (fun j hj => (ho2.lt j hj).1)
      refine hKK.out _ _ (.inr hB3) ?_
      clear hKK KK
      simp only [Act.put, List.setIfInBounds_toArray, List.set_cons_zero, List.set_cons_succ]
      refine wpTree_still (v := ?_) rfl (by rfl) (by assumption) ?_ ?_
      rotate_left
      · go_simp
        try with_reducible rfl
      simp only [Act.put, List.setIfInBounds_toArray, List.set_cons_zero, List.set_cons_succ]
      refine wpTree_still (v := ?_) rfl (by rfl) (by assumption) ?_ ?_
      rotate_left
      · go_simp
        try with_reducible rfl
      simp only [Act.put, List.setIfInBounds_toArray, List.set_cons_zero, List.set_cons_succ]
      simp only [Nat.zero_add, Nat.sub_self, Nat.add_zero] at ho3
      have cs : w3.cell? ⟨x, 0, none⟩ = some (.slice ka 0 kcap) := (hB3.cell (p := ⟨x, 0, none⟩) lx).trans c0
      have fs : w3.frozen? ⟨x, 0, none⟩ = false := (hB3.frozen (p := ⟨x, 0, none⟩) lx).trans f0
      refine wpTree_step rfl (fun KK hKK => ?_)
      go_simp
      refine hKK.out _ _ (.inl (Nat.le_refl _)) ?_
      clear hKK KK
      refine wpTree_done ?_
      go_wp2_with fail
      go_meet
      exact ⟨_, ins_done (n := 1) hb hB3 rfl ho3 rfl (zI_ins [] 0 k)⟩
  case rest =>
    obtain ⟨kv, hb1, hRK, hK1⟩ := hcut
    have hV1 := hV.keptBut hK1 hb (by decide)
    rename World => W
    clear c0 f0 hb hK hV
    replace hb1 : W.heap[x]? = some (.cells #[kv, .slice va 0 vcap] 28 (0, 0)) := hb1
    have c1 := cell_of_block hb1 1
    have f1 := free_of_block hb1 1
    have lx1 : x < W.heap.size := (Array.getElem?_eq_some_iff.1 hb1).1
    simp at c1
    go_wp2_with fail
    have hS : ∀ w', Below W.heap.size W w' → w'.cell? ⟨x, 1, none⟩ = some (.slice va 0 vcap) := fun w' h => (h.cell (p := ⟨x, 1, none⟩) lx1).trans c1
    refine wp_region_tree 21 [0, 2, 3, 4, 5, 6, 7, 9, 12, 13, 14, 15, 16, 17] (.fork 1 (.fork 8 (.step 10 (.step 11 (.step 18 (.step 19 (.step 20 (.step 21 .done)))))) 10 (.step 8 (.step 11 (.step 18 (.step 19 (.step 20 (.step 21 .done))))))) 10 (.step 1 (.step 8 (.step 11 (.step 18 (.step 19 (.step 20 (.step 21 .done)))))))) (fun w' => Below W.heap.size W w') (by kernel_rfl) (by kernel_rfl) (fun _ d _ _ _ h => by cases d <;> exact h) ?_ ?_
    · exact ⟨rfl, rfl, rfl, Nat.le_refl _, fun _ _ => rfl⟩
    repeat
      refine wpReads_take (v := ?_) rfl (by rfl) ?_ ?_
      rotate_left
      · intro w' hS'
        go_simp
        try with_reducible rfl
      simp only [Act.put, List.setIfInBounds_toArray, List.set_cons_zero, List.set_cons_succ]
    refine wpReads_nil ?_
    have hT : RowAt W 3 (.slice va 0 vcap) 0 ((zI []).take 0) := hV1
    have hD : RowAt W 3 (.slice va 0 vcap) (0 - 0) ((zI []).drop 0) := hV1
    refine wpTree_fork ?_ ?_
    · refine wpTree_run (v := ?_) (w' := ?_) rfl (by rfl) ?_ (.inr ?_) ?_
      rotate_left 2
      · go_simp
        refine ⟨?_, ?_⟩ <;> with_reducible rfl
      · exact (bel_drewN _ _ _).alloc (Nat.le_refl _) _
      simp only [Act.put, List.setIfInBounds_toArray, List.set_cons_zero, List.set_cons_succ]
      have hBa : Below W.heap.size W ((W.drewN 1).alloc (.cells #[] 3)) := (bel_drewN _ _ _).alloc (Nat.le_refl _) _
      have hoa : ((W.drewN 1).alloc (.cells #[] 3)).ownsRow W.heap.size 3 1 (.slice (some ⟨W.heap.size, 0, none⟩) 0 0) 0 [] := World.ownsRow_made _ #[] 0 (Nat.le_refl _) (by decide) rfl
      refine wpTree_fork ?_ ?_
      · refine wpTree_step rfl (fun KK hKK => ?_)
        refine step_append_rowAt _ rfl (.tmp 53) (.tmp 59) 26 rfl W.heap.size 3 i0 (.int .i64 0) 1 8 Try.underlying26 hi hz0 hz1 hz2 rfl (by decide) _ 0 [] rfl hoa 3  _ 0 ((zI []).take 0) rfl (hT.below hBa (Nat.le_refl _)) (by simp; try omega) (one_ints _ _ fun u hu => List.mem_of_mem_take hu) (by unfold maxLen; omega) (by omega) hBa.size ?_
        intro a1 p1 w1 ho1 hg1 hat1
        have hB1 := hBa.grown hg1 hBa.size (fun j hj => (hoa.lt j hj).1)
        refine hKK.out _ _ (.inr hB1) ?_
        clear hKK KK
        simp only [Act.put, List.setIfInBounds_toArray, List.set_cons_zero, List.set_cons_succ]
        refine wpTree_run (v := ?_) (w' := ?_) rfl (by rfl) ?_ (.inr ?_) ?_
        rotate_left 2
        · go_simp
          refine ⟨?_, ?_⟩ <;> with_reducible rfl
        · exact hB1.alloc hB1.size _
        simp only [Act.put, List.setIfInBounds_toArray, List.set_cons_zero, List.set_cons_succ]
        refine wpTree_step rfl (fun KK hKK => ?_)
        refine step_append_rowAt _ rfl (.tmp 60) (.tmp 62) 26 rfl W.heap.size 3 i0 (.int .i64 0) 1 8 Try.underlying26 hi hz0 hz1 hz2 rfl (by decide) _ (0 + 0) ([] ++ (zI []).take 0) rfl (ho1.alloc (.cells #[.int .i64 v] 3)) 3 _ 1 [Value.int .i64 v] rfl (row_new _ _ _ _ rfl) (by simp; try omega) (by simp [Value.oneCell']) (by unfold maxLen; omega) (by omega) (hB1.alloc hB1.size (.cells #[.int .i64 v] 3)).size ?_
        intro a2 p2 w2 ho2 hg2 hat2
        have hB2 := (hB1.alloc hB1.size (.cells #[.int .i64 v] 3)).grown hg2 (hB1.alloc hB1.size (.cells #[.int .i64 v] 3)).size (fun j hj => ((ho1.alloc (.cells #[.int .i64 v] 3)).lt j hj).1)
        refine hKK.out _ _ (.inr hB2) ?_
        clear hKK KK
        simp only [Act.put, List.setIfInBounds_toArray, List.set_cons_zero, List.set_cons_succ]
        refine wpTree_step rfl (fun KK hKK => ?_)
        refine step_append_rowAt _ rfl (.tmp 63) (.tmp 69) 26 rfl W.heap.size 3 i0 (.int .i64 0) 1 8 Try.underlying26 hi hz0 hz1 hz2 rfl (by decide) _ (0 + 0 + 1) ([] ++ (zI []).take 0 ++ [Value.int .i64 v]) rfl ho2 3 _ (0 - 0) ((zI []).drop 0) rfl (hD.below hB2 (Nat.le_refl _)) (by simp; try omega) (one_ints _ _ fun u hu => List.mem_of_mem_drop hu) (by unfold maxLen; omega) (by omega) hB2.size ?_
        intro a3 p3 w3 ho3 hg3 hat3
        have hB3 := hB2.grown hg3 hB2.size (fun j hj => (ho2.lt j hj).1)
        refine hKK.out _ _ (.inr hB3) ?_
        clear hKK KK
        simp only [Act.put, List.setIfInBounds_toArray, List.set_cons_zero, List.set_cons_succ]
        refine wpTree_still (v := ?_) rfl (by rfl) (by assumption) ?_ ?_
        rotate_left
        · go_simp
          try with_reducible rfl
        simp only [Act.put, List.setIfInBounds_toArray, List.set_cons_zero, List.set_cons_succ]
        refine wpTree_still (v := ?_) rfl (by rfl) (by assumption) ?_ ?_
        rotate_left
        · go_simp
          try with_reducible rfl
        simp only [Act.put, List.setIfInBounds_toArray, List.set_cons_zero, List.set_cons_succ]
        simp only [Nat.zero_add, Nat.sub_self, Nat.add_zero] at ho3
        have cs : w3.cell? ⟨x, 1, none⟩ = some (.slice va 0 vcap) := (hB3.cell (p := ⟨x, 1, none⟩) lx1).trans c1
        have fs : w3.frozen? ⟨x, 1, none⟩ = false := (hB3.frozen (p := ⟨x, 1, none⟩) lx1).trans f1
        refine wpTree_step rfl (fun KK hKK => ?_)
        go_simp
        refine hKK.out _ _ (.inl (Nat.le_refl _)) ?_
        clear hKK KK
        refine wpTree_done ?_
        go_end0
        exact ⟨rfl, set_fin (K := []) (V := []) hb1 hRK hK1 (Lib.hid rfl) (Lib.hid rfl) (ins_done (n := 1) hb1 hB3 rfl ho3 rfl (zI_ins [] 0 v)) (Nat.le_refl _) (Lib.hid rfl)⟩
      · refine wpTree_run (v := ?_) (w' := ?_) rfl (by rfl) ?_ (.inr ?_) ?_
        rotate_left 2
        · go_simp
          refine ⟨?_, ?_⟩ <;> with_reducible rfl
        · exact hBa.alloc (by simp) _
        simp only [Act.put, List.setIfInBounds_toArray, List.set_cons_zero, List.set_cons_succ]
        have hBb := hBa.alloc (by simp) (.cells #[.int .i64 v] 3)
        have hob := hoa.alloc (.cells #[.int .i64 v] 3)
        have hrb := row_new ((W.drewN 1).alloc (.cells #[] 3)) 3 (.int .i64 v) (W.heap.size + 1) (by simp)
        refine wpTree_step rfl (fun KK hKK => ?_)
        refine step_append_rowAt _ rfl (.tmp 53) (.tmp 59) 26 rfl W.heap.size 3 i0 (.int .i64 0) 1 8 Try.underlying26 hi hz0 hz1 hz2 rfl (by decide) _ 0 [] rfl hob 3  _ 0 ((zI []).take 0) rfl (hT.below hBb (Nat.le_refl _)) (by simp; try omega) (one_ints _ _ fun u hu => List.mem_of_mem_take hu) (by unfold maxLen; omega) (by omega) hBb.size ?_
        intro a1 p1 w1 ho1 hg1 hat1
        have hB1 := hBb.grown hg1 hBb.size (fun j hj => (hob.lt j hj).1)
        refine hKK.out _ _ (.inr hB1) ?_
        clear hKK KK
        simp only [Act.put, List.setIfInBounds_toArray, List.set_cons_zero, List.set_cons_succ]
        refine wpTree_step rfl (fun KK hKK => ?_)
        refine step_append_rowAt _ rfl (.tmp 60) (.tmp 62) 26 rfl W.heap.size 3 i0 (.int .i64 0) 1 8 Try.underlying26 hi hz0 hz1 hz2 rfl (by decide) _ (0 + 0) ([] ++ (zI []).take 0) rfl ho1 3 _ 1 [Value.int .i64 v] rfl (hrb.off hg1 (by simp) (fun e => Nat.succ_ne_self _ (Option.some.inj (e : some (W.heap.size + 1) = some W.heap.size)))) (by simp; try omega) (by simp [Value.oneCell']) (by unfold maxLen; omega) (by omega) hB1.size ?_
        intro a2 p2 w2 ho2 hg2 hat2
        have hB2 := hB1.grown hg2 hB1.size (fun j hj => (ho1.lt j hj).1)
        refine hKK.out _ _ (.inr hB2) ?_
        clear hKK KK
        simp only [Act.put, List.setIfInBounds_toArray, List.set_cons_zero, List.set_cons_succ]
        refine wpTree_step rfl (fun KK hKK => ?_)
        refine step_append_rowAt _ rfl (.tmp 63) (.tmp 69) 26 rfl W.heap.size 3 i0 (.int .i64 0) 1 8 Try.underlying26 hi hz0 hz1 hz2 rfl (by decide) _ (0 + 0 + 1) ([] ++ (zI []).take 0 ++ [Value.int .i64 v]) rfl ho2 3 _ (0 - 0) ((zI []).drop 0) rfl (hD.below hB2 (Nat.le_refl _)) (by simp; try omega) (one_ints _ _ fun u hu => List.mem_of_mem_drop hu) (by unfold maxLen; omega) (by omega) hB2.size ?_
        intro a3 p3 w3 ho3 hg3 hat3
        have hB3 := hB2.grown hg3 hB2.size (fun j hj => (ho2.lt j hj).1)
        refine hKK.out _ _ (.inr hB3) ?_
        clear hKK KK
        simp only [Act.put, List.setIfInBounds_toArray, List.set_cons_zero, List.set_cons_succ]
        refine wpTree_still (v := ?_) rfl (by rfl) (by assumption) ?_ ?_
        rotate_left
        · go_simp
          try with_reducible rfl
        simp only [Act.put, List.setIfInBounds_toArray, List.set_cons_zero, List.set_cons_succ]
        refine wpTree_still (v := ?_) rfl (by rfl) (by assumption) ?_ ?_
        rotate_left
        · go_simp
          try with_reducible rfl
        simp only [Act.put, List.setIfInBounds_toArray, List.set_cons_zero, List.set_cons_succ]
        simp only [Nat.zero_add, Nat.sub_self, Nat.add_zero] at ho3
        have cs : w3.cell? ⟨x, 1, none⟩ = some (.slice va 0 vcap) := (hB3.cell (p := ⟨x, 1, none⟩) lx1).trans c1
        have fs : w3.frozen? ⟨x, 1, none⟩ = false := (hB3.frozen (p := ⟨x, 1, none⟩) lx1).trans f1
        refine wpTree_step rfl (fun KK hKK => ?_)
        go_simp
        refine hKK.out _ _ (.inl (Nat.le_refl _)) ?_
        clear hKK KK
        refine wpTree_done ?_
        go_end0
        exact ⟨rfl, set_fin (K := []) (V := []) hb1 hRK hK1 (Lib.hid rfl) (Lib.hid rfl) (ins_done (n := 1) hb1 hB3 rfl ho3 rfl (zI_ins [] 0 v)) (Nat.le_refl _) (Lib.hid rfl)⟩
    · refine wpTree_run (v := ?_) (w' := ?_) rfl (by rfl) ?_ (.inr ?_) ?_
      rotate_left 2
      · go_simp
        refine ⟨?_, ?_⟩ <;> with_reducible rfl
      · exact (bel_drewN _ _ _).alloc (Nat.le_refl _) _
      simp only [Act.put, List.setIfInBounds_toArray, List.set_cons_zero, List.set_cons_succ]
      refine wpTree_run (v := ?_) (w' := ?_) rfl (by rfl) ?_ (.inr ?_) ?_
      rotate_left 2
      · go_simp
        refine ⟨?_, ?_⟩ <;> with_reducible rfl
      · exact ((bel_drewN _ _ _).alloc (Nat.le_refl _) _).alloc (by simp) _
      simp only [Act.put, List.setIfInBounds_toArray, List.set_cons_zero, List.set_cons_succ]
      have hBc : Below W.heap.size W (((W.drewN 1).alloc (.cells #[.int .i64 v] 3)).alloc (.cells #[] 3)) := ((bel_drewN W.heap.size W _).alloc (Nat.le_refl _) (.cells #[.int .i64 v] 3)).alloc (by simp) (.cells #[] 3)
      have hoc := own_new ((W.drewN 1).alloc (.cells #[.int .i64 v] 3)) W.heap.size 3 (W.heap.size + 1) (by simp) (by omega)
      have hrc := (row_new (W.drewN 1) 3 (.int .i64 v) W.heap.size rfl).off (World.grownBy_alloc _ (.cells #[] 3) none) (by simp) (by simp)
      refine wpTree_step rfl (fun KK hKK => ?_)
      refine step_append_rowAt _ rfl (.tmp 53) (.tmp 59) 26 rfl W.heap.size 3 i0 (.int .i64 0) 1 8 Try.underlying26 hi hz0 hz1 hz2 rfl (by decide) _ 0 [] rfl hoc 3  _ 0 ((zI []).take 0) rfl (hT.below hBc (Nat.le_refl _)) (by simp; try omega) (one_ints _ _ fun u hu => List.mem_of_mem_take hu) (by unfold maxLen; omega) (by omega) hBc.size ?_
      intro a1 p1 w1 ho1 hg1 hat1
      have hB1 := hBc.grown hg1 hBc.size (fun j hj => (hoc.lt j hj).1)
      refine hKK.out _ _ (.inr hB1) ?_
      clear hKK KK
      simp only [Act.put, List.setIfInBounds_toArray, List.set_cons_zero, List.set_cons_succ]
      refine wpTree_step rfl (fun KK hKK => ?_)
      refine step_append_rowAt _ rfl (.tmp 60) (.tmp 62) 26 rfl W.heap.size 3 i0 (.int .i64 0) 1 8 Try.underlying26 hi hz0 hz1 hz2 rfl (by decide) _ (0 + 0) ([] ++ (zI []).take 0) rfl ho1 3 _ 1 [Value.int .i64 v] rfl (hrc.off hg1 (by simp; try omega) (fun e => Nat.succ_ne_self _ (Option.some.inj (e : some W.heap.size = some (W.heap.size + 1))).symm)) (by simp; try omega) (by simp [Value.oneCell']) (by unfold maxLen; omega) (by omega) hB1.size ?_
      intro a2 p2 w2 ho2 hg2 hat2
      have hB2 := hB1.grown hg2 hB1.size (fun j hj => (ho1.lt j hj).1)
      refine hKK.out _ _ (.inr hB2) ?_
      clear hKK KK
      simp only [Act.put, List.setIfInBounds_toArray, List.set_cons_zero, List.set_cons_succ]
      refine wpTree_step rfl (fun KK hKK => ?_)
      refine step_append_rowAt _ rfl (.tmp 63) (.tmp 69) 26 rfl W.heap.size 3 i0 (.int .i64 0) 1 8 Try.underlying26 hi hz0 hz1 hz2 rfl (by decide) _ (0 + 0 + 1) ([] ++ (zI []).take 0 ++ [Value.int .i64 v]) rfl ho2 3 _ (0 - 0) ((zI []).drop 0) rfl (hD.below hB2 (Nat.le_refl _)) (by simp; try omega) (one_ints _ _ fun u hu => List.mem_of_mem_drop hu) (by unfold maxLen; omega) (by omega) hB2.size ?_
      intro a3 p3 w3 ho3 hg3 hat3
      have hB3 := hB2.grown hg3 hB2.size (fun j hj => (ho2.lt j hj).1)
      refine hKK.out _ _ (.inr hB3) ?_
      clear hKK KK
      simp only [Act.put, List.setIfInBounds_toArray, List.set_cons_zero, List.set_cons_succ]
      refine wpTree_still (v := ?_) rfl (by rfl) (by assumption) ?_ ?_
      rotate_left
      · go_simp
        try with_reducible rfl
      simp only [Act.put, List.setIfInBounds_toArray, List.set_cons_zero, List.set_cons_succ]
      refine wpTree_still (v := ?_) rfl (by rfl) (by assumption) ?_ ?_
      rotate_left
      · go_simp
        try with_reducible rfl
      simp only [Act.put, List.setIfInBounds_toArray, List.set_cons_zero, List.set_cons_succ]
      simp only [Nat.zero_add, Nat.sub_self, Nat.add_zero] at ho3
      have cs : w3.cell? ⟨x, 1, none⟩ = some (.slice va 0 vcap) := (hB3.cell (p := ⟨x, 1, none⟩) lx1).trans c1
      have fs : w3.frozen? ⟨x, 1, none⟩ = false := (hB3.frozen (p := ⟨x, 1, none⟩) lx1).trans f1
      refine wpTree_step rfl (fun KK hKK => ?_)
      go_simp
      refine hKK.out _ _ (.inl (Nat.le_refl _)) ?_
      clear hKK KK
      refine wpTree_done ?_
      go_end0
      exact ⟨rfl, set_fin (K := []) (V := []) hb1 hRK hK1 (Lib.hid rfl) (Lib.hid rfl) (ins_done (n := 1) hb1 hB3 rfl ho3 rfl (zI_ins [] 0 v)) (Nat.le_refl _) (Lib.hid rfl)⟩

/-- Set, in one word -/
def setK (K : List Int) (k : Int) : List Int := if found K k then K else insZ K (pos K k) k
def setV (K V : List Int) (k v : Int) : List Int := if found K k then V.set (pos K k) v else insZ V (pos K k) v

theorem set_ref (x : Nat) (K V : List Int) (k v : Int) (w : World) (h : RefAt w x K V) (hlen : (K.length + 1) * 8 ≤ 140737488355328) :
    Calls Try.prog 19 #[.pointer (some ⟨x, 0, none⟩), .int .i64 k, .int .i64 v] w fun e w' => e = .returned (.tuple #[]) ∧ RefAt w' x (setK K k) (setV K V k v) ∧ Kept (fun b => b = x) w w' := by
  unfold setK setV
  cases hf : found K k
  · by_cases h0 : K.length = 0
    · obtain rfl : K = [] := List.length_eq_zero_iff.1 h0
      have hV : V = [] := by
        obtain ⟨_, _, _, _, _, hl⟩ := h
        exact List.length_eq_zero_iff.1 hl.symm
      subst hV
      exact set_empty x k v w h
    · exact set_new x K V k v w h hf (by omega) hlen
  · exact set_found x K V k v w h hf (by omega)

def delK (K : List Int) (k : Int) : List Int := if found K k then K.take (pos K k) ++ K.drop (pos K k + 1) else K
def delV (K V : List Int) (k : Int) : List Int := if found K k then V.take (pos K k) ++ V.drop (pos K k + 1) else V

theorem RefAt.drewN {w : World} {x : Nat} {K V : List Int} (h : RefAt w x K V) (m : Nat) : RefAt (w.drewN m) x K V := h

theorem del_ref (x : Nat) (K V : List Int) (k : Int) (w : World) (h : RefAt w x K V) (hlen : K.length * 8 ≤ 140737488355328) :
    Calls Try.prog 20 #[.pointer (some ⟨x, 0, none⟩), .int .i64 k] w fun e w' => e = .returned (.bool (found K k)) ∧ RefAt w' x (delK K k) (delV K V k) ∧ Kept (fun b => b = x) w w' := by
  unfold delK delV
  cases hf : found K k
  · refine (del_not x K V k w h hf).mono ?_
    rintro e w' ⟨rfl, m, rfl⟩
    exact ⟨rfl, h, (Kept.refl _ _).drewN m⟩
  · exact del_found x K V k w h hf hlen

end Go.Proofs.Ytjahfjfanaocpaa
