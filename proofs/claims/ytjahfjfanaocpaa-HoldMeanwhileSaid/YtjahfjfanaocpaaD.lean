/- walks: the reference's Set, Del -/
import Derived.Test.YtjahfjfanaocpaaC
import Derived.Test.YtjahfjfanaocpaaS
namespace Go.Proofs.Ytjahfjfanaocpaa
open Go.RowKit Plain

theorem info3 : (Try.prog.info? 3).map (fun i => (i.zero, i.size, i.bytes)) = some (some (.int .i64 0), 1, 8) := by kernel_rfl

theorem RowAt.take1 {w : World} {e : TypeId} {b off n cap : Nat} {xs : List Value} (h : RowAt w e (.slice (some ⟨b, off, none⟩) n cap) n xs) (hn : 0 < n) (i : Nat) (hi : i ≤ n) : RowAt w e (.slice (some ⟨b, off, none⟩) i cap) i (xs.take i) := by
  rcases h with ⟨rfl, _⟩ | ⟨b', off', cap', cur, fr, hv, h1, h2, h3, h4⟩
  · omega
  · cases hv
    refine .inr ⟨b, off, cap, cur, fr, rfl, by omega, h2, h3, fun j hj => ?_⟩
    have hj' : j < xs.length := by simp at hj; omega
    rw [List.getElem_take]
    exact h4 j hj'

theorem RowAt.drop1 {w : World} {e : TypeId} {b off n cap : Nat} {xs : List Value} (h : RowAt w e (.slice (some ⟨b, off, none⟩) n cap) n xs) (hn : 0 < n) (hx : xs.length = n) (i : Nat) (hi : i ≤ n) :
    RowAt w e (.slice (if cap = i then some ⟨b, off, none⟩ else some ⟨b, off + i, none⟩) (n - i) (cap - i)) (n - i) (xs.drop i) := by
  rcases h with ⟨rfl, _⟩ | ⟨b', off', cap', cur, fr, hv, h1, h2, h3, h4⟩
  · omega
  · cases hv
    by_cases hc : cap = i
    · refine .inl ⟨by omega, List.drop_eq_nil_of_le (by omega), _, _, by rw [show n - i = 0 by omega], by omega, fun h => ?_⟩
      rw [if_pos hc] at h; cases h
    · rw [if_neg hc]
      refine .inr ⟨b, off + i, cap - i, cur, fr, rfl, by omega, by omega, h3, fun j hj => ?_⟩
      have hj' : i + j < xs.length := by simp at hj; omega
      rw [List.getElem_drop, Nat.add_assoc]
      exact h4 (i + j) hj'

theorem RowAt.below {w w' : World} {e : TypeId} {v : Value} {n : Nat} {xs : List Value} {B : Nat} (h : RowAt w e v n xs) (hb : Below B w w') (hB : w.heap.size ≤ B) : RowAt w' e v n xs := by
  rcases h with h | ⟨b, off, cap, cur, fr, rfl, h1, h2, h3, h4⟩
  · exact .inl h
  · exact .inr ⟨b, off, cap, cur, fr, rfl, h1, h2, (hb.block b (Nat.lt_of_lt_of_le (Array.getElem?_eq_some_iff.1 h3).1 hB)).trans h3, h4⟩
theorem bel_drewN (B : Nat) (w : World) (n : Nat) : Below B w (w.drewN n) := ⟨rfl, rfl, rfl, Nat.le_refl _, fun _ _ => rfl⟩
theorem one_ints (l : List Value) (z : List Int) (h : ∀ u ∈ l, u ∈ zI z) : ∀ u ∈ l, u.oneCell' = true := fun u hu => by
  obtain ⟨x, _, rfl⟩ := List.mem_map.1 (h u hu)
  rfl
theorem RowAt.setCell_other {w : World} {e : TypeId} {v : Value} {n : Nat} {xs : List Value} (h : RowAt w e v n xs) {x j : Nat} {cs : Array Value} {t : TypeId} {fr : Nat × Nat} (hx : w.heap[x]? = some (.cells cs t fr)) (hne : t ≠ e) (u : Value) :
    RowAt (w.setCell ⟨x, j, none⟩ u) e v n xs := by
  rcases h with h | ⟨b, off, cap, cur, fr', rfl, h1, h2, h3, h4⟩
  · exact .inl h
  · refine .inr ⟨b, off, cap, cur, fr', rfl, h1, h2, ?_, h4⟩
    rw [Below.heap_setCell _ _ _ _ (fun e1 => ?_)]
    · exact h3
    · simp only at e1
      subst e1
      rw [hx] at h3
      simp at h3
      exact hne h3.2.1
theorem heap_setCell_same {w : World} {x j : Nat} {cs : Array Value} {t : TypeId} {fr : Nat × Nat} (h : w.heap[x]? = some (.cells cs t fr)) (v : Value) : (w.setCell ⟨x, j, none⟩ v).heap[x]? = some (.cells (cs.setIfInBounds j v) t fr) := by
  obtain ⟨hlt, hx⟩ := Array.getElem?_eq_some_iff.1 h
  show (w.heap.modify x _)[x]? = _
  rw [Array.getElem?_eq_getElem (by rw [Array.size_modify]; exact hlt), Array.getElem_modify_self, hx]
  rfl

set_option maxRecDepth 100000 in
set_option maxHeartbeats 1600000 in
theorem del_found (x : Nat) (K V : List Int) (k : Int) (w : World) (h : RefAt w x K V) (hf : found K k = true) (hlen : K.length * 8 ≤ 140737488355328) :
    Calls Try.prog 20 #[.pointer (some ⟨x, 0, none⟩), .int .i64 k] w fun e w' => e = .returned (.bool true) ∧ RefAt w' x (K.take (pos K k) ++ K.drop (pos K k + 1)) (V.take (pos K k) ++ V.drop (pos K k + 1)) ∧ Kept (fun b => b = x) w w' := by
  have hc := place_any x K V k w h
  obtain ⟨kv, vv, hb, hK, hV, hl⟩ := h
  have hlt : pos K k < K.length := by rw [found_eq] at hf; simp at hf; omega
  simp only [hf] at hc
  have Hf := Lib.hid hf
  clear hf
  obtain ⟨kb, ko, kcap, rfl, kc, km, _⟩ := hK.cell (by omega)
  obtain ⟨vb, vo, vcap, rfl, vc, vm, _⟩ := hV.cell (by omega)
  unfold maxLen at km vm
  have c0 := cell_of_block hb 0
  have c1 := cell_of_block hb 1
  have f0 := free_of_block hb 0
  have f1 := free_of_block hb 1
  simp at c0 c1
  generalize pos K k = i at *
  generalize hKn : K.length = n at *
  generalize hVn : V.length = n' at *
  have hi0 : (0 : Int) ≤ (i : Int) := by omega
  have hi1 : (i : Int) < (n : Int) := by omega
  have hi2 : (i : Int) + 1 ≤ (n : Int) := by omega
  have hi4 : (i : Int) ≤ (kcap : Int) := by omega
  have hi5 : (i : Int) + 1 ≤ (kcap : Int) := by omega
  have hlt' : i < n' := by omega
  have hlen' : n' * 8 ≤ 140737488355328 := by omega
  have hi1' : (i : Int) < (n' : Int) := by omega
  have hi2' : (i : Int) + 1 ≤ (n' : Int) := by omega
  have hi4' : (i : Int) ≤ (vcap : Int) := by omega
  have hi5' : (i : Int) + 1 ≤ (vcap : Int) := by omega
  have Hl := Lib.hid hl
  clear hl
  have hw : IntKind.i64.wrap ((i : Int) + 1) = (i : Int) + 1 := IntWalk.i64_in _ (by omega)
  have hi3 : (0 : Int) ≤ (i : Int) + 1 := by omega
  have ht : ((i : Int) + 1).toNat = i + 1 := by omega
  obtain ⟨i0, hi, hz0, hz1, hz2⟩ := info_parts info3
  go_enter Try.func20, Try.ntmps20
  go_wp2_with (go_at_call 28; refine hc.mono ?_; rintro e w' ⟨rfl, m, rfl⟩)
  have lx := (Array.getElem?_eq_some_iff.1 hb).1
  have hS0 : ∀ w', Below w.heap.size w w' → w'.cell? ⟨x, 0, none⟩ = some (.slice (some ⟨kb, ko, none⟩) n kcap) := fun w' h => (h.cell (p := ⟨x, 0, none⟩) lx).trans c0
  refine wp_region_plan 19 [0, 2, 3, 4, 5, 6, 7, 9, 10, 11, 12, 13, 14, 15] [1, 8, 16, 17, 18, 19] (fun w' => Below w.heap.size w w') (by kernel_rfl) (by kernel_rfl) (fun _ d _ _ _ h => by cases d <;> exact h) ?_ ?_
  · exact ⟨rfl, rfl, rfl, Nat.le_refl _, fun _ _ => rfl⟩
  repeat
    refine wpReads_take (v := ?_) rfl (by rfl) ?_ ?_
    rotate_left
    · intro w' hS'
      go_simp
      try with_reducible rfl
    simp only [Act.put, List.setIfInBounds_toArray, List.set_cons_zero, List.set_cons_succ]
  refine wpReads_nil ?_
  have hD0 := hK.drop1 (by omega) (by simp; omega) (i + 1) (by omega)
  generalize (if kcap = i + 1 then (some ⟨kb, ko, none⟩ : Option Addr) else some ⟨kb, ko + (i + 1), none⟩) = ad0 at hD0 ⊢
  refine wpRest_run (v := ?_) (w' := ?_) rfl (by rfl) ?_ (.inr ?_) ?_
  rotate_left 2
  · go_simp
    refine ⟨?_, ?_⟩ <;> with_reducible rfl
  · exact (bel_drewN _ _ _).alloc (Nat.le_refl _) _
  simp only [Act.put, List.setIfInBounds_toArray, List.set_cons_zero, List.set_cons_succ]
  have ho0 : ((w.drewN (m + 1)).alloc (.cells #[] 3)).ownsRow w.heap.size 3 1 (.slice (some ⟨w.heap.size, 0, none⟩) 0 0) 0 [] := World.ownsRow_made _ #[] 0 (Nat.le_refl _) (by decide) rfl
  have hB0 : Below w.heap.size w ((w.drewN (m + 1)).alloc (.cells #[] 3)) := (bel_drewN _ _ _).alloc (Nat.le_refl _) _
  refine wpRest_step rfl (fun KK hKK => ?_)
  refine step_append_rowAt _ rfl (.tmp 15) (.tmp 21) 26 rfl w.heap.size 3 i0 (.int .i64 0) 1 8 Try.underlying26 hi hz0 hz1 hz2 rfl (by decide) _ 0 [] rfl ho0 3 _ i ((zI K).take i) rfl ((hK.take1 (by omega) i (by omega)).below hB0 (Nat.le_refl _)) (by simp; omega) (one_ints _ _ fun u hu => List.mem_of_mem_take hu) (by unfold maxLen; omega) (by omega) hB0.size ?_
  intro a10 p10 w10 ho10 hg10 hat10
  have hB10 := hB0.grown hg10 hB0.size (fun j hj => by cases hj; exact Nat.le_refl _)
  refine hKK.out _ _ (.inr hB10) ?_
  clear hKK KK
  simp only [Act.put, List.setIfInBounds_toArray, List.set_cons_zero, List.set_cons_succ]
  refine wpRest_step rfl (fun KK hKK => ?_)
  refine step_append_rowAt _ rfl (.tmp 22) (.tmp 29) 26 rfl w.heap.size 3 i0 (.int .i64 0) 1 8 Try.underlying26 hi hz0 hz1 hz2 rfl (by decide) _ (0 + i) ([] ++ (zI K).take i) rfl ho10 3 _ (n - (i + 1)) ((zI K).drop (i + 1)) rfl (hD0.below hB10 (Nat.le_refl _)) (by simp; omega) (one_ints _ _ fun u hu => List.mem_of_mem_drop hu) (by unfold maxLen; omega) (by omega) hB10.size ?_
  intro a20 p20 w20 ho20 hg20 hat20
  have hB20 := hB10.grown hg20 hB10.size (fun j hj => (ho10.lt j hj).1)
  refine hKK.out _ _ (.inr hB20) ?_
  clear hKK KK
  simp only [Act.put, List.setIfInBounds_toArray, List.set_cons_zero, List.set_cons_succ]
  refine wpRest_still (v := ?_) rfl (by rfl) (by assumption) ?_ ?_
  rotate_left
  · go_simp
    try with_reducible rfl
  simp only [Act.put, List.setIfInBounds_toArray, List.set_cons_zero, List.set_cons_succ]
  refine wpRest_still (v := ?_) rfl (by rfl) (by assumption) ?_ ?_
  rotate_left
  · go_simp
    try with_reducible rfl
  simp only [Act.put, List.setIfInBounds_toArray, List.set_cons_zero, List.set_cons_succ]
  have cs0 : w20.cell? ⟨x, 0, none⟩ = some (.slice (some ⟨kb, ko, none⟩) n kcap) := (hB20.cell (p := ⟨x, 0, none⟩) lx).trans c0
  have fs0 : w20.frozen? ⟨x, 0, none⟩ = false := (hB20.frozen (p := ⟨x, 0, none⟩) lx).trans f0
  refine wpRest_step rfl (fun KK hKK => ?_)
  go_simp
  refine hKK.out _ _ (.inl (Nat.le_refl _)) ?_
  clear hKK KK
  refine wpRest_nil ?_
  have hR0 := RowAt.of_owns ho20
  clear hS0 hB0 hB10 hg10 hg20 hat10 hat20 ho0 ho10 hD0 cs0 fs0
  go_wp2
  have hb20 : w20.heap[x]? = _ := (hB20.block x lx).trans hb
  have hb1 : (w20.setCell ⟨x, 0, none⟩ (.slice a20 (i + (n - (i + 1))) p20)).heap[x]? = some (.cells #[.slice a20 (i + (n - (i + 1))) p20, .slice (some ⟨vb, vo, none⟩) n' vcap] 28 (0, 0)) := heap_setCell_same hb20 _
  have hRK := hR0.setCell_other hb20 (by decide) (x := x) (j := 0) (.slice a20 (i + (n - (i + 1))) p20)
  have hV1 := (hV.below hB20 (Nat.le_refl _)).setCell_other hb20 (by decide) (x := x) (j := 0) (.slice a20 (i + (n - (i + 1))) p20)
  have hK1 : Kept (fun b => b = x) w (w20.setCell ⟨x, 0, none⟩ (.slice a20 (i + (n - (i + 1))) p20)) := Kept.setCell (R := fun b => b = x) (Kept.of_below hB20) ⟨x, 0, none⟩ rfl _
  clear hR0 hV hb20 hB20 c0 f0 c1 f1 hb hK
  generalize w20.setCell ⟨x, 0, none⟩ (.slice a20 (i + (n - (i + 1))) p20) = W at *
  have c1 := cell_of_block hb1 1
  have f1 := free_of_block hb1 1
  have lx1 : x < W.heap.size := (Array.getElem?_eq_some_iff.1 hb1).1
  simp at c1
  have hS1 : ∀ w', Below W.heap.size W w' → w'.cell? ⟨x, 1, none⟩ = some (.slice (some ⟨vb, vo, none⟩) n' vcap) := fun w' h => (h.cell (p := ⟨x, 1, none⟩) lx1).trans c1
  refine wp_region_plan 19 [0, 2, 3, 4, 5, 6, 7, 9, 10, 11, 12, 13, 14, 15] [1, 8, 16, 17, 18, 19] (fun w' => Below W.heap.size W w') (by kernel_rfl) (by kernel_rfl) (fun _ d _ _ _ h => by cases d <;> exact h) ?_ ?_
  · exact ⟨rfl, rfl, rfl, Nat.le_refl _, fun _ _ => rfl⟩
  repeat
    refine wpReads_take (v := ?_) rfl (by rfl) ?_ ?_
    rotate_left
    · intro w' hS'
      go_simp
      try with_reducible rfl
    simp only [Act.put, List.setIfInBounds_toArray, List.set_cons_zero, List.set_cons_succ]
  refine wpReads_nil ?_
  have hD1 := hV1.drop1 (by omega) (by simp; omega) (i + 1) (by omega)
  generalize (if vcap = i + 1 then (some ⟨vb, vo, none⟩ : Option Addr) else some ⟨vb, vo + (i + 1), none⟩) = ad1 at hD1 ⊢
  refine wpRest_run (v := ?_) (w' := ?_) rfl (by rfl) ?_ (.inr ?_) ?_
  rotate_left 2
  · go_simp
    refine ⟨?_, ?_⟩ <;> with_reducible rfl
  · exact (bel_drewN _ _ _).alloc (Nat.le_refl _) _
  simp only [Act.put, List.setIfInBounds_toArray, List.set_cons_zero, List.set_cons_succ]
  have ho1 : ((W.drewN 1).alloc (.cells #[] 3)).ownsRow W.heap.size 3 1 (.slice (some ⟨W.heap.size, 0, none⟩) 0 0) 0 [] := World.ownsRow_made _ #[] 0 (Nat.le_refl _) (by decide) rfl
  have hB1 : Below W.heap.size W ((W.drewN 1).alloc (.cells #[] 3)) := (bel_drewN _ _ _).alloc (Nat.le_refl _) _
  refine wpRest_step rfl (fun KK hKK => ?_)
  refine step_append_rowAt _ rfl (.tmp 34) (.tmp 40) 26 rfl W.heap.size 3 i0 (.int .i64 0) 1 8 Try.underlying26 hi hz0 hz1 hz2 rfl (by decide) _ 0 [] rfl ho1 3 _ i ((zI V).take i) rfl ((hV1.take1 (by omega) i (by omega)).below hB1 (Nat.le_refl _)) (by simp; omega) (one_ints _ _ fun u hu => List.mem_of_mem_take hu) (by unfold maxLen; omega) (by omega) hB1.size ?_
  intro a11 p11 w11 ho11 hg11 hat11
  have hB11 := hB1.grown hg11 hB1.size (fun j hj => by cases hj; exact Nat.le_refl _)
  refine hKK.out _ _ (.inr hB11) ?_
  clear hKK KK
  simp only [Act.put, List.setIfInBounds_toArray, List.set_cons_zero, List.set_cons_succ]
  refine wpRest_step rfl (fun KK hKK => ?_)
  refine step_append_rowAt _ rfl (.tmp 41) (.tmp 48) 26 rfl W.heap.size 3 i0 (.int .i64 0) 1 8 Try.underlying26 hi hz0 hz1 hz2 rfl (by decide) _ (0 + i) ([] ++ (zI V).take i) rfl ho11 3 _ (n' - (i + 1)) ((zI V).drop (i + 1)) rfl (hD1.below hB11 (Nat.le_refl _)) (by simp; omega) (one_ints _ _ fun u hu => List.mem_of_mem_drop hu) (by unfold maxLen; omega) (by omega) hB11.size ?_
  intro a21 p21 w21 ho21 hg21 hat21
  have hB21 := hB11.grown hg21 hB11.size (fun j hj => (ho11.lt j hj).1)
  refine hKK.out _ _ (.inr hB21) ?_
  clear hKK KK
  simp only [Act.put, List.setIfInBounds_toArray, List.set_cons_zero, List.set_cons_succ]
  refine wpRest_still (v := ?_) rfl (by rfl) (by assumption) ?_ ?_
  rotate_left
  · go_simp
    try with_reducible rfl
  simp only [Act.put, List.setIfInBounds_toArray, List.set_cons_zero, List.set_cons_succ]
  refine wpRest_still (v := ?_) rfl (by rfl) (by assumption) ?_ ?_
  rotate_left
  · go_simp
    try with_reducible rfl
  simp only [Act.put, List.setIfInBounds_toArray, List.set_cons_zero, List.set_cons_succ]
  have cs1 : w21.cell? ⟨x, 1, none⟩ = some (.slice (some ⟨vb, vo, none⟩) n' vcap) := (hB21.cell (p := ⟨x, 1, none⟩) lx1).trans c1
  have fs1 : w21.frozen? ⟨x, 1, none⟩ = false := (hB21.frozen (p := ⟨x, 1, none⟩) lx1).trans f1
  refine wpRest_step rfl (fun KK hKK => ?_)
  go_simp
  refine hKK.out _ _ (.inl (Nat.le_refl _)) ?_
  clear hKK KK
  refine wpRest_nil ?_
  have hR1 := RowAt.of_owns ho21
  clear hS1 hB1 hB11 hg11 hg21 hat11 hat21 ho1 ho11 hD1 cs1 fs1
  go_wp2
  go_ret
  have hb21 : w21.heap[x]? = _ := (hB21.block x lx1).trans hb1
  have hRK2 := (hRK.below hB21 (Nat.le_refl _)).setCell_other hb21 (by decide) (x := x) (j := 1) (.slice a21 (i + (n' - (i + 1))) p21)
  have hRV2 := hR1.setCell_other hb21 (by decide) (x := x) (j := 1) (.slice a21 (i + (n' - (i + 1))) p21)
  have hK2 : Kept (fun b => b = x) w (w21.setCell ⟨x, 1, none⟩ (.slice a21 (i + (n' - (i + 1))) p21)) := hK1.trans (Kept.setCell (R := fun b => b = x) (Kept.of_below hB21) ⟨x, 1, none⟩ rfl _)
  refine ⟨rfl, ⟨_, _, heap_setCell_same hb21 _, ?_, ?_, ?_⟩, ?_⟩
  · rw [show (K.take i ++ K.drop (i + 1)).length = i + (n - (i + 1)) by simp; omega, show zI (K.take i ++ K.drop (i + 1)) = [] ++ (zI K).take i ++ (zI K).drop (i + 1) by simp [List.map_take, List.map_drop]]
    rw [Nat.zero_add] at hRK2
    exact hRK2
  · rw [show (V.take i ++ V.drop (i + 1)).length = i + (n' - (i + 1)) by simp; omega, show zI (V.take i ++ V.drop (i + 1)) = [] ++ (zI V).take i ++ (zI V).drop (i + 1) by simp [List.map_take, List.map_drop]]
    rw [Nat.zero_add] at hRV2
    exact hRV2
  · have := Hl.out
    simp
    omega
  · exact hK2

set_option maxHeartbeats 400000 in
theorem del_not (x : Nat) (K V : List Int) (k : Int) (w : World) (h : RefAt w x K V) (hf : found K k = false) :
    Calls Try.prog 20 #[.pointer (some ⟨x, 0, none⟩), .int .i64 k] w fun e w' => e = .returned (.bool false) ∧ ∃ m, w' = w.drewN m := by
  have hc := place_any x K V k w h
  simp only [hf] at hc
  have Hf := Lib.hid hf
  clear hf h
  go_enter Try.func20, Try.ntmps20
  go_wp2_with (go_at_call 28; refine hc.mono ?_; rintro e w' ⟨rfl, m, rfl⟩)
  go_ret
  exact ⟨rfl, _, rfl⟩
end Go.Proofs.Ytjahfjfanaocpaa
