/- walks: the reference's Set where the key is new -/
import Derived.Test.YtjahfjfanaocpaaE
namespace Go.Proofs.Ytjahfjfanaocpaa
open Go.RowKit Plain

theorem row_new (w : World) (e : TypeId) (u : Value) (g : Nat) (hg : w.heap.size = g) : RowAt (w.alloc (.cells #[u] e)) e (.slice (some ⟨g, 0, none⟩) 1 1) 1 [u] :=
  .inr ⟨g, 0, 1, #[u], (0, 0), rfl, Nat.le_refl _, by decide, hg ▸ heap_alloc_new w _, fun j hj => by
    have : j = 0 := by simp at hj; omega
    subst this; rfl⟩
theorem own_new (w : World) (base : Nat) (e : TypeId) (g : Nat) (hg : w.heap.size = g) (hb : base ≤ g) : (w.alloc (.cells #[] e)).ownsRow base e 1 (.slice (some ⟨g, 0, none⟩) 0 0) 0 [] := by
  subst hg
  exact World.ownsRow_made w #[] 0 hb (by decide) rfl
theorem RowAt.grown {w w' : World} {e : TypeId} {v : Value} {n : Nat} {xs : List Value} {row : Option Nat} (h : RowAt w e v n xs) (hg : w.grownBy w' row) (hb : ∀ b, v.ownBlock = some b → b < w.heap.size ∧ some b ≠ row) : RowAt w' e v n xs :=
  h.of_block fun b e => hg.block b (hb b e).1 (hb b e).2

theorem RowAt.off {w w' : World} {e : TypeId} {g : Nat} {u : Value} (h : RowAt w e (.slice (some ⟨g, 0, none⟩) 1 1) 1 [u]) {row : Option Nat} (hg : w.grownBy w' row) (h1 : g < w.heap.size) (h2 : some g ≠ row) : RowAt w' e (.slice (some ⟨g, 0, none⟩) 1 1) 1 [u] :=
  h.grown hg fun b hb => by
    simp [Value.ownBlock] at hb
    subst hb
    exact ⟨h1, h2⟩
/-- behind the store of a field's new row -/
theorem ins_done {x fld : Nat} {kv vv : Value} {w w3 : World} {cs : Array Value} {base : Nat} {v : Value} {n' n : Nat} {xs ys : List Value} (hb : w.heap[x]? = some (.cells cs 28 (0, 0))) (hB : Below w.heap.size w w3)
    (hcs : cs.setIfInBounds fld v = #[kv, vv]) (ho : w3.ownsRow base 3 1 v n' xs) (hn : n' = n) (hx : xs = ys) :
    (w3.setCell ⟨x, fld, none⟩ v).heap[x]? = some (.cells #[kv, vv] 28 (0, 0)) ∧ RowAt (w3.setCell ⟨x, fld, none⟩ v) 3 v n ys ∧ Kept (fun b => b = x) w (w3.setCell ⟨x, fld, none⟩ v) := by
  subst hn hx
  have lx := (Array.getElem?_eq_some_iff.1 hb).1
  have h1 : w3.heap[x]? = _ := (hB.block x lx).trans hb
  refine ⟨hcs ▸ heap_setCell_same h1 _, (RowAt.of_owns ho).setCell_other h1 (by decide) _, Kept.setCell (R := fun b => b = x) (Kept.of_below hB) ⟨x, fld, none⟩ rfl _⟩

/-- a row with one put in -/
def insZ (l : List Int) (i : Nat) (k : Int) : List Int := l.take i ++ k :: l.drop i

/-- the field's region is over -/
def Ins (w : World) (x fld : Nat) (K : List Int) (i : Nat) (k : Int) (other : Value) (wr : World) : Prop :=
  ∃ v, wr.heap[x]? = some (.cells (if fld = 0 then #[v, other] else #[other, v]) 28 (0, 0)) ∧ RowAt wr 3 v (K.length + 1) (zI (insZ K i k)) ∧ Kept (fun b => b = x) w wr

theorem zI_ins (K : List Int) (i : Nat) (k : Int) : [] ++ (zI K).take i ++ [Value.int .i64 k] ++ (zI K).drop i = zI (insZ K i k) := by
  simp [insZ, List.map_take, List.map_drop]

theorem set_fin {w W W2 : World} {x i n n' : Nat} {K V : List Int} {k v : Int} {kv vv vv0 : Value} (hb1 : W.heap[x]? = some (.cells #[kv, vv0] 28 (0, 0))) (hRK : RowAt W 3 kv (K.length + 1) (zI (insZ K i k))) (hK1 : Kept (fun b => b = x) w W)
    (Hl : Hid (n = n')) (HKn : Hid (K.length = n)) (h : W2.heap[x]? = some (.cells #[kv, vv] 28 (0, 0)) ∧ RowAt W2 3 vv (V.length + 1) (zI (insZ V i v)) ∧ Kept (fun b => b = x) W W2) (hpl : i ≤ n) (HVn : Hid (V.length = n')) :
    RefAt W2 x (insZ K i k) (insZ V i v) ∧ Kept (fun b => b = x) w W2 := by
  obtain ⟨hb2, hRV, hK2⟩ := h
  have e1 := Hl.out
  have e2 := HKn.out
  have e3 := HVn.out
  have hRK2 := hRK.keptBut hK2 hb1 (by decide)
  refine ⟨⟨kv, vv, hb2, ?_, ?_, ?_⟩, hK1.trans hK2⟩
  · rw [show (insZ K i k).length = K.length + 1 by simp [insZ]; omega]; exact hRK2
  · rw [show (insZ V i v).length = V.length + 1 by simp [insZ]; omega]; exact hRV
  · simp [insZ]
    omega

set_option maxRecDepth 100000 in
set_option maxHeartbeats 3200000 in
theorem set_new (x : Nat) (K V : List Int) (k v : Int) (w : World) (h : RefAt w x K V) (hf : found K k = false) (h0 : 0 < K.length) (hlen : (K.length + 1) * 8 ≤ 140737488355328) :
    Calls Try.prog 19 #[.pointer (some ⟨x, 0, none⟩), .int .i64 k, .int .i64 v] w fun e w' => e = .returned (.tuple #[]) ∧ RefAt w' x (insZ K (pos K k) k) (insZ V (pos K k) v) ∧ Kept (fun b => b = x) w w' := by
  have hc := place_any x K V k w h
  have hpl := pos_le K k
  obtain ⟨kv, vv, hb, hK, hV, hl⟩ := h
  simp only [hf] at hc
  have Hf := Lib.hid hf
  clear hf
  obtain ⟨kb, ko, kcap, rfl, kc, km, _⟩ := hK.cell (by omega)
  obtain ⟨vb, vo, vcap, rfl, vc, vm, _⟩ := hV.cell (by omega)
  unfold maxLen at km vm
  have lx : x < w.heap.size := (Array.getElem?_eq_some_iff.1 hb).1
  have c0 := cell_of_block hb 0
  have f0 := free_of_block hb 0
  simp at c0
  generalize pos K k = i at *
  generalize hKn : K.length = n at *
  generalize hVn : V.length = n' at *
  have hpl' : i ≤ n' := by omega
  have h0' : 0 < n' := by omega
  have hlen' : (n' + 1) * 8 ≤ 140737488355328 := by omega
  have hi0 : (0 : Int) ≤ (i : Int) := by omega
  have hi1 : (i : Int) ≤ (n : Int) := by omega
  have hi1' : (i : Int) ≤ (n' : Int) := by omega
  have hi4 : (i : Int) ≤ (kcap : Int) := by omega
  have hi4' : (i : Int) ≤ (vcap : Int) := by omega
  have Hl := Lib.hid hl
  have HKn := Lib.hid hKn
  have HVn := Lib.hid hVn
  clear hl
  obtain ⟨i0, hi, hz0, hz1, hz2⟩ := info_parts info3
  go_enter Try.func19, Try.ntmps19
  go_wp2_with (go_at_call 28; refine hc.mono ?_; rintro e w' ⟨rfl, m, rfl⟩)
  go_cut [] from 31 to 51 (fun wr => Ins w x 0 K i k (.slice (some ⟨vb, vo, none⟩) n' vcap) wr)
  case first =>
    have hS : ∀ w', Below w.heap.size w w' → w'.cell? ⟨x, 0, none⟩ = some (.slice (some ⟨kb, ko, none⟩) n kcap) := fun w' h => (h.cell (p := ⟨x, 0, none⟩) lx).trans c0
    refine wp_region_tree 21 [0, 2, 3, 4, 5, 6, 7, 9, 12, 13, 14, 15, 16, 17] (.fork 1 (.fork 8 (.step 10 (.step 11 (.step 18 (.step 19 (.step 20 (.step 21 .done)))))) 10 (.step 8 (.step 11 (.step 18 (.step 19 (.step 20 (.step 21 .done))))))) 10 (.step 1 (.step 8 (.step 11 (.step 18 (.step 19 (.step 20 (.step 21 .done)))))))) (fun w' => Below w.heap.size w w') (by kernel_rfl) (by kernel_rfl) (fun _ d _ _ _ h => by cases d <;> exact h) ?_ ?_
    · exact ⟨rfl, rfl, rfl, Nat.le_refl _, fun _ _ => rfl⟩
    repeat
      refine wpReads_take (v := ?_) rfl (by rfl) ?_ ?_
      rotate_left
      · intro w' hS'
        go_simp
        try with_reducible rfl
      simp only [Act.put, List.setIfInBounds_toArray, List.set_cons_zero, List.set_cons_succ]
    refine wpReads_nil ?_
    have hT := hK.take1 (by omega) i (by omega)
    have hD := hK.drop1 (by omega) (by simp; omega) i (by omega)
    generalize (if kcap = i then (some ⟨kb, ko, none⟩ : Option Addr) else some ⟨kb, ko + i, none⟩) = ad at hD ⊢
    refine wpTree_fork ?_ ?_
    · refine wpTree_run (v := ?_) (w' := ?_) rfl (by rfl) ?_ (.inr ?_) ?_
      rotate_left 2
      · go_simp
        refine ⟨?_, ?_⟩ <;> with_reducible rfl
      · exact (bel_drewN _ _ _).alloc (Nat.le_refl _) _
      simp only [Act.put, List.setIfInBounds_toArray, List.set_cons_zero, List.set_cons_succ]
      have hBa : Below w.heap.size w ((w.drewN (m + 1)).alloc (.cells #[] 3)) := (bel_drewN _ _ _).alloc (Nat.le_refl _) _
      have hoa : ((w.drewN (m + 1)).alloc (.cells #[] 3)).ownsRow w.heap.size 3 1 (.slice (some ⟨w.heap.size, 0, none⟩) 0 0) 0 [] := World.ownsRow_made _ #[] 0 (Nat.le_refl _) (by decide) rfl
      refine wpTree_fork ?_ ?_
      · refine wpTree_step rfl (fun KK hKK => ?_)
        refine step_append_rowAt _ rfl (.tmp 32) (.tmp 38) 26 rfl w.heap.size 3 i0 (.int .i64 0) 1 8 Try.underlying26 hi hz0 hz1 hz2 rfl (by decide) _ 0 [] rfl hoa 3 _ i ((zI K).take i) rfl (hT.below hBa (Nat.le_refl _)) (by simp; try omega) (one_ints _ _ fun u hu => List.mem_of_mem_take hu) (by unfold maxLen; omega) (by omega) hBa.size ?_
        intro a1 p1 w1 ho1 hg1 hat1
        have hB1 := hBa.grown hg1 hBa.size (fun j hj => (hoa.lt j hj).1)
        refine hKK.out _ _ (.inr hB1) ?_
        clear hKK KK
        simp only [Act.put, List.setIfInBounds_toArray, List.set_cons_zero, List.set_cons_succ]
        refine wpTree_run (v := ?_) (w' := ?_) rfl (by rfl) ?_ (.inr ?_) ?_
        rotate_left 2
        · go_simp
          refine ⟨?_, ?_⟩ <;> with_reducible rfl
        · exact hB1.alloc hB1.size _
        simp only [Act.put, List.setIfInBounds_toArray, List.set_cons_zero, List.set_cons_succ]
        refine wpTree_step rfl (fun KK hKK => ?_)
        refine step_append_rowAt _ rfl (.tmp 39) (.tmp 41) 26 rfl w.heap.size 3 i0 (.int .i64 0) 1 8 Try.underlying26 hi hz0 hz1 hz2 rfl (by decide) _ (0 + i) ([] ++ (zI K).take i) rfl (ho1.alloc (.cells #[.int .i64 k] 3)) 3 _ 1 [Value.int .i64 k] rfl (row_new _ _ _ _ rfl) (by simp; try omega) (by simp [Value.oneCell']) (by unfold maxLen; omega) (by omega) (hB1.alloc hB1.size (.cells #[.int .i64 k] 3)).size ?_
        intro a2 p2 w2 ho2 hg2 hat2
        have hB2 := (hB1.alloc hB1.size (.cells #[.int .i64 k] 3)).grown hg2 (hB1.alloc hB1.size (.cells #[.int .i64 k] 3)).size (fun j hj => ((ho1.alloc (.cells #[.int .i64 k] 3)).lt j hj).1)
        refine hKK.out _ _ (.inr hB2) ?_
        clear hKK KK
        simp only [Act.put, List.setIfInBounds_toArray, List.set_cons_zero, List.set_cons_succ]
        refine wpTree_step rfl (fun KK hKK => ?_)
        refine step_append_rowAt _ rfl (.tmp 42) (.tmp 48) 26 rfl w.heap.size 3 i0 (.int .i64 0) 1 8 Try.underlying26 hi hz0 hz1 hz2 rfl (by decide) _ (0 + i + 1) ([] ++ (zI K).take i ++ [Value.int .i64 k]) rfl ho2 3 _ (n - i) ((zI K).drop i) rfl (hD.below hB2 (Nat.le_refl _)) (by simp; try omega) (one_ints _ _ fun u hu => List.mem_of_mem_drop hu) (by unfold maxLen; omega) (by omega) hB2.size ?_
        intro a3 p3 w3 ho3 hg3 hat3
        have hB3 := hB2.grown hg3 hB2.size (fun j hj => (ho2.lt j hj).1)
        refine hKK.out _ _ (.inr hB3) ?_
        clear hKK KK
        simp only [Act.put, List.setIfInBounds_toArray, List.set_cons_zero, List.set_cons_succ]
        refine wpTree_still (v := ?_) rfl (by rfl) (by assumption) ?_ ?_
        rotate_left
        · go_simp
          try with_reducible rfl
        simp only [Act.put, List.setIfInBounds_toArray, List.set_cons_zero, List.set_cons_succ]
        refine wpTree_still (v := ?_) rfl (by rfl) (by assumption) ?_ ?_
        rotate_left
        · go_simp
          try with_reducible rfl
        simp only [Act.put, List.setIfInBounds_toArray, List.set_cons_zero, List.set_cons_succ]
        simp only [Nat.zero_add] at ho3
        have cs : w3.cell? ⟨x, 0, none⟩ = some (.slice (some ⟨kb, ko, none⟩) n kcap) := (hB3.cell (p := ⟨x, 0, none⟩) lx).trans c0
        have fs : w3.frozen? ⟨x, 0, none⟩ = false := (hB3.frozen (p := ⟨x, 0, none⟩) lx).trans f0
        refine wpTree_step rfl (fun KK hKK => ?_)
        go_simp
        refine hKK.out _ _ (.inl (Nat.le_refl _)) ?_
        clear hKK KK
        refine wpTree_done ?_
        go_wp2_with fail
        go_meet
        exact ⟨_, ins_done (n := K.length + 1) hb hB3 rfl ho3 (by have := HKn.out; omega) (zI_ins K i k)⟩
      · refine wpTree_run (v := ?_) (w' := ?_) rfl (by rfl) ?_ (.inr ?_) ?_
        rotate_left 2
        · go_simp
          refine ⟨?_, ?_⟩ <;> with_reducible rfl
        · exact hBa.alloc (by simp) _
        simp only [Act.put, List.setIfInBounds_toArray, List.set_cons_zero, List.set_cons_succ]
        have hBb := hBa.alloc (by simp) (.cells #[.int .i64 k] 3)
        have hob := hoa.alloc (.cells #[.int .i64 k] 3)
        have hrb := row_new ((w.drewN (m + 1)).alloc (.cells #[] 3)) 3 (.int .i64 k) (w.heap.size + 1) (by simp)
        refine wpTree_step rfl (fun KK hKK => ?_)
        refine step_append_rowAt _ rfl (.tmp 32) (.tmp 38) 26 rfl w.heap.size 3 i0 (.int .i64 0) 1 8 Try.underlying26 hi hz0 hz1 hz2 rfl (by decide) _ 0 [] rfl hob 3 _ i ((zI K).take i) rfl (hT.below hBb (Nat.le_refl _)) (by simp; try omega) (one_ints _ _ fun u hu => List.mem_of_mem_take hu) (by unfold maxLen; omega) (by omega) hBb.size ?_
        intro a1 p1 w1 ho1 hg1 hat1
        have hB1 := hBb.grown hg1 hBb.size (fun j hj => (hob.lt j hj).1)
        refine hKK.out _ _ (.inr hB1) ?_
        clear hKK KK
        simp only [Act.put, List.setIfInBounds_toArray, List.set_cons_zero, List.set_cons_succ]
        refine wpTree_step rfl (fun KK hKK => ?_)
        refine step_append_rowAt _ rfl (.tmp 39) (.tmp 41) 26 rfl w.heap.size 3 i0 (.int .i64 0) 1 8 Try.underlying26 hi hz0 hz1 hz2 rfl (by decide) _ (0 + i) ([] ++ (zI K).take i) rfl ho1 3 _ 1 [Value.int .i64 k] rfl (hrb.off hg1 (by simp) (fun e => Nat.succ_ne_self _ (Option.some.inj (e : some (w.heap.size + 1) = some w.heap.size)))) (by simp; try omega) (by simp [Value.oneCell']) (by unfold maxLen; omega) (by omega) hB1.size ?_
        intro a2 p2 w2 ho2 hg2 hat2
        have hB2 := hB1.grown hg2 hB1.size (fun j hj => (ho1.lt j hj).1)
        refine hKK.out _ _ (.inr hB2) ?_
        clear hKK KK
        simp only [Act.put, List.setIfInBounds_toArray, List.set_cons_zero, List.set_cons_succ]
        refine wpTree_step rfl (fun KK hKK => ?_)
        refine step_append_rowAt _ rfl (.tmp 42) (.tmp 48) 26 rfl w.heap.size 3 i0 (.int .i64 0) 1 8 Try.underlying26 hi hz0 hz1 hz2 rfl (by decide) _ (0 + i + 1) ([] ++ (zI K).take i ++ [Value.int .i64 k]) rfl ho2 3 _ (n - i) ((zI K).drop i) rfl (hD.below hB2 (Nat.le_refl _)) (by simp; try omega) (one_ints _ _ fun u hu => List.mem_of_mem_drop hu) (by unfold maxLen; omega) (by omega) hB2.size ?_
        intro a3 p3 w3 ho3 hg3 hat3
        have hB3 := hB2.grown hg3 hB2.size (fun j hj => (ho2.lt j hj).1)
        refine hKK.out _ _ (.inr hB3) ?_
        clear hKK KK
        simp only [Act.put, List.setIfInBounds_toArray, List.set_cons_zero, List.set_cons_succ]
        refine wpTree_still (v := ?_) rfl (by rfl) (by assumption) ?_ ?_
        rotate_left
        · go_simp
          try with_reducible rfl
        simp only [Act.put, List.setIfInBounds_toArray, List.set_cons_zero, List.set_cons_succ]
        refine wpTree_still (v := ?_) rfl (by rfl) (by assumption) ?_ ?_
        rotate_left
        · go_simp
          try with_reducible rfl
        simp only [Act.put, List.setIfInBounds_toArray, List.set_cons_zero, List.set_cons_succ]
        simp only [Nat.zero_add] at ho3
        have cs : w3.cell? ⟨x, 0, none⟩ = some (.slice (some ⟨kb, ko, none⟩) n kcap) := (hB3.cell (p := ⟨x, 0, none⟩) lx).trans c0
        have fs : w3.frozen? ⟨x, 0, none⟩ = false := (hB3.frozen (p := ⟨x, 0, none⟩) lx).trans f0
        refine wpTree_step rfl (fun KK hKK => ?_)
        go_simp
        refine hKK.out _ _ (.inl (Nat.le_refl _)) ?_
        clear hKK KK
        refine wpTree_done ?_
        go_wp2_with fail
        go_meet
        exact ⟨_, ins_done (n := K.length + 1) hb hB3 rfl ho3 (by have := HKn.out; omega) (zI_ins K i k)⟩
    · refine wpTree_run (v := ?_) (w' := ?_) rfl (by rfl) ?_ (.inr ?_) ?_
      rotate_left 2
      · go_simp
        refine ⟨?_, ?_⟩ <;> with_reducible rfl
      · exact (bel_drewN _ _ _).alloc (Nat.le_refl _) _
      simp only [Act.put, List.setIfInBounds_toArray, List.set_cons_zero, List.set_cons_succ]
      refine wpTree_run (v := ?_) (w' := ?_) rfl (by rfl) ?_ (.inr ?_) ?_
      rotate_left 2
      · go_simp
        refine ⟨?_, ?_⟩ <;> with_reducible rfl
      · exact ((bel_drewN _ _ _).alloc (Nat.le_refl _) _).alloc (by simp) _
      simp only [Act.put, List.setIfInBounds_toArray, List.set_cons_zero, List.set_cons_succ]
      have hBc : Below w.heap.size w (((w.drewN (m + 1)).alloc (.cells #[.int .i64 k] 3)).alloc (.cells #[] 3)) := ((bel_drewN w.heap.size w _).alloc (Nat.le_refl _) (.cells #[.int .i64 k] 3)).alloc (by simp) (.cells #[] 3)
      have hoc := own_new ((w.drewN (m + 1)).alloc (.cells #[.int .i64 k] 3)) w.heap.size 3 (w.heap.size + 1) (by simp) (by omega)
      have hrc := (row_new (w.drewN (m + 1)) 3 (.int .i64 k) w.heap.size rfl).off (World.grownBy_alloc _ (.cells #[] 3) none) (by simp) (by simp)
      refine wpTree_step rfl (fun KK hKK => ?_)
      refine step_append_rowAt _ rfl (.tmp 32) (.tmp 38) 26 rfl w.heap.size 3 i0 (.int .i64 0) 1 8 Try.underlying26 hi hz0 hz1 hz2 rfl (by decide) _ 0 [] rfl hoc 3 _ i ((zI K).take i) rfl (hT.below hBc (Nat.le_refl _)) (by simp; try omega) (one_ints _ _ fun u hu => List.mem_of_mem_take hu) (by unfold maxLen; omega) (by omega) hBc.size ?_
      intro a1 p1 w1 ho1 hg1 hat1
      have hB1 := hBc.grown hg1 hBc.size (fun j hj => (hoc.lt j hj).1)
      refine hKK.out _ _ (.inr hB1) ?_
      clear hKK KK
      simp only [Act.put, List.setIfInBounds_toArray, List.set_cons_zero, List.set_cons_succ]
      refine wpTree_step rfl (fun KK hKK => ?_)
      refine step_append_rowAt _ rfl (.tmp 39) (.tmp 41) 26 rfl w.heap.size 3 i0 (.int .i64 0) 1 8 Try.underlying26 hi hz0 hz1 hz2 rfl (by decide) _ (0 + i) ([] ++ (zI K).take i) rfl ho1 3 _ 1 [Value.int .i64 k] rfl (hrc.off hg1 (by simp; try omega) (fun e => Nat.succ_ne_self _ (Option.some.inj (e : some w.heap.size = some (w.heap.size + 1))).symm)) (by simp; try omega) (by simp [Value.oneCell']) (by unfold maxLen; omega) (by omega) hB1.size ?_
      intro a2 p2 w2 ho2 hg2 hat2
      have hB2 := hB1.grown hg2 hB1.size (fun j hj => (ho1.lt j hj).1)
      refine hKK.out _ _ (.inr hB2) ?_
      clear hKK KK
      simp only [Act.put, List.setIfInBounds_toArray, List.set_cons_zero, List.set_cons_succ]
      refine wpTree_step rfl (fun KK hKK => ?_)
      refine step_append_rowAt _ rfl (.tmp 42) (.tmp 48) 26 rfl w.heap.size 3 i0 (.int .i64 0) 1 8 Try.underlying26 hi hz0 hz1 hz2 rfl (by decide) _ (0 + i + 1) ([] ++ (zI K).take i ++ [Value.int .i64 k]) rfl ho2 3 _ (n - i) ((zI K).drop i) rfl (hD.below hB2 (Nat.le_refl _)) (by simp; try omega) (one_ints _ _ fun u hu => List.mem_of_mem_drop hu) (by unfold maxLen; omega) (by omega) hB2.size ?_
      intro a3 p3 w3 ho3 hg3 hat3
      have hB3 := hB2.grown hg3 hB2.size (fun j hj => (ho2.lt j hj).1)
      refine hKK.out _ _ (.inr hB3) ?_
      clear hKK KK
      simp only [Act.put, List.setIfInBounds_toArray, List.set_cons_zero, List.set_cons_succ]
      refine wpTree_still (v := ?_) rfl (by rfl) (by assumption) ?_ ?_
      rotate_left
      · go_simp
        try with_reducible rfl
      simp only [Act.put, List.setIfInBounds_toArray, List.set_cons_zero, List.set_cons_succ]
      refine wpTree_still (v := ?_) rfl (by rfl) (by assumption) ?_ ?_
      rotate_left
      · go_simp
        try with_reducible rfl
      simp only [Act.put, List.setIfInBounds_toArray, List.set_cons_zero, List.set_cons_succ]
      simp only [Nat.zero_add] at ho3
      have cs : w3.cell? ⟨x, 0, none⟩ = some (.slice (some ⟨kb, ko, none⟩) n kcap) := (hB3.cell (p := ⟨x, 0, none⟩) lx).trans c0
      have fs : w3.frozen? ⟨x, 0, none⟩ = false := (hB3.frozen (p := ⟨x, 0, none⟩) lx).trans f0
      refine wpTree_step rfl (fun KK hKK => ?_)
      go_simp
      refine hKK.out _ _ (.inl (Nat.le_refl _)) ?_
      clear hKK KK
      refine wpTree_done ?_
      go_wp2_with fail
      go_meet
      exact ⟨_, ins_done (n := K.length + 1) hb hB3 rfl ho3 (by have := HKn.out; omega) (zI_ins K i k)⟩
  case rest =>
    obtain ⟨kv, hb1, hRK, hK1⟩ := hcut
    have hV1 := hV.keptBut hK1 hb (by decide)
    rename World => W
    clear c0 f0 hb hK hV
    replace hb1 : W.heap[x]? = some (.cells #[kv, .slice (some ⟨vb, vo, none⟩) n' vcap] 28 (0, 0)) := hb1
    have c1 := cell_of_block hb1 1
    have f1 := free_of_block hb1 1
    have lx1 : x < W.heap.size := (Array.getElem?_eq_some_iff.1 hb1).1
    simp at c1
    go_wp2_with fail
    have hS : ∀ w', Below W.heap.size W w' → w'.cell? ⟨x, 1, none⟩ = some (.slice (some ⟨vb, vo, none⟩) n' vcap) := fun w' h => (h.cell (p := ⟨x, 1, none⟩) lx1).trans c1
    refine wp_region_tree 21 [0, 2, 3, 4, 5, 6, 7, 9, 12, 13, 14, 15, 16, 17] (.fork 1 (.fork 8 (.step 10 (.step 11 (.step 18 (.step 19 (.step 20 (.step 21 .done)))))) 10 (.step 8 (.step 11 (.step 18 (.step 19 (.step 20 (.step 21 .done))))))) 10 (.step 1 (.step 8 (.step 11 (.step 18 (.step 19 (.step 20 (.step 21 .done)))))))) (fun w' => Below W.heap.size W w') (by kernel_rfl) (by kernel_rfl) (fun _ d _ _ _ h => by cases d <;> exact h) ?_ ?_
    · exact ⟨rfl, rfl, rfl, Nat.le_refl _, fun _ _ => rfl⟩
    repeat
      refine wpReads_take (v := ?_) rfl (by rfl) ?_ ?_
      rotate_left
      · intro w' hS'
        go_simp
        try with_reducible rfl
      simp only [Act.put, List.setIfInBounds_toArray, List.set_cons_zero, List.set_cons_succ]
    refine wpReads_nil ?_
    have hT := hV1.take1 (by omega) i (by omega)
    have hD := hV1.drop1 (by omega) (by simp; omega) i (by omega)
    generalize (if vcap = i then (some ⟨vb, vo, none⟩ : Option Addr) else some ⟨vb, vo + i, none⟩) = ad at hD ⊢
    refine wpTree_fork ?_ ?_
    · refine wpTree_run (v := ?_) (w' := ?_) rfl (by rfl) ?_ (.inr ?_) ?_
      rotate_left 2
      · go_simp
        refine ⟨?_, ?_⟩ <;> with_reducible rfl
      · exact (bel_drewN _ _ _).alloc (Nat.le_refl _) _
      simp only [Act.put, List.setIfInBounds_toArray, List.set_cons_zero, List.set_cons_succ]
      have hBa : Below W.heap.size W ((W.drewN 1).alloc (.cells #[] 3)) := (bel_drewN _ _ _).alloc (Nat.le_refl _) _
      have hoa : ((W.drewN 1).alloc (.cells #[] 3)).ownsRow W.heap.size 3 1 (.slice (some ⟨W.heap.size, 0, none⟩) 0 0) 0 [] := World.ownsRow_made _ #[] 0 (Nat.le_refl _) (by decide) rfl
      refine wpTree_fork ?_ ?_
      · refine wpTree_step rfl (fun KK hKK => ?_)
        refine step_append_rowAt _ rfl (.tmp 53) (.tmp 59) 26 rfl W.heap.size 3 i0 (.int .i64 0) 1 8 Try.underlying26 hi hz0 hz1 hz2 rfl (by decide) _ 0 [] rfl hoa 3 _ i ((zI V).take i) rfl (hT.below hBa (Nat.le_refl _)) (by simp; try omega) (one_ints _ _ fun u hu => List.mem_of_mem_take hu) (by unfold maxLen; omega) (by omega) hBa.size ?_
        intro a1 p1 w1 ho1 hg1 hat1
        have hB1 := hBa.grown hg1 hBa.size (fun j hj => (hoa.lt j hj).1)
        refine hKK.out _ _ (.inr hB1) ?_
        clear hKK KK
        simp only [Act.put, List.setIfInBounds_toArray, List.set_cons_zero, List.set_cons_succ]
        refine wpTree_run (v := ?_) (w' := ?_) rfl (by rfl) ?_ (.inr ?_) ?_
        rotate_left 2
        · go_simp
          refine ⟨?_, ?_⟩ <;> with_reducible rfl
        · exact hB1.alloc hB1.size _
        simp only [Act.put, List.setIfInBounds_toArray, List.set_cons_zero, List.set_cons_succ]
        refine wpTree_step rfl (fun KK hKK => ?_)
        refine step_append_rowAt _ rfl (.tmp 60) (.tmp 62) 26 rfl W.heap.size 3 i0 (.int .i64 0) 1 8 Try.underlying26 hi hz0 hz1 hz2 rfl (by decide) _ (0 + i) ([] ++ (zI V).take i) rfl (ho1.alloc (.cells #[.int .i64 v] 3)) 3 _ 1 [Value.int .i64 v] rfl (row_new _ _ _ _ rfl) (by simp; try omega) (by simp [Value.oneCell']) (by unfold maxLen; omega) (by omega) (hB1.alloc hB1.size (.cells #[.int .i64 v] 3)).size ?_
        intro a2 p2 w2 ho2 hg2 hat2
        have hB2 := (hB1.alloc hB1.size (.cells #[.int .i64 v] 3)).grown hg2 (hB1.alloc hB1.size (.cells #[.int .i64 v] 3)).size (fun j hj => ((ho1.alloc (.cells #[.int .i64 v] 3)).lt j hj).1)
        refine hKK.out _ _ (.inr hB2) ?_
        clear hKK KK
        simp only [Act.put, List.setIfInBounds_toArray, List.set_cons_zero, List.set_cons_succ]
        refine wpTree_step rfl (fun KK hKK => ?_)
        refine step_append_rowAt _ rfl (.tmp 63) (.tmp 69) 26 rfl W.heap.size 3 i0 (.int .i64 0) 1 8 Try.underlying26 hi hz0 hz1 hz2 rfl (by decide) _ (0 + i + 1) ([] ++ (zI V).take i ++ [Value.int .i64 v]) rfl ho2 3 _ (n' - i) ((zI V).drop i) rfl (hD.below hB2 (Nat.le_refl _)) (by simp; try omega) (one_ints _ _ fun u hu => List.mem_of_mem_drop hu) (by unfold maxLen; omega) (by omega) hB2.size ?_
        intro a3 p3 w3 ho3 hg3 hat3
        have hB3 := hB2.grown hg3 hB2.size (fun j hj => (ho2.lt j hj).1)
        refine hKK.out _ _ (.inr hB3) ?_
        clear hKK KK
        simp only [Act.put, List.setIfInBounds_toArray, List.set_cons_zero, List.set_cons_succ]
        refine wpTree_still (v := ?_) rfl (by rfl) (by assumption) ?_ ?_
        rotate_left
        · go_simp
          try with_reducible rfl
        simp only [Act.put, List.setIfInBounds_toArray, List.set_cons_zero, List.set_cons_succ]
        refine wpTree_still (v := ?_) rfl (by rfl) (by assumption) ?_ ?_
        rotate_left
        · go_simp
          try with_reducible rfl
        simp only [Act.put, List.setIfInBounds_toArray, List.set_cons_zero, List.set_cons_succ]
        simp only [Nat.zero_add] at ho3
        have cs : w3.cell? ⟨x, 1, none⟩ = some (.slice (some ⟨vb, vo, none⟩) n' vcap) := (hB3.cell (p := ⟨x, 1, none⟩) lx1).trans c1
        have fs : w3.frozen? ⟨x, 1, none⟩ = false := (hB3.frozen (p := ⟨x, 1, none⟩) lx1).trans f1
        refine wpTree_step rfl (fun KK hKK => ?_)
        go_simp
        refine hKK.out _ _ (.inl (Nat.le_refl _)) ?_
        clear hKK KK
        refine wpTree_done ?_
        go_end0
        exact ⟨rfl, set_fin hb1 hRK hK1 Hl HKn (ins_done (n := V.length + 1) hb1 hB3 rfl ho3 (by have := HVn.out; omega) (zI_ins V i v)) hpl HVn⟩
      · refine wpTree_run (v := ?_) (w' := ?_) rfl (by rfl) ?_ (.inr ?_) ?_
        rotate_left 2
        · go_simp
          refine ⟨?_, ?_⟩ <;> with_reducible rfl
        · exact hBa.alloc (by simp) _
        simp only [Act.put, List.setIfInBounds_toArray, List.set_cons_zero, List.set_cons_succ]
        have hBb := hBa.alloc (by simp) (.cells #[.int .i64 v] 3)
        have hob := hoa.alloc (.cells #[.int .i64 v] 3)
        have hrb := row_new ((W.drewN 1).alloc (.cells #[] 3)) 3 (.int .i64 v) (W.heap.size + 1) (by simp)
        refine wpTree_step rfl (fun KK hKK => ?_)
        refine step_append_rowAt _ rfl (.tmp 53) (.tmp 59) 26 rfl W.heap.size 3 i0 (.int .i64 0) 1 8 Try.underlying26 hi hz0 hz1 hz2 rfl (by decide) _ 0 [] rfl hob 3 _ i ((zI V).take i) rfl (hT.below hBb (Nat.le_refl _)) (by simp; try omega) (one_ints _ _ fun u hu => List.mem_of_mem_take hu) (by unfold maxLen; omega) (by omega) hBb.size ?_
        intro a1 p1 w1 ho1 hg1 hat1
        have hB1 := hBb.grown hg1 hBb.size (fun j hj => (hob.lt j hj).1)
        refine hKK.out _ _ (.inr hB1) ?_
        clear hKK KK
        simp only [Act.put, List.setIfInBounds_toArray, List.set_cons_zero, List.set_cons_succ]
        refine wpTree_step rfl (fun KK hKK => ?_)
        refine step_append_rowAt _ rfl (.tmp 60) (.tmp 62) 26 rfl W.heap.size 3 i0 (.int .i64 0) 1 8 Try.underlying26 hi hz0 hz1 hz2 rfl (by decide) _ (0 + i) ([] ++ (zI V).take i) rfl ho1 3 _ 1 [Value.int .i64 v] rfl (hrb.off hg1 (by simp) (fun e => Nat.succ_ne_self _ (Option.some.inj (e : some (W.heap.size + 1) = some W.heap.size)))) (by simp; try omega) (by simp [Value.oneCell']) (by unfold maxLen; omega) (by omega) hB1.size ?_
        intro a2 p2 w2 ho2 hg2 hat2
        have hB2 := hB1.grown hg2 hB1.size (fun j hj => (ho1.lt j hj).1)
        refine hKK.out _ _ (.inr hB2) ?_
        clear hKK KK
        simp only [Act.put, List.setIfInBounds_toArray, List.set_cons_zero, List.set_cons_succ]
        refine wpTree_step rfl (fun KK hKK => ?_)
        refine step_append_rowAt _ rfl (.tmp 63) (.tmp 69) 26 rfl W.heap.size 3 i0 (.int .i64 0) 1 8 Try.underlying26 hi hz0 hz1 hz2 rfl (by decide) _ (0 + i + 1) ([] ++ (zI V).take i ++ [Value.int .i64 v]) rfl ho2 3 _ (n' - i) ((zI V).drop i) rfl (hD.below hB2 (Nat.le_refl _)) (by simp; try omega) (one_ints _ _ fun u hu => List.mem_of_mem_drop hu) (by unfold maxLen; omega) (by omega) hB2.size ?_
        intro a3 p3 w3 ho3 hg3 hat3
        have hB3 := hB2.grown hg3 hB2.size (fun j hj => (ho2.lt j hj).1)
        refine hKK.out _ _ (.inr hB3) ?_
        clear hKK KK
        simp only [Act.put, List.setIfInBounds_toArray, List.set_cons_zero, List.set_cons_succ]
        refine wpTree_still (v := ?_) rfl (by rfl) (by assumption) ?_ ?_
        rotate_left
        · go_simp
          try with_reducible rfl
        simp only [Act.put, List.setIfInBounds_toArray, List.set_cons_zero, List.set_cons_succ]
        refine wpTree_still (v := ?_) rfl (by rfl) (by assumption) ?_ ?_
        rotate_left
        · go_simp
          try with_reducible rfl
        simp only [Act.put, List.setIfInBounds_toArray, List.set_cons_zero, List.set_cons_succ]
        simp only [Nat.zero_add] at ho3
        have cs : w3.cell? ⟨x, 1, none⟩ = some (.slice (some ⟨vb, vo, none⟩) n' vcap) := (hB3.cell (p := ⟨x, 1, none⟩) lx1).trans c1
        have fs : w3.frozen? ⟨x, 1, none⟩ = false := (hB3.frozen (p := ⟨x, 1, none⟩) lx1).trans f1
        refine wpTree_step rfl (fun KK hKK => ?_)
        go_simp
        refine hKK.out _ _ (.inl (Nat.le_refl _)) ?_
        clear hKK KK
        refine wpTree_done ?_
        go_end0
        exact ⟨rfl, set_fin hb1 hRK hK1 Hl HKn (ins_done (n := V.length + 1) hb1 hB3 rfl ho3 (by have := HVn.out; omega) (zI_ins V i v)) hpl HVn⟩
    · refine wpTree_run (v := ?_) (w' := ?_) rfl (by rfl) ?_ (.inr ?_) ?_
      rotate_left 2
      · go_simp
        refine ⟨?_, ?_⟩ <;> with_reducible rfl
      · exact (bel_drewN _ _ _).alloc (Nat.le_refl _) _
      simp only [Act.put, List.setIfInBounds_toArray, List.set_cons_zero, List.set_cons_succ]
      refine wpTree_run (v := ?_) (w' := ?_) rfl (by rfl) ?_ (.inr ?_) ?_
      rotate_left 2
      · go_simp
        refine ⟨?_, ?_⟩ <;> with_reducible rfl
      · exact ((bel_drewN _ _ _).alloc (Nat.le_refl _) _).alloc (by simp) _
      simp only [Act.put, List.setIfInBounds_toArray, List.set_cons_zero, List.set_cons_succ]
      have hBc : Below W.heap.size W (((W.drewN 1).alloc (.cells #[.int .i64 v] 3)).alloc (.cells #[] 3)) := ((bel_drewN W.heap.size W _).alloc (Nat.le_refl _) (.cells #[.int .i64 v] 3)).alloc (by simp) (.cells #[] 3)
      have hoc := own_new ((W.drewN 1).alloc (.cells #[.int .i64 v] 3)) W.heap.size 3 (W.heap.size + 1) (by simp) (by omega)
      have hrc := (row_new (W.drewN 1) 3 (.int .i64 v) W.heap.size rfl).off (World.grownBy_alloc _ (.cells #[] 3) none) (by simp) (by simp)
      refine wpTree_step rfl (fun KK hKK => ?_)
      refine step_append_rowAt _ rfl (.tmp 53) (.tmp 59) 26 rfl W.heap.size 3 i0 (.int .i64 0) 1 8 Try.underlying26 hi hz0 hz1 hz2 rfl (by decide) _ 0 [] rfl hoc 3 _ i ((zI V).take i) rfl (hT.below hBc (Nat.le_refl _)) (by simp; try omega) (one_ints _ _ fun u hu => List.mem_of_mem_take hu) (by unfold maxLen; omega) (by omega) hBc.size ?_
      intro a1 p1 w1 ho1 hg1 hat1
      have hB1 := hBc.grown hg1 hBc.size (fun j hj => (hoc.lt j hj).1)
      refine hKK.out _ _ (.inr hB1) ?_
      clear hKK KK
      simp only [Act.put, List.setIfInBounds_toArray, List.set_cons_zero, List.set_cons_succ]
      refine wpTree_step rfl (fun KK hKK => ?_)
      refine step_append_rowAt _ rfl (.tmp 60) (.tmp 62) 26 rfl W.heap.size 3 i0 (.int .i64 0) 1 8 Try.underlying26 hi hz0 hz1 hz2 rfl (by decide) _ (0 + i) ([] ++ (zI V).take i) rfl ho1 3 _ 1 [Value.int .i64 v] rfl (hrc.off hg1 (by simp; try omega) (fun e => Nat.succ_ne_self _ (Option.some.inj (e : some W.heap.size = some (W.heap.size + 1))).symm)) (by simp; try omega) (by simp [Value.oneCell']) (by unfold maxLen; omega) (by omega) hB1.size ?_
      intro a2 p2 w2 ho2 hg2 hat2
      have hB2 := hB1.grown hg2 hB1.size (fun j hj => (ho1.lt j hj).1)
      refine hKK.out _ _ (.inr hB2) ?_
      clear hKK KK
      simp only [Act.put, List.setIfInBounds_toArray, List.set_cons_zero, List.set_cons_succ]
      refine wpTree_step rfl (fun KK hKK => ?_)
      refine step_append_rowAt _ rfl (.tmp 63) (.tmp 69) 26 rfl W.heap.size 3 i0 (.int .i64 0) 1 8 Try.underlying26 hi hz0 hz1 hz2 rfl (by decide) _ (0 + i + 1) ([] ++ (zI V).take i ++ [Value.int .i64 v]) rfl ho2 3 _ (n' - i) ((zI V).drop i) rfl (hD.below hB2 (Nat.le_refl _)) (by simp; try omega) (one_ints _ _ fun u hu => List.mem_of_mem_drop hu) (by unfold maxLen; omega) (by omega) hB2.size ?_
      intro a3 p3 w3 ho3 hg3 hat3
      have hB3 := hB2.grown hg3 hB2.size (fun j hj => (ho2.lt j hj).1)
      refine hKK.out _ _ (.inr hB3) ?_
      clear hKK KK
      simp only [Act.put, List.setIfInBounds_toArray, List.set_cons_zero, List.set_cons_succ]
      refine wpTree_still (v := ?_) rfl (by rfl) (by assumption) ?_ ?_
      rotate_left
      · go_simp
        try with_reducible rfl
      simp only [Act.put, List.setIfInBounds_toArray, List.set_cons_zero, List.set_cons_succ]
      refine wpTree_still (v := ?_) rfl (by rfl) (by assumption) ?_ ?_
      rotate_left
      · go_simp
        try with_reducible rfl
      simp only [Act.put, List.setIfInBounds_toArray, List.set_cons_zero, List.set_cons_succ]
      simp only [Nat.zero_add] at ho3
      have cs : w3.cell? ⟨x, 1, none⟩ = some (.slice (some ⟨vb, vo, none⟩) n' vcap) := (hB3.cell (p := ⟨x, 1, none⟩) lx1).trans c1
      have fs : w3.frozen? ⟨x, 1, none⟩ = false := (hB3.frozen (p := ⟨x, 1, none⟩) lx1).trans f1
      refine wpTree_step rfl (fun KK hKK => ?_)
      go_simp
      refine hKK.out _ _ (.inl (Nat.le_refl _)) ?_
      clear hKK KK
      refine wpTree_done ?_
      go_end0
      exact ⟨rfl, set_fin hb1 hRK hK1 Hl HKn (ins_done (n := V.length + 1) hb1 hB3 rfl ho3 (by have := HVn.out; omega) (zI_ins V i v)) hpl HVn⟩

end Go.Proofs.Ytjahfjfanaocpaa
