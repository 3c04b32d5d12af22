/- votes: cast, good -/
import Derived.Test.YtjhpemlgcjdpfaaK
import Derived.Outline
namespace Go.Proofs.Ytjhpemlgcjdpfaa
open Go.RowKit

theorem wpList_store_part {P : Program} {ops : Array Oper} {rest : List Oper} {o : Oper} {a : Act} {w : World} {Q : Exit → Act → World → Prop} (hgd : o.guard = none) (ty : TypeId) (x y : Operand) (ho : o.op = .store ty x y)
    (g off : Nat) (cells : List Value) (hx : a.eval x = .pointer (some ⟨g, off, none⟩)) (hy : a.eval y = .agg cells.toArray) (t : TypeId) (cur : List Value) (hg : w.heap[g]? = some (.cells cur.toArray t (0, 0)))
    (hi : (P.info? ty).map (·.size) = some cells.length) (hfit : off + cells.length ≤ cur.length) (h1 : ∀ u ∈ cells, u.oneCell' = true)
    (h : wpList P ops Q rest (a.put o.dst undef) (w.setRow g (splice cur off cells).toArray)) : wpList P ops Q (o :: rest) a w :=
  wpList_plain hgd fun _ hK => by
    have hr := run_storeCells_at (P := P) g off t cells 0 cur.toArray w hg (by simpa using hfit) h1
    simp only [Nat.add_zero] at hr
    have e : (cur.take off ++ cells ++ cur.drop (off + cells.length)) = splice cur off cells := by simp [splice]
    rw [e] at hr
    have hs : (storeVar ty ⟨g, off, none⟩ (.agg cells.toArray)).run P w = .ok () (w.setRow g (splice cur off cells).toArray) := by
      cases hq : P.info? ty with
      | none => simp [hq] at hi
      | some i =>
        have hsz : i.size = cells.length := by simpa [hq] using hi
        simp [storeVar, sizeOf, typeInfo, hq, Value.cells, hsz, hr]
    unfold Oper.wp execOp
    simp only [ho, hx, hy, Instr.storeAt, Instr.sureAddr, Sem.run_bind, Sem.run_pure, Result.andThen_ok, hs]
    exact hK _ _ h

theorem splice_mid {α : Type} (pre A B post : List α) (n : Nat) (hn : pre.length = n) (hl : A.length = B.length) : splice (pre ++ (A ++ post)) n B = pre ++ (B ++ post) := by
  subst hn
  unfold splice
  rw [List.take_left, List.drop_append, List.drop_eq_nil_of_le (by omega), List.nil_append, show pre.length + B.length - pre.length = A.length by omega, List.drop_left]

def places26 : Array (Nat × Nat) := #[(0, 1), (1, 1), (2, 1), (3, 32), (35, 1), (36, 32)]
theorem built26_fill (ps : List (Nat × Value)) : Try.prog.built 26 ps = Instr.fill (fun i => places26[i]?) VoteM.nil.cells.toArray ps := by kernel_rfl
theorem built26 (a b c e : Int) (s : List Int) (hs : s.length = 32) :
    Try.prog.built 26 [(0, .int .i64 a), (1, .int .i64 b), (2, .int .i64 c), (3, .agg (zB s).toArray), (4, .int .i64 e)] = some (VoteM.mk a b c s e z32).arr := by
  rw [built26_fill]
  have e0 : VoteM.nil.cells = [] ++ ([.int .i64 0] ++ ([.int .i64 0, .int .i64 0] ++ (zB z32 ++ (.int .i64 0 :: zB z32)))) := rfl
  rw [e0, fill_part _ _ [.int .i64 a] 0 0 1 _ _ rfl rfl rfl (by simp [z32]), splice_mid (α := Value) [] [.int .i64 0] [.int .i64 a] _ 0 rfl rfl]
  have e1 : [] ++ ([Value.int .i64 a] ++ ([.int .i64 0, .int .i64 0] ++ (zB z32 ++ (.int .i64 0 :: zB z32)))) = [Value.int .i64 a] ++ ([.int .i64 0] ++ ([.int .i64 0] ++ (zB z32 ++ (.int .i64 0 :: zB z32)))) := rfl
  rw [e1, fill_part _ _ [.int .i64 b] 1 1 1 _ _ rfl rfl rfl (by simp [z32]), splice_mid (α := Value) [.int .i64 a] [.int .i64 0] [.int .i64 b] _ 1 rfl rfl]
  have e2 : [Value.int .i64 a] ++ ([.int .i64 b] ++ ([.int .i64 0] ++ (zB z32 ++ (.int .i64 0 :: zB z32)))) = [Value.int .i64 a, .int .i64 b] ++ ([.int .i64 0] ++ (zB z32 ++ (.int .i64 0 :: zB z32))) := rfl
  rw [e2, fill_part _ _ [.int .i64 c] 2 2 1 _ _ rfl rfl rfl (by simp [z32]), splice_mid (α := Value) [.int .i64 a, .int .i64 b] [.int .i64 0] [.int .i64 c] _ 2 rfl rfl]
  have e3 : [Value.int .i64 a, .int .i64 b] ++ ([.int .i64 c] ++ (zB z32 ++ (.int .i64 0 :: zB z32))) = [Value.int .i64 a, .int .i64 b, .int .i64 c] ++ (zB z32 ++ (.int .i64 0 :: zB z32)) := rfl
  rw [e3, fill_part _ _ (zB s) 3 3 32 _ _ rfl rfl (by simp [hs]) (by simp [z32]), splice_mid (α := Value) [.int .i64 a, .int .i64 b, .int .i64 c] (zB z32) (zB s) _ 3 rfl (by simp [hs, z32])]
  have e4 : [Value.int .i64 a, .int .i64 b, .int .i64 c] ++ (zB s ++ (.int .i64 0 :: zB z32)) = ([Value.int .i64 a, .int .i64 b, .int .i64 c] ++ zB s) ++ ([.int .i64 0] ++ zB z32) := by simp
  rw [e4, fill_part _ _ [.int .i64 e] 4 35 1 _ _ rfl rfl rfl (by simp [hs, z32]), splice_mid (α := Value) ([Value.int .i64 a, Value.int .i64 b, Value.int .i64 c] ++ zB s) [Value.int .i64 0] [Value.int .i64 e] _ 35 (by simp [hs]) rfl]
  unfold Instr.fill VoteM.arr VoteM.cells
  simp
theorem splice_tag (a b c e : Int) (s t t' : List Int) (hs : s.length = 32) (ht : t.length = t'.length) : splice (VoteM.mk a b c s e t).cells 36 (zB t') = (VoteM.mk a b c s e t').cells := by
  have e1 : (VoteM.mk a b c s e t).cells = ([Value.int .i64 a, .int .i64 b, .int .i64 c] ++ zB s ++ [.int .i64 e]) ++ (zB t ++ []) := by simp [VoteM.cells]
  rw [e1, splice_mid _ (zB t) (zB t') [] 36 (by simp [hs]) (by simp [ht])]
  simp [VoteM.cells]

/-- is a vote that of whom it says? -/
def goodB (n : Nat) (key : Nat → List Int) (v : VoteM) : Bool := chk n key v.frm (bodyB v) v.tag
/-- a node's vote -/
def castV (n : Nat) (key : Nat → List Int) (kind slot view : Int) (sum : List Int) (frm : Int) : VoteM :=
  ⟨kind, slot, view, sum, frm, sealB n key frm (bodyB ⟨kind, slot, view, sum, frm, z32⟩)⟩
theorem castV_ok (n : Nat) (key : Nat → List Int) (kind slot view : Int) (sum : List Int) (frm : Int) (h : sum.length = 32) : (castV n key kind slot view sum frm).Ok := ⟨h, sealB_length _ _ _ _⟩
theorem goodB_cast (n : Nat) (key : Nat → List Int) (kind slot view : Int) (sum : List Int) (frm : Int) : goodB n key (castV n key kind slot view sum frm) = decide (0 ≤ frm ∧ frm < n) := by
  have h : sealB n key (castV n key kind slot view sum frm).frm (bodyB (castV n key kind slot view sum frm)) = (castV n key kind slot view sum frm).tag := rfl
  rw [goodB, chk, h, decide_eq_true rfl, Bool.and_true]
  rfl
theorem desc26 : ∃ d, Try.prog.underlying 26 = some d ∧ d.isRow = true := ⟨_, Try.underlying26, rfl⟩

set_option maxRecDepth 1000000 in
set_option maxHeartbeats 4000000 in
theorem good_any (w : World) (r : Value) (n : Nat) (key : Nat → List Int) (h : RingOk w r n key) (v : VoteM) (hv : v.Ok) :
    Calls Try.prog 20 #[r, v.val] w fun ee w' => ee = .returned (.bool (goodB n key v)) ∧ Below w.heap.size w w' := by
  have a35 := VoteM.at35 hv
  have hval : v.val = .agg v.arr := rfl
  rw [hval]
  clear hval
  have hB1d : Below w.heap.size w (w.alloc (.cells v.arr 26)).drew := ((Below.refl _ _).alloc (Nat.le_refl _) _).drew
  have hr := h.below hB1d
  have hT : (w.alloc (.cells v.arr 26)).drew.heap[w.heap.size]? = some (.cells v.arr 26 (0, 0)) := World.alloc_heap_new w _
  have hlT := (Array.getElem?_eq_some_iff.1 hT).1
  go_enter Try.func20, Try.ntmps20
  go_wp2
  refine wp_region_M (.cut 7 (.read 0 (.read 1 (.read 2 (.read 3 (.read 5 (.read 6 (.step 4 (.cut 8 (.step 7 (.step 8 .done))))))))))) (by kernel_rfl) (by kernel_rfl) (fun _ d _ _ _ h => by cases d <;> exact h) ?_
  refine wpM_cut (fun w' => w'.heap[w.heap.size]? = some (.cells v.arr 26 (0, 0)) ∧ w'.cell? ⟨w.heap.size, 35, none⟩ = some (.int .i64 v.frm)) (⟨hT, (cell_of_block hT 35).trans a35⟩) ?_
  refine wpM_read (v := ?_) rfl (by rfl) ?_ ?_
  rotate_left
  · intro w' hS'
    try obtain ⟨hS1, hS2⟩ := hS'
    go_simp
    try with_reducible rfl
  try simp only [Act.put, List.setIfInBounds_toArray, List.set_cons_zero, List.set_cons_succ]
  refine wpM_read (v := ?_) rfl (by rfl) ?_ ?_
  rotate_left
  · intro w' hS'
    try obtain ⟨hS1, hS2⟩ := hS'
    go_simp
    try with_reducible rfl
  try simp only [Act.put, List.setIfInBounds_toArray, List.set_cons_zero, List.set_cons_succ]
  refine wpM_read (v := ?_) rfl (by rfl) ?_ ?_
  rotate_left
  · intro w' hS'
    try obtain ⟨hS1, hS2⟩ := hS'
    go_simp
    try with_reducible rfl
  try simp only [Act.put, List.setIfInBounds_toArray, List.set_cons_zero, List.set_cons_succ]
  refine wpM_read (v := .agg v.cells.toArray) rfl (by rfl) ?_ ?_
  · intro w' hS'
    exact exec_load_mid 26 (.tmp 3) (by with_reducible rfl) w.heap.size 0 rfl v.cells _ (range_of hS'.1 0 _ (fun j _ => by simp [VoteM.arr])) Try.underlying26 rfl (by rw [info26, VoteM.length hv])
  try simp only [Act.put, List.setIfInBounds_toArray, List.set_cons_zero, List.set_cons_succ]
  refine wpM_read (v := ?_) rfl (by rfl) ?_ ?_
  rotate_left
  · intro w' hS'
    try obtain ⟨hS1, hS2⟩ := hS'
    go_simp
    try with_reducible rfl
  try simp only [Act.put, List.setIfInBounds_toArray, List.set_cons_zero, List.set_cons_succ]
  refine wpM_read (v := .agg (zB v.tag).toArray) rfl (by rfl) ?_ ?_
  · intro w' hS'
    exact exec_load_mid 24 (.tmp 10) (by with_reducible rfl) w.heap.size 36 rfl (zB v.tag) (.array 32 5) (range_of hS'.1 36 _ (fun j _ => VoteM.at_tag hv j)) Try.underlying24 rfl (by rw [info24]; simp [hv.tag])
  try simp only [Act.put, List.setIfInBounds_toArray, List.set_cons_zero, List.set_cons_succ]
  refine wpM_step rfl (fun KK hKK => ?_)
  go_simp
  go_at_call 50
  refine (body_any _ v hv).mono ?_
  rintro e w5 ⟨v5, rfl, hR5, hB5⟩
  have hT5 := (hB5.block _ hlT).trans hT
  have hr5 := hr.below hB5
  refine hKK.out _ _ (.inr ⟨hT5, (cell_of_block hT5 35).trans a35⟩) ?_
  clear hKK KK
  try simp only [Act.put, List.setIfInBounds_toArray, List.set_cons_zero, List.set_cons_succ]
  refine wpM_cut (fun _ => True) (trivial) ?_
  refine wpM_step rfl (fun KK hKK => ?_)
  go_simp
  go_at_call 53
  refine (check_ok _ r n key hr5 v.frm v5 5 (bodyB v) v.tag (by have := bodyB_len hv; omega) hv.tag hR5).mono ?_
  rintro e w6 ⟨rfl, hB6⟩
  refine hKK.out _ _ (.inr trivial) ?_
  clear hKK KK
  try simp only [Act.put, List.setIfInBounds_toArray, List.set_cons_zero, List.set_cons_succ]
  refine wpM_still (v := ?_) rfl (by rfl) (by first | exact .inl (by decide) | exact .inr trivial) ?_ ?_
  rotate_left
  · go_simp
    try with_reducible rfl
  try simp only [Act.put, List.setIfInBounds_toArray, List.set_cons_zero, List.set_cons_succ]
  refine wpM_done ?_
  go_wp2
  go_ret
  exact ⟨rfl, hB1d.trans ((hB5.mono (by simp)).trans (hB6.mono (by have := hB5.size; simp at this; omega)))⟩

set_option maxRecDepth 1000000 in
set_option maxHeartbeats 4000000 in
theorem cast_any (w : World) (rb n : Nat) (key : Nat → List Int) (h : RingAt w rb n key) (kind slot view frm : Int) (sum : List Int) (hs : sum.length = 32) :
    Calls Try.prog 18 #[.pointer (some ⟨rb, 0, none⟩), .int .i64 kind, .int .i64 slot, .int .i64 view, .agg (zB sum).toArray, .int .i64 frm] w fun ee w' => ee = .returned (castV n key kind slot view sum frm).val ∧ Below w.heap.size w w' := by
  obtain ⟨v0, hv0⟩ : ∃ v0 : VoteM, v0 = ⟨kind, slot, view, sum, frm, z32⟩ := ⟨_, rfl⟩
  have ho0 : v0.Ok := by rw [hv0]; exact ⟨hs, rfl⟩
  have hb0 : Try.prog.built 26 [(0, .int .i64 kind), (1, .int .i64 slot), (2, .int .i64 view), (3, .agg (zB sum).toArray), (4, .int .i64 frm)] = some v0.arr := by rw [hv0]; exact built26 _ _ _ _ _ hs
  have hn : Hid (VoteM.arr v0 = v0.cells.toArray) := rfl
  have e1 : (w.alloc (.cells (zB sum).toArray 24)).heap[w.heap.size]? = some (.cells (zB sum).toArray 24 (0, 0)) := World.alloc_heap_new w _
  have e2 : ((w.alloc (.cells (zB sum).toArray 24)).alloc (.cells VoteM.nil.arr 26)).heap[w.heap.size]? = some (.cells (zB sum).toArray 24 (0, 0)) := (Below.heap_alloc _ _ _ (by simp)).trans e1
  have hi24 : (Try.prog.info? 24).map (·.size) = some (zB sum).toArray.size := by rw [info24]; simp [hs]
  have hi26 : (Try.prog.info? 26).map (·.size) = some v0.arr.size := by rw [info26]; simp [VoteM.arr, VoteM.length ho0]
  have hz26 : VoteM.nil.arr.size = v0.arr.size := by simp [VoteM.arr, VoteM.length ho0, VoteM.length ok_nil]
  have ho26 : v0.arr.all (·.oneCell') = true := all_oneCell_toArray VoteM.one
  have Hi24 := Lib.hid hi24
  have Hi26 := Lib.hid hi26
  have Hz26 := Lib.hid hz26
  have Ho26 := Lib.hid ho26
  have Hb0 := Lib.hid hb0
  have Hv0 := Lib.hid hv0
  have Hs := Lib.hid hs
  clear hi24 hi26 hz26 ho26 hb0 e1 hv0 hs
  have n2 : (((w.alloc (.cells (zB sum).toArray 24)).alloc (.cells VoteM.nil.arr 26)).alloc (.cells VoteM.nil.arr 26)).heap[w.heap.size + 1 + 1]? = some (.cells VoteM.nil.arr 26 (0, 0)) := by
    have h := World.alloc_heap_new ((w.alloc (.cells (zB sum).toArray 24)).alloc (.cells VoteM.nil.arr 26)) (.cells VoteM.nil.arr 26)
    simp only [World.size_alloc] at h
    exact h
  have n1 : (((w.alloc (.cells (zB sum).toArray 24)).alloc (.cells VoteM.nil.arr 26)).alloc (.cells VoteM.nil.arr 26)).heap[w.heap.size + 1]? = some (.cells VoteM.nil.arr 26 (0, 0)) := by
    refine (Below.heap_alloc _ _ _ (by simp)).trans ?_
    have h := World.alloc_heap_new (w.alloc (.cells (zB sum).toArray 24)) (.cells VoteM.nil.arr 26)
    simp only [World.size_alloc] at h
    exact h
  have hB3 : Below w.heap.size w ((((w.alloc (.cells (zB sum).toArray 24)).alloc (.cells VoteM.nil.arr 26)).alloc (.cells VoteM.nil.arr 26)).setRow (w.heap.size + 1 + 1) v0.arr) :=
    below_setRow ((((Below.refl _ _).alloc (Nat.le_refl _) _).alloc (by simp) _).alloc (by simp; omega) _) (by omega) _
  have m2 := setRow_heap _ (w.heap.size + 1 + 1) VoteM.nil.arr v0.arr 26 (0, 0) n2
  have m1 := (setRow_other (((w.alloc (.cells (zB sum).toArray 24)).alloc (.cells VoteM.nil.arr 26)).alloc (.cells VoteM.nil.arr 26)) (w.heap.size + 1 + 1) (w.heap.size + 1) v0.arr (by omega)).trans n1
  have hl2 := (Array.getElem?_eq_some_iff.1 m2).1
  go_enter Try.func18, Try.ntmps18
  go_wp2_with (first
    | (refine wpList_allocT rfl 26 (by with_reducible rfl) VoteM.nil.arr zero26 ?_; try simp only [World.size_alloc])
    | (refine wpList_load_row rfl 24 (.tmp 10) (by with_reducible rfl) w.heap.size ?_ 24 (zB sum).toArray (0, 0) _ ?_ Try.underlying24 rfl ?_ ?_; rfl; exact e2; exact Hi24.out)
    | (refine wpList_buildT rfl 26 [(0, .tmp 14), (1, .tmp 15), (2, .tmp 16), (3, .tmp 17), (4, .tmp 18)] (by with_reducible rfl) v0.arr ?_ ?_; exact Hb0.out)
    | (refine wpList_store_row rfl 26 (.tmp 13) (.tmp 19) (by with_reducible rfl) (w.heap.size + 1 + 1) v0.arr ?_ ?_ 26 VoteM.nil.arr ?_ ?_ ?_ ?_ ?_; rfl; rfl; exact n2; exact Hi26.out; exact Hz26.out; exact Ho26.out)
    | (refine wpList_load_row rfl 26 (.tmp 13) (by with_reducible rfl) (w.heap.size + 1 + 1) ?_ 26 v0.arr (0, 0) _ ?_ Try.underlying26 rfl ?_ ?_; rfl; exact m2; exact Hi26.out))
  refine (body_any _ v0 ho0).mono ?_
  rintro e w4 ⟨v4, rfl, hR4, hB4⟩
  have m2b := (hB4.block _ hl2).trans m2
  have m1b := (hB4.block _ (by omega)).trans m1
  have hB5 : Below w.heap.size w w4 := hB3.trans (hB4.mono (by omega))
  have hr4 := h.below hB5
  clear n1 n2 m1 m2 hB3 hB4 e2
  go_wp2_with fail
  refine (seal_any w4 rb n key hr4 frm v4 5 (bodyB v0) (by have := bodyB_len ho0; omega) hR4).mono ?_
  rintro e w5 ⟨rfl, hB6⟩
  have m2c := (hB6.block _ (Array.getElem?_eq_some_iff.1 m2b).1).trans m2b
  have m1c := (hB6.block _ (Array.getElem?_eq_some_iff.1 m1b).1).trans m1b
  have hB7 : Below w.heap.size w w5 := hB5.trans (hB6.mono hB5.size)
  have hSl := sealB_length n key frm (bodyB v0)
  obtain ⟨v1, hv1⟩ : ∃ v1, v1 = castV n key kind slot view sum frm := ⟨_, rfl⟩
  have hsp : splice v0.cells 36 (zB (sealB n key frm (bodyB v0))) = v1.cells := by
    rw [hv1, Hv0.out]; exact splice_tag _ _ _ _ _ _ _ Hs.out (by rw [sealB_length]; rfl)
  have hv1o : v1.Ok := by rw [hv1]; exact castV_ok _ _ _ _ _ _ _ Hs.out
  generalize hM : sealB n key frm (bodyB v0) = M at *
  have hi24 : (Try.prog.info? 24).map (·.size) = some (zB M).length := by rw [info24]; simp [hSl]
  have hfit : 36 + (zB M).length ≤ v0.cells.length := by rw [VoteM.length ho0]; simp [hSl]
  have m2d := setRow_heap w5 (w.heap.size + 1 + 1) v0.arr (splice v0.cells 36 (zB M)).toArray 26 (0, 0) m2c
  have m1d := (setRow_other w5 (w.heap.size + 1 + 1) (w.heap.size + 1) (splice v0.cells 36 (zB M)).toArray (by omega)).trans m1c
  have hi26 : (Try.prog.info? 26).map (·.size) = some (splice v0.cells 36 (zB M)).toArray.size := by rw [info26, hsp]; simp [VoteM.length hv1o]
  have hz26 : VoteM.nil.arr.size = (splice v0.cells 36 (zB M)).toArray.size := by rw [hsp]; simp [VoteM.arr, VoteM.length hv1o, VoteM.length ok_nil]
  have ho26 : (splice v0.cells 36 (zB M)).toArray.all (·.oneCell') = true := by rw [hsp]; exact all_oneCell_toArray VoteM.one
  have Hj24 := Lib.hid hi24
  have Hfit := Lib.hid hfit
  have Hj26 := Lib.hid hi26
  have Hzj := Lib.hid hz26
  have Hoj := Lib.hid ho26
  have Hsp := Lib.hid hsp
  have Hv1 := Lib.hid hv1
  clear hi24 hfit hi26 hz26 ho26 hsp hv1 hSl hM
  go_wp2_with (first
    | (refine wpList_store_part rfl 24 (.tmp 25) (.tmp 24) (by with_reducible rfl) (w.heap.size + 1 + 1) 36 (zB M) ?_ ?_ 26 v0.cells ?_ ?_ ?_ ?_ ?_; rfl; rfl; exact m2c; exact Hj24.out; exact Hfit.out; exact one_bytes _)
    | (refine wpList_load_row rfl 26 (.tmp 13) (by with_reducible rfl) (w.heap.size + 1 + 1) ?_ 26 (splice v0.cells 36 (zB M)).toArray (0, 0) _ ?_ Try.underlying26 rfl ?_ ?_; rfl; exact m2d; exact Hj26.out)
    | (refine wpList_store_row rfl 26 (.tmp 12) (.tmp 26) (by with_reducible rfl) (w.heap.size + 1) (splice v0.cells 36 (zB M)).toArray ?_ ?_ 26 VoteM.nil.arr ?_ ?_ ?_ ?_ ?_; rfl; rfl; exact m1d; exact Hj26.out; exact Hzj.out; exact Hoj.out))
  have hh7 := setRow_heap _ (w.heap.size + 1) VoteM.nil.arr (splice v0.cells 36 (zB M)).toArray 26 (0, 0) m1d
  refine bodyPost_ret (results_cell_row (p := 12) (ty := 26) rfl _ _ (w.heap.size + 1) 26 _ (0, 0) _ rfl hh7 Try.underlying26 rfl Hj26.out) rfl ⟨?_, below_setRow (below_setRow hB7 (by omega) _) (by omega) _⟩
  rw [Hsp.out, ← Hv1.out]
  rfl
end Go.Proofs.Ytjhpemlgcjdpfaa
