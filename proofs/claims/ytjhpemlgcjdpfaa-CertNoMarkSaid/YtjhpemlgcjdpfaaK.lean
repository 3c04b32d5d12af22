/- the nodes' seals -/
import Derived.Test.YtjhpemlgcjdpfaaJ
namespace Go.Proofs.Ytjhpemlgcjdpfaa
open Go.RowKit

theorem exec_load_mid {P : Program} {op : Oper} {a : Act} {w : World} (ty : TypeId) (x : Operand) (ho : op.op = .load ty x)
    (b o : Nat) (hx : a.eval x = .pointer (some ⟨b, o, none⟩)) (cs : List Value) (d : TypeDesc) (hc : w.rangeAt b o cs)
    (hu : P.underlying ty = some d) (hd : d.isRow = true) (hi : (P.info? ty).map (·.size) = some cs.length) : (execOp a.eval op).run P w = .ok (.value (.agg cs.toArray)) w := by
  unfold execOp
  simp only [ho, hx, Instr.loadAt, Instr.sureAddr, Sem.run_bind, Sem.run_pure, Result.andThen_ok, run_loadVar_mid w b o ty cs d hc hu hd hi]
theorem range_of {w : World} {b : Nat} {C : Array Value} {t : TypeId} {fr : Nat × Nat} (hb : w.heap[b]? = some (.cells C t fr)) (o : Nat) (cs : List Value) (h : ∀ j, j < cs.length → C[o + j]? = cs[j]?) : w.rangeAt b o cs := fun j v hv => by
  rw [cell_of_block hb, h j (List.getElem?_eq_some_iff.1 hv).1, hv]

/-- the nodes' keys -/
structure RingAt (w : World) (rb n : Nat) (key : Nat → List Int) : Prop where
  ex : ∃ kb cap cur, w.heap[rb]? = some (.cells #[.slice (some ⟨kb, 0, none⟩) n cap] 83 (0, 0)) ∧ w.heap[kb]? = some (.cells cur 24 (0, 0)) ∧ n ≤ cap ∧ cap ≤ maxLen ∧ ∀ i, i < n → ∀ j, j < 32 → cur[i * 32 + j]? = (zB (key i))[j]?
  len : ∀ i, (key i).length = 32
  small : n ≤ 10
theorem RingAt.below {w w' : World} {rb n : Nat} {key : Nat → List Int} (h : RingAt w rb n key) (hb : Below w.heap.size w w') : RingAt w' rb n key := by
  obtain ⟨kb, cap, cur, h1, h2, h3⟩ := h.ex
  exact ⟨⟨kb, cap, cur, (hb.block _ (Array.getElem?_eq_some_iff.1 h1).1).trans h1, (hb.block _ (Array.getElem?_eq_some_iff.1 h2).1).trans h2, h3⟩, h.len, h.small⟩
theorem RingAt.size {w : World} {rb n : Nat} {key : Nat → List Int} (h : RingAt w rb n key) : rb < w.heap.size := by
  obtain ⟨kb, cap, cur, h1, h2, h3⟩ := h.ex
  exact (Array.getElem?_eq_some_iff.1 h1).1
/-- a node's seal -/
def sealB (n : Nat) (key : Nat → List Int) (i : Int) (l : List Int) : List Int := if 0 ≤ i ∧ i < n then macB (key i.toNat) l else z32
theorem sealB_length (n : Nat) (key : Nat → List Int) (i : Int) (l : List Int) : (sealB n key i l).length = 32 := by
  unfold sealB; split
  · exact macB_length _ _
  · rfl

theorem nodes_any (w : World) (rb n : Nat) (key : Nat → List Int) (h : RingAt w rb n key) : Calls Try.prog 59 #[.pointer (some ⟨rb, 0, none⟩)] w fun ee w' => ee = .returned (.int .i64 n) ∧ w = w' := by
  obtain ⟨kb, cap, cur, h1, h2, h3⟩ := h.ex
  have c1 := cell_of_block h1 0
  simp at c1
  go_enter Try.func59, Try.ntmps59
  go_wp2
  go_ret
  exact ⟨rfl, rfl⟩
theorem nodes_nil (w : World) : Calls Try.prog 59 #[.pointer none] w fun ee w' => ee = .returned (.int .i64 0) ∧ w = w' := by
  go_enter Try.func59, Try.ntmps59
  go_wp2
  go_ret
  exact ⟨rfl, rfl⟩

set_option maxRecDepth 1000000 in
set_option maxHeartbeats 4000000 in
theorem seal_any (w : World) (rb n : Nat) (key : Nat → List Int) (h : RingAt w rb n key) (i : Int) (v : Value) (e : TypeId) (l : List Int) (hl : l.length ≤ 140737488355000) (hR : RowAt w e v l.length (zB l)) :
    Calls Try.prog 49 #[.pointer (some ⟨rb, 0, none⟩), .int .i64 i, v] w fun ee w' => ee = .returned (.agg (zB (sealB n key i l)).toArray) ∧ Below w.heap.size w w' := by
  have hB1 : Below w.heap.size w (w.alloc (.cells Z32 24)) := (Below.refl _ _).alloc (Nat.le_refl _) _
  have hr1 := h.below hB1
  have hn4 : (w.alloc (.cells Z32 24)).heap[w.heap.size]? = some (.cells Z32 24 (0, 0)) := World.alloc_heap_new w _
  have hi24 : (Try.prog.info? 24).map (·.size) = some Z32.size := by kernel_rfl
  have hz1 : Z32.all (·.oneCell') = true := by kernel_rfl
  have hzz : Hid (Z32 = (zB z32).toArray) := by show _ = _; kernel_rfl
  by_cases hin : 0 ≤ i ∧ i < n
  · obtain ⟨h0, h1⟩ := hin
    obtain ⟨k, rfl⟩ : ∃ k : Nat, i = k := ⟨i.toNat, by omega⟩
    obtain ⟨kb, cap, cur, g1, g2, g3, g4, g5⟩ := hr1.ex
    have c1 := cell_of_block g1 0
    simp at c1
    have hlk : kb < w.heap.size + 1 := by have := (Array.getElem?_eq_some_iff.1 g2).1; simpa using this
    have q0 : decide ((k : Int) < 0) = false := by simp
    have q1 : decide ((n : Int) ≤ (k : Int)) = false := by simp; omega
    have q2 : decide (n ≤ k) = false := by simp; omega
    have hK : RowAt (w.alloc (.cells Z32 24)) 24 (.slice (some ⟨kb, k * 32, none⟩) 32 32) (key k).length (zB (key k)) := by
      rw [h.len]
      refine .inr ⟨kb, k * 32, 32, _, (0, 0), rfl, Nat.le_refl _, by unfold maxLen; omega, g2, fun j hj => ?_⟩
      have hj2 : j < 32 := by simpa [h.len] using hj
      rw [g5 k (by omega) j hj2, List.getElem?_eq_getElem hj]
    have hR1 := hR.below hB1 (Nat.le_refl _)
    have hse : Hid (sealB n key k l = macB (key k) l) := by show _ = _; rw [sealB, if_pos ⟨h0, h1⟩, Int.toNat_natCast]
    rw [hse.out]
    have G5 := Lib.hid g5
    clear g5
    go_enter Try.func49, Try.ntmps49
    go_wp2_with (first
      | (refine wpList_allocT rfl 24 (by with_reducible rfl) Z32 zero24 ?_)
      | (go_at_call 59; refine (nodes_any _ rb n key hr1).mono ?_; rintro e w' ⟨rfl, rfl⟩))
    refine (mac_any _ _ _ 24 e (key k) l (by rw [h.len]; omega) hl hK hR1).mono ?_
    rintro ee w2 ⟨rfl, hB2⟩
    have hn5 := (hB2.block _ (by simp)).trans hn4
    have hB3 : Below w.heap.size w w2 := hB1.trans (hB2.mono (by simp))
    have hm : (macC (key k) l) = (zB (macB (key k) l)).toArray := rfl
    rw [hm]
    generalize hM : macB (key k) l = M at *
    have hMl : M.length = 32 := by rw [← hM, macB_length]
    have hi25 : (Try.prog.info? 24).map (·.size) = some (zB M).toArray.size := by rw [info24]; simp [hMl]
    have Hi25 := Lib.hid hi25
    have hC1 : (zB M).toArray.all (·.oneCell') = true := all_oneCell_toArray (one_bytes _)
    have hCs : Z32.size = (zB M).toArray.size := by simp [hMl]; rfl
    have HC1 := Lib.hid hC1
    have HCs := Lib.hid hCs
    have HM := Lib.hid hM
    clear hi25 hC1 hCs hM hm hMl
    go_wp2_with (refine wpList_store_row rfl 24 (.tmp 6) (.tmp 24) (by with_reducible rfl) w.heap.size (zB M).toArray rfl rfl 24 Z32 hn5 Hi25.out HCs.out HC1.out ?_)
    have hh7 := setRow_heap w2 w.heap.size Z32 (zB M).toArray 24 (0, 0) hn5
    refine bodyPost_ret (results_cell_row (p := 6) (ty := 24) rfl _ _ w.heap.size 24 _ (0, 0) (.array 32 5) rfl hh7 Try.underlying24 rfl Hi25.out) rfl ⟨by first | rfl | rw [HM.out], below_setRow hB3 (Nat.le_refl _) _⟩
  · have hse : Hid (sealB n key i l = z32) := by show _ = _; rw [sealB, if_neg hin]
    rw [hse.out]
    have hfin : ∀ (W : World), W = (w.alloc (.cells Z32 24)).setRow w.heap.size Z32 → W.heap[w.heap.size]? = some (.cells Z32 24 (0, 0)) ∧ Below w.heap.size w W := fun W hW => by
      subst hW; exact ⟨setRow_heap _ w.heap.size Z32 Z32 24 (0, 0) hn4, below_setRow hB1 (Nat.le_refl _) _⟩
    have hbd : Try.prog.built 24 [] = some Z32 := by kernel_rfl
    by_cases h0 : i < 0
    · have q0 : decide (i < 0) = true := by simpa using h0
      have q1 : ¬ (0 ≤ i) := by omega
      go_enter Try.func49, Try.ntmps49
      go_wp2_with (first
        | (refine wpList_allocT rfl 24 (by with_reducible rfl) Z32 zero24 ?_)
        | (refine wpList_buildT rfl 24 [] (by with_reducible rfl) Z32 hbd ?_)
        | (refine wpList_store_row rfl 24 (.tmp 6) (.tmp 15) (by with_reducible rfl) w.heap.size Z32 rfl rfl 24 Z32 hn4 hi24 rfl hz1 ?_))
      have hf := hfin _ rfl
      exact bodyPost_ret (results_cell_row (p := 6) (ty := 24) rfl _ _ w.heap.size 24 _ (0, 0) (.array 32 5) rfl hf.1 Try.underlying24 rfl hi24) rfl ⟨by rw [hzz.out], hf.2⟩
    · have q0 : decide (i < 0) = false := by simp; omega
      have q1 : 0 ≤ i := by omega
      have q2 : (n : Int) ≤ i := by omega
      have q3 : decide ((n : Int) ≤ i) = true := by simpa using q2
      go_enter Try.func49, Try.ntmps49
      go_wp2_with (first
        | (refine wpList_allocT rfl 24 (by with_reducible rfl) Z32 zero24 ?_)
        | (go_at_call 59; refine (nodes_any _ rb n key hr1).mono ?_; rintro e w' ⟨rfl, rfl⟩)
        | (refine wpList_buildT rfl 24 [] (by with_reducible rfl) Z32 hbd ?_)
        | (refine wpList_store_row rfl 24 (.tmp 6) (.tmp 15) (by with_reducible rfl) w.heap.size Z32 rfl rfl 24 Z32 hn4 hi24 rfl hz1 ?_))
      have hf := hfin _ rfl
      exact bodyPost_ret (results_cell_row (p := 6) (ty := 24) rfl _ _ w.heap.size 24 _ (0, 0) (.array 32 5) rfl hf.1 Try.underlying24 rfl hi24) rfl ⟨by rw [hzz.out], hf.2⟩

/-- is a tag a node's seal? -/
def chk (n : Nat) (key : Nat → List Int) (i : Int) (l tag : List Int) : Bool := decide (0 ≤ i ∧ i < n) && decide (sealB n key i l = tag)
theorem guard24 : Try.prog.eqGuardType Try.prog.depth 24 = false := by kernel_rfl
theorem eql24 (xs ys : List Int) (hx : xs.length = 32) (hy : ys.length = 32) (w : World) : (binOp .eql 24 (.agg (zB xs).toArray) (.agg (zB ys).toArray)).run Try.prog w = .ok (.bool (decide (xs = ys))) w := by
  rw [run_eql_struct, show (10000 : Nat) = 9998 + 2 from rfl, run_equalIn_bytes 9998 Try.underlying24 Try.underlying5 info5 w xs ys hx hy]
  rfl

set_option maxRecDepth 1000000 in
set_option maxHeartbeats 4000000 in
theorem check_any (w : World) (rb n : Nat) (key : Nat → List Int) (h : RingAt w rb n key) (i : Int) (v : Value) (e : TypeId) (l tag : List Int) (hl : l.length ≤ 140737488355000) (htag : tag.length = 32) (hR : RowAt w e v l.length (zB l)) :
    Calls Try.prog 53 #[.pointer (some ⟨rb, 0, none⟩), .int .i64 i, v, .agg (zB tag).toArray] w fun ee w' => ee = .returned (.bool (chk n key i l tag)) ∧ Below w.heap.size w w' := by
  have hB1 : Below w.heap.size w (w.alloc (.cells (zB tag).toArray 24)) := (Below.refl _ _).alloc (Nat.le_refl _) _
  have hB1d : Below w.heap.size w (w.alloc (.cells (zB tag).toArray 24)).drew := hB1.drew
  have hr1 := h.below hB1d
  have hT : (w.alloc (.cells (zB tag).toArray 24)).drew.heap[w.heap.size]? = some (.cells (zB tag).toArray 24 (0, 0)) := World.alloc_heap_new w _
  have hlT := (Array.getElem?_eq_some_iff.1 hT).1
  have Htag := Lib.hid htag
  have hG := guard24
  by_cases hin : 0 ≤ i ∧ i < n
  · obtain ⟨h0, h1⟩ := hin
    obtain ⟨k, rfl⟩ : ∃ k : Nat, i = k := ⟨i.toNat, by omega⟩
    have q0 : decide ((0 : Int) ≤ (k : Int)) = true := by simp
    have q1 : decide ((k : Int) < (n : Int)) = true := by simpa using h1
    have q2 : decide (k < n) = true := by simp; omega
    have hR2 := hR.below hB1d (Nat.le_refl _)
    have hr2 := hr1
    have hT2 := hT
    have heq := fun w => eql24 (sealB n key k l) tag (sealB_length _ _ _ _) htag w
    clear htag
    go_enter Try.func53, Try.ntmps53
    go_wp2
    refine wp_region_M (.cut 1 (.read 0 (.cut 2 (.read 1 (.cut 6 (.read 2 (.read 3 (.read 4 (.step 5 (.cut 7 (.read 6 (.cut 8 (.read 7 (.cut 14 (.read 8 (.read 9 (.read 10 (.read 11 (.read 13 (.step 12 (.cut 15 (.read 14 (.cut 16 (.read 15 (.step 16 .done))))))))))))))))))))))))) (by kernel_rfl) (by kernel_rfl) (fun _ d _ _ _ h => by cases d <;> exact h) ?_
    refine wpM_cut (fun _ => True) (trivial) ?_
    refine wpM_read (v := ?_) rfl (by rfl) ?_ ?_
    rotate_left
    · intro w' hS'
      try obtain ⟨hS1, hS2⟩ := hS'
      go_simp
      try with_reducible rfl
    try simp only [Act.put, List.setIfInBounds_toArray, List.set_cons_zero, List.set_cons_succ]
    refine wpM_cut (fun _ => True) (trivial) ?_
    refine wpM_read (v := ?_) rfl (by rfl) ?_ ?_
    rotate_left
    · intro w' hS'
      try obtain ⟨hS1, hS2⟩ := hS'
      go_simp
      try with_reducible rfl
    try simp only [Act.put, List.setIfInBounds_toArray, List.set_cons_zero, List.set_cons_succ]
    refine wpM_cut (fun _ => True) (trivial) ?_
    refine wpM_read (v := ?_) rfl (by rfl) ?_ ?_
    rotate_left
    · intro w' hS'
      try obtain ⟨hS1, hS2⟩ := hS'
      go_simp
      try with_reducible rfl
    try simp only [Act.put, List.setIfInBounds_toArray, List.set_cons_zero, List.set_cons_succ]
    refine wpM_read (v := ?_) rfl (by rfl) ?_ ?_
    rotate_left
    · intro w' hS'
      try obtain ⟨hS1, hS2⟩ := hS'
      go_simp
      try with_reducible rfl
    try simp only [Act.put, List.setIfInBounds_toArray, List.set_cons_zero, List.set_cons_succ]
    refine wpM_read (v := ?_) rfl (by rfl) ?_ ?_
    rotate_left
    · intro w' hS'
      try obtain ⟨hS1, hS2⟩ := hS'
      go_simp
      try with_reducible rfl
    try simp only [Act.put, List.setIfInBounds_toArray, List.set_cons_zero, List.set_cons_succ]
    refine wpM_step rfl (fun KK hKK => ?_)
    go_simp
    go_at_call 59
    refine (nodes_any _ rb n key hr1).mono ?_
    rintro e w5 ⟨rfl, rfl⟩
    refine hKK.out _ _ (.inr trivial) ?_
    clear hKK KK
    try simp only [Act.put, List.setIfInBounds_toArray, List.set_cons_zero, List.set_cons_succ]
    refine wpM_cut (fun _ => True) (trivial) ?_
    refine wpM_read (v := ?_) rfl (by rfl) ?_ ?_
    rotate_left
    · intro w' hS'
      try obtain ⟨hS1, hS2⟩ := hS'
      go_simp
      try with_reducible rfl
    try simp only [Act.put, List.setIfInBounds_toArray, List.set_cons_zero, List.set_cons_succ]
    refine wpM_cut (fun _ => True) (trivial) ?_
    refine wpM_read (v := ?_) rfl (by rfl) ?_ ?_
    rotate_left
    · intro w' hS'
      try obtain ⟨hS1, hS2⟩ := hS'
      go_simp
      try with_reducible rfl
    try simp only [Act.put, List.setIfInBounds_toArray, List.set_cons_zero, List.set_cons_succ]
    refine wpM_cut (fun w' => w'.heap[w.heap.size]? = some (.cells (zB tag).toArray 24 (0, 0))) (hT) ?_
    refine wpM_read (v := ?_) rfl (by rfl) ?_ ?_
    rotate_left
    · intro w' hS'
      try obtain ⟨hS1, hS2⟩ := hS'
      go_simp
      try with_reducible rfl
    try simp only [Act.put, List.setIfInBounds_toArray, List.set_cons_zero, List.set_cons_succ]
    refine wpM_read (v := ?_) rfl (by rfl) ?_ ?_
    rotate_left
    · intro w' hS'
      try obtain ⟨hS1, hS2⟩ := hS'
      go_simp
      try with_reducible rfl
    try simp only [Act.put, List.setIfInBounds_toArray, List.set_cons_zero, List.set_cons_succ]
    refine wpM_read (v := ?_) rfl (by rfl) ?_ ?_
    rotate_left
    · intro w' hS'
      try obtain ⟨hS1, hS2⟩ := hS'
      go_simp
      try with_reducible rfl
    try simp only [Act.put, List.setIfInBounds_toArray, List.set_cons_zero, List.set_cons_succ]
    refine wpM_read (v := ?_) rfl (by rfl) ?_ ?_
    rotate_left
    · intro w' hS'
      try obtain ⟨hS1, hS2⟩ := hS'
      go_simp
      try with_reducible rfl
    try simp only [Act.put, List.setIfInBounds_toArray, List.set_cons_zero, List.set_cons_succ]
    refine wpM_read (v := .agg (zB tag).toArray) rfl (by rfl) ?_ ?_
    · intro w' hS'
      exact exec_load_mid 24 (.tmp 7) (by with_reducible rfl) w.heap.size 0 rfl (zB tag) (.array 32 5) (range_of hS' 0 _ (fun j _ => by simp)) Try.underlying24 rfl (by rw [info24]; simp [Htag.out])
    try simp only [Act.put, List.setIfInBounds_toArray, List.set_cons_zero, List.set_cons_succ]
    refine wpM_step rfl (fun KK hKK => ?_)
    go_simp
    go_at_call 49
    refine (seal_any _ rb n key hr2 k v e l hl hR2).mono ?_
    rintro e w5 ⟨rfl, hB5⟩
    have hT5 := (hB5.block _ hlT).trans hT2
    refine hKK.out _ _ (.inr hT5) ?_
    clear hKK KK
    try simp only [Act.put, List.setIfInBounds_toArray, List.set_cons_zero, List.set_cons_succ]
    refine wpM_cut (fun _ => True) (trivial) ?_
    refine wpM_read (v := ?_) rfl (by rfl) ?_ ?_
    rotate_left
    · intro w' hS'
      try obtain ⟨hS1, hS2⟩ := hS'
      go_simp
      try with_reducible rfl
    try simp only [Act.put, List.setIfInBounds_toArray, List.set_cons_zero, List.set_cons_succ]
    refine wpM_cut (fun _ => True) (trivial) ?_
    refine wpM_read (v := ?_) rfl (by rfl) ?_ ?_
    rotate_left
    · intro w' hS'
      try obtain ⟨hS1, hS2⟩ := hS'
      go_simp
      try with_reducible rfl
    try simp only [Act.put, List.setIfInBounds_toArray, List.set_cons_zero, List.set_cons_succ]
    refine wpM_still (v := ?_) rfl (by rfl) (by first | exact .inl (by decide) | exact .inr trivial) ?_ ?_
    rotate_left
    · go_simp
      try with_reducible rfl
    try simp only [Act.put, List.setIfInBounds_toArray, List.set_cons_zero, List.set_cons_succ]
    refine wpM_done ?_
    go_wp2
    go_ret
    refine ⟨?_, hB1d.trans (hB5.mono (by simp))⟩
    simp [chk, h0, h1]
  · have hfin : chk n key i l tag = false := by rw [chk, decide_eq_false hin]; rfl
    have Hfin := Lib.hid hfin
    clear hfin
    by_cases h0 : i < 0
    · have q0 : decide ((0 : Int) ≤ i) = false := by simpa using h0
      go_enter Try.func53, Try.ntmps53
      go_wp2
      refine wp_region_M (.cut 1 (.read 0 (.cut 2 (.read 1 (.cut 6 (.read 2 (.read 3 (.read 4 (.step 5 (.cut 7 (.read 6 (.cut 8 (.read 7 (.cut 14 (.read 8 (.read 9 (.read 10 (.read 11 (.read 13 (.step 12 (.cut 15 (.read 14 (.cut 16 (.read 15 (.step 16 .done))))))))))))))))))))))))) (by kernel_rfl) (by kernel_rfl) (fun _ d _ _ _ h => by cases d <;> exact h) ?_
      refine wpM_cut (fun _ => True) (trivial) ?_
      refine wpM_read (v := ?_) rfl (by rfl) ?_ ?_
      rotate_left
      · intro w' hS'
        try obtain ⟨hS1, hS2⟩ := hS'
        go_simp
        try with_reducible rfl
      try simp only [Act.put, List.setIfInBounds_toArray, List.set_cons_zero, List.set_cons_succ]
      refine wpM_cut (fun _ => True) (trivial) ?_
      refine wpM_read (v := ?_) rfl (by rfl) ?_ ?_
      rotate_left
      · intro w' hS'
        try obtain ⟨hS1, hS2⟩ := hS'
        go_simp
        try with_reducible rfl
      try simp only [Act.put, List.setIfInBounds_toArray, List.set_cons_zero, List.set_cons_succ]
      refine wpM_cut (fun _ => True) (trivial) ?_
      refine wpM_read (v := ?_) rfl (by rfl) ?_ ?_
      rotate_left
      · intro w' hS'
        try obtain ⟨hS1, hS2⟩ := hS'
        go_simp
        try with_reducible rfl
      try simp only [Act.put, List.setIfInBounds_toArray, List.set_cons_zero, List.set_cons_succ]
      refine wpM_pass rfl (by rfl) ?_
      try simp only [Act.put, List.setIfInBounds_toArray, List.set_cons_zero, List.set_cons_succ]
      refine wpM_pass rfl (by rfl) ?_
      try simp only [Act.put, List.setIfInBounds_toArray, List.set_cons_zero, List.set_cons_succ]
      refine wpM_over rfl (by rfl) (by first | exact .inl (by decide) | exact .inr trivial) ?_
      try simp only [Act.put, List.setIfInBounds_toArray, List.set_cons_zero, List.set_cons_succ]
      refine wpM_cut (fun _ => True) (trivial) ?_
      refine wpM_pass rfl (by rfl) ?_
      try simp only [Act.put, List.setIfInBounds_toArray, List.set_cons_zero, List.set_cons_succ]
      refine wpM_cut (fun _ => True) (trivial) ?_
      refine wpM_read (v := ?_) rfl (by rfl) ?_ ?_
      rotate_left
      · intro w' hS'
        try obtain ⟨hS1, hS2⟩ := hS'
        go_simp
        try with_reducible rfl
      try simp only [Act.put, List.setIfInBounds_toArray, List.set_cons_zero, List.set_cons_succ]
      refine wpM_cut (fun _ => True) (trivial) ?_
      refine wpM_read (v := ?_) rfl (by rfl) ?_ ?_
      rotate_left
      · intro w' hS'
        try obtain ⟨hS1, hS2⟩ := hS'
        go_simp
        try with_reducible rfl
      try simp only [Act.put, List.setIfInBounds_toArray, List.set_cons_zero, List.set_cons_succ]
      refine wpM_pass rfl (by rfl) ?_
      try simp only [Act.put, List.setIfInBounds_toArray, List.set_cons_zero, List.set_cons_succ]
      refine wpM_pass rfl (by rfl) ?_
      try simp only [Act.put, List.setIfInBounds_toArray, List.set_cons_zero, List.set_cons_succ]
      refine wpM_pass rfl (by rfl) ?_
      try simp only [Act.put, List.setIfInBounds_toArray, List.set_cons_zero, List.set_cons_succ]
      refine wpM_pass rfl (by rfl) ?_
      try simp only [Act.put, List.setIfInBounds_toArray, List.set_cons_zero, List.set_cons_succ]
      refine wpM_over rfl (by rfl) (by first | exact .inl (by decide) | exact .inr trivial) ?_
      try simp only [Act.put, List.setIfInBounds_toArray, List.set_cons_zero, List.set_cons_succ]
      refine wpM_cut (fun _ => True) (trivial) ?_
      refine wpM_pass rfl (by rfl) ?_
      try simp only [Act.put, List.setIfInBounds_toArray, List.set_cons_zero, List.set_cons_succ]
      refine wpM_cut (fun _ => True) (trivial) ?_
      refine wpM_read (v := ?_) rfl (by rfl) ?_ ?_
      rotate_left
      · intro w' hS'
        try obtain ⟨hS1, hS2⟩ := hS'
        go_simp
        try with_reducible rfl
      try simp only [Act.put, List.setIfInBounds_toArray, List.set_cons_zero, List.set_cons_succ]
      refine wpM_still (v := ?_) rfl (by rfl) (by first | exact .inl (by decide) | exact .inr trivial) ?_ ?_
      rotate_left
      · go_simp
        try with_reducible rfl
      try simp only [Act.put, List.setIfInBounds_toArray, List.set_cons_zero, List.set_cons_succ]
      refine wpM_done ?_
      go_wp2
      go_ret
      exact ⟨by rw [Hfin.out]; rfl, hB1d⟩
    · have q0 : (0 : Int) ≤ i := by omega
      have q1 : (n : Int) ≤ i := by omega
      have q2 : decide (i < (n : Int)) = false := by simpa using q1
      go_enter Try.func53, Try.ntmps53
      go_wp2
      refine wp_region_M (.cut 1 (.read 0 (.cut 2 (.read 1 (.cut 6 (.read 2 (.read 3 (.read 4 (.step 5 (.cut 7 (.read 6 (.cut 8 (.read 7 (.cut 14 (.read 8 (.read 9 (.read 10 (.read 11 (.read 13 (.step 12 (.cut 15 (.read 14 (.cut 16 (.read 15 (.step 16 .done))))))))))))))))))))))))) (by kernel_rfl) (by kernel_rfl) (fun _ d _ _ _ h => by cases d <;> exact h) ?_
      refine wpM_cut (fun _ => True) (trivial) ?_
      refine wpM_read (v := ?_) rfl (by rfl) ?_ ?_
      rotate_left
      · intro w' hS'
        try obtain ⟨hS1, hS2⟩ := hS'
        go_simp
        try with_reducible rfl
      try simp only [Act.put, List.setIfInBounds_toArray, List.set_cons_zero, List.set_cons_succ]
      refine wpM_cut (fun _ => True) (trivial) ?_
      refine wpM_read (v := ?_) rfl (by rfl) ?_ ?_
      rotate_left
      · intro w' hS'
        try obtain ⟨hS1, hS2⟩ := hS'
        go_simp
        try with_reducible rfl
      try simp only [Act.put, List.setIfInBounds_toArray, List.set_cons_zero, List.set_cons_succ]
      refine wpM_cut (fun _ => True) (trivial) ?_
      refine wpM_read (v := ?_) rfl (by rfl) ?_ ?_
      rotate_left
      · intro w' hS'
        try obtain ⟨hS1, hS2⟩ := hS'
        go_simp
        try with_reducible rfl
      try simp only [Act.put, List.setIfInBounds_toArray, List.set_cons_zero, List.set_cons_succ]
      refine wpM_read (v := ?_) rfl (by rfl) ?_ ?_
      rotate_left
      · intro w' hS'
        try obtain ⟨hS1, hS2⟩ := hS'
        go_simp
        try with_reducible rfl
      try simp only [Act.put, List.setIfInBounds_toArray, List.set_cons_zero, List.set_cons_succ]
      refine wpM_read (v := ?_) rfl (by rfl) ?_ ?_
      rotate_left
      · intro w' hS'
        try obtain ⟨hS1, hS2⟩ := hS'
        go_simp
        try with_reducible rfl
      try simp only [Act.put, List.setIfInBounds_toArray, List.set_cons_zero, List.set_cons_succ]
      refine wpM_step rfl (fun KK hKK => ?_)
      go_simp
      go_at_call 59
      refine (nodes_any _ rb n key hr1).mono ?_
      rintro e w5 ⟨rfl, rfl⟩
      refine hKK.out _ _ (.inr trivial) ?_
      clear hKK KK
      try simp only [Act.put, List.setIfInBounds_toArray, List.set_cons_zero, List.set_cons_succ]
      refine wpM_cut (fun _ => True) (trivial) ?_
      refine wpM_read (v := ?_) rfl (by rfl) ?_ ?_
      rotate_left
      · intro w' hS'
        try obtain ⟨hS1, hS2⟩ := hS'
        go_simp
        try with_reducible rfl
      try simp only [Act.put, List.setIfInBounds_toArray, List.set_cons_zero, List.set_cons_succ]
      refine wpM_cut (fun _ => True) (trivial) ?_
      refine wpM_read (v := ?_) rfl (by rfl) ?_ ?_
      rotate_left
      · intro w' hS'
        try obtain ⟨hS1, hS2⟩ := hS'
        go_simp
        try with_reducible rfl
      try simp only [Act.put, List.setIfInBounds_toArray, List.set_cons_zero, List.set_cons_succ]
      refine wpM_cut (fun _ => True) (trivial) ?_
      refine wpM_read (v := ?_) rfl (by rfl) ?_ ?_
      rotate_left
      · intro w' hS'
        try obtain ⟨hS1, hS2⟩ := hS'
        go_simp
        try with_reducible rfl
      try simp only [Act.put, List.setIfInBounds_toArray, List.set_cons_zero, List.set_cons_succ]
      refine wpM_pass rfl (by rfl) ?_
      try simp only [Act.put, List.setIfInBounds_toArray, List.set_cons_zero, List.set_cons_succ]
      refine wpM_pass rfl (by rfl) ?_
      try simp only [Act.put, List.setIfInBounds_toArray, List.set_cons_zero, List.set_cons_succ]
      refine wpM_pass rfl (by rfl) ?_
      try simp only [Act.put, List.setIfInBounds_toArray, List.set_cons_zero, List.set_cons_succ]
      refine wpM_pass rfl (by rfl) ?_
      try simp only [Act.put, List.setIfInBounds_toArray, List.set_cons_zero, List.set_cons_succ]
      refine wpM_over rfl (by rfl) (by first | exact .inl (by decide) | exact .inr trivial) ?_
      try simp only [Act.put, List.setIfInBounds_toArray, List.set_cons_zero, List.set_cons_succ]
      refine wpM_cut (fun _ => True) (trivial) ?_
      refine wpM_pass rfl (by rfl) ?_
      try simp only [Act.put, List.setIfInBounds_toArray, List.set_cons_zero, List.set_cons_succ]
      refine wpM_cut (fun _ => True) (trivial) ?_
      refine wpM_read (v := ?_) rfl (by rfl) ?_ ?_
      rotate_left
      · intro w' hS'
        try obtain ⟨hS1, hS2⟩ := hS'
        go_simp
        try with_reducible rfl
      try simp only [Act.put, List.setIfInBounds_toArray, List.set_cons_zero, List.set_cons_succ]
      refine wpM_still (v := ?_) rfl (by rfl) (by first | exact .inl (by decide) | exact .inr trivial) ?_ ?_
      rotate_left
      · go_simp
        try with_reducible rfl
      try simp only [Act.put, List.setIfInBounds_toArray, List.set_cons_zero, List.set_cons_succ]
      refine wpM_done ?_
      go_wp2
      go_ret
      exact ⟨by rw [Hfin.out]; rfl, hB1d⟩

/-- of no ring no tag is good -/
theorem check_nil (w : World) (i : Int) (v : Value) (tag : List Int) :
    Calls Try.prog 53 #[.pointer none, .int .i64 i, v, .agg (zB tag).toArray] w fun ee w' => ee = .returned (.bool false) ∧ Below w.heap.size w w' := by
  have hB1d : Below w.heap.size w (w.alloc (.cells (zB tag).toArray 24)).drew := ((Below.refl _ _).alloc (Nat.le_refl _) _).drew
  by_cases h0 : i < 0
  · have q0 : decide ((0 : Int) ≤ i) = false := by simpa using h0
    go_enter Try.func53, Try.ntmps53
    go_wp2
    refine wp_region_M (.cut 1 (.read 0 (.cut 2 (.read 1 (.cut 6 (.read 2 (.read 3 (.read 4 (.step 5 (.cut 7 (.read 6 (.cut 8 (.read 7 (.cut 14 (.read 8 (.read 9 (.read 10 (.read 11 (.read 13 (.step 12 (.cut 15 (.read 14 (.cut 16 (.read 15 (.step 16 .done))))))))))))))))))))))))) (by kernel_rfl) (by kernel_rfl) (fun _ d _ _ _ h => by cases d <;> exact h) ?_
    refine wpM_cut (fun _ => True) (trivial) ?_
    refine wpM_read (v := ?_) rfl (by rfl) ?_ ?_
    rotate_left
    · intro w' hS'
      try obtain ⟨hS1, hS2⟩ := hS'
      go_simp
      try with_reducible rfl
    try simp only [Act.put, List.setIfInBounds_toArray, List.set_cons_zero, List.set_cons_succ]
    refine wpM_cut (fun _ => True) (trivial) ?_
    refine wpM_read (v := ?_) rfl (by rfl) ?_ ?_
    rotate_left
    · intro w' hS'
      try obtain ⟨hS1, hS2⟩ := hS'
      go_simp
      try with_reducible rfl
    try simp only [Act.put, List.setIfInBounds_toArray, List.set_cons_zero, List.set_cons_succ]
    refine wpM_cut (fun _ => True) (trivial) ?_
    refine wpM_read (v := ?_) rfl (by rfl) ?_ ?_
    rotate_left
    · intro w' hS'
      try obtain ⟨hS1, hS2⟩ := hS'
      go_simp
      try with_reducible rfl
    try simp only [Act.put, List.setIfInBounds_toArray, List.set_cons_zero, List.set_cons_succ]
    refine wpM_pass rfl (by rfl) ?_
    try simp only [Act.put, List.setIfInBounds_toArray, List.set_cons_zero, List.set_cons_succ]
    refine wpM_pass rfl (by rfl) ?_
    try simp only [Act.put, List.setIfInBounds_toArray, List.set_cons_zero, List.set_cons_succ]
    refine wpM_over rfl (by rfl) (by first | exact .inl (by decide) | exact .inr trivial) ?_
    try simp only [Act.put, List.setIfInBounds_toArray, List.set_cons_zero, List.set_cons_succ]
    refine wpM_cut (fun _ => True) (trivial) ?_
    refine wpM_pass rfl (by rfl) ?_
    try simp only [Act.put, List.setIfInBounds_toArray, List.set_cons_zero, List.set_cons_succ]
    refine wpM_cut (fun _ => True) (trivial) ?_
    refine wpM_read (v := ?_) rfl (by rfl) ?_ ?_
    rotate_left
    · intro w' hS'
      try obtain ⟨hS1, hS2⟩ := hS'
      go_simp
      try with_reducible rfl
    try simp only [Act.put, List.setIfInBounds_toArray, List.set_cons_zero, List.set_cons_succ]
    refine wpM_cut (fun _ => True) (trivial) ?_
    refine wpM_read (v := ?_) rfl (by rfl) ?_ ?_
    rotate_left
    · intro w' hS'
      try obtain ⟨hS1, hS2⟩ := hS'
      go_simp
      try with_reducible rfl
    try simp only [Act.put, List.setIfInBounds_toArray, List.set_cons_zero, List.set_cons_succ]
    refine wpM_pass rfl (by rfl) ?_
    try simp only [Act.put, List.setIfInBounds_toArray, List.set_cons_zero, List.set_cons_succ]
    refine wpM_pass rfl (by rfl) ?_
    try simp only [Act.put, List.setIfInBounds_toArray, List.set_cons_zero, List.set_cons_succ]
    refine wpM_pass rfl (by rfl) ?_
    try simp only [Act.put, List.setIfInBounds_toArray, List.set_cons_zero, List.set_cons_succ]
    refine wpM_pass rfl (by rfl) ?_
    try simp only [Act.put, List.setIfInBounds_toArray, List.set_cons_zero, List.set_cons_succ]
    refine wpM_over rfl (by rfl) (by first | exact .inl (by decide) | exact .inr trivial) ?_
    try simp only [Act.put, List.setIfInBounds_toArray, List.set_cons_zero, List.set_cons_succ]
    refine wpM_cut (fun _ => True) (trivial) ?_
    refine wpM_pass rfl (by rfl) ?_
    try simp only [Act.put, List.setIfInBounds_toArray, List.set_cons_zero, List.set_cons_succ]
    refine wpM_cut (fun _ => True) (trivial) ?_
    refine wpM_read (v := ?_) rfl (by rfl) ?_ ?_
    rotate_left
    · intro w' hS'
      try obtain ⟨hS1, hS2⟩ := hS'
      go_simp
      try with_reducible rfl
    try simp only [Act.put, List.setIfInBounds_toArray, List.set_cons_zero, List.set_cons_succ]
    refine wpM_still (v := ?_) rfl (by rfl) (by first | exact .inl (by decide) | exact .inr trivial) ?_ ?_
    rotate_left
    · go_simp
      try with_reducible rfl
    try simp only [Act.put, List.setIfInBounds_toArray, List.set_cons_zero, List.set_cons_succ]
    refine wpM_done ?_
    go_wp2
    go_ret
    exact ⟨rfl, hB1d⟩
  · have q0 : (0 : Int) ≤ i := by omega
    have q2 : decide (i < (0 : Int)) = false := by simpa using q0
    go_enter Try.func53, Try.ntmps53
    go_wp2
    refine wp_region_M (.cut 1 (.read 0 (.cut 2 (.read 1 (.cut 6 (.read 2 (.read 3 (.read 4 (.step 5 (.cut 7 (.read 6 (.cut 8 (.read 7 (.cut 14 (.read 8 (.read 9 (.read 10 (.read 11 (.read 13 (.step 12 (.cut 15 (.read 14 (.cut 16 (.read 15 (.step 16 .done))))))))))))))))))))))))) (by kernel_rfl) (by kernel_rfl) (fun _ d _ _ _ h => by cases d <;> exact h) ?_
    refine wpM_cut (fun _ => True) (trivial) ?_
    refine wpM_read (v := ?_) rfl (by rfl) ?_ ?_
    rotate_left
    · intro w' hS'
      try obtain ⟨hS1, hS2⟩ := hS'
      go_simp
      try with_reducible rfl
    try simp only [Act.put, List.setIfInBounds_toArray, List.set_cons_zero, List.set_cons_succ]
    refine wpM_cut (fun _ => True) (trivial) ?_
    refine wpM_read (v := ?_) rfl (by rfl) ?_ ?_
    rotate_left
    · intro w' hS'
      try obtain ⟨hS1, hS2⟩ := hS'
      go_simp
      try with_reducible rfl
    try simp only [Act.put, List.setIfInBounds_toArray, List.set_cons_zero, List.set_cons_succ]
    refine wpM_cut (fun _ => True) (trivial) ?_
    refine wpM_read (v := ?_) rfl (by rfl) ?_ ?_
    rotate_left
    · intro w' hS'
      try obtain ⟨hS1, hS2⟩ := hS'
      go_simp
      try with_reducible rfl
    try simp only [Act.put, List.setIfInBounds_toArray, List.set_cons_zero, List.set_cons_succ]
    refine wpM_read (v := ?_) rfl (by rfl) ?_ ?_
    rotate_left
    · intro w' hS'
      try obtain ⟨hS1, hS2⟩ := hS'
      go_simp
      try with_reducible rfl
    try simp only [Act.put, List.setIfInBounds_toArray, List.set_cons_zero, List.set_cons_succ]
    refine wpM_read (v := ?_) rfl (by rfl) ?_ ?_
    rotate_left
    · intro w' hS'
      try obtain ⟨hS1, hS2⟩ := hS'
      go_simp
      try with_reducible rfl
    try simp only [Act.put, List.setIfInBounds_toArray, List.set_cons_zero, List.set_cons_succ]
    refine wpM_step rfl (fun KK hKK => ?_)
    go_simp
    go_at_call 59
    refine (nodes_nil _).mono ?_
    rintro e w5 ⟨rfl, rfl⟩
    refine hKK.out _ _ (.inr trivial) ?_
    clear hKK KK
    try simp only [Act.put, List.setIfInBounds_toArray, List.set_cons_zero, List.set_cons_succ]
    refine wpM_cut (fun _ => True) (trivial) ?_
    refine wpM_read (v := ?_) rfl (by rfl) ?_ ?_
    rotate_left
    · intro w' hS'
      try obtain ⟨hS1, hS2⟩ := hS'
      go_simp
      try with_reducible rfl
    try simp only [Act.put, List.setIfInBounds_toArray, List.set_cons_zero, List.set_cons_succ]
    refine wpM_cut (fun _ => True) (trivial) ?_
    refine wpM_read (v := ?_) rfl (by rfl) ?_ ?_
    rotate_left
    · intro w' hS'
      try obtain ⟨hS1, hS2⟩ := hS'
      go_simp
      try with_reducible rfl
    try simp only [Act.put, List.setIfInBounds_toArray, List.set_cons_zero, List.set_cons_succ]
    refine wpM_cut (fun _ => True) (trivial) ?_
    refine wpM_read (v := ?_) rfl (by rfl) ?_ ?_
    rotate_left
    · intro w' hS'
      try obtain ⟨hS1, hS2⟩ := hS'
      go_simp
      try with_reducible rfl
    try simp only [Act.put, List.setIfInBounds_toArray, List.set_cons_zero, List.set_cons_succ]
    refine wpM_pass rfl (by rfl) ?_
    try simp only [Act.put, List.setIfInBounds_toArray, List.set_cons_zero, List.set_cons_succ]
    refine wpM_pass rfl (by rfl) ?_
    try simp only [Act.put, List.setIfInBounds_toArray, List.set_cons_zero, List.set_cons_succ]
    refine wpM_pass rfl (by rfl) ?_
    try simp only [Act.put, List.setIfInBounds_toArray, List.set_cons_zero, List.set_cons_succ]
    refine wpM_pass rfl (by rfl) ?_
    try simp only [Act.put, List.setIfInBounds_toArray, List.set_cons_zero, List.set_cons_succ]
    refine wpM_over rfl (by rfl) (by first | exact .inl (by decide) | exact .inr trivial) ?_
    try simp only [Act.put, List.setIfInBounds_toArray, List.set_cons_zero, List.set_cons_succ]
    refine wpM_cut (fun _ => True) (trivial) ?_
    refine wpM_pass rfl (by rfl) ?_
    try simp only [Act.put, List.setIfInBounds_toArray, List.set_cons_zero, List.set_cons_succ]
    refine wpM_cut (fun _ => True) (trivial) ?_
    refine wpM_read (v := ?_) rfl (by rfl) ?_ ?_
    rotate_left
    · intro w' hS'
      try obtain ⟨hS1, hS2⟩ := hS'
      go_simp
      try with_reducible rfl
    try simp only [Act.put, List.setIfInBounds_toArray, List.set_cons_zero, List.set_cons_succ]
    refine wpM_still (v := ?_) rfl (by rfl) (by first | exact .inl (by decide) | exact .inr trivial) ?_ ?_
    rotate_left
    · go_simp
      try with_reducible rfl
    try simp only [Act.put, List.setIfInBounds_toArray, List.set_cons_zero, List.set_cons_succ]
    refine wpM_done ?_
    go_wp2
    go_ret
    exact ⟨rfl, hB1d⟩
/-- a ring, or none -/
def RingOk (w : World) (r : Value) (n : Nat) (key : Nat → List Int) : Prop := (r = .pointer none ∧ n = 0) ∨ ∃ rb, r = .pointer (some ⟨rb, 0, none⟩) ∧ RingAt w rb n key
theorem RingOk.below {w w' : World} {r : Value} {n : Nat} {key : Nat → List Int} (h : RingOk w r n key) (hb : Below w.heap.size w w') : RingOk w' r n key := by
  rcases h with h | ⟨rb, h1, h2⟩
  · exact .inl h
  · exact .inr ⟨rb, h1, h2.below hb⟩
theorem check_ok (w : World) (r : Value) (n : Nat) (key : Nat → List Int) (h : RingOk w r n key) (i : Int) (v : Value) (e : TypeId) (l tag : List Int) (hl : l.length ≤ 140737488355000) (htag : tag.length = 32) (hR : RowAt w e v l.length (zB l)) :
    Calls Try.prog 53 #[r, .int .i64 i, v, .agg (zB tag).toArray] w fun ee w' => ee = .returned (.bool (chk n key i l tag)) ∧ Below w.heap.size w w' := by
  rcases h with ⟨rfl, rfl⟩ | ⟨rb, rfl, h2⟩
  · rw [show chk 0 key i l tag = false by rw [chk, decide_eq_false (by omega)]; rfl]
    exact check_nil w i v tag
  · exact check_any w rb n key h2 i v e l tag hl htag hR

end Go.Proofs.Ytjhpemlgcjdpfaa
