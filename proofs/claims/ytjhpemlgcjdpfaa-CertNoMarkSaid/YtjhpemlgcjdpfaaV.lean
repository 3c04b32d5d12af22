/- rings; enough of them -/
import Derived.Test.YtjhpemlgcjdpfaaU
import Derived.Deep.RegionLawGrows
import Derived.Great.BuildSlice
import Derived.Outline
namespace Go.Proofs.Ytjhpemlgcjdpfaa
open Go.RowKit

/-- how many are enough -/
def quorumN (n : Nat) : Int := (n : Int) - (max (n : Int) 1 - 1) / 3
theorem faults_any (w : World) (n : Nat) (h : n ≤ 10) : Calls Try.prog 81 #[.int .i64 n] w fun ee w' => ee = .returned (.int .i64 ((max (n : Int) 1 - 1) / 3)) ∧ w = w' := by
  by_cases h0 : n = 0
  · subst h0
    go_enter Try.func81, Try.ntmps81
    go_wp2
    go_ret
    exact ⟨rfl, rfl⟩
  · have k0 : (1 : Int) ≤ (n : Int) := by omega
    have k1 : (n : Int) ≤ 10 := by omega
    go_enter Try.func81, Try.ntmps81
    go_wp2
    go_ret
    exact ⟨rfl, rfl⟩
theorem quorum_any (w : World) (n : Nat) (h : n ≤ 10) : Calls Try.prog 58 #[.int .i64 n] w fun ee w' => ee = .returned (.int .i64 (quorumN n)) ∧ w = w' := by
  obtain ⟨q, hq⟩ : ∃ q, q = (max (n : Int) 1 - 1) / 3 := ⟨_, rfl⟩
  have hf := faults_any w n h
  have hqn : quorumN n = (n : Int) - q := by rw [hq]; rfl
  rw [← hq] at hf
  rw [hqn]
  have k0 : (0 : Int) ≤ q := by omega
  have k1 : q ≤ 10 := by omega
  have k2 : (n : Int) ≤ 10 := by omega
  clear hq hqn
  go_enter Try.func58, Try.ntmps58
  go_wp2_with (go_at_call 81; refine hf.mono ?_; rintro e w' ⟨rfl, rfl⟩)
  go_ret
  exact ⟨rfl, rfl⟩
/-- are these enough? -/
def meetsB (n : Nat) (key : Nat → List Int) (kind slot view : Int) (sum : List Int) (l : List VoteM) : Bool := decide (quorumN n ≤ ((whoL n key kind slot view sum l).length : Int))

set_option maxRecDepth 1000000 in
set_option maxHeartbeats 4000000 in
theorem meets_any (w : World) (rb n : Nat) (key : Nat → List Int) (h : RingAt w rb n key) (v : Value) (e : TypeId) (l : List VoteM) (hV : VotesAt w e v l) (kind slot view : Int) (sum : List Int) (hsum : sum.length = 32) :
    Calls Try.prog 25 #[.pointer (some ⟨rb, 0, none⟩), v, .int .i64 kind, .int .i64 slot, .int .i64 view, .agg (zB sum).toArray] w fun ee w' => ee = .returned (.bool (meetsB n key kind slot view sum l)) ∧ Below w.heap.size w w' := by
  have hB0 : Below w.heap.size w (w.alloc (.cells (zB sum).toArray 24)) := (Below.refl _ _).alloc (Nat.le_refl _) _
  have e1 : (w.alloc (.cells (zB sum).toArray 24)).heap[w.heap.size]? = some (.cells (zB sum).toArray 24 (0, 0)) := World.alloc_heap_new w _
  have hr := h.below hB0
  have hV2 := hV.below hB0 (Nat.le_refl _)
  have hs24 : (Try.prog.info? 24).map (·.size) = some (zB sum).length := by rw [info24]; simp [hsum]
  have Hs24 := Lib.hid hs24
  have hm : Hid (meetsB n key kind slot view sum l = decide (quorumN n ≤ ((whoL n key kind slot view sum l).length : Int))) := rfl
  rw [hm.out]
  have hwho := who_any _ (.pointer (some ⟨rb, 0, none⟩)) n key (.inr ⟨rb, rfl, hr⟩) v e l hV2 kind slot view sum hsum
  generalize whoL n key kind slot view sum l = L at *
  have hq := h.small
  generalize hQ : quorumN n = Q at *
  have HQ := Lib.hid hQ
  clear hs24 hm hQ
  go_enter Try.func25, Try.ntmps25
  go_wp2_with (first
    | (refine wpList_loadG 24 (.tmp 11) (by with_reducible rfl) (by rfl) w.heap.size 0 ?_ (zB sum) (.array 32 5) ?_ Try.underlying24 rfl ?_ ?_; rfl; exact (range_of e1 0 _ (fun j _ => by simp)); exact Hs24.out)
    | (go_at_call 23; refine hwho.mono ?_; rintro ee w1 ⟨v1, rfl, hR1, hB1⟩; have hr1 := hr.below hB1; obtain ⟨va1, vc1, rfl, hvc1, hvc2⟩ := hR1.shape)
    | (go_at_call 59; refine (nodes_any _ rb n key hr1).mono ?_; rintro ee w2 ⟨rfl, rfl⟩)
    | (go_at_call 58; refine (quorum_any _ n hq).mono ?_; rintro ee w3 ⟨rfl, rfl⟩))
  go_ret
  exact ⟨by rw [HQ.out]; rfl, hB0.trans (hB1.mono (by simp))⟩

theorem meets_nil (w : World) (v : Value) (kind slot view : Int) (sum : List Int) :
    Calls Try.prog 25 #[.pointer none, v, .int .i64 kind, .int .i64 slot, .int .i64 view, .agg (zB sum).toArray] w fun ee w' => ee = .returned (.bool false) ∧ Below w.heap.size w w' := by
  go_enter Try.func25, Try.ntmps25
  go_wp2
  go_ret
  exact ⟨rfl, (Below.refl _ _).alloc (Nat.le_refl _) _⟩

set_option maxRecDepth 1000000 in
theorem valueSum_any (w : World) (v : Value) (e : TypeId) (l : List Int) (hl : l.length ≤ 140737488355328) (hR : RowAt w e v l.length (zB l)) :
    Calls Try.prog 39 #[v] w fun ee w' => ee = .returned (.agg (zB (shaB l)).toArray) ∧ Below w.heap.size w w' := by
  have hB1 : Below w.heap.size w (w.alloc (.cells Z32 24)) := (Below.refl _ _).alloc (Nat.le_refl _) _
  have hn4 : (w.alloc (.cells Z32 24)).heap[w.heap.size]? = some (.cells Z32 24 (0, 0)) := World.alloc_heap_new w _
  have hR1 := hR.below hB1 (Nat.le_refl _)
  go_enter Try.func39, Try.ntmps39
  go_wp2_with (first
    | (refine wpList_allocT rfl 24 (by with_reducible rfl) Z32 zero24 ?_)
    | (go_at_call 47; refine (sum_any _ _ e l hl hR1).mono ?_; rintro ee w2 ⟨rfl, hB2⟩; have hn5 := (hB2.block _ (by simp)).trans hn4; have hi25 : Hid ((Try.prog.info? 24).map (·.size) = some (shaC l).size) := (by show _ = _; rw [info24, shaC_size]); have hz25 : Hid (Z32.size = (shaC l).size) := (by show _ = _; rw [shaC_size]; rfl))
    | (refine wpList_store_row rfl 24 (.tmp 2) (.tmp 4) (by with_reducible rfl) w.heap.size (shaC l) ?_ ?_ 24 Z32 ?_ ?_ ?_ ?_ ?_; rfl; rfl; exact hn5; exact hi25.out; exact hz25.out; exact shaC_one l))
  have hh7 := setRow_heap w2 w.heap.size Z32 (shaC l) 24 (0, 0) hn5
  refine bodyPost_ret (results_cell_row (p := 2) (ty := 24) rfl _ _ w.heap.size 24 _ (0, 0) (.array 32 5) rfl hh7 Try.underlying24 rfl hi25.out) rfl ⟨rfl, below_setRow (hB1.trans (hB2.mono (by simp))) (Nat.le_refl _) _⟩

theorem exec_buildSlice {P : Program} {o : Oper} {a : Act} {w : World} (t e : TypeId) (len : Nat) (ps : List (Nat × Operand)) (ho : o.op = .buildSlice t len ps.toArray) (cells : Array Value) (ie : TypeInfo) (z : Value) (size : Nat) (zs : Array Value)
    (hu : P.underlying t = some (.slice e)) (hie : P.info? e = some ie) (hz : ie.zero = some z) (hsz : ie.size = size) (hsmall : ¬ len * size > 2 ^ 24) (hpos : ¬ len * size = 0) (hzs : (Array.range (len * size)).map (z.cells[· % z.cells.size]!) = zs)
    (hf : Instr.fill (fun i => some (i * size, size)) zs (ps.map fun p => (p.1, a.eval p.2)) = some cells) :
    (execOp a.eval o).run P w = .ok (.value (.slice (some ⟨w.heap.size, 0, none⟩) len len)) (w.alloc (.cells cells e)) := by
  subst hsz
  subst hzs
  have hr := Go.run_buildSlice (P := P) w t e len (ps.map fun p => (p.1, a.eval p.2)).toArray cells ie z hu hie hz hsmall hpos hf
  unfold execOp
  simp only [ho, Sem.run_bind, List.map_toArray, hr, Result.andThen_ok, Sem.run_pure]
theorem infoP24 : (Try.prog.info? 24).map (fun i => (i.zero, i.size, i.bytes)) = some (some (.agg Z32), 32, 32) := by kernel_rfl
/-- a node's key -/
def keyB (seed : List Int) (i : Nat) : List Int := shaB (seed ++ [(i : Int)])
def keysC (seed : List Int) (k : Nat) : List Value := (List.range k).flatMap fun i => zB (keyB seed i)
theorem keysC_snoc (seed : List Int) (k : Nat) : keysC seed (k + 1) = keysC seed k ++ zB (keyB seed k) := by
  unfold keysC
  rw [List.range_succ, List.flatMap_append, List.flatMap_singleton]
theorem keysC_len (seed : List Int) (k : Nat) : (keysC seed k).length = k * 32 := by
  induction k with
  | zero => rfl
  | succ k ih => rw [keysC_snoc, List.length_append, ih, List.length_map, keyB, shaB_length]; omega
theorem keysC_at (seed : List Int) : ∀ (k i : Nat), i < k → ∀ j, j < 32 → (keysC seed k)[i * 32 + j]? = (zB (keyB seed i))[j]?
  | 0, i, hi, j, hj => by omega
  | k + 1, i, hi, j, hj => by
    rw [keysC_snoc]
    by_cases h : i < k
    · rw [List.getElem?_append_left (by rw [keysC_len]; omega), keysC_at seed k i h j hj]
    · obtain rfl : i = k := by omega
      rw [List.getElem?_append_right (by rw [keysC_len]; omega), keysC_len, Nat.add_sub_cancel_left]
theorem zfill32 : (Array.range (1 * 32)).map ((Value.agg Z32).cells[· % (Value.agg Z32).cells.size]!) = (zB z32).toArray := by kernel_rfl
theorem fill32 (l : List Int) (h : l.length = 32) : Instr.fill (fun i => some (i * 32, 32)) (zB z32).toArray [(0, .agg (zB l).toArray)] = some (zB l).toArray := by
  rw [fill_part (fun i => some (i * 32, 32)) (zB z32) (zB l) 0 0 32 (.agg (zB l).toArray) [] rfl rfl (by simp [h]) (by simp [z32])]
  have e := splice_mid (α := Value) [] (zB z32) (zB l) [] 0 rfl (by simp [h, z32])
  simp only [List.nil_append, List.append_nil] at e
  rw [e]
  rfl
theorem row_elems {w : World} {b : Nat} {cs : List Value} {t : TypeId} (h : w.heap[b]? = some (.cells cs.toArray t (0, 0))) : RowAt w t (.slice (some ⟨b, 0, none⟩) 1 1) 1 cs :=
  .inr ⟨b, 0, 1, _, (0, 0), rfl, Nat.le_refl _, by decide, h, fun j hj => by simp⟩
def nodesN (nodes : Int) : Nat := (min (max nodes 1) 10).toNat
theorem nodesN_eq (nodes : Int) : (nodesN nodes : Int) = min (max nodes 1) 10 := by unfold nodesN; omega
set_option maxRecDepth 1000000 in
set_option maxHeartbeats 4000000 in
theorem new_any (w : World) (nodes : Int) (seed : List Int) (hs : seed.length = 32) :
    Calls Try.prog 16 #[.int .i64 nodes, .agg (zB seed).toArray] w fun ee w' => ee = .returned (.pointer (some ⟨w.heap.size + 1, 0, none⟩)) ∧ RingAt w' (w.heap.size + 1) (nodesN nodes) (keyB seed) ∧ Below w.heap.size w w' := by
  obtain ⟨i5, hi5, hz50, hz51, hz52⟩ := info_parts infoP5
  obtain ⟨i24, hi24, hz240, hz241, hz242⟩ := info_parts infoP24
  have hnn := nodesN_eq nodes
  obtain ⟨N, hN⟩ : ∃ N, N = nodesN nodes := ⟨_, rfl⟩
  have hN10 : N ≤ 10 := by rw [hN]; unfold nodesN; omega
  rw [← hN] at hnn ⊢
  have HN := Lib.hid hN
  clear hN
  have e0 : ((w.alloc (.cells (zB seed).toArray 24)).alloc (.cells #[.slice none 0 0] 83)).heap[w.heap.size]? = some (.cells (zB seed).toArray 24 (0, 0)) := (Below.heap_alloc _ _ _ (by simp)).trans (World.alloc_heap_new w _)
  have e1 : ((w.alloc (.cells (zB seed).toArray 24)).alloc (.cells #[.slice none 0 0] 83)).heap[w.heap.size + 1]? = some (.cells #[.slice none 0 0] 83 (0, 0)) := heap_new_at _ _ _ (by simp)
  have hB0 : Below w.heap.size w ((w.alloc (.cells (zB seed).toArray 24)).alloc (.cells #[.slice none 0 0] 83)) := ((Below.refl _ _).alloc (Nat.le_refl _) _).alloc (by simp) _
  have hsz0 : ((w.alloc (.cells (zB seed).toArray 24)).alloc (.cells #[.slice none 0 0] 83)).heap.size = w.heap.size + 2 := by simp
  have Hs := Lib.hid hs
  clear hs
  go_enter Try.func16, Try.ntmps16
  go_wp2
  rw [← hnn]
  generalize ((w.alloc (.cells (zB seed).toArray 24)).alloc (.cells #[.slice none 0 0] 83)) = W0 at *
  clear hnn
  go_loopw [12] (fun i wr => ∃ (k : Nat) (kv : Value), k ≤ N ∧ i = .int .i64 k ∧ wr.heap[w.heap.size]? = some (.cells (zB seed).toArray 24 (0, 0)) ∧ wr.heap[w.heap.size + 1]? = some (.cells #[kv] 83 (0, 0)) ∧ wr.ownsRow (w.heap.size + 2) 24 32 kv k (keysC seed k) ∧ Below w.heap.size w wr ∧ w.heap.size + 2 ≤ wr.heap.size) (fun i _ => N - (intOf i).toNat)
  case atStart => exact ⟨0, _, Nat.zero_le _, rfl, e0, e1, ⟨rfl, .inl ⟨rfl, rfl⟩⟩, hB0, by omega⟩
  case round =>
    clear e0 e1 hB0 hsz0
    obtain ⟨k, kv, hk, rfl, h0, h1, hown, hBw, hsz⟩ := hrel
    by_cases hlt : k < N
    · have hge := own_ge hown
      have hol := own_lt hown
      have c1 := cell1 h1
      have f1 := free_of_block h1 0
      have k0 : (0 : Int) ≤ (k : Int) := by omega
      have k1 : (k : Int) < (N : Int) := by omega
      have k2 : decide ((k : Int) < (N : Int)) = true := by simp; omega
      have k3 : decide (k < N) = true := by simp; omega
      have k4 : (k : Int) < 256 := by omega
      have k5 : (k : Int) ≤ 255 := by omega
      have k6 : IntKind.u8.wrap (k : Int) = (k : Int) := by simp [IntKind.wrap, IntKind.signed, IntKind.bits]; omega
      have hkl : (keyB seed k).length = 32 := shaB_length _
      have hsl := Hs.out
      have Hsl := Lib.hid hsl
      clear hsl
      go_wp2
      refine wp_region_M (.cut 13 (.read 0 (.read 1 (.read 2 (.read 3 (.read 4 (.read 5 (.read 6 (.read 7 (.step 8 (.step 9 (.step 10 (.step 11 (.step 12 (.cut 14 (.read 13 (.cut 15 (.read 14 (.step 15 .done))))))))))))))))))) (by kernel_rfl) (by kernel_rfl) (fun _ d _ _ _ h => by cases d <;> exact h) ?_
      refine wpM_cut (fun w' => w'.cell? ⟨w.heap.size + 1, 0, none⟩ = some kv) (c1) ?_
      refine wpM_read (v := ?_) rfl (by rfl) ?_ ?_
      rotate_left
      · intro w' hS'
        try obtain ⟨hS1, hS2⟩ := hS'
        go_simp
        try with_reducible rfl
      try simp only [Act.put, List.setIfInBounds_toArray, List.set_cons_zero, List.set_cons_succ]
      refine wpM_read (v := ?_) rfl (by rfl) ?_ ?_
      rotate_left
      · intro w' hS'
        try obtain ⟨hS1, hS2⟩ := hS'
        go_simp
        try with_reducible rfl
      try simp only [Act.put, List.setIfInBounds_toArray, List.set_cons_zero, List.set_cons_succ]
      refine wpM_read (v := ?_) rfl (by rfl) ?_ ?_
      rotate_left
      · intro w' hS'
        try obtain ⟨hS1, hS2⟩ := hS'
        go_simp
        try with_reducible rfl
      try simp only [Act.put, List.setIfInBounds_toArray, List.set_cons_zero, List.set_cons_succ]
      refine wpM_read (v := ?_) rfl (by rfl) ?_ ?_
      rotate_left
      · intro w' hS'
        try obtain ⟨hS1, hS2⟩ := hS'
        go_simp
        try with_reducible rfl
      try simp only [Act.put, List.setIfInBounds_toArray, List.set_cons_zero, List.set_cons_succ]
      refine wpM_read (v := ?_) rfl (by rfl) ?_ ?_
      rotate_left
      · intro w' hS'
        try obtain ⟨hS1, hS2⟩ := hS'
        go_simp
        try with_reducible rfl
      try simp only [Act.put, List.setIfInBounds_toArray, List.set_cons_zero, List.set_cons_succ]
      refine wpM_read (v := ?_) rfl (by rfl) ?_ ?_
      rotate_left
      · intro w' hS'
        try obtain ⟨hS1, hS2⟩ := hS'
        go_simp
        try with_reducible rfl
      try simp only [Act.put, List.setIfInBounds_toArray, List.set_cons_zero, List.set_cons_succ]
      refine wpM_read (v := ?_) rfl (by rfl) ?_ ?_
      rotate_left
      · intro w' hS'
        try obtain ⟨hS1, hS2⟩ := hS'
        go_simp
        try with_reducible rfl
      try simp only [Act.put, List.setIfInBounds_toArray, List.set_cons_zero, List.set_cons_succ]
      refine wpM_read (v := ?_) rfl (by rfl) ?_ ?_
      rotate_left
      · intro w' hS'
        try obtain ⟨hS1, hS2⟩ := hS'
        go_simp
        try with_reducible rfl
      try simp only [Act.put, List.setIfInBounds_toArray, List.set_cons_zero, List.set_cons_succ]
      refine wpM_run (v := ?_) (w' := ?_) rfl (by rfl) ?_ (.inr ?_) ?_
      rotate_left 2
      · go_simp
        refine ⟨?_, ?_⟩ <;> with_reducible rfl
      · exact ((((Below.refl _ wr).alloc (Nat.le_refl _) (.cells #[.int .u8 (k : Int)] 5)).drew).cell (p := ⟨w.heap.size + 1, 0, none⟩) (by show w.heap.size + 1 < _; omega)).trans c1
      have hD1 : (wr.alloc (.cells #[.int .u8 (k : Int)] 5)).drew.heap[wr.heap.size]? = some (.cells #[.int .u8 (k : Int)] 5 (0, 0)) := World.alloc_heap_new wr _
      have hBD : Below wr.heap.size wr (wr.alloc (.cells #[.int .u8 (k : Int)] 5)).drew := ((Below.refl _ _).alloc (Nat.le_refl _) _).drew
      have hDz : (wr.alloc (.cells #[.int .u8 (k : Int)] 5)).drew.heap.size = wr.heap.size + 1 := World.size_alloc _ _
      generalize (wr.alloc (.cells #[.int .u8 (k : Int)] 5)).drew = D1 at *
      have hD0 := (hBD.block w.heap.size (by omega)).trans h0
      try simp only [Act.put, List.setIfInBounds_toArray, List.set_cons_zero, List.set_cons_succ]
      refine wpM_step rfl (fun KK hKK => ?_)
      refine step_append_grows rfl (.tmp 20) (.tmp 23) 52 rfl 5 i5 (.int .u8 0) 1 1 Try.underlying52 hi5 hz50 hz51 hz52 rfl (by decide) (some ⟨w.heap.size, 0, none⟩) 32 32 (zB seed) rfl (by simp) (by simp [Hsl.out]) ?_ ⟨wr.heap.size, 0, none⟩ 1 1 [.int .u8 (k : Int)] rfl rfl ?_ (fun u hu => by simp at hu; subst hu; rfl) (by omega) (by unfold maxLen; omega) (by omega) ?_
      · intro b hb j u hu
        cases hb
        rw [Addr.add_mid, Nat.zero_add, cell_of_block hD0]
        simpa using hu
      · intro j u hu
        rw [Addr.add_mid, Nat.zero_add, cell_of_block hD1]
        simpa using hu
      intro v9 w9 ho9 hg9
      have hB9 : Below wr.heap.size wr w9 := hBD.grown hg9 (by omega) (fun j hj => by cases hj)
      have hR9 : RowAt w9 5 v9 (seed ++ [(k : Int)]).length (zB (seed ++ [(k : Int)])) := by
        have h := RowAt.of_owns ho9
        rw [show (seed ++ [(k : Int)]).length = 32 + 1 by simp [Hsl.out]]
        simpa using h
      refine hKK.out _ _ (.inr ((hB9.cell (p := ⟨w.heap.size + 1, 0, none⟩) (by show w.heap.size + 1 < _; omega)).trans c1)) ?_
      clear hKK KK
      try simp only [Act.put, List.setIfInBounds_toArray, List.set_cons_zero, List.set_cons_succ]
      refine wpM_step rfl (fun KK hKK => ?_)
      go_simp
      go_at_call 47
      refine (sum_any w9 v9 5 (seed ++ [(k : Int)]) (by simp [Hsl.out]) hR9).mono ?_
      rintro e w10 ⟨rfl, hB10⟩
      have hB11 : Below wr.heap.size wr w10 := hB9.trans (hB10.mono hB9.size)
      refine hKK.out _ _ (.inr ((hB11.cell (p := ⟨w.heap.size + 1, 0, none⟩) (by show w.heap.size + 1 < _; omega)).trans c1)) ?_
      clear hKK KK
      try simp only [Act.put, List.setIfInBounds_toArray, List.set_cons_zero, List.set_cons_succ]
      refine wpM_run (v := .slice (some ⟨w10.heap.size, 0, none⟩) 1 1) (w' := w10.alloc (.cells (zB (keyB seed k)).toArray 24)) rfl (by rfl) (exec_buildSlice 81 24 1 [(0, .tmp 25)] rfl (zB (keyB seed k)).toArray i24 (.agg Z32) 32 (zB z32).toArray Try.underlying81 hi24 hz240 hz241 (by decide) (by decide) zfill32 (fill32 _ hkl)) (.inr ?_) ?_
      · exact ((hB11.alloc hB11.size _).cell (p := ⟨w.heap.size + 1, 0, none⟩) (by show w.heap.size + 1 < _; omega)).trans c1
      have hB12 : Below wr.heap.size wr (w10.alloc (.cells (zB (keyB seed k)).toArray 24)) := hB11.alloc hB11.size _
      have hR12 : RowAt (w10.alloc (.cells (zB (keyB seed k)).toArray 24)) 24 (.slice (some ⟨w10.heap.size, 0, none⟩) 1 1) 1 (zB (keyB seed k)) := row_elems (World.alloc_heap_new _ _)
      have ho12 : (w10.alloc (.cells (zB (keyB seed k)).toArray 24)).ownsRow (w.heap.size + 2) 24 32 kv k (keysC seed k) := own_keep hown (fun b hb => hB12.block b (hol b hb))
      have hz12 := hB12.size
      generalize (w10.alloc (.cells (zB (keyB seed k)).toArray 24)) = W12 at *
      try simp only [Act.put, List.setIfInBounds_toArray, List.set_cons_zero, List.set_cons_succ]
      refine wpM_step rfl (fun KK hKK => ?_)
      refine step_append_rowAt _ rfl (.tmp 19) (.tmp 26) 81 rfl (w.heap.size + 2) 24 i24 (.agg Z32) 32 32 Try.underlying81 hi24 hz240 hz241 hz242 rfl (by decide) kv k (keysC seed k) rfl ho12 24 _ 1 (zB (keyB seed k)) rfl hR12 (by simp [hkl]) (one_bytes _) (by unfold maxLen; omega) (by omega) (by omega) ?_
      intro a' cap' w13 ho13 hg13 hb13
      have h13a := (hg13.block (w.heap.size + 1) (by omega) (fun h => by have := hge _ h.symm; omega)).trans ((hB12.block _ (by omega)).trans h1)
      have h13b := (hg13.block w.heap.size (by omega) (fun h => by have := hge _ h.symm; omega)).trans ((hB12.block _ (by omega)).trans h0)
      have c13 := cell1 h13a
      have f13 := free_of_block h13a 0
      have hB13 : Below w.heap.size w w13 := (hBw.trans (hB12.mono hBw.size)).grown hg13 (by omega) (fun j hj => by have := hge _ hj; omega)
      have hz13 := hg13.size
      refine hKK.out _ _ (.inr c13) ?_
      clear hKK KK
      try simp only [Act.put, List.setIfInBounds_toArray, List.set_cons_zero, List.set_cons_succ]
      refine wpM_cut (fun _ => True) (trivial) ?_
      refine wpM_read (v := ?_) rfl (by rfl) ?_ ?_
      rotate_left
      · intro w' hS'
        try obtain ⟨hS1, hS2⟩ := hS'
        go_simp
        try with_reducible rfl
      try simp only [Act.put, List.setIfInBounds_toArray, List.set_cons_zero, List.set_cons_succ]
      refine wpM_cut (fun _ => True) (trivial) ?_
      refine wpM_read (v := ?_) rfl (by rfl) ?_ ?_
      rotate_left
      · intro w' hS'
        try obtain ⟨hS1, hS2⟩ := hS'
        go_simp
        try with_reducible rfl
      try simp only [Act.put, List.setIfInBounds_toArray, List.set_cons_zero, List.set_cons_succ]
      refine wpM_step rfl (fun KK hKK => ?_)
      go_simp
      refine hKK.out _ _ (by first | exact .inl (by decide) | exact .inr trivial) ?_
      clear hKK KK
      try simp only [Act.put, List.setIfInBounds_toArray, List.set_cons_zero, List.set_cons_succ]
      refine wpM_done ?_
      go_wp2
      have hsn := keysC_snoc seed k
      refine ⟨?_, ?_⟩
      · first
          | exact ⟨k + 1, _, by omega, by go_num, (Below.heap_setCell _ _ _ _ (by simp)).trans h13b, heap_setCell_same h13a _, by rw [hsn]; exact own_keep ho13 (fun b hb => Below.heap_setCell _ _ _ _ (fun e => by have := own_ge ho13 b hb; simp at e; omega)), hB13.setCell (by simp only []; omega) _, by simp [World.setCell]; omega⟩
          | (repeat apply Exists.intro
             refine ⟨?_, rfl⟩
             exact ⟨k + 1, _, by omega, by go_num, (Below.heap_setCell _ _ _ _ (by simp)).trans h13b, heap_setCell_same h13a _, by rw [hsn]; exact own_keep ho13 (fun b hb => Below.heap_setCell _ _ _ _ (fun e => by have := own_ge ho13 b hb; simp at e; omega)), hB13.setCell (by simp only []; omega) _, by simp [World.setCell]; omega⟩)
      · simp [intOf]
        omega
    · obtain rfl : k = N := by omega
      go_wp2
      go_ret
      refine ⟨rfl, ?_, hBw⟩
      have hk1 : 0 < k := by rw [HN.out]; unfold nodesN; omega
      rcases hown.2 with ⟨_, hz⟩ | ⟨g, cap, cur, rfl, g1, g2, g3, g4, g5, g6⟩
      · omega
      · refine ⟨⟨g, cap, cur, h1, g2, g3, g4, fun i hi j hj => ?_⟩, fun i => shaB_length _, hN10⟩
        have h7 : (cur.toList.take (k * 32))[i * 32 + j]? = (keysC seed k)[i * 32 + j]? := by rw [g6]
        rw [List.getElem?_take_of_lt (by omega), keysC_at seed k i hi j hj] at h7
        simpa using h7
end Go.Proofs.Ytjhpemlgcjdpfaa
