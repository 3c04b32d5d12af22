/- the digest's block -/
import Derived.Test.YtjhpemlgcjdpfaaB
import Derived.Laws.CopyOwn
namespace Go.Proofs.Ytjhpemlgcjdpfaa
open Go.RowKit

/-- the words of a block -/
def word (bs : Nat → Int) (i : Nat) : Int :=
  bits .or .u32 (bits .or .u32 (bits .or .u32 (IntKind.u32.wrap (IntKind.u32.wrap (bs (4 * i)) * 16777216)) (IntKind.u32.wrap (IntKind.u32.wrap (bs (4 * i + 1)) * 65536))) (IntKind.u32.wrap (IntKind.u32.wrap (bs (4 * i + 2)) * 256))) (IntKind.u32.wrap (bs (4 * i + 3)))

/-- all words -/
def WW (bs : Nat → Int) (i : Nat) : Int :=
  if i < 16 then word bs i
  else IntKind.u32.wrap (IntKind.u32.wrap (IntKind.u32.wrap (WW bs (i - 16) + sg0 (WW bs (i - 15))) + WW bs (i - 7)) + sg1 (WW bs (i - 2)))
termination_by i
decreasing_by all_goals omega

theorem WW_low (bs : Nat → Int) {i : Nat} (h : i < 16) : WW bs i = word bs i := by rw [WW, if_pos h]
theorem WW_high (bs : Nat → Int) {i : Nat} (h : 16 ≤ i) : WW bs i = IntKind.u32.wrap (IntKind.u32.wrap (IntKind.u32.wrap (WW bs (i - 16) + sg0 (WW bs (i - 15))) + WW bs (i - 7)) + sg1 (WW bs (i - 2))) := by rw [WW, if_neg (by omega)]

/-- the state of a digest -/
structure St where
  (a b c d e f g h : Int)
def St.cells (s : St) : Array Value := #[.int .u32 s.a, .int .u32 s.b, .int .u32 s.c, .int .u32 s.d, .int .u32 s.e, .int .u32 s.f, .int .u32 s.g, .int .u32 s.h]
def tee (k w : Int) (s : St) : Int := s.h + bs1 s.e + cho s.e s.f s.g + k + w
def rnd (k w : Int) (s : St) : St := ⟨(tee k w s + (bs0 s.a + maj s.a s.b s.c)) % 4294967296, s.a, s.b, s.c, (s.d + tee k w s) % 4294967296, s.e, s.f, s.g⟩
def kAt (i : Nat) : Int := kNums[i]?.getD 0
def rounds (bs : Nat → Int) : Nat → St → St
  | 0, s => s
  | n + 1, s => rnd (kAt n) (WW bs n) (rounds bs n s)
theorem KK_at {i : Nat} (h : i < 64) : KK[i]? = some (.int .u32 (kAt i)) := by
  have hl : i < kNums.length := by rw [show kNums.length = 64 by kernel_rfl]; exact h
  unfold KK kAt
  simp [hl]

def St.at : St → Nat → Int
  | s, 0 => s.a
  | s, 1 => s.b
  | s, 2 => s.c
  | s, 3 => s.d
  | s, 4 => s.e
  | s, 5 => s.f
  | s, 6 => s.g
  | s, _ => s.h
theorem St.cells_at (s : St) {j : Nat} (h : j < 8) : s.cells[j]? = some (.int .u32 (s.at j)) := by
  match j, h with
  | 0, _ => rfl
  | 1, _ => rfl
  | 2, _ => rfl
  | 3, _ => rfl
  | 4, _ => rfl
  | 5, _ => rfl
  | 6, _ => rfl
  | 7, _ => rfl
theorem St.cells_size (s : St) : s.cells.size = 8 := rfl
def addI (x y : Int) : Int := (x + y) % 4294967296
def addSt (s t : St) : St := ⟨addI s.a t.a, addI s.b t.b, addI s.c t.c, addI s.d t.d, addI s.e t.e, addI s.f t.f, addI s.g t.g, addI s.h t.h⟩
theorem addSt_at (s t : St) {j : Nat} (h : j < 8) : (addSt s t).at j = (s.at j + t.at j) % 4294967296 := by
  match j, h with
  | 0, _ => rfl
  | 1, _ => rfl
  | 2, _ => rfl
  | 3, _ => rfl
  | 4, _ => rfl
  | 5, _ => rfl
  | 6, _ => rfl
  | 7, _ => rfl
/-- what a block makes of a state -/
def comp (bs : Nat → Int) (s : St) : St := addSt s (rounds bs 64 s)
theorem cells_all {cs : Array Value} {s : St} (hz : cs.size = 8) (h : ∀ j, j < 8 → cs[j]? = some (.int .u32 (s.at j))) : cs = s.cells := by
  apply Array.ext_getElem?
  intro j
  by_cases hj : j < 8
  · rw [h j hj, St.cells_at s hj]
  · rw [Array.getElem?_eq_none (by omega), Array.getElem?_eq_none (by rw [St.cells_size]; omega)]
theorem cells_one (s : St) : s.cells.all (·.oneCell') = true := by simp [St.cells, Value.oneCell']
theorem info109 : (Try.prog.info? 109).map (·.size) = some 8 := by kernel_rfl

theorem put_more {cs : Array Value} {f : Nat → Value} {k : Nat} (h : ∀ j, j < k → cs[j]? = some (f j)) (hk : k < cs.size) : ∀ j, j < k + 1 → (cs.setIfInBounds k (f k))[j]? = some (f j) := by
  intro j hj
  by_cases e : j = k
  · subst e; rw [Array.getElem?_setIfInBounds_self]; simp [hk]
  · rw [Array.getElem?_setIfInBounds_ne (fun x => e x.symm)]; exact h j (by omega)

set_option maxRecDepth 1000000 in
set_option maxHeartbeats 8000000 in
theorem take_any (w : World) (sb bb bo n cap kb : Nat) (bs : Nat → Int) (a b c d e f g h : Int) (hn : 64 ≤ n) (_hc : n ≤ cap) (_hm : cap ≤ maxLen)
    (hb : ∀ j, j < 64 → w.cell? ⟨bb, bo + j, none⟩ = some (.int .u8 (bs j)))
    (hs : w.heap[sb]? = some (.cells #[.int .u32 a, .int .u32 b, .int .u32 c, .int .u32 d, .int .u32 e, .int .u32 f, .int .u32 g, .int .u32 h] 109 (0, 0)))
    (hk : w.heap[kb]? = some (.cells KK 110 (0, 0))) :
    Calls Try.prog 69 #[.pointer (some ⟨sb, 0, none⟩), .slice (some ⟨bb, bo, none⟩) n cap, .pointer (some ⟨kb, 0, none⟩)] w fun ee w' => ee = .returned (.tuple #[]) ∧ w'.heap[sb]? = some (.cells (comp bs ⟨a, b, c, d, e, f, g, h⟩).cells 109 (0, 0)) ∧ Kept (fun c => c = sb) w w' := by
  have hbl : bb < w.heap.size := by have := World.block_lt_of_cell? w _ (hb 0 (by decide)); simpa using this
  go_enter Try.func69, Try.ntmps69
  refine wp_seq_k ?_
  intro K1 hK1
  refine wp_region_lit ?_
  refine wpList_run (v := .pointer (some ⟨w.heap.size, 0, none⟩)) (w' := w.alloc (.cells ZZ 110)) rfl (by kernel_rfl) ?_
  refine hK1 _ _ ?_
  simp only [Act.put, List.setIfInBounds_toArray, List.set_cons_zero, List.set_cons_succ]
  go_wp2
  go_loopw [14] (fun i wr => ∃ (k : Nat) (cs : Array Value), k ≤ 16 ∧ i = .int .i64 k ∧ wr.heap[w.heap.size]? = some (.cells cs 110 (0, 0)) ∧ cs.size = 64 ∧ Hid (∀ j, j < k → cs[j]? = some (.int .u32 (word bs j))) ∧ Below w.heap.size w wr) (fun i _ => 16 - (intOf i).toNat)
  case atStart => exact ⟨0, ZZ, Nat.zero_le _, rfl, World.alloc_heap_new w _, rfl, (fun j hj => absurd hj (Nat.not_lt_zero _)), (Below.refl _ _).alloc (Nat.le_refl _) _⟩
  case round =>
    obtain ⟨k, cs, hk16, rfl, hW, hsz, hpre, hBw⟩ := hrel
    by_cases hlt : k < 16
    · have b0 := (hBw.cell (p := ⟨bb, bo + 4 * k, none⟩) hbl).trans (hb (4 * k) (by omega))
      have b1 := (hBw.cell (p := ⟨bb, bo + (4 * k + 1), none⟩) hbl).trans (hb (4 * k + 1) (by omega))
      have b2 := (hBw.cell (p := ⟨bb, bo + (4 * k + 2), none⟩) hbl).trans (hb (4 * k + 2) (by omega))
      have b3 := (hBw.cell (p := ⟨bb, bo + (4 * k + 3), none⟩) hbl).trans (hb (4 * k + 3) (by omega))
      have cW := cell_of_block hW k
      have fW := free_of_block hW k
      rw [Array.getElem?_eq_getElem (by omega)] at cW
      have k0 : (0 : Int) ≤ (k : Int) := by omega
      have k1 : (k : Int) < 16 := by omega
      have k3 : (k : Int) < 64 := by omega
      have k2 : decide ((k : Int) < 16) = true := by simp; omega
      have m0 : IntKind.i64.wrap (4 * (k : Int)) = 4 * (k : Int) := IntWalk.i64_in _ (by omega)
      have m1 : IntKind.i64.wrap (4 * (k : Int) + 1) = 4 * (k : Int) + 1 := IntWalk.i64_in _ (by omega)
      have m2 : IntKind.i64.wrap (4 * (k : Int) + 2) = 4 * (k : Int) + 2 := IntWalk.i64_in _ (by omega)
      have m3 : IntKind.i64.wrap (4 * (k : Int) + 3) = 4 * (k : Int) + 3 := IntWalk.i64_in _ (by omega)
      have p0 : (0 : Int) ≤ 4 * (k : Int) := by omega
      have p1 : (0 : Int) ≤ 4 * (k : Int) + 1 := by omega
      have p2 : (0 : Int) ≤ 4 * (k : Int) + 2 := by omega
      have p3 : (0 : Int) ≤ 4 * (k : Int) + 3 := by omega
      have q0 : 4 * (k : Int) < (n : Int) := by omega
      have q1 : 4 * (k : Int) + 1 < (n : Int) := by omega
      have q2 : 4 * (k : Int) + 2 < (n : Int) := by omega
      have q3 : 4 * (k : Int) + 3 < (n : Int) := by omega
      have t0 : (4 * (k : Int)).toNat = 4 * k := by omega
      have t1 : (4 * (k : Int) + 1).toNat = 4 * k + 1 := by omega
      have t2 : (4 * (k : Int) + 2).toNat = 4 * k + 2 := by omega
      have t3 : (4 * (k : Int) + 3).toNat = 4 * k + 3 := by omega
      clear hb hs hk
      go_wp2
      refine wp_region_M (.cut 34 (.read 0 (.read 1 (.read 2 (.read 3 (.read 4 (.read 5 (.read 6 (.read 7 (.read 8 (.read 9 (.read 10 (.read 11 (.read 12 (.read 13 (.read 14 (.read 15 (.read 16 (.read 17 (.read 18 (.read 19 (.read 20 (.read 21 (.read 22 (.read 23 (.read 24 (.read 25 (.read 26 (.read 27 (.read 28 (.read 29 (.read 30 (.read 31 (.read 32 (.read 33 (.cut 35 (.read 34 (.step 35 .done)))))))))))))))))))))))))))))))))))))) (by kernel_rfl) (by kernel_rfl) (fun _ d _ _ _ h => by cases d <;> exact h) ?_
      refine wpM_cut (fun w' => w' = wr.drew) (rfl) ?_
      refine wpM_read (v := ?_) rfl (by rfl) ?_ ?_
      rotate_left
      · intro w' hS'
        obtain rfl : w' = wr.drew := hS'
        go_simp
        try with_reducible rfl
      try simp only [Act.put, List.setIfInBounds_toArray, List.set_cons_zero, List.set_cons_succ]
      refine wpM_read (v := ?_) rfl (by rfl) ?_ ?_
      rotate_left
      · intro w' hS'
        obtain rfl : w' = wr.drew := hS'
        go_simp
        try with_reducible rfl
      try simp only [Act.put, List.setIfInBounds_toArray, List.set_cons_zero, List.set_cons_succ]
      refine wpM_read (v := ?_) rfl (by rfl) ?_ ?_
      rotate_left
      · intro w' hS'
        obtain rfl : w' = wr.drew := hS'
        go_simp
        try with_reducible rfl
      try simp only [Act.put, List.setIfInBounds_toArray, List.set_cons_zero, List.set_cons_succ]
      refine wpM_read (v := ?_) rfl (by rfl) ?_ ?_
      rotate_left
      · intro w' hS'
        obtain rfl : w' = wr.drew := hS'
        go_simp
        try with_reducible rfl
      try simp only [Act.put, List.setIfInBounds_toArray, List.set_cons_zero, List.set_cons_succ]
      refine wpM_read (v := ?_) rfl (by rfl) ?_ ?_
      rotate_left
      · intro w' hS'
        obtain rfl : w' = wr.drew := hS'
        go_simp
        try with_reducible rfl
      try simp only [Act.put, List.setIfInBounds_toArray, List.set_cons_zero, List.set_cons_succ]
      refine wpM_read (v := ?_) rfl (by rfl) ?_ ?_
      rotate_left
      · intro w' hS'
        obtain rfl : w' = wr.drew := hS'
        go_simp
        try with_reducible rfl
      try simp only [Act.put, List.setIfInBounds_toArray, List.set_cons_zero, List.set_cons_succ]
      refine wpM_read (v := ?_) rfl (by rfl) ?_ ?_
      rotate_left
      · intro w' hS'
        obtain rfl : w' = wr.drew := hS'
        go_simp
        try with_reducible rfl
      try simp only [Act.put, List.setIfInBounds_toArray, List.set_cons_zero, List.set_cons_succ]
      refine wpM_read (v := ?_) rfl (by rfl) ?_ ?_
      rotate_left
      · intro w' hS'
        obtain rfl : w' = wr.drew := hS'
        go_simp
        try with_reducible rfl
      try simp only [Act.put, List.setIfInBounds_toArray, List.set_cons_zero, List.set_cons_succ]
      refine wpM_read (v := ?_) rfl (by rfl) ?_ ?_
      rotate_left
      · intro w' hS'
        obtain rfl : w' = wr.drew := hS'
        go_simp
        try with_reducible rfl
      try simp only [Act.put, List.setIfInBounds_toArray, List.set_cons_zero, List.set_cons_succ]
      refine wpM_read (v := ?_) rfl (by rfl) ?_ ?_
      rotate_left
      · intro w' hS'
        obtain rfl : w' = wr.drew := hS'
        go_simp
        try with_reducible rfl
      try simp only [Act.put, List.setIfInBounds_toArray, List.set_cons_zero, List.set_cons_succ]
      refine wpM_read (v := ?_) rfl (by rfl) ?_ ?_
      rotate_left
      · intro w' hS'
        obtain rfl : w' = wr.drew := hS'
        go_simp
        try with_reducible rfl
      try simp only [Act.put, List.setIfInBounds_toArray, List.set_cons_zero, List.set_cons_succ]
      refine wpM_read (v := ?_) rfl (by rfl) ?_ ?_
      rotate_left
      · intro w' hS'
        obtain rfl : w' = wr.drew := hS'
        go_simp
        try with_reducible rfl
      try simp only [Act.put, List.setIfInBounds_toArray, List.set_cons_zero, List.set_cons_succ]
      refine wpM_read (v := ?_) rfl (by rfl) ?_ ?_
      rotate_left
      · intro w' hS'
        obtain rfl : w' = wr.drew := hS'
        go_simp
        try with_reducible rfl
      try simp only [Act.put, List.setIfInBounds_toArray, List.set_cons_zero, List.set_cons_succ]
      refine wpM_read (v := ?_) rfl (by rfl) ?_ ?_
      rotate_left
      · intro w' hS'
        obtain rfl : w' = wr.drew := hS'
        go_simp
        try with_reducible rfl
      try simp only [Act.put, List.setIfInBounds_toArray, List.set_cons_zero, List.set_cons_succ]
      refine wpM_read (v := ?_) rfl (by rfl) ?_ ?_
      rotate_left
      · intro w' hS'
        obtain rfl : w' = wr.drew := hS'
        go_simp
        try with_reducible rfl
      try simp only [Act.put, List.setIfInBounds_toArray, List.set_cons_zero, List.set_cons_succ]
      refine wpM_read (v := ?_) rfl (by rfl) ?_ ?_
      rotate_left
      · intro w' hS'
        obtain rfl : w' = wr.drew := hS'
        go_simp
        try with_reducible rfl
      try simp only [Act.put, List.setIfInBounds_toArray, List.set_cons_zero, List.set_cons_succ]
      refine wpM_read (v := ?_) rfl (by rfl) ?_ ?_
      rotate_left
      · intro w' hS'
        obtain rfl : w' = wr.drew := hS'
        go_simp
        try with_reducible rfl
      try simp only [Act.put, List.setIfInBounds_toArray, List.set_cons_zero, List.set_cons_succ]
      refine wpM_read (v := ?_) rfl (by rfl) ?_ ?_
      rotate_left
      · intro w' hS'
        obtain rfl : w' = wr.drew := hS'
        go_simp
        try with_reducible rfl
      try simp only [Act.put, List.setIfInBounds_toArray, List.set_cons_zero, List.set_cons_succ]
      refine wpM_read (v := ?_) rfl (by rfl) ?_ ?_
      rotate_left
      · intro w' hS'
        obtain rfl : w' = wr.drew := hS'
        go_simp
        try with_reducible rfl
      try simp only [Act.put, List.setIfInBounds_toArray, List.set_cons_zero, List.set_cons_succ]
      refine wpM_read (v := ?_) rfl (by rfl) ?_ ?_
      rotate_left
      · intro w' hS'
        obtain rfl : w' = wr.drew := hS'
        go_simp
        try with_reducible rfl
      try simp only [Act.put, List.setIfInBounds_toArray, List.set_cons_zero, List.set_cons_succ]
      refine wpM_read (v := ?_) rfl (by rfl) ?_ ?_
      rotate_left
      · intro w' hS'
        obtain rfl : w' = wr.drew := hS'
        go_simp
        try with_reducible rfl
      try simp only [Act.put, List.setIfInBounds_toArray, List.set_cons_zero, List.set_cons_succ]
      refine wpM_read (v := ?_) rfl (by rfl) ?_ ?_
      rotate_left
      · intro w' hS'
        obtain rfl : w' = wr.drew := hS'
        go_simp
        try with_reducible rfl
      try simp only [Act.put, List.setIfInBounds_toArray, List.set_cons_zero, List.set_cons_succ]
      refine wpM_read (v := ?_) rfl (by rfl) ?_ ?_
      rotate_left
      · intro w' hS'
        obtain rfl : w' = wr.drew := hS'
        go_simp
        try with_reducible rfl
      try simp only [Act.put, List.setIfInBounds_toArray, List.set_cons_zero, List.set_cons_succ]
      refine wpM_read (v := ?_) rfl (by rfl) ?_ ?_
      rotate_left
      · intro w' hS'
        obtain rfl : w' = wr.drew := hS'
        go_simp
        try with_reducible rfl
      try simp only [Act.put, List.setIfInBounds_toArray, List.set_cons_zero, List.set_cons_succ]
      refine wpM_read (v := ?_) rfl (by rfl) ?_ ?_
      rotate_left
      · intro w' hS'
        obtain rfl : w' = wr.drew := hS'
        go_simp
        try with_reducible rfl
      try simp only [Act.put, List.setIfInBounds_toArray, List.set_cons_zero, List.set_cons_succ]
      refine wpM_read (v := ?_) rfl (by rfl) ?_ ?_
      rotate_left
      · intro w' hS'
        obtain rfl : w' = wr.drew := hS'
        go_simp
        try with_reducible rfl
      try simp only [Act.put, List.setIfInBounds_toArray, List.set_cons_zero, List.set_cons_succ]
      refine wpM_read (v := ?_) rfl (by rfl) ?_ ?_
      rotate_left
      · intro w' hS'
        obtain rfl : w' = wr.drew := hS'
        go_simp
        try with_reducible rfl
      try simp only [Act.put, List.setIfInBounds_toArray, List.set_cons_zero, List.set_cons_succ]
      refine wpM_read (v := ?_) rfl (by rfl) ?_ ?_
      rotate_left
      · intro w' hS'
        obtain rfl : w' = wr.drew := hS'
        go_simp
        try with_reducible rfl
      try simp only [Act.put, List.setIfInBounds_toArray, List.set_cons_zero, List.set_cons_succ]
      refine wpM_read (v := ?_) rfl (by rfl) ?_ ?_
      rotate_left
      · intro w' hS'
        obtain rfl : w' = wr.drew := hS'
        go_simp
        try with_reducible rfl
      try simp only [Act.put, List.setIfInBounds_toArray, List.set_cons_zero, List.set_cons_succ]
      refine wpM_read (v := ?_) rfl (by rfl) ?_ ?_
      rotate_left
      · intro w' hS'
        obtain rfl : w' = wr.drew := hS'
        go_simp
        try with_reducible rfl
      try simp only [Act.put, List.setIfInBounds_toArray, List.set_cons_zero, List.set_cons_succ]
      refine wpM_read (v := ?_) rfl (by rfl) ?_ ?_
      rotate_left
      · intro w' hS'
        obtain rfl : w' = wr.drew := hS'
        go_simp
        try with_reducible rfl
      try simp only [Act.put, List.setIfInBounds_toArray, List.set_cons_zero, List.set_cons_succ]
      refine wpM_read (v := ?_) rfl (by rfl) ?_ ?_
      rotate_left
      · intro w' hS'
        obtain rfl : w' = wr.drew := hS'
        go_simp
        try with_reducible rfl
      try simp only [Act.put, List.setIfInBounds_toArray, List.set_cons_zero, List.set_cons_succ]
      refine wpM_read (v := ?_) rfl (by rfl) ?_ ?_
      rotate_left
      · intro w' hS'
        obtain rfl : w' = wr.drew := hS'
        go_simp
        try with_reducible rfl
      try simp only [Act.put, List.setIfInBounds_toArray, List.set_cons_zero, List.set_cons_succ]
      refine wpM_read (v := ?_) rfl (by rfl) ?_ ?_
      rotate_left
      · intro w' hS'
        obtain rfl : w' = wr.drew := hS'
        go_simp
        try with_reducible rfl
      try simp only [Act.put, List.setIfInBounds_toArray, List.set_cons_zero, List.set_cons_succ]
      refine wpM_cut (fun w' => w' = wr.drew) (rfl) ?_
      refine wpM_read (v := ?_) rfl (by rfl) ?_ ?_
      rotate_left
      · intro w' hS'
        obtain rfl : w' = wr.drew := hS'
        go_simp
        try with_reducible rfl
      try simp only [Act.put, List.setIfInBounds_toArray, List.set_cons_zero, List.set_cons_succ]
      refine wpM_step rfl (fun KK hKK => ?_)
      go_simp
      refine hKK.out _ _ (by first | exact .inl (by decide) | exact .inr trivial) ?_
      clear hKK KK
      try simp only [Act.put, List.setIfInBounds_toArray, List.set_cons_zero, List.set_cons_succ]
      refine wpM_done ?_
      go_wp2
      have hW2 : wr.drew.heap[w.heap.size]? = some (.cells cs 110 (0, 0)) := hW
      have e1 := heap_setCell_same hW2 (j := k) (.int .u32 (word bs k))
      refine ⟨⟨k + 1, cs.setIfInBounds k (.int .u32 (word bs k)), by omega, by go_num, e1, by simpa using hsz, put_more (f := fun j => .int .u32 (word bs j)) hpre.out (by omega), hBw.drew.grown (grownBy_cell _ _ _ _) (by have := hBw.size; exact this) (fun j hj => by cases hj; exact Nat.le_refl _)⟩, ?_⟩
      simp [intOf]
      omega
    · obtain rfl : k = 16 := by omega
      go_wp2

      go_loopw [8] (fun i wr => ∃ (k : Nat) (cs : Array Value), 16 ≤ k ∧ k ≤ 64 ∧ i = .int .i64 k ∧ wr.heap[w.heap.size]? = some (.cells cs 110 (0, 0)) ∧ cs.size = 64 ∧ Hid (∀ j, j < k → cs[j]? = some (.int .u32 (WW bs j))) ∧ Below w.heap.size w wr) (fun i _ => 64 - (intOf i).toNat)
      case atStart => exact ⟨16, cs, Nat.le_refl _, by omega, rfl, hW, hsz, fun j hj => by rw [WW_low bs hj]; exact hpre.out j hj, hBw⟩
      case round =>
        clear hW hsz hpre hBw hk16
        obtain ⟨k, cs, hk16, hk64, rfl, hW, hsz, hpre, hBw⟩ := hrel
        by_cases hlt : k < 64
        · have g0 := (cell_of_block hW (k - 16)).trans (hpre.out (k - 16) (by omega))
          have g1 := (cell_of_block hW (k - 15)).trans (hpre.out (k - 15) (by omega))
          have g2 := (cell_of_block hW (k - 7)).trans (hpre.out (k - 7) (by omega))
          have g3 := (cell_of_block hW (k - 2)).trans (hpre.out (k - 2) (by omega))
          have cW := cell_of_block hW k
          have fW := free_of_block hW k
          rw [Array.getElem?_eq_getElem (by omega)] at cW
          have k0 : (0 : Int) ≤ (k : Int) := by omega
          have k1 : (k : Int) < 64 := by omega
          have k2 : decide ((k : Int) < 64) = true := by simp; omega
          have hwk := WW_high bs hk16
          generalize WW bs (k - 16) = x0 at *
          generalize WW bs (k - 15) = x1 at *
          generalize WW bs (k - 7) = x2 at *
          generalize WW bs (k - 2) = x3 at *
          have Hwk := Lib.hid hwk
          clear hwk
          have m0 : IntKind.i64.wrap ((k : Int) - 16) = (k : Int) - 16 := IntWalk.i64_in _ (by omega)
          have p0 : (16 : Int) ≤ (k : Int) := by omega
          have q0 : (k : Int) - 16 < 64 := by omega
          have t0 : ((k : Int) - 16).toNat = k - 16 := by omega
          have m1 : IntKind.i64.wrap ((k : Int) - 15) = (k : Int) - 15 := IntWalk.i64_in _ (by omega)
          have p1 : (15 : Int) ≤ (k : Int) := by omega
          have q1 : (k : Int) - 15 < 64 := by omega
          have t1 : ((k : Int) - 15).toNat = k - 15 := by omega
          have m2 : IntKind.i64.wrap ((k : Int) - 7) = (k : Int) - 7 := IntWalk.i64_in _ (by omega)
          have p2 : (7 : Int) ≤ (k : Int) := by omega
          have q2 : (k : Int) - 7 < 64 := by omega
          have t2 : ((k : Int) - 7).toNat = k - 7 := by omega
          have m3 : IntKind.i64.wrap ((k : Int) - 2) = (k : Int) - 2 := IntWalk.i64_in _ (by omega)
          have p3 : (2 : Int) ≤ (k : Int) := by omega
          have q3 : (k : Int) - 2 < 64 := by omega
          have t3 : ((k : Int) - 2).toNat = k - 2 := by omega
          clear hb hs hk
          go_wp2
          refine wp_region_M (.cut 22 (.read 0 (.read 1 (.read 2 (.read 3 (.read 4 (.read 5 (.read 6 (.read 7 (.read 8 (.read 11 (.read 12 (.read 13 (.read 14 (.read 16 (.read 17 (.read 18 (.read 19 (.step 9 (.read 10 (.read 15 (.step 20 (.read 21 (.cut 23 (.read 22 (.step 23 .done)))))))))))))))))))))))))) (by kernel_rfl) (by kernel_rfl) (fun _ d _ _ _ h => by cases d <;> exact h) ?_
          refine wpM_cut (fun w' => w' = wr.drew) (rfl) ?_
          refine wpM_read (v := ?_) rfl (by rfl) ?_ ?_
          rotate_left
          · intro w' hS'
            obtain rfl : w' = wr.drew := hS'
            go_simp
            try with_reducible rfl
          try simp only [Act.put, List.setIfInBounds_toArray, List.set_cons_zero, List.set_cons_succ]
          refine wpM_read (v := ?_) rfl (by rfl) ?_ ?_
          rotate_left
          · intro w' hS'
            obtain rfl : w' = wr.drew := hS'
            go_simp
            try with_reducible rfl
          try simp only [Act.put, List.setIfInBounds_toArray, List.set_cons_zero, List.set_cons_succ]
          refine wpM_read (v := ?_) rfl (by rfl) ?_ ?_
          rotate_left
          · intro w' hS'
            obtain rfl : w' = wr.drew := hS'
            go_simp
            try with_reducible rfl
          try simp only [Act.put, List.setIfInBounds_toArray, List.set_cons_zero, List.set_cons_succ]
          refine wpM_read (v := ?_) rfl (by rfl) ?_ ?_
          rotate_left
          · intro w' hS'
            obtain rfl : w' = wr.drew := hS'
            go_simp
            try with_reducible rfl
          try simp only [Act.put, List.setIfInBounds_toArray, List.set_cons_zero, List.set_cons_succ]
          refine wpM_read (v := ?_) rfl (by rfl) ?_ ?_
          rotate_left
          · intro w' hS'
            obtain rfl : w' = wr.drew := hS'
            go_simp
            try with_reducible rfl
          try simp only [Act.put, List.setIfInBounds_toArray, List.set_cons_zero, List.set_cons_succ]
          refine wpM_read (v := ?_) rfl (by rfl) ?_ ?_
          rotate_left
          · intro w' hS'
            obtain rfl : w' = wr.drew := hS'
            go_simp
            try with_reducible rfl
          try simp only [Act.put, List.setIfInBounds_toArray, List.set_cons_zero, List.set_cons_succ]
          refine wpM_read (v := ?_) rfl (by rfl) ?_ ?_
          rotate_left
          · intro w' hS'
            obtain rfl : w' = wr.drew := hS'
            go_simp
            try with_reducible rfl
          try simp only [Act.put, List.setIfInBounds_toArray, List.set_cons_zero, List.set_cons_succ]
          refine wpM_read (v := ?_) rfl (by rfl) ?_ ?_
          rotate_left
          · intro w' hS'
            obtain rfl : w' = wr.drew := hS'
            go_simp
            try with_reducible rfl
          try simp only [Act.put, List.setIfInBounds_toArray, List.set_cons_zero, List.set_cons_succ]
          refine wpM_read (v := ?_) rfl (by rfl) ?_ ?_
          rotate_left
          · intro w' hS'
            obtain rfl : w' = wr.drew := hS'
            go_simp
            try with_reducible rfl
          try simp only [Act.put, List.setIfInBounds_toArray, List.set_cons_zero, List.set_cons_succ]
          refine wpM_read (v := ?_) rfl (by rfl) ?_ ?_
          rotate_left
          · intro w' hS'
            obtain rfl : w' = wr.drew := hS'
            go_simp
            try with_reducible rfl
          try simp only [Act.put, List.setIfInBounds_toArray, List.set_cons_zero, List.set_cons_succ]
          refine wpM_read (v := ?_) rfl (by rfl) ?_ ?_
          rotate_left
          · intro w' hS'
            obtain rfl : w' = wr.drew := hS'
            go_simp
            try with_reducible rfl
          try simp only [Act.put, List.setIfInBounds_toArray, List.set_cons_zero, List.set_cons_succ]
          refine wpM_read (v := ?_) rfl (by rfl) ?_ ?_
          rotate_left
          · intro w' hS'
            obtain rfl : w' = wr.drew := hS'
            go_simp
            try with_reducible rfl
          try simp only [Act.put, List.setIfInBounds_toArray, List.set_cons_zero, List.set_cons_succ]
          refine wpM_read (v := ?_) rfl (by rfl) ?_ ?_
          rotate_left
          · intro w' hS'
            obtain rfl : w' = wr.drew := hS'
            go_simp
            try with_reducible rfl
          try simp only [Act.put, List.setIfInBounds_toArray, List.set_cons_zero, List.set_cons_succ]
          refine wpM_read (v := ?_) rfl (by rfl) ?_ ?_
          rotate_left
          · intro w' hS'
            obtain rfl : w' = wr.drew := hS'
            go_simp
            try with_reducible rfl
          try simp only [Act.put, List.setIfInBounds_toArray, List.set_cons_zero, List.set_cons_succ]
          refine wpM_read (v := ?_) rfl (by rfl) ?_ ?_
          rotate_left
          · intro w' hS'
            obtain rfl : w' = wr.drew := hS'
            go_simp
            try with_reducible rfl
          try simp only [Act.put, List.setIfInBounds_toArray, List.set_cons_zero, List.set_cons_succ]
          refine wpM_read (v := ?_) rfl (by rfl) ?_ ?_
          rotate_left
          · intro w' hS'
            obtain rfl : w' = wr.drew := hS'
            go_simp
            try with_reducible rfl
          try simp only [Act.put, List.setIfInBounds_toArray, List.set_cons_zero, List.set_cons_succ]
          refine wpM_read (v := ?_) rfl (by rfl) ?_ ?_
          rotate_left
          · intro w' hS'
            obtain rfl : w' = wr.drew := hS'
            go_simp
            try with_reducible rfl
          try simp only [Act.put, List.setIfInBounds_toArray, List.set_cons_zero, List.set_cons_succ]
          refine wpM_step rfl (fun KK hKK => ?_)
          go_simp
          go_at_call 88
          refine (s0_any _ _).mono ?_
          rintro e w5 ⟨rfl, rfl⟩
          refine hKK.out _ _ (.inr rfl) ?_
          clear hKK KK
          try simp only [Act.put, List.setIfInBounds_toArray, List.set_cons_zero, List.set_cons_succ]
          refine wpM_read (v := ?_) rfl (by rfl) ?_ ?_
          rotate_left
          · intro w' hS'
            obtain rfl : w' = wr.drew := hS'
            go_simp
            try with_reducible rfl
          try simp only [Act.put, List.setIfInBounds_toArray, List.set_cons_zero, List.set_cons_succ]
          refine wpM_read (v := ?_) rfl (by rfl) ?_ ?_
          rotate_left
          · intro w' hS'
            obtain rfl : w' = wr.drew := hS'
            go_simp
            try with_reducible rfl
          try simp only [Act.put, List.setIfInBounds_toArray, List.set_cons_zero, List.set_cons_succ]
          refine wpM_step rfl (fun KK hKK => ?_)
          go_simp
          go_at_call 89
          refine (s1_any _ _).mono ?_
          rintro e w5 ⟨rfl, rfl⟩
          refine hKK.out _ _ (.inr rfl) ?_
          clear hKK KK
          try simp only [Act.put, List.setIfInBounds_toArray, List.set_cons_zero, List.set_cons_succ]
          refine wpM_read (v := ?_) rfl (by rfl) ?_ ?_
          rotate_left
          · intro w' hS'
            obtain rfl : w' = wr.drew := hS'
            go_simp
            try with_reducible rfl
          try simp only [Act.put, List.setIfInBounds_toArray, List.set_cons_zero, List.set_cons_succ]
          refine wpM_cut (fun w' => w' = wr.drew) (rfl) ?_
          refine wpM_read (v := ?_) rfl (by rfl) ?_ ?_
          rotate_left
          · intro w' hS'
            obtain rfl : w' = wr.drew := hS'
            go_simp
            try with_reducible rfl
          try simp only [Act.put, List.setIfInBounds_toArray, List.set_cons_zero, List.set_cons_succ]
          refine wpM_step rfl (fun KK hKK => ?_)
          go_simp
          refine hKK.out _ _ (by first | exact .inl (by decide) | exact .inr trivial) ?_
          clear hKK KK
          try simp only [Act.put, List.setIfInBounds_toArray, List.set_cons_zero, List.set_cons_succ]
          refine wpM_done ?_
          go_wp2
          have hW2 : wr.drew.heap[w.heap.size]? = some (.cells cs 110 (0, 0)) := hW
          have e1 := heap_setCell_same hW2 (j := k) (.int .u32 (WW bs k))
          rw [Hwk.out] at e1
          refine ⟨?_, ?_⟩
          · repeat apply Exists.intro
            refine ⟨?_, rfl⟩
            exact ⟨k + 1, cs.setIfInBounds k (.int .u32 (WW bs k)), by omega, by omega, by go_num, by rw [Hwk.out]; exact e1, by simpa using hsz, put_more (f := fun j => .int .u32 (WW bs j)) hpre.out (by omega), hBw.drew.grown (grownBy_cell _ _ _ _) (by have := hBw.size; exact this) (fun j hj => by cases hj; exact Nat.le_refl _)⟩
          · simp [intOf]
            omega
        · obtain rfl : k = 64 := by omega
          -- the words are laid; the state is copied
          obtain ⟨B, hB⟩ : ∃ B, B = wr.heap.size := ⟨_, rfl⟩
          have hsb : wr.heap[sb]? = some (.cells #[.int .u32 a, .int .u32 b, .int .u32 c, .int .u32 d, .int .u32 e, .int .u32 f, .int .u32 g, .int .u32 h] 109 (0, 0)) := (hBw.block sb (Array.getElem?_eq_some_iff.1 hs).1).trans hs
          have hkb : wr.heap[kb]? = some (.cells KK 110 (0, 0)) := (hBw.block kb (Array.getElem?_eq_some_iff.1 hk).1).trans hk
          have s0 := cell_of_block hsb 0
          have s1 := cell_of_block hsb 1
          have s2 := cell_of_block hsb 2
          have s3 := cell_of_block hsb 3
          have s4 := cell_of_block hsb 4
          have s5 := cell_of_block hsb 5
          have s6 := cell_of_block hsb 6
          have s7 := cell_of_block hsb 7
          simp at s0 s1 s2 s3 s4 s5 s6 s7
          clear hb hB
          go_wp2
          have hz1 : (wr.alloc (.cells (St.mk a b c d e f g h).cells 109)).heap[wr.heap.size]? = some (.cells (St.mk a b c d e f g h).cells 109 (0, 0)) := World.alloc_heap_new wr _
          have hws := hBw.size
          have hwl := (Array.getElem?_eq_some_iff.1 hW).1
          generalize hBv : wr.heap.size = Bv at *
          obtain ⟨wo, rfl⟩ : ∃ wo : World, wo = wr := ⟨_, rfl⟩
          go_loopw [83] (fun i w2 => ∃ (k : Nat) (s : St), k ≤ 64 ∧ i = .int .i64 k ∧ w2.heap[Bv]? = some (.cells s.cells 109 (0, 0)) ∧ Hid (s = rounds bs k ⟨a, b, c, d, e, f, g, h⟩) ∧ Below Bv wo w2) (fun i _ => 64 - (intOf i).toNat)
          case atStart => exact ⟨0, ⟨a, b, c, d, e, f, g, h⟩, Nat.zero_le _, rfl, hz1, rfl, (Below.refl _ _).alloc (by omega) _⟩
          case round =>
            obtain ⟨k, s, hk64b, rfl, hV, hrs, hB2⟩ := hrel
            by_cases hlt : k < 64
            · have v0 := cell_of_block hV 0
              have v1 := cell_of_block hV 1
              have v2 := cell_of_block hV 2
              have v3 := cell_of_block hV 3
              have v4 := cell_of_block hV 4
              have v5 := cell_of_block hV 5
              have v6 := cell_of_block hV 6
              have v7 := cell_of_block hV 7
              have f0 := free_of_block hV 0
              simp [St.cells] at v0 v1 v2 v3 v4 v5 v6 v7
              have gk := (cell_of_block ((hB2.block kb (by have := (Array.getElem?_eq_some_iff.1 hkb).1; omega)).trans hkb) k).trans (KK_at hlt)
              have gw := (cell_of_block ((hB2.block w.heap.size (by omega)).trans hW) k).trans (hpre.out k hlt)
              have k0 : (0 : Int) ≤ (k : Int) := by omega
              have k1 : (k : Int) < 64 := by omega
              have k2 : decide ((k : Int) < 64) = true := by simp; omega
              clear s0 s1 s2 s3 s4 s5 s6 s7
              generalize hkk : kAt k = kk at gk
              generalize hww : WW bs k = ww at gw
              have Hkk := Lib.hid hkk
              have Hww := Lib.hid hww
              clear hkk hww hs hk
              go_wp2
              refine wp_region_M (.cut 23 (.read 0 (.read 1 (.read 2 (.read 3 (.read 6 (.read 7 (.read 8 (.read 9 (.read 10 (.read 11 (.read 14 (.read 15 (.read 16 (.read 17 (.read 18 (.read 20 (.read 21 (.read 22 (.step 4 (.read 5 (.step 12 (.read 13 (.read 19 (.cut 24 (.read 23 (.step 24 .done))))))))))))))))))))))))))) (by kernel_rfl) (by kernel_rfl) (fun _ d _ _ _ h => by cases d <;> exact h) ?_
              refine wpM_cut (fun w' => w' = wr.drew) (rfl) ?_
              refine wpM_read (v := ?_) rfl (by rfl) ?_ ?_
              rotate_left
              · intro w' hS'
                obtain rfl : w' = wr.drew := hS'
                go_simp
                try with_reducible rfl
              try simp only [Act.put, List.setIfInBounds_toArray, List.set_cons_zero, List.set_cons_succ]
              refine wpM_read (v := ?_) rfl (by rfl) ?_ ?_
              rotate_left
              · intro w' hS'
                obtain rfl : w' = wr.drew := hS'
                go_simp
                try with_reducible rfl
              try simp only [Act.put, List.setIfInBounds_toArray, List.set_cons_zero, List.set_cons_succ]
              refine wpM_read (v := ?_) rfl (by rfl) ?_ ?_
              rotate_left
              · intro w' hS'
                obtain rfl : w' = wr.drew := hS'
                go_simp
                try with_reducible rfl
              try simp only [Act.put, List.setIfInBounds_toArray, List.set_cons_zero, List.set_cons_succ]
              refine wpM_read (v := ?_) rfl (by rfl) ?_ ?_
              rotate_left
              · intro w' hS'
                obtain rfl : w' = wr.drew := hS'
                go_simp
                try with_reducible rfl
              try simp only [Act.put, List.setIfInBounds_toArray, List.set_cons_zero, List.set_cons_succ]
              refine wpM_read (v := ?_) rfl (by rfl) ?_ ?_
              rotate_left
              · intro w' hS'
                obtain rfl : w' = wr.drew := hS'
                go_simp
                try with_reducible rfl
              try simp only [Act.put, List.setIfInBounds_toArray, List.set_cons_zero, List.set_cons_succ]
              refine wpM_read (v := ?_) rfl (by rfl) ?_ ?_
              rotate_left
              · intro w' hS'
                obtain rfl : w' = wr.drew := hS'
                go_simp
                try with_reducible rfl
              try simp only [Act.put, List.setIfInBounds_toArray, List.set_cons_zero, List.set_cons_succ]
              refine wpM_read (v := ?_) rfl (by rfl) ?_ ?_
              rotate_left
              · intro w' hS'
                obtain rfl : w' = wr.drew := hS'
                go_simp
                try with_reducible rfl
              try simp only [Act.put, List.setIfInBounds_toArray, List.set_cons_zero, List.set_cons_succ]
              refine wpM_read (v := ?_) rfl (by rfl) ?_ ?_
              rotate_left
              · intro w' hS'
                obtain rfl : w' = wr.drew := hS'
                go_simp
                try with_reducible rfl
              try simp only [Act.put, List.setIfInBounds_toArray, List.set_cons_zero, List.set_cons_succ]
              refine wpM_read (v := ?_) rfl (by rfl) ?_ ?_
              rotate_left
              · intro w' hS'
                obtain rfl : w' = wr.drew := hS'
                go_simp
                try with_reducible rfl
              try simp only [Act.put, List.setIfInBounds_toArray, List.set_cons_zero, List.set_cons_succ]
              refine wpM_read (v := ?_) rfl (by rfl) ?_ ?_
              rotate_left
              · intro w' hS'
                obtain rfl : w' = wr.drew := hS'
                go_simp
                try with_reducible rfl
              try simp only [Act.put, List.setIfInBounds_toArray, List.set_cons_zero, List.set_cons_succ]
              refine wpM_read (v := ?_) rfl (by rfl) ?_ ?_
              rotate_left
              · intro w' hS'
                obtain rfl : w' = wr.drew := hS'
                go_simp
                try with_reducible rfl
              try simp only [Act.put, List.setIfInBounds_toArray, List.set_cons_zero, List.set_cons_succ]
              refine wpM_read (v := ?_) rfl (by rfl) ?_ ?_
              rotate_left
              · intro w' hS'
                obtain rfl : w' = wr.drew := hS'
                go_simp
                try with_reducible rfl
              try simp only [Act.put, List.setIfInBounds_toArray, List.set_cons_zero, List.set_cons_succ]
              refine wpM_read (v := ?_) rfl (by rfl) ?_ ?_
              rotate_left
              · intro w' hS'
                obtain rfl : w' = wr.drew := hS'
                go_simp
                try with_reducible rfl
              try simp only [Act.put, List.setIfInBounds_toArray, List.set_cons_zero, List.set_cons_succ]
              refine wpM_read (v := ?_) rfl (by rfl) ?_ ?_
              rotate_left
              · intro w' hS'
                obtain rfl : w' = wr.drew := hS'
                go_simp
                try with_reducible rfl
              try simp only [Act.put, List.setIfInBounds_toArray, List.set_cons_zero, List.set_cons_succ]
              refine wpM_read (v := ?_) rfl (by rfl) ?_ ?_
              rotate_left
              · intro w' hS'
                obtain rfl : w' = wr.drew := hS'
                go_simp
                try with_reducible rfl
              try simp only [Act.put, List.setIfInBounds_toArray, List.set_cons_zero, List.set_cons_succ]
              refine wpM_read (v := ?_) rfl (by rfl) ?_ ?_
              rotate_left
              · intro w' hS'
                obtain rfl : w' = wr.drew := hS'
                go_simp
                try with_reducible rfl
              try simp only [Act.put, List.setIfInBounds_toArray, List.set_cons_zero, List.set_cons_succ]
              refine wpM_read (v := ?_) rfl (by rfl) ?_ ?_
              rotate_left
              · intro w' hS'
                obtain rfl : w' = wr.drew := hS'
                go_simp
                try with_reducible rfl
              try simp only [Act.put, List.setIfInBounds_toArray, List.set_cons_zero, List.set_cons_succ]
              refine wpM_read (v := ?_) rfl (by rfl) ?_ ?_
              rotate_left
              · intro w' hS'
                obtain rfl : w' = wr.drew := hS'
                go_simp
                try with_reducible rfl
              try simp only [Act.put, List.setIfInBounds_toArray, List.set_cons_zero, List.set_cons_succ]
              refine wpM_step rfl (fun KK hKK => ?_)
              go_simp
              go_at_call 90
              refine (b1_any _ _).mono ?_
              rintro e w5 ⟨rfl, rfl⟩
              refine hKK.out _ _ (.inr rfl) ?_
              clear hKK KK
              try simp only [Act.put, List.setIfInBounds_toArray, List.set_cons_zero, List.set_cons_succ]
              refine wpM_read (v := ?_) rfl (by rfl) ?_ ?_
              rotate_left
              · intro w' hS'
                obtain rfl : w' = wr.drew := hS'
                go_simp
                try with_reducible rfl
              try simp only [Act.put, List.setIfInBounds_toArray, List.set_cons_zero, List.set_cons_succ]
              refine wpM_step rfl (fun KK hKK => ?_)
              go_simp
              go_at_call 91
              refine (choose_any _ _ _ _).mono ?_
              rintro e w5 ⟨rfl, rfl⟩
              refine hKK.out _ _ (.inr rfl) ?_
              clear hKK KK
              try simp only [Act.put, List.setIfInBounds_toArray, List.set_cons_zero, List.set_cons_succ]
              refine wpM_read (v := ?_) rfl (by rfl) ?_ ?_
              rotate_left
              · intro w' hS'
                obtain rfl : w' = wr.drew := hS'
                go_simp
                try with_reducible rfl
              try simp only [Act.put, List.setIfInBounds_toArray, List.set_cons_zero, List.set_cons_succ]
              refine wpM_read (v := ?_) rfl (by rfl) ?_ ?_
              rotate_left
              · intro w' hS'
                obtain rfl : w' = wr.drew := hS'
                go_simp
                try with_reducible rfl
              try simp only [Act.put, List.setIfInBounds_toArray, List.set_cons_zero, List.set_cons_succ]
              refine wpM_cut (fun w' => w' = wr.drew) (rfl) ?_
              refine wpM_read (v := ?_) rfl (by rfl) ?_ ?_
              rotate_left
              · intro w' hS'
                obtain rfl : w' = wr.drew := hS'
                go_simp
                try with_reducible rfl
              try simp only [Act.put, List.setIfInBounds_toArray, List.set_cons_zero, List.set_cons_succ]
              refine wpM_still (v := ?_) rfl (by rfl) (by first | exact .inl (by decide) | exact .inr trivial) ?_ ?_
              rotate_left
              · go_simp
                try with_reducible rfl
              try simp only [Act.put, List.setIfInBounds_toArray, List.set_cons_zero, List.set_cons_succ]
              refine wpM_done ?_
              go_wp2
              refine wp_region_M (.cut 9 (.read 0 (.read 1 (.read 3 (.read 4 (.read 5 (.read 6 (.read 7 (.read 8 (.step 2 (.cut 10 (.step 9 (.cut 11 (.read 10 (.step 11 .done))))))))))))))) (by kernel_rfl) (by kernel_rfl) (fun _ d _ _ _ h => by cases d <;> exact h) ?_
              refine wpM_cut (fun w' => w' = wr.drew.drew) (rfl) ?_
              refine wpM_read (v := ?_) rfl (by rfl) ?_ ?_
              rotate_left
              · intro w' hS'
                obtain rfl : w' = wr.drew.drew := hS'
                go_simp
                try with_reducible rfl
              try simp only [Act.put, List.setIfInBounds_toArray, List.set_cons_zero, List.set_cons_succ]
              refine wpM_read (v := ?_) rfl (by rfl) ?_ ?_
              rotate_left
              · intro w' hS'
                obtain rfl : w' = wr.drew.drew := hS'
                go_simp
                try with_reducible rfl
              try simp only [Act.put, List.setIfInBounds_toArray, List.set_cons_zero, List.set_cons_succ]
              refine wpM_read (v := ?_) rfl (by rfl) ?_ ?_
              rotate_left
              · intro w' hS'
                obtain rfl : w' = wr.drew.drew := hS'
                go_simp
                try with_reducible rfl
              try simp only [Act.put, List.setIfInBounds_toArray, List.set_cons_zero, List.set_cons_succ]
              refine wpM_read (v := ?_) rfl (by rfl) ?_ ?_
              rotate_left
              · intro w' hS'
                obtain rfl : w' = wr.drew.drew := hS'
                go_simp
                try with_reducible rfl
              try simp only [Act.put, List.setIfInBounds_toArray, List.set_cons_zero, List.set_cons_succ]
              refine wpM_read (v := ?_) rfl (by rfl) ?_ ?_
              rotate_left
              · intro w' hS'
                obtain rfl : w' = wr.drew.drew := hS'
                go_simp
                try with_reducible rfl
              try simp only [Act.put, List.setIfInBounds_toArray, List.set_cons_zero, List.set_cons_succ]
              refine wpM_read (v := ?_) rfl (by rfl) ?_ ?_
              rotate_left
              · intro w' hS'
                obtain rfl : w' = wr.drew.drew := hS'
                go_simp
                try with_reducible rfl
              try simp only [Act.put, List.setIfInBounds_toArray, List.set_cons_zero, List.set_cons_succ]
              refine wpM_read (v := ?_) rfl (by rfl) ?_ ?_
              rotate_left
              · intro w' hS'
                obtain rfl : w' = wr.drew.drew := hS'
                go_simp
                try with_reducible rfl
              try simp only [Act.put, List.setIfInBounds_toArray, List.set_cons_zero, List.set_cons_succ]
              refine wpM_read (v := ?_) rfl (by rfl) ?_ ?_
              rotate_left
              · intro w' hS'
                obtain rfl : w' = wr.drew.drew := hS'
                go_simp
                try with_reducible rfl
              try simp only [Act.put, List.setIfInBounds_toArray, List.set_cons_zero, List.set_cons_succ]
              refine wpM_step rfl (fun KK hKK => ?_)
              go_simp
              go_at_call 92
              refine (b0_any _ _).mono ?_
              rintro e w5 ⟨rfl, rfl⟩
              refine hKK.out _ _ (.inr rfl) ?_
              clear hKK KK
              try simp only [Act.put, List.setIfInBounds_toArray, List.set_cons_zero, List.set_cons_succ]
              refine wpM_cut (fun w' => w' = wr.drew.drew) (rfl) ?_
              refine wpM_step rfl (fun KK hKK => ?_)
              go_simp
              go_at_call 93
              refine (most_any _ _ _ _).mono ?_
              rintro e w5 ⟨rfl, rfl⟩
              refine hKK.out _ _ (.inr rfl) ?_
              clear hKK KK
              try simp only [Act.put, List.setIfInBounds_toArray, List.set_cons_zero, List.set_cons_succ]
              refine wpM_cut (fun w' => w' = wr.drew.drew) (rfl) ?_
              refine wpM_read (v := ?_) rfl (by rfl) ?_ ?_
              rotate_left
              · intro w' hS'
                obtain rfl : w' = wr.drew.drew := hS'
                go_simp
                try with_reducible rfl
              try simp only [Act.put, List.setIfInBounds_toArray, List.set_cons_zero, List.set_cons_succ]
              refine wpM_still (v := ?_) rfl (by rfl) (by first | exact .inl (by decide) | exact .inr trivial) ?_ ?_
              rotate_left
              · go_simp
                try with_reducible rfl
              try simp only [Act.put, List.setIfInBounds_toArray, List.set_cons_zero, List.set_cons_succ]
              refine wpM_done ?_
              go_wp2_with (refine wpList_store_row rfl 109 (.tmp 9) (.tmp 140) (by with_reducible rfl) Bv _ rfl rfl 109 _ hV ?s1 ?s2 ?s3 ?_)
              case s1 => exact info109
              case s2 => rfl
              case s3 => exact cells_one (rnd kk ww s)
              have hV2 : wr.drew.drew.heap[Bv]? = some (.cells s.cells 109 (0, 0)) := hV
              have e1 := setRow_heap wr.drew.drew Bv s.cells (rnd kk ww s).cells 109 (0, 0) hV2
              refine ⟨?_, ?_⟩
              · repeat apply Exists.intro
                refine ⟨?_, rfl⟩
                exact ⟨k + 1, rnd kk ww s, by omega, by go_num, e1, (by show _ = rounds bs (k + 1) _; rw [rounds, ← hrs.out, Hkk.out, Hww.out]), below_setRow hB2.drew.drew (Nat.le_refl _) _⟩
              · simp [intOf]
                omega
            · obtain rfl : k = 64 := by omega
              clear s0 s1 s2 s3 s4 s5 s6 s7
              have hsb2 : wr.heap[sb]? = some (.cells (St.mk a b c d e f g h).cells 109 (0, 0)) := (hB2.block sb (by have := (Array.getElem?_eq_some_iff.1 hsb).1; omega)).trans hsb
              have hKw : Kept (fun c => c = sb) w wr := Kept.of_below (hBw.trans (hB2.mono (by omega)))
              have hne : sb ≠ Bv := by have := (Array.getElem?_eq_some_iff.1 hsb).1; omega
              generalize hS : St.mk a b c d e f g h = S at *
              have HS := Lib.hid hS
              clear hS
              go_wp2
              obtain ⟨wp, rfl⟩ : ∃ wp : World, wp = wr := ⟨_, rfl⟩
              go_loopw [142] (fun i w3 => ∃ (k : Nat) (cs : Array Value), k ≤ 8 ∧ i = .int .i64 k ∧ w3.heap[sb]? = some (.cells cs 109 (0, 0)) ∧ w3.heap[Bv]? = some (.cells s.cells 109 (0, 0)) ∧ cs.size = 8 ∧ Hid (∀ j, j < k → cs[j]? = some (.int .u32 ((addSt S s).at j))) ∧ Hid (∀ j, k ≤ j → cs[j]? = S.cells[j]?) ∧ Kept (fun c => c = sb) w w3) (fun i _ => 8 - (intOf i).toNat)
              case atStart => exact ⟨0, S.cells, Nat.zero_le _, rfl, hsb2, hV, rfl, fun j hj => absurd hj (Nat.not_lt_zero _), fun j _ => rfl, hKw⟩
              case round =>
                clear hsb2 hV hKw
                obtain ⟨k, cs, hk8, rfl, hsb2, hV, hsz8, hpre8, hpost8, hKw⟩ := hrel
                by_cases hlt : k < 8
                · have cs1 := (cell_of_block hsb2 k).trans ((hpost8.out k (Nat.le_refl _)).trans (St.cells_at S hlt))
                  have cv1 := (cell_of_block hV k).trans (St.cells_at s hlt)
                  have fs1 := free_of_block hsb2 k
                  have k0 : (0 : Int) ≤ (k : Int) := by omega
                  have k1 : (k : Int) < 8 := by omega
                  have k2 : decide ((k : Int) < 8) = true := by simp; omega
                  go_wp2
                  refine wp_region_M (.cut 10 (.read 0 (.read 1 (.read 2 (.read 3 (.read 4 (.read 5 (.read 6 (.read 7 (.read 8 (.read 9 (.cut 11 (.read 10 (.step 11 .done)))))))))))))) (by kernel_rfl) (by kernel_rfl) (fun _ d _ _ _ h => by cases d <;> exact h) ?_
                  refine wpM_cut (fun w' => w' = wr.drew) (rfl) ?_
                  refine wpM_read (v := ?_) rfl (by rfl) ?_ ?_
                  rotate_left
                  · intro w' hS'
                    obtain rfl : w' = wr.drew := hS'
                    go_simp
                    try with_reducible rfl
                  try simp only [Act.put, List.setIfInBounds_toArray, List.set_cons_zero, List.set_cons_succ]
                  refine wpM_read (v := ?_) rfl (by rfl) ?_ ?_
                  rotate_left
                  · intro w' hS'
                    obtain rfl : w' = wr.drew := hS'
                    go_simp
                    try with_reducible rfl
                  try simp only [Act.put, List.setIfInBounds_toArray, List.set_cons_zero, List.set_cons_succ]
                  refine wpM_read (v := ?_) rfl (by rfl) ?_ ?_
                  rotate_left
                  · intro w' hS'
                    obtain rfl : w' = wr.drew := hS'
                    go_simp
                    try with_reducible rfl
                  try simp only [Act.put, List.setIfInBounds_toArray, List.set_cons_zero, List.set_cons_succ]
                  refine wpM_read (v := ?_) rfl (by rfl) ?_ ?_
                  rotate_left
                  · intro w' hS'
                    obtain rfl : w' = wr.drew := hS'
                    go_simp
                    try with_reducible rfl
                  try simp only [Act.put, List.setIfInBounds_toArray, List.set_cons_zero, List.set_cons_succ]
                  refine wpM_read (v := ?_) rfl (by rfl) ?_ ?_
                  rotate_left
                  · intro w' hS'
                    obtain rfl : w' = wr.drew := hS'
                    go_simp
                    try with_reducible rfl
                  try simp only [Act.put, List.setIfInBounds_toArray, List.set_cons_zero, List.set_cons_succ]
                  refine wpM_read (v := ?_) rfl (by rfl) ?_ ?_
                  rotate_left
                  · intro w' hS'
                    obtain rfl : w' = wr.drew := hS'
                    go_simp
                    try with_reducible rfl
                  try simp only [Act.put, List.setIfInBounds_toArray, List.set_cons_zero, List.set_cons_succ]
                  refine wpM_read (v := ?_) rfl (by rfl) ?_ ?_
                  rotate_left
                  · intro w' hS'
                    obtain rfl : w' = wr.drew := hS'
                    go_simp
                    try with_reducible rfl
                  try simp only [Act.put, List.setIfInBounds_toArray, List.set_cons_zero, List.set_cons_succ]
                  refine wpM_read (v := ?_) rfl (by rfl) ?_ ?_
                  rotate_left
                  · intro w' hS'
                    obtain rfl : w' = wr.drew := hS'
                    go_simp
                    try with_reducible rfl
                  try simp only [Act.put, List.setIfInBounds_toArray, List.set_cons_zero, List.set_cons_succ]
                  refine wpM_read (v := ?_) rfl (by rfl) ?_ ?_
                  rotate_left
                  · intro w' hS'
                    obtain rfl : w' = wr.drew := hS'
                    go_simp
                    try with_reducible rfl
                  try simp only [Act.put, List.setIfInBounds_toArray, List.set_cons_zero, List.set_cons_succ]
                  refine wpM_read (v := ?_) rfl (by rfl) ?_ ?_
                  rotate_left
                  · intro w' hS'
                    obtain rfl : w' = wr.drew := hS'
                    go_simp
                    try with_reducible rfl
                  try simp only [Act.put, List.setIfInBounds_toArray, List.set_cons_zero, List.set_cons_succ]
                  refine wpM_cut (fun w' => w' = wr.drew) (rfl) ?_
                  refine wpM_read (v := ?_) rfl (by rfl) ?_ ?_
                  rotate_left
                  · intro w' hS'
                    obtain rfl : w' = wr.drew := hS'
                    go_simp
                    try with_reducible rfl
                  try simp only [Act.put, List.setIfInBounds_toArray, List.set_cons_zero, List.set_cons_succ]
                  refine wpM_step rfl (fun KK hKK => ?_)
                  go_simp
                  refine hKK.out _ _ (by first | exact .inl (by decide) | exact .inr trivial) ?_
                  clear hKK KK
                  try simp only [Act.put, List.setIfInBounds_toArray, List.set_cons_zero, List.set_cons_succ]
                  refine wpM_done ?_
                  go_wp2
                  have e1 := heap_setCell_same hsb2 (j := k) (.int .u32 ((addSt S s).at k))
                  rw [addSt_at S s hlt] at e1
                  have hlt2 := (Array.getElem?_eq_some_iff.1 hV).1
                  refine ⟨?_, ?_⟩
                  · repeat apply Exists.intro
                    refine ⟨?_, rfl⟩
                    exact ⟨k + 1, cs.setIfInBounds k (.int .u32 ((S.at k + s.at k) % 4294967296)), by omega, by go_num, e1, (Below.heap_setCell _ _ _ _ (fun x => hne x.symm)).trans hV, by simpa using hsz8,
                      (by rw [← addSt_at S s hlt]; exact put_more (f := fun j => .int .u32 ((addSt S s).at j)) hpre8.out (by omega)), fun j hj => (Array.getElem?_setIfInBounds_ne (by omega)).trans (hpost8.out j (by omega)), (hKw.setCell ⟨sb, k, none⟩ rfl _).drewN 1⟩
                  · simp [intOf]
                    omega
                · obtain rfl : k = 8 := by omega
                  go_wp2
                  have e1 : cs = (comp bs S).cells := by rw [comp, ← hrs.out]; exact cells_all hsz8 hpre8.out
                  rw [e1] at hsb2
                  go_end0
                  exact ⟨rfl, (by rw [HS.out]; exact hsb2), hKw⟩
end Go.Proofs.Ytjhpemlgcjdpfaa
