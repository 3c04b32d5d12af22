/- bytes laid, cloned, handed out; what may be -/
import Derived.Test.YtjhpemlgcjdpfaaI
import Derived.Outline
namespace Go.Proofs.Ytjhpemlgcjdpfaa
open Go.RowKit

theorem grown_refl (w : World) (r : Option Nat) : w.grownBy w r := ⟨rfl, rfl, rfl, Nat.le_refl _, fun _ _ _ => rfl⟩

set_option maxRecDepth 1000000 in
set_option maxHeartbeats 4000000 in
theorem raw_any (w : World) (c base : Nat) (wv v : Value) (e : TypeId) (l xs : List Int) (hb : xs.length + l.length ≤ 140737488355328) (hbs : base ≤ w.heap.size)
    (hR : RowAt w e v l.length (zB l)) (hW : WrAt w c base wv xs) :
    Calls Try.prog 72 #[.pointer (some ⟨c, 0, none⟩), v] w fun ee w' => ee = .returned (.tuple #[]) ∧ ∃ wv', WrAt w' c base wv' (xs ++ l) ∧ OwnOr w.heap.size wv wv' ∧ Kept (wrR c wv) w w' := by
  obtain ⟨a0, cap0, rfl, hc0, hm0⟩ := hR.shape
  obtain ⟨i0, hi, hz0, hz1, hz2⟩ := info_parts infoP5
  have hcl := cell_of_block hW.cell 0
  have hfl := free_of_block hW.cell 0
  simp at hcl
  have hown := hW.own
  go_enter Try.func72, Try.ntmps72
  go_wp2_with (refine wpList_append_rowAt _ rfl (.tmp 10) (.tmp 11) 52 (by with_reducible rfl) base 5 i0 (.int .u8 0) 1 1 Try.underlying52 hi hz0 hz1 hz2 rfl (by decide) wv _ _ rfl hown e _ l.length (zB l) rfl hR (by simp) (one_bytes l) (by unfold maxLen; omega) (by omega) hbs ?_; intro a' cap' w' hown' hgr' hbl'; have hcc := cell_of_block (hW.push_cell (grown_refl w _) hgr') 0; have hff := free_of_block (hW.push_cell (grown_refl w _) hgr') 0; simp at hcc)
  go_end0
  exact ⟨rfl, _, hW.push (grown_refl w _) hgr' hown' rfl, ownOr_push (.inl rfl) hbl' (Nat.le_refl _), kept_push (Kept.refl _ _) (grown_refl w _) hgr' (.inl rfl)⟩

set_option maxRecDepth 1000000 in
set_option maxHeartbeats 4000000 in
theorem clone_any (w : World) (v : Value) (e : TypeId) (l : List Int) (hl : l.length ≤ 140737488355328) (hR : RowAt w e v l.length (zB l)) :
    Calls Try.prog 85 #[v] w fun ee w' => ∃ v', ee = .returned v' ∧ w'.ownsRow w.heap.size 5 1 v' l.length (zB l) ∧ Below w.heap.size w w' := by
  obtain ⟨a0, cap0, rfl, hc0, hm0⟩ := hR.shape
  obtain ⟨i0, hi, hz0, hz1, hz2⟩ := info_parts infoP5
  cases a0 with
  | none =>
    have hn : l = [] := by
      rcases hR with ⟨h, _⟩ | ⟨b, off, cap, cur, fr, he, _⟩
      · exact List.eq_nil_of_length_eq_zero h
      · cases he
    subst hn
    have hq := Lib.run_eql_slice_nil (P := Try.prog) w 52 5 none 0 cap0 0 0 Try.underlying52
    go_enter Try.func85, Try.ntmps85
    go_wp2
    go_ret
    exact ⟨_, rfl, ⟨rfl, .inl ⟨rfl, rfl⟩⟩, Below.refl _ _⟩
  | some ad =>
    have hq := Lib.run_eql_slice_nil (P := Try.prog) w 52 5 (some ad) l.length cap0 0 0 Try.underlying52
    have hB1 : Below w.heap.size w (w.alloc (.cells #[] 5)) := (Below.refl _ _).alloc (Nat.le_refl _) _
    have hR1 := hR.below hB1 (Nat.le_refl _)
    have hown : (w.alloc (.cells #[] 5)).ownsRow w.heap.size 5 1 (.slice (some ⟨w.heap.size, 0, none⟩) 0 0) 0 [] := own_new w w.heap.size 5 w.heap.size rfl (Nat.le_refl _)
    go_enter Try.func85, Try.ntmps85
    go_wp2_with (refine wpList_append_rowAt _ rfl (.tmp 5) (.tmp 6) 52 (by with_reducible rfl) w.heap.size 5 i0 (.int .u8 0) 1 1 Try.underlying52 hi hz0 hz1 hz2 rfl (by decide) _ 0 [] rfl hown e _ l.length (zB l) rfl hR1 (by simp) (one_bytes l) (by unfold maxLen; omega) (by omega) (by simp) ?_; intro a' cap' w' hown' hgr' hbl')
    go_ret
    rw [Nat.zero_add, List.nil_append] at hown'
    refine ⟨_, rfl, ?_, hB1.grown hgr' (by simp) (fun j hj => by cases hj; exact Nat.le_refl _)⟩
    simpa using hown'

set_option maxRecDepth 1000000 in
set_option maxHeartbeats 4000000 in
theorem out_any (w : World) (c base : Nat) (wv : Value) (xs : List Int) (hb : xs.length ≤ 140737488355328) (hW : WrAt w c base wv xs) :
    Calls Try.prog 73 #[.pointer (some ⟨c, 0, none⟩)] w fun ee w' => ∃ v', ee = .returned v' ∧ w'.ownsRow w.heap.size 5 1 v' xs.length (zB xs) ∧ Below w.heap.size w w' := by
  have hcl := cell_of_block hW.cell 0
  simp at hcl
  have hR := RowAt.of_owns hW.own
  go_enter Try.func73, Try.ntmps73
  go_wp2_with (go_at_call 85; refine (clone_any _ _ 5 xs hb hR).mono ?_; rintro e w1 ⟨v1, rfl, ho1, hB1⟩)
  go_ret
  exact ⟨_, rfl, ho1, hB1⟩

theorem VoteM.at0 (v : VoteM) : v.arr[0]? = some (.int .i64 v.kind) := rfl
theorem VoteM.at1 (v : VoteM) : v.arr[1]? = some (.int .i64 v.slot) := rfl
theorem VoteM.at2 (v : VoteM) : v.arr[2]? = some (.int .i64 v.view) := rfl
theorem VoteM.cells_at (v : VoteM) (j : Nat) : v.arr[3 + j]? = (zB v.sum ++ (.int .i64 v.frm :: zB v.tag))[j]? := by
  unfold VoteM.arr VoteM.cells
  rw [List.getElem?_toArray, List.getElem?_append_right (by simp)]
  congr 1
  simp
theorem VoteM.at35 {v : VoteM} (h : v.Ok) : v.arr[35]? = some (.int .i64 v.frm) := by
  rw [show (35 : Nat) = 3 + 32 from rfl, v.cells_at, List.getElem?_append_right (by simp [h.sum])]
  simp [h.sum]
theorem VoteM.at_sum {v : VoteM} (j : Nat) (hj : j < v.sum.length) : v.arr[3 + j]? = (zB v.sum)[j]? := by
  rw [v.cells_at, List.getElem?_append_left (by simpa using hj)]
theorem VoteM.at_tag {v : VoteM} (h : v.Ok) (j : Nat) : v.arr[36 + j]? = (zB v.tag)[j]? := by
  rw [show 36 + j = 3 + (33 + j) by omega, v.cells_at, List.getElem?_append_right (by simp [h.sum]; omega), List.length_map, h.sum, show 33 + j - 32 = j + 1 by omega, List.getElem?_cons_succ]
theorem VoteM.row_sum {w : World} {b : Nat} {v : VoteM} (h : v.Ok) (hb : w.heap[b]? = some (.cells v.arr 26 (0, 0))) : RowAt w 26 (.slice (some ⟨b, 3, none⟩) 32 32) v.sum.length (zB v.sum) := by
  rw [h.sum]
  refine .inr ⟨b, 3, 32, _, (0, 0), rfl, Nat.le_refl _, by unfold maxLen; omega, hb, fun j hj => ?_⟩
  rw [VoteM.at_sum j (by simpa using hj), List.getElem?_eq_getElem hj]
theorem WrAt.alloc {w : World} {c base : Nat} {wv : Value} {xs : List Int} (h : WrAt w c base wv xs) (o : Obj) : WrAt (w.alloc o) c base wv xs :=
  ⟨(Below.heap_alloc _ _ _ h.size).trans h.cell, own_keep h.own (fun b hb => Below.heap_alloc _ _ _ (own_lt h.own b hb)), h.lt⟩
theorem WrAt.new (w : World) (n base : Nat) (hn : w.heap.size = n) (hb : n < base) : WrAt (w.alloc (.cells #[.slice none 0 0] 118)) n base (.slice none 0 0) [] :=
  ⟨by subst hn; exact World.alloc_heap_new w _, ⟨rfl, .inl ⟨rfl, rfl⟩⟩, hb⟩
/-- what who votes seals -/
def bodyB (v : VoteM) : List Int := numsB [5, v.kind, v.slot, v.view] ++ v.sum ++ numsB [v.frm]
theorem bodyB_len {v : VoteM} (h : v.Ok) : (bodyB v).length ≤ 100 := by
  have h1 := numsB_len [5, v.kind, v.slot, v.view]
  have h2 := numsB_len [v.frm]
  simp only [bodyB, List.length_append, h.sum, List.length_cons, List.length_nil] at h1 h2 ⊢
  omega

set_option maxRecDepth 1000000 in
set_option maxHeartbeats 4000000 in
theorem body_any (w : World) (v : VoteM) (hv : v.Ok) :
    Calls Try.prog 50 #[v.val] w fun ee w' => ∃ v', ee = .returned v' ∧ RowAt w' 5 v' (bodyB v).length (zB (bodyB v)) ∧ Below w.heap.size w w' := by
  have a0 := v.at0
  have a1 := v.at1
  have a2 := v.at2
  have a35 := VoteM.at35 hv
  have hval : v.val = .agg v.arr := rfl
  rw [hval]
  have hW1 := (WrAt.new (w.alloc (.cells v.arr 26)) (w.heap.size + 1) (w.heap.size + 2) (by simp) (by omega)).alloc (.cells #[.int .i64 5, .int .i64 v.kind, .int .i64 v.slot, .int .i64 v.view] 3)
  have e2 : (((w.alloc (.cells v.arr 26)).alloc (.cells #[.slice none 0 0] 118)).alloc (.cells #[.int .i64 5, .int .i64 v.kind, .int .i64 v.slot, .int .i64 v.view] 3)).heap[w.heap.size]? = some (.cells v.arr 26 (0, 0)) := (Below.heap_alloc _ _ _ (by simp; omega)).trans ((Below.heap_alloc _ _ _ (by simp)).trans (World.alloc_heap_new w _))
  have hn2 : (((w.alloc (.cells v.arr 26)).alloc (.cells #[.slice none 0 0] 118)).alloc (.cells #[.int .i64 5, .int .i64 v.kind, .int .i64 v.slot, .int .i64 v.view] 3)).heap[w.heap.size + 2]? = some (.cells (zI [5, v.kind, v.slot, v.view]).toArray 3 (0, 0)) := by
    have h := World.alloc_heap_new ((w.alloc (.cells v.arr 26)).alloc (.cells #[.slice none 0 0] 118)) (.cells #[.int .i64 5, .int .i64 v.kind, .int .i64 v.slot, .int .i64 v.view] 3)
    simp only [World.size_alloc] at h
    exact h
  have hB2 : Below w.heap.size w (((w.alloc (.cells v.arr 26)).alloc (.cells #[.slice none 0 0] 118)).alloc (.cells #[.int .i64 5, .int .i64 v.kind, .int .i64 v.slot, .int .i64 v.view] 3)) := (((Below.refl _ _).alloc (Nat.le_refl _) _).alloc (by simp) _).alloc (by simp; omega) _
  have hz2 : (((w.alloc (.cells v.arr 26)).alloc (.cells #[.slice none 0 0] 118)).alloc (.cells #[.int .i64 5, .int .i64 v.kind, .int .i64 v.slot, .int .i64 v.view] 3)).heap.size = w.heap.size + 3 := by simp
  go_enter Try.func50, Try.ntmps50
  go_wp2_with fail
  generalize (((w.alloc (.cells v.arr 26)).alloc (.cells #[.slice none 0 0] 118)).alloc (.cells #[.int .i64 5, .int .i64 v.kind, .int .i64 v.slot, .int .i64 v.view] 3)) = W2 at *
  refine (nums_any W2 (w.heap.size + 1) (w.heap.size + 2) _ _ 3 [5, v.kind, v.slot, v.view] [] (by simp) (by simp) (by omega) (row_whole hn2 rfl (by simp [maxLen])) (fun b hb h => ?_) hW1).mono ?_
  · simp [Value.ownBlock] at hb
    rcases h with h | h
    · omega
    · cases h
  rintro ee w3 ⟨rfl, wv3, hW3, hO3, hK3⟩
  rw [List.nil_append] at hW3
  have hz3 := hK3.size
  have g3 := own_ge hW3.own
  have e3 := (hK3.block w.heap.size (by omega) (fun h => by rcases h with h | h; omega; cases h)).trans e2
  have hB3 : Below w.heap.size w w3 := hK3.below hB2 (fun b h => by rcases h with h | h; omega; cases h)
  clear a0 a1 a2 e2 hn2 hB2 hK3 hW1
  go_wp2_with fail
  refine (raw_any w3 (w.heap.size + 1) (w.heap.size + 2) wv3 _ 26 v.sum _ (by have := numsB_len [5, v.kind, v.slot, v.view]; simp only [List.length_cons, List.length_nil] at this; have := hv.sum; omega) (by omega) (VoteM.row_sum hv e3) hW3).mono ?_
  rintro ee w4 ⟨rfl, wv4, hW4, hO4, hK4⟩
  have hz4 := hK4.size
  have g4 := own_ge hW4.own
  have l4 := own_lt hW4.own
  have e4 := (hK4.block w.heap.size (by omega) (fun h => by rcases h with h | h; omega; have := g3 _ h; omega)).trans e3
  have hB4 : Below w.heap.size w w4 := hK4.below hB3 (fun b h => by rcases h with h | h; omega; have := g3 _ h; omega)
  have c35 := (cell_of_block e4 35).trans a35
  clear a35 e3 hB3 hK4 hW3
  go_wp2_with fail
  refine (nums_any _ (w.heap.size + 1) (w.heap.size + 2) wv4 _ 3 [v.frm] _ (by have := numsB_len [5, v.kind, v.slot, v.view]; simp only [List.length_append, List.length_cons, List.length_nil] at this ⊢; have := hv.sum; omega) (by simp) (by simp; omega) (row_new w4 3 _ w4.heap.size rfl) (fun b hb h => ?_) (hW4.alloc _)).mono ?_
  · simp [Value.ownBlock] at hb
    rcases h with h | h
    · omega
    · have := l4 _ h; omega
  rintro ee w5 ⟨rfl, wv5, hW5, hO5, hK5⟩
  have hB5 : Below w.heap.size w w5 := hK5.below (hB4.alloc (by omega) _) (fun b h => by rcases h with h | h; omega; have := g4 _ h; omega)
  clear c35 e4 hB4 hK5 hW4
  go_wp2_with (go_at_call 73; refine (out_any w5 (w.heap.size + 1) (w.heap.size + 2) wv5 (bodyB v) (by have := bodyB_len hv; omega) hW5).mono ?_; rintro ee w6 ⟨v6, rfl, ho6, hB6⟩)
  go_ret
  exact ⟨_, rfl, RowAt.of_owns ho6, hB5.trans (hB6.mono hB5.size)⟩
end Go.Proofs.Ytjhpemlgcjdpfaa
