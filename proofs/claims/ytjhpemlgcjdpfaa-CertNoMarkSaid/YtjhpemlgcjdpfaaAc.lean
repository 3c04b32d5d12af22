/- marks: accepted -/
import Derived.Test.YtjhpemlgcjdpfaaMk
namespace Go.Proofs.Ytjhpemlgcjdpfaa
open Go.RowKit

/-- is a mark accepted? -/
def accB (n : Nat) (key : Nat → List Int) (k p e t : Int) (l : List VoteM) : Bool := markB k p e t && meetsB n key 3 0 0 (shaB (markL k p e t)) l
set_option maxRecDepth 1000000 in
set_option maxHeartbeats 4000000 in
theorem accepts_any (w : World) (rb n : Nat) (key : Nat → List Int) (hr : RingAt w rb n key) (k p e t : Int) (va : Option Addr) (vc : Nat) (ty : TypeId) (l : List VoteM) (hV : VotesAt w ty (.slice va l.length vc) l) :
    Calls Try.prog 37 #[.pointer (some ⟨rb, 0, none⟩), .agg #[.int .i64 k, .int .i64 p, .int .i64 e, .int .i64 t, .slice va l.length vc]] w fun ee w' => ee = .returned (.bool (accB n key k p e t l)) ∧ Below w.heap.size w w' := by
  have hA : Below w.heap.size w (w.alloc (.cells #[.int .i64 k, .int .i64 p, .int .i64 e, .int .i64 t, .slice va l.length vc] 48)) := (Below.refl _ _).alloc (Nat.le_refl _) _
  have hT : (w.alloc (.cells #[.int .i64 k, .int .i64 p, .int .i64 e, .int .i64 t, .slice va l.length vc] 48)).heap[w.heap.size]? = some (.cells #[.int .i64 k, .int .i64 p, .int .i64 e, .int .i64 t, .slice va l.length vc] 48 (0, 0)) := World.alloc_heap_new w _
  cases h : markB k p e t
  · rw [show accB n key k p e t l = false by rw [accB, h]; rfl]
    have H := Lib.hid h
    clear h
    go_enter Try.func37, Try.ntmps37
    go_wp2_with (go_at_call 64; refine (encodeBad_any _ _ _ _ _ H.out).mono ?_; rintro ee w1 ⟨rfl, hB1⟩)
    refine wp_region_M (.cut 1 (.read 0 (.cut 2 (.read 1 (.cut 8 (.read 2 (.read 3 (.read 4 (.read 5 (.read 6 (.step 7 (.cut 9 (.step 8 (.cut 10 (.read 9 (.step 10 .done)))))))))))))))) (by kernel_rfl) (by kernel_rfl) (fun _ d _ _ _ h => by cases d <;> exact h) ?_
    refine wpM_cut (fun _ => True) (trivial) ?_
    refine wpM_read (v := ?_) rfl (by rfl) ?_ ?_
    rotate_left
    · intro w' hS'
      try obtain ⟨hS1, hS2⟩ := hS'
      go_simp
      try with_reducible rfl
    try simp only [Act.put, List.setIfInBounds_toArray, List.set_cons_zero, List.set_cons_succ]
    refine wpM_cut (fun _ => True) (trivial) ?_
    refine wpM_read (v := ?_) rfl (by rfl) ?_ ?_
    rotate_left
    · intro w' hS'
      try obtain ⟨hS1, hS2⟩ := hS'
      go_simp
      try with_reducible rfl
    try simp only [Act.put, List.setIfInBounds_toArray, List.set_cons_zero, List.set_cons_succ]
    refine wpM_cut (fun _ => True) (trivial) ?_
    refine wpM_read (v := ?_) rfl (by rfl) ?_ ?_
    rotate_left
    · intro w' hS'
      try obtain ⟨hS1, hS2⟩ := hS'
      go_simp
      try with_reducible rfl
    try simp only [Act.put, List.setIfInBounds_toArray, List.set_cons_zero, List.set_cons_succ]
    refine wpM_pass rfl (by rfl) ?_
    try simp only [Act.put, List.setIfInBounds_toArray, List.set_cons_zero, List.set_cons_succ]
    refine wpM_pass rfl (by rfl) ?_
    try simp only [Act.put, List.setIfInBounds_toArray, List.set_cons_zero, List.set_cons_succ]
    refine wpM_pass rfl (by rfl) ?_
    try simp only [Act.put, List.setIfInBounds_toArray, List.set_cons_zero, List.set_cons_succ]
    refine wpM_pass rfl (by rfl) ?_
    try simp only [Act.put, List.setIfInBounds_toArray, List.set_cons_zero, List.set_cons_succ]
    refine wpM_over rfl (by rfl) (by first | exact .inl (by decide) | exact .inr trivial) ?_
    try simp only [Act.put, List.setIfInBounds_toArray, List.set_cons_zero, List.set_cons_succ]
    refine wpM_cut (fun _ => True) (trivial) ?_
    refine wpM_over rfl (by rfl) (by first | exact .inl (by decide) | exact .inr trivial) ?_
    try simp only [Act.put, List.setIfInBounds_toArray, List.set_cons_zero, List.set_cons_succ]
    refine wpM_cut (fun _ => True) (trivial) ?_
    refine wpM_read (v := ?_) rfl (by rfl) ?_ ?_
    rotate_left
    · intro w' hS'
      try obtain ⟨hS1, hS2⟩ := hS'
      go_simp
      try with_reducible rfl
    try simp only [Act.put, List.setIfInBounds_toArray, List.set_cons_zero, List.set_cons_succ]
    refine wpM_still (v := ?_) rfl (by rfl) (by first | exact .inl (by decide) | exact .inr trivial) ?_ ?_
    rotate_left
    · go_simp
      try with_reducible rfl
    try simp only [Act.put, List.setIfInBounds_toArray, List.set_cons_zero, List.set_cons_succ]
    refine wpM_done ?_
    go_wp2
    go_ret
    exact ⟨rfl, (hA.trans (hB1.mono hA.size)).drew⟩
  · rw [show accB n key k p e t l = meetsB n key 3 0 0 (shaB (markL k p e t)) l by rw [accB, h]; rfl]
    have H := Lib.hid h
    clear h
    go_enter Try.func37, Try.ntmps37
    go_wp2_with (go_at_call 64; refine (encode_any _ _ _ _ _ H.out).mono ?_; rintro ee w1 ⟨v1, rfl, hR1, hB1⟩)
    have hB1d := hB1.drew
    have hR1d : RowAt w1.drew 5 v1 _ _ := hR1.heap (fun b _ => rfl)
    have hr1 := (hr.below hA).below hB1d
    have hV1 := (hV.below hA (Nat.le_refl _)).below hB1d (Nat.le_refl _)
    have c4 := cell_of_block ((hB1d.block w.heap.size (by simp)).trans hT) 4
    have c4 : w1.drew.cell? ⟨w.heap.size, 4, none⟩ = some (.slice va l.length vc) := c4
    have hBd : Below w.heap.size w w1.drew := hA.trans (hB1d.mono hA.size)
    have hlt : w.heap.size < w1.drew.heap.size := by have := hB1d.size; simp at this ⊢; omega
    clear hT hB1 hR1
    refine wp_region_M (.cut 1 (.read 0 (.cut 2 (.read 1 (.cut 8 (.read 2 (.read 3 (.read 4 (.read 5 (.read 6 (.step 7 (.cut 9 (.step 8 (.cut 10 (.read 9 (.step 10 .done)))))))))))))))) (by kernel_rfl) (by kernel_rfl) (fun _ d _ _ _ h => by cases d <;> exact h) ?_
    refine wpM_cut (fun _ => True) (trivial) ?_
    refine wpM_read (v := ?_) rfl (by rfl) ?_ ?_
    rotate_left
    · intro w' hS'
      try obtain ⟨hS1, hS2⟩ := hS'
      go_simp
      try with_reducible rfl
    try simp only [Act.put, List.setIfInBounds_toArray, List.set_cons_zero, List.set_cons_succ]
    refine wpM_cut (fun _ => True) (trivial) ?_
    refine wpM_read (v := ?_) rfl (by rfl) ?_ ?_
    rotate_left
    · intro w' hS'
      try obtain ⟨hS1, hS2⟩ := hS'
      go_simp
      try with_reducible rfl
    try simp only [Act.put, List.setIfInBounds_toArray, List.set_cons_zero, List.set_cons_succ]
    refine wpM_cut (fun w' => w'.cell? ⟨w.heap.size, 4, none⟩ = some (.slice va l.length vc)) (c4) ?_
    refine wpM_read (v := ?_) rfl (by rfl) ?_ ?_
    rotate_left
    · intro w' hS'
      try obtain ⟨hS1, hS2⟩ := hS'
      go_simp
      try with_reducible rfl
    try simp only [Act.put, List.setIfInBounds_toArray, List.set_cons_zero, List.set_cons_succ]
    refine wpM_read (v := ?_) rfl (by rfl) ?_ ?_
    rotate_left
    · intro w' hS'
      try obtain ⟨hS1, hS2⟩ := hS'
      go_simp
      try with_reducible rfl
    try simp only [Act.put, List.setIfInBounds_toArray, List.set_cons_zero, List.set_cons_succ]
    refine wpM_read (v := ?_) rfl (by rfl) ?_ ?_
    rotate_left
    · intro w' hS'
      try obtain ⟨hS1, hS2⟩ := hS'
      go_simp
      try with_reducible rfl
    try simp only [Act.put, List.setIfInBounds_toArray, List.set_cons_zero, List.set_cons_succ]
    refine wpM_read (v := ?_) rfl (by rfl) ?_ ?_
    rotate_left
    · intro w' hS'
      try obtain ⟨hS1, hS2⟩ := hS'
      go_simp
      try with_reducible rfl
    try simp only [Act.put, List.setIfInBounds_toArray, List.set_cons_zero, List.set_cons_succ]
    refine wpM_read (v := ?_) rfl (by rfl) ?_ ?_
    rotate_left
    · intro w' hS'
      try obtain ⟨hS1, hS2⟩ := hS'
      go_simp
      try with_reducible rfl
    try simp only [Act.put, List.setIfInBounds_toArray, List.set_cons_zero, List.set_cons_succ]
    refine wpM_step rfl (fun KK hKK => ?_)
    go_simp
    go_at_call 39
    refine (valueSum_any _ _ 5 _ (by have := markL_len k p e t; omega) hR1d).mono ?_
    rintro ee w2 ⟨rfl, hB2⟩
    have hr2 := hr1.below hB2
    have hV2 := hV1.below hB2 (Nat.le_refl _)
    refine hKK.out _ _ (.inr ((hB2.cell (p := ⟨w.heap.size, 4, none⟩) hlt).trans c4)) ?_
    clear hKK KK
    try simp only [Act.put, List.setIfInBounds_toArray, List.set_cons_zero, List.set_cons_succ]
    refine wpM_cut (fun _ => True) (trivial) ?_
    refine wpM_step rfl (fun KK hKK => ?_)
    go_simp
    go_at_call 25
    refine (meets_any _ rb n key hr2 _ _ l hV2 3 0 0 (shaB (markL k p e t)) (shaB_length _)).mono ?_
    rintro ee w3 ⟨rfl, hB3⟩
    refine hKK.out _ _ (by first | exact .inl (by decide) | exact .inr trivial) ?_
    clear hKK KK
    try simp only [Act.put, List.setIfInBounds_toArray, List.set_cons_zero, List.set_cons_succ]
    refine wpM_cut (fun _ => True) (trivial) ?_
    refine wpM_read (v := ?_) rfl (by rfl) ?_ ?_
    rotate_left
    · intro w' hS'
      try obtain ⟨hS1, hS2⟩ := hS'
      go_simp
      try with_reducible rfl
    try simp only [Act.put, List.setIfInBounds_toArray, List.set_cons_zero, List.set_cons_succ]
    refine wpM_still (v := ?_) rfl (by rfl) (by first | exact .inl (by decide) | exact .inr trivial) ?_ ?_
    rotate_left
    · go_simp
      try with_reducible rfl
    try simp only [Act.put, List.setIfInBounds_toArray, List.set_cons_zero, List.set_cons_succ]
    refine wpM_done ?_
    go_wp2
    go_ret
    exact ⟨rfl, hBd.trans ((hB2.mono hBd.size).trans (hB3.mono (Nat.le_trans hBd.size hB2.size)))⟩
end Go.Proofs.Ytjhpemlgcjdpfaa
