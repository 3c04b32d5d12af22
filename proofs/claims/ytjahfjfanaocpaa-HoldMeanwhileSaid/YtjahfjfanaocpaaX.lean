/- HoldMeanwhile: the walk -/
import Derived.Test.YtjahfjfanaocpaaV
namespace Go.Proofs.Ytjahfjfanaocpaa
open Go.RowKit Plain Go.Maps Go.Sort Go.Shelf

theorem ActsAt.below {w W : World} {ad : Option Addr} {acts : Script} (h : ActsAt w ad acts) (hB : Below w.heap.size w W) : ActsAt W ad acts := by
  refine ⟨fun hne => ?_, h.wf⟩
  obtain ⟨a, rfl, hb, hc⟩ := h.addr hne
  have cc : ∀ j, W.cell? (a.add j) = w.cell? (a.add j) := fun j => hB.cell (by rw [add_block]; exact hb)
  exact ⟨a, rfl, Nat.lt_of_lt_of_le hb hB.size, fun i hi => ⟨(cc _).trans (hc i hi).1, (cc _).trans (hc i hi).2.1, (cc _).trans (hc i hi).2.2⟩⟩

set_option maxRecDepth 100000 in
set_option maxHeartbeats 4000000 in
theorem meanwhile_walk (w : World) (ad : Option Addr) (cap : Nat) (acts : Script) (h : ActsAt w ad acts) (ad2 : Option Addr) (cap2 : Nat) (acts2 : Script) (h2 : ActsAt w ad2 acts2) :
    Calls Try.prog 3 #[.slice ad acts.length cap, .slice ad2 acts2.length cap2] w fun e w' => e = .returned (.bool true) ∧ Below w.heap.size w w' := by
  go_enter Try.func3, Try.ntmps3
  go_wp2_with (go_at_call 6; refine (new_any _).mono ?_; rintro e w1 ⟨rfl, hT1, hB1⟩)
  have hs1 := hB1.size
  go_loopw [7] (fun i wr => ∃ (k : Nat) (l : List (Int × Int)), k ≤ acts.length ∧ k ≤ 150 ∧ i = .int .i64 k ∧ Both wr (w.heap.size + 1) w.heap.size w1.heap.size k l ∧ Below w.heap.size w wr) (fun i _ => acts.length - (intOf i).toNat)
  case atStart => exact ⟨0, [], Nat.zero_le _, Nat.zero_le _, rfl, both_new hT1, hB1.alloc hs1 _⟩
  case round =>
    obtain ⟨k, l, hk, hk2, rfl, hb, hBw⟩ := hrel
    have i1 : (0 : Int) ≤ (k : Int) := by omega
    by_cases hlt : k < acts.length
    · by_cases hlt2 : k < 150
      · have hwf := h.wf _ (List.getElem_mem hlt)
        obtain ⟨a, rfl, hld0, hld1, hld2⟩ := h.load (W := wr) hBw hlt
        have i2 : (k : Int) < (acts.length : Int) := by omega
        have i3 : decide ((k : Int) < (acts.length : Int)) = true := by simp; omega
        have i4 : decide ((k : Int) < 150) = true := by simp; omega
        have hact := act_any acts[k].1 acts[k].2.1 acts[k].2.2 hwf (w.heap.size + 1) w.heap.size w1.heap.size k l wr hb (by omega)
        generalize step acts[k].1 acts[k].2.1 acts[k].2.2 l = l3 at hact
        generalize acts[k].1 = kd at *
        generalize acts[k].2.1 = ak at *
        generalize acts[k].2.2 = av at *
        clear h h2
        go_wp2_with (go_at_call 7; refine hact.mono ?_; rintro e w3 ⟨rfl, hb3, hk3⟩)
        have hB3 : Below w.heap.size w w3 := Kept.below hBw hk3 (by rintro c (rfl | rfl) <;> omega)
        refine ⟨⟨k + 1, l3, by omega, by omega, by go_num, hb3, hB3⟩, ?_⟩
        simp [intOf]
        omega
      · have i3 : decide ((k : Int) < (acts.length : Int)) = true := by simp; omega
        have i4 : decide ((k : Int) < 150) = false := by simp; omega
        have hle : l.length ≤ k := by have := hb.tab.len; simpa using this
        have hb' : Both wr.drew (w.heap.size + 1) w.heap.size w1.heap.size k l := hb.below ((Below.refl _ _).drew)
        obtain ⟨kx, vx, e1, e2, e3, e4⟩ := hb.ref
        rw [List.length_map] at e2 e3
        have cx0 := cell_of_block e1 0
        have cx1 := cell_of_block e1 1
        simp at cx0 cx1
        have hdur := during_any wr.drew (w.heap.size + 1) w.heap.size k l hb'.tab (by omega) (by omega) kx vx e2 e3 ad2 cap2 acts2 (h2.below hBw.drew)
        clear h h2 hb hb' e1 e2 e3 e4
        go_wp2
        refine wp_region_M (.cut 10 (.read 0 (.read 1 (.read 2 (.read 3 (.read 4 (.read 5 (.read 6 (.read 7 (.read 8 (.read 9 (.cut 11 (.step 10 (.cut 12 (.read 11 (.cut 13 (.step 12 (.cut 14 (.read 13 (.step 14 .done)))))))))))))))))))) (by kernel_rfl) (by kernel_rfl) (fun _ d _ _ _ h => by cases d <;> exact h) ?_
        refine wpM_cut (fun w' => w' = wr.drew) (rfl) ?_
        refine wpM_read (v := ?_) rfl (by rfl) ?_ ?_
        rotate_left
        · intro w' hS'
          try subst hS'
          go_simp
          try with_reducible rfl
        try simp only [Act.put, List.setIfInBounds_toArray, List.set_cons_zero, List.set_cons_succ]
        refine wpM_read (v := ?_) rfl (by rfl) ?_ ?_
        rotate_left
        · intro w' hS'
          try subst hS'
          go_simp
          try with_reducible rfl
        try simp only [Act.put, List.setIfInBounds_toArray, List.set_cons_zero, List.set_cons_succ]
        refine wpM_read (v := ?_) rfl (by rfl) ?_ ?_
        rotate_left
        · intro w' hS'
          try subst hS'
          go_simp
          try with_reducible rfl
        try simp only [Act.put, List.setIfInBounds_toArray, List.set_cons_zero, List.set_cons_succ]
        refine wpM_read (v := ?_) rfl (by rfl) ?_ ?_
        rotate_left
        · intro w' hS'
          try subst hS'
          go_simp
          try with_reducible rfl
        try simp only [Act.put, List.setIfInBounds_toArray, List.set_cons_zero, List.set_cons_succ]
        refine wpM_read (v := ?_) rfl (by rfl) ?_ ?_
        rotate_left
        · intro w' hS'
          try subst hS'
          go_simp
          try with_reducible rfl
        try simp only [Act.put, List.setIfInBounds_toArray, List.set_cons_zero, List.set_cons_succ]
        refine wpM_read (v := ?_) rfl (by rfl) ?_ ?_
        rotate_left
        · intro w' hS'
          try subst hS'
          go_simp
          try with_reducible rfl
        try simp only [Act.put, List.setIfInBounds_toArray, List.set_cons_zero, List.set_cons_succ]
        refine wpM_read (v := ?_) rfl (by rfl) ?_ ?_
        rotate_left
        · intro w' hS'
          try subst hS'
          go_simp
          try with_reducible rfl
        try simp only [Act.put, List.setIfInBounds_toArray, List.set_cons_zero, List.set_cons_succ]
        refine wpM_read (v := ?_) rfl (by rfl) ?_ ?_
        rotate_left
        · intro w' hS'
          try subst hS'
          go_simp
          try with_reducible rfl
        try simp only [Act.put, List.setIfInBounds_toArray, List.set_cons_zero, List.set_cons_succ]
        refine wpM_read (v := ?_) rfl (by rfl) ?_ ?_
        rotate_left
        · intro w' hS'
          try subst hS'
          go_simp
          try with_reducible rfl
        try simp only [Act.put, List.setIfInBounds_toArray, List.set_cons_zero, List.set_cons_succ]
        refine wpM_read (v := ?_) rfl (by rfl) ?_ ?_
        rotate_left
        · intro w' hS'
          try subst hS'
          go_simp
          try with_reducible rfl
        try simp only [Act.put, List.setIfInBounds_toArray, List.set_cons_zero, List.set_cons_succ]
        refine wpM_cut (fun _ => True) (trivial) ?_
        refine wpM_step rfl (fun KK hKK => ?_)
        go_simp
        go_at_call 8
        refine (hdur).mono ?_
        rintro e w5 ⟨rfl, hk5⟩
        have hB5 : Below w.heap.size w w5 := Kept.below hBw.drew hk5 (by rintro c rfl; omega)
        refine hKK.out _ _ (by first | exact .inl (by decide) | exact .inr trivial) ?_
        clear hKK KK
        try simp only [Act.put, List.setIfInBounds_toArray, List.set_cons_zero, List.set_cons_succ]
        refine wpM_cut (fun _ => True) (trivial) ?_
        refine wpM_read (v := ?_) rfl (by rfl) ?_ ?_
        rotate_left
        · intro w' hS'
          try subst hS'
          go_simp
          try with_reducible rfl
        try simp only [Act.put, List.setIfInBounds_toArray, List.set_cons_zero, List.set_cons_succ]
        refine wpM_cut (fun _ => True) (trivial) ?_
        refine wpM_step rfl (fun KK hKK => ?_)
        go_simp
        go_at_call 9
        refine (known_any _).mono ?_
        rintro e w6 ⟨rfl, hB6⟩
        refine hKK.out _ _ (by first | exact .inl (by decide) | exact .inr trivial) ?_
        clear hKK KK
        try simp only [Act.put, List.setIfInBounds_toArray, List.set_cons_zero, List.set_cons_succ]
        refine wpM_cut (fun _ => True) (trivial) ?_
        refine wpM_read (v := ?_) rfl (by rfl) ?_ ?_
        rotate_left
        · intro w' hS'
          try subst hS'
          go_simp
          try with_reducible rfl
        try simp only [Act.put, List.setIfInBounds_toArray, List.set_cons_zero, List.set_cons_succ]
        refine wpM_still (v := ?_) rfl (by rfl) (by first | exact .inl (by decide) | exact .inr trivial) ?_ ?_
        rotate_left
        · go_simp
          try with_reducible rfl
        try simp only [Act.put, List.setIfInBounds_toArray, List.set_cons_zero, List.set_cons_succ]
        refine wpM_done ?_
        go_wp2
        go_ret
        exact ⟨rfl, hB5.trans (hB6.mono hB5.size)⟩
    · have i3 : decide ((k : Int) < (acts.length : Int)) = false := by simp; omega
      have hle : l.length ≤ k := by have := hb.tab.len; simpa using this
      have hb' : Both wr.drew (w.heap.size + 1) w.heap.size w1.heap.size k l := hb.below ((Below.refl _ _).drew)
      obtain ⟨kx, vx, e1, e2, e3, e4⟩ := hb.ref
      rw [List.length_map] at e2 e3
      have cx0 := cell_of_block e1 0
      have cx1 := cell_of_block e1 1
      simp at cx0 cx1
      have hdur := during_any wr.drew (w.heap.size + 1) w.heap.size k l hb'.tab (by omega) (by omega) kx vx e2 e3 ad2 cap2 acts2 (h2.below hBw.drew)
      clear h h2 hb hb' e1 e2 e3 e4
      go_wp2
      refine wp_region_M (.cut 10 (.read 0 (.read 1 (.read 2 (.read 3 (.read 4 (.read 5 (.read 6 (.read 7 (.read 8 (.read 9 (.cut 11 (.step 10 (.cut 12 (.read 11 (.cut 13 (.step 12 (.cut 14 (.read 13 (.step 14 .done)))))))))))))))))))) (by kernel_rfl) (by kernel_rfl) (fun _ d _ _ _ h => by cases d <;> exact h) ?_
      refine wpM_cut (fun w' => w' = wr.drew) (rfl) ?_
      refine wpM_read (v := ?_) rfl (by rfl) ?_ ?_
      rotate_left
      · intro w' hS'
        try subst hS'
        go_simp
        try with_reducible rfl
      try simp only [Act.put, List.setIfInBounds_toArray, List.set_cons_zero, List.set_cons_succ]
      refine wpM_read (v := ?_) rfl (by rfl) ?_ ?_
      rotate_left
      · intro w' hS'
        try subst hS'
        go_simp
        try with_reducible rfl
      try simp only [Act.put, List.setIfInBounds_toArray, List.set_cons_zero, List.set_cons_succ]
      refine wpM_read (v := ?_) rfl (by rfl) ?_ ?_
      rotate_left
      · intro w' hS'
        try subst hS'
        go_simp
        try with_reducible rfl
      try simp only [Act.put, List.setIfInBounds_toArray, List.set_cons_zero, List.set_cons_succ]
      refine wpM_read (v := ?_) rfl (by rfl) ?_ ?_
      rotate_left
      · intro w' hS'
        try subst hS'
        go_simp
        try with_reducible rfl
      try simp only [Act.put, List.setIfInBounds_toArray, List.set_cons_zero, List.set_cons_succ]
      refine wpM_read (v := ?_) rfl (by rfl) ?_ ?_
      rotate_left
      · intro w' hS'
        try subst hS'
        go_simp
        try with_reducible rfl
      try simp only [Act.put, List.setIfInBounds_toArray, List.set_cons_zero, List.set_cons_succ]
      refine wpM_read (v := ?_) rfl (by rfl) ?_ ?_
      rotate_left
      · intro w' hS'
        try subst hS'
        go_simp
        try with_reducible rfl
      try simp only [Act.put, List.setIfInBounds_toArray, List.set_cons_zero, List.set_cons_succ]
      refine wpM_read (v := ?_) rfl (by rfl) ?_ ?_
      rotate_left
      · intro w' hS'
        try subst hS'
        go_simp
        try with_reducible rfl
      try simp only [Act.put, List.setIfInBounds_toArray, List.set_cons_zero, List.set_cons_succ]
      refine wpM_read (v := ?_) rfl (by rfl) ?_ ?_
      rotate_left
      · intro w' hS'
        try subst hS'
        go_simp
        try with_reducible rfl
      try simp only [Act.put, List.setIfInBounds_toArray, List.set_cons_zero, List.set_cons_succ]
      refine wpM_read (v := ?_) rfl (by rfl) ?_ ?_
      rotate_left
      · intro w' hS'
        try subst hS'
        go_simp
        try with_reducible rfl
      try simp only [Act.put, List.setIfInBounds_toArray, List.set_cons_zero, List.set_cons_succ]
      refine wpM_read (v := ?_) rfl (by rfl) ?_ ?_
      rotate_left
      · intro w' hS'
        try subst hS'
        go_simp
        try with_reducible rfl
      try simp only [Act.put, List.setIfInBounds_toArray, List.set_cons_zero, List.set_cons_succ]
      refine wpM_cut (fun _ => True) (trivial) ?_
      refine wpM_step rfl (fun KK hKK => ?_)
      go_simp
      go_at_call 8
      refine (hdur).mono ?_
      rintro e w5 ⟨rfl, hk5⟩
      have hB5 : Below w.heap.size w w5 := Kept.below hBw.drew hk5 (by rintro c rfl; omega)
      refine hKK.out _ _ (by first | exact .inl (by decide) | exact .inr trivial) ?_
      clear hKK KK
      try simp only [Act.put, List.setIfInBounds_toArray, List.set_cons_zero, List.set_cons_succ]
      refine wpM_cut (fun _ => True) (trivial) ?_
      refine wpM_read (v := ?_) rfl (by rfl) ?_ ?_
      rotate_left
      · intro w' hS'
        try subst hS'
        go_simp
        try with_reducible rfl
      try simp only [Act.put, List.setIfInBounds_toArray, List.set_cons_zero, List.set_cons_succ]
      refine wpM_cut (fun _ => True) (trivial) ?_
      refine wpM_step rfl (fun KK hKK => ?_)
      go_simp
      go_at_call 9
      refine (known_any _).mono ?_
      rintro e w6 ⟨rfl, hB6⟩
      refine hKK.out _ _ (by first | exact .inl (by decide) | exact .inr trivial) ?_
      clear hKK KK
      try simp only [Act.put, List.setIfInBounds_toArray, List.set_cons_zero, List.set_cons_succ]
      refine wpM_cut (fun _ => True) (trivial) ?_
      refine wpM_read (v := ?_) rfl (by rfl) ?_ ?_
      rotate_left
      · intro w' hS'
        try subst hS'
        go_simp
        try with_reducible rfl
      try simp only [Act.put, List.setIfInBounds_toArray, List.set_cons_zero, List.set_cons_succ]
      refine wpM_still (v := ?_) rfl (by rfl) (by first | exact .inl (by decide) | exact .inr trivial) ?_ ?_
      rotate_left
      · go_simp
        try with_reducible rfl
      try simp only [Act.put, List.setIfInBounds_toArray, List.set_cons_zero, List.set_cons_succ]
      refine wpM_done ?_
      go_wp2
      go_ret
      exact ⟨rfl, hB5.trans (hB6.mono hB5.size)⟩
end Go.Proofs.Ytjahfjfanaocpaa
