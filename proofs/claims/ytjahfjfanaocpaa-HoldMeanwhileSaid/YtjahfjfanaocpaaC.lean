/- walks: place, and the reference's Get, From -/
import Derived.Test.YtjahfjfanaocpaaB
namespace Go.Proofs.Ytjahfjfanaocpaa
open Go.RowKit Plain

/-- the reference's table at block x: keys K, values V -/
def RefAt (w : World) (x : Nat) (K V : List Int) : Prop :=
  ∃ kv vv, w.heap[x]? = some (.cells #[kv, vv] 28 (0, 0)) ∧ RowAt w 3 kv K.length (zI K) ∧ RowAt w 3 vv V.length (zI V) ∧ K.length = V.length

theorem found_eq (K : List Int) (k : Int) : found K k = (decide (pos K k < K.length) && decide (K[pos K k]?.getD 0 = k)) := by
  unfold found
  by_cases h : pos K k < K.length
  · simp [h]
  · simp [h]

theorem pos_end {K : List Int} {k : Int} {i : Nat} (hi : i ≤ pos K k) (h : ¬ i < pos K k) : i = pos K k := by omega

set_option maxHeartbeats 1000000 in
theorem place_any (x : Nat) (K V : List Int) (k : Int) (w : World) (h : RefAt w x K V) :
    Calls Try.prog 28 #[.pointer (some ⟨x, 0, none⟩), .int .i64 k] w fun e w' => e = .returned (.tuple #[.int .i64 (pos K k), .bool (found K k)]) ∧ ∃ m, w' = w.drewN m := by
  obtain ⟨kv, vv, hb, hK, _, _⟩ := h
  have c0 := cell_of_block hb 0
  simp at c0
  have hpl := pos_le K k
  clear hb
  by_cases h0 : K.length = 0
  · obtain rfl : K = [] := List.length_eq_zero_iff.1 h0
    obtain ⟨a, cap, rfl, hc, hm⟩ := hK.shape
    have Hf : Hid (found [] k = false) := by simp [found, Hid]
    have Hp : Hid (pos [] k = 0) := by simp [pos, Hid]
    clear hK hpl
    go_enter Try.func28, Try.ntmps28
    go_wp2
    refine wp_loop_rounds 1 ?_
    rw [rounds_succ]
    go_wp2
    go_quiet (fail)
    go_wp2
    go_ret2
    exact ⟨by rw [Hf.out, Hp.out]; rfl, _, rfl⟩
  · obtain ⟨a, o, cap, rfl, hc, hm, ca⟩ := hK.cell (by omega)
    clear hK
    unfold maxLen at hm
    go_enter Try.func28, Try.ntmps28
    go_wp2
    go_loop [6] (fun i => ∃ j : Nat, j ≤ pos K k ∧ i = .int .i64 j) (fun i => pos K k - (intOf i).toNat)
    case atStart => exact ⟨0, Nat.zero_le _, rfl⟩
    case round =>
      obtain ⟨j, hj, rfl⟩ := hrel
      have hjn : (0 : Int) ≤ (j : Int) := by omega
      by_cases hjl : j < K.length
      · have c1 := ca j (by simpa using hjl)
        simp only [zI, List.getElem_map] at c1
        clear ca
        by_cases hlt : j < pos K k
        · obtain ⟨_, hkk⟩ := pos_lt hlt
          go_wp2
          go_round
          case rel => exact ⟨j + 1, by omega, by go_num⟩
          case measure => simp [intOf]; omega
        · have hge : ¬ K[j] < k := fun hh => hlt ((pos_step hj).1 ⟨hjl, hh⟩)
          have hjp : j = pos K k := by omega
          have Hp : Hid (pos K k = j) := hjp.symm
          clear hjp hlt hj hpl
          by_cases he : K[j] = k
          · have he' : (K[j] == k) = true := by simp [he]
            have Hf : Hid (found K k = true) := by
              rw [found_eq, Hp.out]; simp [he, hjl, Hid]
            have He := Lib.hid he
            clear he
            go_wp2
            go_quiet (fail)
            go_wp2
            go_ret2
            exact ⟨by rw [Hf.out, Hp.out]; rfl, _, rfl⟩
          · have he' : (K[j] == k) = false := by simp [he]
            have Hf : Hid (found K k = false) := by
              rw [found_eq, Hp.out]; simp [he, hjl, Hid]
            have He := Lib.hid he
            clear he
            go_wp2
            go_quiet (fail)
            go_wp2
            go_ret2
            exact ⟨by rw [Hf.out, Hp.out]; rfl, _, rfl⟩
      · have hjp : j = K.length := by omega
        have Hp : Hid (pos K k = j) := by unfold Hid; omega
        have Hf : Hid (found K k = false) := by
          rw [found_eq, Hp.out]; simp [Hid]; omega
        have hd : decide ((j : Int) < (K.length : Int)) = false := by simp; omega
        clear hjp ca hj hpl
        go_wp2
        go_quiet (fail)
        go_wp2
        go_ret2
        exact ⟨by rw [Hf.out, Hp.out]; rfl, _, rfl⟩

set_option maxHeartbeats 1000000 in
theorem refFrom_any (x : Nat) (K V : List Int) (k : Int) (w : World) (h : RefAt w x K V) :
    Calls Try.prog 22 #[.pointer (some ⟨x, 0, none⟩), .int .i64 k] w fun e w' => e = .returned (.int .i64 (pos K k)) ∧ ∃ m, w' = w.drewN m := by
  have hc := place_any x K V k w h
  clear h
  go_enter Try.func22, Try.ntmps22
  go_wp2_with (go_at_call 28; refine hc.mono ?_; rintro e w' ⟨rfl, m, rfl⟩)
  go_ret
  exact ⟨rfl, _, rfl⟩

set_option maxHeartbeats 1000000 in
theorem refGet_any (x : Nat) (K V : List Int) (k : Int) (w : World) (h : RefAt w x K V) :
    Calls Try.prog 21 #[.pointer (some ⟨x, 0, none⟩), .int .i64 k] w fun e w' => e = .returned (.tuple #[.int .i64 (if found K k then V[pos K k]?.getD 0 else 0), .bool (found K k)]) ∧ ∃ m, w' = w.drewN m := by
  have hc := place_any x K V k w h
  obtain ⟨kv, vv, hb, _, hV, hl⟩ := h
  have c1 := cell_of_block hb 1
  simp at c1
  clear hb
  cases hf : found K k
  · simp only [hf] at hc
    have Hf := Lib.hid hf
    clear hf c1 hV
    go_enter Try.func21, Try.ntmps21
    go_wp2_with (go_at_call 28; refine hc.mono ?_; rintro e w' ⟨rfl, m, rfl⟩)
    go_ret2
    exact ⟨rfl, _, rfl⟩
  · simp only [hf] at hc
    have hlt : pos K k < V.length := by
      rw [found_eq] at hf
      simp at hf
      omega
    obtain ⟨a, o, cap, rfl, hc', hm, ca⟩ := hV.cell (by omega)
    have c2 := ca (pos K k) (by simpa using hlt)
    simp only [zI, List.getElem_map] at c2
    have h0 : (0 : Int) ≤ (pos K k : Int) := by omega
    have h1 : (pos K k : Int) < (V.length : Int) := by omega
    unfold maxLen at hm
    have Hf := Lib.hid hf
    clear hf hV ca hl
    generalize pos K k = i at *
    go_enter Try.func21, Try.ntmps21
    go_wp2_with (go_at_call 28; refine hc.mono ?_; rintro e w' ⟨rfl, m, rfl⟩)
    go_ret2
    exact ⟨rfl, _, rfl⟩
end Go.Proofs.Ytjahfjfanaocpaa
