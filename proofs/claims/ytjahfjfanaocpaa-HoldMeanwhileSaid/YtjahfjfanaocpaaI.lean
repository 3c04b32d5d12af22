/- the table's keys, sorted; the closures -/
import Derived.Test.YtjahfjfanaocpaaH
namespace Go.Proofs.Ytjahfjfanaocpaa
open Go.RowKit Go.Maps Go.Sort Go.Shelf

/-- slices.Sort's two contracts at this dump, at the fence that asks nothing. -/
theorem sortsA (m : Nat) : AnyZI.SortsIn Try.prog Try.sortedA_ren Fence.wide m :=
  ⟨fun blk off cap ss W hH hblk hsz => callsIn_wide.2 (AnyM.slices_Sort_int Try.sortA blk off cap ss W hH hblk hsz),
   fun p cap W => callsIn_wide.2 (AnyM.slices_Sort_int_none Try.sortA p cap W)⟩

/-- maps.Keys -/
theorem mapsKeys_any (mb : Option Nat) (w : World) : Calls Try.prog 24 #[.map mb] w fun e w' => e = .returned (.func (.func 31) #[] #[.pointer (some ⟨w.heap.size, 0, none⟩)]) ∧ w' = w.alloc (.cells #[.map mb] 50) :=
  (callsIn_wide (n := 6)).1 (AnyZI.keys_in Try.keysA Fence.wide 6 trivial rfl mb w)

/-- slices.Sorted of what maps.Keys has handed back -/
theorem sortedKeys_any (b n : Nat) (l : List (Int × Value)) (s : Srt l) (hb8 : l.length * 8 ≤ 140737488355328) (w : World) (Bm : Nat) (hBm : w.cell? ⟨Bm, 0, none⟩ = some (.map (some b))) (hown : w.ownsMap Try.prog 3 RV b n (dat l)) :
    Calls Try.prog 23 #[.func (.func 31) #[] #[.pointer (some ⟨Bm, 0, none⟩)]] w fun e w' => ∃ a cap, e = .returned (.slice a l.length cap) ∧ w'.ownsRow w.heap.size 3 1 (.slice a l.length cap) l.length (zI (l.map (·.1))) ∧ Below w.heap.size w w' := by
  have hseq : SeqGives Fence.wide 3 Try.prog 31 #[.pointer (some ⟨Bm, 0, none⟩)] encZ (fun ss => ss.Perm (intKeys (dat l))) (Maps.size (dat l)) w :=
    AnyZI.keys_gives (ρ := Try.keysA_ren) { Try.keysA with } Fence.wide _ trivial rfl (by omega) Bm b n (dat l) w (World.block_lt_of_cell? w _ hBm) hBm hown
  have hz := dat_size l
  have cS := AnyZI.sorted_in Try.sortedA Fence.wide 6 trivial trivial trivial trivial rfl (by omega) (sortsA _) (enters_of Try.func30 (by kernel_rfl) rfl) 31 #[.pointer (some ⟨Bm, 0, none⟩)] trivial (enters_of Try.func31 (by kernel_rfl) rfl) _ _ (by rw [hz]; unfold maxLen; omega) (by rw [hz]; exact hb8) w hseq
  refine ((callsIn_wide (n := 6)).1 cS).mono ?_
  rintro e w' ⟨v, ss, rfl, hS, hrow, hnil, hB⟩
  rw [dat_keys] at hS
  rw [sorted_keys s hS, show ss.length = l.length by rw [hS.length_eq]; simp] at hrow
  have hsh : ∃ a cap, v = .slice a l.length cap := by
    rcases hrow.2 with ⟨rfl, h0⟩ | ⟨g, cap, cur, rfl, _⟩
    · exact ⟨none, 0, by rw [h0]⟩
    · exact ⟨_, _, rfl⟩
  obtain ⟨a, cap, rfl⟩ := hsh
  exact ⟨a, cap, rfl, hrow, hB⟩

set_option maxHeartbeats 400000 in
theorem keys_any (p b n : Nat) (l : List (Int × Value)) (hb8 : l.length * 8 ≤ 140737488355328) (w : World) (h : TableAt w p b n l) :
    Calls Try.prog 12 #[.pointer (some ⟨p, 0, none⟩)] w fun e w' => ∃ a cap, e = .returned (.slice a l.length cap) ∧ w'.ownsRow w.heap.size 3 1 (.slice a l.length cap) l.length (zI (l.map (·.1))) ∧ Below w.heap.size w w' := by
  have hs := sortedKeys_any b n l h.srt hb8 (w.alloc (.cells #[.map (some b)] 50)) w.heap.size (by go_simp) (h.map.alloc _)
  obtain ⟨h1, h2, h3, h4, h5⟩ := h
  have hB0 : Below w.heap.size w (w.alloc (.cells #[.map (some b)] 50)) := (Below.refl _ _).alloc (Nat.le_refl _) _
  go_enter Try.func12, Try.ntmps12
  go_wp2_with (first
    | (go_at_call 24; refine (mapsKeys_any _ _).mono ?_; rintro e w' ⟨rfl, rfl⟩)
    | (go_at_call 23; refine hs.mono ?_; rintro e w' ⟨a, cap, rfl, hrow, hB⟩))
  go_ret
  exact ⟨a, cap, rfl, ownsRow_base_a hrow (by simp), hB0.trans (hB.mono (by simp))⟩

set_option maxHeartbeats 400000 in
theorem keys_nil_any (w : World) : Calls Try.prog 12 #[.pointer none] w fun e w' => e = .returned (.slice none 0 0) ∧ w = w' := by
  go_enter Try.func12, Try.ntmps12
  go_wp2
  go_ret
  exact ⟨rfl, rfl⟩

set_option maxHeartbeats 400000 in
/-- ranged: a closure over the table and what is meant -/
theorem ranged_any (p : Option Addr) (m : Value) (w : World) (hm : ∃ fn a b, m = .func fn a b) :
    Calls Try.prog 25 #[.pointer p, m] w fun e w' => e = .returned (.func (.func 32) #[] #[.pointer (some ⟨w.heap.size, 0, none⟩), .pointer (some ⟨w.heap.size + 1, 0, none⟩)]) ∧ w' = (w.alloc (.cells #[.pointer p] 23)).alloc (.cells #[m] 48) := by
  obtain ⟨fn, a, b, rfl⟩ := hm
  go_enter Try.func25, Try.ntmps25
  go_wp2
  go_ret
  exact ⟨rfl, rfl⟩

set_option maxHeartbeats 400000 in
theorem all_any (p : Option Addr) (w : World) :
    Calls Try.prog 14 #[.pointer p] w fun e w' => e = .returned (.func (.func 32) #[] #[.pointer (some ⟨w.heap.size, 0, none⟩), .pointer (some ⟨w.heap.size + 1, 0, none⟩)]) ∧ w' = (w.alloc (.cells #[.pointer p] 23)).alloc (.cells #[.func (.func 26) #[] #[]] 48) := by
  go_enter Try.func14, Try.ntmps14
  go_wp2_with (go_at_call 25; refine (ranged_any _ _ _ ⟨_, _, _, rfl⟩).mono ?_; rintro e w' ⟨rfl, rfl⟩)
  go_ret
  exact ⟨rfl, rfl⟩

set_option maxHeartbeats 400000 in
theorem from_any (p : Option Addr) (k : Int) (w : World) :
    Calls Try.prog 17 #[.pointer p, .int .i64 k] w fun e w' => e = .returned (.func (.func 32) #[] #[.pointer (some ⟨w.heap.size + 1, 0, none⟩), .pointer (some ⟨w.heap.size + 2, 0, none⟩)]) ∧
      w' = ((w.alloc (.cells #[.int .i64 k] 3)).alloc (.cells #[.pointer p] 23)).alloc (.cells #[.func (.func 27) #[] #[.pointer (some ⟨w.heap.size, 0, none⟩)]] 48) := by
  go_enter Try.func17, Try.ntmps17
  go_wp2_with (go_at_call 25; refine (ranged_any _ _ _ ⟨_, _, _, rfl⟩).mono ?_; rintro e w' ⟨rfl, rfl⟩)
  go_ret
  exact ⟨rfl, rfl⟩

set_option maxHeartbeats 400000 in
theorem meantAll_any (n : Int) (w : World) : Calls Try.prog 26 #[.int .i64 n] w fun e w' => e = .returned (.bool true) ∧ w = w' := by
  go_enter Try.func26, Try.ntmps26
  go_wp2
  go_ret
  exact ⟨rfl, rfl⟩

set_option maxHeartbeats 400000 in
theorem meantFrom_any (n k : Int) (B : Nat) (w : World) (hB : w.cell? ⟨B, 0, none⟩ = some (.int .i64 k)) : Calls Try.prog 27 #[.int .i64 n, .pointer (some ⟨B, 0, none⟩)] w fun e w' => e = .returned (.bool (decide (k ≤ n))) ∧ w = w' := by
  go_enter Try.func27, Try.ntmps27
  go_wp2
  go_ret
  exact ⟨rfl, rfl⟩

/-- maps.Clone -/
theorem clone_any (b n : Nat) (l : List (Int × Value)) (w : World) (hown : w.ownsMap Try.prog 3 RV b n (dat l)) :
    Calls Try.prog 33 #[.map (some b)] w fun e w' => e = .returned (.map (some w.heap.size)) ∧ w'.ownsMap Try.prog 3 RV w.heap.size n (dat l) ∧ Below w.heap.size w w' :=
  (AnyW.maps_Clone_owns Try.cloneA 3 RV b n (dat l) w hown).mono fun _ _ ⟨h1, h2, _, h4⟩ => ⟨h1, h2, h4⟩

end Go.Proofs.Ytjahfjfanaocpaa
