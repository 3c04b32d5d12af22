/- CertOfNothing: the walk -/
import Derived.Test.YtjhpemlgcjdpfaaO
namespace Go.Proofs.Ytjhpemlgcjdpfaa
open Go.RowKit

theorem goodB_none (key : Nat → List Int) (v : VoteM) : goodB 0 key v = false := by
  rw [goodB, chk, decide_eq_false (by omega)]; rfl
theorem whoL_none (key : Nat → List Int) (kind slot view : Int) (sum : List Int) (l : List VoteM) : whoL 0 key kind slot view sum l = [] := by
  have : ∀ l : List VoteM, toldF 0 key kind slot view sum l = [] := fun l => by
    have : l.filter (voted 0 key kind slot view sum) = [] := List.filter_eq_nil_iff.2 fun x _ => by simp [voted, goodB_none]
    rw [toldF, this]; rfl
  rw [whoL, this]
  exact List.mergeSort_nil

set_option maxRecDepth 1000000 in
set_option maxHeartbeats 4000000 in
theorem ofNothing_walk (v : VoteM) (hv : v.Ok) (a b c e : Int) (ad : Option Addr) (n cap : Nat) (w : World) :
    Calls Try.prog 5 #[v.val, .agg #[.int .i64 a, .int .i64 b, .int .i64 c, .int .i64 e, .slice ad n cap]] w fun ee w' => ee = .returned (.bool true) ∧ Below w.heap.size w w' := by
  obtain ⟨i26, hi26, hz260, hz261, hz262⟩ := info_parts infoP26
  have hval : v.val = .agg v.arr := rfl
  rw [hval]
  clear hval
  have hx68 : (Try.prog.info? 26).map (·.size) = some v.cells.length := by rw [info26, VoteM.length hv]
  have Hx68 := Lib.hid hx68
  have Hs32 : Hid ((Try.prog.info? 24).map (·.size) = some (zB v.sum).length) := by
    have : (Try.prog.info? 24).map (·.size) = some 32 := by kernel_rfl
    show _ = _
    rw [this]; simp [hv.sum]
  clear hx68
  have hgd := goodB_none (fun _ => []) v
  have hwho := whoL_none (fun _ => []) v.kind v.slot v.view v.sum [v]
  have Hgd := Lib.hid hgd
  have Hwho := Lib.hid hwho
  clear hgd hwho
  have hT0 : (w.alloc (.cells v.arr 26)).heap[w.heap.size]? = some (.cells v.arr 26 (0, 0)) := World.alloc_heap_new w _
  by_cases hn : (20 : Int) < n
  · have hB : ∀ c, Below w.heap.size w ((w.alloc (.cells v.arr 26)).alloc c) := fun c => ((Below.refl _ _).alloc (Nat.le_refl _) _).alloc (by simp) _
    go_enter Try.func5, Try.ntmps5
    go_wp2
    go_ret
    exact ⟨rfl, hB _⟩
  · obtain ⟨W1, hW1⟩ : ∃ W1, W1 = (w.alloc (.cells v.arr 26)).alloc (.cells #[.int .i64 a, .int .i64 b, .int .i64 c, .int .i64 e, .slice ad n cap] 48) := ⟨_, rfl⟩
    have hB : Below w.heap.size w W1 := by rw [hW1]; exact ((Below.refl _ _).alloc (Nat.le_refl _) _).alloc (by simp) _
    have hT : W1.heap[w.heap.size]? = some (.cells v.arr 26 (0, 0)) := by rw [hW1, Below.heap_alloc _ _ _ (by simp)]; exact hT0
    rw [hW1] at hT hB
    clear hW1
    go_enter Try.func5, Try.ntmps5
    go_wp2_with (first
      | (refine wpList_loadG 26 (.tmp 2) (by with_reducible rfl) (by rfl) w.heap.size 0 ?_ v.cells _ ?_ Try.underlying26 rfl ?_ ?_; rfl; exact (range_of hT 0 _ (fun j _ => by simp [VoteM.arr])); exact Hx68.out)
      | (go_at_call 20; refine (good_any _ (.pointer none) 0 (fun _ => []) (.inl ⟨rfl, rfl⟩) v hv).mono ?_; rintro ee w2 ⟨rfl, hB2⟩; rw [Hgd.out]; have hT2 := (hB2.block w.heap.size (Array.getElem?_eq_some_iff.1 hT).1).trans hT; have hT3 : (w2.alloc (.cells (votesC [v]).toArray 26)).heap[w.heap.size]? = some (.cells v.arr 26 (0, 0)) := (Below.heap_alloc _ _ _ (Array.getElem?_eq_some_iff.1 hT2).1).trans hT2; have c0 := (cell_of_block hT3 0).trans v.at0; have c1 := (cell_of_block hT3 1).trans v.at1; have c2 := (cell_of_block hT3 2).trans v.at2; have hn3 := World.alloc_heap_new w2 (.cells (votesC [v]).toArray 26); have hA3 : Below w2.heap.size w2 (w2.alloc (.cells (votesC [v]).toArray 26)) := (Below.refl _ _).alloc (Nat.le_refl _) _)
      | (refine wpList_loadG 26 (.tmp 2) (by with_reducible rfl) (by rfl) w.heap.size 0 ?_ v.cells _ ?_ Try.underlying26 rfl ?_ ?_; rfl; exact (range_of hT2 0 _ (fun j _ => by simp [VoteM.arr])); exact Hx68.out)
      | (refine wpList_buildSliceG 22 26 1 [(0, .tmp 16)] (by with_reducible rfl) (by rfl) (votesC [v]).toArray i26 (.agg VoteM.nil.arr) 68 (votesC [VoteM.nil]).toArray Try.underlying22 hi26 hz260 hz261 (by decide) (by decide) zfillV1 ?_ ?_; exact fillV1 v hv)
      | (refine wpList_loadG 24 (.tmp 24) (by with_reducible rfl) (by rfl) w.heap.size 3 ?_ (zB v.sum) (.array 32 5) ?_ Try.underlying24 rfl ?_ ?_; rfl; exact (range_of hT3 3 _ (fun j hj => VoteM.at_sum j (by simpa using hj))); exact Hs32.out)
      | (go_at_call 23; refine (who_any _ (.pointer none) 0 (fun _ => []) (.inl ⟨rfl, rfl⟩) _ 26 [v] (votesAt_new (m := 1) hn3 (by simpa using hv) rfl (by decide)) v.kind v.slot v.view v.sum hv.sum).mono ?_; rintro ee w4 ⟨v4, rfl, hR4, hB4⟩; rw [Hwho.out] at hR4; obtain ⟨p4, q4, rfl, _, _⟩ := hR4.shape)
      | (go_at_call 27; refine (known_any _).mono ?_; rintro ee w5 ⟨rfl, hB5⟩))
    go_ret
    refine ⟨rfl, ?_⟩
    have z := hB.size
    have z2 := hB2.size
    have z4 := hB4.size
    simp only [World.size_alloc] at z2 z4
    exact hB.trans ((hB2.mono (by simp; omega)).trans ((hA3.mono (by omega)).trans ((hB4.mono (by simp; omega)).trans (hB5.mono (by omega)))))
end Go.Proofs.Ytjhpemlgcjdpfaa
