/- CertOrder: the walk -/
import Derived.Test.YtjhpemlgcjdpfaaOp
import Derived.Deep.CutRange
namespace Go.Proofs.Ytjhpemlgcjdpfaa
open Go.RowKit

set_option maxRecDepth 1000000 in
set_option maxHeartbeats 4000000 in
theorem order_walk (f j : Int) (w : World) : Calls Try.prog 7 #[.int .i64 f, .int .i64 j] w fun ee w' => ee = .returned (.bool true) ∧ Below w.heap.size w w' := by
  by_cases c0 : f < 0
  · go_enter Try.func7, Try.ntmps7
    go_wp2_with (go_at_call 27; refine (known_any _).mono ?_; rintro ee w5 ⟨rfl, hB5⟩)
    go_ret
    exact ⟨rfl, hB5⟩
  by_cases c1 : 3 < f
  · go_enter Try.func7, Try.ntmps7
    go_wp2_with (go_at_call 27; refine (known_any _).mono ?_; rintro ee w5 ⟨rfl, hB5⟩)
    go_ret
    exact ⟨rfl, hB5⟩
  by_cases c2 : j < 0
  · go_enter Try.func7, Try.ntmps7
    go_wp2_with (go_at_call 27; refine (known_any _).mono ?_; rintro ee w5 ⟨rfl, hB5⟩)
    go_ret
    exact ⟨rfl, hB5⟩
  by_cases c3 : 9 < j
  · go_enter Try.func7, Try.ntmps7
    go_wp2_with (go_at_call 27; refine (known_any _).mono ?_; rintro ee w5 ⟨rfl, hB5⟩)
    go_ret
    exact ⟨rfl, hB5⟩
  obtain ⟨N, rfl⟩ : ∃ N : Nat, j = (N : Int) := ⟨j.toNat, by omega⟩
  have hN : N ≤ 9 := by omega
  obtain ⟨i26, hi26, hz260, hz261, hz262⟩ := info_parts infoP26
  have hnn : Hid (nodesN 4 = 4) := rfl
  have hzc : (Value.agg VoteM.nil.arr).cells.size = 68 := by rfl
  go_enter Try.func7, Try.ntmps7
  go_wp2_with (first
    | (refine wpList_buildG 24 [(0, .const (.int .u8 1))] (by with_reducible rfl) (by rfl) (zB s1).toArray ?_ ?_; exact built24_1)
    | (go_at_call 16; refine (new_any _ 4 s1 s1_len).mono ?_; rintro ee w1 ⟨rfl, hr1, hB1⟩; rw [hnn.out] at hr1))
  go_loopw [6, 7] (fun l i wr => ∃ (k : Nat) (lv : Value), k ≤ N ∧ lv = l ∧ i = .int .i64 k ∧ wr.ownsRow w1.heap.size 26 68 lv k (votesC (junkL k)) ∧ Below w1.heap.size w1 wr) (fun _ i _ => N - (intOf i).toNat)
  case atStart => exact ⟨0, _, Nat.zero_le _, rfl, rfl, ⟨rfl, .inl ⟨rfl, rfl⟩⟩, Below.refl _ _⟩
  case round =>
    obtain ⟨k, lv, hk, rfl, rfl, hown, hBw⟩ := hrel
    have hzw := hBw.size
    by_cases hlt : k < N
    · have k0 : (0 : Int) ≤ (k : Int) := by omega
      have k1 : (k : Int) < (N : Int) := by omega
      obtain ⟨jv, hjv⟩ : ∃ jv, jv = junkV k := ⟨_, rfl⟩
      have hjo : jv.Ok := by rw [hjv]; exact junkV_ok k
      have hb : Try.prog.built 26 [(0, .int .i64 2), (2, .int .i64 1), (4, .int .i64 (bits .and .i64 (k : Int) 3))] = some jv.arr := by rw [hjv]; exact built26_junk 2 1 _
      have hsn : votesC (junkL k) ++ votesC [jv] = votesC (junkL (k + 1)) := by rw [junkL_succ, votesC_app, hjv]
      have Hb := Lib.hid hb
      have Hsn := Lib.hid hsn
      clear hb hsn hjv
      have ho1 : (wr.alloc (.cells (votesC [jv]).toArray 26)).ownsRow w1.heap.size 26 68 lv k (votesC (junkL k)) := own_keep hown (fun b hb => Below.heap_alloc _ _ _ (own_lt hown b hb))
      have hBa : Below w1.heap.size w1 (wr.alloc (.cells (votesC [jv]).toArray 26)) := hBw.alloc hzw _
      have hR1 := votesAt_new (m := 1) (World.alloc_heap_new wr (.cells (votesC [jv]).toArray 26)) (by simpa using hjo) rfl (by decide)
      go_wp2_with (first
        | (refine wpList_buildG 26 [(0, .const (.int .i64 2)), (2, .const (.int .i64 1)), (4, .tmp 36)] (by with_reducible rfl) (by rfl) jv.arr ?_ ?_; exact Hb.out)
        | (refine wpList_buildSliceG 22 26 1 [(0, .tmp 37)] (by with_reducible rfl) (by rfl) (votesC [jv]).toArray i26 (.agg VoteM.nil.arr) 68 (votesC [VoteM.nil]).toArray Try.underlying22 hi26 hz260 hz261 (by decide) (by decide) zfillV1 ?_ ?_; exact fillV1 jv hjo)
        | (refine wpList_append_rowAt _ rfl (.tmp 34) (.tmp 38) 22 (by with_reducible rfl) w1.heap.size 26 i26 (.agg VoteM.nil.arr) 68 96 Try.underlying22 hi26 hz260 hz261 hz262 hzc (by decide) lv k (votesC (junkL k)) ?_ ho1 26 _ 1 (votesC [jv]) ?_ hR1.row ?_ ?_ ?_ ?_ ?_ ?_; rfl; rfl; simp [votesC, VoteM.length hjo]; (intro u hu; exact VoteM.one u (by simpa [votesC] using hu)); (unfold maxLen; omega); omega; simp only [World.size_alloc]; omega; intro a' cap' w4 ho4 hg4 hb4))
      refine ⟨⟨k + 1, _, by omega, rfl, by go_num, by rw [← Hsn.out]; exact ho4, hBa.grown hg4 hBa.size (fun b hb => own_ge ho1 b hb)⟩, ?_⟩
      simp [intOf]
      omega
    · obtain rfl : k = N := by omega
      have q0 : (0 : Int) ≤ (k : Int) := by omega
      have q1 : (k : Int) ≤ 9 := by omega
      go_wp2
      go_loopw [6, 8] (fun l c wr => ∃ (i : Nat) (lv : Value), i ≤ 4 ∧ lv = l ∧ c = .int .i64 i ∧ wr.ownsRow w1.heap.size 26 68 lv (k + i) (votesC (junkL k ++ castL 4 (keyB s1) f i)) ∧ Below w1.heap.size w1 wr) (fun _ c _ => 4 - (intOf c).toNat)
      case atStart => exact ⟨0, _, by omega, rfl, rfl, by simpa [castL] using hown, hBw⟩
      case round =>
        clear hown hBw hzw
        obtain ⟨i, lv, hi4, rfl, rfl, hown, hBw⟩ := hrel
        have hzw := hBw.size
        by_cases hlt : i < 4
        · have k0 : (0 : Int) ≤ (i : Int) := by omega
          have k1 : (i : Int) < 4 := by omega
          have k2 : IntKind.i64.wrap (f + (i : Int)) = f + (i : Int) := by simp [IntKind.wrap, IntKind.signed, IntKind.bits]; omega
          obtain ⟨jv, hjv⟩ : ∃ jv, jv = castV 4 (keyB s1) 2 0 1 s5 (turnF f i) := ⟨_, rfl⟩
          have hjo : jv.Ok := by rw [hjv]; exact castV_ok _ _ _ _ _ _ _ s5_len
          have hsn : votesC (junkL k ++ castL 4 (keyB s1) f i) ++ votesC [jv] = votesC (junkL k ++ castL 4 (keyB s1) f (i + 1)) := by rw [castL_succ, votesC_app, votesC_app, votesC_app, hjv, List.append_assoc]
          have Hjv := Lib.hid hjv
          have Hsn := Lib.hid hsn
          have htf : turnF f i = bits .and .i64 (f + (i : Int)) 3 := by rw [turnF, k2]
          have Htf := Lib.hid htf
          clear hsn hjv htf
          have hr2 := hr1.below hBw
          go_wp2_with (first
            | (refine wpList_buildG 24 [(0, .const (.int .u8 5))] (by with_reducible rfl) (by rfl) (zB s5).toArray ?_ ?_; exact built24_5)
            | (go_at_call 18; rw [← Htf.out]; refine (cast_any _ (w.heap.size + 1) 4 (keyB s1) hr2 2 0 1 (turnF f i) s5 s5_len).mono ?_; rintro ee w3 ⟨rfl, hB3⟩; rw [← Hjv.out]; have ho3 : (w3.alloc (.cells (votesC [jv]).toArray 26)).ownsRow w1.heap.size 26 68 lv (k + i) (votesC (junkL k ++ castL 4 (keyB s1) f i)) := own_keep hown (fun b hb => (Below.heap_alloc _ _ _ (Nat.lt_of_lt_of_le (own_lt hown b hb) hB3.size)).trans (hB3.block b (own_lt hown b hb))); have hBa : Below w1.heap.size w1 (w3.alloc (.cells (votesC [jv]).toArray 26)) := (hBw.trans (hB3.mono hzw)).alloc (Nat.le_trans hzw hB3.size) _; have hR1 := votesAt_new (m := 1) (World.alloc_heap_new w3 (.cells (votesC [jv]).toArray 26)) (by simpa using hjo) rfl (by decide))
            | (refine wpList_buildSliceG 22 26 1 [(0, .tmp 51)] (by with_reducible rfl) (by rfl) (votesC [jv]).toArray i26 (.agg VoteM.nil.arr) 68 (votesC [VoteM.nil]).toArray Try.underlying22 hi26 hz260 hz261 (by decide) (by decide) zfillV1 ?_ ?_; exact fillV1 jv hjo)
            | (refine wpList_append_rowAt _ rfl (.tmp 44) (.tmp 52) 22 (by with_reducible rfl) w1.heap.size 26 i26 (.agg VoteM.nil.arr) 68 96 Try.underlying22 hi26 hz260 hz261 hz262 hzc (by decide) lv (k + i) (votesC (junkL k ++ castL 4 (keyB s1) f i)) ?_ ho3 26 _ 1 (votesC [jv]) ?_ hR1.row ?_ ?_ ?_ ?_ ?_ ?_; rfl; rfl; simp [votesC, VoteM.length hjo]; (intro u hu; exact VoteM.one u (by simpa [votesC] using hu)); (unfold maxLen; omega); omega; exact hBa.size; intro a' cap' w4 ho4 hg4 hb4))
          refine ⟨⟨i + 1, _, by omega, rfl, by go_num, by rw [← Hsn.out]; exact ho4, hBa.grown hg4 hBa.size (fun b hb => own_ge ho3 b hb)⟩, ?_⟩
          simp [intOf]
          omega
        · obtain rfl : i = 4 := by omega
          obtain ⟨n, hn⟩ : ∃ n : Nat, n = min 4 (10 - k) := ⟨_, rfl⟩
          have hwl := order_len (keyB s1) f c0 c1 k hN
          have hml := order_meets (keyB s1) f c0 c1 k hN
          have hmin : min 4 (10 - (k : Int)) = (n : Int) := by omega
          have hn4 : n = 1 ∨ n = 2 ∨ n = 3 ∨ n = 4 := by omega
          rw [← hn] at hwl hml
          clear hn
          have hrow := RowAt.of_owns hown
          have hl : (junkL k ++ castL 4 (keyB s1) f 4).length = k + 4 := by rw [List.length_append, junkL_len, castL_len]
          have hV : VotesAt wr 26 lv (junkL k ++ castL 4 (keyB s1) f 4) := ⟨by rw [hl]; exact hrow, fun x hx => by
            rcases List.mem_append.1 hx with h | h
            · exact junkL_ok k x h
            · exact castL_ok 4 (keyB s1) f 4 x h⟩
          obtain ⟨LV, hLV⟩ : ∃ LV, LV = junkL k ++ castL 4 (keyB s1) f 4 := ⟨_, rfl⟩
          rw [← hLV] at hV hwl hml
          have Hwl := Lib.hid hwl
          have Hml := Lib.hid hml
          have Hmin := Lib.hid hmin
          clear hLV hl hrow hwl hml hmin
          have hr2 := hr1.below hBw
          have hBw1 := hB1.trans (hBw.mono hB1.size)
          have z1 := hB1.size
          go_upto_region 16 with fail
          rw [Hmin.out]
          rcases hn4 with rfl | rfl | rfl | rfl
          all_goals
            go_wp2_with (first
              | (refine wpList_buildG 24 [(0, .const (.int .u8 5))] (by with_reducible rfl) (by rfl) (zB s5).toArray ?_ ?_; exact built24_5)
              | (go_at_call 23; refine (who_any _ (.pointer (some ⟨w.heap.size + 1, 0, none⟩)) 4 (keyB s1) (.inr ⟨_, rfl, hr2⟩) _ 26 LV hV 2 0 1 s5 s5_len).mono ?_; rintro ee w4 ⟨v4, rfl, hR4, hB4⟩; rw [Hwl.out] at hR4; obtain ⟨p4, q4, rfl, _, _⟩ := hR4.shape; have hr4 := hr2.below hB4; have hV4 := hV.below hB4 (Nat.le_refl _))
              | (go_at_call 25; refine (meets_any _ (w.heap.size + 1) 4 (keyB s1) hr4 _ 26 LV hV4 2 0 1 s5 s5_len).mono ?_; rintro ee w5 ⟨rfl, hB5⟩; rw [Hml.out])
              | (go_at_call 27; refine (known_any _).mono ?_; rintro ee w6 ⟨rfl, hB6⟩))
            go_ret
            refine ⟨rfl, ?_⟩
            have z4 := hB4.size
            have z5 := hB5.size
            exact hBw1.trans ((hB4.mono (by omega)).trans ((hB5.mono (by omega)).trans (hB6.mono (by omega))))
end Go.Proofs.Ytjhpemlgcjdpfaa
