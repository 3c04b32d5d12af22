/- the seal's digest: HMAC -/
import Derived.Test.YtjhpemlgcjdpfaaF
import Derived.Laws.MakeOwn
namespace Go.Proofs.Ytjhpemlgcjdpfaa
open Go.RowKit

theorem infoP5 : (Try.prog.info? 5).map (fun i => (i.zero, i.size, i.bytes)) = some (some (.int .u8 0), 1, 1) := by kernel_rfl
theorem info134 : (Try.prog.info? 134).map (·.size) = some 64 := by kernel_rfl
def Z64 : Array Value := Array.replicate 64 (.int .u8 0)
theorem zero134 : (Try.prog.info? 134).map (fun i => i.zero.map Value.cells) = some (some Z64) := by kernel_rfl
theorem own_ge {w : World} {base : Nat} {e : TypeId} {size : Nat} {v : Value} {n : Nat} {xs : List Value} (h : w.ownsRow base e size v n xs) : ∀ b, v.ownBlock = some b → base ≤ b := by
  intro b hb
  rcases h.2 with ⟨rfl, _⟩ | ⟨g, cap, cur, rfl, hg, _⟩
  · cases hb
  · simp [Value.ownBlock] at hb; omega
def xb (m c : Int) : Int := bits .xor .u8 c m

set_option maxRecDepth 1000000 in
set_option maxHeartbeats 4000000 in
theorem mac1_any (w : World) (mark : Int) (kb : Nat) (v : Value) (e : TypeId) (l ks : List Int) (hks : ks.length = 64) (hl : l.length ≤ 140737488355000) (hR : RowAt w e v l.length (zB l))
    (hk : w.heap[kb]? = some (.cells (zB ks).toArray 134 (0, 0))) :
    Calls Try.prog 94 #[.int .u8 mark, v, .pointer (some ⟨kb, 0, none⟩)] w fun ee w' => ee = .returned (.agg (shaC (ks.map (xb mark) ++ l))) ∧ Below w.heap.size w w' := by
  obtain ⟨a0, cap0, rfl, hc0, hm0⟩ := hR.shape
  obtain ⟨i0, hi, hz0, hz1, hz2⟩ := info_parts infoP5
  obtain ⟨w2, hmk, hown, hgr⟩ := run_make_own (P := Try.prog) (w.alloc (.cells Z32 24)) (w.heap.size + 1) 52 5 i0 _ 1 Try.underlying52 hi hz0 hz1 .i64 .i64 (64 + l.length) (by rw [hz2]; omega) (by unfold maxLen; omega) (by simp)
  have e1 : ((64 + l.length : Nat) : Int) = 64 + (l.length : Int) := by omega
  rw [e1] at hmk
  have hkb := (Array.getElem?_eq_some_iff.1 hk).1
  have hB2 : Below w.heap.size w w2 := ((Below.refl _ _).alloc (Nat.le_refl _) _).grown hgr (by simp) (fun j hj => by cases hj)
  have hk2 := (hB2.block kb hkb).trans hk
  have hh2 : w2.heap[w.heap.size]? = some (.cells Z32 24 (0, 0)) := (hgr.block _ (by simp) (by simp)).trans (World.alloc_heap_new w _)
  have hi134 : (Try.prog.info? 134).map (·.size) = some (zB ks).toArray.size := by rw [info134]; simp [hks]
  have Hi134 := Lib.hid hi134
  have Hks := Lib.hid hks
  clear e1 hi134 hks
  go_enter Try.func94, Try.ntmps94
  go_wp2_with (first
    | (refine wpList_allocT rfl 24 (by with_reducible rfl) Z32 zero24 ?_)
    | (refine wpList_load_row rfl 134 (.tmp 2) (by with_reducible rfl) kb rfl 134 _ (0, 0) (.array 64 5) hk2 Try.underlying134 rfl Hi134.out ?_))
  go_loopw [6, 14] (fun v i wr => ∃ k : Nat, k ≤ 64 ∧ i = .int .i64 k ∧ wr.ownsRow (w.heap.size + 1) 5 1 v k (zB ((ks.take k).map (xb mark))) ∧ wr.heap[w.heap.size]? = some (.cells Z32 24 (0, 0)) ∧ Below w.heap.size w wr) (fun _ i _ => 64 - (intOf i).toNat)
  case atStart => exact ⟨0, Nat.zero_le _, rfl, by simpa using hown, hh2, hB2⟩
  case round =>
    clear hown hh2 hB2 hmk hgr hk2
    obtain ⟨k, hk64, rfl, hown, hh, hBw⟩ := hrel
    have hlw := (Array.getElem?_eq_some_iff.1 hh).1
    by_cases hlt : k < 64
    · have hkl : k < ks.length := by rw [Hks.out]; exact hlt
      obtain ⟨x, hx⟩ : ∃ x, ks[k]? = some x := ⟨_, List.getElem?_eq_getElem hkl⟩
      have ix := fun w => run_index_cell (P := Try.prog) 134 64 5 Try.underlying134 _ Try.underlying5 rfl info5 (zB ks).toArray .i64 k hlt (.int .u8 x) (by simp [hx]) w
      have Hx := Lib.hid hx
      clear hx
      have k0 : (0 : Int) ≤ (k : Int) := by omega
      have k1 : (k : Int) < 64 := by omega
      have k2 : decide ((k : Int) < 64) = true := by simp; omega
      go_wp2_with (refine wpList_append_rowAt _ rfl (.tmp 17) (.tmp 21) 52 (by with_reducible rfl) (w.heap.size + 1) 5 i0 (.int .u8 0) 1 1 Try.underlying52 hi hz0 hz1 hz2 rfl (by decide) _ k _ rfl (hown.alloc _) 5 _ 1 [.int .u8 (xb mark x)] rfl (row_new wr 5 _ wr.heap.size rfl) rfl (fun u hu => by simp at hu; subst hu; rfl) (by unfold maxLen; omega) (by omega) (by simp; omega) ?_; intro a' cap' w' hown' hgr' hbl')
      have hgr2 : (wr.alloc (.cells #[.int .u8 (bits .xor .u8 x mark)] 5)).grownBy w' u6.ownBlock := hgr'
      have hge := own_ge hown
      have e1 : zB ((ks.take (k + 1)).map (xb mark)) = zB ((ks.take k).map (xb mark)) ++ [.int .u8 (xb mark x)] := by
        rw [List.take_add_one, Hx.out]; simp
      refine ⟨⟨k + 1, by omega, by go_num, by rw [e1]; exact hown', (hgr2.block _ (by simp; omega) (fun h => by have := hge _ h.symm; omega)).trans ((Below.heap_alloc _ _ _ hlw).trans hh), (hBw.alloc (by omega) _).grown hgr2 (by simp; omega) (fun j hj => by have := hge _ hj; omega)⟩, ?_⟩
      simp [intOf]
      omega
    · obtain rfl : k = 64 := by omega
      have hR2 := hR.below hBw (Nat.le_refl _)
      go_wp2_with (first
        | (refine wpList_append_rowAt _ rfl (.tmp 24) (.tmp 25) 52 (by with_reducible rfl) (w.heap.size + 1) 5 i0 (.int .u8 0) 1 1 Try.underlying52 hi hz0 hz1 hz2 rfl (by decide) _ 64 _ rfl hown e _ l.length (zB l) rfl hR2 (by simp) (one_bytes l) (by unfold maxLen; omega) (by omega) (by omega) ?_; intro a' cap' w' hown' hgr' hbl'))
      have hgr2 : wr.grownBy w' u6.ownBlock := hgr'
      have hge := own_ge hown
      have hlen : (ks.map (xb mark) ++ l).length = 64 + l.length := by simp [Hks.out]
      have hR3 : RowAt w' 5 (.slice a' (64 + l.length) cap') (ks.map (xb mark) ++ l).length (zB (ks.map (xb mark) ++ l)) := by
        have h1 := RowAt.of_owns hown'
        rw [List.take_of_length_le (by rw [Hks.out]; exact Nat.le_refl _)] at h1
        rw [hlen]
        simpa using h1
      have hh3 := (hgr2.block _ hlw (fun h => by have := hge _ h.symm; omega)).trans hh
      have hB3 : Below w.heap.size w w' := hBw.grown hgr2 (by omega) (fun j hj => by have := hge _ hj; omega)
      have hl3 := (Array.getElem?_eq_some_iff.1 hh3).1
      refine (sum_any w' _ 5 (ks.map (xb mark) ++ l) (by rw [hlen]; omega) hR3).mono ?_
      rintro ee w4 ⟨rfl, hB4⟩
      have hh4 := (hB4.block _ hl3).trans hh3
      have hB5 : Below w.heap.size w w4 := hB3.trans (hB4.mono (by omega))
      generalize hC : shaC (ks.map (xb mark) ++ l) = C at *
      have hi24 : (Try.prog.info? 24).map (·.size) = some C.size := by rw [info24, ← hC, shaC_size]
      have Hi24 := Lib.hid hi24
      have hC1 : C.all (·.oneCell') = true := by rw [← hC]; exact shaC_one _
      have hCs : Z32.size = C.size := by rw [← hC, shaC_size]; rfl
      have HC1 := Lib.hid hC1
      have HCs := Lib.hid hCs
      have HC := Lib.hid hC
      clear hi24 hC1 hCs hC hlen
      go_wp2_with (refine wpList_store_row rfl 24 (.tmp 5) (.tmp 27) (by with_reducible rfl) w.heap.size C rfl rfl 24 Z32 hh4 Hi24.out HCs.out HC1.out ?_)
      have hh5 := setRow_heap w4 w.heap.size Z32 C 24 (0, 0) hh4
      refine bodyPost_ret (results_cell_row (p := 5) (ty := 24) rfl _ _ w.heap.size 24 _ (0, 0) (.array 32 5) rfl hh5 Try.underlying24 rfl Hi24.out) rfl ⟨by rw [HC.out], below_setRow hB5 (Nat.le_refl _) _⟩

/-- the seal's digest of a row of bytes -/
def macB (key l : List Int) : List Int :=
  let ks := key ++ List.replicate (64 - key.length) 0
  shaB (ks.map (xb 92) ++ shaB (ks.map (xb 54) ++ l))
def macC (key l : List Int) : Array Value := (zB (macB key l)).toArray
theorem row_whole {w : World} {b n : Nat} {cs : List Value} {t : TypeId} (h : w.heap[b]? = some (.cells cs.toArray t (0, 0))) (_hn : cs.length = n) (hm : n ≤ maxLen) : RowAt w t (.slice (some ⟨b, 0, none⟩) n n) n cs :=
  .inr ⟨b, 0, n, _, (0, 0), rfl, Nat.le_refl _, hm, h, fun j hj => by simp⟩
theorem macB_length (key l : List Int) : (macB key l).length = 32 := by simp only [macB, shaB_length]
theorem macC_size (key l : List Int) : (macC key l).size = 32 := by simp [macC, macB_length]
def L64 : List Value := List.replicate 64 (.int .u8 0)
theorem splice_L64 (key : List Int) : splice L64 0 (zB key) = zB (key ++ List.replicate (64 - key.length) 0) := by
  rw [splice, List.take_zero, List.nil_append, Nat.zero_add, L64, List.drop_replicate, List.length_map]
  show _ = List.map _ _
  rw [List.map_append, List.map_replicate]

set_option maxRecDepth 1000000 in
set_option maxHeartbeats 4000000 in
theorem mac_any (w : World) (vk v : Value) (ek e : TypeId) (key l : List Int) (hkl : key.length ≤ 64) (hl : l.length ≤ 140737488355000) (hK : RowAt w ek vk key.length (zB key)) (hR : RowAt w e v l.length (zB l)) :
    Calls Try.prog 70 #[vk, v] w fun ee w' => ee = .returned (.agg (macC key l)) ∧ Below w.heap.size w w' := by
  obtain ⟨ak, capk, rfl, hck, hmk⟩ := hK.shape
  obtain ⟨a0, cap0, rfl, hc0, hm0⟩ := hR.shape
  have q0 : decide ((64 : Int) < (key.length : Int)) = false := by simp; omega
  have hB2 : Below w.heap.size w ((w.alloc (.cells Z32 24)).alloc (.cells L64.toArray 134)) := ((Below.refl _ _).alloc (Nat.le_refl _) _).alloc (by simp) _
  have hg := World.alloc_heap_new (w.alloc (.cells Z32 24)) (.cells L64.toArray 134)
  have hh2 : ((w.alloc (.cells Z32 24)).alloc (.cells L64.toArray 134)).heap[w.heap.size]? = some (.cells Z32 24 (0, 0)) := (Below.heap_alloc _ _ _ (by simp)).trans (World.alloc_heap_new w _)
  rw [World.size_alloc] at hg
  have hK2 := hK.below hB2 (Nat.le_refl _)
  have hR2 := hR.below hB2 (Nat.le_refl _)
  have Hd3 : Hid ((zB key).length = key.length.min 64) := by show _ = _; rw [List.length_map]; exact (Nat.min_eq_left hkl).symm
  have Hsrc : Hid (0 < (zB key).length → ∃ ad, ak = some ad ∧ ∀ j v, (zB key)[j]? = some v → ((w.alloc (.cells Z32 24)).alloc (.cells L64.toArray 134)).cell? (ad.add j) = some v) := fun h0 => hK2.src h0
  have Hd5 : Hid (0 + (zB key).length ≤ L64.length) := by show _ ≤ _; rw [show L64.length = 64 by kernel_rfl, List.length_map]; omega
  go_enter Try.func70, Try.ntmps70
  go_wp2_with (first
    | (refine wpList_allocT rfl 24 (by with_reducible rfl) Z32 zero24 ?_)
    | (refine wpList_allocT rfl 134 (by with_reducible rfl) L64.toArray zero134 ?_)
    | (refine wpList_copy_splice rfl (.tmp 15) (.tmp 16) 52 52 (by with_reducible rfl) 5 Try.underlying52 info5 (some ⟨w.heap.size + 1, 0, none⟩) ak 64 64 key.length capk rfl rfl (w.heap.size + 1) 0 L64 134 hg (zB key) Hd3.out (fun h0 => ⟨rfl, Hsrc.out h0⟩) Hd5.out (one_bytes key) (w.heap.size + 1) ((w.alloc (.cells Z32 24)).alloc (.cells L64.toArray 134)) (Below.refl _ _) (Nat.le_refl _) ?_; intro w3 hg3 hb3))
  obtain ⟨ks, hks⟩ : ∃ ks, ks = key ++ List.replicate (64 - key.length) 0 := ⟨_, rfl⟩
  have hsp : splice L64 0 (zB key) = zB ks := by rw [hks]; exact splice_L64 key
  have hk3 := hg3.out
  rw [hsp] at hk3
  have hks64 : ks.length = 64 := by subst hks; simp; omega
  have hB3 : Below w.heap.size w w3 := hB2.trans (hb3.mono (by omega))
  have hh3 : w3.heap[w.heap.size]? = some (.cells Z32 24 (0, 0)) := (hb3.block _ (by omega)).trans hh2
  have hl3 := (Array.getElem?_eq_some_iff.1 hk3).1
  refine (mac1_any w3 54 (w.heap.size + 1) _ e l ks hks64 hl (hR.below hB3 (Nat.le_refl _)) hk3).mono ?_
  rintro ee w4 ⟨rfl, hB4⟩
  have hk4 := (hB4.block _ hl3).trans hk3
  have hh4 := (hB4.block _ (by omega)).trans hh3
  have hB5 : Below w.heap.size w w4 := hB3.trans (hB4.mono (by omega))
  have hl4 := (Array.getElem?_eq_some_iff.1 hk4).1
  obtain ⟨M, hM⟩ : ∃ M, M = shaB (ks.map (xb 54) ++ l) := ⟨_, rfl⟩
  have hMl : M.length = 32 := by rw [hM, shaB_length]
  have HMC : Hid (shaC (ks.map (xb 54) ++ l) = (zB M).toArray) := by show _ = _; rw [hM]; rfl
  rw [HMC.out]
  have Hmac : Hid (macC key l = shaC (ks.map (xb 92) ++ M)) := by show _ = _; rw [hM, hks]; rfl
  have hi24 : (Try.prog.info? 24).map (·.size) = some (zB M).toArray.size := by rw [info24]; simp [hMl]
  have Hi24 := Lib.hid hi24
  have hC1 : (zB M).toArray.all (·.oneCell') = true := all_oneCell_toArray (one_bytes _)
  have hCs : Z32.size = (zB M).toArray.size := by simp [hMl]; rfl
  have HC1 := Lib.hid hC1
  have HCs := Lib.hid hCs
  have HMl := Lib.hid hMl
  have HM := Lib.hid hM
  have Hks := Lib.hid hks64
  clear hi24 hC1 hCs hMl hM hks hsp hks64 hb3 hB4 hg3 hK2 hR2 hB2 hg hh2 hh3 hk3
  have hn4 : (w4.alloc (.cells Z32 24)).heap[w4.heap.size]? = some (.cells Z32 24 (0, 0)) := World.alloc_heap_new w4 _
  go_wp2_with (first
    | (refine wpList_allocT rfl 24 (by with_reducible rfl) Z32 zero24 ?_)
    | (refine wpList_store_row rfl 24 (.tmp 8) (.tmp 21) (by with_reducible rfl) w4.heap.size (zB M).toArray rfl rfl 24 Z32 hn4 Hi24.out HCs.out HC1.out ?_))
  have hn5 := setRow_heap _ w4.heap.size Z32 (zB M).toArray 24 (0, 0) hn4
  have hk5 : ((w4.alloc (.cells Z32 24)).setRow w4.heap.size (zB M).toArray).heap[w.heap.size + 1]? = some (.cells (zB ks).toArray 134 (0, 0)) := (setRow_other _ _ _ _ (by omega)).trans ((Below.heap_alloc _ _ _ hl4).trans hk4)
  have hh5 : ((w4.alloc (.cells Z32 24)).setRow w4.heap.size (zB M).toArray).heap[w.heap.size]? = some (.cells Z32 24 (0, 0)) := (setRow_other _ _ _ _ (by omega)).trans ((Below.heap_alloc _ _ _ (by omega)).trans hh4)
  have hB6 : Below w.heap.size w ((w4.alloc (.cells Z32 24)).setRow w4.heap.size (zB M).toArray) := below_setRow (hB5.alloc (by omega) _) (by omega) _
  refine (mac1_any _ 92 (w.heap.size + 1) _ 24 M ks Hks.out (by rw [HMl.out]; omega) (by rw [HMl.out]; exact row_whole hn5 (by simpa using HMl.out) (by unfold maxLen; omega)) hk5).mono ?_
  rintro ee w6 ⟨rfl, hB7⟩
  have hh6 := (hB7.block _ (by simp [World.setRow]; omega)).trans hh5
  have hB8 : Below w.heap.size w w6 := hB6.trans (hB7.mono (by simp [World.setRow]; omega))
  rw [← Hmac.out]
  have hi25 : (Try.prog.info? 24).map (·.size) = some (macC key l).size := by rw [info24, Hmac.out, shaC_size]
  have Hi25 := Lib.hid hi25
  have hD1 : (macC key l).all (·.oneCell') = true := all_oneCell_toArray (one_bytes _)
  have hDs : Z32.size = (macC key l).size := by rw [Hmac.out, shaC_size]; rfl
  have HD1 := Lib.hid hD1
  have HDs := Lib.hid hDs
  clear hi25 hD1 hDs hn5 hk5 hB6 hB7 hn4
  go_wp2_with (refine wpList_store_row rfl 24 (.tmp 4) (.tmp 24) (by with_reducible rfl) w.heap.size (macC key l) rfl rfl 24 Z32 hh6 Hi25.out HDs.out HD1.out ?_)
  have hh7 := setRow_heap w6 w.heap.size Z32 (macC key l) 24 (0, 0) hh6
  refine bodyPost_ret (results_cell_row (p := 4) (ty := 24) rfl _ _ w.heap.size 24 _ (0, 0) (.array 32 5) rfl hh7 Try.underlying24 rfl Hi25.out) rfl ⟨rfl, below_setRow hB8 (Nat.le_refl _) _⟩
end Go.Proofs.Ytjhpemlgcjdpfaa
