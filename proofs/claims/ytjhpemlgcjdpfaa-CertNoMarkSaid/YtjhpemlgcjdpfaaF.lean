/- the digest of a row of bytes -/
import Derived.Test.YtjhpemlgcjdpfaaD
import Derived.Test.YtjhpemlgcjdpfaaE
namespace Go.Proofs.Ytjhpemlgcjdpfaa
open Go.RowKit

def Z32 : Array Value := Array.replicate 32 (.int .u8 0)
def L128 : List Value := List.replicate 128 (.int .u8 0)
def Z128 : Array Value := L128.toArray
theorem zero24 : (Try.prog.info? 24).map (fun i => i.zero.map Value.cells) = some (some Z32) := by kernel_rfl
theorem zero114 : (Try.prog.info? 114).map (fun i => i.zero.map Value.cells) = some (some Z128) := by kernel_rfl
theorem zero110 : (Try.prog.info? 110).map (fun i => i.zero.map Value.cells) = some (some ZZ) := by kernel_rfl
theorem info24 : (Try.prog.info? 24).map (·.size) = some 32 := by kernel_rfl
theorem info5 : (Try.prog.info? 5).map (·.size) = some 1 := by kernel_rfl
def lenOf : Value → Nat
  | .slice _ n _ => n
  | _ => 0
theorem one_bytes (l : List Int) : ∀ u ∈ zB l, u.oneCell' = true := fun u hu => by
  obtain ⟨x, _, rfl⟩ := List.mem_map.1 hu
  rfl

/-- the last bytes' row, so many digits being laid -/
def lastF (l : List Int) (q en k j : Nat) : Int := if j < en ∧ (j + 8 < en ∨ en ≤ j + k) then padAt l (64 * q + j) else 0
theorem last_start (l : List Int) (q m en : Nat) (hm : 64 * q + m = l.length) (hm64 : m < 64) (hen : (m < 56 ∧ en = 64) ∨ (56 ≤ m ∧ en = 128)) :
    ∀ j, j < 128 → ((splice L128 0 ((zB l).drop (64 * q))).toArray.setIfInBounds m (.int .u8 128))[j]? = some (.int .u8 (lastF l q en 0 j)) := by
  intro j hj
  have hlen : ((zB l).drop (64 * q)).length = m := by simp; omega
  have hL : L128.length = 128 := by kernel_rfl
  have hS : (splice L128 0 ((zB l).drop (64 * q))).length = 128 := by rw [length_splice _ _ _ (by omega), hL]
  by_cases e : j = m
  · subst e
    have e1 : padAt l (64 * q + j) = 128 := by rw [hm]; exact padAt_mark l
    have e2 : lastF l q en 0 j = 128 := by rw [lastF, if_pos (by omega), e1]
    rw [Array.getElem?_setIfInBounds_self, if_pos (by simpa using (by omega : j < (splice L128 0 ((zB l).drop (64 * q))).length)), e2]
  · rw [Array.getElem?_setIfInBounds_ne (fun x => e x.symm)]
    simp only [List.getElem?_toArray]
    unfold splice
    simp only [List.take_zero, List.nil_append, Nat.zero_add, hlen]
    by_cases h1 : j < m
    · rw [List.getElem?_append_left (by omega)]
      have e2 : lastF l q en 0 j = padAt l (64 * q + j) := by rw [lastF, if_pos (by omega)]
      rw [e2, padAt_low l (by omega)]
      simp [show 64 * q + j < l.length by omega]
    · rw [List.getElem?_append_right (by omega), hlen]
      have e2 : lastF l q en 0 j = 0 := by
        unfold lastF
        split
        · exact padAt_zero l (by omega) (by unfold blocks; omega)
        · rfl
      rw [e2, List.getElem?_drop, L128, List.getElem?_replicate, if_pos (by omega)]
theorem last_more (l : List Int) (q en k : Nat) (hk : k < 8) (he : 8 ≤ en) (he2 : en ≤ 128) (hb : 64 * q + en = 64 * blocks l.length) {cs : Array Value} (hz : cs.size = 128)
    (h : ∀ j, j < 128 → cs[j]? = some (.int .u8 (lastF l q en k j))) : ∀ j, j < 128 → (cs.setIfInBounds (en - 1 - k) (.int .u8 (dig l.length (7 - k))))[j]? = some (.int .u8 (lastF l q en (k + 1) j)) := by
  intro j hj
  by_cases e : en - 1 - k = j
  · subst e
    have e1 : padAt l (64 * q + (en - 1 - k)) = dig l.length (7 - k) := by
      rw [← padAt_dig l (j := 7 - k) (by omega)]; congr 1; omega
    have e2 : lastF l q en (k + 1) (en - 1 - k) = dig l.length (7 - k) := by rw [lastF, if_pos (by omega), e1]
    rw [Array.getElem?_setIfInBounds_self, if_pos (by omega), e2]
  · rw [Array.getElem?_setIfInBounds_ne e, h j hj]
    unfold lastF
    congr 2
    by_cases h1 : j < en ∧ (j + 8 < en ∨ en ≤ j + k)
    · rw [if_pos h1, if_pos (by omega)]
    · rw [if_neg h1, if_neg (by omega)]
theorem last_all (l : List Int) (q en j : Nat) (h : j < en) : lastF l q en 8 j = padAt l (64 * q + j) := by rw [lastF, if_pos (by omega)]

theorem RowAt.src {w : World} {e : TypeId} {a : Option Addr} {n cap : Nat} {xs : List Value} (h : RowAt w e (.slice a n cap) n xs) (hx : 0 < xs.length) : ∃ ad, a = some ad ∧ ∀ j v, xs[j]? = some v → w.cell? (ad.add j) = some v := by
  cases a with
  | none =>
    rcases h with ⟨_, rfl, _⟩ | ⟨b, off, cap', cur, fr, hv, _⟩
    · simp at hx
    · cases hv
  | some ad =>
    rcases h with ⟨_, rfl, _⟩ | ⟨b, off, cap', cur, fr, hv, h1, h2, h3, h4⟩
    · simp at hx
    · cases hv
      exact ⟨_, rfl, RowAt.cells (cap := cap) (e := e) (.inr ⟨b, off, cap, cur, fr, rfl, h1, h2, h3, h4⟩)⟩

theorem dig_eq (n : Nat) {j : Nat} (h : j < 8) : ((n : Int) * 8 / 2 ^ (8 * j) % 256) = dig n (7 - j) := by
  unfold dig
  rw [show 7 - (7 - j) = j by omega, Nat.mul_comm 8 n]
  simp only [Int.natCast_emod, Int.natCast_ediv, Int.natCast_mul, Int.natCast_pow]
  rfl
/-- the digest's row, so many words being laid -/
def outF (s : St) (k j : Nat) : Int := if j < 4 * k then byteN s j else 0
theorem out_start (s : St) : ∀ x, x < 32 → Z32[x]? = some (.int .u8 (outF s 0 x)) := fun x hx => by
  rw [outF, if_neg (by omega), Z32, Array.getElem?_replicate, if_pos hx]
theorem run_index109_0 (s : St) (w : World) : (Instr.index 109 (.agg s.cells) (.int .i64 0)).run Try.prog w = .ok (.int .u32 (s.at 0)) w := by kernel_rfl
theorem run_index109_1 (s : St) (w : World) : (Instr.index 109 (.agg s.cells) (.int .i64 1)).run Try.prog w = .ok (.int .u32 (s.at 1)) w := by kernel_rfl
theorem run_index109_2 (s : St) (w : World) : (Instr.index 109 (.agg s.cells) (.int .i64 2)).run Try.prog w = .ok (.int .u32 (s.at 2)) w := by kernel_rfl
theorem run_index109_3 (s : St) (w : World) : (Instr.index 109 (.agg s.cells) (.int .i64 3)).run Try.prog w = .ok (.int .u32 (s.at 3)) w := by kernel_rfl
theorem run_index109_4 (s : St) (w : World) : (Instr.index 109 (.agg s.cells) (.int .i64 4)).run Try.prog w = .ok (.int .u32 (s.at 4)) w := by kernel_rfl
theorem run_index109_5 (s : St) (w : World) : (Instr.index 109 (.agg s.cells) (.int .i64 5)).run Try.prog w = .ok (.int .u32 (s.at 5)) w := by kernel_rfl
theorem run_index109_6 (s : St) (w : World) : (Instr.index 109 (.agg s.cells) (.int .i64 6)).run Try.prog w = .ok (.int .u32 (s.at 6)) w := by kernel_rfl
theorem run_index109_7 (s : St) (w : World) : (Instr.index 109 (.agg s.cells) (.int .i64 7)).run Try.prog w = .ok (.int .u32 (s.at 7)) w := by kernel_rfl
theorem run_index109 (s : St) (k : Nat) (h : k < 8) (w : World) : (Instr.index 109 (.agg s.cells) (.int .i64 k)).run Try.prog w = .ok (.int .u32 (s.at k)) w := by
  rcases (by omega : k = 0 ∨ k = 1 ∨ k = 2 ∨ k = 3 ∨ k = 4 ∨ k = 5 ∨ k = 6 ∨ k = 7) with rfl | rfl | rfl | rfl | rfl | rfl | rfl | rfl
  · exact run_index109_0 s w
  · exact run_index109_1 s w
  · exact run_index109_2 s w
  · exact run_index109_3 s w
  · exact run_index109_4 s w
  · exact run_index109_5 s w
  · exact run_index109_6 s w
  · exact run_index109_7 s w
theorem byteN0 (s : St) (j : Nat) : byteN s (4 * j) = s.at j / 16777216 % 256 := by
  unfold byteN; rw [show 4 * j / 4 = j by omega, show 4 * j % 4 = 0 by omega]; rfl
theorem byteN1 (s : St) (j : Nat) : byteN s (4 * j + 1) = s.at j / 65536 % 256 := by
  unfold byteN; rw [show (4 * j + 1) / 4 = j by omega, show (4 * j + 1) % 4 = 1 by omega]; rfl
theorem byteN2 (s : St) (j : Nat) : byteN s (4 * j + 2) = s.at j / 256 % 256 := by
  unfold byteN; rw [show (4 * j + 2) / 4 = j by omega, show (4 * j + 2) % 4 = 2 by omega]; rfl
theorem byteN3 (s : St) (j : Nat) : byteN s (4 * j + 3) = s.at j % 256 := by
  unfold byteN; rw [show (4 * j + 3) / 4 = j by omega, show (4 * j + 3) % 4 = 3 by omega]
  show s.at j / 1 % 256 = _
  rw [Int.ediv_one]
theorem out_more (s : St) (j : Nat) {cs : Array Value} (hz : cs.size = 32) (h : ∀ x, x < 32 → cs[x]? = some (.int .u8 (outF s j x))) :
    ∀ x, x < 32 → ((((cs.setIfInBounds (4 * j) (.int .u8 (s.at j / 16777216 % 256))).setIfInBounds (4 * j + 1) (.int .u8 (s.at j / 65536 % 256))).setIfInBounds (4 * j + 2) (.int .u8 (s.at j / 256 % 256))).setIfInBounds (4 * j + 3) (.int .u8 (s.at j % 256)))[x]? = some (.int .u8 (outF s (j + 1) x)) := by
  intro x hx
  rw [← byteN0, ← byteN1, ← byteN2, ← byteN3]
  simp only [Array.getElem?_setIfInBounds, Array.size_setIfInBounds, hz]
  have e : outF s (j + 1) x = if 4 * j + 3 = x ∨ 4 * j + 2 = x ∨ 4 * j + 1 = x ∨ 4 * j = x then byteN s x else outF s j x := by
    unfold outF
    by_cases h1 : x < 4 * j
    · rw [if_pos (by omega), if_neg (by omega), if_pos h1]
    · by_cases h2 : x < 4 * (j + 1)
      · rw [if_pos h2, if_pos (by omega)]
      · rw [if_neg h2, if_neg (by omega), if_neg h1]
  rw [e]
  by_cases h3 : 4 * j + 3 = x
  · subst h3; simp [hx]
  · by_cases h2 : 4 * j + 2 = x
    · subst h2; simp [hx]
    · by_cases h1 : 4 * j + 1 = x
      · subst h1; simp [hx]
      · by_cases h0 : 4 * j = x
        · subst h0; simp [hx]
        · simp [h0, h1, h2, h3, h x hx]
theorem out_all (l : List Int) {cs : Array Value} (hz : cs.size = 32) (h : ∀ x, x < 32 → cs[x]? = some (.int .u8 (outF (stAt l (blocks l.length)) 8 x))) : cs = shaC l := by
  apply Array.ext_getElem?
  intro x
  by_cases hx : x < 32
  · rw [h x hx, outF, if_pos (by omega), shaC, shaB]
    simp [hx]
  · rw [Array.getElem?_eq_none (by omega), Array.getElem?_eq_none (by simp [shaC, shaB_length]; omega)]
theorem shaC_one (l : List Int) : (shaC l).all (·.oneCell') = true := all_oneCell_toArray (one_bytes _)
theorem shaC_size (l : List Int) : (shaC l).size = 32 := by simp [shaC, shaB_length]

set_option maxRecDepth 1000000 in
set_option maxHeartbeats 4000000 in
theorem sum_any (w : World) (v : Value) (e : TypeId) (l : List Int) (hl : l.length ≤ 140737488355328) (hR : RowAt w e v l.length (zB l)) :
    Calls Try.prog 47 #[v] w fun ee w' => ee = .returned (.agg (shaC l)) ∧ Below w.heap.size w w' := by
  obtain ⟨a0, cap0, rfl, hc0, hm0⟩ := hR.shape
  go_enter Try.func47, Try.ntmps47
  go_wp2_with (first
    | (refine wpList_allocT rfl 24 (by with_reducible rfl) Z32 zero24 ?_)
    | (refine wpList_allocT rfl 110 (by with_reducible rfl) ZZ zero110 ?_)
    | (refine wpList_store_row rfl 110 (.tmp 4) (.tmp 15) (by with_reducible rfl) _ KK rfl rfl 110 ZZ (World.alloc_heap_new _ _) ?i1 ?i2 ?i3 ?_)
    | (go_at_call 68; refine (numbers_any _).mono ?_; rintro e w1 ⟨rfl, hb1⟩))
  case i1 => rw [info110, KK_size]
  case i2 => rfl
  case i3 => exact KK_one
  have hsz := hb1.size
  simp only [World.size_alloc] at hsz
  have hk0 : ((w1.alloc (.cells ZZ 110)).setRow w1.heap.size KK).heap[w1.heap.size]? = some (.cells KK 110 (0, 0)) := setRow_heap _ _ ZZ KK 110 (0, 0) (World.alloc_heap_new _ _)
  have hold : ∀ b, b < w.heap.size + 2 → ((w1.alloc (.cells ZZ 110)).setRow w1.heap.size KK).heap[b]? = ((w.alloc (.cells Z32 24)).alloc (.cells ivS.cells 109)).heap[b]? := fun b hb =>
    (setRow_other _ _ _ _ (by omega)).trans ((Below.heap_alloc _ _ _ (by omega)).trans (hb1.block b (by simpa using hb)))
  have hs0 : ((w1.alloc (.cells ZZ 110)).setRow w1.heap.size KK).heap[w.heap.size + 1]? = some (.cells ivS.cells 109 (0, 0)) := (hold (w.heap.size + 1) (by omega)).trans (by have h := World.alloc_heap_new (w.alloc (.cells Z32 24)) (.cells ivS.cells 109); rw [World.size_alloc] at h; exact h)
  have hh0 := (hold w.heap.size (by omega)).trans ((Below.heap_alloc _ _ _ (by simp)).trans (World.alloc_heap_new w (.cells Z32 24)))
  have hB0 : Below w.heap.size w ((w1.alloc (.cells ZZ 110)).setRow w1.heap.size KK) := below_setRow (((((Below.refl _ _).alloc (Nat.le_refl _) _).alloc (by simp) _).trans (hb1.mono (by simp; omega))).alloc (by omega) _) (by omega) _
  clear hold hb1
  generalize ((w1.alloc (.cells ZZ 110)).setRow w1.heap.size KK) = W0 at *
  generalize hkb : w1.heap.size = kb at *
  clear hkb
  go_loopw [5] (fun v5 wr => ∃ k : Nat, 64 * k ≤ l.length ∧ RowAt w e v5 (l.length - 64 * k) ((zB l).drop (64 * k)) ∧ wr.heap[w.heap.size]? = some (.cells Z32 24 (0, 0)) ∧ wr.heap[w.heap.size + 1]? = some (.cells (stAt l k).cells 109 (0, 0)) ∧ wr.heap[kb]? = some (.cells KK 110 (0, 0)) ∧ Below w.heap.size w wr) (fun v5 _ => lenOf v5)
  case atStart => exact ⟨0, Nat.zero_le _, by simpa using hR, hh0, hs0, hk0, hB0⟩
  case round =>
    obtain ⟨k, hk, hV, hh, hs, hkk, hBw⟩ := hrel
    obtain ⟨m, hm⟩ : ∃ m, m = l.length - 64 * k := ⟨_, rfl⟩
    rw [← hm] at hV
    by_cases hlt : 64 * (k + 1) ≤ l.length
    · have hm64 : 64 ≤ m := by omega
      obtain ⟨b, off, cap, rfl, hc1, hc2, hcells⟩ := hV.cell (by omega)
      have hD := hV.drop1 (by omega) (by simp; omega) 64 hm64
      have hcb : ∀ j, j < 64 → wr.cell? ⟨b, off + j, none⟩ = some (.int .u8 (padAt l (64 * k + j))) := fun j hj => by
        rw [padAt_low l (by omega)]
        have h1 := hcells j (by simp; omega)
        rw [hBw.cell (p := ⟨b, off + j, none⟩) (World.block_lt_of_cell? w _ h1), h1]
        simp
      have Hcb := Lib.hid hcb
      have Hm := Lib.hid hm
      clear hcells hcb hm
      have q0 : (64 : Int) ≤ (m : Int) := by omega
      go_wp2_with (first
        | (go_at_call 69; refine (take_any wr (w.heap.size + 1) b off m cap kb (fun j => padAt l (64 * k + j)) _ _ _ _ _ _ _ _ hm64 hc1 hc2 Hcb.out hs hkk).mono ?_; rintro ee w2 ⟨rfl, hs2, hk2⟩))
      refine ⟨⟨k + 1, hlt, ?_, (hk2.block _ (Array.getElem?_eq_some_iff.1 hh).1 (by omega)).trans hh, hs2, (hk2.block _ (Array.getElem?_eq_some_iff.1 hkk).1 (by omega)).trans hkk, Kept.below hBw hk2 (fun b hb => by omega)⟩, ?_⟩
      · rw [show l.length - 64 * (k + 1) = m - 64 by have := Hm.out; omega, show (zB l).drop (64 * (k + 1)) = ((zB l).drop (64 * k)).drop 64 by rw [List.drop_drop]; congr 1]
        exact hD
      · simp [lenOf]; omega
    · obtain ⟨a5, cap5, rfl, hc5, hm5⟩ := hV.shape
      obtain ⟨CS, hCS⟩ : ∃ CS, CS = (zB l).drop (64 * k) := ⟨_, rfl⟩
      rw [← hCS] at hV
      have hlen : CS.length = m := by rw [hCS]; simp; omega
      have hCS1 : ∀ u ∈ CS, u.oneCell' = true := fun u hu => one_bytes l u (List.mem_of_mem_drop (hCS ▸ hu))
      have hsrc : 0 < CS.length → ∃ ad, a5 = some ad ∧ ∀ j v, CS[j]? = some v → (wr.alloc (.cells Z128 114)).cell? (ad.add j) = some v := fun h0 => by
        obtain ⟨ad, ha, hc⟩ := hV.src h0
        refine ⟨ad, ha, fun j v hv => ?_⟩
        exact (((Below.refl _ wr).alloc (Nat.le_refl _) _).cell (by have := hc j v hv; have h2 := World.block_lt_of_cell? w _ this; have := hBw.size; omega)).trans ((hBw.cell (World.block_lt_of_cell? w _ (hc j v hv))).trans (hc j v hv))
      have hla : (wr.alloc (.cells Z128 114)).heap[wr.heap.size]? = some (.cells L128.toArray 114 (0, 0)) := World.alloc_heap_new wr _
      have hL128 : L128.length = 128 := by kernel_rfl
      have Hsm : Hid (CS.length < (splice L128 0 CS).length) := by show CS.length < _; rw [length_splice _ _ _ (by omega), hL128]; omega
      have Hsz : Hid ((splice L128 0 CS).length = 128) := by show _ = _; rw [length_splice _ _ _ (by omega), hL128]
      have Hd3 : Hid (CS.length = CS.length.min 128) := (Nat.min_eq_left (by omega)).symm
      have Hd5 : Hid (0 + CS.length ≤ L128.length) := by show 0 + CS.length ≤ L128.length; rw [hL128]; omega
      have hst0 := last_start l k CS.length
      rw [← hCS] at hst0
      have Hst0 := Lib.hid hst0
      have hbl : (CS.length < 56 → 64 * k + 64 = 64 * blocks l.length) ∧ (56 ≤ CS.length → 64 * k + 128 = 64 * blocks l.length) := by unfold blocks; omega
      have Hbl := Lib.hid hbl
      subst hlen
      have Hsrc := Lib.hid hsrc
      have Hm := Lib.hid hm
      have HCS := Lib.hid hCS
      have HCS1 := Lib.hid hCS1
      clear hsrc hm hCS hCS1 hL128 hst0 hbl
      have q0 : (CS.length : Int) < 64 := by have := Hm.out; omega
      have q1 : (CS.length : Int) < 128 := by omega
      have q2 : decide ((64 : Int) ≤ (CS.length : Int)) = false := by simpa using q0
      have hBn : Below wr.heap.size wr (wr.alloc (.cells Z128 114)) := (Below.refl _ wr).alloc (Nat.le_refl _) _
      by_cases h56 : CS.length < 56
      · have q3 : decide ((56 : Int) ≤ (CS.length : Int)) = false := by simp; omega
        go_wp2_with (first
          | (refine wpList_allocT rfl 114 (by with_reducible rfl) Z128 zero114 ?_)
          | (refine wpList_copy_splice rfl (.tmp 24) (.tmp 25) 52 52 (by with_reducible rfl) 5 Try.underlying52 info5 (some ⟨wr.heap.size, 0, none⟩) a5 128 128 CS.length cap5 rfl rfl wr.heap.size 0 L128 114 hla CS Hd3.out (fun h0 => ⟨rfl, Hsrc.out h0⟩) Hd5.out HCS1.out wr.heap.size wr hBn (Nat.le_refl _) ?_; intro w3 hg3 hb3; have c3 := cell_of_block hg3.out CS.length; have f3 := free_of_block hg3.out CS.length; rw [List.getElem?_toArray, List.getElem?_eq_getElem Hsm.out] at c3))
        obtain ⟨wo, rfl⟩ : ∃ wo : World, wo = wr := ⟨_, rfl⟩
        have hlo := hBw.size
        have hkl := (Array.getElem?_eq_some_iff.1 hkk).1
        have hhl := (Array.getElem?_eq_some_iff.1 hs).1
        clear c3 f3 hla hBn Hsrc HCS HCS1 Hd3 Hd5
        generalize hLa : wo.heap.size = la at *
        go_loopw [35] (fun i w4 => ∃ (j : Nat) (cs : Array Value), j ≤ 8 ∧ i = .int .i64 j ∧ w4.heap[la]? = some (.cells cs 114 (0, 0)) ∧ cs.size = 128 ∧ Hid (∀ x, x < 128 → cs[x]? = some (.int .u8 (lastF l k 64 j x))) ∧ Below la wo w4) (fun i _ => 8 - (intOf i).toNat)
        case atStart => exact ⟨0, _, Nat.zero_le _, rfl, heap_setCell_same hg3.out _, (by have := Hsz.out; simpa using this), Hst0.out 64 (by have := Hm.out; omega) (by omega) (by omega), hb3.setCell (Nat.le_refl _) _⟩
        case round =>
          clear hg3 hb3
          obtain ⟨j, cs, hj8, rfl, hg4, hz4, hall, hb4⟩ := hrel
          by_cases hlt : j < 8
          · have c4 := cell_of_block hg4 (63 - j)
            have f4 := free_of_block hg4 (63 - j)
            rw [Array.getElem?_eq_getElem (by omega)] at c4
            have k0 : (0 : Int) ≤ (j : Int) := by omega
            have k1 : (j : Int) < 8 := by omega
            have k2 : decide ((j : Int) < 8) = true := by simp; omega
            have m0 : IntKind.i64.wrap (63 - (j : Int)) = 63 - (j : Int) := IntWalk.i64_in _ (by omega)
            have m1 : IntKind.i64.wrap (8 * (j : Int)) = 8 * (j : Int) := IntWalk.i64_in _ (by omega)
            have p0 : (j : Int) ≤ 63 := by omega
            have p1 : (63 : Int) - (j : Int) < 128 := by omega
            have t0 : ((63 : Int) - (j : Int)).toNat = 63 - j := by omega
            have p2 : (0 : Int) ≤ 8 * (j : Int) := by omega
            go_wp2
            refine ⟨⟨j + 1, _, by omega, by go_num, heap_setCell_same hg4 _, by simpa using hz4, (by rw [dig_eq _ hlt]; exact last_more l k 64 j hlt (by omega) (by omega) (by have := Hbl.out; omega) hz4 hall.out), hb4.setCell (Nat.le_refl _) _⟩, ?_⟩
            simp [intOf]
            omega
          · obtain rfl : j = 8 := by omega
            have hsb := (hb4.block (w.heap.size + 1) hhl).trans hs
            have hkb := (hb4.block kb hkl).trans hkk
            have hhb := (hb4.block w.heap.size (by omega)).trans hh
            have hBB : Below w.heap.size w wr := hBw.trans (hb4.mono (by omega))
            have hcb : ∀ x, x < 64 → cs[x]? = some (.int .u8 (padAt l (64 * k + x))) := fun x hx => by rw [hall.out x (by omega), last_all l k 64 x hx]
            have Hcb := Lib.hid hcb
            clear hs hkk hh hcb hBw hb4 hall
            go_wp2
            obtain ⟨wp, rfl⟩ : ∃ wp : World, wp = wr := ⟨_, rfl⟩
            go_loopw [11] (fun i w6 => ∃ t : Nat, ((t = 0 ∧ i = .int .i64 0) ∨ (t = 1 ∧ i = .int .i64 64)) ∧ w6.heap[la]? = some (.cells cs 114 (0, 0)) ∧ w6.heap[w.heap.size]? = some (.cells Z32 24 (0, 0)) ∧ w6.heap[w.heap.size + 1]? = some (.cells (stAt l (k + t)).cells 109 (0, 0)) ∧ w6.heap[kb]? = some (.cells KK 110 (0, 0)) ∧ Below w.heap.size w w6) (fun i _ => 64 - (intOf i).toNat)
            case atStart => exact ⟨0, .inl ⟨rfl, rfl⟩, hg4, hhb, hsb, hkb, hBB⟩
            case round =>
              clear hg4 hhb hsb hkb hBB
              obtain ⟨t, ht, hg4, hhb, hsb, hkb, hBB⟩ := hrel
              rcases ht with ⟨rfl, rfl⟩ | ⟨rfl, rfl⟩
              · have hcc : ∀ j, j < 64 → wr.cell? ⟨la, 0 + j, none⟩ = some (.int .u8 (padAt l (64 * (k + 0) + j))) := fun j hj => by
                  rw [cell_of_block hg4, Hcb.out (0 + j) (by omega)]; congr 3; omega
                have Hcc := Lib.hid hcc
                clear hcc
                go_wp2_with (go_at_call 69; refine (take_any wr (w.heap.size + 1) la 0 _ _ kb (fun j => padAt l (64 * (k + 0) + j)) _ _ _ _ _ _ _ _ (by decide) (by decide) (by decide) Hcc.out hsb hkb).mono ?_; rintro ee w2 ⟨rfl, hs2, hk2⟩)
                have hl1 := (Array.getElem?_eq_some_iff.1 hg4).1
                have hl2 := (Array.getElem?_eq_some_iff.1 hkb).1
                have hl3 := (Array.getElem?_eq_some_iff.1 hhb).1
                refine ⟨?_, ?_⟩
                · repeat apply Exists.intro
                  refine ⟨?_, rfl⟩
                  exact ⟨0 + 1, by simp, (hk2.block _ hl1 (by omega)).trans hg4, (hk2.block _ hl3 (by omega)).trans hhb, hs2, (hk2.block _ hl2 (by omega)).trans hkb, Kept.below hBB hk2 (fun b hb => by omega)⟩
                · simp [intOf]
              · have hbk : k + 1 = blocks l.length := by have := Hbl.out; omega
                rw [hbk] at hsb
                generalize hS : stAt l (blocks l.length) = S at *
                have HS := Lib.hid hS
                clear hS
                go_wp2_with (refine wpList_load_row rfl 109 (.tmp 3) (by with_reducible rfl) (w.heap.size + 1) rfl 109 _ (0, 0) (.array 8 107) hsb Try.underlying109 rfl info109 ?_)
                obtain ⟨wq, rfl⟩ : ∃ wq : World, wq = wr := ⟨_, rfl⟩
                go_loopw [58] (fun i w7 => ∃ (j : Nat) (cs : Array Value), j ≤ 8 ∧ i = .int .i64 j ∧ w7.heap[w.heap.size]? = some (.cells cs 24 (0, 0)) ∧ cs.size = 32 ∧ Hid (∀ x, x < 32 → cs[x]? = some (.int .u8 (outF S j x))) ∧ Below w.heap.size w w7) (fun i _ => 8 - (intOf i).toNat)
                case atStart => exact ⟨0, Z32, Nat.zero_le _, rfl, hhb, by kernel_rfl, out_start S, hBB⟩
                case round =>
                  clear hg4 hz4 hhb hsb hkb hBB Hcb
                  obtain ⟨j, cs, hj8, rfl, hh4, hz4, hall, hB4⟩ := hrel
                  by_cases hlt : j < 8
                  · have ix := fun w => run_index109 S j hlt w
                    have c0 := cell_of_block hh4 (4 * j)
                    have c1 := cell_of_block hh4 (4 * j + 1)
                    have c2 := cell_of_block hh4 (4 * j + 2)
                    have c3 := cell_of_block hh4 (4 * j + 3)
                    have f0 := free_of_block hh4 (4 * j)
                    have f1 := free_of_block hh4 (4 * j + 1)
                    have f2 := free_of_block hh4 (4 * j + 2)
                    have f3 := free_of_block hh4 (4 * j + 3)
                    rw [hall.out _ (by omega)] at c0 c1 c2 c3
                    have k0 : (0 : Int) ≤ (j : Int) := by omega
                    have k1 : (j : Int) < 8 := by omega
                    have k2 : decide ((j : Int) < 8) = true := by simp; omega
                    have m0 : IntKind.i64.wrap (4 * (j : Int)) = 4 * (j : Int) := IntWalk.i64_in _ (by omega)
                    have m1 : IntKind.i64.wrap (4 * (j : Int) + 1) = 4 * (j : Int) + 1 := IntWalk.i64_in _ (by omega)
                    have m2 : IntKind.i64.wrap (4 * (j : Int) + 2) = 4 * (j : Int) + 2 := IntWalk.i64_in _ (by omega)
                    have m3 : IntKind.i64.wrap (4 * (j : Int) + 3) = 4 * (j : Int) + 3 := IntWalk.i64_in _ (by omega)
                    have p0 : (0 : Int) ≤ 4 * (j : Int) := by omega
                    have p1 : (0 : Int) ≤ 4 * (j : Int) + 1 := by omega
                    have p2 : (0 : Int) ≤ 4 * (j : Int) + 2 := by omega
                    have p3 : (0 : Int) ≤ 4 * (j : Int) + 3 := by omega
                    have q0 : 4 * (j : Int) < 32 := by omega
                    have q1 : 4 * (j : Int) + 1 < 32 := by omega
                    have q2 : 4 * (j : Int) + 2 < 32 := by omega
                    have q3 : 4 * (j : Int) + 3 < 32 := by omega
                    have t0 : (4 * (j : Int)).toNat = 4 * j := by omega
                    have t1 : (4 * (j : Int) + 1).toNat = 4 * j + 1 := by omega
                    have t2 : (4 * (j : Int) + 2).toNat = 4 * j + 2 := by omega
                    have t3 : (4 * (j : Int) + 3).toNat = 4 * j + 3 := by omega
                    go_wp2
                    refine ⟨⟨j + 1, _, by omega, by go_num, heap_setCell_same (heap_setCell_same (heap_setCell_same (heap_setCell_same hh4 _) _) _) _, by simpa using hz4, out_more S j hz4 hall.out, (((hB4.setCell (Nat.le_refl _) _).setCell (Nat.le_refl _) _).setCell (Nat.le_refl _) _).setCell (Nat.le_refl _) _⟩, ?_⟩
                    simp [intOf]
                    omega
                  · obtain rfl : j = 8 := by omega
                    have e1 : cs = shaC l := out_all l hz4 (by rw [HS.out]; exact hall.out)
                    subst e1
                    clear hall
                    have hi24 : (Try.prog.info? 24).map (·.size) = some (shaC l).size := by rw [info24, shaC_size]
                    have Hi24 := Lib.hid hi24
                    clear hi24 hz4
                    go_wp2_with (first
                      | (refine wpList_load_row rfl 24 (.tmp 2) (by with_reducible rfl) w.heap.size rfl 24 _ (0, 0) (.array 32 5) hh4 Try.underlying24 rfl Hi24.out ?_)
                      | (refine wpList_store_row rfl 24 (.tmp 2) (.tmp 89) (by with_reducible rfl) w.heap.size (shaC l) rfl rfl 24 _ hh4 Hi24.out rfl (shaC_one l) ?_))
                    have hh5 := setRow_heap wr w.heap.size (shaC l) (shaC l) 24 (0, 0) hh4
                    refine bodyPost_ret (results_cell_row (p := 2) (ty := 24) rfl _ _ w.heap.size 24 _ (0, 0) (.array 32 5) rfl hh5 Try.underlying24 rfl Hi24.out) rfl ⟨rfl, below_setRow hB4 (Nat.le_refl _) _⟩
      · have q3 : (56 : Int) ≤ (CS.length : Int) := by omega
        go_wp2_with (first
          | (refine wpList_allocT rfl 114 (by with_reducible rfl) Z128 zero114 ?_)
          | (refine wpList_copy_splice rfl (.tmp 24) (.tmp 25) 52 52 (by with_reducible rfl) 5 Try.underlying52 info5 (some ⟨wr.heap.size, 0, none⟩) a5 128 128 CS.length cap5 rfl rfl wr.heap.size 0 L128 114 hla CS Hd3.out (fun h0 => ⟨rfl, Hsrc.out h0⟩) Hd5.out HCS1.out wr.heap.size wr hBn (Nat.le_refl _) ?_; intro w3 hg3 hb3; have c3 := cell_of_block hg3.out CS.length; have f3 := free_of_block hg3.out CS.length; rw [List.getElem?_toArray, List.getElem?_eq_getElem Hsm.out] at c3))
        obtain ⟨wo, rfl⟩ : ∃ wo : World, wo = wr := ⟨_, rfl⟩
        have hlo := hBw.size
        have hkl := (Array.getElem?_eq_some_iff.1 hkk).1
        have hhl := (Array.getElem?_eq_some_iff.1 hs).1
        clear c3 f3 hla hBn Hsrc HCS HCS1 Hd3 Hd5
        generalize hLa : wo.heap.size = la at *
        go_loopw [35] (fun i w4 => ∃ (j : Nat) (cs : Array Value), j ≤ 8 ∧ i = .int .i64 j ∧ w4.heap[la]? = some (.cells cs 114 (0, 0)) ∧ cs.size = 128 ∧ Hid (∀ x, x < 128 → cs[x]? = some (.int .u8 (lastF l k 128 j x))) ∧ Below la wo w4) (fun i _ => 8 - (intOf i).toNat)
        case atStart => exact ⟨0, _, Nat.zero_le _, rfl, heap_setCell_same hg3.out _, (by have := Hsz.out; simpa using this), Hst0.out 128 (by have := Hm.out; omega) (by omega) (by omega), hb3.setCell (Nat.le_refl _) _⟩
        case round =>
          clear hg3 hb3
          obtain ⟨j, cs, hj8, rfl, hg4, hz4, hall, hb4⟩ := hrel
          by_cases hlt : j < 8
          · have c4 := cell_of_block hg4 (127 - j)
            have f4 := free_of_block hg4 (127 - j)
            rw [Array.getElem?_eq_getElem (by omega)] at c4
            have k0 : (0 : Int) ≤ (j : Int) := by omega
            have k1 : (j : Int) < 8 := by omega
            have k2 : decide ((j : Int) < 8) = true := by simp; omega
            have m0 : IntKind.i64.wrap (127 - (j : Int)) = 127 - (j : Int) := IntWalk.i64_in _ (by omega)
            have m1 : IntKind.i64.wrap (8 * (j : Int)) = 8 * (j : Int) := IntWalk.i64_in _ (by omega)
            have p0 : (j : Int) ≤ 127 := by omega
            have p1 : (127 : Int) - (j : Int) < 128 := by omega
            have t0 : ((127 : Int) - (j : Int)).toNat = 127 - j := by omega
            have p2 : (0 : Int) ≤ 8 * (j : Int) := by omega
            go_wp2
            refine ⟨⟨j + 1, _, by omega, by go_num, heap_setCell_same hg4 _, by simpa using hz4, (by rw [dig_eq _ hlt]; exact last_more l k 128 j hlt (by omega) (by omega) (by have := Hbl.out; omega) hz4 hall.out), hb4.setCell (Nat.le_refl _) _⟩, ?_⟩
            simp [intOf]
            omega
          · obtain rfl : j = 8 := by omega
            have hsb := (hb4.block (w.heap.size + 1) hhl).trans hs
            have hkb := (hb4.block kb hkl).trans hkk
            have hhb := (hb4.block w.heap.size (by omega)).trans hh
            have hBB : Below w.heap.size w wr := hBw.trans (hb4.mono (by omega))
            have hcb : ∀ x, x < 128 → cs[x]? = some (.int .u8 (padAt l (64 * k + x))) := fun x hx => by rw [hall.out x (by omega), last_all l k 128 x hx]
            have Hcb := Lib.hid hcb
            clear hs hkk hh hcb hBw hb4 hall
            go_wp2
            obtain ⟨wp, rfl⟩ : ∃ wp : World, wp = wr := ⟨_, rfl⟩
            go_loopw [11] (fun i w6 => ∃ t : Nat, ((t = 0 ∧ i = .int .i64 0) ∨ (t = 1 ∧ i = .int .i64 64) ∨ (t = 2 ∧ i = .int .i64 128)) ∧ w6.heap[la]? = some (.cells cs 114 (0, 0)) ∧ w6.heap[w.heap.size]? = some (.cells Z32 24 (0, 0)) ∧ w6.heap[w.heap.size + 1]? = some (.cells (stAt l (k + t)).cells 109 (0, 0)) ∧ w6.heap[kb]? = some (.cells KK 110 (0, 0)) ∧ Below w.heap.size w w6) (fun i _ => 128 - (intOf i).toNat)
            case atStart => exact ⟨0, .inl ⟨rfl, rfl⟩, hg4, hhb, hsb, hkb, hBB⟩
            case round =>
              clear hg4 hhb hsb hkb hBB
              obtain ⟨t, ht, hg4, hhb, hsb, hkb, hBB⟩ := hrel
              rcases ht with ⟨rfl, rfl⟩ | ⟨rfl, rfl⟩ | ⟨rfl, rfl⟩
              · have hcc : ∀ j, j < 64 → wr.cell? ⟨la, 0 + j, none⟩ = some (.int .u8 (padAt l (64 * (k + 0) + j))) := fun j hj => by
                  rw [cell_of_block hg4, Hcb.out (0 + j) (by omega)]; congr 3; omega
                have Hcc := Lib.hid hcc
                clear hcc
                go_wp2_with (go_at_call 69; refine (take_any wr (w.heap.size + 1) la 0 _ _ kb (fun j => padAt l (64 * (k + 0) + j)) _ _ _ _ _ _ _ _ (by decide) (by decide) (by decide) Hcc.out hsb hkb).mono ?_; rintro ee w2 ⟨rfl, hs2, hk2⟩)
                have hl1 := (Array.getElem?_eq_some_iff.1 hg4).1
                have hl2 := (Array.getElem?_eq_some_iff.1 hkb).1
                have hl3 := (Array.getElem?_eq_some_iff.1 hhb).1
                refine ⟨?_, ?_⟩
                · repeat apply Exists.intro
                  refine ⟨?_, rfl⟩
                  exact ⟨0 + 1, by simp, (hk2.block _ hl1 (by omega)).trans hg4, (hk2.block _ hl3 (by omega)).trans hhb, hs2, (hk2.block _ hl2 (by omega)).trans hkb, Kept.below hBB hk2 (fun b hb => by omega)⟩
                · simp [intOf]
              · have hcc : ∀ j, j < 64 → wr.cell? ⟨la, 64 + j, none⟩ = some (.int .u8 (padAt l (64 * (k + 1) + j))) := fun j hj => by
                  rw [cell_of_block hg4, Hcb.out (64 + j) (by omega)]; congr 3; omega
                have Hcc := Lib.hid hcc
                clear hcc
                go_wp2_with (go_at_call 69; refine (take_any wr (w.heap.size + 1) la 64 _ _ kb (fun j => padAt l (64 * (k + 1) + j)) _ _ _ _ _ _ _ _ (by decide) (by decide) (by decide) Hcc.out hsb hkb).mono ?_; rintro ee w2 ⟨rfl, hs2, hk2⟩)
                have hl1 := (Array.getElem?_eq_some_iff.1 hg4).1
                have hl2 := (Array.getElem?_eq_some_iff.1 hkb).1
                have hl3 := (Array.getElem?_eq_some_iff.1 hhb).1
                refine ⟨?_, ?_⟩
                · repeat apply Exists.intro
                  refine ⟨?_, rfl⟩
                  exact ⟨1 + 1, by simp, (hk2.block _ hl1 (by omega)).trans hg4, (hk2.block _ hl3 (by omega)).trans hhb, hs2, (hk2.block _ hl2 (by omega)).trans hkb, Kept.below hBB hk2 (fun b hb => by omega)⟩
                · simp [intOf]
              · have hbk : k + 2 = blocks l.length := by have := Hbl.out; omega
                rw [hbk] at hsb
                generalize hS : stAt l (blocks l.length) = S at *
                have HS := Lib.hid hS
                clear hS
                go_wp2_with (refine wpList_load_row rfl 109 (.tmp 3) (by with_reducible rfl) (w.heap.size + 1) rfl 109 _ (0, 0) (.array 8 107) hsb Try.underlying109 rfl info109 ?_)
                obtain ⟨wq, rfl⟩ : ∃ wq : World, wq = wr := ⟨_, rfl⟩
                go_loopw [58] (fun i w7 => ∃ (j : Nat) (cs : Array Value), j ≤ 8 ∧ i = .int .i64 j ∧ w7.heap[w.heap.size]? = some (.cells cs 24 (0, 0)) ∧ cs.size = 32 ∧ Hid (∀ x, x < 32 → cs[x]? = some (.int .u8 (outF S j x))) ∧ Below w.heap.size w w7) (fun i _ => 8 - (intOf i).toNat)
                case atStart => exact ⟨0, Z32, Nat.zero_le _, rfl, hhb, by kernel_rfl, out_start S, hBB⟩
                case round =>
                  clear hg4 hz4 hhb hsb hkb hBB Hcb
                  obtain ⟨j, cs, hj8, rfl, hh4, hz4, hall, hB4⟩ := hrel
                  by_cases hlt : j < 8
                  · have ix := fun w => run_index109 S j hlt w
                    have c0 := cell_of_block hh4 (4 * j)
                    have c1 := cell_of_block hh4 (4 * j + 1)
                    have c2 := cell_of_block hh4 (4 * j + 2)
                    have c3 := cell_of_block hh4 (4 * j + 3)
                    have f0 := free_of_block hh4 (4 * j)
                    have f1 := free_of_block hh4 (4 * j + 1)
                    have f2 := free_of_block hh4 (4 * j + 2)
                    have f3 := free_of_block hh4 (4 * j + 3)
                    rw [hall.out _ (by omega)] at c0 c1 c2 c3
                    have k0 : (0 : Int) ≤ (j : Int) := by omega
                    have k1 : (j : Int) < 8 := by omega
                    have k2 : decide ((j : Int) < 8) = true := by simp; omega
                    have m0 : IntKind.i64.wrap (4 * (j : Int)) = 4 * (j : Int) := IntWalk.i64_in _ (by omega)
                    have m1 : IntKind.i64.wrap (4 * (j : Int) + 1) = 4 * (j : Int) + 1 := IntWalk.i64_in _ (by omega)
                    have m2 : IntKind.i64.wrap (4 * (j : Int) + 2) = 4 * (j : Int) + 2 := IntWalk.i64_in _ (by omega)
                    have m3 : IntKind.i64.wrap (4 * (j : Int) + 3) = 4 * (j : Int) + 3 := IntWalk.i64_in _ (by omega)
                    have p0 : (0 : Int) ≤ 4 * (j : Int) := by omega
                    have p1 : (0 : Int) ≤ 4 * (j : Int) + 1 := by omega
                    have p2 : (0 : Int) ≤ 4 * (j : Int) + 2 := by omega
                    have p3 : (0 : Int) ≤ 4 * (j : Int) + 3 := by omega
                    have q0 : 4 * (j : Int) < 32 := by omega
                    have q1 : 4 * (j : Int) + 1 < 32 := by omega
                    have q2 : 4 * (j : Int) + 2 < 32 := by omega
                    have q3 : 4 * (j : Int) + 3 < 32 := by omega
                    have t0 : (4 * (j : Int)).toNat = 4 * j := by omega
                    have t1 : (4 * (j : Int) + 1).toNat = 4 * j + 1 := by omega
                    have t2 : (4 * (j : Int) + 2).toNat = 4 * j + 2 := by omega
                    have t3 : (4 * (j : Int) + 3).toNat = 4 * j + 3 := by omega
                    go_wp2
                    refine ⟨⟨j + 1, _, by omega, by go_num, heap_setCell_same (heap_setCell_same (heap_setCell_same (heap_setCell_same hh4 _) _) _) _, by simpa using hz4, out_more S j hz4 hall.out, (((hB4.setCell (Nat.le_refl _) _).setCell (Nat.le_refl _) _).setCell (Nat.le_refl _) _).setCell (Nat.le_refl _) _⟩, ?_⟩
                    simp [intOf]
                    omega
                  · obtain rfl : j = 8 := by omega
                    have e1 : cs = shaC l := out_all l hz4 (by rw [HS.out]; exact hall.out)
                    subst e1
                    clear hall
                    have hi24 : (Try.prog.info? 24).map (·.size) = some (shaC l).size := by rw [info24, shaC_size]
                    have Hi24 := Lib.hid hi24
                    clear hi24 hz4
                    go_wp2_with (first
                      | (refine wpList_load_row rfl 24 (.tmp 2) (by with_reducible rfl) w.heap.size rfl 24 _ (0, 0) (.array 32 5) hh4 Try.underlying24 rfl Hi24.out ?_)
                      | (refine wpList_store_row rfl 24 (.tmp 2) (.tmp 89) (by with_reducible rfl) w.heap.size (shaC l) rfl rfl 24 _ hh4 Hi24.out rfl (shaC_one l) ?_))
                    have hh5 := setRow_heap wr w.heap.size (shaC l) (shaC l) 24 (0, 0) hh4
                    refine bodyPost_ret (results_cell_row (p := 2) (ty := 24) rfl _ _ w.heap.size 24 _ (0, 0) (.array 32 5) rfl hh5 Try.underlying24 rfl Hi24.out) rfl ⟨rfl, below_setRow hB4 (Nat.le_refl _) _⟩
end Go.Proofs.Ytjhpemlgcjdpfaa
