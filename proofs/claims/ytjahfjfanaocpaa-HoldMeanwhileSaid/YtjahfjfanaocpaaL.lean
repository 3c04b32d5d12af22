/- known; told over a table; HoldOfNothing's walk -/
import Derived.Test.YtjahfjfanaocpaaK
namespace Go.Proofs.Ytjahfjfanaocpaa
open Go.RowKit Go.Maps Go.Sort Go.Shelf

set_option maxHeartbeats 1000000 in
theorem known_any (w : World) : Calls Try.prog 9 #[] w fun e w' => e = .returned (.bool true) ∧ Below w.heap.size w w' := by
  go_enter Try.func9, Try.ntmps9
  go_wp2_with (first
    | (go_at_call 6; refine (new_any _).mono ?_; rintro e w1 ⟨rfl, hT1, hB1⟩)
    | (go_at_call 15; refine (set_any 5 1 (by decide) _ _ _ _ _ hT1 (by decide)).mono ?_; rintro e w2 ⟨rfl, hT2, hg2⟩; clear hT1)
    | (go_at_call 15; refine (set_any 2 7 (by decide) _ _ _ _ _ hT2 (by decide)).mono ?_; rintro e w3 ⟨rfl, hT3, hg3⟩)
    | (go_at_call 12; refine (keys_any _ _ _ _ (by decide) _ hT3).mono ?_; rintro e w4 ⟨a, cap, rfl, hrow, hB4⟩; have hl : (ins 2 (Value.int .i64 7) (ins 5 (Value.int .i64 1) [])).length = 2 := rfl; have hR := RowAt.of_owns hrow; rw [hl] at hR; obtain ⟨g, o, cap', he, hc1, hc2, hc3⟩ := hR.cell (by omega); cases he; have c0 : w4.cell? ⟨g, o, none⟩ = some (Value.int .i64 2) := hc3 0 (by decide); have c1 : w4.cell? ⟨g, o + 1, none⟩ = some (Value.int .i64 5) := hc3 1 (by decide)))
  go_ret
  have s1 := hB1.size
  have s2 := hg2.size
  have s3 := hg3.size
  have hB3 : Below w.heap.size w w3 := (hB1.grown hg2 s1 (fun k e => by cases e; exact Nat.le_refl _)).grown hg3 (by omega) (fun k e => by cases e; exact Nat.le_refl _)
  exact ⟨rfl, hB3.trans (hB4.mono (by omega))⟩

/-- a table of ints -/
abbrev enl (l : List (Int × Int)) : List (Int × Value) := l.map fun p => (p.1, .int .i64 p.2)
theorem enl_int (l : List (Int × Int)) : ∀ q ∈ enl l, q.2 = .int .i64 (intOf q.2) := by
  intro q hq
  obtain ⟨x, _, rfl⟩ := List.mem_map.1 hq
  rfl

theorem lt_of_cell {w : World} {b : Nat} {v : Value} (h : w.cell? ⟨b, 0, none⟩ = some v) : b < w.heap.size := World.block_lt_of_cell? w _ h

/-- told over what a table's iterator gives -/
theorem toldT (w : World) (p b n : Nat) (l : List (Int × Int)) (Bt Bm : Nat) (mf : Nat) (cap : Array Value) (mt : Int → Bool) (Cap : Nat → Prop) (most : Int)
    (hBt : w.cell? ⟨Bt, 0, none⟩ = some (.pointer (some ⟨p, 0, none⟩))) (hBm : w.cell? ⟨Bm, 0, none⟩ = some (.func (.func mf) #[] cap))
    (hCap : ∀ b, Cap b → b < w.heap.size) (em : ∀ args w, (callFunc mf args).run Try.prog w = .ok (.enter mf args) w)
    (hmt : ∀ (W : World) (k : Int), (∀ b, Cap b → W.heap[b]? = w.heap[b]?) → Calls Try.prog mf (#[.int .i64 k] ++ cap) W fun e W' => e = .returned (.bool (mt k)) ∧ W = W')
    (hl : (l.length : Int) ≤ most) (h0 : 0 < most) (hb8 : l.length * 8 ≤ 140737488355328) (ht : TableAt w p b n (enl l)) :
    Calls Try.prog 13 #[.func (.func 32) #[] #[.pointer (some ⟨Bt, 0, none⟩), .pointer (some ⟨Bm, 0, none⟩)], .int .i64 most] w fun e w' => ∃ kv vv, e = .returned (.tuple #[kv, vv]) ∧
      RowAt w' 3 kv (l.filter fun q => mt q.1).length (zI ((l.filter fun q => mt q.1).map (·.1))) ∧ RowAt w' 3 vv (l.filter fun q => mt q.1).length (zI ((l.filter fun q => mt q.1).map (·.2))) ∧ Below w.heap.size w w' := by
  have hx : (enl l).filter (fun q => mt q.1) = enl (l.filter fun q => mt q.1) := by
    rw [enl, List.filter_map]; rfl
  have hfl := List.length_filter_le (fun q : Int × Int => mt q.1) l
  have lt1 := lt_of_cell hBt
  have lt2 := lt_of_cell hBm
  have hz : (enl (l.filter fun q => mt q.1)).length = (l.filter fun q => mt q.1).length := by simp
  refine (told_any w 32 _ (enl (l.filter fun q => mt q.1)) most (enl_int _) (enters_of Try.func32 (by kernel_rfl) rfl) (by rw [hz]; omega) ?_ h0).mono ?_
  · intro T W hW hTW
    rw [← hx]
    refine ranged1_iter W p b n (enl l) Bt Bm mf cap mt T Cap (fun b hb => (hTW b hb).2) (fun hb => by have := (hTW _ hb).1; omega) ((hW.cell (p := ⟨Bt, 0, none⟩) lt1).trans hBt) ((hW.cell (p := ⟨Bm, 0, none⟩) lt2).trans hBm)
      (fun b hb => ⟨fun ht => by have := (hTW b ht).1; have := hCap b hb; omega, Nat.lt_of_lt_of_le (hCap b hb) hW.size⟩) em ?_ (by simpa using hb8) (ht.below hW)
    intro W' k h
    exact hmt W' k (fun b hb => (h b hb).trans (hW.block b (hCap b hb)))
  · rintro e w' ⟨kv, vv, rfl, h1, h2, h3⟩
    have ht : (enl (l.filter fun q => mt q.1)).take most.toNat = enl (l.filter fun q => mt q.1) := List.take_of_length_le (by rw [hz]; omega)
    rw [ht, hz] at h1 h2
    refine ⟨kv, vv, rfl, ?_, ?_, h3⟩
    · simpa [List.map_map, Function.comp_def] using h1
    · simpa [List.map_map, Function.comp_def, intOf] using h2

theorem cell_new0 (W : World) (v : Value) (t : TypeId) : (W.alloc (.cells #[v] t)).cell? ⟨W.heap.size, 0, none⟩ = some v := by
  rw [cell_of_block (World.alloc_heap_new W (.cells #[v] t)) 0]
  rfl

theorem toldAll_any (w : World) (p b n : Nat) (l : List (Int × Int)) (most : Int) (hl : (l.length : Int) ≤ most) (h0 : 0 < most) (hb8 : l.length * 8 ≤ 140737488355328) (ht : TableAt w p b n (enl l)) :
    Calls Try.prog 13 #[.func (.func 32) #[] #[.pointer (some ⟨w.heap.size, 0, none⟩), .pointer (some ⟨w.heap.size + 1, 0, none⟩)], .int .i64 most] ((w.alloc (.cells #[.pointer (some ⟨p, 0, none⟩)] 23)).alloc (.cells #[.func (.func 26) #[] #[]] 48)) fun e w' =>
      ∃ kv vv, e = .returned (.tuple #[kv, vv]) ∧ RowAt w' 3 kv l.length (zI (l.map (·.1))) ∧ RowAt w' 3 vv l.length (zI (l.map (·.2))) ∧ Below w.heap.size w w' := by
  have hB : Below w.heap.size w ((w.alloc (.cells #[.pointer (some ⟨p, 0, none⟩)] 23)).alloc (.cells #[.func (.func 26) #[] #[]] 48)) := ((Below.refl _ _).alloc (Nat.le_refl _) _).alloc (by simp) _
  have c2 := cell_new0 (w.alloc (.cells #[.pointer (some ⟨p, 0, none⟩)] 23)) (.func (.func 26) #[] #[]) 48
  rw [World.size_alloc] at c2
  have h := toldT _ p b n l w.heap.size (w.heap.size + 1) 26 #[] (fun _ => true) (fun _ => False) most ((((Below.refl _ _).alloc (Nat.le_refl _) _).cell (p := ⟨w.heap.size, 0, none⟩) (by simp)).trans (cell_new0 w _ 23)) c2 (fun _ h => h.elim)
    (enters_of Try.func26 (by kernel_rfl) rfl) (fun W k _ => meantAll_any k W) hl h0 hb8 (ht.below hB)
  rw [show l.filter (fun _ => true) = l from List.filter_eq_self.2 (fun _ _ => rfl)] at h
  refine h.mono ?_
  rintro e w' ⟨kv, vv, rfl, h1, h2, h3⟩
  exact ⟨kv, vv, rfl, h1, h2, hB.trans (h3.mono hB.size)⟩

theorem toldFrom_any (w : World) (p b n : Nat) (k : Int) (l : List (Int × Int)) (most : Int) (hl : (l.length : Int) ≤ most) (h0 : 0 < most) (hb8 : l.length * 8 ≤ 140737488355328) (ht : TableAt w p b n (enl l)) :
    Calls Try.prog 13 #[.func (.func 32) #[] #[.pointer (some ⟨w.heap.size + 1, 0, none⟩), .pointer (some ⟨w.heap.size + 2, 0, none⟩)], .int .i64 most] (((w.alloc (.cells #[.int .i64 k] 3)).alloc (.cells #[.pointer (some ⟨p, 0, none⟩)] 23)).alloc (.cells #[.func (.func 27) #[] #[.pointer (some ⟨w.heap.size, 0, none⟩)]] 48)) fun e w' =>
      ∃ kv vv, e = .returned (.tuple #[kv, vv]) ∧ RowAt w' 3 kv (l.filter fun q => decide (k ≤ q.1)).length (zI ((l.filter fun q => decide (k ≤ q.1)).map (·.1))) ∧ RowAt w' 3 vv (l.filter fun q => decide (k ≤ q.1)).length (zI ((l.filter fun q => decide (k ≤ q.1)).map (·.2))) ∧ Below w.heap.size w w' := by
  have hB : Below w.heap.size w (((w.alloc (.cells #[.int .i64 k] 3)).alloc (.cells #[.pointer (some ⟨p, 0, none⟩)] 23)).alloc (.cells #[.func (.func 27) #[] #[.pointer (some ⟨w.heap.size, 0, none⟩)]] 48)) := (((Below.refl _ _).alloc (Nat.le_refl _) _).alloc (by simp) _).alloc (by simp; omega) _
  have c1 := cell_new0 (w.alloc (.cells #[.int .i64 k] 3)) (.pointer (some ⟨p, 0, none⟩)) 23
  have c2 := cell_new0 ((w.alloc (.cells #[.int .i64 k] 3)).alloc (.cells #[.pointer (some ⟨p, 0, none⟩)] 23)) (.func (.func 27) #[] #[.pointer (some ⟨w.heap.size, 0, none⟩)]) 48
  simp only [World.size_alloc] at c1 c2
  have h := toldT _ p b n l (w.heap.size + 1) (w.heap.size + 2) 27 #[.pointer (some ⟨w.heap.size, 0, none⟩)] (fun m => decide (k ≤ m)) (fun b => b = w.heap.size) most ((((Below.refl _ _).alloc (Nat.le_refl _) _).cell (p := ⟨w.heap.size + 1, 0, none⟩) (by simp)).trans c1) c2 (fun b h => by simp; omega)
    (enters_of Try.func27 (by kernel_rfl) rfl) (fun W m hW => meantFrom_any m k w.heap.size W ?_) hl h0 hb8 (ht.below hB)
  · refine h.mono ?_
    rintro e w' ⟨kv, vv, rfl, h1, h2, h3⟩
    exact ⟨kv, vv, rfl, h1, h2, hB.trans (h3.mono hB.size)⟩
  · have h1 := hW w.heap.size rfl
    have h2 : (((w.alloc (.cells #[.int .i64 k] 3)).alloc (.cells #[.pointer (some ⟨p, 0, none⟩)] 23)).alloc (.cells #[.func (.func 27) #[] #[.pointer (some ⟨w.heap.size, 0, none⟩)]] 48)).heap[w.heap.size]? = some (.cells #[.int .i64 k] 3) :=
      ((Below.heap_alloc _ _ _ (by simp; omega)).trans (Below.heap_alloc _ _ _ (by simp))).trans (World.alloc_heap_new w _)
    have h3 := cell_of_block (h1.trans h2) 0
    simpa using h3

/-- told over no table -/
theorem toldNil_any (w : World) (Bt : Nat) (x : Value) (hBt : w.cell? ⟨Bt, 0, none⟩ = some (.pointer none)) (most : Int) (h0 : 0 < most) :
    Calls Try.prog 13 #[.func (.func 32) #[] #[.pointer (some ⟨Bt, 0, none⟩), x], .int .i64 most] w fun e w' => ∃ a c a' c', e = .returned (.tuple #[.slice a 0 c, .slice a' 0 c']) ∧ Below w.heap.size w w' := by
  have lt1 := lt_of_cell hBt
  refine (told_any w 32 _ [] most (fun _ h => by cases h) (enters_of Try.func32 (by kernel_rfl) rfl) (by simp) ?_ h0).mono ?_
  · intro T W hW hTW
    exact ranged1_iter_nil W Bt x T ((hW.cell (p := ⟨Bt, 0, none⟩) lt1).trans hBt)
  · rintro e w' ⟨kv, vv, rfl, h1, h2, h3⟩
    simp at h1 h2
    obtain ⟨a, c, rfl, _⟩ := h1.shape
    obtain ⟨a', c', rfl, _⟩ := h2.shape
    exact ⟨a, c, a', c', rfl, h3⟩

set_option maxHeartbeats 2000000 in
theorem nothing_walk (k v : Int) (w : World) : Calls Try.prog 5 #[.int .i64 k, .int .i64 v] w fun e w' => e = .returned (.bool true) ∧ Below w.heap.size w w' := by
  have b1 : Below w.heap.size w ((w.alloc (.cells #[.pointer none] 23)).alloc (.cells #[.func (.func 26) #[] #[]] 48)) := ((Below.refl _ _).alloc (Nat.le_refl _) _).alloc (by simp) _
  have n1 := toldNil_any ((w.alloc (.cells #[.pointer none] 23)).alloc (.cells #[.func (.func 26) #[] #[]] 48)) w.heap.size (.pointer (some ⟨w.heap.size + 1, 0, none⟩)) ((((Below.refl _ _).alloc (Nat.le_refl _) _).cell (p := ⟨w.heap.size, 0, none⟩) (by simp)).trans (cell_new0 w _ 23)) 5 (by decide)
  have b2 : ∀ W : World, Below W.heap.size W (((W.alloc (.cells #[.int .i64 k] 3)).alloc (.cells #[.pointer none] 23)).alloc (.cells #[.func (.func 27) #[] #[.pointer (some ⟨W.heap.size, 0, none⟩)]] 48)) := fun W => (((Below.refl _ _).alloc (Nat.le_refl _) _).alloc (by simp) _).alloc (by simp; omega) _
  have n2 : ∀ W : World, _ := fun W => toldNil_any (((W.alloc (.cells #[.int .i64 k] 3)).alloc (.cells #[.pointer none] 23)).alloc (.cells #[.func (.func 27) #[] #[.pointer (some ⟨W.heap.size, 0, none⟩)]] 48)) (W.heap.size + 1) (.pointer (some ⟨W.heap.size + 2, 0, none⟩)) ((((Below.refl _ _).alloc (Nat.le_refl _) _).cell (p := ⟨W.heap.size + 1, 0, none⟩) (by simp)).trans (by have := cell_new0 (W.alloc (.cells #[.int .i64 k] 3)) (.pointer none) 23; rwa [World.size_alloc] at this)) 5 (by decide)
  go_enter Try.func5, Try.ntmps5
  go_wp2_with (first
    | (go_at_call 15; refine (set_nil_any _ _ _).mono ?_; rintro e w' ⟨rfl, rfl⟩)
    | (go_at_call 16; refine (get_nil_any _ _).mono ?_; rintro e w' ⟨rfl, rfl⟩)
    | (go_at_call 14; refine (all_any _ _).mono ?_; rintro e w' ⟨rfl, rfl⟩)
    | (go_at_call 13; refine n1.mono ?_; rintro e w3 ⟨a1, c1, a2, c2, rfl, hB3⟩; have hB3 := b1.trans (hB3.mono b1.size); clear n1)
    | (go_at_call 17; refine (from_any _ _ _).mono ?_; rintro e w' ⟨rfl, rfl⟩)
    | (go_at_call 13; refine (n2 _).mono ?_; rintro e w4 ⟨a3, c3, a4, c4, rfl, hB4⟩; have hB4 := hB3.trans (((b2 _).trans (hB4.mono (b2 _).size)).mono hB3.size))
    | (go_at_call 18; refine (del_nil_any _ _).mono ?_; rintro e w' ⟨rfl, rfl⟩)
    | (go_at_call 10; refine (len_nil_any _).mono ?_; rintro e w' ⟨rfl, rfl⟩)
    | (go_at_call 12; refine (keys_nil_any _).mono ?_; rintro e w' ⟨rfl, rfl⟩)
    | (go_at_call 9; refine (known_any _).mono ?_; rintro e w5 ⟨rfl, hB5⟩))
  go_ret
  exact ⟨rfl, hB4.trans (hB5.mono hB4.size)⟩
end Go.Proofs.Ytjahfjfanaocpaa
