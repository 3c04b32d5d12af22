/- words on memory, more -/
import Derived.Test.YtjhpemlgcjdpfaaM
import Derived.Test.YtjhpemlgcjdpfaaT
import Derived.Deep.Slices
namespace Go.Proofs.Ytjhpemlgcjdpfaa
open Go.RowKit

theorem heap_alloc_new' (w : World) (o : Obj) : (w.alloc o).heap[w.heap.size]? = some o := World.alloc_heap_new w o
theorem two_draws (w : World) (a b : Nat) : ∃ m, (w.drewN a).drewN b = w.drewN m := ⟨a + b, by simp⟩
theorem ret_bool {a b : Bool} (h : a = b) : Ending.returned (.bool a) = Ending.returned (.bool b) := by rw [h]
theorem RowAt.take1 {w : World} {e : TypeId} {b off n cap : Nat} {xs : List Value} (h : RowAt w e (.slice (some ⟨b, off, none⟩) n cap) n xs) (hn : 0 < n) (i : Nat) (hi : i ≤ n) : RowAt w e (.slice (some ⟨b, off, none⟩) i cap) i (xs.take i) := by
  rcases h with ⟨rfl, _⟩ | ⟨b', off', cap', cur, fr, hv, h1, h2, h3, h4⟩
  · omega
  · cases hv
    refine .inr ⟨b, off, cap, cur, fr, rfl, by omega, h2, h3, fun j hj => ?_⟩
    have hj' : j < xs.length := by simp at hj; omega
    rw [List.getElem_take]
    exact h4 j hj'

theorem RowAt.drop1 {w : World} {e : TypeId} {b off n cap : Nat} {xs : List Value} (h : RowAt w e (.slice (some ⟨b, off, none⟩) n cap) n xs) (hn : 0 < n) (hx : xs.length = n) (i : Nat) (hi : i ≤ n) :
    RowAt w e (.slice (if cap = i then some ⟨b, off, none⟩ else some ⟨b, off + i, none⟩) (n - i) (cap - i)) (n - i) (xs.drop i) := by
  rcases h with ⟨rfl, _⟩ | ⟨b', off', cap', cur, fr, hv, h1, h2, h3, h4⟩
  · omega
  · cases hv
    by_cases hc : cap = i
    · refine .inl ⟨by omega, List.drop_eq_nil_of_le (by omega), _, _, by rw [show n - i = 0 by omega], by omega, fun h => ?_⟩
      rw [if_pos hc] at h; cases h
    · rw [if_neg hc]
      refine .inr ⟨b, off + i, cap - i, cur, fr, rfl, by omega, by omega, h3, fun j hj => ?_⟩
      have hj' : i + j < xs.length := by simp at hj; omega
      rw [List.getElem_drop, Nat.add_assoc]
      exact h4 (i + j) hj'

theorem RowAt.below {w w' : World} {e : TypeId} {v : Value} {n : Nat} {xs : List Value} {B : Nat} (h : RowAt w e v n xs) (hb : Below B w w') (hB : w.heap.size ≤ B) : RowAt w' e v n xs := by
  rcases h with h | ⟨b, off, cap, cur, fr, rfl, h1, h2, h3, h4⟩
  · exact .inl h
  · exact .inr ⟨b, off, cap, cur, fr, rfl, h1, h2, (hb.block b (Nat.lt_of_lt_of_le (Array.getElem?_eq_some_iff.1 h3).1 hB)).trans h3, h4⟩
theorem bel_drewN (B : Nat) (w : World) (n : Nat) : Below B w (w.drewN n) := ⟨rfl, rfl, rfl, Nat.le_refl _, fun _ _ => rfl⟩
theorem one_ints (l : List Value) (z : List Int) (h : ∀ u ∈ l, u ∈ zI z) : ∀ u ∈ l, u.oneCell' = true := fun u hu => by
  obtain ⟨x, _, rfl⟩ := List.mem_map.1 (h u hu)
  rfl
theorem RowAt.setCell_other {w : World} {e : TypeId} {v : Value} {n : Nat} {xs : List Value} (h : RowAt w e v n xs) {x j : Nat} {cs : Array Value} {t : TypeId} {fr : Nat × Nat} (hx : w.heap[x]? = some (.cells cs t fr)) (hne : t ≠ e) (u : Value) :
    RowAt (w.setCell ⟨x, j, none⟩ u) e v n xs := by
  rcases h with h | ⟨b, off, cap, cur, fr', rfl, h1, h2, h3, h4⟩
  · exact .inl h
  · refine .inr ⟨b, off, cap, cur, fr', rfl, h1, h2, ?_, h4⟩
    rw [Below.heap_setCell _ _ _ _ (fun e1 => ?_)]
    · exact h3
    · simp only at e1
      subst e1
      rw [hx] at h3
      simp at h3
      exact hne h3.2.1
theorem heap_setCell_same {w : World} {x j : Nat} {cs : Array Value} {t : TypeId} {fr : Nat × Nat} (h : w.heap[x]? = some (.cells cs t fr)) (v : Value) : (w.setCell ⟨x, j, none⟩ v).heap[x]? = some (.cells (cs.setIfInBounds j v) t fr) := by
  obtain ⟨hlt, hx⟩ := Array.getElem?_eq_some_iff.1 h
  show (w.heap.modify x _)[x]? = _
  rw [Array.getElem?_eq_getElem (by rw [Array.size_modify]; exact hlt), Array.getElem_modify_self, hx]
  rfl

theorem row_new (w : World) (e : TypeId) (u : Value) (g : Nat) (hg : w.heap.size = g) : RowAt (w.alloc (.cells #[u] e)) e (.slice (some ⟨g, 0, none⟩) 1 1) 1 [u] :=
  .inr ⟨g, 0, 1, #[u], (0, 0), rfl, Nat.le_refl _, by decide, hg ▸ World.alloc_heap_new w _, fun j hj => by
    have : j = 0 := by simp at hj; omega
    subst this; rfl⟩
theorem own_new (w : World) (base : Nat) (e : TypeId) (g : Nat) (hg : w.heap.size = g) (hb : base ≤ g) : (w.alloc (.cells #[] e)).ownsRow base e 1 (.slice (some ⟨g, 0, none⟩) 0 0) 0 [] := by
  subst hg
  exact World.ownsRow_made w #[] 0 hb (by decide) rfl
theorem RowAt.grown {w w' : World} {e : TypeId} {v : Value} {n : Nat} {xs : List Value} {row : Option Nat} (h : RowAt w e v n xs) (hg : w.grownBy w' row) (hb : ∀ b, v.ownBlock = some b → b < w.heap.size ∧ some b ≠ row) : RowAt w' e v n xs :=
  h.of_block fun b e => hg.block b (hb b e).1 (hb b e).2

theorem RowAt.off {w w' : World} {e : TypeId} {g : Nat} {u : Value} (h : RowAt w e (.slice (some ⟨g, 0, none⟩) 1 1) 1 [u]) {row : Option Nat} (hg : w.grownBy w' row) (h1 : g < w.heap.size) (h2 : some g ≠ row) : RowAt w' e (.slice (some ⟨g, 0, none⟩) 1 1) 1 [u] :=
  h.grown hg fun b hb => by
    simp [Value.ownBlock] at hb
    subst hb
    exact ⟨h1, h2⟩

theorem row_in {W : World} {g : Nat} {e : TypeId} {u : Value} (h : W.heap[g]? = some (.cells #[u] e (0, 0))) : RowAt W e (.slice (some ⟨g, 0, none⟩) 1 1) 1 [u] :=
  .inr ⟨g, 0, 1, #[u], (0, 0), rfl, Nat.le_refl _, by decide, h, fun j hj => by
    have : j = 0 := by simp at hj; omega
    subst this; rfl⟩
theorem lt_of_cell {w : World} {b : Nat} {v : Value} (h : w.cell? ⟨b, 0, none⟩ = some v) : b < w.heap.size := World.block_lt_of_cell? w _ h
theorem cell_new0 (W : World) (v : Value) (t : TypeId) : (W.alloc (.cells #[v] t)).cell? ⟨W.heap.size, 0, none⟩ = some v := by
  rw [cell_of_block (World.alloc_heap_new W (.cells #[v] t)) 0]
  rfl
theorem grownBy_cell (W : World) (c j : Nat) (v : Value) : W.grownBy (W.setCell ⟨c, j, none⟩ v) (some c) :=
  ⟨rfl, rfl, rfl, by simp [World.setCell], fun k _ hk => Below.heap_setCell _ _ _ _ (fun e => hk (by rw [e]))⟩
end Go.Proofs.Ytjhpemlgcjdpfaa
