/- plain laws: the sorted list, and the reference's two rows -/
import Derived.Test.YtjahfjfanaocpaaG
import Derived.Test.YtjahfjfanaocpaaL
namespace Go.Proofs.Ytjahfjfanaocpaa
open Go.RowKit Plain Go.Maps

theorem len_map (lo : List (Int × Int)) : (lo.map (·.1)).length = lo.length := by simp
theorem take_app {α : Type} (a b : List α) (n : Nat) (h : n = a.length) : (a ++ b).take n = a := by subst h; simp
theorem drop_app {α : Type} (a b : List α) (n : Nat) (h : n = a.length) : (a ++ b).drop n = b := by subst h; simp
theorem drop_app1 {α : Type} (a b : List α) (u : α) (n : Nat) (h : n = a.length) : (a ++ u :: b).drop (n + 1) = b := by subst h; simp
theorem set_app {α : Type} (a b : List α) (u v : α) (n : Nat) (h : n = a.length) : (a ++ u :: b).set n v = a ++ v :: b := by subst h; simp

theorem set_both (k v : Int) (l : List (Int × Int)) (s : Srt l) : setK (l.map (·.1)) k = (ins k v l).map (·.1) ∧ setV (l.map (·.1)) (l.map (·.2)) k v = (ins k v l).map (·.2) := by
  unfold setK setV insZ
  rcases parts k l s with ⟨lo, hi, a, b, rfl⟩ | ⟨lo, hi, u, a, b, rfl⟩
  · rw [found_no a b, pos_no a b, ins_no a b]
    simp only [Bool.false_eq_true, if_false, List.map_append, List.map_cons]
    exact ⟨by rw [take_app _ _ _ (by simp), drop_app _ _ _ (by simp)], by rw [take_app _ _ _ (by simp), drop_app _ _ _ (by simp)]⟩
  · rw [found_yes a, pos_yes a, ins_yes a b]
    simp only [if_true, List.map_append, List.map_cons]
    exact ⟨trivial, set_app _ _ _ _ _ (by simp)⟩

theorem del_both (k : Int) (l : List (Int × Int)) (s : Srt l) : delK (l.map (·.1)) k = (rem k l).map (·.1) ∧ delV (l.map (·.1)) (l.map (·.2)) k = (rem k l).map (·.2) := by
  unfold delK delV
  rcases parts k l s with ⟨lo, hi, a, b, rfl⟩ | ⟨lo, hi, u, a, b, rfl⟩
  · rw [found_no a b, rem_no a b]
    simp
  · rw [found_yes a, pos_yes a, rem_yes a b]
    simp only [if_true, List.map_append, List.map_cons]
    exact ⟨by rw [take_app _ _ _ (by simp), drop_app1 _ _ _ _ (by simp)], by rw [take_app _ _ _ (by simp), drop_app1 _ _ _ _ (by simp)]⟩

theorem found_both (k : Int) (l : List (Int × Int)) (s : Srt l) : found (l.map (·.1)) k = (get? k l).isSome ∧ (if found (l.map (·.1)) k then (l.map (·.2))[pos (l.map (·.1)) k]?.getD 0 else 0) = (get? k l).getD 0 := by
  rcases parts k l s with ⟨lo, hi, a, b, rfl⟩ | ⟨lo, hi, u, a, b, rfl⟩
  · rw [found_no a b, get_no a b]
    simp
  · rw [found_yes a, pos_yes a, get_yes a]
    simp

theorem from_both (k : Int) (l : List (Int × Int)) (s : Srt l) : (l.filter fun q => decide (k ≤ q.1)) = l.drop (pos (l.map (·.1)) k) := by
  have hlo : ∀ lo : List (Int × Int), (∀ p ∈ lo, p.1 < k) → lo.filter (fun q => decide (k ≤ q.1)) = [] := fun lo h => List.filter_eq_nil_iff.2 (by intro p hp; have := h p hp; simp; omega)
  have hhi : ∀ hi : List (Int × Int), (∀ p ∈ hi, k < p.1) → hi.filter (fun q => decide (k ≤ q.1)) = hi := fun hi h => List.filter_eq_self.2 (by intro p hp; have := h p hp; simp; omega)
  rcases parts k l s with ⟨lo, hi, a, b, rfl⟩ | ⟨lo, hi, u, a, b, rfl⟩
  · rw [pos_no a b, List.filter_append, hlo lo a, hhi hi b, drop_app _ _ _ rfl]; rfl
  · rw [pos_yes a, List.filter_append, hlo lo a, List.filter_cons, hhi hi b, drop_app _ _ _ rfl]
    simp

theorem srt_enl {l : List (Int × Int)} : Srt (enl l) ↔ Srt l := by
  unfold Srt enl
  rw [List.pairwise_map]
theorem ins_enl (k v : Int) (l : List (Int × Int)) : ins k (.int .i64 v) (enl l) = enl (ins k v l) := by
  unfold ins enl
  rw [List.filter_map, List.filter_map, List.map_append, List.map_cons]
  rfl
theorem rem_enl (k : Int) (l : List (Int × Int)) : rem k (enl l) = enl (rem k l) := by
  unfold rem enl
  rw [List.filter_map]
  rfl
theorem get_enl (k : Int) (l : List (Int × Int)) : get? k (enl l) = (get? k l).map (Value.int .i64) := by
  unfold get? enl
  rw [List.find?_map, Option.map_map, Option.map_map]
  rfl

/-- the table and the reference's table, of one list -/
structure Both (w : World) (p b x n : Nat) (l : List (Int × Int)) : Prop where
  tab : TableAt w p b n (enl l)
  ref : RefAt w x (l.map (·.1)) (l.map (·.2))

theorem ref_own {w w' : World} {b x : Nat} {K V : List Int} (h : RefAt w x K V) (hm : ∃ es c, w.heap[b]? = some (.map es c)) (hg : w.grownBy w' (some b)) : RefAt w' x K V := by
  obtain ⟨es, c, hb⟩ := hm
  obtain ⟨kv, vv, h1, h2, h3, h4⟩ := h
  have row : ∀ {v : Value} {n : Nat} {xs : List Value}, RowAt w 3 v n xs → RowAt w' 3 v n xs := by
    intro v n xs h
    rcases h with h | ⟨g, off, cap, cur, fr, rfl, a1, a2, a3, a4⟩
    · exact .inl h
    · refine .inr ⟨g, off, cap, cur, fr, rfl, a1, a2, (hg.block g (Array.getElem?_eq_some_iff.1 a3).1 ?_).trans a3, a4⟩
      intro e; cases e; rw [hb] at a3; cases a3
  refine ⟨kv, vv, (hg.block x (Array.getElem?_eq_some_iff.1 h1).1 ?_).trans h1, row h2, row h3, h4⟩
  intro e; cases e; rw [hb] at h1; cases h1
theorem own_map {w : World} {b n : Nat} {D : DataW Value} (h : w.ownsMap Try.prog 3 RV b n D) : ∃ es c, w.heap[b]? = some (.map es c) := by
  obtain ⟨es, clock, hb, _⟩ := h
  exact ⟨es, clock, hb⟩
theorem row_slice {w : World} {e : TypeId} {v : Value} {n : Nat} {xs : List Value} (h : RowAt w e v n xs) : ∃ a c, v = .slice a n c := by
  obtain ⟨a, c, h, _⟩ := h.shape
  exact ⟨a, c, h⟩

theorem tab_ref {w w' : World} {p b x n : Nat} {l : List (Int × Value)} {K V : List Int} (h : TableAt w p b n l) (hr : RefAt w x K V) (hk : Kept (fun c => c = x) w w') : TableAt w' p b n l := by
  obtain ⟨es, cl, hb⟩ := own_map h.map
  obtain ⟨kv, vv, h1, h2, h3, h4⟩ := hr
  have hbx : b ≠ x := by rintro rfl; rw [hb] at h1; cases h1
  have hpx : p ≠ x := by
    rintro rfl
    have e1 := cell_of_block h1 0
    rw [h.cell] at e1
    obtain ⟨a, c, rfl⟩ := row_slice h2
    simp at e1
  have hg : w.grownBy w' (some x) := ⟨hk.os, hk.tape, hk.output, hk.size, fun c hc hn => hk.block c hc (fun e => hn (by rw [e]))⟩
  exact h.grown hg (by simp [hpx]) (by simp [hbx])
end Go.Proofs.Ytjahfjfanaocpaa
