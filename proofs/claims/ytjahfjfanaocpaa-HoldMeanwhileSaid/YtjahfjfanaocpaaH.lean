/- the table's contracts: New, Len, Set, Get, Del, Keys -/
import Derived.Test.YtjahfjfanaocpaaRows
import Derived.Test.YtjahfjfanaocpaaP2
import Derived.Test.YtjahfjfanaocpaaM
import Derived.Test.YtjahfjfanaocpaaShelf
import Derived.WalkSpells
import Derived.WalkLawsBesides
import Derived.Maps.Own
import Derived.Maps.OwnSet
import Derived.Maps.OwnIn
import Derived.OwnWalkIn
import Derived.TacticsInMore
namespace Go.Proofs.Ytjahfjfanaocpaa
open Go.RowKit Go.Maps Go.Sort Go.Shelf

/-- every value stands for itself -/
def RV : Value → Option (DataW Value × List MemPlace) := fun v => some (.held v, [])
theorem kint : Keyed Try.prog 3 := int_keyed Try.underlying3
theorem zero3 (w : World) : (zeroValue 3).run Try.prog w = .ok (.int .i64 0) w := by kernel_rfl

/-- a table at block p, its map at block b: the sorted list l; so many stores at most -/
structure TableAt (w : World) (p b n : Nat) (l : List (Int × Value)) : Prop where
  cell : w.cell? ⟨p, 0, none⟩ = some (.map (some b))
  map : w.ownsMap Try.prog 3 RV b n (dat l)
  srt : Srt l
  len : l.length ≤ n
  wf : ∀ q ∈ l, (Lit.int .i64 q.1).wf = true

theorem TableAt.ne {w : World} {p b n : Nat} {l : List (Int × Value)} (h : TableAt w p b n l) : p ≠ b := by
  rintro rfl
  obtain ⟨es, clock, hb, _⟩ := h.map
  have := h.cell
  simp [World.cell?, hb] at this

theorem TableAt.grown {w w' : World} {p b n : Nat} {l : List (Int × Value)} (h : TableAt w p b n l) {row : Option Nat} (hg : w.grownBy w' row) (h1 : some p ≠ row) (h2 : some b ≠ row) : TableAt w' p b n l :=
  ⟨hg.cell h.cell h1, h.map.kept hg h2, h.srt, h.len, h.wf⟩
theorem grown_below {w w' : World} {B : Nat} (h : Below B w w') (hB : w.heap.size ≤ B) : w.grownBy w' none := ⟨h.os, h.tape, h.output, h.size, fun k hk _ => h.block k (by omega)⟩
theorem TableAt.below {w w' : World} {p b n : Nat} {l : List (Int × Value)} (h : TableAt w p b n l) (hB : Below w.heap.size w w') : TableAt w' p b n l := h.grown (grown_below hB (Nat.le_refl _)) (by simp) (by simp)

set_option maxHeartbeats 400000 in
theorem new_any (w : World) : Calls Try.prog 6 #[] w fun e w' => e = .returned (.pointer (some ⟨w.heap.size + 1, 0, none⟩)) ∧ TableAt w' (w.heap.size + 1) w.heap.size 0 [] ∧ Below w.heap.size w w' := by
  have hmm := @run_makeMap Try.prog
  go_enter Try.func6, Try.ntmps6
  go_wp2
  go_ret
  refine ⟨rfl, ?_, ?_⟩
  · exact ⟨by go_simp, (World.ownsMap_made w _ _ _).alloc _, List.Pairwise.nil, Nat.le_refl _, by simp⟩
  · exact ((Below.refl _ _).alloc (Nat.le_refl _) _).alloc (by simp) _

set_option maxHeartbeats 400000 in
theorem len_any (p b n : Nat) (l : List (Int × Value)) (w : World) (h : TableAt w p b n l) : Calls Try.prog 10 #[.pointer (some ⟨p, 0, none⟩)] w fun e w' => e = .returned (.int .i64 l.length) ∧ w = w' := by
  obtain ⟨h1, h2, _⟩ := h
  have hs := Lib.hid (dat_size l)
  go_enter Try.func10, Try.ntmps10
  go_wp2_with (at_len; refine wpList_len_own _ rfl _ 50 rfl 3 3 Try.underlying50 _ b n (dat l) rfl h2 ?_)
  go_ret
  exact ⟨by rw [← hs.out]; rfl, rfl⟩

set_option maxHeartbeats 400000 in
theorem len_nil_any (w : World) : Calls Try.prog 10 #[.pointer none] w fun e w' => e = .returned (.int .i64 0) ∧ w = w' := by
  go_enter Try.func10, Try.ntmps10
  go_wp2
  go_ret
  exact ⟨rfl, rfl⟩

theorem mem_ins {β : Type} {k : Int} {v : β} {l : List (Int × β)} {q : Int × β} (h : q ∈ ins k v l) : q = (k, v) ∨ q ∈ l := by
  unfold ins at h
  rcases List.mem_append.1 h with h | h
  · exact .inr (List.mem_filter.1 h).1
  · rcases List.mem_cons.1 h with h | h
    · exact .inl h
    · exact .inr (List.mem_filter.1 h).1
theorem ins_wf {β : Type} {k : Int} {v : β} {l : List (Int × β)} (hk : (Lit.int .i64 k).wf = true) (h : ∀ q ∈ l, (Lit.int .i64 q.1).wf = true) : ∀ q ∈ ins k v l, (Lit.int .i64 q.1).wf = true := fun q hq => by
  rcases mem_ins hq with rfl | hq
  · exact hk
  · exact h q hq
theorem ins_len {β : Type} (k : Int) (v : β) (l : List (Int × β)) (s : Srt l) : (ins k v l).length ≤ l.length + 1 := by
  rcases parts k l s with ⟨lo, hi, a, b, rfl⟩ | ⟨lo, hi, u, a, b, rfl⟩
  · rw [ins_no a b]; simp; omega
  · rw [ins_yes a b]; simp

set_option maxHeartbeats 400000 in
theorem set_any (k v : Int) (hk : (Lit.int .i64 k).wf = true) (p b n : Nat) (l : List (Int × Value)) (w : World) (h : TableAt w p b n l) (hn : n < maxLen) :
    Calls Try.prog 15 #[.pointer (some ⟨p, 0, none⟩), .int .i64 k, .int .i64 v] w fun e w' => e = .returned (.tuple #[]) ∧ TableAt w' p b (n + 1) (ins k (.int .i64 v) l) ∧ w.grownBy w' (some b) := by
  have hne := h.ne
  obtain ⟨h1, h2, h3, h4, h5⟩ := h
  have hil := ins_len k (Value.int .i64 v) l h3
  go_enter Try.func15, Try.ntmps15
  go_wp2_with (at_mapUpdate; refine wpList_mapUpdate_own _ rfl _ _ _ 50 rfl 3 3 kint Try.underlying50 _ b n (dat l) rfl h2 hn _ _ _ rfl rfl (keyOf_int_mk Try.underlying3 hk) _ [] rfl ?_; intro w1 hown1 hgrow1)
  go_end0
  refine ⟨rfl, ⟨hgrow1.cell h1 (by simp [hne]), ?_, ins_srt k _ h3, by omega, ins_wf hk h5⟩, hgrow1⟩
  rw [← dat_put h3]
  exact hown1

set_option maxHeartbeats 400000 in
theorem set_nil_any (k v : Int) (w : World) : Calls Try.prog 15 #[.pointer none, .int .i64 k, .int .i64 v] w fun e w' => e = .returned (.tuple #[]) ∧ w = w' := by
  go_enter Try.func15, Try.ntmps15
  go_wp2
  go_end0
  exact ⟨rfl, rfl⟩

set_option maxHeartbeats 400000 in
theorem get_any (k : Int) (hk : (Lit.int .i64 k).wf = true) (p b n : Nat) (l : List (Int × Value)) (w : World) (h : TableAt w p b n l) :
    Calls Try.prog 16 #[.pointer (some ⟨p, 0, none⟩), .int .i64 k] w fun e w' => e = .returned (.tuple #[(get? k l).getD (.int .i64 0), .bool (get? k l).isSome]) ∧ w = w' := by
  obtain ⟨h1, h2, h3, h4, h5⟩ := h
  have hat := Lib.hid (dat_atKey l k (.held (.int .i64 0)))
  have hhas := Lib.hid (dat_has l k)
  go_enter Try.func16, Try.ntmps16
  go_wp2_with (at_lookup; refine wpList_lookup_own_ok _ rfl _ _ 50 rfl 3 3 kint Try.underlying50 RV (zero3 _) (.held (.int .i64 0)) [] rfl b n (dat l) rfl h2 _ _ rfl (keyOf_int_mk Try.underlying3 hk) ?_; intro v ps hv; have Hv := Lib.hid hv; clear hv)
  go_ret2
  have e1 := Hv.out
  rw [hat.out] at e1
  have e2 : v = (get? k l).getD (.int .i64 0) := by
    cases hg : get? k l <;> rw [hg] at e1 <;> simp [RV] at e1 <;> simp [e1]
  subst e2
  rw [hhas.out]
  exact ⟨rfl, rfl⟩

set_option maxHeartbeats 400000 in
theorem get_nil_any (k : Int) (w : World) : Calls Try.prog 16 #[.pointer none, .int .i64 k] w fun e w' => e = .returned (.tuple #[.int .i64 0, .bool false]) ∧ w = w' := by
  go_enter Try.func16, Try.ntmps16
  go_wp2
  go_ret2
  exact ⟨rfl, rfl⟩

theorem rem_len {β : Type} (k : Int) (l : List (Int × β)) : (rem k l).length ≤ l.length := List.length_filter_le _ _

set_option maxHeartbeats 400000 in
theorem del_any (k : Int) (hk : (Lit.int .i64 k).wf = true) (p b n : Nat) (l : List (Int × Value)) (w : World) (h : TableAt w p b n l) :
    Calls Try.prog 18 #[.pointer (some ⟨p, 0, none⟩), .int .i64 k] w fun e w' => e = .returned (.bool (get? k l).isSome) ∧ TableAt w' p b n (rem k l) ∧ w.grownBy w' (some b) := by
  have hg := get_any k hk p b n l w h
  have hne := h.ne
  obtain ⟨h1, h2, h3, h4, h5⟩ := h
  have hrl := rem_len k l
  cases hs : get? k l with
  | none =>
    simp only [hs, Option.isSome_none, Option.getD_none] at hg
    have Hs := Lib.hid hs
    clear hs
    have hrem : Hid (rem k l = l) := by
      rcases parts k l h3 with ⟨lo, hi, a, b, rfl⟩ | ⟨lo, hi, u, a, b, rfl⟩
      · exact rem_no a b
      · have := Hs.out; rw [get_yes a] at this; cases this
    go_enter Try.func18, Try.ntmps18
    go_wp2_with (go_at_call 16; refine hg.mono ?_; rintro e w' ⟨rfl, rfl⟩)
    go_ret
    exact ⟨rfl, ⟨h1, by rw [hrem.out]; exact h2, by rw [hrem.out]; exact h3, by omega, by rw [hrem.out]; exact h5⟩, ⟨rfl, rfl, rfl, Nat.le_refl _, fun _ _ _ => rfl⟩⟩
  | some u =>
    simp only [hs, Option.isSome_some, Option.getD_some] at hg
    have Hs := Lib.hid hs
    clear hs
    go_enter Try.func18, Try.ntmps18
    go_wp2_with (first | (go_at_call 16; refine hg.mono ?_; rintro e w' ⟨rfl, rfl⟩) | (at_delete; refine wpList_delete_own _ rfl _ _ 50 3 rfl 3 kint Try.underlying50 _ b n (dat l) rfl h2 _ _ rfl (keyOf_int_mk Try.underlying3 hk) ?_; intro w1 hown1 hturn1))
    go_ret
    rw [dat_del] at hown1
    exact ⟨rfl, ⟨hturn1.grown.cell h1 (by simp [hne]), hown1, rem_srt k h3, by omega, fun q hq => h5 q (List.mem_filter.1 hq).1⟩, hturn1.grown⟩

set_option maxHeartbeats 400000 in
theorem del_nil_any (k : Int) (w : World) : Calls Try.prog 18 #[.pointer none, .int .i64 k] w fun e w' => e = .returned (.bool false) ∧ w = w' := by
  have hg := get_nil_any k w
  go_enter Try.func18, Try.ntmps18
  go_wp2_with (go_at_call 16; refine hg.mono ?_; rintro e w' ⟨rfl, rfl⟩)
  go_ret
  exact ⟨rfl, rfl⟩

end Go.Proofs.Ytjahfjfanaocpaa
