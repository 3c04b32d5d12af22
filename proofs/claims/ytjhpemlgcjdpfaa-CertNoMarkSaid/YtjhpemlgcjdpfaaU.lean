/- who voted -/
import Derived.Test.YtjhpemlgcjdpfaaQ
import Derived.Test.YtjhpemlgcjdpfaaShelf
import Derived.Sort.OwnSortedInts
import Derived.Sort.QuietIn
namespace Go.Proofs.Ytjhpemlgcjdpfaa
open Go.RowKit Go.Sort
attribute [local go_sem] Oper.semAt_some

section
variable {P : Program} {ops : Array Oper} {rest : List Oper} {o : Oper} {a : Act} {w : World} {Q : Exit → Act → World → Prop}
theorem wpListIn_append_rowAt {F : Fence} {fm : Nat} (hw : Region.wanted o (yielded ops a.tmps) = true) (sv x : Operand) (t : TypeId)
    (ho : o.op = .call { callee := .builtin .append, args := #[sv, x], argTypes := #[t, t] })
    (base : Nat) (e : TypeId) (i : TypeInfo) (z : Value) (size bytes : Nat) (ht : P.underlying t = some (.slice e)) (hi : P.info? e = some i) (hz : i.zero = some z)
    (hsize : i.size = size) (hby : i.bytes = bytes) (hzs : z.cells.size = size) (hsz : 0 < size)
    (v : Value) (n : Nat) (xs : List Value) (hv : a.eval sv = v) (hown : w.ownsRow base e size v n xs)
    (e' : TypeId) (s : Value) (m : Nat) (news : List Value) (hx : a.eval x = s) (hs : RowAt w e' s m news) (hl : news.length = m * size) (h1 : ∀ u ∈ news, u.oneCell' = true)
    (h63 : n + m ≤ maxLen) (hbytes : (n + m) * bytes ≤ 140737488355328) (hbase : base ≤ w.heap.size)
    (h : ∀ a' cap' w', w'.ownsRow base e size (.slice a' (n + m) cap') (n + m) (xs ++ news) → w.grownBy w' v.ownBlock → ((Value.slice a' (n + m) cap').ownBlock = v.ownBlock ∨ (Value.slice a' (n + m) cap').ownBlock = some w.heap.size) →
      wpListIn F fm P ops Q rest (a.put o.dst (.slice a' (n + m) cap')) w') : wpListIn F fm P ops Q (o :: rest) a w := by
  obtain ⟨a', cap', w', hr, h2, h3, h4⟩ := run_append_rowAt (P := P) w base t o.type e i z size bytes ht hi hz hsize hby hzs hsz v n xs hown e' s m news hs hl h1 h63 hbytes hbase
  refine wpListIn_yield (v := .slice a' (n + m) cap') (w' := w') hw (by rw [ho]; nofun) (by simp [Oper.about, ho, resolve, Target.leads, Sem.run_pure]) ?_ (h a' cap' w' h2 h3 h4)
  unfold execOp
  simp only [ho, resolve, invoke, builtin, Sem.run_bind, Sem.run_pure, Result.andThen_ok, List.map_toArray, List.map_cons, List.map_nil, hv, hx, hr]
end

theorem infoP3 : (Try.prog.info? 3).map (fun i => (i.zero, i.size, i.bytes)) = some (some (.int .i64 0), 1, 8) := by kernel_rfl
theorem RowAt.heap {w W : World} {e : TypeId} {v : Value} {n : Nat} {xs : List Value} (h : RowAt w e v n xs) (hb : ∀ b, b < w.heap.size → W.heap[b]? = w.heap[b]?) : RowAt W e v n xs := by
  rcases h with h | ⟨b, off, cap, cur, fr, rfl, h1, h2, h3, h4⟩
  · exact .inl h
  · exact .inr ⟨b, off, cap, cur, fr, rfl, h1, h2, (hb b (Array.getElem?_eq_some_iff.1 h3).1).trans h3, h4⟩
theorem RingOk.heap {w W : World} {r : Value} {n : Nat} {key : Nat → List Int} (h : RingOk w r n key) (hb : ∀ b, b < w.heap.size → W.heap[b]? = w.heap[b]?) : RingOk W r n key := by
  rcases h with h | ⟨rb, h1, h2⟩
  · exact .inl h
  · obtain ⟨kb, cap, cur, g1, g2, g3⟩ := h2.ex
    exact .inr ⟨rb, h1, ⟨⟨kb, cap, cur, (hb _ (Array.getElem?_eq_some_iff.1 g1).1).trans g1, (hb _ (Array.getElem?_eq_some_iff.1 g2).1).trans g2, g3⟩, h2.len, h2.small⟩⟩
theorem RingOk.ptr {w : World} {r : Value} {n : Nat} {key : Nat → List Int} (h : RingOk w r n key) : ∃ rp, r = .pointer rp := by
  rcases h with ⟨h, _⟩ | ⟨rb, h, _⟩ <;> exact ⟨_, h⟩

def hasI (l : List Int) (x : Int) : Bool := l.contains x
theorem contains_own {w : World} {base : Nat} {v : Value} {l : List Int} (h : w.ownsRow base 3 1 v l.length (zI l)) (hl : l.length ≤ 9223372036854775807) (x : Int) :
    Calls Try.prog 56 #[v, .int .i64 x] w fun e w' => e = .returned (.bool (hasI l x)) ∧ w = w' := by
  rcases h.2 with ⟨rfl, h0⟩ | ⟨g, cap, cur, rfl, h1, h2, h3, h4, h5, h6⟩
  · obtain rfl : l = [] := List.eq_nil_of_length_eq_zero h0
    exact (Try.slices_Contains_int_empty none 0 x w).mono fun e w' ⟨he, hw⟩ => ⟨he, hw.symm⟩
  · refine (Try.slices_Contains_int g 0 l.length cap l x w (Nat.le_refl _) hl (fun j hj => ?_)).mono fun e w' ⟨he, hw⟩ => ⟨by rw [he, List.take_length]; rfl, hw.symm⟩
    rw [cell_of_block h2]
    have h7 : (cur.toList.take (l.length * 1))[j]? = (zI l)[j]? := by rw [h6]
    rw [List.getElem?_take_of_lt (by omega)] at h7
    simpa [hj] using h7

theorem own_turn {A B : World} {B0 base : Nat} {e : TypeId} {size : Nat} {v : Value} {n : Nat} {xs : List Value} (h : A.ownsRow base e size v n xs) (hr : RecTurn B0 A B) : B.ownsRow base e size v n xs := by
  refine ⟨h.1, ?_⟩
  rcases h.2 with h' | ⟨g, cap, cur, hv, hg, hc, rest⟩
  · exact .inl h'
  · exact .inr ⟨g, cap, cur, hv, hg, hr.block _ _ hc (.inr rfl), rest⟩
theorem below_turn {k B0 : Nat} {w A B : World} (h : Below k w A) (hr : RecTurn B0 A B) (hk : k ≤ w.heap.size ∧ k ≤ B0) : Below k w B := by
  refine ⟨hr.os.trans h.os, hr.tape.trans h.tape, hr.output.trans h.output, Nat.le_trans h.size hr.size, fun b hb => ?_⟩
  have h1 := h.block b hb
  have hlt : b < w.heap.size := by omega
  rw [Array.getElem?_eq_getElem hlt] at h1 ⊢
  exact hr.block b _ h1 (.inl (by omega))

/-- each once -/
def addU (acc : List Int) (x : Int) : List Int := if hasI acc x then acc else acc ++ [x]
def uniqL (l : List Int) : List Int := l.foldl addU []
theorem uniq_snoc (l : List Int) (x : Int) : uniqL (l ++ [x]) = addU (uniqL l) x := by simp [uniqL]
theorem addU_len (acc : List Int) (x : Int) : (addU acc x).length ≤ acc.length + 1 := by unfold addU; split <;> simp
theorem uniq_len (l : List Int) : (uniqL l).length ≤ l.length := by
  have : ∀ (l acc : List Int), (l.foldl addU acc).length ≤ acc.length + l.length := by
    intro l
    induction l with
    | nil => intro acc; simp
    | cons x r ih => intro acc; have := ih (addU acc x); have := addU_len acc x; simp only [List.foldl_cons, List.length_cons]; omega
  simpa [uniqL] using this l []
/-- who voted so -/
def whoL (n : Nat) (key : Nat → List Int) (kind slot view : Int) (sum : List Int) (l : List VoteM) : List Int := (uniqL (toldF n key kind slot view sum (l.take 10))).mergeSort fun x y => decide (x ≤ y)
theorem told_len (n : Nat) (key : Nat → List Int) (kind slot view : Int) (sum : List Int) (l : List VoteM) : (toldF n key kind slot view sum l).length ≤ l.length := by
  simp only [toldF, List.length_map]; exact List.length_filter_le _ _

set_option maxRecDepth 1000000 in
set_option maxHeartbeats 4000000 in
theorem who_any (w : World) (r : Value) (n : Nat) (key : Nat → List Int) (h : RingOk w r n key) (v : Value) (e : TypeId) (l : List VoteM) (hV : VotesAt w e v l) (kind slot view : Int) (sum : List Int) (hsum : sum.length = 32) :
    Calls Try.prog 23 #[r, v, .int .i64 kind, .int .i64 slot, .int .i64 view, .agg (zB sum).toArray] w fun ee w' => ∃ v', ee = .returned v' ∧ RowAt w' 3 v' (whoL n key kind slot view sum l).length (zI (whoL n key kind slot view sum l)) ∧ Below w.heap.size w w' := by
  obtain ⟨rp, rfl⟩ := h.ptr
  obtain ⟨va, vc, rfl, hc1, hc2⟩ := hV.row.shape
  obtain ⟨i0, hi, hz0, hz1, hz2⟩ := info_parts infoP3
  obtain ⟨xs, hxs⟩ : ∃ xs, xs = toldF n key kind slot view sum (l.take 10) := ⟨_, rfl⟩
  have hx10 : xs.length ≤ 10 := by rw [hxs]; exact Nat.le_trans (told_len n key kind slot view sum (l.take 10)) (List.length_take_le _ _)
  have hwho : whoL n key kind slot view sum l = (uniqL xs).mergeSort (fun x y => decide (x ≤ y)) := by rw [hxs]; rfl
  rw [hwho]
  have Hxs := Lib.hid hxs
  clear hwho hxs
  refine (callsIn_wide (n := 10)).1 ?_
  refine callsIn_of_wp_marks Try.func23 rfl trivial ?_ rfl
  simp only [Try.ntmps23, List.size_toArray, List.length_cons, List.length_nil, Nat.reduceAdd, Nat.reduceSub, Array.replicate_succ, Array.replicate_zero, List.push_toArray, List.append_toArray, List.nil_append, List.cons_append]
  have f55 : Fence.wide.fn 55 := trivial
  have f56 : Fence.wide.fn 56 := trivial
  have f57 : Fence.wide.fn 57 := trivial
  have e1 : ((w.alloc (.cells (zB sum).toArray 24)).alloc (.cells #[.slice none 0 0] 36)).heap[w.heap.size]? = some (.cells (zB sum).toArray 24 (0, 0)) := (Below.heap_alloc _ _ _ (by simp)).trans (World.alloc_heap_new w _)
  have e2 : ((w.alloc (.cells (zB sum).toArray 24)).alloc (.cells #[.slice none 0 0] 36)).heap[w.heap.size + 1]? = some (.cells #[.slice none 0 0] 36 (0, 0)) := heap_new_at _ _ _ (by simp)
  have hB0 : Below w.heap.size w ((w.alloc (.cells (zB sum).toArray 24)).alloc (.cells #[.slice none 0 0] 36)) := ((Below.refl _ _).alloc (Nat.le_refl _) _).alloc (by simp) _
  have hs24 : (Try.prog.info? 24).map (·.size) = some (zB sum).length := by rw [info24]; simp [hsum]
  have Hs24 := Lib.hid hs24
  have hz0s : ((w.alloc (.cells (zB sum).toArray 24)).alloc (.cells #[.slice none 0 0] 36)).heap.size = w.heap.size + 2 := by simp
  clear hs24
  gi_wp2_with (first
    | (refine wpListIn_loadG 24 (.tmp 11) (by with_reducible rfl) (by rfl) w.heap.size 0 ?_ (zB sum) (.array 32 5) ?_ Try.underlying24 rfl ?_ ?_; rfl; exact (range_of e1 0 _ (fun j _ => by simp)); exact Hs24.out)
    | (gi_at_call 55; refine (callsIn_wide.2 (on_any _ rp va l.length vc kind slot view sum)).mono ?_; rintro ee w1 ⟨rfl, hO1, hB1, hz1'⟩))
  rw [hz0s] at hO1 hB1 hz1'
  have hs1 : w1.heap.size = w.heap.size + 8 := by omega
  have hB1w : Below w.heap.size w w1 := hB0.trans (hB1.mono (by omega))
  have hwb : w1.heap[w.heap.size + 1]? = some (.cells #[.slice none 0 0] 36 (0, 0)) := (hB1.block _ (by omega)).trans e2
  have hseq := on1_iter w1 (w.heap.size + 2) (w.heap.size + 2 + 1) (w.heap.size + 2 + 2) (w.heap.size + 2 + 3) (w.heap.size + 2 + 4) (w.heap.size + 2 + 5) (.pointer rp) (.slice va l.length vc) n key e l kind slot view sum (fun b => b = w.heap.size + 1) hsum (by rintro b rfl; omega)
    (fun W hW => ⟨⟨(hW _ (by omega) (by omega)).trans hO1.h0, (hW _ (by omega) (by omega)).trans hO1.h1, (hW _ (by omega) (by omega)).trans hO1.h2, (hW _ (by omega) (by omega)).trans hO1.h3, (hW _ (by omega) (by omega)).trans hO1.h4, (hW _ (by omega) (by omega)).trans hO1.h5⟩,
      ⟨hV.row.heap (fun b hb => (hW b (by omega) (by omega)).trans (hB1w.block b hb)), hV.ok⟩, h.heap (fun b hb => (hW b (by omega) (by omega)).trans (hB1w.block b hb))⟩)
  rw [← Hxs.out] at hseq
  clear hO1 hB1 e1 e2 hB0 hz0s
  refine range_law (gf := 77) rfl (enters_of Try.func77 (by kernel_rfl) rfl) hseq (by rintro b rfl; omega) (fun _ => rfl)
    (fun M pre W => ∃ wv, W.heap[w.heap.size + 1]? = some (.cells #[wv] 36 (0, 0)) ∧ W.ownsRow M 3 1 wv (uniqL pre).length (zI (uniqL pre)) ∧ Below w.heap.size w W ∧ M ≤ W.heap.size ∧ w.heap.size + 8 ≤ M)
    (fun _ _ _ => False) ?hI ?hIx ?h0 (fun x => { tmps := #[.pointer rp, .slice va l.length vc, .int .i64 kind, .int .i64 slot, .int .i64 view, .agg (zB sum).toArray, undef, undef, undef, undef, undef,
          .pointer (some ⟨w.heap.size, 0, none⟩), .slice none 0 0, .pointer (some ⟨w.heap.size + 1, 0, none⟩), .int .i64 x, .pointer rp,
          .slice va l.length vc, .int .i64 kind, .int .i64 slot, .int .i64 view, .agg (zB sum).toArray,
          .func (.func 77) #[] #[.pointer (some ⟨w.heap.size + 2 + 1, 0, none⟩), .pointer (some ⟨w.heap.size + 2 + 2, 0, none⟩), .pointer (some ⟨w.heap.size + 2 + 3, 0, none⟩), .pointer (some ⟨w.heap.size + 2 + 4, 0, none⟩), .pointer (some ⟨w.heap.size + 2 + 5, 0, none⟩), .pointer (some ⟨w.heap.size + 2, 0, none⟩)],
          .int .i64 x, undef, undef, undef, undef, undef, undef, undef, undef, undef, undef, undef], defers := [] }) ?assign ?body ?done ?stop
  case hI =>
    rintro M pre A B ⟨wv, h1, h2, h3, h4, h5⟩ hr
    exact ⟨wv, hr.block _ _ h1 (.inl (by omega)), own_turn h2 hr, below_turn h3 hr (by omega), Nat.le_trans h4 hr.size, h5⟩
  case hIx => exact fun _ _ _ _ h _ => h
  case h0 =>
    intro A hA
    have hs := hA.size
    exact ⟨_, (hA.block _ (by omega)).trans hwb, ⟨rfl, .inl ⟨rfl, rfl⟩⟩, hB1w.trans (hA.mono (by omega)), Nat.le_refl _, by omega⟩
  case assign =>
    intro lr x W K hK
    gi_wp2
    exact hK
  case body =>
    rintro lr M pre x W hM hMW ⟨wv, hw1, hown, hBW, hMl, hM8⟩ hpre
    have hpl : pre.length + 1 ≤ 10 := by have := hpre.length_le; simp at this; omega
    have hul := uniq_len pre
    have hsn := uniq_snoc pre x
    have Hsn := Lib.hid hsn
    clear hsn hseq hpre hwb hB1w h hV
    have cw := cell1 hw1
    generalize hU : uniqL pre = U at *
    clear hU
    cases hc : hasI U x
    · have hge := own_ge hown
      gi_wp2_with (first
        | (gi_at_call 56; refine (callsIn_wide.2 (contains_own hown (by omega) x)).mono ?_; rintro ee w5 ⟨rfl, rfl⟩)
        | (refine wpListIn_append_rowAt (by rfl) (.tmp 27) (.tmp 29) 36 (by with_reducible rfl) M 3 i0 (.int .i64 0) 1 8 Try.underlying36 hi hz0 hz1 hz2 rfl (by decide) wv _ _ rfl (hown.alloc _) 3 _ 1 [.int .i64 x] rfl (row_new W 3 _ W.heap.size rfl) rfl (fun u hu => by simp at hu; subst hu; rfl) (by unfold maxLen; omega) (by omega) (by simp; omega) ?_; intro a' cap' w' hown' hgr' hbl'; have hb' := (hgr'.block (w.heap.size + 1) (by simp; omega) (fun h => by have := hge _ h.symm; omega)).trans ((Below.heap_alloc _ _ _ (by omega)).trans hw1); have hcc := cell1 hb'; have hff := free_of_block hb' 0))
      have hge' := own_ge hown'
      refine ⟨Keep.setCell (T := fun b => b = w.heap.size + 1) (((Keep.refl _ _ _).alloc hMl _).grown hgr' (by simp; omega) (fun r hr hrm => by have := hge _ hr; omega)) ⟨w.heap.size + 1, 0, none⟩ (fun _ => rfl) _, _, heap_setCell_same hb' _, ?_, ?_, ?_, hM8⟩
      · rw [Hsn.out, addU, hc]
        have h3 := own_keep (w' := w'.setCell ⟨w.heap.size + 1, 0, none⟩ (.slice a' (U.length + 1) cap')) hown' (fun b hb => Below.heap_setCell _ _ _ _ (fun e => by have := hge' b hb; simp at e; omega))
        simpa using h3
      · exact ((hBW.alloc (by omega) _).grown hgr' (by simp; omega) (fun j hj => by have := hge _ hj; omega)).setCell (by simp only []; omega) _
      · have := hgr'.size; simp [World.setCell] at this ⊢; omega
    · gi_wp2_with (gi_at_call 56; refine (callsIn_wide.2 (contains_own hown (by omega) x)).mono ?_; rintro ee w5 ⟨rfl, rfl⟩)
      exact ⟨Keep.refl _ _ _, wv, hw1, by rw [Hsn.out, addU, hc]; exact hown, hBW, hMl, hM8⟩
  case stop => exact fun _ _ _ _ _ _ h _ => h.elim
  case done =>
    rintro D M W hD ⟨wv, hw1, hown, hBW, hMl, hM8⟩ hK
    have cw := cell1 hw1
    have hul := uniq_len xs
    clear hseq hwb hB1w h hV
    generalize hU : uniqL xs = U at *
    have HU := Lib.hid hU
    clear hU
    rcases hown.2 with ⟨rfl, h0⟩ | ⟨g, cap, cur, rfl, hbase, hb, h1, h2, h3, h4⟩
    · obtain rfl : U = [] := List.eq_nil_of_length_eq_zero h0
      have hso := (Try.slices_Sort_int_none none 0 W).mono (fun e w' (h : e = .returned (.tuple #[]) ∧ w' = W) => (⟨h.1, h.2.symm⟩ : e = .returned (.tuple #[]) ∧ W = w'))
      gi_wp2_with (gi_at_call 57; refine (callsIn_wide.2 hso).mono ?_; rintro ee w5 ⟨rfl, rfl⟩)
      refine ⟨by simp, .inl ⟨_, _, rfl, run_takeDeferred hK, ?_⟩⟩
      have hT := RecTurn.putObj (B0 := w1.heap.size) W (.deferred none) hK rfl hD
      refine ⟨.slice none 0 0, ?_, _, rfl, ?_, below_turn hBW hT (by omega)⟩
      · simp [results, Try.f23, go_sem]
      · rw [HU.out]
        rw [List.mergeSort_nil]
        exact .inl ⟨rfl, rfl, none, 0, rfl, Nat.zero_le _, fun _ => rfl⟩
    · have hgl := (Array.getElem?_eq_some_iff.1 hb).1
      have hH := holds_of_blockI hb (by simpa using h4)
      have hso := Try.slices_Sort_int g 0 cap U W hH hgl (by omega)
      have hDg : D ≠ g := fun e => by subst e; rw [hb] at hK; cases hK
      clear hH
      gi_wp2_with (gi_at_call 57; refine (callsIn_wide.2 hso).mono ?_; rintro ee w5 ⟨rfl, nn, os, rfl⟩; have hgs := grownBy_sortedI (w := W) (g := g) (n := nn) (os := os) (U.mergeSort fun x y => decide (x ≤ y)).toArray; have hos := ownsRow_sortedI (n := nn) (os := os) (ts := U.mergeSort fun x y => decide (x ≤ y)) (by simp) hbase hb h1 h2 h3; have hw2 := (hgs.block (w.heap.size + 1) (by omega) (fun e => by cases e; omega)).trans hw1; have cw2 := cell1 hw2)
      have hK2 := (hgs.block D (Array.getElem?_eq_some_iff.1 hK).1 (fun e => by cases e; exact hDg rfl)).trans hK
      refine ⟨by simp, .inl ⟨_, _, rfl, run_takeDeferred hK2, ?_⟩⟩
      have hT := RecTurn.putObj (B0 := w1.heap.size) _ (.deferred none) hK2 rfl hD
      refine ⟨.slice (some ⟨g, 0, none⟩) U.length cap, ?_, _, rfl, ?_, below_turn (hBW.grown hgs (by omega) (fun j hj => by cases hj; omega)) hT (by omega)⟩
      · simp [results, Try.f23, go_sem]
      · have h6 := RowAt.of_owns (own_turn hos hT)
        rw [HU.out, show (U.mergeSort fun x y => decide (x ≤ y)).length = U.length by simp]
        exact h6
end Go.Proofs.Ytjhpemlgcjdpfaa
