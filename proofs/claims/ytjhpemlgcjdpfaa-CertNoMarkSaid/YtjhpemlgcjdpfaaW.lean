/- what is known of votes -/
import Derived.Test.YtjhpemlgcjdpfaaV
namespace Go.Proofs.Ytjhpemlgcjdpfaa
open Go.RowKit

section
variable {P : Program} {ops : Array Oper} {rest : List Oper} {o : Oper} {a : Act} {w w' : World} {Q : Exit → Act → World → Prop}
theorem wpList_yieldG (hw : Region.wanted o (yielded ops a.tmps) = true) {v : Value} (hy : (execOp a.eval o).run P w = .ok (.value v) w') (h : wpList P ops Q rest (a.put o.dst v) w') : wpList P ops Q (o :: rest) a w := by
  unfold wpList
  rw [if_pos hw]
  unfold Oper.wp
  rw [hy]
  exact .inl h
theorem exec_buildT (t : TypeId) (ps : List (Nat × Operand)) (ho : o.op = .build t ps.toArray) (cells : Array Value) (hf : P.built t (ps.map fun p => (p.1, a.eval p.2)) = some cells) :
    (execOp a.eval o).run P w = .ok (.value (.agg cells)) w := by
  have hr := run_build (P := P) w t (ps.map fun p => (p.1, a.eval p.2)).toArray cells hf
  unfold execOp
  simp only [ho, Sem.run_bind, List.map_toArray, hr, Result.andThen_ok, Sem.run_pure]
theorem wpList_store_any (ty : TypeId) (x y : Operand) (ho : o.op = .store ty x y) (hw : Region.wanted o (yielded ops a.tmps) = true)
    (g : Nat) (cells : Array Value) (hx : a.eval x = .pointer (some ⟨g, 0, none⟩)) (hy : a.eval y = .agg cells)
    (t : TypeId) (old : Array Value) (hg : w.heap[g]? = some (.cells old t (0, 0))) (hi : (P.info? ty).map (·.size) = some cells.size)
    (hold : old.size = cells.size) (h1 : cells.all (·.oneCell') = true)
    (h : ∀ w', w.grownBy w' (some g) → w'.heap[g]? = some (.cells cells t (0, 0)) → wpList P ops Q rest (a.put o.dst undef) w') : wpList P ops Q (o :: rest) a w := by
  unfold wpList
  rw [if_pos hw]
  unfold Oper.wp
  rw [exec_store_row ty x y ho g cells hx hy t old hg hi hold h1]
  exact .inl (h _ ⟨rfl, rfl, rfl, by simp, fun k _ hk => setRow_other w g k _ (fun e => hk (by rw [e]))⟩ (setRow_heap w g old cells t (0, 0) hg))
theorem wpList_buildG (t : TypeId) (ps : List (Nat × Operand)) (ho : o.op = .build t ps.toArray) (hw : Region.wanted o (yielded ops a.tmps) = true) (cells : Array Value) (hf : P.built t (ps.map fun p => (p.1, a.eval p.2)) = some cells)
    (h : wpList P ops Q rest (a.put o.dst (.agg cells)) w) : wpList P ops Q (o :: rest) a w := wpList_yieldG hw (exec_buildT t ps ho cells hf) h
theorem wpList_buildSliceG (t e : TypeId) (len : Nat) (ps : List (Nat × Operand)) (ho : o.op = .buildSlice t len ps.toArray) (hw : Region.wanted o (yielded ops a.tmps) = true) (cells : Array Value) (ie : TypeInfo) (z : Value) (size : Nat) (zs : Array Value)
    (hu : P.underlying t = some (.slice e)) (hie : P.info? e = some ie) (hz : ie.zero = some z) (hsz : ie.size = size) (hsmall : ¬ len * size > 2 ^ 24) (hpos : ¬ len * size = 0) (hzs : (Array.range (len * size)).map (z.cells[· % z.cells.size]!) = zs)
    (hf : Instr.fill (fun i => some (i * size, size)) zs (ps.map fun p => (p.1, a.eval p.2)) = some cells)
    (h : wpList P ops Q rest (a.put o.dst (.slice (some ⟨w.heap.size, 0, none⟩) len len)) (w.alloc (.cells cells e))) : wpList P ops Q (o :: rest) a w :=
  wpList_yieldG hw (exec_buildSlice t e len ps ho cells ie z size zs hu hie hz hsz hsmall hpos hzs hf) h
end

theorem infoP26 : (Try.prog.info? 26).map (fun i => (i.zero, i.size, i.bytes)) = some (some (.agg VoteM.nil.arr), 68, 96) := by kernel_rfl
theorem zfillV1 : (Array.range (1 * 68)).map ((Value.agg VoteM.nil.arr).cells[· % (Value.agg VoteM.nil.arr).cells.size]!) = (votesC [VoteM.nil]).toArray := by kernel_rfl
theorem zfillV2 : (Array.range (2 * 68)).map ((Value.agg VoteM.nil.arr).cells[· % (Value.agg VoteM.nil.arr).cells.size]!) = (votesC [VoteM.nil, VoteM.nil]).toArray := by kernel_rfl
theorem zfillV3 : (Array.range (3 * 68)).map ((Value.agg VoteM.nil.arr).cells[· % (Value.agg VoteM.nil.arr).cells.size]!) = (votesC [VoteM.nil, VoteM.nil, VoteM.nil]).toArray := by kernel_rfl
theorem votesC_app (a b : List VoteM) : votesC (a ++ b) = votesC a ++ votesC b := List.flatMap_append
theorem fillV (pre post : List VoteM) (x y : VoteM) (hx : x.Ok) (hy : y.Ok) (hp : ∀ u ∈ pre, u.Ok) (rest : List (Nat × Value)) (i : Nat) (hi : pre.length = i) :
    Instr.fill (fun i => some (i * 68, 68)) (votesC (pre ++ x :: post)).toArray ((i, .agg y.arr) :: rest) = Instr.fill (fun i => some (i * 68, 68)) (votesC (pre ++ y :: post)).toArray rest := by
  subst hi
  have e1 : ∀ z : VoteM, votesC (pre ++ z :: post) = votesC pre ++ (z.cells ++ votesC post) := fun z => by rw [votesC_app]; rfl
  have hl := votesC_length pre hp
  rw [e1, e1, fill_part (fun i => some (i * 68, 68)) _ y.cells pre.length (pre.length * 68) 68 (.agg y.arr) rest rfl rfl (VoteM.length hy) (by simp [hl, VoteM.length hx])]
  rw [splice_mid (votesC pre) x.cells y.cells (votesC post) (pre.length * 68) hl (by rw [VoteM.length hx, VoteM.length hy])]
theorem fillV1 (a : VoteM) (ha : a.Ok) : Instr.fill (fun i => some (i * 68, 68)) (votesC [VoteM.nil]).toArray [(0, .agg a.arr)] = some (votesC [a]).toArray := by
  rw [show [VoteM.nil] = [] ++ VoteM.nil :: [] from rfl, fillV [] [] VoteM.nil a ok_nil ha (by simp) _ 0 rfl]
  rfl
theorem fillV2 (a b : VoteM) (ha : a.Ok) (hb : b.Ok) : Instr.fill (fun i => some (i * 68, 68)) (votesC [VoteM.nil, VoteM.nil]).toArray [(0, .agg a.arr), (1, .agg b.arr)] = some (votesC [a, b]).toArray := by
  rw [show [VoteM.nil, VoteM.nil] = [] ++ VoteM.nil :: [VoteM.nil] from rfl, fillV [] [VoteM.nil] VoteM.nil a ok_nil ha (by simp) _ 0 rfl,
    show [] ++ a :: [VoteM.nil] = [a] ++ VoteM.nil :: [] from rfl, fillV [a] [] VoteM.nil b ok_nil hb (by simpa using ha) _ 1 rfl]
  rfl
theorem fillV3 (a b c : VoteM) (ha : a.Ok) (hb : b.Ok) (hc : c.Ok) : Instr.fill (fun i => some (i * 68, 68)) (votesC [VoteM.nil, VoteM.nil, VoteM.nil]).toArray [(0, .agg a.arr), (1, .agg b.arr), (2, .agg c.arr)] = some (votesC [a, b, c]).toArray := by
  rw [show [VoteM.nil, VoteM.nil, VoteM.nil] = [] ++ VoteM.nil :: [VoteM.nil, VoteM.nil] from rfl, fillV [] [VoteM.nil, VoteM.nil] VoteM.nil a ok_nil ha (by simp) _ 0 rfl,
    show [] ++ a :: [VoteM.nil, VoteM.nil] = [a] ++ VoteM.nil :: [VoteM.nil] from rfl, fillV [a] [VoteM.nil] VoteM.nil b ok_nil hb (by simpa using ha) _ 1 rfl,
    show [a] ++ b :: [VoteM.nil] = [a, b] ++ VoteM.nil :: [] from rfl, fillV [a, b] [] VoteM.nil c ok_nil hc (by simp [ha, hb]) _ 2 rfl]
  rfl
theorem votesAt_new {w : World} {b m : Nat} {l : List VoteM} (h : w.heap[b]? = some (.cells (votesC l).toArray 26 (0, 0))) (hok : ∀ x ∈ l, x.Ok) (hm : l.length = m) (hm2 : m ≤ maxLen) : VotesAt w 26 (.slice (some ⟨b, 0, none⟩) m m) l :=
  ⟨by rw [hm]; exact .inr ⟨b, 0, m, _, (0, 0), rfl, Nat.le_refl _, hm2, h, fun j hj => by simp⟩, hok⟩

/-- an array that begins with a byte -/
def s1 : List Int := 1 :: List.replicate 31 0
def s3 : List Int := 3 :: List.replicate 31 0
theorem built24_1 : Try.prog.built 24 [(0, .int .u8 1)] = some (zB s1).toArray := by kernel_rfl
theorem built24_3 : Try.prog.built 24 [(0, .int .u8 3)] = some (zB s3).toArray := by kernel_rfl
theorem s1_len : s1.length = 32 := rfl
theorem s3_len : s3.length = 32 := rfl

/-! ### the plain law -/
theorem voted_cast {n : Nat} {key : Nat → List Int} {kind slot view : Int} {sum : List Int} {frm : Int} (h : 0 ≤ frm ∧ frm < n) : voted n key kind slot view sum (castV n key kind slot view sum frm) = true := by
  unfold voted
  rw [goodB_cast, decide_eq_true h]
  simp [castV]
theorem known_who (n : Nat) (key : Nat → List Int) (kind slot view : Int) (sum : List Int) (hn : 0 < n) : whoL n key kind slot view sum [castV n key kind slot view sum 0, castV n key kind slot view sum 0] = [0] := by
  have h := voted_cast (n := n) (key := key) (kind := kind) (slot := slot) (view := view) (sum := sum) (frm := 0) ⟨Int.le_refl _, by omega⟩
  have ht : toldF n key kind slot view sum ([castV n key kind slot view sum 0, castV n key kind slot view sum 0].take 10) = [0, 0] := by
    simp only [toldF, List.take_succ_cons, List.take_nil, List.filter_cons, h, if_true, List.filter_nil, List.map_cons, List.map_nil]
    rfl
  rw [whoL, ht, show uniqL [0, 0] = [0] by decide, List.mergeSort_singleton]
theorem known_meets (key : Nat → List Int) (kind slot view : Int) (sum : List Int) : meetsB 4 key kind slot view sum [castV 4 key kind slot view sum 0, castV 4 key kind slot view sum 0, castV 4 key kind slot view sum 0] = false := by
  have h := voted_cast (n := 4) (key := key) (kind := kind) (slot := slot) (view := view) (sum := sum) (frm := 0) ⟨Int.le_refl _, by decide⟩
  have ht : toldF 4 key kind slot view sum ([castV 4 key kind slot view sum 0, castV 4 key kind slot view sum 0, castV 4 key kind slot view sum 0].take 10) = [0, 0, 0] := by
    simp only [toldF, List.take_succ_cons, List.take_nil, List.filter_cons, h, if_true, List.filter_nil, List.map_cons, List.map_nil]
    rfl
  rw [meetsB, whoL, ht, List.length_mergeSort, show uniqL [0, 0, 0] = [0] by decide]
  decide

set_option maxRecDepth 1000000 in
set_option maxHeartbeats 4000000 in
theorem known_any (w : World) : Calls Try.prog 27 #[] w fun ee w' => ee = .returned (.bool true) ∧ Below w.heap.size w w' := by
  obtain ⟨i26, hi26, hz260, hz261, hz262⟩ := info_parts infoP26
  obtain ⟨vt, hvt⟩ : ∃ vt, vt = castV 4 (keyB s1) 2 1 2 s3 0 := ⟨_, rfl⟩
  have hvo : vt.Ok := by rw [hvt]; exact castV_ok _ _ _ _ _ _ _ s3_len
  have hwho := known_who 4 (keyB s1) 2 1 2 s3 (by decide)
  have hmt := known_meets (keyB s1) 2 1 2 s3
  have hgd : goodB 4 (keyB s1) vt = true := by rw [hvt, goodB_cast]; rfl
  rw [← hvt] at hwho hmt
  have Hvt := Lib.hid hvt
  have Hwho := Lib.hid hwho
  have Hmt := Lib.hid hmt
  have hx68 : (Try.prog.info? 26).map (·.size) = some vt.cells.length := by rw [info26, VoteM.length hvo]
  have hx26 : (Try.prog.info? 26).map (·.size) = some vt.arr.size := by rw [info26]; simp [VoteM.arr, VoteM.length hvo]
  have hxz : VoteM.nil.arr.size = vt.arr.size := by simp [VoteM.arr, VoteM.length hvo, VoteM.length ok_nil]
  have hx1 : vt.arr.all (·.oneCell') = true := all_oneCell_toArray VoteM.one
  have Hx68 := Lib.hid hx68
  have Hx26 := Lib.hid hx26
  have Hxz := Lib.hid hxz
  have Hx1 := Lib.hid hx1
  have hnn : Hid (nodesN 4 = 4) := rfl
  clear hvt hwho hmt hx68 hx26 hxz hx1
  go_enter Try.func27, Try.ntmps27
  go_wp2_with (first
    | (refine wpList_buildG 24 [(0, .const (.int .u8 1))] (by with_reducible rfl) (by rfl) (zB s1).toArray ?_ ?_; exact built24_1)
    | (go_at_call 16; refine (new_any _ 4 s1 s1_len).mono ?_; rintro ee w1 ⟨rfl, hr1, hB1⟩; rw [hnn.out] at hr1)
    | (refine wpList_buildG 24 [(0, .const (.int .u8 3))] (by with_reducible rfl) (by rfl) (zB s3).toArray ?_ ?_; exact built24_3)
    | (go_at_call 18; refine (cast_any _ (w.heap.size + 1) 4 (keyB s1) hr1 2 1 2 0 s3 s3_len).mono ?_; rintro ee w2 ⟨rfl, hB2⟩; rw [← Hvt.out]; have hr2 := hr1.below hB2; have hn2 := World.alloc_heap_new w2 (.cells VoteM.nil.arr 26); have hA2 : Below w2.heap.size w2 (w2.alloc (.cells VoteM.nil.arr 26)) := (Below.refl _ _).alloc (Nat.le_refl _) _)
    | (refine wpList_allocT rfl 26 (by with_reducible rfl) VoteM.nil.arr zero26 ?_; try simp only)
    | (refine wpList_store_any 26 (.tmp 2) (.tmp 10) (by with_reducible rfl) (by rfl) w2.heap.size vt.arr ?_ ?_ 26 VoteM.nil.arr ?_ ?_ ?_ ?_ ?_; rfl; rfl; exact hn2; exact Hx26.out; exact Hxz.out; exact Hx1.out; intro w3 hg3 hc3; have hB3 : Below w2.heap.size w2 w3 := hA2.grown hg3 (by simp) (fun j hj => by cases hj; exact Nat.le_refl _); have hr3 := hr2.below hB3; have hn3 := World.alloc_heap_new w3 (.cells (votesC [vt, vt]).toArray 26); have hA3 : Below w3.heap.size w3 (w3.alloc (.cells (votesC [vt, vt]).toArray 26)) := (Below.refl _ _).alloc (Nat.le_refl _) _)
    | (refine wpList_loadG 26 (.tmp 2) (by with_reducible rfl) (by rfl) w2.heap.size 0 ?_ vt.cells _ ?_ Try.underlying26 rfl ?_ ?_; rfl; exact (range_of hc3 0 _ (fun j _ => by simp [VoteM.arr])); exact Hx68.out)
    | (refine wpList_buildSliceG 22 26 2 [(0, .tmp 12), (1, .tmp 13)] (by with_reducible rfl) (by rfl) (votesC [vt, vt]).toArray i26 (.agg VoteM.nil.arr) 68 (votesC [VoteM.nil, VoteM.nil]).toArray Try.underlying22 hi26 hz260 hz261 (by decide) (by decide) zfillV2 ?_ ?_; exact fillV2 vt vt hvo hvo))
  refine (who_any _ (.pointer (some ⟨w.heap.size + 1, 0, none⟩)) 4 (keyB s1) (.inr ⟨_, rfl, hr3.below hA3⟩) _ 26 [vt, vt] (votesAt_new (m := 2) hn3 (by simpa using hvo) rfl (by decide)) 2 1 2 s3 s3_len).mono ?_
  rintro ee w4 ⟨v4, rfl, hR4, hB4⟩
  rw [Hwho.out] at hR4
  obtain ⟨b4, off4, cap4, rfl, _, _, hc4⟩ := RowAt.cell (n := 1) (xs := [.int .i64 0]) hR4 (by decide)
  have hc4 := hc4 0 (by simp)
  have hr4 := (hr3.below hA3).below hB4
  have hv4 := (hB4.block w2.heap.size (by have := hB3.size; have := (Array.getElem?_eq_some_iff.1 hc3).1; simp; omega)).trans ((Below.heap_alloc _ _ _ (Array.getElem?_eq_some_iff.1 hc3).1).trans hc3)
  go_wp2_with (first
    | (refine wpList_buildG 24 [(0, .const (.int .u8 3))] (by with_reducible rfl) (by rfl) (zB s3).toArray ?_ ?_; exact built24_3)
    | (refine wpList_loadG 26 (.tmp 2) (by with_reducible rfl) (by rfl) w2.heap.size 0 ?_ vt.cells _ ?_ Try.underlying26 rfl ?_ ?_; rfl; exact (range_of hv4 0 _ (fun j _ => by simp [VoteM.arr])); exact Hx68.out)
    | (go_at_call 20; refine (good_any _ (.pointer (some ⟨w.heap.size + 1, 0, none⟩)) 4 (keyB s1) (.inr ⟨_, rfl, hr4⟩) vt hvo).mono ?_; rintro ee w5 ⟨rfl, hB5⟩; have hr5 := hr4.below hB5; have hv5 := (hB5.block w2.heap.size (Array.getElem?_eq_some_iff.1 hv4).1).trans hv4; have c5 : w5.cell? ⟨b4, off4, none⟩ = some (.int .i64 0) := (hB5.cell (p := ⟨b4, off4, none⟩) (World.block_lt_of_cell? w4 _ hc4)).trans hc4; have hn5 := World.alloc_heap_new w5 (.cells (votesC [vt, vt, vt]).toArray 26); have hA5 : Below w5.heap.size w5 (w5.alloc (.cells (votesC [vt, vt, vt]).toArray 26)) := (Below.refl _ _).alloc (Nat.le_refl _) _)
    | (refine wpList_loadG 26 (.tmp 2) (by with_reducible rfl) (by rfl) w2.heap.size 0 ?_ vt.cells _ ?_ Try.underlying26 rfl ?_ ?_; rfl; exact (range_of hv5 0 _ (fun j _ => by simp [VoteM.arr])); exact Hx68.out)
    | (refine wpList_buildSliceG 22 26 3 [(0, .tmp 33), (1, .tmp 34), (2, .tmp 35)] (by with_reducible rfl) (by rfl) (votesC [vt, vt, vt]).toArray i26 (.agg VoteM.nil.arr) 68 (votesC [VoteM.nil, VoteM.nil, VoteM.nil]).toArray Try.underlying22 hi26 hz260 hz261 (by decide) (by decide) zfillV3 ?_ ?_; exact fillV3 vt vt vt hvo hvo hvo)
    | (go_at_call 25; refine (meets_any _ (w.heap.size + 1) 4 (keyB s1) (hr5.below hA5) _ 26 [vt, vt, vt] (votesAt_new (m := 3) hn5 (by simpa using hvo) rfl (by decide)) 2 1 2 s3 s3_len).mono ?_; rintro ee w6 ⟨rfl, hB6⟩; rw [Hmt.out]))
  go_ret
  refine ⟨rfl, ?_⟩
  have z1 := hB1.size
  have z2 := hB2.size
  have z3 := hB3.size
  have z4 := hB4.size
  have z5 := hB5.size
  simp only [World.size_alloc] at z4
  exact hB1.trans ((hB2.mono (by omega)).trans ((hB3.mono (by omega)).trans ((hA3.mono (by omega)).trans ((hB4.mono (by simp; omega)).trans ((hB5.mono (by omega)).trans ((hA5.mono (by omega)).trans (hB6.mono (by simp; omega))))))))
end Go.Proofs.Ytjhpemlgcjdpfaa
