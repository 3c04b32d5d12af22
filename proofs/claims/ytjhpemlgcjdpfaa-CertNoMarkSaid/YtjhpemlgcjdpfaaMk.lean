/- marks: which may be, their bytes -/
import Derived.Test.YtjhpemlgcjdpfaaW
namespace Go.Proofs.Ytjhpemlgcjdpfaa
open Go.RowKit

def inB (n lo hi : Int) : Bool := decide (lo ≤ n ∧ n ≤ hi)
theorem inB_t {n lo hi : Int} (h1 : lo ≤ n) (h2 : n ≤ hi) : inB n lo hi = true := decide_eq_true ⟨h1, h2⟩
theorem inB_1 {n lo hi : Int} (h1 : ¬ lo ≤ n) : inB n lo hi = false := decide_eq_false fun h => h1 h.1
theorem inB_2 {n lo hi : Int} (h1 : ¬ n ≤ hi) : inB n lo hi = false := decide_eq_false fun h => h1 h.2

set_option maxRecDepth 1000000 in
set_option maxHeartbeats 4000000 in
theorem in_any (w : World) (n lo hi : Int) : Calls Try.prog 107 #[.int .i64 n, .int .i64 lo, .int .i64 hi] w fun ee w' => ee = .returned (.bool (inB n lo hi)) ∧ Below w.heap.size w w' := by
  by_cases h1 : lo ≤ n
  · by_cases h2 : n ≤ hi
    · rw [inB_t h1 h2]
      go_enter Try.func107, Try.ntmps107
      go_wp2
      go_ret
      exact ⟨rfl, Below.refl _ _⟩
    · rw [inB_2 h2]
      go_enter Try.func107, Try.ntmps107
      go_wp2
      go_ret
      exact ⟨rfl, Below.refl _ _⟩
  · rw [inB_1 h1]
    go_enter Try.func107, Try.ntmps107
    go_wp2
    go_ret
    exact ⟨rfl, Below.refl _ _⟩

def prodB (p e t : Int) : Bool := inB p 0 7 && (inB e 0 100 && inB t 0 100)
set_option maxRecDepth 1000000 in
set_option maxHeartbeats 4000000 in
theorem producer_any (w : World) (p e t : Int) : Calls Try.prog 108 #[.int .i64 p, .int .i64 e, .int .i64 t] w fun ee w' => ee = .returned (.bool (prodB p e t)) ∧ Below w.heap.size w w' := by
  cases h1 : inB p 0 7
  · rw [show prodB p e t = false by simp [prodB, h1]]
    have H1 := Lib.hid h1
    clear h1
    go_enter Try.func108, Try.ntmps108
    go_wp2_with (go_at_call 107; refine (in_any _ _ _ _).mono ?_; rintro ee w1 ⟨rfl, hB1⟩; rw [H1.out])
    go_ret
    exact ⟨rfl, hB1⟩
  · cases h2 : inB e 0 100
    · rw [show prodB p e t = false by simp [prodB, h1, h2]]
      have H1 := Lib.hid h1
      have H2 := Lib.hid h2
      clear h1 h2
      go_enter Try.func108, Try.ntmps108
      go_wp2_with (first
        | (go_at_call 107; refine (in_any _ _ _ _).mono ?_; rintro ee w1 ⟨rfl, hB1⟩; rw [H1.out])
        | (go_at_call 107; refine (in_any _ _ _ _).mono ?_; rintro ee w2 ⟨rfl, hB2⟩; rw [H2.out]))
      go_ret
      exact ⟨rfl, hB1.trans (hB2.mono hB1.size)⟩
    · obtain ⟨r, h3⟩ : ∃ r, inB t 0 100 = r := ⟨_, rfl⟩
      rw [show prodB p e t = r by simp [prodB, h1, h2, h3]]
      have H1 := Lib.hid h1
      have H2 := Lib.hid h2
      have H3 := Lib.hid h3
      clear h1 h2 h3
      go_enter Try.func108, Try.ntmps108
      go_wp2_with (first
        | (go_at_call 107; refine (in_any _ _ _ _).mono ?_; rintro ee w1 ⟨rfl, hB1⟩; rw [H1.out])
        | (go_at_call 107; refine (in_any _ _ _ _).mono ?_; rintro ee w2 ⟨rfl, hB2⟩; rw [H2.out])
        | (go_at_call 107; refine (in_any _ _ _ _).mono ?_; rintro ee w3 ⟨rfl, hB3⟩; rw [H3.out]))
      go_ret
      exact ⟨rfl, hB1.trans ((hB2.mono hB1.size).trans (hB3.mono (Nat.le_trans hB1.size hB2.size)))⟩

/-- may a mark be? -/
def markB (k p e t : Int) : Bool := inB k 1 3 && (prodB p e t && (decide (k ≠ 1) || decide (t = 0)))
set_option maxRecDepth 1000000 in
set_option maxHeartbeats 4000000 in
theorem mark_any (w : World) (k p e t : Int) : Calls Try.prog 86 #[.agg #[.int .i64 k, .int .i64 p, .int .i64 e, .int .i64 t]] w fun ee w' => ee = .returned (.bool (markB k p e t)) ∧ Below w.heap.size w w' := by
  have hT : (w.alloc (.cells #[.int .i64 k, .int .i64 p, .int .i64 e, .int .i64 t] 46)).heap[w.heap.size]? = some (.cells #[.int .i64 k, .int .i64 p, .int .i64 e, .int .i64 t] 46 (0, 0)) := World.alloc_heap_new w _
  have hA : Below w.heap.size w (w.alloc (.cells #[.int .i64 k, .int .i64 p, .int .i64 e, .int .i64 t] 46)) := (Below.refl _ _).alloc (Nat.le_refl _) _
  cases h1 : inB k 1 3
  · rw [show markB k p e t = false by simp [markB, h1]]
    have H1 := Lib.hid h1
    clear h1
    go_enter Try.func86, Try.ntmps86
    go_wp2_with (go_at_call 107; refine (in_any _ _ _ _).mono ?_; rintro ee w1 ⟨rfl, hB1⟩; rw [H1.out])
    go_ret
    exact ⟨rfl, hA.trans (hB1.mono hA.size)⟩
  · cases h2 : prodB p e t
    · rw [show markB k p e t = false by simp [markB, h1, h2]]
      have H1 := Lib.hid h1
      have H2 := Lib.hid h2
      clear h1 h2
      go_enter Try.func86, Try.ntmps86
      go_wp2_with (first
        | (go_at_call 107; refine (in_any _ _ _ _).mono ?_; rintro ee w1 ⟨rfl, hB1⟩; rw [H1.out]; have hT1 := (hB1.block w.heap.size (by simp)).trans hT; have d1 := cell_of_block hT1 1; have d2 := cell_of_block hT1 2; have d3 := cell_of_block hT1 3)
        | (go_at_call 108; refine (producer_any _ _ _ _).mono ?_; rintro ee w2 ⟨rfl, hB2⟩; rw [H2.out]))
      go_ret
      exact ⟨rfl, hA.trans ((hB1.mono hA.size).trans (hB2.mono (Nat.le_trans hA.size hB1.size)))⟩
    · by_cases hk : k = 1
      · subst hk
        by_cases ht : t = 0
        · subst ht
          rw [show markB 1 p e 0 = true by rw [markB, h1, h2]; rfl]
          have H1 := Lib.hid h1
          have H2 := Lib.hid h2
          clear h1 h2
          go_enter Try.func86, Try.ntmps86
          go_wp2_with (first
            | (go_at_call 107; refine (in_any _ _ _ _).mono ?_; rintro ee w1 ⟨rfl, hB1⟩; rw [H1.out]; have hT1 := (hB1.block w.heap.size (by simp)).trans hT; have d1 := cell_of_block hT1 1; have d2 := cell_of_block hT1 2; have d3 := cell_of_block hT1 3)
            | (go_at_call 108; refine (producer_any _ _ _ _).mono ?_; rintro ee w2 ⟨rfl, hB2⟩; rw [H2.out]; have hT2 := (hB2.block w.heap.size (by have := hB1.size; simp at this ⊢; omega)).trans hT1; have f0 := cell_of_block hT2 0; have f3 := cell_of_block hT2 3))
          go_ret
          exact ⟨rfl, hA.trans ((hB1.mono hA.size).trans (hB2.mono (Nat.le_trans hA.size hB1.size)))⟩
        · rw [show markB 1 p e t = false by rw [markB, h1, h2, decide_eq_false ht]; rfl]
          have H1 := Lib.hid h1
          have H2 := Lib.hid h2
          clear h1 h2
          go_enter Try.func86, Try.ntmps86
          go_wp2_with (first
            | (go_at_call 107; refine (in_any _ _ _ _).mono ?_; rintro ee w1 ⟨rfl, hB1⟩; rw [H1.out]; have hT1 := (hB1.block w.heap.size (by simp)).trans hT; have d1 := cell_of_block hT1 1; have d2 := cell_of_block hT1 2; have d3 := cell_of_block hT1 3)
            | (go_at_call 108; refine (producer_any _ _ _ _).mono ?_; rintro ee w2 ⟨rfl, hB2⟩; rw [H2.out]; have hT2 := (hB2.block w.heap.size (by have := hB1.size; simp at this ⊢; omega)).trans hT1; have f0 := cell_of_block hT2 0; have f3 := cell_of_block hT2 3))
          go_ret
          refine ⟨?_, hA.trans ((hB1.mono hA.size).trans (hB2.mono (Nat.le_trans hA.size hB1.size)))⟩
          show Ending.returned (.bool (t == 0)) = _
          rw [beq_eq_false_iff_ne.2 ht]
      · rw [show markB k p e t = true by simp [markB, h1, h2, hk]]
        have H1 := Lib.hid h1
        have H2 := Lib.hid h2
        clear h1 h2
        go_enter Try.func86, Try.ntmps86
        go_wp2_with (first
          | (go_at_call 107; refine (in_any _ _ _ _).mono ?_; rintro ee w1 ⟨rfl, hB1⟩; rw [H1.out]; have hT1 := (hB1.block w.heap.size (by simp)).trans hT; have d1 := cell_of_block hT1 1; have d2 := cell_of_block hT1 2; have d3 := cell_of_block hT1 3)
          | (go_at_call 108; refine (producer_any _ _ _ _).mono ?_; rintro ee w2 ⟨rfl, hB2⟩; rw [H2.out]; have hT2 := (hB2.block w.heap.size (by have := hB1.size; simp at this ⊢; omega)).trans hT1; have f0 := cell_of_block hT2 0; have f3 := cell_of_block hT2 3))
        go_ret
        exact ⟨rfl, hA.trans ((hB1.mono hA.size).trans (hB2.mono (Nat.le_trans hA.size hB1.size)))⟩

/-- a mark's bytes -/
def markL (k p e t : Int) : List Int := numsB [3, k, p, e, t]
theorem markL_len (k p e t : Int) : (markL k p e t).length ≤ 100 := by
  have h1 := numsB_len [3, k, p, e, t]
  simp only [List.length_cons, List.length_nil] at h1
  unfold markL
  omega

set_option maxRecDepth 1000000 in
set_option maxHeartbeats 4000000 in
theorem encodeBad_any (w : World) (k p e t : Int) (h : markB k p e t = false) : Calls Try.prog 64 #[.agg #[.int .i64 k, .int .i64 p, .int .i64 e, .int .i64 t]] w fun ee w' => ee = .returned (.tuple #[.slice none 0 0, .int .i64 1]) ∧ Below w.heap.size w w' := by
  have hA : Below w.heap.size w (w.alloc (.cells #[.int .i64 k, .int .i64 p, .int .i64 e, .int .i64 t] 46)) := (Below.refl _ _).alloc (Nat.le_refl _) _
  have H := Lib.hid h
  clear h
  go_enter Try.func64, Try.ntmps64
  go_wp2_with (go_at_call 86; refine (mark_any _ _ _ _ _).mono ?_; rintro ee w1 ⟨rfl, hB1⟩; rw [H.out])
  go_ret2
  exact ⟨rfl, hA.trans (hB1.mono hA.size)⟩

set_option maxRecDepth 1000000 in
set_option maxHeartbeats 4000000 in
theorem encode_any (w : World) (k p e t : Int) (h : markB k p e t = true) : Calls Try.prog 64 #[.agg #[.int .i64 k, .int .i64 p, .int .i64 e, .int .i64 t]] w fun ee w' => ∃ v', ee = .returned (.tuple #[v', .int .i64 0]) ∧ RowAt w' 5 v' (markL k p e t).length (zB (markL k p e t)) ∧ Below w.heap.size w w' := by
  have hT : (w.alloc (.cells #[.int .i64 k, .int .i64 p, .int .i64 e, .int .i64 t] 46)).heap[w.heap.size]? = some (.cells #[.int .i64 k, .int .i64 p, .int .i64 e, .int .i64 t] 46 (0, 0)) := World.alloc_heap_new w _
  have hA : Below w.heap.size w (w.alloc (.cells #[.int .i64 k, .int .i64 p, .int .i64 e, .int .i64 t] 46)) := (Below.refl _ _).alloc (Nat.le_refl _) _
  have H := Lib.hid h
  clear h
  go_enter Try.func64, Try.ntmps64
  go_wp2_with (go_at_call 86; refine (mark_any _ _ _ _ _).mono ?_; rintro ee w1 ⟨rfl, hB1⟩; rw [H.out]; have hz1 := hB1.size; simp only [World.size_alloc] at hz1; have hT1 := (hB1.block w.heap.size (by simp)).trans hT; have hT2 : (w1.alloc (.cells #[.slice none 0 0] 118)).heap[w.heap.size]? = _ := (Below.heap_alloc _ _ _ (Array.getElem?_eq_some_iff.1 hT1).1).trans hT1; have d0 := cell_of_block hT2 0; have d1 := cell_of_block hT2 1; have d2 := cell_of_block hT2 2; have d3 := cell_of_block hT2 3)
  have hW1 := (WrAt.new w1 w1.heap.size (w1.heap.size + 1) rfl (by omega)).alloc (.cells #[.int .i64 3, .int .i64 k, .int .i64 p, .int .i64 e, .int .i64 t] 3)
  have hn2 : ((w1.alloc (.cells #[.slice none 0 0] 118)).alloc (.cells #[.int .i64 3, .int .i64 k, .int .i64 p, .int .i64 e, .int .i64 t] 3)).heap[w1.heap.size + 1]? = some (.cells (zI [3, k, p, e, t]).toArray 3 (0, 0)) := by
    have h := World.alloc_heap_new (w1.alloc (.cells #[.slice none 0 0] 118)) (.cells #[.int .i64 3, .int .i64 k, .int .i64 p, .int .i64 e, .int .i64 t] 3)
    simp only [World.size_alloc] at h
    exact h
  have hB2 : Below w.heap.size w ((w1.alloc (.cells #[.slice none 0 0] 118)).alloc (.cells #[.int .i64 3, .int .i64 k, .int .i64 p, .int .i64 e, .int .i64 t] 3)) := ((hA.trans (hB1.mono hA.size)).alloc (by omega) _).alloc (by simp; omega) _
  have hz2 : ((w1.alloc (.cells #[.slice none 0 0] 118)).alloc (.cells #[.int .i64 3, .int .i64 k, .int .i64 p, .int .i64 e, .int .i64 t] 3)).heap.size = w1.heap.size + 2 := by simp
  generalize ((w1.alloc (.cells #[.slice none 0 0] 118)).alloc (.cells #[.int .i64 3, .int .i64 k, .int .i64 p, .int .i64 e, .int .i64 t] 3)) = W2 at *
  refine (nums_any W2 w1.heap.size (w1.heap.size + 1) _ _ 3 [3, k, p, e, t] [] (by simp) (by simp) (by omega) (row_whole hn2 rfl (by simp [maxLen])) (fun b hb h => ?_) hW1).mono ?_
  · simp [Value.ownBlock] at hb
    rcases h with h | h
    · omega
    · cases h
  rintro ee w3 ⟨rfl, wv3, hW3, hO3, hK3⟩
  rw [List.nil_append] at hW3
  have hB3 : Below w.heap.size w w3 := hK3.below hB2 (fun b h => by rcases h with h | h; omega; cases h)
  clear d0 d1 d2 d3 hT hT1 hT2 hn2 hB2 hK3 hW1
  go_wp2_with (go_at_call 73; refine (out_any w3 w1.heap.size (w1.heap.size + 1) wv3 (markL k p e t) (by have := markL_len k p e t; omega) hW3).mono ?_; rintro ee w6 ⟨v6, rfl, ho6, hB6⟩)
  go_ret2
  exact ⟨_, rfl, RowAt.of_owns ho6, hB3.trans (hB6.mono hB3.size)⟩

theorem results_row_tmp {P : Program} {fn : Func} {p u : Tmp} {ty : TypeId} (h : fn.results = #[.cell p ty, .tmp u]) (tmps : Array Value) (w : World) (g : Nat) (t : TypeId) (cs : Array Value) (fr : Nat × Nat) (d : TypeDesc)
    (hp : tmps.getD p undef = .pointer (some ⟨g, 0, none⟩)) (hg : w.heap[g]? = some (.cells cs t fr))
    (hu : P.underlying ty = some d) (hd : (match d with | .struct _ | .array _ _ => true | _ => false) = true) (hi : (P.info? ty).map (·.size) = some cs.size) :
    (results fn tmps).run P w = .ok (.tuple #[.agg cs, tmps.getD u undef]) w := by
  have hp' : tmps[p]?.getD undef = .pointer (some ⟨g, 0, none⟩) := by simpa using hp
  simp [results, h, hp', asAddr, run_loadVar_row w g t ty cs fr d hg hu hd hi]
theorem built26_nil : Try.prog.built 26 [] = some VoteM.nil.arr := by kernel_rfl

/-- the vote on a mark -/
def markV (n : Nat) (key : Nat → List Int) (k p e t i : Int) : VoteM := castV n key 3 0 0 (shaB (markL k p e t)) i
set_option maxRecDepth 1000000 in
set_option maxHeartbeats 4000000 in
theorem markVoteBad_any (w : World) (r : Value) (k p e t i : Int) (h : markB k p e t = false) : Calls Try.prog 35 #[r, .agg #[.int .i64 k, .int .i64 p, .int .i64 e, .int .i64 t], .int .i64 i] w fun ee w' => ee = .returned (.tuple #[VoteM.nil.val, .bool false]) ∧ Below w.heap.size w w' := by
  have H := Lib.hid h
  clear h
  have hx26 : (Try.prog.info? 26).map (·.size) = some VoteM.nil.arr.size := by rw [info26]; rfl
  have Hx26 := Lib.hid hx26
  clear hx26
  have hx1 : VoteM.nil.arr.all (·.oneCell') = true := all_oneCell_toArray VoteM.one
  have Hx1 := Lib.hid hx1
  clear hx1
  have hA : ∀ x, Below w.heap.size w ((w.alloc x).alloc (.cells VoteM.nil.arr 26)) := fun x => ((Below.refl _ _).alloc (Nat.le_refl _) _).alloc (by simp) _
  have hn : ∀ x, ((w.alloc x).alloc (.cells VoteM.nil.arr 26)).heap[w.heap.size + 1]? = some (.cells VoteM.nil.arr 26 (0, 0)) := fun x => by
    have h := World.alloc_heap_new (w.alloc x) (.cells VoteM.nil.arr 26)
    simp only [World.size_alloc] at h
    exact h
  go_enter Try.func35, Try.ntmps35
  go_wp2_with (first
    | (refine wpList_allocT rfl 26 (by with_reducible rfl) VoteM.nil.arr zero26 ?_; try simp only [World.size_alloc])
    | (go_at_call 64; refine (encodeBad_any _ _ _ _ _ H.out).mono ?_; rintro ee w1 ⟨rfl, hB1⟩; have hc1 := (hB1.block (w.heap.size + 1) (by simp)).trans (hn _))
    | (refine wpList_buildG 26 [] (by with_reducible rfl) (by rfl) VoteM.nil.arr built26_nil ?_)
    | (refine wpList_store_any 26 (.tmp 6) (.tmp 17) (by with_reducible rfl) (by rfl) (w.heap.size + 1) VoteM.nil.arr ?_ ?_ 26 VoteM.nil.arr ?_ ?_ ?_ ?_ ?_; rfl; rfl; exact hc1; exact Hx26.out; rfl; exact Hx1.out; intro w3 hg3 hc3))
  refine bodyPost_ret (results_row_tmp (p := 6) (u := 7) (ty := 26) rfl _ _ (w.heap.size + 1) 26 _ (0, 0) _ rfl hc3 Try.underlying26 rfl Hx26.out) rfl ⟨rfl, ?_⟩
  exact ((hA _).trans (hB1.mono (hA _).size)).grown hg3 (Nat.le_trans (hA _).size hB1.size) (fun j hj => by cases hj; omega)

set_option maxRecDepth 1000000 in
set_option maxHeartbeats 4000000 in
theorem markVote_any (w : World) (rb n : Nat) (key : Nat → List Int) (hr : RingAt w rb n key) (k p e t i : Int) (h : markB k p e t = true) : Calls Try.prog 35 #[.pointer (some ⟨rb, 0, none⟩), .agg #[.int .i64 k, .int .i64 p, .int .i64 e, .int .i64 t], .int .i64 i] w fun ee w' => ee = .returned (.tuple #[(markV n key k p e t i).val, .bool true]) ∧ Below w.heap.size w w' := by
  have H := Lib.hid h
  clear h
  obtain ⟨vt, hvt⟩ : ∃ vt, vt = markV n key k p e t i := ⟨_, rfl⟩
  have hvo : vt.Ok := by rw [hvt]; exact castV_ok _ _ _ _ _ _ _ (shaB_length _)
  rw [← hvt]
  have Hvt := Lib.hid hvt
  clear hvt
  have hx26 : (Try.prog.info? 26).map (·.size) = some vt.arr.size := by rw [info26]; simp [VoteM.arr, VoteM.length hvo]
  have hxz : VoteM.nil.arr.size = vt.arr.size := by simp [VoteM.arr, VoteM.length hvo, VoteM.length ok_nil]
  have hx1 : vt.arr.all (·.oneCell') = true := all_oneCell_toArray VoteM.one
  have Hx26 := Lib.hid hx26
  have Hxz := Lib.hid hxz
  have Hx1 := Lib.hid hx1
  clear hx26 hxz hx1
  have hA : ∀ x, Below w.heap.size w ((w.alloc x).alloc (.cells VoteM.nil.arr 26)) := fun x => ((Below.refl _ _).alloc (Nat.le_refl _) _).alloc (by simp) _
  have hn : ∀ x, ((w.alloc x).alloc (.cells VoteM.nil.arr 26)).heap[w.heap.size + 1]? = some (.cells VoteM.nil.arr 26 (0, 0)) := fun x => by
    have h := World.alloc_heap_new (w.alloc x) (.cells VoteM.nil.arr 26)
    simp only [World.size_alloc] at h
    exact h
  go_enter Try.func35, Try.ntmps35
  go_wp2_with (first
    | (refine wpList_allocT rfl 26 (by with_reducible rfl) VoteM.nil.arr zero26 ?_; try simp only [World.size_alloc])
    | (go_at_call 64; refine (encode_any _ _ _ _ _ H.out).mono ?_; rintro ee w1 ⟨v1, rfl, hR1, hB1⟩; have hc1 := (hB1.block (w.heap.size + 1) (by simp)).trans (hn _); have hr1 := (hr.below (hA _)).below hB1)
    | (go_at_call 39; refine (valueSum_any _ _ 5 _ (by have := markL_len k p e t; omega) hR1).mono ?_; rintro ee w2 ⟨rfl, hB2⟩; have hr2 := hr1.below hB2; have hc2 := (hB2.block (w.heap.size + 1) (Array.getElem?_eq_some_iff.1 hc1).1).trans hc1)
    | (go_at_call 18; refine (cast_any _ rb n key hr2 3 0 0 i (shaB (markL k p e t)) (shaB_length _)).mono ?_; rintro ee w4 ⟨rfl, hB4⟩; rw [← markV, ← Hvt.out]; have hc4 := (hB4.block (w.heap.size + 1) (Array.getElem?_eq_some_iff.1 hc2).1).trans hc2)
    | (refine wpList_store_any 26 (.tmp 6) (.tmp 22) (by with_reducible rfl) (by rfl) (w.heap.size + 1) vt.arr ?_ ?_ 26 VoteM.nil.arr ?_ ?_ ?_ ?_ ?_; rfl; rfl; exact hc4; exact Hx26.out; exact Hxz.out; exact Hx1.out; intro w3 hg3 hc3))
  refine bodyPost_ret (results_row_tmp (p := 6) (u := 7) (ty := 26) rfl _ _ (w.heap.size + 1) 26 _ (0, 0) _ rfl hc3 Try.underlying26 rfl Hx26.out) rfl ⟨rfl, ?_⟩
  have z0 := (hA (.cells #[.int .i64 k, .int .i64 p, .int .i64 e, .int .i64 t] 46)).size
  have z1 := hB1.size
  have z2 := hB2.size
  have hB := (hA (.cells #[.int .i64 k, .int .i64 p, .int .i64 e, .int .i64 t] 46)).trans ((hB1.mono z0).trans ((hB2.mono (by omega)).trans (hB4.mono (by omega))))
  exact hB.grown hg3 hB.size (fun j hj => by cases hj; omega)

end Go.Proofs.Ytjhpemlgcjdpfaa
