/- told: what an iterator tells -/
import Derived.Test.YtjahfjfanaocpaaJ
import Derived.Test.YtjahfjfanaocpaaF
import Derived.Test.YtjahfjfanaocpaaS2
import Derived.Sort.QuietIn
namespace Go.Proofs.Ytjahfjfanaocpaa
open Go.RowKit Go.Maps Go.Sort Go.Shelf
attribute [local go_sem] Oper.semAt_some

/-- two boxes of slices, two rows of one's own beside them -/
structure Ph (M bk bv base : Nat) (w : World) (kb vb kv vv : Value) (K V : List Int) (A W : World) : Prop where
  ck : W.heap[bk]? = some (.cells #[kb] 26 (0, 0))
  cv : W.heap[bv]? = some (.cells #[vb] 26 (0, 0))
  rk : W.ownsRow M 3 1 kv K.length (zI K)
  rv : W.ownsRow M 3 1 vv V.length (zI V)
  dis : kv.ownBlock = none ∨ kv.ownBlock ≠ vv.ownBlock
  keep : Keep M (fun b => b = bk ∨ b = bv) A W
  below : Below base w W
  hM : M ≤ W.heap.size

theorem own_none {W : World} {M : Nat} {v : Value} {xs : List Value} {n : Nat} (h : W.ownsRow M 3 1 v n xs) {b : Nat} (hb : b < M) : v.ownBlock = none ∨ v.ownBlock ≠ some b := by
  rcases h.2 with ⟨rfl, _⟩ | ⟨g, cap, cur, rfl, hg, _⟩
  · exact .inl rfl
  · refine .inr ?_
    simp [Value.ownBlock]
    omega
theorem own_lt {W : World} {M : Nat} {v : Value} {xs : List Value} {n : Nat} (h : W.ownsRow M 3 1 v n xs) {b : Nat} (hb : v.ownBlock = some b) : M ≤ b ∧ b < W.heap.size := h.lt b hb

theorem Ph.alloc {M bk bv base : Nat} {w : World} {kb vb kv vv : Value} {K V : List Int} {A W : World} (h : Ph M bk bv base w kb vb kv vv K V A W) (hbase : base ≤ M) (o : Obj) : Ph M bk bv base w kb vb kv vv K V A (W.alloc o) := by
  have h1 := (Array.getElem?_eq_some_iff.1 h.ck).1
  have h2 := (Array.getElem?_eq_some_iff.1 h.cv).1
  have hM := h.hM
  exact ⟨(Below.heap_alloc _ _ _ h1).trans h.ck, (Below.heap_alloc _ _ _ h2).trans h.cv, h.rk.alloc o, h.rv.alloc o, h.dis, h.keep.alloc h.hM o, h.below.alloc (by omega) o, by simp; omega⟩

theorem Ph.appK {M bk bv base : Nat} {w : World} {kb vb kv vv : Value} {K V : List Int} {A W W' : World} (h : Ph M bk bv base w kb vb kv vv K V A W) (hbk : bk < M) (hbv : bv < M) (hbase : base ≤ M) {kv2 : Value} {k : Int}
    (hg : W.grownBy W' kv.ownBlock) (ho : W'.ownsRow M 3 1 kv2 (K.length + 1) (zI K ++ [Value.int .i64 k])) (hl : kv2.ownBlock = kv.ownBlock ∨ kv2.ownBlock = some W.heap.size) :
    Ph M bk bv base w kb vb kv2 vv (K ++ [k]) V A W' := by
  have hM := h.hM
  have e : ∀ b, b < M → some b ≠ kv.ownBlock := fun b hb hh => by have := (own_lt h.rk hh.symm).1; omega
  refine ⟨(hg.block _ (by omega) (e _ hbk)).trans h.ck, (hg.block _ (by omega) (e _ hbv)).trans h.cv, by simpa [zI] using ho, h.rv.kept hg ?_, ?_, h.keep.grown hg h.hM ?_, h.below.grown hg (by omega) ?_, Nat.le_trans h.hM hg.size⟩
  · rcases h.dis with d | d
    · by_cases hv : vv.ownBlock = none
      · exact .inl hv
      · exact .inr (by rw [d]; exact hv)
    · exact .inr (fun x => d x.symm)
  · rcases hl with hl | hl
    · rw [hl]; exact h.dis
    · refine .inr ?_
      rw [hl]
      intro hh
      have := (own_lt h.rv hh.symm).2
      omega
  · intro r hr hlt
    have := (own_lt h.rk hr).1
    omega
  · intro k hk
    have := (own_lt h.rk hk).1
    omega

theorem Ph.appV {M bk bv base : Nat} {w : World} {kb vb kv vv : Value} {K V : List Int} {A W W' : World} (h : Ph M bk bv base w kb vb kv vv K V A W) (hbk : bk < M) (hbv : bv < M) (hbase : base ≤ M) {vv2 : Value} {v : Int}
    (hg : W.grownBy W' vv.ownBlock) (ho : W'.ownsRow M 3 1 vv2 (V.length + 1) (zI V ++ [Value.int .i64 v])) (hl : vv2.ownBlock = vv.ownBlock ∨ vv2.ownBlock = some W.heap.size) :
    Ph M bk bv base w kb vb kv vv2 K (V ++ [v]) A W' := by
  have hM := h.hM
  have e : ∀ b, b < M → some b ≠ vv.ownBlock := fun b hb hh => by have := (own_lt h.rv hh.symm).1; omega
  refine ⟨(hg.block _ (by omega) (e _ hbk)).trans h.ck, (hg.block _ (by omega) (e _ hbv)).trans h.cv, h.rk.kept hg h.dis, by simpa [zI] using ho, ?_, h.keep.grown hg h.hM ?_, h.below.grown hg (by omega) ?_, Nat.le_trans h.hM hg.size⟩
  · rcases hl with hl | hl
    · rw [hl]; exact h.dis
    · by_cases hv : kv.ownBlock = none
      · exact .inl hv
      · refine .inr ?_
        rw [hl]
        intro hh
        have := (own_lt h.rk hh).2
        omega
  · intro r hr hlt
    have := (own_lt h.rv hr).1
    omega
  · intro k hk
    have := (own_lt h.rv hk).1
    omega

theorem Ph.S {M bk bv base : Nat} {w : World} {kb vb kv vv : Value} {K V : List Int} {A W : World} (h : Ph M bk bv base w kb vb kv vv K V A W) : W.cell? ⟨bk, 0, none⟩ = some kb ∧ W.cell? ⟨bv, 0, none⟩ = some vb := by
  have h1 := cell_of_block h.ck 0
  have h2 := cell_of_block h.cv 0
  exact ⟨by simpa using h1, by simpa using h2⟩
theorem Ph.self {M bk bv base : Nat} {w : World} {kb vb kv vv : Value} {K V : List Int} {A W : World} (h : Ph M bk bv base w kb vb kv vv K V A W) : Ph M bk bv base w kb vb kv vv K V W W :=
  ⟨h.ck, h.cv, h.rk, h.rv, h.dis, Keep.refl _ _ _, h.below, h.hM⟩
theorem Ph.drew {M bk bv base : Nat} {w : World} {kb vb kv vv : Value} {K V : List Int} {A W : World} (h : Ph M bk bv base w kb vb kv vv K V A W) : Ph M bk bv base w kb vb kv vv K V A W.drew :=
  ⟨h.ck, h.cv, h.rk, h.rv, h.dis, ⟨h.keep.size, h.keep.block⟩, ⟨h.below.os, h.below.tape, h.below.output, h.below.size, h.below.block⟩, h.hM⟩
theorem Ph.drewN {M bk bv base : Nat} {w : World} {kb vb kv vv : Value} {K V : List Int} {A W : World} (h : Ph M bk bv base w kb vb kv vv K V A W) (n : Nat) : Ph M bk bv base w kb vb kv vv K V A (W.drewN n) :=
  ⟨h.ck, h.cv, h.rk, h.rv, h.dis, ⟨h.keep.size, h.keep.block⟩, ⟨h.below.os, h.below.tape, h.below.output, h.below.size, h.below.block⟩, h.hM⟩
theorem Ph.stores {M bk bv base : Nat} {w : World} {kb vb kv vv : Value} {K V : List Int} {A W : World} (h : Ph M bk bv base w kb vb kv vv K V A W) (hne : bk ≠ bv) :
    W.cell? ⟨bk, 0, none⟩ = some kb ∧ W.frozen? ⟨bk, 0, none⟩ = false ∧ W.cell? ⟨bv, 0, none⟩ = some vb ∧ W.frozen? ⟨bv, 0, none⟩ = false :=
  ⟨h.S.1, free_of_block h.ck 0, h.S.2, free_of_block h.cv 0⟩
theorem row_in {W : World} {g : Nat} {u : Value} (h : W.heap[g]? = some (.cells #[u] 3 (0, 0))) : RowAt W 3 (.slice (some ⟨g, 0, none⟩) 1 1) 1 [u] :=
  .inr ⟨g, 0, 1, #[u], (0, 0), rfl, Nat.le_refl _, by decide, h, fun j hj => by
    have : j = 0 := by simp at hj; omega
    subst this; rfl⟩

/-- the two stores -/
theorem Ph.fin {M bk bv base : Nat} {w : World} {kb vb kv vv : Value} {K V : List Int} {A W : World} (h : Ph M bk bv base w kb vb kv vv K V A W) (hbk : bk < M) (hbv : bv < M) (hne : bk ≠ bv) (hb1 : base ≤ bk) (hb2 : base ≤ bv) :
    Ph M bk bv base w kv vv kv vv K V A ((W.setCell ⟨bk, 0, none⟩ kv).setCell ⟨bv, 0, none⟩ vv) := by
  have hM := h.hM
  have e1 := heap_setCell_same h.ck (j := 0) kv
  have e2 : (W.setCell ⟨bk, 0, none⟩ kv).heap[bv]? = _ := (Below.heap_setCell _ _ _ _ (fun e => hne e.symm)).trans h.cv
  have e3 := heap_setCell_same e2 (j := 0) vv
  have g1 : W.grownBy (W.setCell ⟨bk, 0, none⟩ kv) (some bk) := ⟨rfl, rfl, rfl, by simp [World.setCell], fun k _ hk => Below.heap_setCell _ _ _ _ (fun e => hk (by rw [e]))⟩
  have g2 : (W.setCell ⟨bk, 0, none⟩ kv).grownBy ((W.setCell ⟨bk, 0, none⟩ kv).setCell ⟨bv, 0, none⟩ vv) (some bv) := ⟨rfl, rfl, rfl, by simp [World.setCell], fun k _ hk => Below.heap_setCell _ _ _ _ (fun e => hk (by rw [e]))⟩
  have r1 := h.rk.kept g1 (own_none h.rk hbk)
  have r2 := h.rv.kept g1 (own_none h.rv hbk)
  refine ⟨(Below.heap_setCell _ _ _ _ hne).trans e1, e3, r1.kept g2 (own_none h.rk hbv), r2.kept g2 (own_none h.rv hbv), h.dis, (h.keep.setCell _ (fun _ => .inl rfl) _).setCell _ (fun _ => .inr rfl) _, ?_, ?_⟩
  · refine (h.below.grown g1 ?_ ?_).grown g2 ?_ ?_
    · omega
    · intro k hk; cases hk; exact hb1
    · have := g1.size; omega
    · intro k hk; cases hk; exact hb2
  · simpa [World.setCell] using hM

theorem Ph.turn {M bk bv base B0 : Nat} {w : World} {kb vb kv vv : Value} {K V : List Int} {A W W' : World} (h : Ph M bk bv base w kb vb kv vv K V A W) (hr : RecTurn B0 W W') (hB : base ≤ bk) (h1 : bk < B0) (h2 : bv < B0) :
    Ph M bk bv base w kb vb kv vv K V W' W' := by
  have row : ∀ {v : Value} {xs : List Value} {n : Nat}, W.ownsRow M 3 1 v n xs → W'.ownsRow M 3 1 v n xs := by
    intro v xs n h
    refine ⟨h.1, ?_⟩
    rcases h.2 with h' | ⟨g, cap, cur, hv, hg, hc, rest⟩
    · exact .inl h'
    · exact .inr ⟨g, cap, cur, hv, hg, hr.block _ _ hc (.inr rfl), rest⟩
  refine ⟨hr.block _ _ h.ck (.inl h1), hr.block _ _ h.cv (.inl h2), row h.rk, row h.rv, h.dis, Keep.refl _ _ _, ?_, Nat.le_trans h.hM hr.size⟩
  refine ⟨hr.os.trans h.below.os, hr.tape.trans h.below.tape, hr.output.trans h.below.output, Nat.le_trans h.below.size hr.size, fun b hb => ?_⟩
  rw [← h.below.block b hb]
  cases hW : W.heap[b]? with
  | some o => exact hr.block b o hW (.inl (by omega))
  | none =>
    have hs := Array.getElem?_eq_none_iff.1 hW
    have := (Array.getElem?_eq_some_iff.1 h.ck).1
    omega

theorem func_nil (gf : Nat) (lb : Array Value) (W : World) : (binOp BinOp.eql 41 (Value.func (Fn.func gf) #[] lb) Value.nilFunc).run Try.prog W = .ok (.bool false) W := by kernel_rfl

set_option maxRecDepth 100000 in
set_option maxHeartbeats 2000000 in
theorem told_any (w : World) (gf : Nat) (lb : Array Value) (xs : List (Int × Value)) (most : Int) (hx : ∀ q ∈ xs, q.2 = .int .i64 (intOf q.2)) (eg : ∀ args w, (callFunc gf args).run Try.prog w = .ok (.enter gf args) w)
    (hsz : xs.length * 8 ≤ 140737488355328) (hit : ∀ T W, Below w.heap.size w W → (∀ b, T b → w.heap.size ≤ b ∧ b < W.heap.size) → IterM Try.prog gf lb encP xs T W) (hm : 0 < most) :
    Calls Try.prog 13 #[.func (.func gf) #[] lb, .int .i64 most] w fun e w' => ∃ kv vv, e = .returned (.tuple #[kv, vv]) ∧
      RowAt w' 3 kv (xs.take most.toNat).length (zI ((xs.take most.toNat).map (·.1))) ∧ RowAt w' 3 vv (xs.take most.toNat).length (zI ((xs.take most.toNat).map fun q => intOf q.2)) ∧ Below w.heap.size w w' := by
  refine (callsIn_wide (n := 10)).1 ?_
  refine callsIn_of_wp_marks Try.func13 rfl trivial ?_ rfl
  simp only [Try.ntmps13, List.size_toArray, List.length_cons, List.length_nil, Nat.reduceAdd, Nat.reduceSub, Array.replicate_succ, Array.replicate_zero, List.push_toArray, List.append_toArray, List.nil_append, List.cons_append]
  have hfn := func_nil gf lb
  have hm2 : decide (most ≤ 0) = false := decide_eq_false (by omega)
  gi_wp2
  have hw1 : ∃ w1, w1 = ((w.alloc (Obj.cells #[Value.int IntKind.i64 most] 3)).alloc (Obj.cells #[Value.slice none 0 0] 26)).alloc (Obj.cells #[Value.slice none 0 0] 26) := ⟨_, rfl⟩
  obtain ⟨w1, hw1⟩ := hw1
  rw [← hw1]
  have hs1 : w1.heap.size = w.heap.size + 3 := by rw [hw1]; simp
  have hB1 : Below w.heap.size w w1 := by rw [hw1]; exact (((Below.refl _ _).alloc (Nat.le_refl _) _).alloc (by simp) _).alloc (by simp; omega) _
  have hbm : w1.heap[w.heap.size]? = some (.cells #[.int .i64 most] 3 (0, 0)) := by rw [hw1, Below.heap_alloc _ _ _ (by simp; omega), Below.heap_alloc _ _ _ (by simp)]; exact World.alloc_heap_new w _
  have hbk : w1.heap[w.heap.size + 1]? = some (.cells #[.slice none 0 0] 26 (0, 0)) := by rw [hw1, Below.heap_alloc _ _ _ (by simp)]; have := World.alloc_heap_new (w.alloc (Obj.cells #[Value.int IntKind.i64 most] 3)) (Obj.cells #[Value.slice none 0 0] 26); rwa [World.size_alloc] at this
  have hbv : w1.heap[w.heap.size + 1 + 1]? = some (.cells #[.slice none 0 0] 26 (0, 0)) := by rw [hw1]; have := World.alloc_heap_new ((w.alloc (Obj.cells #[Value.int IntKind.i64 most] 3)).alloc (Obj.cells #[Value.slice none 0 0] 26)) (Obj.cells #[Value.slice none 0 0] 26); rwa [World.size_alloc, World.size_alloc] at this
  have hmn : ∃ mo : Nat, most = mo ∧ 0 < mo := ⟨most.toNat, by omega, by omega⟩
  obtain ⟨mo, rfl, hmo⟩ := hmn
  clear hfn hm2
  have hseq := hit (fun b => b = w.heap.size + 1 ∨ b = w.heap.size + 1 + 1) w1 hB1 (by rintro b (rfl | rfl) <;> omega)
  refine range_law (gf := gf) (lb := lb) rfl eg hseq (by rintro b (rfl | rfl) <;> omega) (fun _ => rfl)
    (fun M pre W => pre.length < mo ∧ W.heap[w.heap.size]? = some (.cells #[.int .i64 mo] 3 (0, 0)) ∧ ∃ kb vb, Ph M (w.heap.size + 1) (w.heap.size + 1 + 1) w.heap.size w kb vb kb vb (pre.map (·.1)) (pre.map fun q => intOf q.2) W W)
    (fun c pre W => c = .exit 0 ∧ pre.length = mo ∧ ∃ M kb vb, Ph M (w.heap.size + 1) (w.heap.size + 1 + 1) w.heap.size w kb vb kb vb (pre.map (·.1)) (pre.map fun q => intOf q.2) W W)
    ?hI ?hIx ?h0 (fun x => { tmps := #[.func (.func gf) #[] lb, .int .i64 mo, undef, .pointer (some ⟨w.heap.size, 0, none⟩), .slice none 0 0, .slice none 0 0, .pointer (some ⟨w.heap.size + 1, 0, none⟩), .pointer (some ⟨w.heap.size + 1 + 1, 0, none⟩), .int .i64 x.1, x.2, .func (.func gf) #[] lb, .bool false, .bool false, .int .i64 mo, .bool false, .bool false, .func (.func gf) #[] lb, .int .i64 x.1, x.2, undef, undef, undef, undef, undef, undef, undef, undef, undef, undef, undef, undef, undef, undef], defers := [] }) ?assign ?body ?done ?stop
  case hI =>
    rintro M pre A B ⟨h1, h2, kb, vb, h3⟩ hr
    exact ⟨h1, hr.block _ _ h2 (.inl (by omega)), kb, vb, h3.turn hr (by omega) (by omega) (by omega)⟩
  case hIx =>
    rintro c pre A B ⟨h1, h2, M, kb, vb, h3⟩ hr
    exact ⟨h1, h2, M, kb, vb, h3.turn hr (by omega) (by omega) (by omega)⟩
  case h0 =>
    intro A hA
    have hs := hA.size
    exact ⟨hmo, (hA.block _ (by omega)).trans hbm, _, _, (hA.block _ (by omega)).trans hbk, (hA.block _ (by omega)).trans hbv, ⟨rfl, .inl ⟨rfl, rfl⟩⟩, ⟨rfl, .inl ⟨rfl, rfl⟩⟩, .inl rfl, Keep.refl _ _ _, hB1.trans (hA.mono (by omega)), Nat.le_refl _⟩
  case assign =>
    intro l x W K hK
    gi_wp2
    exact hK
  case body =>
    rintro l M pre x W hM hMW ⟨hlen, hcm, kb, vb, hP⟩ hpre
    obtain ⟨k, xv⟩ := x
    have hmem : (k, xv) ∈ xs := hpre.sublist.mem (by simp)
    obtain ⟨v, rfl⟩ : ∃ v, xv = .int .i64 v := ⟨_, hx _ hmem⟩
    have hpl : pre.length + 1 ≤ xs.length := by have := hpre.length_le; simpa using this
    have hKl : (pre.map (·.1)).length = pre.length := by simp
    have hVl : (pre.map fun q => intOf q.2).length = pre.length := by simp
    have hnew : Ph M (w.heap.size + 1) (w.heap.size + 1 + 1) w.heap.size w kb vb kb vb (pre.map (·.1)) (pre.map fun q => intOf q.2) W W.drew := hP.drew
    have P0 := hnew
    clear hP hnew
    have hgoal : ∀ (W' : World) (kb' vb' : Value), Ph M (w.heap.size + 1) (w.heap.size + 1 + 1) w.heap.size w kb' vb' kb' vb' (pre.map (·.1) ++ [k]) ((pre.map fun q => intOf q.2) ++ [v]) W W' →
        Ph M (w.heap.size + 1) (w.heap.size + 1 + 1) w.heap.size w kb' vb' kb' vb' ((pre ++ [(k, Value.int .i64 v)]).map (·.1)) ((pre ++ [(k, Value.int .i64 v)]).map fun q => intOf q.2) W W' := by
      intro W' kb' vb' h
      simpa [intOf] using h
    generalize pre.map (·.1) = K at *
    generalize (pre.map fun q => intOf q.2) = V at *
    have hne : w.heap.size + 1 ≠ w.heap.size + 1 + 1 := by omega
    have hMm : w.heap.size + 1 + 1 < M := by omega
    generalize hbkd : w.heap.size + 1 = bk at *
    generalize hbvd : bk + 1 = bv at *
    obtain ⟨i0, hi, hz0, hz1, hz2⟩ := info_parts info3
    have hbmd : ∀ W' : World, Keep M (fun b => b = bk ∨ b = bv) W W' → W'.cell? ⟨w.heap.size, 0, none⟩ = some (.int .i64 mo) := fun W' h => by
      have h1 := (h.block w.heap.size (by omega) (by rintro (h | h) <;> omega)).trans hcm
      simpa using cell_of_block h1 0
    have hbmh : ∀ W' : World, Keep M (fun b => b = bk ∨ b = bv) W W' → W'.heap[w.heap.size]? = some (.cells #[.int .i64 mo] 3 (0, 0)) := fun W' h =>
      (h.block w.heap.size (by omega) (by rintro (h | h) <;> omega)).trans hcm
    have hge : (pre.length + 1 < mo ∧ decide ((mo : Int) ≤ (pre.length : Int) + 1) = false) ∨ (pre.length + 1 = mo ∧ decide ((mo : Int) ≤ (pre.length : Int) + 1) = true) := by
      by_cases h : pre.length + 1 < mo
      · exact .inl ⟨h, by simp; omega⟩
      · exact .inr ⟨by omega, by simp; omega⟩
    clear hit eg hw1 hbm hbk hbv hm hB1 hseq hx hcm hmem
    gi_wp2
    refine wpIn_region_tree 8 [0, 1, 4, 5] (.fork 2 (.fork 3 (.step 6 (.step 7 (.step 8 (.step 9 .done)))) 6 (.step 3 (.step 7 (.step 8 (.step 9 .done))))) 6 (.step 2 (.step 3 (.step 7 (.step 8 (.step 9 .done)))))) (fun w' => w'.cell? ⟨bk, 0, none⟩ = some kb ∧ w'.cell? ⟨bv, 0, none⟩ = some vb) (by kernel_rfl) (by kernel_rfl) (fun _ d _ _ _ h => by cases d <;> exact h) ?_ ?_ ?_
    · exact P0.S
    · rintro ⟨a, w, h⟩; exact h
    repeat
      refine wpReads_take (v := ?_) rfl (by rfl) ?_ ?_
      rotate_left
      · rintro w' ⟨hS1, hS2⟩
        go_simp
        try with_reducible rfl
      simp only [Act.put, List.setIfInBounds_toArray, List.set_cons_zero, List.set_cons_succ]
    refine wpReads_nil ?_
    refine wpTree_fork ?_ ?_
    · -- 2
      refine wpTree_run (v := ?_) (w' := ?_) rfl (by rfl) ?_ (.inr ?_) ?_
      rotate_left 2
      · go_simp
        refine ⟨?_, ?_⟩ <;> with_reducible rfl
      · exact (P0.alloc (by omega) _).S
      simp only [Act.put, List.setIfInBounds_toArray, List.set_cons_zero, List.set_cons_succ]
      have Pa := P0.alloc (by omega) (.cells #[.int .i64 k] 3)
      refine wpTree_fork ?_ ?_
      · -- 2 3 6 7
        refine wpTree_step rfl (fun KK hKK => ?_)
        refine step_append_rowAt _ rfl (.tmp 19) (.tmp 21) 26 rfl M 3 i0 (.int .i64 0) 1 8 Try.underlying26 hi hz0 hz1 hz2 rfl (by decide) _ K.length (zI K) rfl Pa.rk 3 _ 1 [Value.int .i64 k] rfl (row_new _ _ _ _ rfl) (by simp) (by simp [Value.oneCell']) (by unfold maxLen; omega) (by omega) Pa.hM ?_
        intro a1 p1 w1 ho1 hg1 hat1
        have P1 := Pa.appK (by omega) (by omega) (by omega) hg1 ho1 hat1
        refine hKK.out _ _ (.inr P1.S) ?_
        clear hKK KK
        simp only [Act.put, List.setIfInBounds_toArray, List.set_cons_zero, List.set_cons_succ]
        refine wpTree_run (v := ?_) (w' := ?_) rfl (by rfl) ?_ (.inr ?_) ?_
        rotate_left 2
        · go_simp
          refine ⟨?_, ?_⟩ <;> with_reducible rfl
        · exact (P1.alloc (by omega) _).S
        simp only [Act.put, List.setIfInBounds_toArray, List.set_cons_zero, List.set_cons_succ]
        have Pb := P1.alloc (by omega) (.cells #[.int .i64 v] 3)
        refine wpTree_step rfl (fun KK hKK => ?_)
        refine step_append_rowAt _ rfl (.tmp 23) (.tmp 25) 26 rfl M 3 i0 (.int .i64 0) 1 8 Try.underlying26 hi hz0 hz1 hz2 rfl (by decide) _ V.length (zI V) rfl Pb.rv 3 _ 1 [Value.int .i64 v] rfl (row_new _ _ _ _ rfl) (by simp) (by simp [Value.oneCell']) (by unfold maxLen; omega) (by omega) Pb.hM ?_
        intro a2 p2 w2 ho2 hg2 hat2
        have P2 := Pb.appV (by omega) (by omega) (by omega) hg2 ho2 hat2
        refine hKK.out _ _ (.inr P2.S) ?_
        clear hKK KK
        simp only [Act.put, List.setIfInBounds_toArray, List.set_cons_zero, List.set_cons_succ]
        obtain ⟨cs1, fs1, cs2, fs2⟩ := P2.stores hne
        refine wpTree_step rfl (fun KK hKK => ?_)
        go_simp
        refine hKK.out _ _ (.inl (Nat.le_refl _)) ?_
        clear hKK KK
        try simp only [Act.put, List.setIfInBounds_toArray, List.set_cons_zero, List.set_cons_succ]
        refine wpTree_step rfl (fun KK hKK => ?_)
        go_simp
        refine hKK.out _ _ (.inl (by decide)) ?_
        clear hKK KK
        refine wpTree_done ?_
        have P3 := P2.fin (by omega) (by omega) hne (by omega) (by omega)
        simp only [hKl, hVl] at P3
        generalize ((w2.setCell ⟨bk, 0, none⟩ (.slice a1 (pre.length + 1) p1)).setCell ⟨bv, 0, none⟩ (.slice a2 (pre.length + 1) p2)) = W5 at P3 ⊢
        have hck := P3.S.1
        have hmc := hbmd _ P3.keep
        have P4 := hgoal _ _ _ P3
        have hk4 := P3.keep
        clear P3 P2 P0
        rcases hge with ⟨hlt, hd⟩ | ⟨hlt, hd⟩
        · gi_wp2
          exact ⟨hk4, by simpa using hlt, hbmh _ hk4, _, _, P4.self⟩
        · gi_wp2
          exact ⟨hk4, rfl, by simpa using hlt, M, _, _, P4.self⟩
      · -- 2 6 3 7
        refine wpTree_run (v := ?_) (w' := ?_) rfl (by rfl) ?_ (.inr ?_) ?_
        rotate_left 2
        · go_simp
          refine ⟨?_, ?_⟩ <;> with_reducible rfl
        · exact (Pa.alloc (by omega) _).S
        simp only [Act.put, List.setIfInBounds_toArray, List.set_cons_zero, List.set_cons_succ]
        have Pb := Pa.alloc (by omega) (.cells #[.int .i64 v] 3)
        refine wpTree_step rfl (fun KK hKK => ?_)
        refine step_append_rowAt _ rfl (.tmp 19) (.tmp 21) 26 rfl M 3 i0 (.int .i64 0) 1 8 Try.underlying26 hi hz0 hz1 hz2 rfl (by decide) _ K.length (zI K) rfl Pb.rk 3 _ 1 [Value.int .i64 k] rfl (row_in ((Below.heap_alloc _ _ _ (by simp)).trans (World.alloc_heap_new W.drew _))) (by simp) (by simp [Value.oneCell']) (by unfold maxLen; omega) (by omega) Pb.hM ?_
        intro a1 p1 w1 ho1 hg1 hat1
        have P1 := Pb.appK (by omega) (by omega) (by omega) hg1 ho1 hat1
        refine hKK.out _ _ (.inr P1.S) ?_
        clear hKK KK
        simp only [Act.put, List.setIfInBounds_toArray, List.set_cons_zero, List.set_cons_succ]
        refine wpTree_step rfl (fun KK hKK => ?_)
        refine step_append_rowAt _ rfl (.tmp 23) (.tmp 25) 26 rfl M 3 i0 (.int .i64 0) 1 8 Try.underlying26 hi hz0 hz1 hz2 rfl (by decide) _ V.length (zI V) rfl P1.rv 3 _ 1 [Value.int .i64 v] rfl ((row_in (by have := World.alloc_heap_new (W.drew.alloc (.cells #[.int .i64 k] 3)) (.cells #[.int .i64 v] 3); rwa [World.size_alloc] at this)).off hg1 (by first | (simp; done) | (simp; omega)) (fun e => by have := (own_lt P0.rk e.symm).2; first | omega | (simp at this; done) | (simp at this; omega))) (by simp) (by simp [Value.oneCell']) (by unfold maxLen; omega) (by omega) P1.hM ?_
        intro a2 p2 w2 ho2 hg2 hat2
        have P2 := P1.appV (by omega) (by omega) (by omega) hg2 ho2 hat2
        refine hKK.out _ _ (.inr P2.S) ?_
        clear hKK KK
        simp only [Act.put, List.setIfInBounds_toArray, List.set_cons_zero, List.set_cons_succ]
        obtain ⟨cs1, fs1, cs2, fs2⟩ := P2.stores hne
        refine wpTree_step rfl (fun KK hKK => ?_)
        go_simp
        refine hKK.out _ _ (.inl (Nat.le_refl _)) ?_
        clear hKK KK
        try simp only [Act.put, List.setIfInBounds_toArray, List.set_cons_zero, List.set_cons_succ]
        refine wpTree_step rfl (fun KK hKK => ?_)
        go_simp
        refine hKK.out _ _ (.inl (by decide)) ?_
        clear hKK KK
        refine wpTree_done ?_
        have P3 := P2.fin (by omega) (by omega) hne (by omega) (by omega)
        simp only [hKl, hVl] at P3
        generalize ((w2.setCell ⟨bk, 0, none⟩ (.slice a1 (pre.length + 1) p1)).setCell ⟨bv, 0, none⟩ (.slice a2 (pre.length + 1) p2)) = W5 at P3 ⊢
        have hck := P3.S.1
        have hmc := hbmd _ P3.keep
        have P4 := hgoal _ _ _ P3
        have hk4 := P3.keep
        clear P3 P2 P0
        rcases hge with ⟨hlt, hd⟩ | ⟨hlt, hd⟩
        · gi_wp2
          exact ⟨hk4, by simpa using hlt, hbmh _ hk4, _, _, P4.self⟩
        · gi_wp2
          exact ⟨hk4, rfl, by simpa using hlt, M, _, _, P4.self⟩
    · -- 6 2 3 7
      refine wpTree_run (v := ?_) (w' := ?_) rfl (by rfl) ?_ (.inr ?_) ?_
      rotate_left 2
      · go_simp
        refine ⟨?_, ?_⟩ <;> with_reducible rfl
      · exact (P0.alloc (by omega) _).S
      simp only [Act.put, List.setIfInBounds_toArray, List.set_cons_zero, List.set_cons_succ]
      have Pa := P0.alloc (by omega) (.cells #[.int .i64 v] 3)
      refine wpTree_run (v := ?_) (w' := ?_) rfl (by rfl) ?_ (.inr ?_) ?_
      rotate_left 2
      · go_simp
        refine ⟨?_, ?_⟩ <;> with_reducible rfl
      · exact (Pa.alloc (by omega) _).S
      simp only [Act.put, List.setIfInBounds_toArray, List.set_cons_zero, List.set_cons_succ]
      have Pb := Pa.alloc (by omega) (.cells #[.int .i64 k] 3)
      refine wpTree_step rfl (fun KK hKK => ?_)
      refine step_append_rowAt _ rfl (.tmp 19) (.tmp 21) 26 rfl M 3 i0 (.int .i64 0) 1 8 Try.underlying26 hi hz0 hz1 hz2 rfl (by decide) _ K.length (zI K) rfl Pb.rk 3 _ 1 [Value.int .i64 k] rfl (row_in (by have := World.alloc_heap_new (W.drew.alloc (.cells #[.int .i64 v] 3)) (.cells #[.int .i64 k] 3); rwa [World.size_alloc] at this)) (by simp) (by simp [Value.oneCell']) (by unfold maxLen; omega) (by omega) Pb.hM ?_
      intro a1 p1 w1 ho1 hg1 hat1
      have P1 := Pb.appK (by omega) (by omega) (by omega) hg1 ho1 hat1
      refine hKK.out _ _ (.inr P1.S) ?_
      clear hKK KK
      simp only [Act.put, List.setIfInBounds_toArray, List.set_cons_zero, List.set_cons_succ]
      refine wpTree_step rfl (fun KK hKK => ?_)
      refine step_append_rowAt _ rfl (.tmp 23) (.tmp 25) 26 rfl M 3 i0 (.int .i64 0) 1 8 Try.underlying26 hi hz0 hz1 hz2 rfl (by decide) _ V.length (zI V) rfl P1.rv 3 _ 1 [Value.int .i64 v] rfl ((row_in ((Below.heap_alloc _ _ _ (by simp)).trans (World.alloc_heap_new W.drew _))).off hg1 (by first | (simp; done) | (simp; omega)) (fun e => by have := (own_lt P0.rk e.symm).2; first | omega | (simp at this; done) | (simp at this; omega))) (by simp) (by simp [Value.oneCell']) (by unfold maxLen; omega) (by omega) P1.hM ?_
      intro a2 p2 w2 ho2 hg2 hat2
      have P2 := P1.appV (by omega) (by omega) (by omega) hg2 ho2 hat2
      refine hKK.out _ _ (.inr P2.S) ?_
      clear hKK KK
      simp only [Act.put, List.setIfInBounds_toArray, List.set_cons_zero, List.set_cons_succ]
      obtain ⟨cs1, fs1, cs2, fs2⟩ := P2.stores hne
      refine wpTree_step rfl (fun KK hKK => ?_)
      go_simp
      refine hKK.out _ _ (.inl (Nat.le_refl _)) ?_
      clear hKK KK
      try simp only [Act.put, List.setIfInBounds_toArray, List.set_cons_zero, List.set_cons_succ]
      refine wpTree_step rfl (fun KK hKK => ?_)
      go_simp
      refine hKK.out _ _ (.inl (by decide)) ?_
      clear hKK KK
      refine wpTree_done ?_
      have P3 := P2.fin (by omega) (by omega) hne (by omega) (by omega)
      simp only [hKl, hVl] at P3
      generalize ((w2.setCell ⟨bk, 0, none⟩ (.slice a1 (pre.length + 1) p1)).setCell ⟨bv, 0, none⟩ (.slice a2 (pre.length + 1) p2)) = W5 at P3 ⊢
      have hck := P3.S.1
      have hmc := hbmd _ P3.keep
      have P4 := hgoal _ _ _ P3
      have hk4 := P3.keep
      clear P3 P2 P0
      rcases hge with ⟨hlt, hd⟩ | ⟨hlt, hd⟩
      · gi_wp2
        exact ⟨hk4, by simpa using hlt, hbmh _ hk4, _, _, P4.self⟩
      · gi_wp2
        exact ⟨hk4, rfl, by simpa using hlt, M, _, _, P4.self⟩
  case done =>
    rintro D M W hD ⟨hlen, hcm, kb, vb, hP⟩ hK
    have hck := cell_of_block hP.ck 0
    have hcv := cell_of_block hP.cv 0
    simp at hck hcv
    gi_wp2
    gi_quiet (fail)
    gi_wp2
    refine ⟨by simp, .inl ⟨_, _, rfl, run_takeDeferred hK, ?_⟩⟩
    have hT := (hP.drewN _).turn (RecTurn.putObj (B0 := w1.heap.size) (W.drewN nq) (.deferred none) hK rfl hD) (by omega) (by omega) (by omega)
    refine ⟨.tuple #[kb, vb], ?_, kb, vb, rfl, ?_⟩
    · simp [results, Try.f13, go_sem]
    · simp only [Int.toNat_natCast, List.take_of_length_le (Nat.le_of_lt hlen)]
      exact ⟨by simpa using RowAt.of_owns hT.rk, by simpa using RowAt.of_owns hT.rv, hT.below⟩
  case stop =>
    rintro D c pre W hD hpre ⟨rfl, hlen, M, kb, vb, hP⟩ hK
    have hck := cell_of_block hP.ck 0
    have hcv := cell_of_block hP.cv 0
    simp at hck hcv
    gi_wp2
    gi_quiet (fail)
    gi_wp2
    refine ⟨by simp, .inl ⟨_, _, rfl, run_takeDeferred hK, ?_⟩⟩
    have hT := (hP.drewN _).turn (RecTurn.putObj (B0 := w1.heap.size) (W.drewN nq) (.deferred none) hK rfl hD) (by omega) (by omega) (by omega)
    refine ⟨.tuple #[kb, vb], ?_, kb, vb, rfl, ?_⟩
    · simp [results, Try.f13, go_sem]
    · have hpe : xs.take mo = pre := by rw [← hlen]; exact (List.prefix_iff_eq_take.1 hpre).symm
      simp only [Int.toNat_natCast, hpe]
      exact ⟨by simpa using RowAt.of_owns hT.rk, by simpa using RowAt.of_owns hT.rv, hT.below⟩
end Go.Proofs.Ytjahfjfanaocpaa
