/- the iterator of a table -/
import Derived.Test.YtjahfjfanaocpaaI
import Derived.Test.YtjahfjfanaocpaaR
import Derived.Shelf.RegionOpen
import Derived.LoopNIn
import Derived.LoopIn
namespace Go.Proofs.Ytjahfjfanaocpaa
open Go.RowKit Go.Maps Go.Sort Go.Shelf
attribute [local go_sem] Oper.semAt_some

abbrev encP (p : Int × Value) : Array Value := #[.int .i64 p.1, p.2]

theorem filter_snoc {α : Type} (l : List α) (f : α → Bool) (i : Nat) (h : i < l.length) : (l.take (i + 1)).filter f = (l.take i).filter f ++ if f l[i] then [l[i]] else [] := by
  rw [List.take_succ_eq_append_getElem h, List.filter_append, List.filter_cons, List.filter_nil]

/-- the element at a key of a sorted table -/
theorem get_of_mem {β : Type} {l : List (Int × β)} (s : Srt l) {q : Int × β} (hm : q ∈ l) : get? q.1 l = some q.2 := by
  rcases parts q.1 l s with ⟨lo, hi, a, b, e⟩ | ⟨lo, hi, u, a, b, e⟩
  · exfalso
    rw [e] at hm
    rcases List.mem_append.1 hm with h' | h'
    · have := a _ h'; omega
    · have := b _ h'; omega
  · have hu : q.2 = u := by
      have hm2 : q ∈ lo ++ (q.1, u) :: hi := e ▸ hm
      rcases List.mem_append.1 hm2 with h' | h'
      · have := a _ h'; omega
      · rcases List.mem_cons.1 h' with h' | h'
        · exact congrArg Prod.snd h'
        · have := b _ h'; omega
    rw [hu, e]
    exact get_yes a

theorem lookup_run {w : World} {b n : Nat} {l : List (Int × Value)} (h : w.ownsMap Try.prog 3 RV b n (dat l)) {k : Int} {v : Value} (hk : (Lit.int .i64 k).wf = true) (hg : get? k l = some v) :
    (Instr.lookup 50 (.map (some b)) (.int .i64 k) false).run Try.prog w = .ok v w := by
  obtain ⟨v', ps, hrun, hv⟩ := h.lookup kint Try.underlying50 (zero3 _) (zd := .held (.int .i64 0)) (zp := []) rfl (keyOf_int_mk Try.underlying3 hk)
  rw [dat_atKey, hg] at hv
  simp [RV] at hv
  rw [hrun, hv.1]

theorem filter_snoc_prefix {α : Type} (l : List α) (f : α → Bool) (i : Nat) (h : i < l.length) (hf : f l[i] = true) : (l.take i).filter f ++ [l[i]] <+: l.filter f := by
  have h1 : (l.take (i + 1)).filter f = (l.take i).filter f ++ [l[i]] := by rw [filter_snoc l f i h, hf]; rfl
  rw [← h1]
  exact (List.take_prefix _ _).filter f

set_option maxRecDepth 100000 in
set_option maxHeartbeats 2000000 in
theorem ranged1_iter (w : World) (p b n : Nat) (l : List (Int × Value)) (Bt Bm : Nat) (mf : Nat) (cap : Array Value) (mt : Int → Bool) (T : Nat → Prop) (Cap : Nat → Prop)
    (hT : ∀ b, T b → b < w.heap.size) (hTm : ¬ T Bm) (hBt : w.cell? ⟨Bt, 0, none⟩ = some (.pointer (some ⟨p, 0, none⟩))) (hBm : w.cell? ⟨Bm, 0, none⟩ = some (.func (.func mf) #[] cap))
    (hCapT : ∀ b, Cap b → ¬ T b ∧ b < w.heap.size) (em : ∀ args w, (callFunc mf args).run Try.prog w = .ok (.enter mf args) w)
    (hmt : ∀ (W : World) (k : Int), (∀ b, Cap b → W.heap[b]? = w.heap[b]?) → Calls Try.prog mf (#[.int .i64 k] ++ cap) W fun e W' => e = .returned (.bool (mt k)) ∧ W = W')
    (hb8 : l.length * 8 ≤ 140737488355328) (ht : TableAt w p b n l) :
    IterM Try.prog 32 #[.pointer (some ⟨Bt, 0, none⟩), .pointer (some ⟨Bm, 0, none⟩)] encP (l.filter fun q => mt q.1) T w := by
  intro lr J Jx W hW hJ hJx hY h0
  have lt := World.block_lt_of_cell? w _ hBt
  have lm := World.block_lt_of_cell? w _ hBm
  have ht1 := ht.below hW
  have c1 : W.cell? ⟨Bt, 0, none⟩ = _ := (hW.cell (p := ⟨Bt, 0, none⟩) lt).trans hBt
  have cm : W.cell? ⟨Bm, 0, none⟩ = _ := (hW.cell (p := ⟨Bm, 0, none⟩) lm).trans hBm
  have cT := ht1.cell
  have hcl := clone_any b n l W ht1.map
  have f33 : Fence.wide.fn 33 := trivial
  have f24 : Fence.wide.fn 24 := trivial
  have f23 : Fence.wide.fn 23 := trivial
  have fmf : Fence.wide.fn mf := trivial
  have hWs := hW.size
  refine callsIn_of_wp Try.func32 rfl trivial ?_ rfl
  simp only [Try.ntmps32, List.size_toArray, List.length_cons, List.length_nil, Nat.reduceAdd, Nat.reduceSub, Array.replicate_succ, Array.replicate_zero, List.push_toArray, List.append_toArray, List.nil_append, List.cons_append]
  gi_wp2_with (first
    | (gi_at_call 33; refine (callsIn_wide.2 hcl).mono ?_; rintro e w1 ⟨rfl, hm1, hB1⟩)
    | (gi_at_call 24; refine (callsIn_wide.2 (mapsKeys_any _ _)).mono ?_; rintro e w2 ⟨rfl, rfl⟩)
    | (gi_at_call 23; refine (callsIn_wide.2 (sortedKeys_any W.heap.size n l ht.srt hb8 _ w1.heap.size (by go_simp) (hm1.alloc _))).mono ?_; rintro e w3 ⟨ka, kcap, rfl, hrow, hB3⟩))
  clear c1 cT hcl
  -- what the key row and the copy are in w3
  have hs1 := hB1.size
  have hs3 := hB3.size
  simp only [World.size_alloc] at hs3
  have hB03 : Below W.heap.size W w3 := hB1.trans (((Below.refl _ w1).alloc hs1 _).trans (hB3.mono (by simp; omega)))
  have hg13 : w1.grownBy w3 none := by
    have hg2 : (w1.alloc (.cells #[.map (some W.heap.size)] 50)).grownBy w3 none := grown_below hB3 (Nat.le_refl _)
    exact (grown_below ((Below.refl _ w1).alloc (Nat.le_refl _) _) (Nat.le_refl _)).trans hg2
  have hm3 := hm1.kept hg13 (by simp)
  have hJ0 := h0 w3 hB03
  generalize hM : w3.heap.size = M at hJ0 hs3
  gi_loopw [18] (fun i wr => ∃ k : Nat, k ≤ l.length ∧ i = .int .i64 k ∧ J M ((l.take k).filter fun q => mt q.1) wr ∧ Keep M T w3 wr) (fun i _ => l.length - (intOf i).toNat)
  case atStart => exact ⟨0, Nat.zero_le _, rfl, by simpa using hJ0, Keep.refl _ _ _⟩
  case round =>
    obtain ⟨k, hk, rfl, hJs, hK⟩ := hrel
    have hMs := hK.size
    rw [hM] at hMs
    by_cases hlt : k < l.length
    · rcases hrow.2 with ⟨_, h0'⟩ | ⟨g, kcap', cur, he, hbase, hcur, hn1, hn2, hn3, hn4⟩
      · omega
      · cases he
        simp only [World.size_alloc] at hbase
        have hgM : g < M := by rw [← hM]; exact (Array.getElem?_eq_some_iff.1 hcur).1
        have hbm : wr.cell? ⟨Bm, 0, none⟩ = some (.func (.func mf) #[] cap) := by
          rw [← cm, ← hB03.cell (p := ⟨Bm, 0, none⟩) (by show Bm < _; omega)]
          simp only [World.cell?, hK.block Bm (by omega) hTm]
        have hck : wr.cell? ⟨g, k, none⟩ = some (.int .i64 l[k].1) := by
          have e1 := hK.block g hgM (fun h => by have := hT _ h; omega)
          simp only [World.cell?, e1, hcur]
          have e2 : (cur.toList.take (l.length * 1))[k]? = (zI (l.map (·.1)))[k]? := by rw [hn4]
          rw [List.getElem?_take_of_lt (by omega)] at e2
          simpa [hlt] using e2
        have hmr : wr.ownsMap Try.prog 3 RV W.heap.size n (dat l) := by
          obtain ⟨es, clock, hb, Ft, hs, hD⟩ := hm3
          exact ⟨es, clock, (hK.block _ (by omega) (fun h => by have := hT _ h; omega)).trans hb, Ft, hs, hD⟩
        have hmem : l[k] ∈ l := List.getElem_mem hlt
        have hlk := lookup_run hmr (ht.wf _ hmem) (get_of_mem ht.srt hmem)
        have hmw := hmt wr l[k].1 (fun b hb => by
          have h1 := hCapT b hb
          rw [hK.block b (by omega) h1.1, hB03.block b (by omega), hW.block b (by omega)])
        have hem := em
        clear hcur hn4 hm3 hmr hm1 hrow hg13 hB03 hB3 hB1 cm hmt em h0
        cases hmk : mt l[k].1 with
        | false =>
          rw [hmk] at hmw
          gi_wp2_with (refine (callsIn_wide.2 hmw).mono ?_; rintro e w5 ⟨rfl, rfl⟩)
          refine ⟨fun _ h => (by cases h), ?_⟩
          gi_wp2
          go_roundw
          case rel => exact ⟨k + 1, by omega, by go_num, by rw [filter_snoc l _ k hlt, hmk]; simpa using hJs, hK⟩
          case measure => simp [intOf]; omega
        | true =>
          rw [hmk] at hmw
          obtain ⟨fn, tmps, assign, body, hy, hR⟩ := hY M _ l[k] wr (by omega) (filter_snoc_prefix l (fun q => mt q.1) k hlt hmk) hMs hJs
          gi_wp2_with (refine (callsIn_wide.2 hmw).mono ?_; rintro e w5 ⟨rfl, rfl⟩)
          refine hR.mono ?_
          rintro e W3 (⟨rfl, hJ3, hk3⟩ | ⟨rfl, hJx3⟩)
          · gi_wp2
            go_roundw
            case rel => exact ⟨k + 1, by omega, by go_num, by rw [filter_snoc l _ k hlt, hmk]; simpa using hJ3, hK.trans hk3⟩
            case measure => simp [intOf]; omega
          · gi_wp2
            refine bodyPost_ret (results_none rfl _ _ _) rfl ?_
            exact ⟨⟨_, rfl⟩, .inr ⟨_, filter_snoc_prefix l (fun q => mt q.1) k hlt hmk, hJx3⟩⟩
    · obtain rfl : k = l.length := by omega
      gi_wp2
      go_end0
      rw [List.take_length] at hJs
      exact ⟨⟨_, rfl⟩, .inl ⟨M, hJs⟩⟩

set_option maxHeartbeats 400000 in
/-- the iterator of no table -/
theorem ranged1_iter_nil (w : World) (Bt : Nat) (x : Value) (T : Nat → Prop) (hBt : w.cell? ⟨Bt, 0, none⟩ = some (.pointer none)) :
    IterM Try.prog 32 #[.pointer (some ⟨Bt, 0, none⟩), x] encP [] T w := by
  intro lr J Jx W hW hJ hJx hY h0
  have lt := World.block_lt_of_cell? w _ hBt
  have c1 : W.cell? ⟨Bt, 0, none⟩ = _ := (hW.cell (p := ⟨Bt, 0, none⟩) lt).trans hBt
  have hJ0 := h0 W (Below.refl _ _)
  refine callsIn_of_wp Try.func32 rfl trivial ?_ rfl
  simp only [Try.ntmps32, List.size_toArray, List.length_cons, List.length_nil, Nat.reduceAdd, Nat.reduceSub, Array.replicate_succ, Array.replicate_zero, List.push_toArray, List.append_toArray, List.nil_append, List.cons_append]
  gi_wp2
  first
    | (refine bodyPost_ret (results_none rfl _ _ _) rfl ?_; exact ⟨⟨_, rfl⟩, .inl ⟨_, hJ0⟩⟩)
    | (go_ret2; exact ⟨⟨_, rfl⟩, .inl ⟨_, hJ0⟩⟩)
    | go_goals
end Go.Proofs.Ytjahfjfanaocpaa
