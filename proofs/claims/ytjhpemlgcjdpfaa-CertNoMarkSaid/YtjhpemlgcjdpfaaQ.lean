/- the votes on one thing, told -/
import Derived.Test.YtjhpemlgcjdpfaaL
import Derived.Test.YtjhpemlgcjdpfaaR
import Derived.OwnWalkIn
import Derived.Shelf.RegionOpen
import Derived.LoopNIn
import Derived.LoopIn
namespace Go.Proofs.Ytjhpemlgcjdpfaa
open Go.RowKit
attribute [local go_sem] Oper.semAt_some

section
variable {P : Program} {ops : Array Oper} {rest : List Oper} {o : Oper} {a : Act} {w w' : World} {Q : Exit → Act → World → Prop}
theorem exec_store_row (ty : TypeId) (x y : Operand) (ho : o.op = .store ty x y)
    (g : Nat) (cells : Array Value) (hx : a.eval x = .pointer (some ⟨g, 0, none⟩)) (hy : a.eval y = .agg cells)
    (t : TypeId) (old : Array Value) (hg : w.heap[g]? = some (.cells old t (0, 0))) (hi : (P.info? ty).map (·.size) = some cells.size)
    (hold : old.size = cells.size) (h1 : cells.all (·.oneCell') = true) : (execOp a.eval o).run P w = .ok .skip (w.setRow g cells) := by
  unfold execOp
  simp only [ho, hx, hy, Instr.storeAt, Instr.sureAddr, Sem.run_bind, Sem.run_pure, Result.andThen_ok, run_storeVar_row w g t ty old cells hg hi hold h1]
theorem exec_allocT (ty : TypeId) (ho : o.op = .alloc ty) (cs : Array Value) (hz : (P.info? ty).map (fun i => i.zero.map Value.cells) = some (some cs)) :
    (execOp a.eval o).run P w = .ok (.value (.pointer (some ⟨w.heap.size, 0, none⟩))) (w.alloc (.cells cs ty)) := by
  unfold execOp
  simp only [ho, Sem.run_bind, run_allocT w ty cs hz, Result.andThen_ok, Sem.run_pure]
theorem wpList_loadG (ty : TypeId) (x : Operand) (ho : o.op = .load ty x) (hw : Region.wanted o (yielded ops a.tmps) = true)
    (b off : Nat) (hx : a.eval x = .pointer (some ⟨b, off, none⟩)) (cs : List Value) (d : TypeDesc) (hc : w.rangeAt b off cs)
    (hu : P.underlying ty = some d) (hd : d.isRow = true) (hi : (P.info? ty).map (·.size) = some cs.length) (h : wpList P ops Q rest (a.put o.dst (.agg cs.toArray)) w) : wpList P ops Q (o :: rest) a w := by
  unfold wpList
  rw [if_pos hw]
  unfold Oper.wp
  rw [exec_load_mid ty x ho b off hx cs d hc hu hd hi]
  exact .inl h
section
variable {F : Fence} {m : Nat}
theorem wpListIn_yield (hw : Region.wanted o (yielded ops a.tmps) = true) (hd : ∀ c, o.op ≠ .defer c) (hab : o.about P w a.eval = none) {v : Value} (hy : (execOp a.eval o).run P w = .ok (.value v) w')
    (h : wpListIn F m P ops Q rest (a.put o.dst v) w') : wpListIn F m P ops Q (o :: rest) a w := by
  unfold wpListIn
  rw [if_pos hw]
  refine ⟨fun f hf => (by rw [hab] at hf; cases hf), ?_⟩
  rw [Oper.semAt_plain F _ _ hd, hy]
  exact h
theorem wpListIn_pass (hw : Region.wanted o (yielded ops a.tmps) = true) (hd : ∀ c, o.op ≠ .defer c) (hab : o.about P w a.eval = none) (hy : (execOp a.eval o).run P w = .ok .skip w')
    (h : wpListIn F m P ops Q rest (a.put o.dst undef) w') : wpListIn F m P ops Q (o :: rest) a w := by
  unfold wpListIn
  rw [if_pos hw]
  refine ⟨fun f hf => (by rw [hab] at hf; cases hf), ?_⟩
  rw [Oper.semAt_plain F _ _ hd, hy]
  exact h
theorem wpListIn_loadG (ty : TypeId) (x : Operand) (ho : o.op = .load ty x) (hw : Region.wanted o (yielded ops a.tmps) = true)
    (b off : Nat) (hx : a.eval x = .pointer (some ⟨b, off, none⟩)) (cs : List Value) (d : TypeDesc) (hc : w.rangeAt b off cs)
    (hu : P.underlying ty = some d) (hd : d.isRow = true) (hi : (P.info? ty).map (·.size) = some cs.length) (h : wpListIn F m P ops Q rest (a.put o.dst (.agg cs.toArray)) w) : wpListIn F m P ops Q (o :: rest) a w :=
  wpListIn_yield hw (by rw [ho]; nofun) (by simp [Oper.about, ho]) (exec_load_mid ty x ho b off hx cs d hc hu hd hi) h
theorem wpListIn_allocT (ty : TypeId) (ho : o.op = .alloc ty) (hw : Region.wanted o (yielded ops a.tmps) = true) (cs : Array Value) (hz : (P.info? ty).map (fun i => i.zero.map Value.cells) = some (some cs))
    (h : wpListIn F m P ops Q rest (a.put o.dst (.pointer (some ⟨w.heap.size, 0, none⟩))) (w.alloc (.cells cs ty))) : wpListIn F m P ops Q (o :: rest) a w :=
  wpListIn_yield hw (by rw [ho]; nofun) (by simp [Oper.about, ho]) (exec_allocT ty ho cs hz) h
theorem wpListIn_store_any (ty : TypeId) (x y : Operand) (ho : o.op = .store ty x y) (hw : Region.wanted o (yielded ops a.tmps) = true)
    (g : Nat) (cells : Array Value) (hx : a.eval x = .pointer (some ⟨g, 0, none⟩)) (hy : a.eval y = .agg cells)
    (t : TypeId) (old : Array Value) (hg : w.heap[g]? = some (.cells old t (0, 0))) (hi : (P.info? ty).map (·.size) = some cells.size)
    (hold : old.size = cells.size) (h1 : cells.all (·.oneCell') = true)
    (h : ∀ w', w.grownBy w' (some g) → w'.heap[g]? = some (.cells cells t (0, 0)) → wpListIn F m P ops Q rest (a.put o.dst undef) w') : wpListIn F m P ops Q (o :: rest) a w :=
  wpListIn_pass hw (by rw [ho]; nofun) (by simp [Oper.about, ho]) (exec_store_row ty x y ho g cells hx hy t old hg hi hold h1)
    (h _ ⟨rfl, rfl, rfl, by simp, fun k _ hk => setRow_other w g k _ (fun e => hk (by rw [e]))⟩ (setRow_heap w g old cells t (0, 0) hg))
theorem wpListIn_store_row (ty : TypeId) (x y : Operand) (ho : o.op = .store ty x y) (hw : Region.wanted o (yielded ops a.tmps) = true)
    (g : Nat) (cells : Array Value) (hx : a.eval x = .pointer (some ⟨g, 0, none⟩)) (hy : a.eval y = .agg cells)
    (t : TypeId) (old : Array Value) (hg : w.heap[g]? = some (.cells old t (0, 0))) (hi : (P.info? ty).map (·.size) = some cells.size)
    (hold : old.size = cells.size) (h1 : cells.all (·.oneCell') = true)
    (h : wpListIn F m P ops Q rest (a.put o.dst undef) (w.setRow g cells)) : wpListIn F m P ops Q (o :: rest) a w :=
  wpListIn_pass hw (by rw [ho]; nofun) (by simp [Oper.about, ho]) (exec_store_row ty x y ho g cells hx hy t old hg hi hold h1) h
end
end

theorem grown_below {w w' : World} {B : Nat} (h : Below B w w') (hB : w.heap.size ≤ B) : w.grownBy w' none := ⟨h.os, h.tape, h.output, h.size, fun k hk _ => h.block k (by omega)⟩

/-! ### a row of votes -/
def votesC (l : List VoteM) : List Value := l.flatMap VoteM.cells
structure VotesAt (w : World) (e : TypeId) (v : Value) (l : List VoteM) : Prop where
  row : RowAt w e v l.length (votesC l)
  ok : ∀ x ∈ l, x.Ok
theorem votesC_at : ∀ (l : List VoteM), (∀ x ∈ l, x.Ok) → ∀ (i : Nat) (h : i < l.length) (j : Nat), j < 68 → (votesC l)[i * 68 + j]? = l[i].cells[j]?
  | [], _, i, h, _, _ => by simp at h
  | x :: r, hok, i, h, j, hj => by
    have hx : x.cells.length = 68 := VoteM.length (hok x (by simp))
    show (x.cells ++ votesC r)[i * 68 + j]? = _
    cases i with
    | zero => rw [List.getElem?_append_left (by omega)]; simp
    | succ i =>
      rw [List.getElem?_append_right (by omega), show (i + 1) * 68 + j - x.cells.length = i * 68 + j by omega, votesC_at r (fun y hy => hok y (by simp [hy])) i (by simpa using h) j hj]
      rfl
theorem votesC_length : ∀ (l : List VoteM), (∀ x ∈ l, x.Ok) → (votesC l).length = l.length * 68
  | [], _ => rfl
  | x :: r, hok => by
    show (x.cells ++ votesC r).length = _
    rw [List.length_append, VoteM.length (hok x (by simp)), votesC_length r (fun y hy => hok y (by simp [hy])), List.length_cons]
    omega
theorem votesC_one (l : List VoteM) : ∀ u ∈ votesC l, u.oneCell' = true := fun u hu => by
  obtain ⟨x, _, hx⟩ := List.mem_flatMap.1 hu
  exact VoteM.one u hx
theorem VotesAt.of_block {w w' : World} {e : TypeId} {v : Value} {l : List VoteM} (h : VotesAt w e v l) (hb : ∀ b, v.ownBlock = some b → w'.heap[b]? = w.heap[b]?) : VotesAt w' e v l := ⟨h.row.of_block hb, h.ok⟩
theorem VotesAt.below {w w' : World} {e : TypeId} {v : Value} {l : List VoteM} (h : VotesAt w e v l) {B : Nat} (hb : Below B w w') (hB : w.heap.size ≤ B) : VotesAt w' e v l := ⟨h.row.below hb hB, h.ok⟩
theorem VotesAt.range {w : World} {e : TypeId} {b off n cap : Nat} {l : List VoteM} (h : VotesAt w e (.slice (some ⟨b, off, none⟩) n cap) l) (i : Nat) (hi : i < l.length) : w.rangeAt b (off + i * 68) l[i].cells := fun j v hv => by
  have hj : j < 68 := by have := (List.getElem?_eq_some_iff.1 hv).1; rwa [VoteM.length (h.ok _ (List.getElem_mem hi))] at this
  rcases h.row with ⟨hn, hc, _⟩ | ⟨b', off', cap', cur, fr, he, h1, h2, h3, h4⟩
  · omega
  · cases he
    have h5 := votesC_at l h.ok i hi j hj
    rw [hv] at h5
    obtain ⟨hlt, h6⟩ := List.getElem?_eq_some_iff.1 h5
    have h7 := h4 (i * 68 + j) hlt
    rw [h6] at h7
    rw [Nat.add_assoc, cell_of_block h3]
    exact h7

/-- is a vote on this thing, and good? -/
def voted (n : Nat) (key : Nat → List Int) (kind slot view : Int) (sum : List Int) (v : VoteM) : Bool := v.kind == kind && (v.slot == slot && (v.view == view && (decide (v.sum = sum) && goodB n key v)))
/-- the nodes that are told -/
def toldF (n : Nat) (key : Nat → List Int) (kind slot view : Int) (sum : List Int) (l : List VoteM) : List Int := (l.filter (voted n key kind slot view sum)).map (·.frm)
abbrev encF (x : Int) : Array Value := #[.int .i64 x]
theorem told_snoc {n : Nat} {key : Nat → List Int} {kind slot view : Int} {sum : List Int} (l : List VoteM) (i : Nat) (h : i < l.length) :
    toldF n key kind slot view sum (l.take (i + 1)) = toldF n key kind slot view sum (l.take i) ++ if voted n key kind slot view sum l[i] then [l[i].frm] else [] := by
  unfold toldF
  rw [List.take_succ_eq_append_getElem h, List.filter_append, List.map_append, List.filter_cons, List.filter_nil]
  split <;> rfl
theorem told_prefix {n : Nat} {key : Nat → List Int} {kind slot view : Int} {sum : List Int} (l : List VoteM) (i m : Nat) (h : i < m) : toldF n key kind slot view sum (l.take (i + 1)) <+: toldF n key kind slot view sum (l.take m) := by
  unfold toldF
  exact ((List.take_prefix_take_left (by omega)).filter _).map _

theorem heap_new_at (w : World) (o : Obj) (n : Nat) (h : w.heap.size = n) : (w.alloc o).heap[n]? = some o := by subst h; exact World.alloc_heap_new w o
/-- the captured things -/
structure OnAt (w : World) (b0 b1 b2 b3 b4 b5 : Nat) (r v : Value) (kind slot view : Int) (sum : List Int) : Prop where
  h0 : w.heap[b0]? = some (.cells #[r] 27 (0, 0))
  h1 : w.heap[b1]? = some (.cells #[v] 22 (0, 0))
  h2 : w.heap[b2]? = some (.cells #[.int .i64 kind] 3 (0, 0))
  h3 : w.heap[b3]? = some (.cells #[.int .i64 slot] 3 (0, 0))
  h4 : w.heap[b4]? = some (.cells #[.int .i64 view] 3 (0, 0))
  h5 : w.heap[b5]? = some (.cells (zB sum).toArray 24 (0, 0))

set_option maxRecDepth 1000000 in
set_option maxHeartbeats 4000000 in
theorem on_any (w : World) (rp : Option Addr) (va : Option Addr) (vn vc : Nat) (kind slot view : Int) (sum : List Int) :
    Calls Try.prog 55 #[.pointer rp, .slice va vn vc, .int .i64 kind, .int .i64 slot, .int .i64 view, .agg (zB sum).toArray] w fun ee w' =>
      ee = .returned (.func (.func 77) #[] #[.pointer (some ⟨w.heap.size + 1, 0, none⟩), .pointer (some ⟨w.heap.size + 2, 0, none⟩), .pointer (some ⟨w.heap.size + 3, 0, none⟩), .pointer (some ⟨w.heap.size + 4, 0, none⟩), .pointer (some ⟨w.heap.size + 5, 0, none⟩), .pointer (some ⟨w.heap.size, 0, none⟩)]) ∧
      OnAt w' w.heap.size (w.heap.size + 1) (w.heap.size + 2) (w.heap.size + 3) (w.heap.size + 4) (w.heap.size + 5) (.pointer rp) (.slice va vn vc) kind slot view sum ∧ Below w.heap.size w w' ∧ w'.heap.size = w.heap.size + 6 := by
  go_enter Try.func55, Try.ntmps55
  go_wp2
  go_ret
  refine ⟨rfl, ⟨?_, ?_, ?_, ?_, ?_, ?_⟩, ?_, ?_⟩
  · refine (Below.heap_alloc _ _ _ (by simp only [World.size_alloc]; omega)).trans ((Below.heap_alloc _ _ _ (by simp only [World.size_alloc]; omega)).trans ((Below.heap_alloc _ _ _ (by simp only [World.size_alloc]; omega)).trans ((Below.heap_alloc _ _ _ (by simp only [World.size_alloc]; omega)).trans ((Below.heap_alloc _ _ _ (by simp)).trans (World.alloc_heap_new w _)))))
  · refine (Below.heap_alloc _ _ _ (by simp only [World.size_alloc]; omega)).trans ((Below.heap_alloc _ _ _ (by simp only [World.size_alloc]; omega)).trans ((Below.heap_alloc _ _ _ (by simp only [World.size_alloc]; omega)).trans ((Below.heap_alloc _ _ _ (by simp only [World.size_alloc]; omega)).trans (heap_new_at _ _ _ (by simp only [World.size_alloc])))))
  · refine (Below.heap_alloc _ _ _ (by simp only [World.size_alloc]; omega)).trans ((Below.heap_alloc _ _ _ (by simp only [World.size_alloc]; omega)).trans ((Below.heap_alloc _ _ _ (by simp only [World.size_alloc]; omega)).trans (heap_new_at _ _ _ (by simp only [World.size_alloc]))))
  · refine (Below.heap_alloc _ _ _ (by simp only [World.size_alloc]; omega)).trans ((Below.heap_alloc _ _ _ (by simp only [World.size_alloc]; omega)).trans (heap_new_at _ _ _ (by simp only [World.size_alloc])))
  · refine (Below.heap_alloc _ _ _ (by simp only [World.size_alloc]; omega)).trans (heap_new_at _ _ _ (by simp only [World.size_alloc]))
  · exact heap_new_at _ _ _ (by simp only [World.size_alloc])
  · exact ((((((Below.refl _ _).alloc (Nat.le_refl _) _).alloc (by simp) _).alloc (by simp only [World.size_alloc]; omega) _).alloc (by simp only [World.size_alloc]; omega) _).alloc (by simp only [World.size_alloc]; omega) _).alloc (by simp only [World.size_alloc]; omega) _
  · simp

theorem cell1 {w : World} {b : Nat} {u : Value} {t : TypeId} (h : w.heap[b]? = some (.cells #[u] t (0, 0))) : w.cell? ⟨b, 0, none⟩ = some u := by
  rw [cell_of_block h]; rfl
set_option maxRecDepth 1000000 in
set_option maxHeartbeats 8000000 in
theorem on1_iter (w : World) (b0 b1 b2 b3 b4 b5 : Nat) (r v : Value) (n : Nat) (key : Nat → List Int) (e : TypeId) (l : List VoteM) (kind slot view : Int) (sum : List Int) (T : Nat → Prop) (hsum : sum.length = 32)
    (_hT : ∀ b, T b → b < w.heap.size) (hst : ∀ W : World, (∀ b, b < w.heap.size → ¬ T b → W.heap[b]? = w.heap[b]?) → OnAt W b0 b1 b2 b3 b4 b5 r v kind slot view sum ∧ VotesAt W e v l ∧ RingOk W r n key) :
    IterM Try.prog 77 #[.pointer (some ⟨b1, 0, none⟩), .pointer (some ⟨b2, 0, none⟩), .pointer (some ⟨b3, 0, none⟩), .pointer (some ⟨b4, 0, none⟩), .pointer (some ⟨b5, 0, none⟩), .pointer (some ⟨b0, 0, none⟩)] encF (toldF n key kind slot view sum (l.take 10)) T w := by
  intro lr J Jx W hW hJ hJx hY h0
  obtain ⟨hO, hV, hRg⟩ := hst W (fun b hb _ => hW.block b hb)
  have c1 := cell1 hO.h1
  have hJ0 := h0 W (Below.refl _ _)
  have hWs := hW.size
  have f20 : Fence.wide.fn 20 := trivial
  have hG := guard24
  have Hsum := Lib.hid hsum
  have hs32 : ∀ s : List Int, s.length = 32 → (Try.prog.info? 24).map (·.size) = some (zB s).length := fun s hs => by rw [info24]; simp [hs]
  have Hs32 := Lib.hid hs32
  clear hsum hs32 h0
  have enter : ∀ (Q : Prop), Q → Q := fun _ h => h
  clear enter
  by_cases hl0 : l.length = 0
  · obtain rfl : l = [] := List.eq_nil_of_length_eq_zero hl0
    obtain ⟨a, cap, rfl, hc1, hc2⟩ := hV.row.shape
    refine callsIn_of_wp Try.func77 rfl trivial ?_ rfl
    simp only [Try.ntmps77, List.size_toArray, List.length_cons, List.length_nil, Nat.reduceAdd, Nat.reduceSub, Array.replicate_succ, Array.replicate_zero, List.push_toArray, List.append_toArray, List.nil_append, List.cons_append]
    gi_wp2
    gi_loopw [16] (fun i wr => ∃ k : Nat, k ≤ 0 ∧ i = .int .i64 k ∧ J W.heap.size [] wr) (fun i _ => 0 - (intOf i).toNat)
    case atStart => exact ⟨0, Nat.zero_le _, rfl, hJ0⟩
    case round =>
      obtain ⟨k, hk, rfl, hJs⟩ := hrel
      obtain rfl : k = 0 := by omega
      gi_wp2
      go_end0
      exact ⟨⟨_, rfl⟩, .inl ⟨_, hJs⟩⟩
  · obtain ⟨b, off, cap, hv, hc1, hc2, _⟩ := hV.row.cell (by omega)
    subst hv
    by_cases h10 : l.length ≤ 10
    · have p0 : (l.length : Int) ≤ 10 := by omega
      have p1 : decide ((10 : Int) < (l.length : Int)) = false := by simpa using p0
      have p2 : (l.length : Int) ≤ (cap : Int) := by omega
      have hlT : l.take 10 = l := List.take_of_length_le h10
      rw [hlT] at hY ⊢
      clear hlT
      refine callsIn_of_wp Try.func77 rfl trivial ?_ rfl
      simp only [Try.ntmps77, List.size_toArray, List.length_cons, List.length_nil, Nat.reduceAdd, Nat.reduceSub, Array.replicate_succ, Array.replicate_zero, List.push_toArray, List.append_toArray, List.nil_append, List.cons_append]
      gi_wp2
      gi_loopw [16] (fun i wr => ∃ k : Nat, k ≤ l.length ∧ i = .int .i64 k ∧ J W.heap.size (toldF n key kind slot view sum (l.take k)) wr ∧ Keep W.heap.size T W wr) (fun i _ => l.length - (intOf i).toNat)
      case atStart => exact ⟨0, Nat.zero_le _, rfl, by simpa [toldF] using hJ0, Keep.refl _ _ _⟩
      case round =>
        clear hJ0
        obtain ⟨k, hk, rfl, hJs, hK⟩ := hrel
        have hMs := hK.size
        by_cases hlt : k < l.length
        · have hkl : k < l.length := by omega
          obtain ⟨_, hVr, _⟩ := hst wr (fun b hb hT => (hK.block b (by omega) hT).trans (hW.block b hb))
          obtain ⟨x, hx⟩ : ∃ x, x = l[k] := ⟨_, rfl⟩
          have hrg := hVr.range k hkl
          rw [← hx] at hrg
          have hxo : x.Ok := by rw [hx]; exact hV.ok _ (List.getElem_mem hkl)
          have hx68 : (Try.prog.info? 26).map (·.size) = some x.cells.length := by rw [info26, VoteM.length hxo]
          have hx26 : (Try.prog.info? 26).map (·.size) = some x.arr.size := by rw [info26]; simp [VoteM.arr, VoteM.length hxo]
          have hxz : VoteM.nil.arr.size = x.arr.size := by simp [VoteM.arr, VoteM.length hxo, VoteM.length ok_nil]
          have hx1 : x.arr.all (·.oneCell') = true := all_oneCell_toArray VoteM.one
          have Hx68 := Lib.hid hx68
          have Hx26 := Lib.hid hx26
          have Hxz := Lib.hid hxz
          have Hx1 := Lib.hid hx1
          have Hx := Lib.hid hx
          have hsn := told_snoc (n := n) (key := key) (kind := kind) (slot := slot) (view := view) (sum := sum) l k hkl
          rw [← hx] at hsn
          have Hsn := Lib.hid hsn
          have hpre0 := told_prefix (n := n) (key := key) (kind := kind) (slot := slot) (view := view) (sum := sum) l k l.length hlt
          have Hpre0 := Lib.hid hpre0
          clear hx68 hx26 hxz hx1 hx hsn hpre0 hVr
          have hBn : Below wr.heap.size wr (wr.alloc (.cells VoteM.nil.arr 26)) := (Below.refl _ _).alloc (Nat.le_refl _) _
          have hn : (wr.alloc (.cells VoteM.nil.arr 26)).heap[wr.heap.size]? = some (.cells VoteM.nil.arr 26 (0, 0)) := World.alloc_heap_new wr _
          have k0 : (0 : Int) ≤ (k : Int) := by omega
          have k1 : (k : Int) < (l.length : Int) := by omega
          have k2 : decide ((k : Int) < (l.length : Int)) = true := by simp; omega
          have k3 : decide (k < l.length) = true := by simp; omega
          by_cases hvt : voted n key kind slot view sum x = true
          · have hpre : toldF n key kind slot view sum (l.take k) ++ [x.frm] <+: toldF n key kind slot view sum (l.take l.length) := by
              have h1 := Hpre0.out
              rw [Hsn.out, if_pos hvt] at h1
              exact h1
            rw [List.take_length] at hpre
            have Hpre := Lib.hid hpre
            clear hpre
            have hvt3 := hvt
            simp only [voted, Bool.and_eq_true] at hvt3
            obtain ⟨q1, q2, q3, q4, q5⟩ := hvt3
            have heq : ∀ w, (binOp .eql 24 (.agg (zB x.sum).toArray) (.agg (zB sum).toArray)).run Try.prog w = .ok (.bool true) w := fun w => by rw [eql24 x.sum sum hxo.sum Hsum.out w, q4]
            gi_wp2_with (first
              | (with_reducible refine And.intro (fun _ hno => ?_) ?_; (cases hno))
              | (refine wpListIn_loadG 26 (.tmp 18) (by with_reducible rfl) (by rfl) b (off + k * 68) ?_ x.cells _ ?_ Try.underlying26 rfl ?_ ?_; rfl; exact hrg; exact Hx68.out)
              | (refine wpListIn_allocT 26 (by with_reducible rfl) (by rfl) VoteM.nil.arr zero26 ?_)
              | (refine wpListIn_store_any 26 (.tmp 9) (.tmp 19) (by with_reducible rfl) (by rfl) wr.heap.size x.arr ?_ ?_ 26 VoteM.nil.arr ?_ ?_ ?_ ?_ ?_; rfl; rfl; exact hn; exact Hx26.out; exact Hxz.out; exact Hx1.out; intro w2 hg2 hc2; have hBw2 : Below wr.heap.size wr w2 := hBn.grown hg2 (by simp) (fun j hj => by cases hj; exact Nat.le_refl _); have hK2 := hK.below hBw2 hMs; have hst2 := hst w2 (fun b hb hT => (hK2.block b (by omega) hT).trans (hW.block b hb)); obtain ⟨hO2, hV2, hR2⟩ := hst2; have d0 := cell1 hO2.h0; have d2 := cell1 hO2.h2; have d3 := cell1 hO2.h3; have d4 := cell1 hO2.h4; have e0 := (cell_of_block hc2 0).trans x.at0; have e1 := (cell_of_block hc2 1).trans x.at1; have e2 := (cell_of_block hc2 2).trans x.at2; have e35 := (cell_of_block hc2 35).trans (VoteM.at35 hxo))
              | (refine wpListIn_loadG 24 (.tmp 37) (by with_reducible rfl) (by rfl) wr.heap.size 3 ?_ (zB x.sum) (.array 32 5) ?_ Try.underlying24 rfl ?_ ?_; rfl; exact (range_of hc2 3 _ (fun j hj => VoteM.at_sum j (by simpa using hj))); exact (Hs32.out x.sum hxo.sum))
              | (refine wpListIn_loadG 24 (.tmp 5) (by with_reducible rfl) (by rfl) b5 0 ?_ (zB sum) (.array 32 5) ?_ Try.underlying24 rfl ?_ ?_; rfl; exact (range_of hO2.h5 0 _ (fun j _ => by simp)); exact (Hs32.out sum Hsum.out))
              | (refine wpListIn_loadG 26 (.tmp 9) (by with_reducible rfl) (by rfl) wr.heap.size 0 ?_ x.cells _ ?_ Try.underlying26 rfl ?_ ?_; rfl; exact (range_of hc2 0 _ (fun j _ => by simp [VoteM.arr])); exact Hx68.out)
              | (gi_at_call 20; refine (callsIn_wide.2 (good_any w2 r n key hR2 x hxo)).mono ?_; rintro e w5 ⟨rfl, hB5⟩; have f35 : w5.cell? ⟨wr.heap.size, 35, none⟩ = some (.int .i64 x.frm) := (hB5.cell (p := ⟨wr.heap.size, 35, none⟩) (Array.getElem?_eq_some_iff.1 hc2).1).trans e35; have hBw5 : Below wr.heap.size wr w5 := hBw2.trans (hB5.mono hBw2.size); have hK5 := hK.below hBw5 hMs; have hJ5 := hJ _ _ _ _ hJs (grown_below hBw5 (Nat.le_refl _)); obtain ⟨fn, tmps, assign, body, hy, hRr⟩ := hY W.heap.size _ x.frm w5 (Nat.le_refl _) Hpre.out (Nat.le_trans hMs hBw5.size) hJ5))
            refine hRr.mono ?_
            rintro e W3 (⟨rfl, hJ3, hk3⟩ | ⟨rfl, hJx3⟩)
            · gi_wp2
              (try refine ⟨?_, ?_⟩)
              · first
                  | exact ⟨k + 1, by omega, by go_num, by rw [Hsn.out, if_pos hvt]; exact hJ3, hK5.trans hk3⟩
                  | (repeat apply Exists.intro
                     refine ⟨?_, rfl⟩
                     exact ⟨k + 1, by omega, by go_num, by rw [Hsn.out, if_pos hvt]; exact hJ3, hK5.trans hk3⟩)
              · simp [intOf]
                omega
            · gi_wp2
              refine bodyPost_ret (results_none rfl _ _ _) rfl ?_
              exact ⟨⟨_, rfl⟩, .inr ⟨_, Hpre.out, hJx3⟩⟩
          · cases q1 : (x.kind == kind)
            · have hlay : True := trivial
              gi_wp2_with (first
                | (with_reducible refine And.intro (fun _ hno => ?_) ?_; (cases hno))
                | (refine wpListIn_loadG 26 (.tmp 18) (by with_reducible rfl) (by rfl) b (off + k * 68) ?_ x.cells _ ?_ Try.underlying26 rfl ?_ ?_; rfl; exact hrg; exact Hx68.out)
                | (refine wpListIn_allocT 26 (by with_reducible rfl) (by rfl) VoteM.nil.arr zero26 ?_)
                | (refine wpListIn_store_any 26 (.tmp 9) (.tmp 19) (by with_reducible rfl) (by rfl) wr.heap.size x.arr ?_ ?_ 26 VoteM.nil.arr ?_ ?_ ?_ ?_ ?_; rfl; rfl; exact hn; exact Hx26.out; exact Hxz.out; exact Hx1.out; intro w2 hg2 hc2; have hBw2 : Below wr.heap.size wr w2 := hBn.grown hg2 (by simp) (fun j hj => by cases hj; exact Nat.le_refl _); have hK2 := hK.below hBw2 hMs; have hst2 := hst w2 (fun b hb hT => (hK2.block b (by omega) hT).trans (hW.block b hb)); obtain ⟨hO2, hV2, hR2⟩ := hst2; have d0 := cell1 hO2.h0; have d2 := cell1 hO2.h2; have d3 := cell1 hO2.h3; have d4 := cell1 hO2.h4; have e0 := (cell_of_block hc2 0).trans x.at0; have e1 := (cell_of_block hc2 1).trans x.at1; have e2 := (cell_of_block hc2 2).trans x.at2; have e35 := (cell_of_block hc2 35).trans (VoteM.at35 hxo)))
              (try refine ⟨?_, ?_⟩)
              · first
                  | exact ⟨k + 1, by omega, by go_num, by rw [Hsn.out, if_neg hvt, List.append_nil]; exact hJ _ _ _ _ hJs (grown_below hBw2 (Nat.le_refl _)), hK2⟩
                  | (repeat apply Exists.intro
                     refine ⟨?_, rfl⟩
                     exact ⟨k + 1, by omega, by go_num, by rw [Hsn.out, if_neg hvt, List.append_nil]; exact hJ _ _ _ _ hJs (grown_below hBw2 (Nat.le_refl _)), hK2⟩)
              · simp [intOf]
                omega
            · cases q2 : (x.slot == slot)
              · have hlay : True := trivial
                gi_wp2_with (first
                  | (with_reducible refine And.intro (fun _ hno => ?_) ?_; (cases hno))
                  | (refine wpListIn_loadG 26 (.tmp 18) (by with_reducible rfl) (by rfl) b (off + k * 68) ?_ x.cells _ ?_ Try.underlying26 rfl ?_ ?_; rfl; exact hrg; exact Hx68.out)
                  | (refine wpListIn_allocT 26 (by with_reducible rfl) (by rfl) VoteM.nil.arr zero26 ?_)
                  | (refine wpListIn_store_any 26 (.tmp 9) (.tmp 19) (by with_reducible rfl) (by rfl) wr.heap.size x.arr ?_ ?_ 26 VoteM.nil.arr ?_ ?_ ?_ ?_ ?_; rfl; rfl; exact hn; exact Hx26.out; exact Hxz.out; exact Hx1.out; intro w2 hg2 hc2; have hBw2 : Below wr.heap.size wr w2 := hBn.grown hg2 (by simp) (fun j hj => by cases hj; exact Nat.le_refl _); have hK2 := hK.below hBw2 hMs; have hst2 := hst w2 (fun b hb hT => (hK2.block b (by omega) hT).trans (hW.block b hb)); obtain ⟨hO2, hV2, hR2⟩ := hst2; have d0 := cell1 hO2.h0; have d2 := cell1 hO2.h2; have d3 := cell1 hO2.h3; have d4 := cell1 hO2.h4; have e0 := (cell_of_block hc2 0).trans x.at0; have e1 := (cell_of_block hc2 1).trans x.at1; have e2 := (cell_of_block hc2 2).trans x.at2; have e35 := (cell_of_block hc2 35).trans (VoteM.at35 hxo)))
                (try refine ⟨?_, ?_⟩)
                · first
                    | exact ⟨k + 1, by omega, by go_num, by rw [Hsn.out, if_neg hvt, List.append_nil]; exact hJ _ _ _ _ hJs (grown_below hBw2 (Nat.le_refl _)), hK2⟩
                    | (repeat apply Exists.intro
                       refine ⟨?_, rfl⟩
                       exact ⟨k + 1, by omega, by go_num, by rw [Hsn.out, if_neg hvt, List.append_nil]; exact hJ _ _ _ _ hJs (grown_below hBw2 (Nat.le_refl _)), hK2⟩)
                · simp [intOf]
                  omega
              · cases q3 : (x.view == view)
                · have hlay : True := trivial
                  gi_wp2_with (first
                    | (with_reducible refine And.intro (fun _ hno => ?_) ?_; (cases hno))
                    | (refine wpListIn_loadG 26 (.tmp 18) (by with_reducible rfl) (by rfl) b (off + k * 68) ?_ x.cells _ ?_ Try.underlying26 rfl ?_ ?_; rfl; exact hrg; exact Hx68.out)
                    | (refine wpListIn_allocT 26 (by with_reducible rfl) (by rfl) VoteM.nil.arr zero26 ?_)
                    | (refine wpListIn_store_any 26 (.tmp 9) (.tmp 19) (by with_reducible rfl) (by rfl) wr.heap.size x.arr ?_ ?_ 26 VoteM.nil.arr ?_ ?_ ?_ ?_ ?_; rfl; rfl; exact hn; exact Hx26.out; exact Hxz.out; exact Hx1.out; intro w2 hg2 hc2; have hBw2 : Below wr.heap.size wr w2 := hBn.grown hg2 (by simp) (fun j hj => by cases hj; exact Nat.le_refl _); have hK2 := hK.below hBw2 hMs; have hst2 := hst w2 (fun b hb hT => (hK2.block b (by omega) hT).trans (hW.block b hb)); obtain ⟨hO2, hV2, hR2⟩ := hst2; have d0 := cell1 hO2.h0; have d2 := cell1 hO2.h2; have d3 := cell1 hO2.h3; have d4 := cell1 hO2.h4; have e0 := (cell_of_block hc2 0).trans x.at0; have e1 := (cell_of_block hc2 1).trans x.at1; have e2 := (cell_of_block hc2 2).trans x.at2; have e35 := (cell_of_block hc2 35).trans (VoteM.at35 hxo)))
                  (try refine ⟨?_, ?_⟩)
                  · first
                      | exact ⟨k + 1, by omega, by go_num, by rw [Hsn.out, if_neg hvt, List.append_nil]; exact hJ _ _ _ _ hJs (grown_below hBw2 (Nat.le_refl _)), hK2⟩
                      | (repeat apply Exists.intro
                         refine ⟨?_, rfl⟩
                         exact ⟨k + 1, by omega, by go_num, by rw [Hsn.out, if_neg hvt, List.append_nil]; exact hJ _ _ _ _ hJs (grown_below hBw2 (Nat.le_refl _)), hK2⟩)
                  · simp [intOf]
                    omega
                · cases q4 : decide (x.sum = sum)
                  · have heq : ∀ w, (binOp .eql 24 (.agg (zB x.sum).toArray) (.agg (zB sum).toArray)).run Try.prog w = .ok (.bool false) w := fun w => by rw [eql24 x.sum sum hxo.sum Hsum.out w, q4]
                    gi_wp2_with (first
                      | (with_reducible refine And.intro (fun _ hno => ?_) ?_; (cases hno))
                      | (refine wpListIn_loadG 26 (.tmp 18) (by with_reducible rfl) (by rfl) b (off + k * 68) ?_ x.cells _ ?_ Try.underlying26 rfl ?_ ?_; rfl; exact hrg; exact Hx68.out)
                      | (refine wpListIn_allocT 26 (by with_reducible rfl) (by rfl) VoteM.nil.arr zero26 ?_)
                      | (refine wpListIn_store_any 26 (.tmp 9) (.tmp 19) (by with_reducible rfl) (by rfl) wr.heap.size x.arr ?_ ?_ 26 VoteM.nil.arr ?_ ?_ ?_ ?_ ?_; rfl; rfl; exact hn; exact Hx26.out; exact Hxz.out; exact Hx1.out; intro w2 hg2 hc2; have hBw2 : Below wr.heap.size wr w2 := hBn.grown hg2 (by simp) (fun j hj => by cases hj; exact Nat.le_refl _); have hK2 := hK.below hBw2 hMs; have hst2 := hst w2 (fun b hb hT => (hK2.block b (by omega) hT).trans (hW.block b hb)); obtain ⟨hO2, hV2, hR2⟩ := hst2; have d0 := cell1 hO2.h0; have d2 := cell1 hO2.h2; have d3 := cell1 hO2.h3; have d4 := cell1 hO2.h4; have e0 := (cell_of_block hc2 0).trans x.at0; have e1 := (cell_of_block hc2 1).trans x.at1; have e2 := (cell_of_block hc2 2).trans x.at2; have e35 := (cell_of_block hc2 35).trans (VoteM.at35 hxo))
                      | (refine wpListIn_loadG 24 (.tmp 37) (by with_reducible rfl) (by rfl) wr.heap.size 3 ?_ (zB x.sum) (.array 32 5) ?_ Try.underlying24 rfl ?_ ?_; rfl; exact (range_of hc2 3 _ (fun j hj => VoteM.at_sum j (by simpa using hj))); exact (Hs32.out x.sum hxo.sum))
                      | (refine wpListIn_loadG 24 (.tmp 5) (by with_reducible rfl) (by rfl) b5 0 ?_ (zB sum) (.array 32 5) ?_ Try.underlying24 rfl ?_ ?_; rfl; exact (range_of hO2.h5 0 _ (fun j _ => by simp)); exact (Hs32.out sum Hsum.out)))
                    (try refine ⟨?_, ?_⟩)
                    · first
                        | exact ⟨k + 1, by omega, by go_num, by rw [Hsn.out, if_neg hvt, List.append_nil]; exact hJ _ _ _ _ hJs (grown_below hBw2 (Nat.le_refl _)), hK2⟩
                        | (repeat apply Exists.intro
                           refine ⟨?_, rfl⟩
                           exact ⟨k + 1, by omega, by go_num, by rw [Hsn.out, if_neg hvt, List.append_nil]; exact hJ _ _ _ _ hJs (grown_below hBw2 (Nat.le_refl _)), hK2⟩)
                    · simp [intOf]
                      omega
                  · have heq : ∀ w, (binOp .eql 24 (.agg (zB x.sum).toArray) (.agg (zB sum).toArray)).run Try.prog w = .ok (.bool true) w := fun w => by rw [eql24 x.sum sum hxo.sum Hsum.out w, q4]
                    have q5 : goodB n key x = false := by
                      cases q5 : goodB n key x
                      · rfl
                      · exact absurd (by simp only [voted, q1, q2, q3, q4, q5]; rfl) hvt
                    gi_wp2_with (first
                      | (with_reducible refine And.intro (fun _ hno => ?_) ?_; (cases hno))
                      | (refine wpListIn_loadG 26 (.tmp 18) (by with_reducible rfl) (by rfl) b (off + k * 68) ?_ x.cells _ ?_ Try.underlying26 rfl ?_ ?_; rfl; exact hrg; exact Hx68.out)
                      | (refine wpListIn_allocT 26 (by with_reducible rfl) (by rfl) VoteM.nil.arr zero26 ?_)
                      | (refine wpListIn_store_any 26 (.tmp 9) (.tmp 19) (by with_reducible rfl) (by rfl) wr.heap.size x.arr ?_ ?_ 26 VoteM.nil.arr ?_ ?_ ?_ ?_ ?_; rfl; rfl; exact hn; exact Hx26.out; exact Hxz.out; exact Hx1.out; intro w2 hg2 hc2; have hBw2 : Below wr.heap.size wr w2 := hBn.grown hg2 (by simp) (fun j hj => by cases hj; exact Nat.le_refl _); have hK2 := hK.below hBw2 hMs; have hst2 := hst w2 (fun b hb hT => (hK2.block b (by omega) hT).trans (hW.block b hb)); obtain ⟨hO2, hV2, hR2⟩ := hst2; have d0 := cell1 hO2.h0; have d2 := cell1 hO2.h2; have d3 := cell1 hO2.h3; have d4 := cell1 hO2.h4; have e0 := (cell_of_block hc2 0).trans x.at0; have e1 := (cell_of_block hc2 1).trans x.at1; have e2 := (cell_of_block hc2 2).trans x.at2; have e35 := (cell_of_block hc2 35).trans (VoteM.at35 hxo))
                      | (refine wpListIn_loadG 24 (.tmp 37) (by with_reducible rfl) (by rfl) wr.heap.size 3 ?_ (zB x.sum) (.array 32 5) ?_ Try.underlying24 rfl ?_ ?_; rfl; exact (range_of hc2 3 _ (fun j hj => VoteM.at_sum j (by simpa using hj))); exact (Hs32.out x.sum hxo.sum))
                      | (refine wpListIn_loadG 24 (.tmp 5) (by with_reducible rfl) (by rfl) b5 0 ?_ (zB sum) (.array 32 5) ?_ Try.underlying24 rfl ?_ ?_; rfl; exact (range_of hO2.h5 0 _ (fun j _ => by simp)); exact (Hs32.out sum Hsum.out))
                      | (refine wpListIn_loadG 26 (.tmp 9) (by with_reducible rfl) (by rfl) wr.heap.size 0 ?_ x.cells _ ?_ Try.underlying26 rfl ?_ ?_; rfl; exact (range_of hc2 0 _ (fun j _ => by simp [VoteM.arr])); exact Hx68.out)
                      | (gi_at_call 20; refine (callsIn_wide.2 (good_any w2 r n key hR2 x hxo)).mono ?_; rintro e w5 ⟨rfl, hB5⟩; have f35 : w5.cell? ⟨wr.heap.size, 35, none⟩ = some (.int .i64 x.frm) := (hB5.cell (p := ⟨wr.heap.size, 35, none⟩) (Array.getElem?_eq_some_iff.1 hc2).1).trans e35; have hBw5 : Below wr.heap.size wr w5 := hBw2.trans (hB5.mono hBw2.size); have hK5 := hK.below hBw5 hMs; have hJ5 := hJ _ _ _ _ hJs (grown_below hBw5 (Nat.le_refl _))))
                    (try refine ⟨?_, ?_⟩)
                    · first
                        | exact ⟨k + 1, by omega, by go_num, by rw [Hsn.out, if_neg hvt, List.append_nil]; exact hJ5, hK5⟩
                        | (repeat apply Exists.intro
                           refine ⟨?_, rfl⟩
                           exact ⟨k + 1, by omega, by go_num, by rw [Hsn.out, if_neg hvt, List.append_nil]; exact hJ5, hK5⟩)
                    · simp [intOf]
                      omega
        · obtain rfl : k = l.length := by omega
          gi_wp2
          go_end0
          exact ⟨⟨_, rfl⟩, .inl ⟨_, by simpa using hJs⟩⟩
    · have p0 : (10 : Int) < (l.length : Int) := by omega
      have p1 : decide ((10 : Int) < (l.length : Int)) = true := by simpa using p0
      have p2 : (10 : Int) ≤ (cap : Int) := by omega
      refine callsIn_of_wp Try.func77 rfl trivial ?_ rfl
      simp only [Try.ntmps77, List.size_toArray, List.length_cons, List.length_nil, Nat.reduceAdd, Nat.reduceSub, Array.replicate_succ, Array.replicate_zero, List.push_toArray, List.append_toArray, List.nil_append, List.cons_append]
      gi_wp2
      gi_loopw [16] (fun i wr => ∃ k : Nat, k ≤ 10 ∧ i = .int .i64 k ∧ J W.heap.size (toldF n key kind slot view sum (l.take k)) wr ∧ Keep W.heap.size T W wr) (fun i _ => 10 - (intOf i).toNat)
      case atStart => exact ⟨0, Nat.zero_le _, rfl, by simpa [toldF] using hJ0, Keep.refl _ _ _⟩
      case round =>
        clear hJ0
        obtain ⟨k, hk, rfl, hJs, hK⟩ := hrel
        have hMs := hK.size
        by_cases hlt : k < 10
        · have hkl : k < l.length := by omega
          obtain ⟨_, hVr, _⟩ := hst wr (fun b hb hT => (hK.block b (by omega) hT).trans (hW.block b hb))
          obtain ⟨x, hx⟩ : ∃ x, x = l[k] := ⟨_, rfl⟩
          have hrg := hVr.range k hkl
          rw [← hx] at hrg
          have hxo : x.Ok := by rw [hx]; exact hV.ok _ (List.getElem_mem hkl)
          have hx68 : (Try.prog.info? 26).map (·.size) = some x.cells.length := by rw [info26, VoteM.length hxo]
          have hx26 : (Try.prog.info? 26).map (·.size) = some x.arr.size := by rw [info26]; simp [VoteM.arr, VoteM.length hxo]
          have hxz : VoteM.nil.arr.size = x.arr.size := by simp [VoteM.arr, VoteM.length hxo, VoteM.length ok_nil]
          have hx1 : x.arr.all (·.oneCell') = true := all_oneCell_toArray VoteM.one
          have Hx68 := Lib.hid hx68
          have Hx26 := Lib.hid hx26
          have Hxz := Lib.hid hxz
          have Hx1 := Lib.hid hx1
          have Hx := Lib.hid hx
          have hsn := told_snoc (n := n) (key := key) (kind := kind) (slot := slot) (view := view) (sum := sum) l k hkl
          rw [← hx] at hsn
          have Hsn := Lib.hid hsn
          have hpre0 := told_prefix (n := n) (key := key) (kind := kind) (slot := slot) (view := view) (sum := sum) l k 10 hlt
          have Hpre0 := Lib.hid hpre0
          clear hx68 hx26 hxz hx1 hx hsn hpre0 hVr
          have hBn : Below wr.heap.size wr (wr.alloc (.cells VoteM.nil.arr 26)) := (Below.refl _ _).alloc (Nat.le_refl _) _
          have hn : (wr.alloc (.cells VoteM.nil.arr 26)).heap[wr.heap.size]? = some (.cells VoteM.nil.arr 26 (0, 0)) := World.alloc_heap_new wr _
          have k0 : (0 : Int) ≤ (k : Int) := by omega
          have k1 : (k : Int) < (10 : Int) := by omega
          have k2 : decide ((k : Int) < (10 : Int)) = true := by simp; omega
          have k3 : decide (k < 10) = true := by simp; omega
          by_cases hvt : voted n key kind slot view sum x = true
          · have hpre : toldF n key kind slot view sum (l.take k) ++ [x.frm] <+: toldF n key kind slot view sum (l.take 10) := by
              have h1 := Hpre0.out
              rw [Hsn.out, if_pos hvt] at h1
              exact h1
            skip
            have Hpre := Lib.hid hpre
            clear hpre
            have hvt3 := hvt
            simp only [voted, Bool.and_eq_true] at hvt3
            obtain ⟨q1, q2, q3, q4, q5⟩ := hvt3
            have heq : ∀ w, (binOp .eql 24 (.agg (zB x.sum).toArray) (.agg (zB sum).toArray)).run Try.prog w = .ok (.bool true) w := fun w => by rw [eql24 x.sum sum hxo.sum Hsum.out w, q4]
            gi_wp2_with (first
              | (with_reducible refine And.intro (fun _ hno => ?_) ?_; (cases hno))
              | (refine wpListIn_loadG 26 (.tmp 18) (by with_reducible rfl) (by rfl) b (off + k * 68) ?_ x.cells _ ?_ Try.underlying26 rfl ?_ ?_; rfl; exact hrg; exact Hx68.out)
              | (refine wpListIn_allocT 26 (by with_reducible rfl) (by rfl) VoteM.nil.arr zero26 ?_)
              | (refine wpListIn_store_any 26 (.tmp 9) (.tmp 19) (by with_reducible rfl) (by rfl) wr.heap.size x.arr ?_ ?_ 26 VoteM.nil.arr ?_ ?_ ?_ ?_ ?_; rfl; rfl; exact hn; exact Hx26.out; exact Hxz.out; exact Hx1.out; intro w2 hg2 hc2; have hBw2 : Below wr.heap.size wr w2 := hBn.grown hg2 (by simp) (fun j hj => by cases hj; exact Nat.le_refl _); have hK2 := hK.below hBw2 hMs; have hst2 := hst w2 (fun b hb hT => (hK2.block b (by omega) hT).trans (hW.block b hb)); obtain ⟨hO2, hV2, hR2⟩ := hst2; have d0 := cell1 hO2.h0; have d2 := cell1 hO2.h2; have d3 := cell1 hO2.h3; have d4 := cell1 hO2.h4; have e0 := (cell_of_block hc2 0).trans x.at0; have e1 := (cell_of_block hc2 1).trans x.at1; have e2 := (cell_of_block hc2 2).trans x.at2; have e35 := (cell_of_block hc2 35).trans (VoteM.at35 hxo))
              | (refine wpListIn_loadG 24 (.tmp 37) (by with_reducible rfl) (by rfl) wr.heap.size 3 ?_ (zB x.sum) (.array 32 5) ?_ Try.underlying24 rfl ?_ ?_; rfl; exact (range_of hc2 3 _ (fun j hj => VoteM.at_sum j (by simpa using hj))); exact (Hs32.out x.sum hxo.sum))
              | (refine wpListIn_loadG 24 (.tmp 5) (by with_reducible rfl) (by rfl) b5 0 ?_ (zB sum) (.array 32 5) ?_ Try.underlying24 rfl ?_ ?_; rfl; exact (range_of hO2.h5 0 _ (fun j _ => by simp)); exact (Hs32.out sum Hsum.out))
              | (refine wpListIn_loadG 26 (.tmp 9) (by with_reducible rfl) (by rfl) wr.heap.size 0 ?_ x.cells _ ?_ Try.underlying26 rfl ?_ ?_; rfl; exact (range_of hc2 0 _ (fun j _ => by simp [VoteM.arr])); exact Hx68.out)
              | (gi_at_call 20; refine (callsIn_wide.2 (good_any w2 r n key hR2 x hxo)).mono ?_; rintro e w5 ⟨rfl, hB5⟩; have f35 : w5.cell? ⟨wr.heap.size, 35, none⟩ = some (.int .i64 x.frm) := (hB5.cell (p := ⟨wr.heap.size, 35, none⟩) (Array.getElem?_eq_some_iff.1 hc2).1).trans e35; have hBw5 : Below wr.heap.size wr w5 := hBw2.trans (hB5.mono hBw2.size); have hK5 := hK.below hBw5 hMs; have hJ5 := hJ _ _ _ _ hJs (grown_below hBw5 (Nat.le_refl _)); obtain ⟨fn, tmps, assign, body, hy, hRr⟩ := hY W.heap.size _ x.frm w5 (Nat.le_refl _) Hpre.out (Nat.le_trans hMs hBw5.size) hJ5))
            refine hRr.mono ?_
            rintro e W3 (⟨rfl, hJ3, hk3⟩ | ⟨rfl, hJx3⟩)
            · gi_wp2
              (try refine ⟨?_, ?_⟩)
              · first
                  | exact ⟨k + 1, by omega, by go_num, by rw [Hsn.out, if_pos hvt]; exact hJ3, hK5.trans hk3⟩
                  | (repeat apply Exists.intro
                     refine ⟨?_, rfl⟩
                     exact ⟨k + 1, by omega, by go_num, by rw [Hsn.out, if_pos hvt]; exact hJ3, hK5.trans hk3⟩)
              · simp [intOf]
                omega
            · gi_wp2
              refine bodyPost_ret (results_none rfl _ _ _) rfl ?_
              exact ⟨⟨_, rfl⟩, .inr ⟨_, Hpre.out, hJx3⟩⟩
          · cases q1 : (x.kind == kind)
            · have hlay : True := trivial
              gi_wp2_with (first
                | (with_reducible refine And.intro (fun _ hno => ?_) ?_; (cases hno))
                | (refine wpListIn_loadG 26 (.tmp 18) (by with_reducible rfl) (by rfl) b (off + k * 68) ?_ x.cells _ ?_ Try.underlying26 rfl ?_ ?_; rfl; exact hrg; exact Hx68.out)
                | (refine wpListIn_allocT 26 (by with_reducible rfl) (by rfl) VoteM.nil.arr zero26 ?_)
                | (refine wpListIn_store_any 26 (.tmp 9) (.tmp 19) (by with_reducible rfl) (by rfl) wr.heap.size x.arr ?_ ?_ 26 VoteM.nil.arr ?_ ?_ ?_ ?_ ?_; rfl; rfl; exact hn; exact Hx26.out; exact Hxz.out; exact Hx1.out; intro w2 hg2 hc2; have hBw2 : Below wr.heap.size wr w2 := hBn.grown hg2 (by simp) (fun j hj => by cases hj; exact Nat.le_refl _); have hK2 := hK.below hBw2 hMs; have hst2 := hst w2 (fun b hb hT => (hK2.block b (by omega) hT).trans (hW.block b hb)); obtain ⟨hO2, hV2, hR2⟩ := hst2; have d0 := cell1 hO2.h0; have d2 := cell1 hO2.h2; have d3 := cell1 hO2.h3; have d4 := cell1 hO2.h4; have e0 := (cell_of_block hc2 0).trans x.at0; have e1 := (cell_of_block hc2 1).trans x.at1; have e2 := (cell_of_block hc2 2).trans x.at2; have e35 := (cell_of_block hc2 35).trans (VoteM.at35 hxo)))
              (try refine ⟨?_, ?_⟩)
              · first
                  | exact ⟨k + 1, by omega, by go_num, by rw [Hsn.out, if_neg hvt, List.append_nil]; exact hJ _ _ _ _ hJs (grown_below hBw2 (Nat.le_refl _)), hK2⟩
                  | (repeat apply Exists.intro
                     refine ⟨?_, rfl⟩
                     exact ⟨k + 1, by omega, by go_num, by rw [Hsn.out, if_neg hvt, List.append_nil]; exact hJ _ _ _ _ hJs (grown_below hBw2 (Nat.le_refl _)), hK2⟩)
              · simp [intOf]
                omega
            · cases q2 : (x.slot == slot)
              · have hlay : True := trivial
                gi_wp2_with (first
                  | (with_reducible refine And.intro (fun _ hno => ?_) ?_; (cases hno))
                  | (refine wpListIn_loadG 26 (.tmp 18) (by with_reducible rfl) (by rfl) b (off + k * 68) ?_ x.cells _ ?_ Try.underlying26 rfl ?_ ?_; rfl; exact hrg; exact Hx68.out)
                  | (refine wpListIn_allocT 26 (by with_reducible rfl) (by rfl) VoteM.nil.arr zero26 ?_)
                  | (refine wpListIn_store_any 26 (.tmp 9) (.tmp 19) (by with_reducible rfl) (by rfl) wr.heap.size x.arr ?_ ?_ 26 VoteM.nil.arr ?_ ?_ ?_ ?_ ?_; rfl; rfl; exact hn; exact Hx26.out; exact Hxz.out; exact Hx1.out; intro w2 hg2 hc2; have hBw2 : Below wr.heap.size wr w2 := hBn.grown hg2 (by simp) (fun j hj => by cases hj; exact Nat.le_refl _); have hK2 := hK.below hBw2 hMs; have hst2 := hst w2 (fun b hb hT => (hK2.block b (by omega) hT).trans (hW.block b hb)); obtain ⟨hO2, hV2, hR2⟩ := hst2; have d0 := cell1 hO2.h0; have d2 := cell1 hO2.h2; have d3 := cell1 hO2.h3; have d4 := cell1 hO2.h4; have e0 := (cell_of_block hc2 0).trans x.at0; have e1 := (cell_of_block hc2 1).trans x.at1; have e2 := (cell_of_block hc2 2).trans x.at2; have e35 := (cell_of_block hc2 35).trans (VoteM.at35 hxo)))
                (try refine ⟨?_, ?_⟩)
                · first
                    | exact ⟨k + 1, by omega, by go_num, by rw [Hsn.out, if_neg hvt, List.append_nil]; exact hJ _ _ _ _ hJs (grown_below hBw2 (Nat.le_refl _)), hK2⟩
                    | (repeat apply Exists.intro
                       refine ⟨?_, rfl⟩
                       exact ⟨k + 1, by omega, by go_num, by rw [Hsn.out, if_neg hvt, List.append_nil]; exact hJ _ _ _ _ hJs (grown_below hBw2 (Nat.le_refl _)), hK2⟩)
                · simp [intOf]
                  omega
              · cases q3 : (x.view == view)
                · have hlay : True := trivial
                  gi_wp2_with (first
                    | (with_reducible refine And.intro (fun _ hno => ?_) ?_; (cases hno))
                    | (refine wpListIn_loadG 26 (.tmp 18) (by with_reducible rfl) (by rfl) b (off + k * 68) ?_ x.cells _ ?_ Try.underlying26 rfl ?_ ?_; rfl; exact hrg; exact Hx68.out)
                    | (refine wpListIn_allocT 26 (by with_reducible rfl) (by rfl) VoteM.nil.arr zero26 ?_)
                    | (refine wpListIn_store_any 26 (.tmp 9) (.tmp 19) (by with_reducible rfl) (by rfl) wr.heap.size x.arr ?_ ?_ 26 VoteM.nil.arr ?_ ?_ ?_ ?_ ?_; rfl; rfl; exact hn; exact Hx26.out; exact Hxz.out; exact Hx1.out; intro w2 hg2 hc2; have hBw2 : Below wr.heap.size wr w2 := hBn.grown hg2 (by simp) (fun j hj => by cases hj; exact Nat.le_refl _); have hK2 := hK.below hBw2 hMs; have hst2 := hst w2 (fun b hb hT => (hK2.block b (by omega) hT).trans (hW.block b hb)); obtain ⟨hO2, hV2, hR2⟩ := hst2; have d0 := cell1 hO2.h0; have d2 := cell1 hO2.h2; have d3 := cell1 hO2.h3; have d4 := cell1 hO2.h4; have e0 := (cell_of_block hc2 0).trans x.at0; have e1 := (cell_of_block hc2 1).trans x.at1; have e2 := (cell_of_block hc2 2).trans x.at2; have e35 := (cell_of_block hc2 35).trans (VoteM.at35 hxo)))
                  (try refine ⟨?_, ?_⟩)
                  · first
                      | exact ⟨k + 1, by omega, by go_num, by rw [Hsn.out, if_neg hvt, List.append_nil]; exact hJ _ _ _ _ hJs (grown_below hBw2 (Nat.le_refl _)), hK2⟩
                      | (repeat apply Exists.intro
                         refine ⟨?_, rfl⟩
                         exact ⟨k + 1, by omega, by go_num, by rw [Hsn.out, if_neg hvt, List.append_nil]; exact hJ _ _ _ _ hJs (grown_below hBw2 (Nat.le_refl _)), hK2⟩)
                  · simp [intOf]
                    omega
                · cases q4 : decide (x.sum = sum)
                  · have heq : ∀ w, (binOp .eql 24 (.agg (zB x.sum).toArray) (.agg (zB sum).toArray)).run Try.prog w = .ok (.bool false) w := fun w => by rw [eql24 x.sum sum hxo.sum Hsum.out w, q4]
                    gi_wp2_with (first
                      | (with_reducible refine And.intro (fun _ hno => ?_) ?_; (cases hno))
                      | (refine wpListIn_loadG 26 (.tmp 18) (by with_reducible rfl) (by rfl) b (off + k * 68) ?_ x.cells _ ?_ Try.underlying26 rfl ?_ ?_; rfl; exact hrg; exact Hx68.out)
                      | (refine wpListIn_allocT 26 (by with_reducible rfl) (by rfl) VoteM.nil.arr zero26 ?_)
                      | (refine wpListIn_store_any 26 (.tmp 9) (.tmp 19) (by with_reducible rfl) (by rfl) wr.heap.size x.arr ?_ ?_ 26 VoteM.nil.arr ?_ ?_ ?_ ?_ ?_; rfl; rfl; exact hn; exact Hx26.out; exact Hxz.out; exact Hx1.out; intro w2 hg2 hc2; have hBw2 : Below wr.heap.size wr w2 := hBn.grown hg2 (by simp) (fun j hj => by cases hj; exact Nat.le_refl _); have hK2 := hK.below hBw2 hMs; have hst2 := hst w2 (fun b hb hT => (hK2.block b (by omega) hT).trans (hW.block b hb)); obtain ⟨hO2, hV2, hR2⟩ := hst2; have d0 := cell1 hO2.h0; have d2 := cell1 hO2.h2; have d3 := cell1 hO2.h3; have d4 := cell1 hO2.h4; have e0 := (cell_of_block hc2 0).trans x.at0; have e1 := (cell_of_block hc2 1).trans x.at1; have e2 := (cell_of_block hc2 2).trans x.at2; have e35 := (cell_of_block hc2 35).trans (VoteM.at35 hxo))
                      | (refine wpListIn_loadG 24 (.tmp 37) (by with_reducible rfl) (by rfl) wr.heap.size 3 ?_ (zB x.sum) (.array 32 5) ?_ Try.underlying24 rfl ?_ ?_; rfl; exact (range_of hc2 3 _ (fun j hj => VoteM.at_sum j (by simpa using hj))); exact (Hs32.out x.sum hxo.sum))
                      | (refine wpListIn_loadG 24 (.tmp 5) (by with_reducible rfl) (by rfl) b5 0 ?_ (zB sum) (.array 32 5) ?_ Try.underlying24 rfl ?_ ?_; rfl; exact (range_of hO2.h5 0 _ (fun j _ => by simp)); exact (Hs32.out sum Hsum.out)))
                    (try refine ⟨?_, ?_⟩)
                    · first
                        | exact ⟨k + 1, by omega, by go_num, by rw [Hsn.out, if_neg hvt, List.append_nil]; exact hJ _ _ _ _ hJs (grown_below hBw2 (Nat.le_refl _)), hK2⟩
                        | (repeat apply Exists.intro
                           refine ⟨?_, rfl⟩
                           exact ⟨k + 1, by omega, by go_num, by rw [Hsn.out, if_neg hvt, List.append_nil]; exact hJ _ _ _ _ hJs (grown_below hBw2 (Nat.le_refl _)), hK2⟩)
                    · simp [intOf]
                      omega
                  · have heq : ∀ w, (binOp .eql 24 (.agg (zB x.sum).toArray) (.agg (zB sum).toArray)).run Try.prog w = .ok (.bool true) w := fun w => by rw [eql24 x.sum sum hxo.sum Hsum.out w, q4]
                    have q5 : goodB n key x = false := by
                      cases q5 : goodB n key x
                      · rfl
                      · exact absurd (by simp only [voted, q1, q2, q3, q4, q5]; rfl) hvt
                    gi_wp2_with (first
                      | (with_reducible refine And.intro (fun _ hno => ?_) ?_; (cases hno))
                      | (refine wpListIn_loadG 26 (.tmp 18) (by with_reducible rfl) (by rfl) b (off + k * 68) ?_ x.cells _ ?_ Try.underlying26 rfl ?_ ?_; rfl; exact hrg; exact Hx68.out)
                      | (refine wpListIn_allocT 26 (by with_reducible rfl) (by rfl) VoteM.nil.arr zero26 ?_)
                      | (refine wpListIn_store_any 26 (.tmp 9) (.tmp 19) (by with_reducible rfl) (by rfl) wr.heap.size x.arr ?_ ?_ 26 VoteM.nil.arr ?_ ?_ ?_ ?_ ?_; rfl; rfl; exact hn; exact Hx26.out; exact Hxz.out; exact Hx1.out; intro w2 hg2 hc2; have hBw2 : Below wr.heap.size wr w2 := hBn.grown hg2 (by simp) (fun j hj => by cases hj; exact Nat.le_refl _); have hK2 := hK.below hBw2 hMs; have hst2 := hst w2 (fun b hb hT => (hK2.block b (by omega) hT).trans (hW.block b hb)); obtain ⟨hO2, hV2, hR2⟩ := hst2; have d0 := cell1 hO2.h0; have d2 := cell1 hO2.h2; have d3 := cell1 hO2.h3; have d4 := cell1 hO2.h4; have e0 := (cell_of_block hc2 0).trans x.at0; have e1 := (cell_of_block hc2 1).trans x.at1; have e2 := (cell_of_block hc2 2).trans x.at2; have e35 := (cell_of_block hc2 35).trans (VoteM.at35 hxo))
                      | (refine wpListIn_loadG 24 (.tmp 37) (by with_reducible rfl) (by rfl) wr.heap.size 3 ?_ (zB x.sum) (.array 32 5) ?_ Try.underlying24 rfl ?_ ?_; rfl; exact (range_of hc2 3 _ (fun j hj => VoteM.at_sum j (by simpa using hj))); exact (Hs32.out x.sum hxo.sum))
                      | (refine wpListIn_loadG 24 (.tmp 5) (by with_reducible rfl) (by rfl) b5 0 ?_ (zB sum) (.array 32 5) ?_ Try.underlying24 rfl ?_ ?_; rfl; exact (range_of hO2.h5 0 _ (fun j _ => by simp)); exact (Hs32.out sum Hsum.out))
                      | (refine wpListIn_loadG 26 (.tmp 9) (by with_reducible rfl) (by rfl) wr.heap.size 0 ?_ x.cells _ ?_ Try.underlying26 rfl ?_ ?_; rfl; exact (range_of hc2 0 _ (fun j _ => by simp [VoteM.arr])); exact Hx68.out)
                      | (gi_at_call 20; refine (callsIn_wide.2 (good_any w2 r n key hR2 x hxo)).mono ?_; rintro e w5 ⟨rfl, hB5⟩; have f35 : w5.cell? ⟨wr.heap.size, 35, none⟩ = some (.int .i64 x.frm) := (hB5.cell (p := ⟨wr.heap.size, 35, none⟩) (Array.getElem?_eq_some_iff.1 hc2).1).trans e35; have hBw5 : Below wr.heap.size wr w5 := hBw2.trans (hB5.mono hBw2.size); have hK5 := hK.below hBw5 hMs; have hJ5 := hJ _ _ _ _ hJs (grown_below hBw5 (Nat.le_refl _))))
                    (try refine ⟨?_, ?_⟩)
                    · first
                        | exact ⟨k + 1, by omega, by go_num, by rw [Hsn.out, if_neg hvt, List.append_nil]; exact hJ5, hK5⟩
                        | (repeat apply Exists.intro
                           refine ⟨?_, rfl⟩
                           exact ⟨k + 1, by omega, by go_num, by rw [Hsn.out, if_neg hvt, List.append_nil]; exact hJ5, hK5⟩)
                    · simp [intOf]
                      omega
        · obtain rfl : k = 10 := by omega
          gi_wp2
          go_end0
          exact ⟨⟨_, rfl⟩, .inl ⟨_, by simpa using hJs⟩⟩
end Go.Proofs.Ytjhpemlgcjdpfaa
