/- words on memory: a row of cells that a slice value reads -/
import Derived.WalkKit
import Derived.Deep.Draws
import Derived.Lib.Hide
import Derived.Deep.AppendLies
import Derived.Laws.AppendOwnNone
import Derived.Deep.RegionHeld3
namespace Go.Proofs.Ytjhpemlgcjdpfaa
open Go.RowKit
abbrev zI (l : List Int) : List Value := l.map (Value.int .i64)

/-- slice value v of n elements (element type e) reads the cells xs -/
def RowAt (w : World) (e : TypeId) (v : Value) (n : Nat) (xs : List Value) : Prop :=
  (n = 0 ∧ xs = [] ∧ ∃ a cap, v = .slice a 0 cap ∧ cap ≤ maxLen ∧ (a = none → cap = 0)) ∨
  ∃ b off cap cur fr, v = .slice (some ⟨b, off, none⟩) n cap ∧ n ≤ cap ∧ cap ≤ maxLen ∧ w.heap[b]? = some (.cells cur e fr) ∧ ∀ j (h : j < xs.length), cur[off + j]? = some xs[j]

theorem RowAt.of_block {w w' : World} {e : TypeId} {v : Value} {n : Nat} {xs : List Value} (h : RowAt w e v n xs) (hb : ∀ b, v.ownBlock = some b → w'.heap[b]? = w.heap[b]?) : RowAt w' e v n xs := by
  rcases h with h | ⟨b, off, cap, cur, fr, rfl, h1, h2, h3, h4⟩
  · exact .inl h
  · exact .inr ⟨b, off, cap, cur, fr, rfl, h1, h2, (hb b rfl).trans h3, h4⟩

theorem RowAt.lt {w : World} {e : TypeId} {v : Value} {n : Nat} {xs : List Value} (h : RowAt w e v n xs) (hx : xs ≠ []) : ∀ b, v.ownBlock = some b → b < w.heap.size := by
  rcases h with ⟨_, h, _⟩ | ⟨b, off, cap, cur, fr, rfl, h1, h2, h3, h4⟩
  · exact absurd h hx
  · intro b' hb'
    simp [Value.ownBlock] at hb'
    subst hb'
    exact (Array.getElem?_eq_some_iff.1 h3).1

theorem RowAt.cell {w : World} {e : TypeId} {v : Value} {n : Nat} {xs : List Value} (h : RowAt w e v n xs) (hn : 0 < n) :
    ∃ b off cap, v = .slice (some ⟨b, off, none⟩) n cap ∧ n ≤ cap ∧ cap ≤ maxLen ∧ ∀ j (h : j < xs.length), w.cell? ⟨b, off + j, none⟩ = some xs[j] := by
  rcases h with ⟨rfl, _⟩ | ⟨b, off, cap, cur, fr, rfl, h1, h2, h3, h4⟩
  · omega
  · refine ⟨b, off, cap, rfl, h1, h2, fun j hj => ?_⟩
    simp only [World.cell?, h3]
    simpa using h4 j hj

theorem RowAt.shape {w : World} {e : TypeId} {v : Value} {n : Nat} {xs : List Value} (h : RowAt w e v n xs) : ∃ a cap, v = .slice a n cap ∧ n ≤ cap ∧ cap ≤ maxLen := by
  rcases h with ⟨rfl, _, a, cap, rfl, h, _⟩ | ⟨b, off, cap, cur, fr, rfl, h1, h2, _⟩
  · exact ⟨a, cap, rfl, Nat.zero_le _, h⟩
  · exact ⟨_, cap, rfl, h1, h2⟩

/-- blocks that need not lie as they lay: at most those of R; nothing has gone -/
structure Kept (R : Nat → Prop) (w w' : World) : Prop where
  size : w.heap.size ≤ w'.heap.size
  block : ∀ b, b < w.heap.size → ¬ R b → w'.heap[b]? = w.heap[b]?
  os : w'.os = w.os
  tape : w'.tape = w.tape
  output : w'.output = w.output

theorem Kept.refl (R : Nat → Prop) (w : World) : Kept R w w := ⟨Nat.le_refl _, fun _ _ _ => rfl, rfl, rfl, rfl⟩
theorem Kept.drewN {R : Nat → Prop} {w w' : World} (h : Kept R w w') (n : Nat) : Kept R w (w'.drewN n) := ⟨h.size, h.block, h.os, h.tape, h.output⟩
theorem Kept.trans {R : Nat → Prop} {a b c : World} (h : Kept R a b) (k : Kept R b c) : Kept R a c :=
  ⟨Nat.le_trans h.size k.size, fun i hi hr => (k.block i (Nat.lt_of_lt_of_le hi h.size) hr).trans (h.block i hi hr), k.os.trans h.os, k.tape.trans h.tape, k.output.trans h.output⟩
theorem Kept.mono {R R' : Nat → Prop} {w w' : World} (h : Kept R w w') (hr : ∀ b, b < w.heap.size → R b → R' b) : Kept R' w w' := ⟨h.size, fun b hb hn => h.block b hb (fun x => hn (hr b hb x)), h.os, h.tape, h.output⟩
theorem Kept.of_grownBy {w w' : World} {row : Option Nat} (h : w.grownBy w' row) : Kept (fun b => some b = row) w w' := ⟨h.size, fun b hb hn => h.block b hb hn, h.os, h.tape, h.output⟩
theorem Kept.of_below {R : Nat → Prop} {w w' : World} (h : Below w.heap.size w w') : Kept R w w' := ⟨h.size, fun b hb _ => h.block b hb, h.os, h.tape, h.output⟩
theorem Kept.setCell {R : Nat → Prop} {w w' : World} (h : Kept R w w') (p : Addr) (hp : R p.block) (u : Value) : Kept R w (w'.setCell p u) :=
  ⟨by simpa [World.setCell] using h.size, fun b hb hr => (Below.heap_setCell _ _ _ _ (fun e => hr (by rw [e]; exact hp))).trans (h.block b hb hr), h.os, h.tape, h.output⟩
theorem Kept.setCell_new {R : Nat → Prop} {w w' : World} (h : Kept R w w') (p : Addr) (hp : w.heap.size ≤ p.block) (u : Value) : Kept R w (w'.setCell p u) :=
  ⟨by simpa [World.setCell] using h.size, fun b hb hr => (Below.heap_setCell _ _ _ _ (fun e => by omega)).trans (h.block b hb hr), h.os, h.tape, h.output⟩
theorem Kept.alloc {R : Nat → Prop} {w w' : World} (h : Kept R w w') (o : Obj) : Kept R w (w'.alloc o) :=
  ⟨Nat.le_trans h.size (by simp), fun b hb hr => (Below.heap_alloc _ _ _ (Nat.lt_of_lt_of_le hb h.size)).trans (h.block b hb hr), h.os, h.tape, h.output⟩
/-- a row is read as it was where at most block x, of other cells, has turned -/
theorem RowAt.keptBut {w w' : World} {e : TypeId} {v : Value} {n : Nat} {xs : List Value} (h : RowAt w e v n xs) {x : Nat} (hk : Kept (fun b => b = x) w w') {cs : Array Value} {t : TypeId} {fr : Nat × Nat} (hx : w.heap[x]? = some (.cells cs t fr)) (hne : t ≠ e) : RowAt w' e v n xs := by
  rcases h with h | ⟨b, off, cap, cur, fr', rfl, h1, h2, h3, h4⟩
  · exact .inl h
  · refine .inr ⟨b, off, cap, cur, fr', rfl, h1, h2, ?_, h4⟩
    rw [hk.block b (Array.getElem?_eq_some_iff.1 h3).1 (fun e1 => ?_)]
    · exact h3
    · subst e1
      rw [hx] at h3
      simp at h3
      exact hne h3.2.1
theorem Kept.below {R : Nat → Prop} {w0 w w' : World} (hb : Below w0.heap.size w0 w) (h : Kept R w w') (hr : ∀ b, R b → w0.heap.size ≤ b) : Below w0.heap.size w0 w' :=
  hb.trans ⟨h.os, h.tape, h.output, h.size, fun k hk => h.block k (Nat.lt_of_lt_of_le hk hb.size) (fun x => by have := hr k x; omega)⟩


theorem RowAt.cells {w : World} {e : TypeId} {b off n cap : Nat} {xs : List Value} (h : RowAt w e (.slice (some ⟨b, off, none⟩) n cap) n xs) : ∀ j u, xs[j]? = some u → w.cell? ((⟨b, off, none⟩ : Addr).add j) = some u := by
  intro j u hu
  have hadd : (⟨b, off, none⟩ : Addr).add j = ⟨b, off + j, none⟩ := by unfold Addr.add; split <;> simp_all
  rw [hadd]
  rcases h with ⟨_, rfl, _⟩ | ⟨b', off', cap', cur, fr, hv, h1, h2, h3, h4⟩
  · simp at hu
  · cases hv
    obtain ⟨hj, rfl⟩ := List.getElem?_eq_some_iff.1 hu
    simp only [World.cell?, h3]
    simpa using h4 j hj

/-- a row that is owned is read -/
theorem RowAt.of_owns {w : World} {base : Nat} {e : TypeId} {size : Nat} {v : Value} {n : Nat} {xs : List Value} (h : w.ownsRow base e size v n xs) : RowAt w e v n xs := by
  rcases h.2 with ⟨rfl, rfl⟩ | ⟨g, cap, cur, rfl, hb, hg, h1, h2, h3, h4⟩
  · refine .inl ⟨rfl, List.eq_nil_of_length_eq_zero (by simpa using h.1), none, 0, rfl, Nat.zero_le _, fun _ => rfl⟩
  · refine .inr ⟨g, 0, cap, cur, _, rfl, h1, h2, hg, fun j hj => ?_⟩
    have hlen := h.1
    have : cur.toList[j]? = some xs[j] := by
      have h5 : (cur.toList.take (n * size))[j]? = some xs[j] := by rw [h4]; exact List.getElem?_eq_getElem hj
      rw [List.getElem?_take] at h5
      split at h5
      · exact h5
      · cases h5
    simpa using this

section
variable {P : Program} (w : World)

/-- append of a row, whatever row, onto a row that is owned -/
theorem run_append_rowAt (base : Nat) (t ty e : TypeId) (i : TypeInfo) (z : Value) (size bytes : Nat) (ht : P.underlying t = some (.slice e)) (hi : P.info? e = some i) (hz : i.zero = some z)
    (hsize : i.size = size) (hby : i.bytes = bytes) (hzs : z.cells.size = size) (hsz : 0 < size)
    (v : Value) (n : Nat) (xs : List Value) (hown : w.ownsRow base e size v n xs)
    (e' : TypeId) (s : Value) (m : Nat) (news : List Value) (hs : RowAt w e' s m news) (hl : news.length = m * size) (h1 : ∀ u ∈ news, u.oneCell' = true)
    (h63 : n + m ≤ maxLen) (hbytes : (n + m) * bytes ≤ 140737488355328) (hbase : base ≤ w.heap.size) :
    ∃ a' cap' w', (Builtin.append_ #[t, t] ty #[v, s]).run P w = .ok (.slice a' (n + m) cap') w' ∧ w'.ownsRow base e size (.slice a' (n + m) cap') (n + m) (xs ++ news) ∧ w.grownBy w' v.ownBlock ∧
      ((Value.slice a' (n + m) cap').ownBlock = v.ownBlock ∨ (Value.slice a' (n + m) cap').ownBlock = some w.heap.size) := by
  have shape : ∀ {w' : World} {v' : Value} {k : Nat} {ys : List Value}, w'.ownsRow base e size v' k ys → ∃ a' cap', v' = .slice a' k cap' := by
    intro w' v' k ys h
    rcases h.2 with ⟨rfl, rfl⟩ | ⟨g, cap, cur, rfl, _⟩ <;> exact ⟨_, _, rfl⟩
  have main : ∀ (a : Addr) (c : Nat), s = .slice (some a) m c → (∀ j u, news[j]? = some u → w.cell? (a.add j) = some u) → _ := fun a c hs' hnews =>
    run_append_own_at (P := P) w base t ty e i z size bytes ht hi hz hsize hby hzs hsz v n xs hown a m c news hl hnews h1 h63 hbytes hbase
  have fin : ∀ (a : Addr) (c : Nat), s = .slice (some a) m c → (∀ j u, news[j]? = some u → w.cell? (a.add j) = some u) → ∃ a' cap' w', (Builtin.append_ #[t, t] ty #[v, s]).run P w = .ok (.slice a' (n + m) cap') w' ∧ w'.ownsRow base e size (.slice a' (n + m) cap') (n + m) (xs ++ news) ∧ w.grownBy w' v.ownBlock ∧
      ((Value.slice a' (n + m) cap').ownBlock = v.ownBlock ∨ (Value.slice a' (n + m) cap').ownBlock = some w.heap.size) := by
    intro a c hs' hnews
    obtain ⟨v', w', hr, h2, h3, _, h5⟩ := main a c hs' hnews
    obtain ⟨a', cap', rfl⟩ := shape h2
    exact ⟨a', cap', w', by rw [hs']; exact hr, h2, h3, h5⟩
  rcases hs with ⟨rfl, rfl, a, cap, rfl, hcm, hnc⟩ | ⟨b, off, cap, cur, fr, rfl, hc, hm, hb, hcells⟩
  · cases a with
    | some a => exact fin a cap rfl (by simp)
    | none =>
      obtain rfl := hnc rfl
      obtain ⟨a', cap', rfl⟩ := shape hown
      refine ⟨a', cap', w, ?_, by simpa using hown, ⟨rfl, rfl, rfl, Nat.le_refl _, fun _ _ _ => rfl⟩, .inl rfl⟩
      exact run_append_owned_none (P := P) (w := w) base t ty e i size ht hi _ n xs hown
  · exact fin ⟨b, off, none⟩ cap rfl (RowAt.cells (cap := cap) (e := e') (.inr ⟨b, off, cap, cur, fr, rfl, hc, hm, hb, hcells⟩))

theorem wp_append_rowAt {o : Oper} {a : Act} {K : Act → World → Prop} {Q : Exit → Act → World → Prop} (sv x : Operand) (t : TypeId)
    (ho : o.op = .call { callee := .builtin .append, args := #[sv, x], argTypes := #[t, t] })
    (base : Nat) (e : TypeId) (i : TypeInfo) (z : Value) (size bytes : Nat) (ht : P.underlying t = some (.slice e)) (hi : P.info? e = some i) (hz : i.zero = some z)
    (hsize : i.size = size) (hby : i.bytes = bytes) (hzs : z.cells.size = size) (hsz : 0 < size)
    (v : Value) (n : Nat) (xs : List Value) (hv : a.eval sv = v) (hown : w.ownsRow base e size v n xs)
    (e' : TypeId) (s : Value) (m : Nat) (news : List Value) (hx : a.eval x = s) (hs : RowAt w e' s m news) (hl : news.length = m * size) (h1 : ∀ u ∈ news, u.oneCell' = true)
    (h63 : n + m ≤ maxLen) (hbytes : (n + m) * bytes ≤ 140737488355328) (hbase : base ≤ w.heap.size)
    (h : ∀ a' cap' w', w'.ownsRow base e size (.slice a' (n + m) cap') (n + m) (xs ++ news) → w.grownBy w' v.ownBlock → ((Value.slice a' (n + m) cap').ownBlock = v.ownBlock ∨ (Value.slice a' (n + m) cap').ownBlock = some w.heap.size) → K (a.put o.dst (.slice a' (n + m) cap')) w') : o.wp P a w K Q := by
  obtain ⟨a', cap', w', hr, h2, h3, h4⟩ := run_append_rowAt (P := P) w base t o.type e i z size bytes ht hi hz hsize hby hzs hsz v n xs hown e' s m news hs hl h1 h63 hbytes hbase
  unfold Oper.wp execOp
  simp only [ho, resolve, invoke, builtin, Sem.run_bind, Sem.run_pure, Result.andThen_ok, List.map_toArray, List.map_cons, List.map_nil, hv, hx, hr]
  exact h a' cap' w' h2 h3 h4

/-- for the walk -/
theorem wpList_append_rowAt {ops : Array Oper} {rest : List Oper} {o : Oper} {a : Act} {Q : Exit → Act → World → Prop} (hgd : o.guard = none) (sv x : Operand) (t : TypeId)
    (ho : o.op = .call { callee := .builtin .append, args := #[sv, x], argTypes := #[t, t] })
    (base : Nat) (e : TypeId) (i : TypeInfo) (z : Value) (size bytes : Nat) (ht : P.underlying t = some (.slice e)) (hi : P.info? e = some i) (hz : i.zero = some z)
    (hsize : i.size = size) (hby : i.bytes = bytes) (hzs : z.cells.size = size) (hsz : 0 < size)
    (v : Value) (n : Nat) (xs : List Value) (hv : a.eval sv = v) (hown : w.ownsRow base e size v n xs)
    (e' : TypeId) (s : Value) (m : Nat) (news : List Value) (hx : a.eval x = s) (hs : RowAt w e' s m news) (hl : news.length = m * size) (h1 : ∀ u ∈ news, u.oneCell' = true)
    (h63 : n + m ≤ maxLen) (hbytes : (n + m) * bytes ≤ 140737488355328) (hbase : base ≤ w.heap.size)
    (h : ∀ a' cap' w', w'.ownsRow base e size (.slice a' (n + m) cap') (n + m) (xs ++ news) → w.grownBy w' v.ownBlock → ((Value.slice a' (n + m) cap').ownBlock = v.ownBlock ∨ (Value.slice a' (n + m) cap').ownBlock = some w.heap.size) → wpList P ops Q rest (a.put o.dst (.slice a' (n + m) cap')) w') : wpList P ops Q (o :: rest) a w :=
  wpList_plain hgd fun _ hK => wp_append_rowAt w sv x t ho base e i z size bytes ht hi hz hsize hby hzs hsz v n xs hv hown e' s m news hx hs hl h1 h63 hbytes hbase fun a' cap' w' h2 h3 h4 => hK _ _ (h a' cap' w' h2 h3 h4)

/-- at a step of a region that draws -/
theorem step_append_rowAt {ops : Array Oper} {o : Oper} {a : Act} {K : Act → World → Prop} {Q : Exit → Act → World → Prop} {E : Prop} (hgd : o.guard = none) (sv x : Operand) (t : TypeId)
    (ho : o.op = .call { callee := .builtin .append, args := #[sv, x], argTypes := #[t, t] })
    (base : Nat) (e : TypeId) (i : TypeInfo) (z : Value) (size bytes : Nat) (ht : P.underlying t = some (.slice e)) (hi : P.info? e = some i) (hz : i.zero = some z)
    (hsize : i.size = size) (hby : i.bytes = bytes) (hzs : z.cells.size = size) (hsz : 0 < size)
    (v : Value) (n : Nat) (xs : List Value) (hv : a.eval sv = v) (hown : w.ownsRow base e size v n xs)
    (e' : TypeId) (s : Value) (m : Nat) (news : List Value) (hx : a.eval x = s) (hs : RowAt w e' s m news) (hl : news.length = m * size) (h1 : ∀ u ∈ news, u.oneCell' = true)
    (h63 : n + m ≤ maxLen) (hbytes : (n + m) * bytes ≤ 140737488355328) (hbase : base ≤ w.heap.size)
    (h : ∀ a' cap' w', w'.ownsRow base e size (.slice a' (n + m) cap') (n + m) (xs ++ news) → w.grownBy w' v.ownBlock → ((Value.slice a' (n + m) cap').ownBlock = v.ownBlock ∨ (Value.slice a' (n + m) cap').ownBlock = some w.heap.size) → K (a.put o.dst (.slice a' (n + m) cap')) w') :
    if Region.wanted o (yielded ops a.tmps) = true then Oper.wp P o a w K Q else E := by
  have hw : Region.wanted o (yielded ops a.tmps) = true := by simp [Region.wanted, hgd]
  rw [if_pos hw]
  exact wp_append_rowAt w sv x t ho base e i z size bytes ht hi hz hsize hby hzs hsz v n xs hv hown e' s m news hx hs hl h1 h63 hbytes hbase h
end

theorem cell_of_block {w : World} {x : Nat} {cs : Array Value} {t : TypeId} {fr : Nat × Nat} (h : w.heap[x]? = some (.cells cs t fr)) (j : Nat) : w.cell? ⟨x, j, none⟩ = cs[j]? := by
  simp [World.cell?, h]
theorem free_of_block {w : World} {x : Nat} {cs : Array Value} {t : TypeId} (h : w.heap[x]? = some (.cells cs t (0, 0))) (j : Nat) : w.frozen? ⟨x, j, none⟩ = false := by
  simp [World.frozen?, h]

end Go.Proofs.Ytjhpemlgcjdpfaa
