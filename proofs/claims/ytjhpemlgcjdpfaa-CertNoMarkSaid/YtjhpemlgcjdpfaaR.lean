/- a range over a function whose iterator keeps blocks of its own from before the first round -/
import Derived.RangeFuncNested
import Derived.RangeFuncBound
import Derived.RangeFuncCalls
import Derived.RangeFuncLeaves
import Derived.Shelf.Abstract
import Derived.Deep.Draws
namespace Go.Proofs.Ytjhpemlgcjdpfaa
open Go.RowKit

/-- what a round keeps: all blocks below M but those of T -/
structure Keep (M : Nat) (T : Nat → Prop) (A B : World) : Prop where
  size : A.heap.size ≤ B.heap.size
  block : ∀ b, b < M → ¬ T b → B.heap[b]? = A.heap[b]?
theorem Keep.refl (M : Nat) (T : Nat → Prop) (A : World) : Keep M T A A := ⟨Nat.le_refl _, fun _ _ _ => rfl⟩
theorem Keep.trans {M : Nat} {T : Nat → Prop} {A B C : World} (h : Keep M T A B) (k : Keep M T B C) : Keep M T A C := ⟨Nat.le_trans h.size k.size, fun b hb ht => (k.block b hb ht).trans (h.block b hb ht)⟩
theorem Keep.alloc {M : Nat} {T : Nat → Prop} {A B : World} (h : Keep M T A B) (hM : M ≤ B.heap.size) (o : Obj) : Keep M T A (B.alloc o) :=
  ⟨Nat.le_trans h.size (by simp), fun b hb ht => (Below.heap_alloc _ _ _ (by omega)).trans (h.block b hb ht)⟩
theorem Keep.setCell {M : Nat} {T : Nat → Prop} {A B : World} (h : Keep M T A B) (p : Addr) (hp : p.block < M → T p.block) (u : Value) : Keep M T A (B.setCell p u) :=
  ⟨by simpa [World.setCell] using h.size, fun b hb ht => (Below.heap_setCell _ _ _ _ (fun e => ht (by rw [e]; exact hp (by rw [← e]; exact hb)))).trans (h.block b hb ht)⟩
theorem Keep.grown {M : Nat} {T : Nat → Prop} {A B C : World} (h : Keep M T A B) {row : Option Nat} (hg : B.grownBy C row) (hM : M ≤ B.heap.size) (hr : ∀ r, row = some r → r < M → T r) : Keep M T A C :=
  ⟨Nat.le_trans h.size hg.size, fun b hb ht => (hg.block b (by omega) (fun e => ht (hr b e.symm hb))).trans (h.block b hb ht)⟩
theorem Keep.drewN {M : Nat} {T : Nat → Prop} {A B : World} (h : Keep M T A B) (n : Nat) : Keep M T A (B.drewN n) := ⟨h.size, h.block⟩
theorem Keep.below {M : Nat} {T : Nat → Prop} {A B C : World} {k : Nat} (h : Keep M T A B) (hb : Below k B C) (hM : M ≤ k) : Keep M T A C :=
  ⟨Nat.le_trans h.size hb.size, fun b hb1 ht => (hb.block b (by omega)).trans (h.block b hb1 ht)⟩

/-- THE ITERATOR's CONTRACT: it tells xs in order; what the caller says of its own is handed from round to round. -/
def IterM {α : Type} (P : Program) (g : Nat) (lb : Array Value) (encs : α → Array Value) (xs : List α) (T : Nat → Prop) (w : World) : Prop :=
  ∀ (l : Nat) (J : Nat → List α → World → Prop) (Jx : List α → World → Prop) (W : World), Below w.heap.size w W →
    (∀ M pre A B, J M pre A → A.grownBy B none → J M pre B) → (∀ pre A B, Jx pre A → A.grownBy B none → Jx pre B) →
    (∀ M pre x A, W.heap.size ≤ M → pre ++ [x] <+: xs → M ≤ A.heap.size → J M pre A → YieldAt Fence.wide 8 P l (encs x) A fun e B =>
      (e = .returned (.bool true) ∧ J M (pre ++ [x]) B ∧ Keep M T A B) ∨ (e = .returned (.bool false) ∧ Jx (pre ++ [x]) B)) →
    (∀ A, Below W.heap.size W A → J A.heap.size [] A) →
    CallsIn Fence.wide 9 P g (#[.func (.yield l) #[] #[]] ++ lb) W fun e B => (∃ v, e = .returned v) ∧ ((∃ M, J M xs B) ∨ (∃ pre, pre <+: xs ∧ Jx pre B))

def Obj.isRec : Obj → Bool
  | .loop _ | .deferred _ => true
  | _ => false

/-- at most records from B0 on have turned, and blocks have come -/
structure RecTurn (B0 : Nat) (A B : World) : Prop where
  os : B.os = A.os
  tape : B.tape = A.tape
  output : B.output = A.output
  size : A.heap.size ≤ B.heap.size
  block : ∀ b o, A.heap[b]? = some o → (b < B0 ∨ Obj.isRec o = false) → B.heap[b]? = some o

theorem RecTurn.of_grown {B0 : Nat} {A B : World} (h : A.grownBy B none) : RecTurn B0 A B :=
  ⟨h.os, h.tape, h.output, h.size, fun b o hb _ => (h.block b (Array.getElem?_eq_some_iff.1 hb).1 (by simp)).trans hb⟩
theorem RecTurn.putObj {B0 : Nat} (A : World) {l : Nat} {o : Obj} (o' : Obj) (hl : A.heap[l]? = some o) (ho : Obj.isRec o = true) (hB : B0 ≤ l) : RecTurn B0 A (A.putObj l o') :=
  ⟨rfl, rfl, rfl, by simp, fun b o2 hb h => by
    by_cases e : b = l
    · subst e
      rw [hl] at hb; cases hb
      rcases h with h | h
      · omega
      · rw [ho] at h; cases h
    · exact (World.putObj_heap_other e).trans hb⟩

/-- how the body of a round may be left -/
def postM {α : Type} (M : Nat) (T : Nat → Prop) (I : Nat → List α → World → Prop) (Ix : Code → List α → World → Prop) (xs : List α) (W : World) : Exit → Act → World → Prop
  | .normal, _, W' => Keep M T W W' ∧ I M xs W'
  | .ret, _, W' => Keep M T W W' ∧ Ix .ret xs W'
  | .exit id, _, W' => Keep M T W W' ∧ Ix (.exit id) xs W'
  | .goto t, _, W' => Keep M T W W' ∧ Ix (.goto t) xs W'
  | .panic _, _, _ => False
  | .outgrown, _, _ => False

variable {P : Program}

/-- THE LAW -/
theorem range_law {α : Type} {g : Operand} {ps : Array Tmp} {assign body : Code} {Q : Exit → Act → World → Prop} {a : Act} {w : World}
    {gf : Nat} {lb : Array Value} (hg : a.eval g = .func (.func gf) #[] lb) (eg : ∀ args w, (callFunc gf args).run P w = .ok (.enter gf args) w)
    {encs : α → Array Value} {xs : List α} {T : Nat → Prop} (hseq : IterM P gf lb encs xs T w) (hT : ∀ b, T b → b < w.heap.size) (hps : ∀ x, (encs x).size = ps.size)
    (I : Nat → List α → World → Prop) (Ix : Code → List α → World → Prop)
    (hI : ∀ M pre A B, I M pre A → RecTurn w.heap.size A B → I M pre B) (hIx : ∀ c pre A B, Ix c pre A → RecTurn w.heap.size A B → Ix c pre B)
    (h0 : ∀ A, Below w.heap.size w A → I A.heap.size [] A) (a₁ : α → Act)
    (hassign : ∀ (l : Nat) (x : α) (W : World) (K : Act → World → Prop), K (a₁ x) W →
      assign.wpIn (Fence.wide.inRound l) 8 P (Exit.then K (fun _ _ _ => False)) { tmps := (ps.zip (encs x)).foldl (fun t (p, v) => t.setIfInBounds p v) a.tmps, defers := [] } W)
    (hbody : ∀ (l M : Nat) (pre : List α) (x : α) (W : World), w.heap.size + 2 ≤ M → M ≤ W.heap.size → I M pre W → pre ++ [x] <+: xs → body.wpIn (Fence.wide.inRound l) 8 P (postM M T I Ix (pre ++ [x]) W) (a₁ x) W)
    (hdone : ∀ (D M : Nat) (W : World), w.heap.size ≤ D → I M xs W → W.heap[D]? = some (.deferred (some [])) → Q .normal { a with defers := { target := .collected D, args := #[] } :: a.defers } W)
    (hstop : ∀ (D : Nat) (c : Code) (pre : List α) (W : World), w.heap.size ≤ D → pre <+: xs → Ix c pre W → W.heap[D]? = some (.deferred (some [])) → c.wpIn Fence.wide 10 P Q { a with defers := { target := .collected D, args := #[] } :: a.defers } W) :
    (Code.rangeFunc g ps assign body).wpIn Fence.wide 10 P Q a w := by
  refine wpIn_rangeFunc ?_
  intro fn hfn
  generalize hlo : (⟨.ready, none, fn, a.tmps, ps, assign, body, w.heap.size⟩ : Loop) = L0
  let rc : LoopState → Option Code → Obj := fun st pe => .loop { L0 with state := st, pending := pe }
  have hst : L0.state = .ready := by rw [← hlo]
  have hL0 : ({ L0 with state := .ready, pending := none } : Loop) = L0 := by rw [← hlo]
  obtain ⟨W1, hW1⟩ : ∃ W1, W1 = (w.alloc (.deferred (some []))).alloc (.loop L0) := ⟨_, rfl⟩
  have hsz : W1.heap.size = w.heap.size + 2 := by rw [hW1]; simp
  have hL1 : W1.heap[w.heap.size + 1]? = some (.loop L0) := by
    have := World.alloc_heap_new (w.alloc (.deferred (some []))) (.loop L0)
    rw [World.size_alloc] at this
    rw [hW1]; exact this
  have hD1 : W1.heap[w.heap.size]? = some (.deferred (some [])) := by
    rw [hW1]; exact (Below.heap_alloc _ _ _ (by simp)).trans (World.alloc_heap_new w _)
  have hB1 : Below w.heap.size w W1 := by
    rw [hW1]; exact ((Below.refl _ w).alloc (Nat.le_refl _) _).alloc (by simp) _
  refine ⟨w.heap.size + 1, [{ target := .collected w.heap.size, args := #[] }], W1, { target := .fn (.func gf) lb, args := #[.func (.yield (w.heap.size + 1)) #[] #[]] }, W1, gf,
    #[.func (.yield (w.heap.size + 1)) #[] #[]] ++ lb, W1, ?_, ?_, fun _ _ => trivial, ?_, fun _ => by omega, ?_⟩
  · rw [hW1, ← hlo]; exact run_enterLoop_outer _ _ _ _ _
  · simp only [resolve, hg]
    simp [go_sem]
  · simp [invoke, go_sem, eg]
  -- the iterator, with the two records beside the caller's word
  refine (hseq (w.heap.size + 1)
    (fun M pre A => I M pre A ∧ A.heap[w.heap.size + 1]? = some (.loop L0) ∧ A.heap[w.heap.size]? = some (.deferred (some [])) ∧ w.heap.size + 2 ≤ M)
    (fun pre A => ∃ c, Ix c pre A ∧ A.heap[w.heap.size + 1]? = some (rc .done (some c)) ∧ A.heap[w.heap.size]? = some (.deferred (some [])))
    W1 hB1 ?_ ?_ ?_ ?_).mono ?_
  · rintro M pre A B ⟨h1, h2, h3, h4⟩ hAB
    have ht := RecTurn.of_grown (B0 := w.heap.size) hAB
    exact ⟨hI _ _ _ _ h1 ht, (hAB.block _ (Array.getElem?_eq_some_iff.1 h2).1 (by simp)).trans h2, (hAB.block _ (Array.getElem?_eq_some_iff.1 h3).1 (by simp)).trans h3, h4⟩
  · rintro pre A B ⟨c, h1, h2, h3⟩ hAB
    have ht := RecTurn.of_grown (B0 := w.heap.size) hAB
    exact ⟨c, hIx _ _ _ _ h1 ht, (hAB.block _ (Array.getElem?_eq_some_iff.1 h2).1 (by simp)).trans h2, (hAB.block _ (Array.getElem?_eq_some_iff.1 h3).1 (by simp)).trans h3⟩
  · -- a round
    rintro M pre x A hM hpre hMA ⟨h1, h2, h3, h4⟩
    have hlt : w.heap.size + 1 < A.heap.size := (Array.getElem?_eq_some_iff.1 h2).1
    have hy := run_yield (P := P) (args := encs x) h2 (by rw [← hlo]; exact hps x)
    have hLf : L0.fn = fn ∧ L0.assign = assign ∧ L0.body = body ∧ L0.params = ps ∧ L0.tmps = a.tmps := by rw [← hlo]; exact ⟨rfl, rfl, rfl, rfl, rfl⟩
    obtain ⟨e1, e2, e3, e4, e5⟩ := hLf
    rw [e1, e2, e3, e4, e5] at hy
    refine ⟨fn, _, assign, body, hy, roundIn_of_wpIn hfn (hassign _ x A _ ⟨_, run_beginRound h2 hst, ?_⟩)⟩
    have hr2 : (A.putObj (w.heap.size + 1) (.loop { L0 with state := .busy })).heap[w.heap.size + 1]? = some (.loop { L0 with state := .busy }) := World.putObj_heap_same hlt
    have hd2 : (A.putObj (w.heap.size + 1) (.loop { L0 with state := .busy })).heap[w.heap.size]? = some (.deferred (some [])) := (World.putObj_heap_other (by omega)).trans h3
    have ht2 := RecTurn.putObj (B0 := w.heap.size) A (.loop { L0 with state := .busy }) h2 rfl (by omega)
    have hnT1 : ¬ T (w.heap.size + 1) := fun h => by have := hT _ h; omega
    have hnT0 : ¬ T w.heap.size := fun h => by have := hT _ h; omega
    refine wpIn_mono (hbody _ M pre x _ h4 (by simpa using hMA) (hI _ _ _ _ h1 ht2) hpre) ?_
    have fin : ∀ (jump : Option Code) (W3 : World), Keep M T (A.putObj (w.heap.size + 1) (.loop { L0 with state := .busy })) W3 →
        W3.heap[w.heap.size + 1]? = some (.loop { L0 with state := .busy }) ∧ W3.heap[w.heap.size]? = some (.deferred (some [])) ∧
        (Instr.endRound (w.heap.size + 1) jump).run P W3 = .ok (.bool jump.isNone) (W3.putObj (w.heap.size + 1) (rc (if jump.isNone then .ready else .done) jump)) := fun jump W3 hk => by
      have h5 := (hk.block _ (by omega) hnT1).trans hr2
      exact ⟨h5, (hk.block _ (by omega) hnT0).trans hd2, run_endRound (P := P) (r := { L0 with state := .busy }) jump h5⟩
    rintro e a3 W3 hp
    cases e with
    | normal =>
      obtain ⟨hk, hi3⟩ := hp
      obtain ⟨h5, h6, h7⟩ := fin none W3 hk
      have hlt3 := (Array.getElem?_eq_some_iff.1 h5).1
      have h8 : (W3.putObj (w.heap.size + 1) (rc .ready none)).heap[w.heap.size + 1]? = some (.loop L0) := by
        rw [World.putObj_heap_same hlt3]; exact congrArg (fun x => some (Obj.loop x)) hL0
      refine ⟨_, _, h7, .inl ⟨rfl, ⟨hI _ _ _ _ hi3 (RecTurn.putObj W3 _ h5 rfl (by omega)), h8, (World.putObj_heap_other (by omega)).trans h6, h4⟩, ?_, ?_⟩⟩
      · have := hk.size
        simp at this ⊢
        exact this
      · intro b hb ht
        by_cases eb : b = w.heap.size + 1
        · subst eb
          exact h8.trans h2.symm
        · refine (World.putObj_heap_other eb).trans ((hk.block b hb ht).trans ?_)
          exact World.putObj_heap_other eb
    | ret =>
      obtain ⟨hk, hi3⟩ := hp
      obtain ⟨h5, h6, h7⟩ := fin (some .ret) W3 hk
      exact ⟨_, _, h7, .inr ⟨rfl, .ret, hIx _ _ _ _ hi3 (RecTurn.putObj W3 _ h5 rfl (by omega)), World.putObj_heap_same (Array.getElem?_eq_some_iff.1 h5).1, (World.putObj_heap_other (by omega)).trans h6⟩⟩
    | exit id =>
      obtain ⟨hk, hi3⟩ := hp
      obtain ⟨h5, h6, h7⟩ := fin (some (.exit id)) W3 hk
      exact ⟨_, _, h7, .inr ⟨rfl, .exit id, hIx _ _ _ _ hi3 (RecTurn.putObj W3 _ h5 rfl (by omega)), World.putObj_heap_same (Array.getElem?_eq_some_iff.1 h5).1, (World.putObj_heap_other (by omega)).trans h6⟩⟩
    | goto t =>
      obtain ⟨hk, hi3⟩ := hp
      obtain ⟨h5, h6, h7⟩ := fin (some (.goto t)) W3 hk
      exact ⟨_, _, h7, .inr ⟨rfl, .goto t, hIx _ _ _ _ hi3 (RecTurn.putObj W3 _ h5 rfl (by omega)), World.putObj_heap_same (Array.getElem?_eq_some_iff.1 h5).1, (World.putObj_heap_other (by omega)).trans h6⟩⟩
    | panic ch => exact hp.elim
    | outgrown => exact hp.elim
  · intro A hA
    have hs := hA.size
    exact ⟨h0 A (hB1.trans (hA.mono (by omega))), (hA.block _ (by omega)).trans hL1, (hA.block _ (by omega)).trans hD1, by omega⟩
  · rintro e W2 ⟨⟨v, rfl⟩, (⟨M, hi, hl, hd, hM⟩ | ⟨pre, hpre, c, hi, hl, hd⟩)⟩
    · have hp : L0.pending = none := by rw [← hlo]
      refine ⟨none, _, by have := run_endLoop (P := P) hl (by rw [hst]; simp); rw [hp] at this; exact this, ?_⟩
      exact hdone _ M _ (Nat.le_refl _) (hI _ _ _ _ hi (RecTurn.putObj W2 _ hl rfl (by omega))) ((World.putObj_heap_other (by omega)).trans hd)
    · refine ⟨some c, _, run_endLoop (P := P) hl (by simp), ?_⟩
      exact hstop _ c pre _ (Nat.le_refl _) hpre (hIx _ _ _ _ hi (RecTurn.putObj W2 _ hl rfl (by omega))) ((World.putObj_heap_other (by omega)).trans hd)

end Go.Proofs.Ytjhpemlgcjdpfaa
