/- a region that draws its order: the operations that only read, in whatever world that meets S, come first; the rest in the one order that is left; S is shown behind each of them but the last, for which all others are waited -/
import Derived.OrdersHeld
import Derived.StillTail
import Derived.Deep.RegionHeld
namespace Go.Proofs.Ytjhpemlgcjdpfaa
open Go

section
variable {P : Program} {ops : Array Oper} {Q : Exit → Act → World → Prop} {S : World → Prop} {n : Nat}

/-- whatever order is picked; S behind every operation but number n -/
def wpAnyT (P : Program) (ops : Array Oper) (Q : Exit → Act → World → Prop) (S : World → Prop) (n : Nat) : Nat → Array Bool → Act → World → Prop
  | 0, listed, a, w => Region.ready .any ops listed = [] ∧ Q .normal a w
  | f + 1, listed, a, w =>
    (Region.ready .any ops listed = [] → Q .normal a w) ∧
    ∀ i ∈ Region.ready .any ops listed, wpOp P ops Q i (fun a' w' => (n ≤ i ∨ S w') ∧ wpAnyT P ops Q S n f (listed.setIfInBounds i true) a' w') a w

theorem wpAny_of_T : ∀ (f : Nat) (listed : Array Bool) (a : Act) (w : World), wpAnyT P ops Q S n f listed a w → wpAny P .any ops Q f listed a w
  | 0, _, _, _, h => h
  | f + 1, _, _, _, h => ⟨h.1, fun i hi => wpOp_mono (fun a' w' h' => wpAny_of_T f _ a' w' h'.2) (h.2 i hi)⟩

theorem wpAnyT_first {i : Nat} {oi : Oper} {v : Value} (hi : ops[i]? = some oi) (hin : i < n) (hn : n < ops.size) (hsink : Region.sinkB .any ops n = true) (hchain : Region.chainB .any ops n = true)
    (hsel : ∀ (j : Nat) (o : Oper) cs b, ops[j]? = some o → o.op ≠ .select cs b)
    (hQ : ∀ c a w, Q (.panic c) (a.put oi.dst v) w → Q (.panic c) a w) :
    ∀ (f : Nat) (listed : Array Bool) (a : Act) (w : World), HeadInv .any ops n listed →
      (∀ j oj, ops[j]? = some oj → j ≠ i → listed.getD j true = false → (∀ e ∈ oj.after, Region.binds .any e = true → e.on ≠ i) → oi.apart ops oj = true) →
      i ∈ Region.ready .any ops listed → YieldsIf P ops S oi v a → S w →
      wpAnyT P ops Q S n f (listed.setIfInBounds i true) (a.put oi.dst v) w → wpAnyT P ops Q S n (f + 1) listed a w := by
  intro f
  induction f with
  | zero =>
    intro listed a w _ _ hr hy hS H
    refine ⟨fun h => (by rw [h] at hr; cases hr), fun j hj => ?_⟩
    by_cases hji : j = i
    · subst hji; exact hy.wpOp hi hS ⟨.inr hS, H⟩
    · have := ready_mono hj hji
      rw [H.1] at this
      cases this
  | succ f ih =>
    intro listed a w inv hfree hr hy hS H
    refine ⟨fun h => (by rw [h] at hr; cases hr), fun j hj => ?_⟩
    by_cases hji : j = i
    · subst hji; exact hy.wpOp hi hS ⟨.inr hS, H⟩
    · have h1 := H.2 j (ready_mono hj hji)
      obtain ⟨hjun, oj, hoj, hall⟩ := mem_ready.1 hj
      have hun := (mem_ready.1 hr).1
      have hjn : j < n := by
        rcases Nat.lt_or_ge j n with h | h
        · exact h
        · exact absurd hj (tail_waits hsink hchain hn inv _ i rfl hin hun j h)
      have hnot : ∀ e ∈ oj.after, Region.binds .any e = true → e.on ≠ i := fun e he hb heq => by
        have h1 := hall e he hb
        rw [heq, getD_both hun] at h1
        cases h1
      have h2 := wpOp_putIf hoj (hfree j oj hoj hji hjun hnot) (fun cs b => hsel i oi cs b hi) (fun cs b => hsel j oj cs b hoj) hQ hy h1
      have hfree' : ∀ k ok, ops[k]? = some ok → k ≠ i → (listed.setIfInBounds j true).getD k true = false →
          (∀ e ∈ ok.after, Region.binds .any e = true → e.on ≠ i) → oi.apart ops ok = true := fun k ok hk hki hun hno => by
        refine hfree k ok hk hki ?_ hno
        by_cases hjk : j = k
        · subst hjk; exact hjun
        · rw [getD_set_ne true hjk] at hun; exact hun
      refine wpOp_mono (fun a' w' h3 => ?_) h2
      obtain ⟨hy', hS', H'⟩ := h3
      have hS2 : S w' := hS'.resolve_left (by omega)
      refine ⟨.inr hS2, ih (listed.setIfInBounds j true) a' w' (inv.set hj hjn) hfree' (ready_mono hr (Ne.symm hji)) hy' hS2 ?_⟩
      rw [Array.setIfInBounds_comm _ _ hji]
      exact H'

/-- the operations that only read, one behind the other; behind them L -/
def wpReads (P : Program) (ops : Array Oper) (S : World → Prop) (L : Act → Prop) : List Nat → Act → Prop
  | [], a => L a
  | i :: r, a => ∃ o v, ops[i]? = some o ∧ YieldsIf P ops S o v a ∧ wpReads P ops S L r (a.put o.dst v)

/-- the rest, in the one order that is left -/
def wpRest (P : Program) (ops : Array Oper) (Q : Exit → Act → World → Prop) (S : World → Prop) (n : Nat) : List Nat → Act → World → Prop
  | [], a, w => Q .normal a w
  | i :: r, a, w => wpOp P ops Q i (fun a' w' => (n ≤ i ∨ S w') ∧ wpRest P ops Q S n r a' w') a w

def planReads (ops : Array Oper) (n : Nat) : List Nat → Array Bool → Bool
  | [], _ => true
  | i :: r, listed => decide (i < n) && (Region.ready .any ops listed).contains i && Region.free .any ops listed i && planReads ops n r (listed.setIfInBounds i true)
def afterPlan : List Nat → Array Bool → Array Bool
  | [], listed => listed
  | i :: r, listed => afterPlan r (listed.setIfInBounds i true)
def planRest (ops : Array Oper) : List Nat → Array Bool → Bool
  | [], listed => (Region.ready .any ops listed).isEmpty
  | i :: r, listed => decide (Region.ready .any ops listed = [i]) && planRest ops r (listed.setIfInBounds i true)
/-- the plan of a region: number n is the last, behind all others; rs: what only reads; ts: the rest -/
def planB (ops : Array Oper) (n : Nat) (rs ts : List Nat) : Bool :=
  Region.noSelect ops && decide (n < ops.size) && Region.sinkB .any ops n && Region.chainB .any ops n && decide (rs.length + ts.length = ops.size) &&
    planReads ops n rs (Array.replicate ops.size false) && planRest ops ts (afterPlan rs (Array.replicate ops.size false))

theorem wpAnyT_rest : ∀ (ts : List Nat) (listed : Array Bool) (a : Act) (w : World), planRest ops ts listed = true → wpRest P ops Q S n ts a w → wpAnyT P ops Q S n ts.length listed a w
  | [], _, _, _, hp, h => ⟨by simpa [planRest] using hp, h⟩
  | i :: r, listed, a, w, hp, h => by
    simp only [planRest, Bool.and_eq_true, decide_eq_true_eq] at hp
    refine ⟨fun h0 => (by rw [hp.1] at h0; cases h0), fun j hj => ?_⟩
    rw [hp.1] at hj
    have : j = i := by simpa using hj
    subst this
    exact wpOp_mono (fun a' w' h' => ⟨h'.1, wpAnyT_rest r _ a' w' hp.2 h'.2⟩) h

theorem wpAnyT_reads (hsel : Region.noSelect ops = true) (hn : n < ops.size) (hsink : Region.sinkB .any ops n = true) (hchain : Region.chainB .any ops n = true)
    (hQ : ∀ c d v (a : Act) w, Q (.panic c) (a.put d v) w → Q (.panic c) a w) {ts : List Nat} {w : World} (hS : S w) :
    ∀ (rs : List Nat) (listed : Array Bool) (a : Act), HeadInv .any ops n listed → planReads ops n rs listed = true → planRest ops ts (afterPlan rs listed) = true →
      wpReads P ops S (fun a' => wpRest P ops Q S n ts a' w) rs a → wpAnyT P ops Q S n (rs.length + ts.length) listed a w
  | [], listed, a, _, _, hp, h => by rw [List.length_nil, Nat.zero_add]; exact wpAnyT_rest ts listed a w hp h
  | i :: r, listed, a, inv, hp1, hp2, h => by
    obtain ⟨o, v, ho, hy, h⟩ := h
    simp only [planReads, Bool.and_eq_true, decide_eq_true_eq] at hp1
    obtain ⟨⟨⟨hin, hr⟩, hf⟩, hp1⟩ := hp1
    have hr' : i ∈ Region.ready .any ops listed := by simpa using hr
    rw [List.length_cons, show r.length + 1 + ts.length = (r.length + ts.length) + 1 by omega]
    exact wpAnyT_first ho hin hn hsink hchain (Region.noSelect_spec hsel) (fun c a w => hQ c _ _ a w) _ listed a w inv (Region.free_spec ho hf) hr' hy hS
      (wpAnyT_reads hsel hn hsink hchain hQ hS r _ _ (inv.set hr' hin) hp1 hp2 h)

/-- THE REGION -/
theorem wp_region_plan {id : Nat} {a : Act} {w : World} (n : Nat) (rs ts : List Nat) (S : World → Prop) (hm : P.follows .mixedOrders = true) (hB : planB ops n rs ts = true)
    (hQ : ∀ c d v (a : Act) w, Q (.panic c) (a.put d v) w → Q (.panic c) a w) (hS : S w.drew)
    (h : wpReads P ops S (fun a' => wpRest P ops Q S n ts a' w.drew) rs a) : (Code.region id ops true).wp P Q a w := by
  simp only [planB, Bool.and_eq_true, decide_eq_true_eq] at hB
  obtain ⟨⟨⟨⟨⟨⟨hsel, hn⟩, hsink⟩, hchain⟩, hlen⟩, hp1⟩, hp2⟩ := hB
  have inv0 : HeadInv .any ops n (Array.replicate ops.size false) :=
    ⟨by simp, fun j oj _ hl => (by rw [getD_replicate_false] at hl; cases hl), fun t _ ht => getD_in (by simpa using ht) (getD_replicate_false _ _)⟩
  refine wp_region_any hm ?_
  have := wpAny_of_T _ _ _ _ (wpAnyT_reads hsel hn hsink hchain hQ hS rs _ a inv0 hp1 hp2 h)
  rw [hlen] at this
  exact this

/-- the operation at a place, so that it comes out written -/
def nth : List Oper → Nat → Option Oper
  | [], _ => none
  | o :: _, 0 => some o
  | _ :: r, k + 1 => nth r k
theorem nth_eq : ∀ (l : List Oper) (i : Nat), nth l i = l.toArray[i]?
  | [], i => by simp [nth]
  | o :: r, 0 => by simp [nth]
  | o :: r, i + 1 => by rw [nth, nth_eq r i]; simp

theorem wpReads_nil {L : Act → Prop} {a : Act} (h : L a) : wpReads P ops S L [] a := h
theorem wpReads_take {L : Act → Prop} {a : Act} {i : Nat} {r : List Nat} {o : Oper} {v : Value} {l : List Oper} (ho : nth l i = some o) (hw : Region.wanted o (yielded l.toArray a.tmps) = true)
    (hy : ∀ w, S w → (execOp a.eval o).run P w = .ok (.value v) w) (h : wpReads P l.toArray S L r (a.put o.dst v)) : wpReads P l.toArray S L (i :: r) a :=
  ⟨o, v, (nth_eq l i).symm.trans ho, .inl ⟨hw, hy⟩, h⟩
theorem wpReads_pass {L : Act → Prop} {a : Act} {i : Nat} {r : List Nat} {o : Oper} {l : List Oper} (ho : nth l i = some o) (hw : Region.wanted o (yielded l.toArray a.tmps) = false)
    (h : wpReads P l.toArray S L r (a.put o.dst undef)) : wpReads P l.toArray S L (i :: r) a :=
  ⟨o, undef, (nth_eq l i).symm.trans ho, .inr ⟨hw, rfl⟩, h⟩
theorem wpRest_nil {a : Act} {w : World} (h : Q .normal a w) : wpRest P ops Q S n [] a w := h
theorem wpRest_step {a : Act} {w : World} {i : Nat} {r : List Nat} {o : Oper} {l : List Oper} (ho : nth l i = some o)
    (h : ∀ K : Act → World → Prop, Shut (∀ a w, (n ≤ i ∨ S w) → wpRest P l.toArray Q S n r a w → K a w) → if Region.wanted o (yielded l.toArray a.tmps) = true then Oper.wp P o a w K Q else K (a.put o.dst undef) w) :
    wpRest P l.toArray Q S n (i :: r) a w :=
  wpOp_step ((nth_eq l i).symm.trans ho) (fun K hK => h K (fun a w h1 h2 => hK a w ⟨h1, h2⟩))
/-- an operation of the rest that only reads -/
theorem wpRest_still {a : Act} {w : World} {i : Nat} {r : List Nat} {o : Oper} {v : Value} {l : List Oper} (ho : nth l i = some o) (hw : Region.wanted o (yielded l.toArray a.tmps) = true)
    (hS : S w) (hy : (execOp a.eval o).run P w = .ok (.value v) w) (h : wpRest P l.toArray Q S n r (a.put o.dst v) w) : wpRest P l.toArray Q S n (i :: r) a w := by
  unfold wpRest wpOp
  simp only [(nth_eq l i).symm.trans ho, hw, if_true, Oper.wp, hy, Oper.upon]
  exact .inl ⟨.inr hS, h⟩
/-- an operation of the rest that writes or makes memory, its run being known -/
theorem wpRest_run {a : Act} {w w' : World} {i : Nat} {r : List Nat} {o : Oper} {v : Value} {l : List Oper} (ho : nth l i = some o) (hw : Region.wanted o (yielded l.toArray a.tmps) = true)
    (hy : (execOp a.eval o).run P w = .ok (.value v) w') (hS : n ≤ i ∨ S w') (h : wpRest P l.toArray Q S n r (a.put o.dst v) w') : wpRest P l.toArray Q S n (i :: r) a w := by
  unfold wpRest wpOp
  simp only [(nth_eq l i).symm.trans ho, hw, if_true, Oper.wp, hy, Oper.upon]
  exact .inl ⟨hS, h⟩

/-! the rest, where its order is not one: a tree of orders -/
inductive Plan where
  | done
  | step (i : Nat) (p : Plan)
  | fork (i : Nat) (p : Plan) (j : Nat) (q : Plan)

def wpTree (P : Program) (ops : Array Oper) (Q : Exit → Act → World → Prop) (S : World → Prop) (n : Nat) : Plan → Act → World → Prop
  | .done, a, w => Q .normal a w
  | .step i p, a, w => wpOp P ops Q i (fun a' w' => (n ≤ i ∨ S w') ∧ wpTree P ops Q S n p a' w') a w
  | .fork i p j q, a, w => wpOp P ops Q i (fun a' w' => (n ≤ i ∨ S w') ∧ wpTree P ops Q S n p a' w') a w ∧ wpOp P ops Q j (fun a' w' => (n ≤ j ∨ S w') ∧ wpTree P ops Q S n q a' w') a w

def planTree (ops : Array Oper) : Plan → Array Bool → Bool
  | .done, listed => (Region.ready .any ops listed).isEmpty
  | .step i p, listed => decide (Region.ready .any ops listed = [i]) && planTree ops p (listed.setIfInBounds i true)
  | .fork i p j q, listed => decide (Region.ready .any ops listed = [i, j]) && planTree ops p (listed.setIfInBounds i true) && planTree ops q (listed.setIfInBounds j true)
def Plan.deep : Plan → Nat
  | .done => 0
  | .step _ p => p.deep + 1
  | .fork _ p _ _ => p.deep + 1
def Plan.even : Plan → Bool
  | .done => true
  | .step _ p => p.even
  | .fork _ p _ q => p.even && q.even && decide (p.deep = q.deep)

theorem wpAnyT_tree : ∀ (t : Plan) (listed : Array Bool) (a : Act) (w : World), t.even = true → planTree ops t listed = true → wpTree P ops Q S n t a w → wpAnyT P ops Q S n t.deep listed a w
  | .done, _, _, _, _, hp, h => ⟨by simpa [planTree] using hp, h⟩
  | .step i p, listed, a, w, he, hp, h => by
    simp only [planTree, Bool.and_eq_true, decide_eq_true_eq] at hp
    refine ⟨fun h0 => (by rw [hp.1] at h0; cases h0), fun j hj => ?_⟩
    rw [hp.1] at hj
    have : j = i := by simpa using hj
    subst this
    exact wpOp_mono (fun a' w' h' => ⟨h'.1, wpAnyT_tree p _ a' w' he hp.2 h'.2⟩) h
  | .fork i p j q, listed, a, w, he, hp, h => by
    simp only [planTree, Plan.even, Bool.and_eq_true, decide_eq_true_eq] at hp he
    refine ⟨fun h0 => (by rw [hp.1.1] at h0; cases h0), fun k hk => ?_⟩
    rw [hp.1.1] at hk
    have hk' : k = i ∨ k = j := by simpa using hk
    rcases hk' with rfl | rfl
    · exact wpOp_mono (fun a' w' h' => ⟨h'.1, wpAnyT_tree p _ a' w' he.1.1 hp.1.2 h'.2⟩) h.1
    · refine wpOp_mono (fun a' w' h' => ⟨h'.1, ?_⟩) h.2
      show wpAnyT P ops Q S n p.deep _ _ _
      rw [he.2]
      exact wpAnyT_tree q _ a' w' he.1.2 hp.2 h'.2

def planTB (ops : Array Oper) (n : Nat) (rs : List Nat) (t : Plan) : Bool :=
  Region.noSelect ops && decide (n < ops.size) && Region.sinkB .any ops n && Region.chainB .any ops n && decide (rs.length + t.deep = ops.size) &&
    planReads ops n rs (Array.replicate ops.size false) && t.even && planTree ops t (afterPlan rs (Array.replicate ops.size false))

theorem wpAnyT_readsT (hsel : Region.noSelect ops = true) (hn : n < ops.size) (hsink : Region.sinkB .any ops n = true) (hchain : Region.chainB .any ops n = true)
    (hQ : ∀ c d v (a : Act) w, Q (.panic c) (a.put d v) w → Q (.panic c) a w) {t : Plan} (he : t.even = true) {w : World} (hS : S w) :
    ∀ (rs : List Nat) (listed : Array Bool) (a : Act), HeadInv .any ops n listed → planReads ops n rs listed = true → planTree ops t (afterPlan rs listed) = true →
      wpReads P ops S (fun a' => wpTree P ops Q S n t a' w) rs a → wpAnyT P ops Q S n (rs.length + t.deep) listed a w
  | [], listed, a, _, _, hp, h => by rw [List.length_nil, Nat.zero_add]; exact wpAnyT_tree t listed a w he hp h
  | i :: r, listed, a, inv, hp1, hp2, h => by
    obtain ⟨o, v, ho, hy, h⟩ := h
    simp only [planReads, Bool.and_eq_true, decide_eq_true_eq] at hp1
    obtain ⟨⟨⟨hin, hr⟩, hf⟩, hp1⟩ := hp1
    have hr' : i ∈ Region.ready .any ops listed := by simpa using hr
    rw [List.length_cons, show r.length + 1 + t.deep = (r.length + t.deep) + 1 by omega]
    exact wpAnyT_first ho hin hn hsink hchain (Region.noSelect_spec hsel) (fun c a w => hQ c _ _ a w) _ listed a w inv (Region.free_spec ho hf) hr' hy hS
      (wpAnyT_readsT hsel hn hsink hchain hQ he hS r _ _ (inv.set hr' hin) hp1 hp2 h)

/-- THE REGION, its rest a tree of orders -/
theorem wp_region_tree {id : Nat} {a : Act} {w : World} (n : Nat) (rs : List Nat) (t : Plan) (S : World → Prop) (hm : P.follows .mixedOrders = true) (hB : planTB ops n rs t = true)
    (hQ : ∀ c d v (a : Act) w, Q (.panic c) (a.put d v) w → Q (.panic c) a w) (hS : S w.drew)
    (h : wpReads P ops S (fun a' => wpTree P ops Q S n t a' w.drew) rs a) : (Code.region id ops true).wp P Q a w := by
  simp only [planTB, Bool.and_eq_true, decide_eq_true_eq] at hB
  obtain ⟨⟨⟨⟨⟨⟨⟨hsel, hn⟩, hsink⟩, hchain⟩, hlen⟩, hp1⟩, he⟩, hp2⟩ := hB
  have inv0 : HeadInv .any ops n (Array.replicate ops.size false) :=
    ⟨by simp, fun j oj _ hl => (by rw [getD_replicate_false] at hl; cases hl), fun t _ ht => getD_in (by simpa using ht) (getD_replicate_false _ _)⟩
  refine wp_region_any hm ?_
  have := wpAny_of_T _ _ _ _ (wpAnyT_readsT hsel hn hsink hchain hQ he hS rs _ a inv0 hp1 hp2 h)
  rw [hlen] at this
  exact this

theorem wpTree_done {a : Act} {w : World} (h : Q .normal a w) : wpTree P ops Q S n .done a w := h
theorem wpTree_step {a : Act} {w : World} {i : Nat} {p : Plan} {o : Oper} {l : List Oper} (ho : nth l i = some o)
    (h : ∀ K : Act → World → Prop, Shut (∀ a w, (n ≤ i ∨ S w) → wpTree P l.toArray Q S n p a w → K a w) → if Region.wanted o (yielded l.toArray a.tmps) = true then Oper.wp P o a w K Q else K (a.put o.dst undef) w) :
    wpTree P l.toArray Q S n (.step i p) a w :=
  wpOp_step ((nth_eq l i).symm.trans ho) (fun K hK => h K (fun a w h1 h2 => hK a w ⟨h1, h2⟩))
theorem wpTree_still {a : Act} {w : World} {i : Nat} {p : Plan} {o : Oper} {v : Value} {l : List Oper} (ho : nth l i = some o) (hw : Region.wanted o (yielded l.toArray a.tmps) = true)
    (hS : S w) (hy : (execOp a.eval o).run P w = .ok (.value v) w) (h : wpTree P l.toArray Q S n p (a.put o.dst v) w) : wpTree P l.toArray Q S n (.step i p) a w := by
  unfold wpTree wpOp
  simp only [(nth_eq l i).symm.trans ho, hw, if_true, Oper.wp, hy, Oper.upon]
  exact .inl ⟨.inr hS, h⟩
theorem wpTree_run {a : Act} {w w' : World} {i : Nat} {p : Plan} {o : Oper} {v : Value} {l : List Oper} (ho : nth l i = some o) (hw : Region.wanted o (yielded l.toArray a.tmps) = true)
    (hy : (execOp a.eval o).run P w = .ok (.value v) w') (hS : n ≤ i ∨ S w') (h : wpTree P l.toArray Q S n p (a.put o.dst v) w') : wpTree P l.toArray Q S n (.step i p) a w := by
  unfold wpTree wpOp
  simp only [(nth_eq l i).symm.trans ho, hw, if_true, Oper.wp, hy, Oper.upon]
  exact .inl ⟨hS, h⟩
theorem wpTree_fork {a : Act} {w : World} {i j : Nat} {p q : Plan} (h1 : wpTree P ops Q S n (.step i p) a w) (h2 : wpTree P ops Q S n (.step j q) a w) : wpTree P ops Q S n (.fork i p j q) a w := ⟨h1, h2⟩
end
end Go.Proofs.Ytjhpemlgcjdpfaa
