/- a region that draws its order, taken in stretches: in each the operations that only read come first; a stretch ends where all that is left waits -/
import Derived.Test.YtjhpemlgcjdpfaaS2
namespace Go.Proofs.Ytjhpemlgcjdpfaa
open Go

section
variable {P : Program} {ops : Array Oper} {Q : Exit → Act → World → Prop} {S : World → Prop} {n : Nat}

/-- each operation behind number n waits for one from n on -/
def laterB (ops : Array Oper) (n : Nat) : Bool :=
  (List.range ops.size).all fun t => decide (t ≤ n) || ((List.range t).any fun j => decide (n ≤ j) && Region.waitsFor .any ops t j)

theorem tail_waits2 {listed : Array Bool} (hs : Region.sinkB .any ops n = true) (hc : laterB ops n = true) (hn : n < ops.size) (inv : HeadInv .any ops n listed) :
    ∀ (d i : Nat), n - i = d → i < n → listed.getD i true = false → ∀ t, n ≤ t → t ∉ Region.ready .any ops listed := by
  intro d
  induction d using Nat.strongRecOn with
  | _ d ih =>
    intro i hd hi hun t ht hr
    obtain ⟨_, ot, hot, hall⟩ := mem_ready.1 hr
    have htlt : t < ops.size := (Array.getElem?_eq_some_iff.1 hot).1
    by_cases htn : t = n
    · subst htn
      have h1 := List.all_eq_true.1 hs i (List.mem_range.2 hi)
      obtain ⟨j, hj, hj2⟩ := List.any_eq_true.1 h1
      simp only [Bool.and_eq_true, decide_eq_true_eq] at hj2
      obtain ⟨oj, hoj, e, he, hb, hon⟩ := Region.waitsFor_spec hj2.2
      have hjle : j ≤ t := by have := List.mem_range.1 hj; omega
      by_cases hjt : j = t
      · subst hjt
        have : oj = ot := Option.some.inj (hoj.symm.trans hot)
        subst this
        have h2 := hall e he hb
        rw [hon, getD_both hun] at h2
        cases h2
      · cases hl : listed.getD j false with
        | true =>
          have h2 := inv.closed j oj hoj hl e he hb
          rw [hon, getD_both hun] at h2
          cases h2
        | false =>
          have hjs : j < listed.size := by rw [inv.size]; omega
          exact ih (t - j) (by omega) j rfl (by omega) (getD_in hjs hl) t (Nat.le_refl _) hr
    · have h1 := List.all_eq_true.1 hc t (List.mem_range.2 htlt)
      simp only [Bool.or_eq_true, decide_eq_true_eq] at h1
      rcases h1 with h1 | h1
      · omega
      · obtain ⟨j, hj, hj2⟩ := List.any_eq_true.1 h1
        have hjt := List.mem_range.1 hj
        simp only [Bool.and_eq_true, decide_eq_true_eq] at hj2
        obtain ⟨o', ho', e, he, hb, hon⟩ := Region.waitsFor_spec hj2.2
        have : o' = ot := Option.some.inj (ho'.symm.trans hot)
        subst this
        have h2 := hall e he hb
        rw [hon, getD_both (inv.tail j (by omega) (by omega))] at h2
        cases h2

theorem wpAnyT_first2 {i : Nat} {oi : Oper} {v : Value} (hi : ops[i]? = some oi) (hin : i < n) (hn : n < ops.size) (hsink : Region.sinkB .any ops n = true) (hchain : laterB ops n = true)
    (hsel : ∀ (j : Nat) (o : Oper) cs b, ops[j]? = some o → o.op ≠ .select cs b)
    (hQ : ∀ c a w, Q (.panic c) (a.put oi.dst v) w → Q (.panic c) a w) :
    ∀ (f : Nat) (listed : Array Bool) (a : Act) (w : World), HeadInv .any ops n listed →
      (∀ j oj, ops[j]? = some oj → j ≠ i → listed.getD j true = false → (∀ e ∈ oj.after, Region.binds .any e = true → e.on ≠ i) → oi.apart ops oj = true) →
      i ∈ Region.ready .any ops listed → YieldsIf P ops S oi v a → S w →
      wpAnyT P ops Q S n f (listed.setIfInBounds i true) (a.put oi.dst v) w → wpAnyT P ops Q S n (f + 1) listed a w := by
  intro f
  induction f with
  | zero =>
    intro listed a w _ _ hr hy hS H
    refine ⟨fun h => (by rw [h] at hr; cases hr), fun j hj => ?_⟩
    by_cases hji : j = i
    · subst hji; exact hy.wpOp hi hS ⟨.inr hS, H⟩
    · have := ready_mono hj hji
      rw [H.1] at this
      cases this
  | succ f ih =>
    intro listed a w inv hfree hr hy hS H
    refine ⟨fun h => (by rw [h] at hr; cases hr), fun j hj => ?_⟩
    by_cases hji : j = i
    · subst hji; exact hy.wpOp hi hS ⟨.inr hS, H⟩
    · have h1 := H.2 j (ready_mono hj hji)
      obtain ⟨hjun, oj, hoj, hall⟩ := mem_ready.1 hj
      have hun := (mem_ready.1 hr).1
      have hjn : j < n := by
        rcases Nat.lt_or_ge j n with h | h
        · exact h
        · exact absurd hj (tail_waits2 hsink hchain hn inv _ i rfl hin hun j h)
      have hnot : ∀ e ∈ oj.after, Region.binds .any e = true → e.on ≠ i := fun e he hb heq => by
        have h1 := hall e he hb
        rw [heq, getD_both hun] at h1
        cases h1
      have h2 := wpOp_putIf hoj (hfree j oj hoj hji hjun hnot) (fun cs b => hsel i oi cs b hi) (fun cs b => hsel j oj cs b hoj) hQ hy h1
      have hfree' : ∀ k ok, ops[k]? = some ok → k ≠ i → (listed.setIfInBounds j true).getD k true = false →
          (∀ e ∈ ok.after, Region.binds .any e = true → e.on ≠ i) → oi.apart ops ok = true := fun k ok hk hki hun hno => by
        refine hfree k ok hk hki ?_ hno
        by_cases hjk : j = k
        · subst hjk; exact hjun
        · rw [getD_set_ne true hjk] at hun; exact hun
      refine wpOp_mono (fun a' w' h3 => ?_) h2
      obtain ⟨hy', hS', H'⟩ := h3
      have hS2 : S w' := hS'.resolve_left (by omega)
      refine ⟨.inr hS2, ih (listed.setIfInBounds j true) a' w' (inv.set hj hjn) hfree' (ready_mono hr (Ne.symm hji)) hy' hS2 ?_⟩
      rw [Array.setIfInBounds_comm _ _ hji]
      exact H'

/-- the plan of a region -/
inductive MPlan where
  | done
  | read (i : Nat) (p : MPlan)
  | step (i : Nat) (p : MPlan)
  | fork (i : Nat) (p : MPlan) (j : Nat) (q : MPlan)
  | cut (n : Nat) (p : MPlan)

def wpM (P : Program) (ops : Array Oper) (Q : Exit → Act → World → Prop) : MPlan → Nat → (World → Prop) → Act → World → Prop
  | .done, _, _, a, w => Q .normal a w
  | .read i p, n, S, a, w => ∃ o v, ops[i]? = some o ∧ YieldsIf P ops S o v a ∧ wpM P ops Q p n S (a.put o.dst v) w
  | .step i p, n, S, a, w => wpOp P ops Q i (fun a' w' => (n ≤ i ∨ S w') ∧ wpM P ops Q p n S a' w') a w
  | .fork i p j q, n, S, a, w => wpOp P ops Q i (fun a' w' => (n ≤ i ∨ S w') ∧ wpM P ops Q p n S a' w') a w ∧ wpOp P ops Q j (fun a' w' => (n ≤ j ∨ S w') ∧ wpM P ops Q q n S a' w') a w
  | .cut n' p, _, _, a, w => ∃ S' : World → Prop, S' w ∧ wpM P ops Q p n' S' a w

def headB (ops : Array Oper) (n : Nat) (L : Array Bool) : Bool :=
  decide (L.size = ops.size) && ((List.range ops.size).all fun j => !(L.getD j false) || (match ops[j]? with | some oj => oj.after.all fun e => !(Region.binds .any e) || L.getD e.on false | none => true)) &&
    ((List.range ops.size).all fun t => decide (t < n) || !(L.getD t true))
theorem headB_spec {L : Array Bool} (h : headB ops n L = true) : HeadInv .any ops n L := by
  simp only [headB, Bool.and_eq_true, decide_eq_true_eq, List.all_eq_true, List.mem_range, Bool.or_eq_true, Bool.not_eq_true'] at h
  obtain ⟨⟨h1, h2⟩, h3⟩ := h
  refine ⟨h1, fun j oj hj hl e he hb => ?_, fun t ht ht' => ?_⟩
  · have := h2 j (Array.getElem?_eq_some_iff.1 hj).1
    rcases this with h | h
    · rw [h] at hl; cases hl
    · simp only [hj, Array.all_eq_true_iff_forall_mem, Bool.or_eq_true, Bool.not_eq_true'] at h
      rcases h e he with h | h
      · rw [h] at hb; cases hb
      · exact h
  · rcases h3 t ht' with h | h
    · omega
    · exact h
def belowB (n : Nat) (L : Array Bool) : Bool := (List.range n).all fun i => L.getD i false

def planM (ops : Array Oper) : MPlan → Nat → Bool → Array Bool → Bool
  | .done, _, _, L => (Region.ready .any ops L).isEmpty
  | .read i p, n, hd, L => hd && decide (i < n) && (Region.ready .any ops L).contains i && Region.free .any ops L i && planM ops p n hd (L.setIfInBounds i true)
  | .step i p, n, hd, L => decide (Region.ready .any ops L = [i]) && planM ops p n (hd && decide (i < n)) (L.setIfInBounds i true)
  | .fork i p j q, n, hd, L => decide (Region.ready .any ops L = [i, j]) && planM ops p n (hd && decide (i < n)) (L.setIfInBounds i true) && planM ops q n (hd && decide (j < n)) (L.setIfInBounds j true)
  | .cut n' p, n, _, L => belowB n L && headB ops n' L && Region.sinkB .any ops n' && laterB ops n' && decide (n' < ops.size) && planM ops p n' true L
def MPlan.deep : MPlan → Nat
  | .done => 0
  | .read _ p => p.deep + 1
  | .step _ p => p.deep + 1
  | .fork _ p _ _ => p.deep + 1
  | .cut _ p => p.deep
def MPlan.even : MPlan → Bool
  | .done => true
  | .read _ p => p.even
  | .step _ p => p.even
  | .fork _ p _ q => p.even && q.even && decide (p.deep = q.deep)
  | .cut _ p => p.even

theorem wpAnyT_lift : ∀ (f : Nat) (L : Array Bool) (a : Act) (w : World), belowB n L = true → wpAny P .any ops Q f L a w → wpAnyT P ops Q S n f L a w
  | 0, _, _, _, _, h => h
  | f + 1, L, _, _, hb, h => ⟨h.1, fun i hi => by
      have hin : n ≤ i := by
        rcases Nat.lt_or_ge i n with h1 | h1
        · have h2 := List.all_eq_true.1 hb i (List.mem_range.2 h1)
          have h3 := getD_both (mem_ready.1 hi).1
          rw [h2] at h3; cases h3
        · exact h1
      refine wpOp_mono (fun a' w' h' => ⟨.inl hin, wpAnyT_lift f _ a' w' ?_ h'⟩) (h.2 i hi)
      refine List.all_eq_true.2 fun k hk => ?_
      have h2 := List.all_eq_true.1 hb k hk
      have hki : i ≠ k := by have := List.mem_range.1 hk; omega
      rw [getD_set_ne false hki]; exact h2⟩

theorem wpAnyT_plan (hsel : Region.noSelect ops = true) (hQ : ∀ c d v (a : Act) w, Q (.panic c) (a.put d v) w → Q (.panic c) a w) :
    ∀ (p : MPlan) (n : Nat) (hd : Bool) (S : World → Prop) (L : Array Bool) (a : Act) (w : World), p.even = true → planM ops p n hd L = true →
      (hd = true → HeadInv .any ops n L ∧ S w ∧ Region.sinkB .any ops n = true ∧ laterB ops n = true ∧ n < ops.size) → wpM P ops Q p n S a w → wpAnyT P ops Q S n p.deep L a w
  | .done, n, hd, S, L, a, w, _, hp, _, h => ⟨by simpa [planM] using hp, h⟩
  | .read i p, n, hd, S, L, a, w, he, hp, hh, h => by
    obtain ⟨o, v, ho, hy, h⟩ := h
    simp only [planM, Bool.and_eq_true, decide_eq_true_eq] at hp
    obtain ⟨⟨⟨⟨hhd, hin⟩, hr⟩, hf⟩, hp⟩ := hp
    obtain ⟨inv, hS, hs1, hs2, hs3⟩ := hh hhd
    have hr' : i ∈ Region.ready .any ops L := by simpa using hr
    exact wpAnyT_first2 ho hin hs3 hs1 hs2 (Region.noSelect_spec hsel) (fun c a w => hQ c _ _ a w) _ L a w inv (Region.free_spec ho hf) hr' hy hS
      (wpAnyT_plan hsel hQ p n hd S _ _ w he hp (fun _ => ⟨inv.set hr' hin, hS, hs1, hs2, hs3⟩) h)
  | .step i p, n, hd, S, L, a, w, he, hp, hh, h => by
    simp only [planM, Bool.and_eq_true, decide_eq_true_eq] at hp
    refine ⟨fun h0 => (by rw [hp.1] at h0; cases h0), fun j hj => ?_⟩
    have hj' := hj
    rw [hp.1] at hj
    have : j = i := by simpa using hj
    subst this
    refine wpOp_mono (fun a' w' h' => ⟨h'.1, wpAnyT_plan hsel hQ p n _ S _ a' w' he hp.2 (fun hd' => ?_) h'.2⟩) h
    simp only [Bool.and_eq_true, decide_eq_true_eq] at hd'
    obtain ⟨inv, hS, hs1, hs2, hs3⟩ := hh hd'.1
    exact ⟨inv.set hj' hd'.2, h'.1.resolve_left (by omega), hs1, hs2, hs3⟩
  | .fork i p j q, n, hd, S, L, a, w, he, hp, hh, h => by
    simp only [planM, MPlan.even, Bool.and_eq_true, decide_eq_true_eq] at hp he
    refine ⟨fun h0 => (by rw [hp.1.1] at h0; cases h0), fun k hk => ?_⟩
    have hk0 := hk
    rw [hp.1.1] at hk
    have hk' : k = i ∨ k = j := by simpa using hk
    rcases hk' with rfl | rfl
    · refine wpOp_mono (fun a' w' h' => ⟨h'.1, wpAnyT_plan hsel hQ p n _ S _ a' w' he.1.1 hp.1.2 (fun hd' => ?_) h'.2⟩) h.1
      simp only [Bool.and_eq_true, decide_eq_true_eq] at hd'
      obtain ⟨inv, hS, hs1, hs2, hs3⟩ := hh hd'.1
      exact ⟨inv.set hk0 hd'.2, h'.1.resolve_left (by omega), hs1, hs2, hs3⟩
    · refine wpOp_mono (fun a' w' h' => ⟨h'.1, ?_⟩) h.2
      show wpAnyT P ops Q S n p.deep _ _ _
      rw [he.2]
      refine wpAnyT_plan hsel hQ q n _ S _ a' w' he.1.2 hp.2 (fun hd' => ?_) h'.2
      simp only [Bool.and_eq_true, decide_eq_true_eq] at hd'
      obtain ⟨inv, hS, hs1, hs2, hs3⟩ := hh hd'.1
      exact ⟨inv.set hk0 hd'.2, h'.1.resolve_left (by omega), hs1, hs2, hs3⟩
  | .cut n' p, n, hd, S, L, a, w, he, hp, hh, h => by
    obtain ⟨S', hS', h⟩ := h
    simp only [planM, Bool.and_eq_true, decide_eq_true_eq] at hp
    obtain ⟨⟨⟨⟨⟨h1, h2⟩, h3⟩, h4⟩, h5⟩, h6⟩ := hp
    exact wpAnyT_lift _ _ _ _ h1 (wpAny_of_T _ _ _ _ (wpAnyT_plan hsel hQ p n' true S' L a w he h6 (fun _ => ⟨headB_spec h2, hS', h3, h4, h5⟩) h))

/-- the check of a plan: it begins with 'cut n ..' -/
def planAll (ops : Array Oper) (p : MPlan) : Bool := Region.noSelect ops && p.even && decide (p.deep = ops.size) && planM ops p 0 false (Array.replicate ops.size false)

theorem wpAny_plan {a : Act} {w : World} (p : MPlan) (hB : planAll ops p = true) (hQ : ∀ c d v (a : Act) w, Q (.panic c) (a.put d v) w → Q (.panic c) a w) (h : wpM P ops Q p 0 (fun _ => True) a w) :
    wpAny P .any ops Q ops.size (Array.replicate ops.size false) a w := by
  simp only [planAll, Bool.and_eq_true, decide_eq_true_eq] at hB
  obtain ⟨⟨⟨hsel, he⟩, hd⟩, hp⟩ := hB
  have := wpAny_of_T _ _ _ _ (wpAnyT_plan hsel hQ p 0 false (fun _ => True) _ a w he hp (fun h => by cases h) h)
  rw [hd] at this
  exact this

theorem wp_region_M {id : Nat} {a : Act} {w : World} (p : MPlan) (hm : P.follows .mixedOrders = true) (hB : planAll ops p = true)
    (hQ : ∀ c d v (a : Act) w, Q (.panic c) (a.put d v) w → Q (.panic c) a w) (h : wpM P ops Q p 0 (fun _ => True) a w.drew) : (Code.region id ops true).wp P Q a w :=
  wp_region_any hm (wpAny_plan p hB hQ h)

theorem wpIn_region_M {l m id : Nat} {a : Act} {w : World} (p : MPlan) (hm : P.follows .mixedOrders = true) (hB : (planAll ops p && ops.all undeferred) = true)
    (hQ : ∀ c d v (a : Act) w, Q (.panic c) (a.put d v) w → Q (.panic c) a w) (hL : ¬ LetsOut Q) (h : wpM P ops Q p 0 (fun _ => True) a w.drew) : (Code.region id ops true).wpIn (Fence.wide.inRound l) m P Q a w := by
  rw [Bool.and_eq_true] at hB
  exact wpIn_region_any hm (wpAnyIn_round l m hL hB.2 _ _ _ _ (wpAny_plan p hB.1 hQ h))

theorem wpM_done {n : Nat} {a : Act} {w : World} (h : Q .normal a w) : wpM P ops Q .done n S a w := h
theorem wpM_read {n : Nat} {a : Act} {w : World} {i : Nat} {p : MPlan} {o : Oper} {v : Value} {l : List Oper} (ho : nth l i = some o) (hw : Region.wanted o (yielded l.toArray a.tmps) = true)
    (hy : ∀ w, S w → (execOp a.eval o).run P w = .ok (.value v) w) (h : wpM P l.toArray Q p n S (a.put o.dst v) w) : wpM P l.toArray Q (.read i p) n S a w :=
  ⟨o, v, (nth_eq l i).symm.trans ho, .inl ⟨hw, hy⟩, h⟩
theorem wpM_pass {n : Nat} {a : Act} {w : World} {i : Nat} {p : MPlan} {o : Oper} {l : List Oper} (ho : nth l i = some o) (hw : Region.wanted o (yielded l.toArray a.tmps) = false)
    (h : wpM P l.toArray Q p n S (a.put o.dst undef) w) : wpM P l.toArray Q (.read i p) n S a w :=
  ⟨o, undef, (nth_eq l i).symm.trans ho, .inr ⟨hw, rfl⟩, h⟩
theorem wpM_step {n : Nat} {a : Act} {w : World} {i : Nat} {p : MPlan} {o : Oper} {l : List Oper} (ho : nth l i = some o)
    (h : ∀ K : Act → World → Prop, Shut (∀ a w, (n ≤ i ∨ S w) → wpM P l.toArray Q p n S a w → K a w) → if Region.wanted o (yielded l.toArray a.tmps) = true then Oper.wp P o a w K Q else K (a.put o.dst undef) w) :
    wpM P l.toArray Q (.step i p) n S a w :=
  wpOp_step ((nth_eq l i).symm.trans ho) (fun K hK => h K (fun a w h1 h2 => hK a w ⟨h1, h2⟩))
theorem wpM_run {n : Nat} {a : Act} {w w' : World} {i : Nat} {p : MPlan} {o : Oper} {v : Value} {l : List Oper} (ho : nth l i = some o) (hw : Region.wanted o (yielded l.toArray a.tmps) = true)
    (hy : (execOp a.eval o).run P w = .ok (.value v) w') (hS : n ≤ i ∨ S w') (h : wpM P l.toArray Q p n S (a.put o.dst v) w') : wpM P l.toArray Q (.step i p) n S a w := by
  unfold wpM wpOp
  simp only [(nth_eq l i).symm.trans ho, hw, if_true, Oper.wp, hy, Oper.upon]
  exact .inl ⟨hS, h⟩
theorem wpM_still {n : Nat} {a : Act} {w : World} {i : Nat} {p : MPlan} {o : Oper} {v : Value} {l : List Oper} (ho : nth l i = some o) (hw : Region.wanted o (yielded l.toArray a.tmps) = true)
    (hS : n ≤ i ∨ S w) (hy : (execOp a.eval o).run P w = .ok (.value v) w) (h : wpM P l.toArray Q p n S (a.put o.dst v) w) : wpM P l.toArray Q (.step i p) n S a w := wpM_run ho hw hy hS h
theorem wpM_over {n : Nat} {a : Act} {w : World} {i : Nat} {p : MPlan} {o : Oper} {l : List Oper} (ho : nth l i = some o) (hw : Region.wanted o (yielded l.toArray a.tmps) = false)
    (hS : n ≤ i ∨ S w) (h : wpM P l.toArray Q p n S (a.put o.dst undef) w) : wpM P l.toArray Q (.step i p) n S a w := by
  unfold wpM wpOp
  simp only [(nth_eq l i).symm.trans ho, hw, Bool.false_eq_true, if_false]
  exact ⟨hS, h⟩
theorem wpM_fork {n : Nat} {a : Act} {w : World} {i j : Nat} {p q : MPlan} (h1 : wpM P ops Q (.step i p) n S a w) (h2 : wpM P ops Q (.step j q) n S a w) : wpM P ops Q (.fork i p j q) n S a w := ⟨h1, h2⟩
theorem wpM_cut {n n' : Nat} {a : Act} {w : World} {p : MPlan} (S' : World → Prop) (hS : S' w) (h : wpM P ops Q p n' S' a w) : wpM P ops Q (.cut n' p) n S a w := ⟨S', hS, h⟩
end
end Go.Proofs.Ytjhpemlgcjdpfaa
