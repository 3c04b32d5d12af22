/- the region that draws its order, in the frame of a round -/
import Derived.Test.YtjhpemlgcjdpfaaS
import Derived.OrdersIn
import Derived.RangeFuncCalls
import Derived.OwnWalkIn
import Derived.TacticsInMore
namespace Go.Proofs.Ytjhpemlgcjdpfaa
open Go

section
variable {P : Program} {ops : Array Oper} {Q : Exit → Act → World → Prop} {S : World → Prop} {n : Nat}

def undeferred (o : Oper) : Bool := match o.op with | .defer _ => false | _ => true
theorem undeferred_spec {o : Oper} (h : undeferred o = true) : ∀ c, o.op ≠ .defer c := by
  intro c hc
  simp [undeferred, hc] at h

theorem rowsIn_of {F : Fence} {m : Nat} {row : String} {args : Array Value} {w : World} {R : Value → World → Prop} (l : Nat) (h : RowsIn F m P row args w R) : RowsIn (F.inRound l) m P row args w R := h

theorem rowsIn_wide2 {m : Nat} {row : String} {args : Array Value} {w : World} {R : Value → World → Prop} (h : Rows P row args w R) : RowsIn Fence.wide m P row args w R :=
  fun c cs _ => let ⟨v, w', r, s⟩ := h c cs; ⟨v, w', r, stepsIn_wide.2 s⟩

theorem Oper_wpIn_round (l m : Nat) {o : Oper} (hd : undeferred o = true) {a : Act} {w : World} {K : Act → World → Prop} (h : Oper.wp P o a w K Q) : o.wpIn (Fence.wide.inRound l) m P a w K Q := by
  refine ⟨fun _ _ => trivial, ?_⟩
  rw [show (Fence.wide.inRound l).round = some l from rfl, Oper.semAt_eq _ _ _ (undeferred_spec hd)]
  unfold Oper.wp at h
  generalize (execOp a.eval o).run P w = r at h
  cases r with
  | ok x w' =>
    cases x <;> simp only [Oper.upon, Oper.uponIn] at h ⊢ <;> first
      | exact h
      | exact ⟨fun h => (by cases h), CallsIn.mono (CallsIn.inRound l ((callsIn_wide (n := m - 1)).2 h)) (fun e w'' he => by cases e <;> exact he)⟩
      | exact ⟨fun h => (by cases h), rowsIn_of l (rowsIn_wide2 (m := m - 1) h)⟩
      | exact h.elim
  | halt x w' => cases x <;> simp only [Oper.upon, Oper.uponIn] at h ⊢ <;> exact h

theorem wpOpIn_round (l m : Nat) (hL : ¬ LetsOut Q) (hd : ops.all undeferred = true) {i : Nat} {K : Act → World → Prop} {a : Act} {w : World} (h : wpOp P ops Q i K a w) : wpOpIn (Fence.wide.inRound l) m P ops Q i K a w := by
  unfold wpOp at h
  unfold wpOpIn
  cases ho : ops[i]? with
  | none => simpa [ho] using h
  | some o =>
    simp only [ho] at h ⊢
    have hdo : undeferred o = true := by
      obtain ⟨hlt, he⟩ := Array.getElem?_eq_some_iff.1 ho
      rw [Array.all_eq_true] at hd
      rw [← he]; exact hd i hlt
    split
    · rename_i hw
      simp only [hw, if_true] at h
      exact Oper_wpIn_round l m hdo (h.resolve_right fun x => hL x.2)
    · rename_i hw
      simp only [hw] at h
      exact ⟨fun _ _ => trivial, h⟩

theorem wpAnyIn_round (l m : Nat) (hL : ¬ LetsOut Q) (hd : ops.all undeferred = true) : ∀ (f : Nat) (listed : Array Bool) (a : Act) (w : World), wpAny P .any ops Q f listed a w → wpAnyIn (Fence.wide.inRound l) m P .any ops Q f listed a w
  | 0, _, _, _, h => h
  | f + 1, _, _, _, h => ⟨h.1, fun i hi => wpOpIn_mono (fun a' w' h' => wpAnyIn_round l m hL hd f _ a' w' h') (wpOpIn_round l m hL hd (h.2 i hi))⟩

/-- THE REGION in a round, its rest a tree of orders -/
theorem wpIn_region_tree {l m id : Nat} {a : Act} {w : World} (n : Nat) (rs : List Nat) (t : Plan) (S : World → Prop) (hm : P.follows .mixedOrders = true) (hB : (planTB ops n rs t && ops.all undeferred) = true)
    (hQ : ∀ c d v (a : Act) w, Q (.panic c) (a.put d v) w → Q (.panic c) a w) (hS : S w.drew)
    (hL : ¬ LetsOut Q) (h : wpReads P ops S (fun a' => wpTree P ops Q S n t a' w.drew) rs a) : (Code.region id ops true).wpIn (Fence.wide.inRound l) m P Q a w := by
  rw [Bool.and_eq_true] at hB
  obtain ⟨hB, hd⟩ := hB
  simp only [planTB, Bool.and_eq_true, decide_eq_true_eq] at hB
  obtain ⟨⟨⟨⟨⟨⟨⟨hsel, hn⟩, hsink⟩, hchain⟩, hlen⟩, hp1⟩, he⟩, hp2⟩ := hB
  have inv0 : HeadInv .any ops n (Array.replicate ops.size false) :=
    ⟨by simp, fun j oj _ hl => (by rw [getD_replicate_false] at hl; cases hl), fun t _ ht => getD_in (by simpa using ht) (getD_replicate_false _ _)⟩
  refine wpIn_region_any hm (wpAnyIn_round l m hL hd _ _ _ _ ?_)
  have := wpAny_of_T _ _ _ _ (wpAnyT_readsT hsel hn hsink hchain hQ he hS rs _ a inv0 hp1 hp2 h)
  rw [hlen] at this
  exact this
end
end Go.Proofs.Ytjhpemlgcjdpfaa
