/- CertOrder: the plain law -/
import Derived.Test.YtjhpemlgcjdpfaaW
namespace Go.Proofs.Ytjhpemlgcjdpfaa
open Go.RowKit

def s5 : List Int := 5 :: List.replicate 31 0
theorem built24_5 : Try.prog.built 24 [(0, .int .u8 5)] = some (zB s5).toArray := by kernel_rfl
theorem s5_len : s5.length = 32 := rfl
theorem built26_junk (a c e : Int) : Try.prog.built 26 [(0, .int .i64 a), (2, .int .i64 c), (4, .int .i64 e)] = some (VoteM.mk a 0 c z32 e z32).arr := by kernel_rfl

/-- the votes between -/
def junkV (i : Nat) : VoteM := ⟨2, 0, 1, z32, bits .and .i64 (i : Int) 3, z32⟩
def junkL (j : Nat) : List VoteM := (List.range j).map junkV
theorem junkL_succ (j : Nat) : junkL (j + 1) = junkL j ++ [junkV j] := by simp [junkL, List.range_succ]
theorem junkL_len (j : Nat) : (junkL j).length = j := by simp [junkL]
theorem junkV_ok (j : Nat) : (junkV j).Ok := ⟨rfl, rfl⟩
theorem junkL_ok (j : Nat) : ∀ x ∈ junkL j, x.Ok := by
  intro x hx
  obtain ⟨i, _, rfl⟩ := List.mem_map.1 hx
  exact junkV_ok i

/-- whose turn it is -/
def turnF (first : Int) (i : Nat) : Int := bits .and .i64 (IntKind.i64.wrap (first + (i : Int))) 3
def castL (n : Nat) (key : Nat → List Int) (first : Int) (m : Nat) : List VoteM := (List.range m).map fun i => castV n key 2 0 1 s5 (turnF first i)
theorem castL_succ (n : Nat) (key : Nat → List Int) (first : Int) (m : Nat) : castL n key first (m + 1) = castL n key first m ++ [castV n key 2 0 1 s5 (turnF first m)] := by simp [castL, List.range_succ]
theorem castL_len (n : Nat) (key : Nat → List Int) (first : Int) (m : Nat) : (castL n key first m).length = m := by simp [castL]
theorem castL_ok (n : Nat) (key : Nat → List Int) (first : Int) (m : Nat) : ∀ x ∈ castL n key first m, x.Ok := by
  intro x hx
  obtain ⟨i, _, rfl⟩ := List.mem_map.1 hx
  exact castV_ok _ _ _ _ _ _ _ s5_len

theorem turn_range : ∀ (f : Fin 4) (i : Fin 4), 0 ≤ turnF (f.1 : Int) i.1 ∧ turnF (f.1 : Int) i.1 < 4 := by decide +kernel
theorem turn_uniq : ∀ (f : Fin 4) (m : Fin 5), (uniqL ((List.range m.1).map fun i => turnF (f.1 : Int) i)).length = m.1 := by decide +kernel

theorem junk_not (n : Nat) (key : Nat → List Int) (j : Nat) : voted n key 2 0 1 s5 (junkV j) = false := by
  have h : ¬ z32 = s5 := by decide
  show (_ && (_ && (_ && (decide (z32 = s5) && _)))) = false
  rw [decide_eq_false h]
  simp
theorem told_app (n : Nat) (key : Nat → List Int) (kind slot view : Int) (sum : List Int) (a b : List VoteM) : toldF n key kind slot view sum (a ++ b) = toldF n key kind slot view sum a ++ toldF n key kind slot view sum b := by
  simp [toldF]
theorem told_junk (n : Nat) (key : Nat → List Int) (j : Nat) : toldF n key 2 0 1 s5 (junkL j) = [] := by
  have : (junkL j).filter (voted n key 2 0 1 s5) = [] := List.filter_eq_nil_iff.2 fun x hx => by
    obtain ⟨i, _, rfl⟩ := List.mem_map.1 hx
    simp [junk_not]
  rw [toldF, this]
  rfl
theorem told_cast (key : Nat → List Int) (first : Int) (h0 : 0 ≤ first) (h3 : first ≤ 3) : ∀ m, m ≤ 4 → toldF 4 key 2 0 1 s5 (castL 4 key first m) = (List.range m).map (turnF first)
  | 0, _ => rfl
  | m + 1, h => by
    rw [castL_succ, told_app, told_cast key first h0 h3 m (by omega), List.range_succ, List.map_append]
    have hr := turn_range ⟨first.toNat, by omega⟩ ⟨m, by omega⟩
    simp only [Int.toNat_of_nonneg h0] at hr
    have hv := voted_cast (n := 4) (key := key) (kind := 2) (slot := 0) (view := 1) (sum := s5) (frm := turnF first m) hr
    simp only [toldF, List.filter_cons, hv, if_true, List.filter_nil, List.map_cons, List.map_nil]
    rfl

/-- how many are looked at -/
theorem order_len (key : Nat → List Int) (first : Int) (h0 : 0 ≤ first) (h3 : first ≤ 3) (j : Nat) (hj : j ≤ 9) :
    (whoL 4 key 2 0 1 s5 (junkL j ++ castL 4 key first 4)).length = min 4 (10 - j) := by
  have ht : (junkL j ++ castL 4 key first 4).take 10 = junkL j ++ castL 4 key first (min 4 (10 - j)) := by
    rw [List.take_append, junkL_len, List.take_of_length_le (by rw [junkL_len]; omega)]
    congr 1
    rw [castL, castL, ← List.map_take, List.take_range, Nat.min_comm]
  rw [whoL, List.length_mergeSort, ht, told_app, told_junk, List.nil_append, told_cast key first h0 h3 _ (by omega)]
  have hu := turn_uniq ⟨first.toNat, by omega⟩ ⟨min 4 (10 - j), by omega⟩
  simp only [Int.toNat_of_nonneg h0] at hu
  exact hu
theorem order_meets (key : Nat → List Int) (first : Int) (h0 : 0 ≤ first) (h3 : first ≤ 3) (j : Nat) (hj : j ≤ 9) :
    meetsB 4 key 2 0 1 s5 (junkL j ++ castL 4 key first 4) = decide (3 ≤ min 4 (10 - j)) := by
  rw [meetsB, order_len key first h0 h3 j hj]
  rw [Bool.eq_iff_iff, decide_eq_true_eq, decide_eq_true_eq, show quorumN 4 = 3 by decide]
  omega
end Go.Proofs.Ytjhpemlgcjdpfaa
