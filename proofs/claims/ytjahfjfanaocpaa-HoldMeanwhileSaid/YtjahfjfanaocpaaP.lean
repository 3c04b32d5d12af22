/- plain laws on sorted tables: no program in sight -/
import Derived.RowKit
namespace Go.Proofs.Ytjahfjfanaocpaa.Plain

/-- how many keys lie below k -/
def pos (K : List Int) (k : Int) : Nat := (K.takeWhile (fun x => decide (x < k))).length

theorem pos_le (K : List Int) (k : Int) : pos K k ≤ K.length := by
  unfold pos; exact (List.takeWhile_prefix _).length_le

theorem pos_lt {K : List Int} {k : Int} {i : Nat} (h : i < pos K k) : ∃ hi : i < K.length, K[i] < k := by
  unfold pos at h
  have hp := List.takeWhile_prefix (fun x => decide (x < k)) (l := K)
  have hi : i < K.length := Nat.lt_of_lt_of_le h hp.length_le
  refine ⟨hi, ?_⟩
  have hm : (K.takeWhile (fun x => decide (x < k)))[i] ∈ K.takeWhile (fun x => decide (x < k)) := List.getElem_mem h
  have hall := List.all_takeWhile (l := K) (p := fun x => decide (x < k))
  have := (List.all_eq_true.1 hall) _ hm
  rw [hp.getElem h] at this
  simpa using this

theorem pos_step {K : List Int} {k : Int} {i : Nat} (hi : i ≤ pos K k) : (∃ hl : i < K.length, K[i] < k) ↔ i < pos K k := by
  constructor
  · rintro ⟨hl, hk⟩
    rcases Nat.lt_or_eq_of_le hi with h | h
    · exact h
    · exfalso
      subst h
      unfold pos at hl hk
      have hd := List.takeWhile_append_dropWhile (p := fun x => decide (x < k)) (l := K)
      have hlen : (K.takeWhile (fun x => decide (x < k))).length < K.length := hl
      have hne : K.dropWhile (fun x => decide (x < k)) ≠ [] := by
        intro he
        rw [he, List.append_nil] at hd
        rw [hd] at hlen; omega
      have hh := List.head_dropWhile_not (fun x => decide (x < k)) hne
      have : K[(K.takeWhile (fun x => decide (x < k))).length]'hlen = (K.dropWhile (fun x => decide (x < k))).head hne := by
        have h2 : K = K.takeWhile (fun x => decide (x < k)) ++ K.dropWhile (fun x => decide (x < k)) := hd.symm
        rw [List.getElem_of_eq h2, List.getElem_append_right (Nat.le_refl _)]
        simp [List.head_eq_getElem]
      rw [this] at hk
      simp at hh
      omega
  · exact pos_lt

def found (K : List Int) (k : Int) : Bool := decide (K[pos K k]? = some k)

end Go.Proofs.Ytjahfjfanaocpaa.Plain
