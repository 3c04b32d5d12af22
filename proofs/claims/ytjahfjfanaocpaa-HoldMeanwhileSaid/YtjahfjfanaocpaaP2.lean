/- plain laws: a sorted table as a map's datum, and as two rows -/
import Derived.Test.YtjahfjfanaocpaaP
import Derived.Maps.OwnSet
import Derived.Lib.SlKeysI
namespace Go.Proofs.Ytjahfjfanaocpaa
open Go.RowKit Plain

section
variable {β : Type}
def Srt (l : List (Int × β)) : Prop := l.Pairwise fun p q => p.1 < q.1
def ins (k : Int) (v : β) (l : List (Int × β)) : List (Int × β) := l.filter (fun p => decide (p.1 < k)) ++ (k, v) :: l.filter (fun p => decide (k < p.1))
def rem (k : Int) (l : List (Int × β)) : List (Int × β) := l.filter fun p => decide (p.1 ≠ k)
def get? (k : Int) (l : List (Int × β)) : Option β := (l.find? fun p => decide (p.1 = k)).map (·.2)

theorem all_cons {P : Int × β → Prop} {p : Int × β} {l : List (Int × β)} (h : P p) (h' : ∀ q ∈ l, P q) : ∀ q ∈ p :: l, P q := by
  intro q hq
  rcases List.mem_cons.1 hq with e | hq
  · rw [e]; exact h
  · exact h' q hq

/-- a key's place parts a sorted table -/
inductive Parts (k : Int) (l : List (Int × β)) : Prop where
  | no (lo hi : List (Int × β)) (h1 : ∀ p ∈ lo, p.1 < k) (h2 : ∀ p ∈ hi, k < p.1) (e : l = lo ++ hi)
  | yes (lo hi : List (Int × β)) (v : β) (h1 : ∀ p ∈ lo, p.1 < k) (h2 : ∀ p ∈ hi, k < p.1) (e : l = lo ++ (k, v) :: hi)

theorem parts (k : Int) : ∀ (l : List (Int × β)), Srt l → Parts k l
  | [], _ => .no [] [] (by simp) (by simp) rfl
  | p :: r, h => by
    obtain ⟨h1, h2⟩ := List.pairwise_cons.1 h
    by_cases hp : p.1 < k
    · rcases parts k r h2 with ⟨lo, hi, a, b, e⟩ | ⟨lo, hi, v, a, b, e⟩
      · exact .no (p :: lo) hi (all_cons hp a) b (by rw [e]; rfl)
      · exact .yes (p :: lo) hi v (all_cons hp a) b (by rw [e]; rfl)
    · by_cases he : p.1 = k
      · exact .yes [] r p.2 (by simp) (by intro q hq; have := h1 q hq; omega) (by subst he; rfl)
      · exact .no [] (p :: r) (by simp) (all_cons (by omega) (fun q hq => by have := h1 q hq; omega)) rfl

theorem filter_lt_lo {k : Int} {lo : List (Int × β)} (h : ∀ p ∈ lo, p.1 < k) : lo.filter (fun p => decide (p.1 < k)) = lo := List.filter_eq_self.2 (by simpa using h)
theorem filter_lt_hi {k : Int} {hi : List (Int × β)} (h : ∀ p ∈ hi, k < p.1) : hi.filter (fun p => decide (p.1 < k)) = [] := List.filter_eq_nil_iff.2 (by intro p hp; have := h p hp; simp; omega)
theorem filter_gt_lo {k : Int} {lo : List (Int × β)} (h : ∀ p ∈ lo, p.1 < k) : lo.filter (fun p => decide (k < p.1)) = [] := List.filter_eq_nil_iff.2 (by intro p hp; have := h p hp; simp; omega)
theorem filter_gt_hi {k : Int} {hi : List (Int × β)} (h : ∀ p ∈ hi, k < p.1) : hi.filter (fun p => decide (k < p.1)) = hi := List.filter_eq_self.2 (by simpa using h)
theorem filter_ne_lo {k : Int} {lo : List (Int × β)} (h : ∀ p ∈ lo, p.1 < k) : lo.filter (fun p => decide (p.1 ≠ k)) = lo := List.filter_eq_self.2 (by intro p hp; have := h p hp; simp; omega)
theorem filter_ne_hi {k : Int} {hi : List (Int × β)} (h : ∀ p ∈ hi, k < p.1) : hi.filter (fun p => decide (p.1 ≠ k)) = hi := List.filter_eq_self.2 (by intro p hp; have := h p hp; simp; omega)

theorem ins_no {k : Int} {v : β} {lo hi : List (Int × β)} (h1 : ∀ p ∈ lo, p.1 < k) (h2 : ∀ p ∈ hi, k < p.1) : ins k v (lo ++ hi) = lo ++ (k, v) :: hi := by
  simp only [ins, List.filter_append, filter_lt_lo h1, filter_lt_hi h2, filter_gt_lo h1, filter_gt_hi h2, List.append_nil, List.nil_append]
theorem ins_yes {k : Int} {v u : β} {lo hi : List (Int × β)} (h1 : ∀ p ∈ lo, p.1 < k) (h2 : ∀ p ∈ hi, k < p.1) : ins k v (lo ++ (k, u) :: hi) = lo ++ (k, v) :: hi := by
  simp [ins, List.filter_append, filter_lt_lo h1, filter_lt_hi h2, filter_gt_lo h1, filter_gt_hi h2]
theorem rem_no {k : Int} {lo hi : List (Int × β)} (h1 : ∀ p ∈ lo, p.1 < k) (h2 : ∀ p ∈ hi, k < p.1) : rem k (lo ++ hi) = lo ++ hi := by
  unfold rem; rw [List.filter_append, filter_ne_lo h1, filter_ne_hi h2]
theorem rem_yes {k : Int} {u : β} {lo hi : List (Int × β)} (h1 : ∀ p ∈ lo, p.1 < k) (h2 : ∀ p ∈ hi, k < p.1) : rem k (lo ++ (k, u) :: hi) = lo ++ hi := by
  unfold rem; rw [List.filter_append, filter_ne_lo h1, List.filter_cons, filter_ne_hi h2]; simp
theorem get_no {k : Int} {lo hi : List (Int × β)} (h1 : ∀ p ∈ lo, p.1 < k) (h2 : ∀ p ∈ hi, k < p.1) : get? k (lo ++ hi) = none := by
  unfold get?
  rw [List.find?_eq_none.2]
  · rfl
  · intro p hp
    rcases List.mem_append.1 hp with h | h
    · have := h1 p h; simp; omega
    · have := h2 p h; simp; omega
theorem get_yes {k : Int} {u : β} {lo hi : List (Int × β)} (h1 : ∀ p ∈ lo, p.1 < k) : get? k (lo ++ (k, u) :: hi) = some u := by
  unfold get?
  rw [List.find?_append, List.find?_eq_none.2]
  · simp
  · intro p hp; have := h1 p hp; simp; omega

theorem srt_mid {k : Int} {v : β} {lo hi : List (Int × β)} (h1 : ∀ p ∈ lo, p.1 < k) (h2 : ∀ p ∈ hi, k < p.1) (s1 : Srt lo) (s2 : Srt hi) : Srt (lo ++ (k, v) :: hi) := by
  unfold Srt at *
  refine List.pairwise_append.2 ⟨s1, List.pairwise_cons.2 ⟨h2, s2⟩, fun p hp q hq => ?_⟩
  rcases List.mem_cons.1 hq with rfl | hq
  · exact h1 p hp
  · have := h1 p hp; have := h2 q hq; omega
theorem srt_parts {lo hi : List (Int × β)} (s : Srt (lo ++ hi)) : Srt lo ∧ Srt hi := ⟨(List.pairwise_append.1 s).1, (List.pairwise_append.1 s).2.1⟩

theorem ins_srt (k : Int) (v : β) {l : List (Int × β)} (s : Srt l) : Srt (ins k v l) := by
  rcases parts k l s with ⟨lo, hi, a, b, rfl⟩ | ⟨lo, hi, u, a, b, rfl⟩
  · rw [ins_no a b]; exact srt_mid a b (srt_parts s).1 (srt_parts s).2
  · rw [ins_yes a b]; exact srt_mid a b (srt_parts s).1 (List.pairwise_cons.1 (srt_parts s).2).2
theorem rem_srt (k : Int) {l : List (Int × β)} (s : Srt l) : Srt (rem k l) := List.Pairwise.filter _ s

/-! ### the keys' row -/
theorem pos_append {lo hi : List Int} {k : Int} (h1 : ∀ x ∈ lo, x < k) (h2 : ∀ x, hi.head? = some x → k ≤ x) : pos (lo ++ hi) k = lo.length := by
  unfold pos
  rw [List.takeWhile_append_of_pos (by simpa using h1)]
  cases hi with
  | nil => simp
  | cons x r => have := h2 x rfl; rw [List.takeWhile_cons_of_neg (by simp; omega)]; simp

theorem pos_no {k : Int} {lo hi : List (Int × β)} (h1 : ∀ p ∈ lo, p.1 < k) (h2 : ∀ p ∈ hi, k < p.1) : pos ((lo ++ hi).map (·.1)) k = lo.length := by
  rw [List.map_append, pos_append (by intro x hx; obtain ⟨p, hp, rfl⟩ := List.mem_map.1 hx; exact h1 p hp)]
  · simp
  · intro x hx
    cases hi with
    | nil => simp at hx
    | cons p r => simp at hx; subst hx; have := h2 p (by simp); omega
theorem pos_yes {k : Int} {u : β} {lo hi : List (Int × β)} (h1 : ∀ p ∈ lo, p.1 < k) : pos ((lo ++ (k, u) :: hi).map (·.1)) k = lo.length := by
  rw [List.map_append, pos_append (by intro x hx; obtain ⟨p, hp, rfl⟩ := List.mem_map.1 hx; exact h1 p hp)]
  · simp
  · intro x hx; simp at hx; omega
theorem found_no {k : Int} {lo hi : List (Int × β)} (h1 : ∀ p ∈ lo, p.1 < k) (h2 : ∀ p ∈ hi, k < p.1) : found ((lo ++ hi).map (·.1)) k = false := by
  unfold found
  rw [pos_no h1 h2, List.map_append, List.getElem?_append_right (by simp)]
  cases hi with
  | nil => simp
  | cons p r => have := h2 p (by simp); simp; omega
theorem found_yes {k : Int} {u : β} {lo hi : List (Int × β)} (h1 : ∀ p ∈ lo, p.1 < k) : found ((lo ++ (k, u) :: hi).map (·.1)) k = true := by
  unfold found
  rw [pos_yes h1, List.map_append, List.getElem?_append_right (by simp)]
  simp
end

/-! ### as a map's datum -/
abbrev encKV (p : Int × Value) : Lit × DataW Value := (.int .i64 p.1, .held p.2)
def dat (l : List (Int × Value)) : DataW Value := .map (l.map encKV)

theorem same_int (a b : Int) : (Lit.int .i64 a).sameKey (.int .i64 b) = decide (a = b) := by simp [Lit.sameKey]

theorem insert_mid {k : Int} {v : Value} : ∀ {lo hi : List (Int × Value)}, (∀ p ∈ lo, p.1 < k) → (∀ p ∈ hi, k < p.1) → DataW.insert (encKV (k, v)) ((lo ++ hi).map encKV) = (lo ++ (k, v) :: hi).map encKV
  | [], [], _, _ => rfl
  | [], p :: r, _, h2 => by
    have := h2 p (by simp)
    show (if decide (k < p.1) = true then _ else _) = _
    rw [if_pos (by simpa using this)]
    rfl
  | q :: lo, hi, h1, h2 => by
    have := h1 q (by simp)
    show (if decide (k < q.1) = true then _ else _) = _
    rw [if_neg (by simp; omega)]
    have ih := insert_mid (v := v) (fun p hp => h1 p (by simp [hp])) h2 (lo := lo)
    show encKV q :: DataW.insert (encKV (k, v)) ((lo ++ hi).map encKV) = _
    rw [ih]
    rfl

theorem filter_enc (l : List (Int × Value)) (k : Int) : (l.map encKV).filter (fun p => !p.1.sameKey (.int .i64 k)) = (rem k l).map encKV := by
  unfold rem
  rw [List.filter_map]
  congr 1
  refine List.filter_congr fun p _ => ?_
  simp [same_int]

theorem dat_put {l : List (Int × Value)} (s : Srt l) (k : Int) (v : Value) : (dat l).put (.int .i64 k) (.held v) = dat (ins k v l) := by
  unfold dat DataW.put
  simp only [filter_enc]
  rcases parts k l s with ⟨lo, hi, a, b, rfl⟩ | ⟨lo, hi, u, a, b, rfl⟩
  · rw [rem_no a b, ins_no a b]; exact congrArg DataW.map (insert_mid a b)
  · rw [rem_yes a b, ins_yes a b]; exact congrArg DataW.map (insert_mid a b)
theorem dat_del (l : List (Int × Value)) (k : Int) : (dat l).del (.int .i64 k) = dat (rem k l) := by
  unfold dat DataW.del
  simp only [filter_enc]
theorem dat_size (l : List (Int × Value)) : Maps.size (dat l) = l.length := by
  show (l.map encKV).length = _
  simp
theorem dat_find (l : List (Int × Value)) (k : Int) : (l.map encKV).find? (fun p => p.1.sameKey (.int .i64 k)) = (l.find? fun p => decide (p.1 = k)).map encKV := by
  rw [List.find?_map]
  congr 1
  simp only [Function.comp_def, same_int]
theorem dat_atKey (l : List (Int × Value)) (k : Int) (z : DataW Value) : (dat l).atKey (.int .i64 k) z = ((get? k l).map DataW.held).getD z := by
  unfold dat DataW.atKey get?
  simp only [dat_find]
  cases l.find? (fun p => decide (p.1 = k)) <;> rfl
theorem dat_has (l : List (Int × Value)) (k : Int) : Maps.has (dat l) (.int .i64 k) = (get? k l).isSome := by
  unfold dat get?
  rw [Maps.has_eq, List.any_map]
  simp only [Function.comp_def, same_int]
  rw [Option.isSome_map, Bool.eq_iff_iff, List.find?_isSome, List.any_eq_true]
theorem dat_keys (l : List (Int × Value)) : intKeys (dat l) = l.map (·.1) := by
  show (l.map encKV).map (fun p => intOf p.1) = _
  rw [List.map_map]
  rfl

theorem eq_of_perm_lt : ∀ {a b : List Int}, a.Perm b → a.Pairwise (· ≤ ·) → b.Pairwise (· < ·) → a = b
  | [], b, hp, _, _ => hp.nil_eq
  | x :: r, [], hp, _, _ => absurd hp.symm.nil_eq (by simp)
  | x :: r, y :: s, hp, h1, h2 => by
    obtain ⟨a1, a2⟩ := List.pairwise_cons.1 h1
    obtain ⟨b1, b2⟩ := List.pairwise_cons.1 h2
    have hx : x ∈ y :: s := hp.mem_iff.1 (by simp)
    have hy : y ∈ x :: r := hp.mem_iff.2 (by simp)
    have : x = y := by
      rcases List.mem_cons.1 hx with h | h
      · exact h
      · rcases List.mem_cons.1 hy with h' | h'
        · exact h'.symm
        · have := b1 x h; have := a1 y h'; omega
    subst this
    rw [eq_of_perm_lt (List.perm_cons x |>.1 hp) a2 b2]

theorem sorted_keys {l : List (Int × Value)} (s : Srt l) {ss : List Int} (h : ss.Perm (l.map (·.1))) : ss.mergeSort (fun x y => decide (x ≤ y)) = l.map (·.1) := by
  refine eq_of_perm_lt ((List.mergeSort_perm _ _).trans h) ?_ (List.pairwise_map.2 s)
  have := List.pairwise_mergeSort (le := fun x y : Int => decide (x ≤ y)) (by simp; omega) (by simp; omega) ss
  simpa using this
end Go.Proofs.Ytjahfjfanaocpaa
