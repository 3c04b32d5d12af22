/- walks: rows, place -/
import Derived.Test.YtjahfjfanaocpaaRows
import Derived.Test.YtjahfjfanaocpaaP
import Derived.Test.YtjahfjfanaocpaaM
import Derived.WalkSpells
import Derived.WalkLawsBesides
import Derived.Deep.QuietTactic
import Derived.BigQuiet
namespace Go.Proofs.Ytjahfjfanaocpaa
open Go.RowKit

theorem eq_of_prefix {la lb : List Int} {n : Nat} (h1 : la.length = n) (h2 : lb.length = n) (h : ∀ j, j < n → la[j]? = lb[j]?) : la = lb := by
  apply List.ext_getElem?
  intro j
  by_cases hj : j < n
  · exact h j hj
  · rw [List.getElem?_eq_none (by omega), List.getElem?_eq_none (by omega)]

theorem ret_bool {a b : Bool} (h : a = b) : Ending.returned (.bool a) = Ending.returned (.bool b) := by rw [h]
theorem two_draws (w : World) (a b : Nat) : ∃ m, (w.drewN a).drewN b = w.drewN m := ⟨a + b, by simp⟩
theorem ne_bool {a b : Int} (h : a ≠ b) : (a != b) = true := by simp [h]
theorem ne_bool' {a b : Int} (h : a = b) : (a != b) = false := by simp [h]

set_option maxHeartbeats 1000000 in
theorem rows_same (va vb : Value) (la lb : List Int) (w : World) (n : Nat) (h1 : Hid (la.length = n)) (h2 : Hid (lb.length = n)) (ha : RowAt w 3 va n (zI la)) (hb : RowAt w 3 vb n (zI lb)) :
    Calls Try.prog 11 #[va, vb] w fun e w' => e = .returned (.bool (decide (la = lb))) ∧ ∃ m, w' = w.drewN m := by
  by_cases h0 : n = 0
  · subst h0
    obtain rfl : la = [] := List.length_eq_zero_iff.1 h1.out
    obtain rfl : lb = [] := List.length_eq_zero_iff.1 h2.out
    obtain ⟨a, cap, rfl, hc, hm⟩ := ha.shape
    obtain ⟨a', cap', rfl, hc', hm'⟩ := hb.shape
    clear ha hb
    go_enter Try.func11, Try.ntmps11
    go_wp2
    refine wp_loop_rounds 1 ?_
    rw [rounds_succ]
    go_wp2
    go_ret
    exact ⟨rfl, 0, rfl⟩
  · obtain ⟨a, o, cap, rfl, hc, hm, ca⟩ := ha.cell (by omega)
    obtain ⟨a', o', cap', rfl, hc', hm', cb⟩ := hb.cell (by omega)
    clear ha hb
    unfold maxLen at hm hm'
    have hne : (((n : Nat) : Int) != ((n : Nat) : Int)) = false := by simp
    go_enter Try.func11, Try.ntmps11
    go_wp2
    clear hne
    go_loopw [5] (fun i wr => ∃ k m : Nat, k ≤ n ∧ i = .int .i64 k ∧ wr = w.drewN m ∧ Hid (∀ j, j < k → la[j]? = lb[j]?)) (fun i _ => n - (intOf i).toNat)
    case atStart => exact ⟨0, 0, Nat.zero_le _, rfl, rfl, fun j hj => absurd hj (Nat.not_lt_zero _)⟩
    case round =>
      obtain ⟨k, m, hk, rfl, rfl, hp⟩ := hrel
      by_cases hlt : k < n
      · have hka : k < la.length := by have := h1.out; omega
        have hkb : k < lb.length := by have := h2.out; omega
        have c1 := ca k (by simpa using hka)
        have c2 := cb k (by simpa using hkb)
        simp only [zI, List.getElem_map] at c1 c2
        have hki : (0 : Int) ≤ (k : Int) := by omega
        have hkn : (k : Int) < (n : Int) := by omega
        clear ca cb
        by_cases he : la[k] = lb[k]
        · have hb1 := ne_bool' he
          have Hp : Hid (∀ j, j < k + 1 → la[j]? = lb[j]?) := by
            intro j hj
            rcases Nat.lt_succ_iff_lt_or_eq.1 hj with h | rfl
            · exact hp.out j h
            · rw [List.getElem?_eq_getElem hka, List.getElem?_eq_getElem hkb, he]
          clear hp
          have He := Lib.hid he
          clear he
          go_wp2
          go_quiet (fail)
          go_wp2
          go_roundw
          case rel => exact ⟨k + 1, _, by omega, by go_num, rfl, Hp⟩
          case measure => simp [intOf]; omega
        · have hb1 := ne_bool he
          have Hne : la ≠ lb := by
            rintro rfl
            exact he rfl
          have He := Lib.hid he
          clear he hp
          go_wp2
          go_quiet (fail)
          go_wp2
          go_ret
          exact ⟨ret_bool (decide_eq_false Hne).symm, two_draws _ _ _⟩
      · have hkn : k = n := by omega
        subst hkn
        have Heq : la = lb := eq_of_prefix h1.out h2.out hp.out
        clear ca cb hp
        have Heq' := Lib.hid Heq
        clear Heq
        go_wp2
        go_ret
        exact ⟨ret_bool (decide_eq_true Heq'.out).symm, _, rfl⟩

set_option maxHeartbeats 1000000 in
theorem rows_apart (va vb : Value) (la lb : List Int) (w : World) (h : la.length ≠ lb.length) (ha : RowAt w 3 va la.length (zI la)) (hb : RowAt w 3 vb lb.length (zI lb)) :
    Calls Try.prog 11 #[va, vb] w fun e w' => e = .returned (.bool (decide (la = lb))) ∧ ∃ m, w' = w.drewN m := by
  obtain ⟨a, cap, rfl, hc, hm⟩ := ha.shape
  obtain ⟨a', cap', rfl, hc', hm'⟩ := hb.shape
  have hd : decide (la = lb) = false := decide_eq_false (fun e => h (by rw [e]))
  have Hd := Lib.hid hd
  have hne : (((la.length : Nat) : Int) != ((lb.length : Nat) : Int)) = true := ne_bool (by omega)
  clear ha hb h hd
  go_enter Try.func11, Try.ntmps11
  go_wp2
  go_ret
  exact ⟨ret_bool Hd.out.symm, 0, rfl⟩

theorem rows_any (va vb : Value) (la lb : List Int) (w : World) (ha : RowAt w 3 va la.length (zI la)) (hb : RowAt w 3 vb lb.length (zI lb)) :
    Calls Try.prog 11 #[va, vb] w fun e w' => e = .returned (.bool (decide (la = lb))) ∧ ∃ m, w' = w.drewN m := by
  by_cases h : la.length = lb.length
  · exact rows_same va vb la lb w la.length (Lib.hid rfl) (Lib.hid h.symm) ha (by rw [h]; exact hb)
  · exact rows_apart va vb la lb w h ha hb

end Go.Proofs.Ytjahfjfanaocpaa
