/- a slice of acts, opened -/
import Derived.Test.YtjahfjfanaocpaaQ
import Derived.ProofKit
import Derived.OpenShut
import Derived.Deep.Slices
namespace Go.Proofs.Ytjahfjfanaocpaa
open Go.RowKit Go.ChangeShapes Go.WideShapes

theorem cells31 : Try.prog.cellsOf 31 = 3 := by kernel_rfl
theorem cells3 : Try.prog.cellsOf 3 = 1 := by kernel_rfl
theorem laidOut : laidOutB Try.prog = true := by kernel_rfl

theorem open_acts {H : Type} {enc : TypeId × Value → H} {W : World} {fuel : Nat} {ad : Option Addr} {len cap : Nat} {x : DataW H × List MemPlace}
    (h : DataW.trod enc Try.prog W 0 (fun _ => true) true fuel 22 [.slice ad len cap] = some x) : ∃ acts : Script, len = acts.length ∧ len ≤ cap ∧ cap ≤ maxLen ∧ ActsAt W ad acts := by
  rcases Deep.open_slice Try.underlying22 h with ⟨he, _⟩ | ⟨a, len', cap', m, n, D, Pl, he, hb, hl, hm, hmm, hx, hi⟩
  · cases he
    exact ⟨[], rfl, Nat.le_refl _, by decide, fun h => absurd rfl h, by simp⟩
  · cases he
    simp only [if_true] at hmm
    subst hmm
    have one : ∀ i, i < len → ∃ q : Int × Int × Int, (W.cell? (a.add (i * 3)) = some (.int .i64 q.1) ∧ W.cell? (a.add (i * 3 + 1)) = some (.int .i64 q.2.1) ∧ W.cell? (a.add (i * 3 + 2)) = some (.int .i64 q.2.2)) ∧ (Lit.int .i64 q.2.1).wf = true := by
      intro i hil
      obtain ⟨cs', hc, ht⟩ := hi i (by omega)
      rw [cells31] at hc
      obtain ⟨ys, n', hn', hy, hlen, hyl, hf⟩ := DataW.trod_struct Try.underlying31 ht
      obtain ⟨_, hcl, hat⟩ := World.cells?_some hc
      have field : ∀ (j : Nat) (f : Field), j < 3 → f.type = 3 → f.offset = j → (DataW.trod enc Try.prog W 0 (fun _ => true) true n' f.type ((cs'.drop f.offset).take (Try.prog.cellsOf f.type)) = ys[j]?) →
          ∃ c, W.cell? (a.add (i * 3 + j)) = some (.int .i64 c) ∧ (Lit.int .i64 c).wf = true := by
        intro j f hj h1 h2 h3
        rw [h1, h2, cells3] at h3
        have hjy : j < ys.length := by rw [hyl]; exact hj
        rw [List.getElem?_eq_getElem hjy] at h3
        obtain ⟨c, hcs, _, hw⟩ := DataW.trod_int Try.underlying3 h3
        have h4 := hat j hj
        rw [Deep.add_add] at h4
        refine ⟨c, ?_, hw⟩
        rw [h4]
        have h5 : ((cs'.drop j).take 1)[0]? = some (Value.int .i64 c) := by rw [hcs]; rfl
        simpa using h5
      obtain ⟨c0, e0, _⟩ := field 0 _ (by omega) rfl rfl (hf 0 _ rfl)
      obtain ⟨c1, e1, w1⟩ := field 1 _ (by omega) rfl rfl (hf 1 _ rfl)
      obtain ⟨c2, e2, _⟩ := field 2 _ (by omega) rfl rfl (hf 2 _ rfl)
      exact ⟨(c0, c1, c2), ⟨e0, e1, e2⟩, w1⟩
    obtain ⟨F, hF⟩ := Deep.choose_lt one
    refine ⟨(List.range len).map F, by simp, hl, hm, fun hne => ⟨a, rfl, ?_, ?_⟩, ?_⟩
    · have h0 : 0 < len := by
        rcases Nat.eq_zero_or_pos len with h | h
        · subst h; exact absurd rfl hne
        · exact h
      have := World.block_lt_of_cell? W _ (hF 0 h0).1.1
      rwa [add_block] at this
    · intro i hi'
      have hil : i < len := by simpa using hi'
      simpa using (hF i hil).1
    · intro q hq
      obtain ⟨i, hi', rfl⟩ := List.mem_map.1 hq
      exact (hF i (by simpa using hi')).2
end Go.Proofs.Ytjahfjfanaocpaa
