/- the arguments' types, opened: bytes, a sum, a vote, a slice of votes, a mark, a certificate -/
import Derived.Test.YtjhpemlgcjdpfaaW
import Derived.ProofKit
import Derived.OpenShut
import Derived.Deep.Slices
namespace Go.Proofs.Ytjhpemlgcjdpfaa
open Go.RowKit Go.ChangeShapes Go.WideShapes
set_option maxRecDepth 100000

theorem cells26 : Try.prog.cellsOf 26 = 68 := by kernel_rfl
theorem cells3 : Try.prog.cellsOf 3 = 1 := by kernel_rfl
theorem cells5 : Try.prog.cellsOf 5 = 1 := by kernel_rfl
theorem cells24 : Try.prog.cellsOf 24 = 32 := by kernel_rfl
theorem cells22 : Try.prog.cellsOf 22 = 1 := by kernel_rfl
theorem cells46 : Try.prog.cellsOf 46 = 4 := by kernel_rfl
theorem cells48 : Try.prog.cellsOf 48 = 5 := by kernel_rfl
theorem laidOut : laidOutB Try.prog = true := by kernel_rfl

section
variable {H : Type} {enc : TypeId × Value → H} {W : World} {base : Nat} {spare : Nat → Bool} {held : Bool} {fuel : Nat} {cs : List Value} {x : DataW H × List MemPlace}

theorem open_sumC (h : DataW.trod enc Try.prog W base spare held fuel 24 cs = some x) :
    ∃ l : List Int, l.length = 32 ∧ cs = zB l ∧ ∀ b ∈ l, (Lit.int .u8 b).wf = true := by
  obtain ⟨xs, m, rfl, rfl, hlen, hxl, hf⟩ := DataW.trod_array Try.underlying24 h
  rw [cells24] at hlen
  have one : ∀ i, i < 32 → ∃ c : Int, cs[i]? = some (.int .u8 c) ∧ (Lit.int .u8 c).wf = true := by
    intro i hi
    have h3 := hf i hi
    rw [cells5, Nat.mul_one, List.getElem?_eq_getElem (by omega)] at h3
    obtain ⟨c, hcs, _, hw⟩ := DataW.trod_int Try.underlying5 h3
    refine ⟨c, ?_, hw⟩
    have h5 : ((cs.drop i).take 1)[0]? = some (Value.int .u8 c) := by rw [hcs]; rfl
    simpa using h5
  obtain ⟨F, hF⟩ := Deep.choose_lt one
  refine ⟨(List.range 32).map F, by simp, ?_, ?_⟩
  · refine List.ext_getElem? fun i => ?_
    by_cases hi : i < 32
    · rw [(hF i hi).1]
      simp [zB, List.getElem?_map, List.getElem?_range hi]
    · rw [List.getElem?_eq_none (by omega), List.getElem?_eq_none (by simp [zB]; omega)]
  · intro b hb
    obtain ⟨i, hi, rfl⟩ := List.mem_map.1 hb
    exact (hF i (by simpa using hi)).2

/-- what is known of a vote's numbers -/
structure VoteM.Wf (v : VoteM) : Prop where
  kind : (Lit.int .i64 v.kind).wf = true
  slot : (Lit.int .i64 v.slot).wf = true
  view : (Lit.int .i64 v.view).wf = true
  frm : (Lit.int .i64 v.frm).wf = true
  sum : ∀ b ∈ v.sum, (Lit.int .u8 b).wf = true
  tag : ∀ b ∈ v.tag, (Lit.int .u8 b).wf = true

theorem take1 {cs : List Value} {i : Nat} {c : Value} (h : (cs.drop i).take 1 = [c]) : cs.drop i = c :: cs.drop (i + 1) := by
  have h0 : cs[i]? = some c := by
    have : ((cs.drop i).take 1)[0]? = some c := by rw [h]; rfl
    simpa using this
  obtain ⟨hi, he⟩ := List.getElem?_eq_some_iff.1 h0
  rw [List.drop_eq_getElem_cons hi, he]
theorem takeN {cs : List Value} {i n : Nat} {l : List Value} (h : (cs.drop i).take n = l) : cs.drop i = l ++ cs.drop (i + n) := by
  rw [← h, ← List.drop_drop, List.take_append_drop]

theorem open_voteC (h : DataW.trod enc Try.prog W base spare held fuel 26 cs = some x) :
    ∃ v : VoteM, v.Ok ∧ v.Wf ∧ cs = v.cells := by
  obtain ⟨ys, n', rfl, rfl, hlen, hyl, hf⟩ := DataW.trod_struct Try.underlying26 h
  rw [cells26] at hlen
  have hyl : ys.length = 6 := hyl
  have field : ∀ (j : Nat) (f : Field) (o : Nat), j < 6 → f.type = 3 → f.offset = o → (DataW.trod enc Try.prog W base spare held n' f.type ((cs.drop f.offset).take (Try.prog.cellsOf f.type)) = ys[j]?) →
      ∃ c : Int, (cs.drop o).take 1 = [.int .i64 c] ∧ (Lit.int .i64 c).wf = true := by
    intro j f o hj h1 h2 h3
    rw [h1, h2, cells3, List.getElem?_eq_getElem (by omega)] at h3
    obtain ⟨c, hcs, _, hw⟩ := DataW.trod_int Try.underlying3 h3
    exact ⟨c, hcs, hw⟩
  have arr : ∀ (j : Nat) (f : Field) (o : Nat), j < 6 → f.type = 24 → f.offset = o → (DataW.trod enc Try.prog W base spare held n' f.type ((cs.drop f.offset).take (Try.prog.cellsOf f.type)) = ys[j]?) →
      ∃ l : List Int, l.length = 32 ∧ (cs.drop o).take 32 = zB l ∧ ∀ b ∈ l, (Lit.int .u8 b).wf = true := by
    intro j f o hj h1 h2 h3
    rw [h1, h2, cells24, List.getElem?_eq_getElem (by omega)] at h3
    exact open_sumC h3
  obtain ⟨a0, e0, w0⟩ := field 0 _ 0 (by omega) rfl rfl (hf 0 _ rfl)
  obtain ⟨a1, e1, w1⟩ := field 1 _ 1 (by omega) rfl rfl (hf 1 _ rfl)
  obtain ⟨a2, e2, w2⟩ := field 2 _ 2 (by omega) rfl rfl (hf 2 _ rfl)
  obtain ⟨a3, l3, e3, w3⟩ := arr 3 _ 3 (by omega) rfl rfl (hf 3 _ rfl)
  obtain ⟨a4, e4, w4⟩ := field 4 _ 35 (by omega) rfl rfl (hf 4 _ rfl)
  obtain ⟨a5, l5, e5, w5⟩ := arr 5 _ 36 (by omega) rfl rfl (hf 5 _ rfl)
  refine ⟨⟨a0, a1, a2, a3, a4, a5⟩, ⟨l3, l5⟩, ⟨w0, w1, w2, w4, w3, w5⟩, ?_⟩
  have g0 := take1 e0
  have g1 := take1 e1
  have g2 := take1 e2
  have g3 := takeN e3
  have g4 := take1 e4
  have g5 := takeN e5
  have g6 : cs.drop (36 + 32) = [] := List.drop_eq_nil_of_le (by omega)
  show cs = [.int .i64 a0, .int .i64 a1, .int .i64 a2] ++ (zB a3 ++ (.int .i64 a4 :: zB a5))
  have : cs = cs.drop 0 := rfl
  rw [this, g0, g1, g2, g3, g4, g5, g6, List.append_nil]
  rfl

instance : Inhabited VoteM := ⟨VoteM.nil⟩
theorem open_votesV {ad : Option Addr} {len cap : Nat} (h : DataW.trod enc Try.prog W 0 (fun _ => true) true fuel 22 [.slice ad len cap] = some x) :
    ∃ (l : List VoteM) (e : TypeId), len = l.length ∧ VotesAt W e (.slice ad len cap) l ∧ ∀ v ∈ l, v.Wf := by
  rcases Deep.open_slice Try.underlying22 h with ⟨he, _⟩ | ⟨a, len', cap', m, n, D, Pl, he, hb, hl, hm, hmm, hx, hi⟩
  · cases he
    exact ⟨[], 26, rfl, ⟨.inl ⟨rfl, rfl, none, 0, rfl, by decide, fun _ => rfl⟩, by simp⟩, by simp⟩
  · obtain ⟨rfl, rfl, rfl⟩ : ad = some a ∧ len = len' ∧ cap = cap' := by cases he; exact ⟨rfl, rfl, rfl⟩
    simp only [if_true] at hmm
    obtain rfl := hmm.symm
    rcases Nat.eq_zero_or_pos len with h0 | h0
    · subst h0
      exact ⟨[], 26, rfl, ⟨.inl ⟨rfl, rfl, some a, cap, rfl, hm, fun h => by cases h⟩, by simp⟩, by simp⟩
    have one : ∀ i, i < len → ∃ q : VoteM, (q.Ok ∧ q.Wf) ∧ ∀ j, j < 68 → W.cell? (a.add (i * 68 + j)) = q.cells[j]? := by
      intro i hil
      obtain ⟨cs', hc, ht⟩ := hi i (by omega)
      rw [cells26] at hc
      obtain ⟨_, hcl, hat⟩ := World.cells?_some hc
      obtain ⟨q, ho, hw, rfl⟩ := open_voteC ht
      refine ⟨q, ⟨ho, hw⟩, fun j hj => ?_⟩
      have h4 := hat j hj
      rw [Deep.add_add] at h4
      exact h4
    obtain ⟨F, hF⟩ := Deep.choose_lt one
    have hok : ∀ x ∈ (List.range len).map F, x.Ok := by
      intro q hq
      obtain ⟨i, hi', rfl⟩ := List.mem_map.1 hq
      exact (hF i (by simpa using hi')).1.1
    have hwf : ∀ x ∈ (List.range len).map F, x.Wf := by
      intro q hq
      obtain ⟨i, hi', rfl⟩ := List.mem_map.1 hq
      exact (hF i (by simpa using hi')).1.2
    obtain ⟨b, off, spot⟩ := a
    have hc0 : W.cell? (Addr.add ⟨b, off, spot⟩ (0 * 68 + 0)) = some (.int .i64 (F 0).kind) := (hF 0 h0).2 0 (by omega)
    have hspot : spot = none := by simpa [Addr.add] using World.cell?_spot hc0
    subst hspot
    obtain ⟨cur, e, fr, hblk, hcur⟩ : ∃ cur e fr, W.heap[b]? = some (.cells cur e fr) ∧ ∀ k c, W.cell? ⟨b, k, none⟩ = some c → cur[k]? = some c := by
      have h1 : ∃ cur e fr, W.heap[b]? = some (.cells cur e fr) := by
        have hc1 := hc0
        simp only [World.cell?, Addr.add] at hc1
        split at hc1
        · exact ⟨_, _, _, by assumption⟩
        all_goals cases hc1
      obtain ⟨cur, e, fr, h1⟩ := h1
      refine ⟨cur, e, fr, h1, fun k c hk => ?_⟩
      simpa [World.cell?, h1] using hk
    refine ⟨(List.range len).map F, e, by simp, ⟨.inr ⟨b, off, cap, cur, fr, by simp, by simpa using hl, hm, hblk, ?_⟩, hok⟩, hwf⟩
    intro j hj
    have hlenC : ∀ (l : List VoteM), (∀ x ∈ l, x.Ok) → (votesC l).length = l.length * 68 := by
      intro l hl
      induction l with
      | nil => rfl
      | cons y r ih =>
        show (y.cells ++ votesC r).length = _
        rw [List.length_append, VoteM.length (hl y (by simp)), ih (fun x hx => hl x (by simp [hx]))]
        simp; omega
    have hj2 : j < len * 68 := by have := hlenC _ hok; rw [this] at hj; simpa using hj
    have hi' : j / 68 < len := by omega
    have h7 := votesC_at _ hok (j / 68) (by simpa using hi') (j % 68) (by omega)
    rw [show j / 68 * 68 + j % 68 = j by omega] at h7
    have h8 := (hF (j / 68) hi').2 (j % 68) (by omega)
    rw [show j / 68 * 68 + j % 68 = j by omega] at h8
    rw [List.getElem?_eq_getElem hj] at h7
    have h9 : ((List.range len).map F)[j / 68]'(by simpa using hi') = F (j / 68) := by simp
    rw [h9] at h7
    rw [← h7, Go.WideShapes.add_plain] at h8
    rw [hcur _ _ h8]

theorem open_markC (h : DataW.trod enc Try.prog W base spare held fuel 46 cs = some x) :
    ∃ a b c d : Int, cs = [.int .i64 a, .int .i64 b, .int .i64 c, .int .i64 d] ∧ (Lit.int .i64 a).wf = true ∧ (Lit.int .i64 b).wf = true ∧ (Lit.int .i64 c).wf = true ∧ (Lit.int .i64 d).wf = true := by
  obtain ⟨ys, n', rfl, rfl, hlen, hyl, hf⟩ := DataW.trod_struct Try.underlying46 h
  rw [cells46] at hlen
  have hyl : ys.length = 4 := hyl
  have field : ∀ (j : Nat) (f : Field) (o : Nat), j < 4 → f.type = 3 → f.offset = o → (DataW.trod enc Try.prog W base spare held n' f.type ((cs.drop f.offset).take (Try.prog.cellsOf f.type)) = ys[j]?) →
      ∃ c : Int, (cs.drop o).take 1 = [.int .i64 c] ∧ (Lit.int .i64 c).wf = true := by
    intro j f o hj h1 h2 h3
    rw [h1, h2, cells3, List.getElem?_eq_getElem (by omega)] at h3
    obtain ⟨c, hcs, _, hw⟩ := DataW.trod_int Try.underlying3 h3
    exact ⟨c, hcs, hw⟩
  obtain ⟨a0, e0, w0⟩ := field 0 _ 0 (by omega) rfl rfl (hf 0 _ rfl)
  obtain ⟨a1, e1, w1⟩ := field 1 _ 1 (by omega) rfl rfl (hf 1 _ rfl)
  obtain ⟨a2, e2, w2⟩ := field 2 _ 2 (by omega) rfl rfl (hf 2 _ rfl)
  obtain ⟨a3, e3, w3⟩ := field 3 _ 3 (by omega) rfl rfl (hf 3 _ rfl)
  refine ⟨a0, a1, a2, a3, ?_, w0, w1, w2, w3⟩
  have g6 : cs.drop (3 + 1) = [] := List.drop_eq_nil_of_le (by omega)
  have : cs = cs.drop 0 := rfl
  rw [this, take1 e0, take1 e1, take1 e2, take1 e3, g6]
end

section
variable {H : Type} {enc : TypeId × Value → H} {W : World} {base : Nat} {v : Value} {d : DataW H} {ps : List MemPlace}
theorem okWide_array {P : Program} {w : World} {r : Reach} {t e : TypeId} {n : Nat} (ht : P.underlying t = some (.array n e)) (h : Value.okWide P w r base t v) : ∃ cs, v = .agg cs ∧ cs.size = P.cellsOf t := by
  unfold Value.okWide at h
  rw [ht] at h
  obtain ⟨cs, h, hs, _⟩ := h
  exact ⟨cs, h, hs⟩
theorem agg_of_list {cs : Array Value} {l : List Value} (h : cs.toList = l) : Value.agg cs = .agg l.toArray := by rw [← h]

theorem open_sum (hv : Value.okWide Try.prog W .any base 24 v) (h : DataW.Trod enc Try.prog W 0 (fun _ => true) true 24 v d ps) :
    ∃ l : List Int, l.length = 32 ∧ v = .agg (zB l).toArray ∧ ∀ b ∈ l, (Lit.int .u8 b).wf = true := by
  obtain ⟨cs, rfl, _⟩ := okWide_array Try.underlying24 hv
  obtain ⟨fuel, h⟩ := h
  obtain ⟨l, h1, h2, h3⟩ := open_sumC h
  exact ⟨l, h1, agg_of_list h2, h3⟩

theorem open_vote (hv : Value.okWide Try.prog W .any base 26 v) (h : DataW.Trod enc Try.prog W 0 (fun _ => true) true 26 v d ps) :
    ∃ x : VoteM, x.Ok ∧ x.Wf ∧ v = x.val := by
  obtain ⟨cs, rfl, _⟩ := okWide_struct Try.underlying26 hv
  obtain ⟨fuel, h⟩ := h
  obtain ⟨l, h1, h2, h3⟩ := open_voteC h
  exact ⟨l, h1, h2, agg_of_list h3⟩

theorem open_mark (hv : Value.okWide Try.prog W .any base 46 v) (h : DataW.Trod enc Try.prog W 0 (fun _ => true) true 46 v d ps) :
    ∃ a b c d : Int, v = .agg #[.int .i64 a, .int .i64 b, .int .i64 c, .int .i64 d] ∧ (Lit.int .i64 a).wf = true ∧ (Lit.int .i64 b).wf = true ∧ (Lit.int .i64 c).wf = true ∧ (Lit.int .i64 d).wf = true := by
  obtain ⟨cs, rfl, _⟩ := okWide_struct Try.underlying46 hv
  obtain ⟨fuel, h⟩ := h
  obtain ⟨a, b, c, d, h1, h2⟩ := open_markC h
  exact ⟨a, b, c, d, agg_of_list h1, h2⟩

theorem open_votes (hv : Value.okWide Try.prog W .any base 22 v) (h : DataW.Trod enc Try.prog W 0 (fun _ => true) true 22 v d ps) :
    ∃ (l : List VoteM) (e : TypeId), VotesAt W e v l ∧ ∀ x ∈ l, x.Wf := by
  obtain ⟨ad, len, cap, rfl⟩ := okWide_slice Try.underlying22 hv
  obtain ⟨fuel, h⟩ := h
  obtain ⟨l, e, rfl, h1, h2⟩ := open_votesV h
  exact ⟨l, e, h1, h2⟩

theorem trod_slice_cells {t e : TypeId} {fuel : Nat} {spare : Nat → Bool} {held : Bool} {cs : List Value} {x : DataW H × List MemPlace} (ht : Try.prog.underlying t = some (.slice e)) (h : DataW.trod enc Try.prog W base spare held fuel t cs = some x) :
    ∃ ad len cap, cs = [.slice ad len cap] := by
  rcases Deep.open_slice ht h with ⟨he, _⟩ | ⟨a, len', cap', m, n, D, Pl, he, _⟩
  · exact ⟨_, _, _, he⟩
  · exact ⟨_, _, _, he⟩

theorem open_cert (hv : Value.okWide Try.prog W .any base 48 v) (h : DataW.Trod enc Try.prog W 0 (fun _ => true) true 48 v d ps) :
    ∃ (a b c e : Int) (ad : Option Addr) (cap : Nat) (l : List VoteM) (t : TypeId), v = .agg #[.int .i64 a, .int .i64 b, .int .i64 c, .int .i64 e, .slice ad l.length cap] ∧
      ((Lit.int .i64 a).wf = true ∧ (Lit.int .i64 b).wf = true ∧ (Lit.int .i64 c).wf = true ∧ (Lit.int .i64 e).wf = true) ∧ VotesAt W t (.slice ad l.length cap) l ∧ ∀ x ∈ l, x.Wf := by
  obtain ⟨cs, rfl, _⟩ := okWide_struct Try.underlying48 hv
  obtain ⟨fuel, h⟩ := h
  obtain ⟨ys, n', rfl, hx, hlen, hyl, hf⟩ := DataW.trod_struct Try.underlying48 h
  rw [cells48] at hlen
  have hyl : ys.length = 2 := hyl
  have h0 : DataW.trod enc Try.prog W 0 (fun _ => true) true n' 46 (((Value.agg cs).cells.toList.drop 0).take (Try.prog.cellsOf 46)) = ys[0]? := hf 0 _ rfl
  have h1 : DataW.trod enc Try.prog W 0 (fun _ => true) true n' 22 (((Value.agg cs).cells.toList.drop 4).take (Try.prog.cellsOf 22)) = ys[1]? := hf 1 _ rfl
  rw [cells46, List.getElem?_eq_getElem (by omega)] at h0
  rw [cells22, List.getElem?_eq_getElem (by omega)] at h1
  obtain ⟨a, b, c, e, h2, h3⟩ := open_markC h0
  obtain ⟨ad, len, cap, h4⟩ := trod_slice_cells Try.underlying22 h1
  have h1' := h1
  rw [h4] at h1'
  obtain ⟨l, t, rfl, h5, h6⟩ := open_votesV h1'
  refine ⟨a, b, c, e, ad, cap, l, t, ?_, h3, h5, h6⟩
  apply agg_of_list
  have g1 := takeN h2
  have g2 := take1 h4
  have g1 : cs.toList.drop 0 = _ := g1
  have g2 : cs.toList.drop 4 = _ := g2
  have hlen : cs.toList.length = 5 := hlen
  have g3 : cs.toList.drop (4 + 1) = [] := List.drop_eq_nil_of_le (by omega)
  have : cs.toList = cs.toList.drop 0 := rfl
  rw [this, g1]
  have g2' : List.drop (0 + 4) (Value.agg cs).cells.toList = _ := g2
  rw [g2']
  have g3' : List.drop (4 + 1) (Value.agg cs).cells.toList = _ := g3
  rw [g3']
  rfl
end
end Go.Proofs.Ytjhpemlgcjdpfaa
