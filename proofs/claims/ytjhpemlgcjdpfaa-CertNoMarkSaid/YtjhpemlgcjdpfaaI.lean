/- the writer of numbers and bytes -/
import Derived.Test.YtjhpemlgcjdpfaaH
import Derived.Outline
namespace Go.Proofs.Ytjhpemlgcjdpfaa
open Go.RowKit

/-- a number as bytes -/
def varN (u : Nat) : List Int := if h : 128 ≤ u then bits .or .u8 ((u : Int) % 256) 128 :: varN (u / 128) else [(u : Int)]
termination_by u
decreasing_by omega
theorem varN_more {u : Nat} (h : 128 ≤ u) : varN u = bits .or .u8 ((u : Int) % 256) 128 :: varN (u / 128) := by rw [varN, dif_pos h]
theorem varN_last {u : Nat} (h : ¬ 128 ≤ u) : varN u = [(u : Int)] := by rw [varN, dif_neg h]
def clamp (n : Int) : Nat := (max 0 (min n 4611686018427387904)).toNat
def numB (n : Int) : List Int := varN (clamp n)
def numsB (l : List Int) : List Int := l.flatMap numB

theorem varN_len : ∀ (f u : Nat), u < 128 ^ (f + 1) → (varN u).length ≤ f + 1
  | 0, u, h => by rw [varN_last (by omega)]; simp
  | f + 1, u, h => by
    by_cases h1 : 128 ≤ u
    · rw [varN_more h1, List.length_cons]
      have := varN_len f (u / 128) (by rw [Nat.pow_succ] at h; omega)
      omega
    · rw [varN_last h1]; simp
theorem numB_len (n : Int) : (numB n).length ≤ 9 := varN_len 8 _ (by unfold clamp; omega)
theorem numsB_len (l : List Int) : (numsB l).length ≤ 9 * l.length := by
  induction l with
  | nil => simp [numsB]
  | cons a l ih =>
    have := numB_len a
    simp only [numsB, List.flatMap_cons, List.length_append, List.length_cons] at ih ⊢
    omega
theorem numsB_snoc (l : List Int) (k : Nat) (h : k < l.length) : numsB (l.take (k + 1)) = numsB (l.take k) ++ numB l[k] := by
  rw [List.take_succ_eq_append_getElem h]
  show List.flatMap _ _ = List.flatMap _ _ ++ _
  rw [List.flatMap_append, List.flatMap_singleton]
/-- block c is a writer that has laid xs, its row being wv -/
structure WrAt (w : World) (c base : Nat) (wv : Value) (xs : List Int) : Prop where
  cell : w.heap[c]? = some (.cells #[wv] 118 (0, 0))
  own : w.ownsRow base 5 1 wv xs.length (zB xs)
  lt : c < base
/-- a row that is the elder one, or a new one -/
def OwnOr (n : Nat) (wv wv' : Value) : Prop := wv'.ownBlock = wv.ownBlock ∨ ∃ b, wv'.ownBlock = some b ∧ n ≤ b
def wrR (c : Nat) (wv : Value) (b : Nat) : Prop := b = c ∨ wv.ownBlock = some b

theorem own_keep {w w' : World} {base : Nat} {e : TypeId} {size : Nat} {v : Value} {n : Nat} {xs : List Value} (h : w.ownsRow base e size v n xs) (hk : ∀ b, v.ownBlock = some b → w'.heap[b]? = w.heap[b]?) : w'.ownsRow base e size v n xs := by
  refine ⟨h.1, ?_⟩
  rcases h.2 with h2 | ⟨g, cap, cur, rfl, h1, h2, h3⟩
  · exact .inl h2
  · exact .inr ⟨g, cap, cur, rfl, h1, (hk g rfl).trans h2, h3⟩
theorem own_lt {w : World} {base : Nat} {e : TypeId} {size : Nat} {v : Value} {n : Nat} {xs : List Value} (h : w.ownsRow base e size v n xs) : ∀ b, v.ownBlock = some b → b < w.heap.size := by
  intro b hb
  rcases h.2 with ⟨rfl, _⟩ | ⟨g, cap, cur, rfl, h1, h2, h3⟩
  · cases hb
  · simp [Value.ownBlock] at hb; subst hb; exact (Array.getElem?_eq_some_iff.1 h2).1
theorem WrAt.size {w : World} {c base : Nat} {wv : Value} {xs : List Int} (h : WrAt w c base wv xs) : c < w.heap.size := (Array.getElem?_eq_some_iff.1 h.cell).1
theorem WrAt.push_cell {w w1 w' : World} {c base : Nat} {wv : Value} {xs : List Int} (h : WrAt w c base wv xs) (h1 : w.grownBy w1 none) (hg : w1.grownBy w' wv.ownBlock) : w'.heap[c]? = some (.cells #[wv] 118 (0, 0)) := by
  have hge := own_ge h.own
  have hlt := h.lt
  exact (hg.block c (Nat.lt_of_lt_of_le h.size h1.size) (fun e => by have := hge _ e.symm; omega)).trans ((h1.block c h.size (by simp)).trans h.cell)
theorem WrAt.push {w w1 w' : World} {c base : Nat} {wv : Value} {xs ys : List Int} {v' : Value} {n : Nat} (h : WrAt w c base wv xs) (h1 : w.grownBy w1 none) (hg : w1.grownBy w' wv.ownBlock)
    (hown : w'.ownsRow base 5 1 v' n (zB xs ++ zB ys)) (hn : n = xs.length + ys.length) : WrAt (w'.setCell ⟨c, 0, none⟩ v') c base v' (xs ++ ys) := by
  have hc := h.push_cell h1 hg
  refine ⟨heap_setCell_same hc v', ?_, h.lt⟩
  have hge := own_ge hown
  have hlt := h.lt
  have := own_keep (w' := w'.setCell ⟨c, 0, none⟩ v') hown (fun b hb => Below.heap_setCell _ _ _ _ (fun e => by have := hge b hb; simp at e; omega))
  rw [List.length_append, ← hn, show zB (xs ++ ys) = zB xs ++ zB ys by simp]
  exact this
theorem kept_push {w0 w w1 w' : World} {c : Nat} {wv0 wv v' : Value} (hK : Kept (wrR c wv0) w0 w) (h1 : w.grownBy w1 none) (hg : w1.grownBy w' wv.ownBlock) (hO : OwnOr w0.heap.size wv0 wv) : Kept (wrR c wv0) w0 (w'.setCell ⟨c, 0, none⟩ v') := by
  have hs1 := h1.size
  have hs2 := hg.size
  have hK2 : Kept (wrR c wv0) w0 w' := ⟨by have := hK.size; omega, fun b hb hn => by
    have hb1 := hK.size
    refine (hg.block b (by omega) (fun e => ?_)).trans ((h1.block b (by omega) (by simp)).trans (hK.block b hb hn))
    rcases hO with ho | ⟨b', ho, hl⟩
    · exact hn (.inr (by rw [← ho, ← e]))
    · rw [ho] at e; simp at e; omega, hg.os.trans (h1.os.trans hK.os), hg.tape.trans (h1.tape.trans hK.tape), hg.output.trans (h1.output.trans hK.output)⟩
  exact hK2.setCell _ (.inl rfl) _
theorem ownOr_push {n m : Nat} {wv0 wv v' : Value} (hO : OwnOr n wv0 wv) (hb : v'.ownBlock = wv.ownBlock ∨ v'.ownBlock = some m) (hm : n ≤ m) : OwnOr n wv0 v' := by
  rcases hb with h | h
  · rcases hO with ho | ⟨b, ho, hl⟩
    · exact .inl (h.trans ho)
    · exact .inr ⟨b, h.trans ho, hl⟩
  · exact .inr ⟨m, h, hm⟩

set_option maxRecDepth 1000000 in
set_option maxHeartbeats 4000000 in
theorem nums_any (w : World) (c base : Nat) (wv v : Value) (e : TypeId) (l xs : List Int) (hb : xs.length + 10 * l.length ≤ 140737488355328) (hl : l.length ≤ 1000) (hbs : base ≤ w.heap.size)
    (hR : RowAt w e v l.length (zI l)) (hRb : ∀ b, v.ownBlock = some b → ¬ wrR c wv b) (hW : WrAt w c base wv xs) :
    Calls Try.prog 71 #[.pointer (some ⟨c, 0, none⟩), v] w fun ee w' => ee = .returned (.tuple #[]) ∧ ∃ wv', WrAt w' c base wv' (xs ++ numsB l) ∧ OwnOr w.heap.size wv wv' ∧ Kept (wrR c wv) w w' := by
  obtain ⟨a0, cap0, rfl, hc0, hm0⟩ := hR.shape
  obtain ⟨i0, hi, hz0, hz1, hz2⟩ := info_parts infoP5
  have HRb := Lib.hid hRb
  clear hRb
  go_enter Try.func71, Try.ntmps71
  go_wp2
  go_loopw [11] (fun i wr => ∃ (k : Nat) (wv1 : Value), k ≤ l.length ∧ i = .int .i64 k ∧ WrAt wr c base wv1 (xs ++ numsB (l.take k)) ∧ OwnOr w.heap.size wv wv1 ∧ Kept (wrR c wv) w wr) (fun i _ => l.length - (intOf i).toNat)
  case atStart => exact ⟨0, wv, Nat.zero_le _, rfl, by simpa [numsB] using hW, .inl rfl, Kept.refl _ _⟩
  case round =>
    obtain ⟨k, wv1, hk, rfl, hW1, hO1, hK1⟩ := hrel
    by_cases hlt : k < l.length
    · obtain ⟨b, off, cap, he, hc1, hc2, hcells⟩ := hR.cell (by omega)
      cases he
      have hbw := hR.lt (by intro h; simp at h; subst h; simp at hlt) b rfl
      have h1 := hcells k (by simpa using hlt)
      have cx : wr.cell? ⟨b, off + k, none⟩ = some (.int .i64 l[k]) := by
        simp only [World.cell?, hK1.block b hbw (HRb.out b rfl)]
        simpa [World.cell?] using h1
      obtain ⟨x, hx⟩ : ∃ x, x = l[k] := ⟨_, rfl⟩
      rw [← hx] at cx
      have Hx := Lib.hid hx
      clear hcells h1 hx
      have k0 : (0 : Int) ≤ (k : Int) := by omega
      have k1 : (k : Int) < (l.length : Int) := by omega
      have k2 : decide ((k : Int) < (l.length : Int)) = true := by simp; omega
      have k3 : decide (k < l.length) = true := by simp; omega
      have hln := numsB_len (l.take k)
      rw [List.length_take, Nat.min_eq_left (by omega)] at hln
      go_wp2
      all_goals
        obtain ⟨wo, rfl⟩ : ∃ wo : World, wo = wr := ⟨_, rfl⟩
        go_loopw [6] (fun u wr => ∃ (uu : Nat) (ys : List Int) (wv2 : Value), u = .int .u64 uu ∧ Hid (numB x = ys ++ varN uu) ∧ WrAt wr c base wv2 (xs ++ numsB (l.take k) ++ ys) ∧ OwnOr w.heap.size wv wv2 ∧ Kept (wrR c wv) w wr) (fun u _ => (intOf u).toNat)
        case atStart => exact ⟨clamp x, [], wv1, by congr 1; unfold clamp; omega, by show _ = _; simp [numB], by simpa using hW1, hO1, hK1⟩
        case round =>
          clear hW1 hO1 hK1 cx
          obtain ⟨uu, ys, wv2, rfl, hv, hW2, hO2, hK2⟩ := hrel
          have hlen0 : (xs ++ numsB (l.take k) ++ ys).length ≤ xs.length + 9 * k + ys.length := by simp only [List.length_append]; omega
          generalize hXS : xs ++ numsB (l.take k) ++ ys = XS at *
          have HXS := Lib.hid hXS
          clear hXS
          have hcl := cell_of_block hW2.cell 0
          have hfl := free_of_block hW2.cell 0
          simp at hcl
          have hown := hW2.own
          have hyl := congrArg List.length hv.out
          have hn9 := numB_len x
          rw [List.length_append] at hyl
          have hbz := Nat.le_trans hbs hK2.size
          by_cases h128 : 128 ≤ uu
          · have q0 : (128 : Int) ≤ (uu : Int) := by omega
            have q1 : decide ((128 : Int) ≤ (uu : Int)) = true := by simp; omega
            have hlen : XS.length + 1 ≤ 140737488355328 := by omega
            go_wp2_with (refine wpList_append_rowAt _ rfl (.tmp 27) (.tmp 31) 52 (by with_reducible rfl) base 5 i0 (.int .u8 0) 1 1 Try.underlying52 hi hz0 hz1 hz2 rfl (by decide) wv2 _ _ rfl (hown.alloc _) 5 _ 1 _ rfl (row_new wr 5 _ wr.heap.size rfl) rfl (fun u hu => by simp at hu; subst hu; rfl) (by unfold maxLen; omega) (by omega) (by simp; omega) ?_; intro a' cap' w' hown' hgr' hbl'; have hcc := cell_of_block (hW2.push_cell (World.grownBy_alloc wr _ none) hgr') 0; have hff := free_of_block (hW2.push_cell (World.grownBy_alloc wr _ none) hgr') 0; simp at hcc)
            have h3 := hW2.push (ys := [bits .or .u8 ((uu : Int) % 256) 128]) (World.grownBy_alloc wr _ none) hgr' hown' rfl
            have hl3 : XS ++ [bits .or .u8 ((uu : Int) % 256) 128] = xs ++ numsB (l.take k) ++ (ys ++ [bits .or .u8 ((uu : Int) % 256) 128]) := by rw [← HXS.out, List.append_assoc (xs ++ numsB (l.take k))]
            rw [hl3] at h3
            refine ⟨⟨uu / 128, ys ++ [bits .or .u8 ((uu : Int) % 256) 128], _, by first | go_num | simp, by show _ = _; rw [hv.out, varN_more h128, List.append_assoc]; rfl, h3, ownOr_push hO2 hbl' (by simp; have := hK2.size; omega), kept_push hK2 (World.grownBy_alloc wr _ none) hgr' hO2⟩, ?_⟩
            simp [intOf]
            omega
          · have q0 : (uu : Int) < 128 := by omega
            have q1 : decide ((128 : Int) ≤ (uu : Int)) = false := by simp; omega
            have hlen : XS.length + 1 ≤ 140737488355328 := by omega
            go_wp2_with (refine wpList_append_rowAt _ rfl (.tmp 39) (.tmp 42) 52 (by with_reducible rfl) base 5 i0 (.int .u8 0) 1 1 Try.underlying52 hi hz0 hz1 hz2 rfl (by decide) wv2 _ _ rfl (hown.alloc _) 5 _ 1 _ rfl (row_new wr 5 _ wr.heap.size rfl) rfl (fun u hu => by simp at hu; subst hu; rfl) (by unfold maxLen; omega) (by omega) (by simp; omega) ?_; intro a' cap' w' hown' hgr' hbl'; have hcc := cell_of_block (hW2.push_cell (World.grownBy_alloc wr _ none) hgr') 0; have hff := free_of_block (hW2.push_cell (World.grownBy_alloc wr _ none) hgr') 0; simp at hcc)
            have h3 := hW2.push (ys := [(uu : Int)]) (World.grownBy_alloc wr _ none) hgr' hown' rfl
            have hl3 : XS ++ [(uu : Int)] = xs ++ numsB (l.take (k + 1)) := by rw [numsB_snoc l k hlt, ← Hx.out, hv.out, varN_last h128, ← HXS.out]; simp only [List.append_assoc]
            rw [hl3] at h3
            refine ⟨?_, ?_⟩
            · first
                | exact ⟨k + 1, _, by omega, by go_num, h3, ownOr_push hO2 hbl' (by simp; have := hK2.size; omega), kept_push hK2 (World.grownBy_alloc wr _ none) hgr' hO2⟩
                | (repeat apply Exists.intro
                   refine ⟨?_, rfl⟩
                   exact ⟨k + 1, _, by omega, by go_num, h3, ownOr_push hO2 hbl' (by simp; have := hK2.size; omega), kept_push hK2 (World.grownBy_alloc wr _ none) hgr' hO2⟩)
            · simp [intOf]
              omega
    · obtain rfl : k = l.length := by omega
      go_wp2
      rw [List.take_length] at hW1
      go_end0
      exact ⟨rfl, wv1, hW1, hO1, hK1⟩
end Go.Proofs.Ytjhpemlgcjdpfaa
