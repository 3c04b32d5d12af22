/- during: acts while one ranges -/
import Derived.Test.YtjahfjfanaocpaaQ
import Derived.Sort.CutIn
namespace Go.Proofs.Ytjahfjfanaocpaa
open Go.RowKit Plain Go.Maps Go.Sort Go.Shelf
attribute [local go_sem] Oper.semAt_some

/-- what lies beside the two gathered rows, between two rounds -/
structure Dur (s : Nat) (w : World) (p b n : Nat) (mv : Value) (r : Nat) (W : World) : Prop where
  old : Kept (fun c => c = b) w W
  tab : ∃ l, TableAt W p b n l
  bt : W.heap[s]? = some (.cells #[.pointer (some ⟨p, 0, none⟩)] 23 (0, 0))
  bm : W.heap[s + 1]? = some (.cells #[mv] 22 (0, 0))
  br : W.heap[s + 2]? = some (.cells #[.bool false] 4 (0, 0))
  bn : W.heap[s + 5]? = some (.cells #[.int .i64 r] 3 (0, 0))

theorem TableAt.of_block {w w' : World} {p b n : Nat} {l : List (Int × Value)} (h : TableAt w p b n l) (h1 : w'.heap[p]? = w.heap[p]?) (h2 : w'.heap[b]? = w.heap[b]?) : TableAt w' p b n l := by
  refine ⟨?_, ?_, h.srt, h.len, h.wf⟩
  · rw [← h.cell]; simp only [World.cell?, h1]
  · obtain ⟨es, clock, hb, Ft, hs, hD⟩ := h.map
    exact ⟨es, clock, h2.trans hb, Ft, hs, hD⟩
theorem TableAt.more {w : World} {p b n n' : Nat} {l : List (Int × Value)} (h : TableAt w p b n l) (hn : n ≤ n') : TableAt w p b n' l :=
  ⟨h.cell, h.map.mono hn, h.srt, Nat.le_trans h.len hn, h.wf⟩
theorem Keep.wide {M : Nat} {T T' : Nat → Prop} {A B : World} (h : Keep M T A B) (ht : ∀ b, T b → T' b) : Keep M T' A B := ⟨h.size, fun b hb hn => h.block b hb (fun x => hn (ht b x))⟩

/-- another block than the two boxes and the two rows has turned -/
theorem Ph.over {M bk bv : Nat} {w : World} {kb vb : Value} {K V : List Int} {A W W' : World} (h : Ph M bk bv 0 w kb vb kb vb K V A W) {c : Nat} (hg : W.grownBy W' (some c)) (hc : c < M) (h1 : c ≠ bk) (h2 : c ≠ bv) : Ph M bk bv 0 w kb vb kb vb K V W' W' := by
  have e1 := (Array.getElem?_eq_some_iff.1 h.ck).1
  have e2 := (Array.getElem?_eq_some_iff.1 h.cv).1
  refine ⟨(hg.block _ e1 (fun e => h1 (by cases e; rfl))).trans h.ck, (hg.block _ e2 (fun e => h2 (by cases e; rfl))).trans h.cv, h.rk.kept hg (own_none h.rk hc), h.rv.kept hg (own_none h.rv hc), h.dis, Keep.refl _ _ _, ?_, Nat.le_trans h.hM hg.size⟩
  exact ⟨hg.os.trans h.below.os, hg.tape.trans h.below.tape, hg.output.trans h.below.output, Nat.le_trans h.below.size hg.size, fun b hb => absurd hb (Nat.not_lt_zero _)⟩

theorem Dur.turn {s : Nat} {w : World} {p b n : Nat} {mv : Value} {r B0 : Nat} {A C : World} (h : Dur s w p b n mv r A) (hr : RecTurn B0 A C) (h1 : w.heap.size ≤ s) (h2 : s + 5 < B0) (hp : p < w.heap.size) (hb : b < w.heap.size) : Dur s w p b n mv r C := by
  obtain ⟨l, hl⟩ := h.tab
  have same : ∀ c, c < A.heap.size → c < B0 → C.heap[c]? = A.heap[c]? := fun c hc hB => by
    rw [Array.getElem?_eq_getElem hc]
    exact hr.block c _ (Array.getElem?_eq_getElem hc) (.inl hB)
  have hs := h.old.size
  refine ⟨⟨Nat.le_trans hs hr.size, fun c hc hn => (same c (by omega) (by omega)).trans (h.old.block c hc hn), hr.os.trans h.old.os, hr.tape.trans h.old.tape, hr.output.trans h.old.output⟩, ⟨l, hl.of_block (same p (by omega) (by omega)) (same b (by omega) (by omega))⟩,
    hr.block _ _ h.bt (.inl (by omega)), hr.block _ _ h.bm (.inl (by omega)), hr.block _ _ h.br (.inl (by omega)), hr.block _ _ h.bn (.inl (by omega))⟩

theorem Dur.keep {s M : Nat} {w : World} {p b n : Nat} {mv : Value} {r : Nat} {A C : World} (h : Dur s w p b n mv r A) (hk : Keep M (fun c => c = s + 3 ∨ c = s + 4) A C) (hB : Below 0 w C) (h1 : w.heap.size ≤ s) (h2 : s + 5 < M) (hp : p < w.heap.size) (hb : b < w.heap.size) : Dur s w p b n mv r C := by
  obtain ⟨l, hl⟩ := h.tab
  have same : ∀ c, c < M → c ≠ s + 3 → c ≠ s + 4 → C.heap[c]? = A.heap[c]? := fun c hc h3 h4 => hk.block c hc (by rintro (h | h) <;> omega)
  exact ⟨⟨hB.size, fun c hc hn => (same c (by omega) (by omega) (by omega)).trans (h.old.block c hc hn), hB.os, hB.tape, hB.output⟩, ⟨l, hl.of_block (same p (by omega) (by omega) (by omega)) (same b (by omega) (by omega) (by omega))⟩,
    (same _ (by omega) (by omega) (by omega)).trans h.bt, (same _ (by omega) (by omega) (by omega)).trans h.bm, (same _ (by omega) (by omega) (by omega)).trans h.br, (same _ (by omega) (by omega) (by omega)).trans h.bn⟩

theorem Dur.table {s : Nat} {w : World} {p b n n' : Nat} {mv : Value} {r : Nat} {A C : World} (h : Dur s w p b n mv r A) (hg : A.grownBy C (some b)) (ht : ∃ l, TableAt C p b n' l) (h1 : w.heap.size ≤ s) (hb : b < w.heap.size) : Dur s w p b n' mv r C := by
  have keep : ∀ c, c < A.heap.size → c ≠ b → C.heap[c]? = A.heap[c]? := fun c hc hn => hg.block c hc (fun e => hn (by cases e; rfl))
  have s0 := (Array.getElem?_eq_some_iff.1 h.bt).1
  have s1 := (Array.getElem?_eq_some_iff.1 h.bm).1
  have s2 := (Array.getElem?_eq_some_iff.1 h.br).1
  have s5 := (Array.getElem?_eq_some_iff.1 h.bn).1
  exact ⟨h.old.trans (Kept.mono (Kept.of_grownBy hg) (fun c _ hc => by cases hc; rfl)), ht, (keep _ s0 (by omega)).trans h.bt, (keep _ s1 (by omega)).trans h.bm, (keep _ s2 (by omega)).trans h.br, (keep _ s5 (by omega)).trans h.bn⟩

theorem ActsAt.loadK {w W : World} {ad : Option Addr} {acts : Script} {b : Nat} (h : ActsAt w ad acts) (hK : Kept (fun c => c = b) w W) (hb : ∃ es c, w.heap[b]? = some (.map es c)) {i : Nat} (hi : i < acts.length) :
    ∃ a, ad = some a ∧ W.cell? (a.add (i * 3)) = some (.int .i64 acts[i].1) ∧ W.cell? ⟨(a.add (i * 3)).block, (a.add (i * 3)).off + 1, none⟩ = some (.int .i64 acts[i].2.1) ∧ W.cell? ⟨(a.add (i * 3)).block, (a.add (i * 3)).off + 2, none⟩ = some (.int .i64 acts[i].2.2) := by
  obtain ⟨a, rfl, hbl, hc⟩ := h.addr (by rintro rfl; simp at hi)
  obtain ⟨h0, h1, h2⟩ := hc i hi
  have hne : a.block ≠ b := by
    rintro e
    obtain ⟨es, c, hm⟩ := hb
    have e1 : (a.add (i * 3)).block = b := by rw [add_block]; exact e
    simp [World.cell?, e1, hm] at h0
  have hblk := hK.block a.block hbl hne
  have cc : ∀ j, W.cell? (a.add j) = w.cell? (a.add j) := fun j => by simp only [World.cell?, add_block, hblk]
  have e1 : (⟨(a.add (i * 3)).block, (a.add (i * 3)).off + 1, none⟩ : Addr) = a.add (i * 3 + 1) := by rw [← Deep.add_add]; simp [Addr.add]
  have e2 : (⟨(a.add (i * 3)).block, (a.add (i * 3)).off + 2, none⟩ : Addr) = a.add (i * 3 + 2) := by rw [← Deep.add_add]; simp [Addr.add]
  exact ⟨a, rfl, (cc _).trans h0, by rw [e1]; exact (cc _).trans h1, by rw [e2]; exact (cc _).trans h2⟩

theorem Dur.drew {s : Nat} {w : World} {p b n : Nat} {mv : Value} {r : Nat} {A : World} (h : Dur s w p b n mv r A) : Dur s w p b n mv r A.drew := by
  obtain ⟨l, hl⟩ := h.tab
  exact ⟨⟨h.old.size, h.old.block, h.old.os, h.old.tape, h.old.output⟩, ⟨l, hl.of_block rfl rfl⟩, h.bt, h.bm, h.br, h.bn⟩

theorem row_old {w W : World} {b : Nat} {v : Value} {n : Nat} {xs : List Value} (h : RowAt w 3 v n xs) (hK : Kept (fun c => c = b) w W) (hb : ∃ es c, w.heap[b]? = some (.map es c)) : RowAt W 3 v n xs := by
  rcases h with h | ⟨g, off, cap, cur, fr, rfl, a1, a2, a3, a4⟩
  · exact .inl h
  · refine .inr ⟨g, off, cap, cur, fr, rfl, a1, a2, (hK.block g (Array.getElem?_eq_some_iff.1 a3).1 ?_).trans a3, a4⟩
    rintro rfl
    obtain ⟨es, c, hm⟩ := hb
    rw [hm] at a3; cases a3

theorem dur_fin {w W : World} {b D m : Nat} (hold : Kept (fun c => c = b) w W) (hbr : W.heap[w.heap.size + 2]? = some (.cells #[.bool false] 4 (0, 0))) (hK : W.heap[D]? = some (.deferred (some []))) (hD : w.heap.size + 8 ≤ D) :
    ((W.drewN m).setCell ⟨w.heap.size + 1 + 1, 0, none⟩ (.bool true)).heap[D]? = some (.deferred (some [])) ∧
    (((W.drewN m).setCell ⟨w.heap.size + 1 + 1, 0, none⟩ (.bool true)).putObj D (.deferred none)).cell? ⟨w.heap.size + 1 + 1, 0, none⟩ = some (.bool true) ∧
    Kept (fun c => c = b) w (((W.drewN m).setCell ⟨w.heap.size + 1 + 1, 0, none⟩ (.bool true)).putObj D (.deferred none)) := by
  have e0 : (W.drewN m).heap[w.heap.size + 2]? = some (.cells #[.bool false] 4 (0, 0)) := hbr
  have e1 := heap_setCell_same e0 (j := 0) (.bool true)
  have k1 := (hold.drewN m).setCell_new ⟨w.heap.size + 1 + 1, 0, none⟩ (by show w.heap.size ≤ w.heap.size + 1 + 1; omega) (.bool true)
  refine ⟨(Below.heap_setCell _ _ _ _ (by show D ≠ w.heap.size + 1 + 1; omega)).trans hK, ?_, ?_⟩
  · have e2 : (((W.drewN m).setCell ⟨w.heap.size + 1 + 1, 0, none⟩ (.bool true)).putObj D (.deferred none)).heap[w.heap.size + 1 + 1]? = _ := (World.putObj_heap_other (by omega)).trans e1
    have e3 := cell_of_block e2 0
    simpa using e3
  · exact ⟨by have := k1.size; simpa using this, fun c hc hn => (World.putObj_heap_other (by omega)).trans (k1.block c hc hn), k1.os, k1.tape, k1.output⟩

theorem grownBy_cell (W : World) (c : Nat) (v : Value) : W.grownBy (W.setCell ⟨c, 0, none⟩ v) (some c) :=
  ⟨rfl, rfl, rfl, by simp [World.setCell], fun k _ hk => Below.heap_setCell _ _ _ _ (fun e => hk (by rw [e]))⟩

theorem Dur.inc {s : Nat} {w : World} {p b n n' : Nat} {mv : Value} {r : Nat} {A : World} (h : Dur s w p b n mv r A) (h1 : w.heap.size ≤ s) (hp : p < w.heap.size) (hb : b < w.heap.size) (r' : Int) (hr : r' = (r : Int) + 1) (hn : n ≤ n') : Dur s w p b n' mv (r + 1) (A.setCell ⟨s + 5, 0, none⟩ (.int .i64 r')) := by
  subst hr
  obtain ⟨l, hl⟩ := h.tab
  have keep : ∀ c, c ≠ s + 5 → (A.setCell ⟨s + 5, 0, none⟩ (.int .i64 ((r : Int) + 1))).heap[c]? = A.heap[c]? := fun c hc => Below.heap_setCell _ _ _ _ hc
  have e := heap_setCell_same h.bn (j := 0) (.int .i64 ((r : Int) + 1))
  refine ⟨h.old.setCell_new ⟨s + 5, 0, none⟩ (by show w.heap.size ≤ s + 5; omega) _, ⟨l, (hl.of_block (keep p (by omega)) (keep b (by omega))).more hn⟩, (keep _ (by omega)).trans h.bt, (keep _ (by omega)).trans h.bm, (keep _ (by omega)).trans h.br, ?_⟩
  rw [e]
  simp

set_option maxRecDepth 100000 in
set_option maxHeartbeats 4000000 in
theorem during_any (w : World) (p b n0 : Nat) (l : List (Int × Int)) (ht : TableAt w p b n0 (enl l)) (hl : l.length ≤ 150) (hn0 : n0 ≤ 150) (kx vx : Value) (hkx : RowAt w 3 kx l.length (zI (l.map (·.1)))) (hvx : RowAt w 3 vx l.length (zI (l.map (·.2))))
    (ad : Option Addr) (cap : Nat) (acts : Script) (h : ActsAt w ad acts) :
    Calls Try.prog 8 #[.pointer (some ⟨p, 0, none⟩), kx, vx, .slice ad acts.length cap] w fun e w' => e = .returned (.bool true) ∧ Kept (fun c => c = b) w w' := by
  refine (callsIn_wide (n := 10)).1 ?_
  refine callsIn_of_wp_marks Try.func8 rfl trivial ?_ rfl
  simp only [Try.ntmps8, List.size_toArray, List.length_cons, List.length_nil, Nat.reduceAdd, Nat.reduceSub, Array.replicate_succ, Array.replicate_zero, List.push_toArray, List.append_toArray, List.nil_append, List.cons_append]
  have f14 : Fence.wide.fn 14 := trivial
  have hfn := func_nil 32
  gi_wp2_with (gi_at_call 14; refine (callsIn_wide.2 (all_any _ _)).mono ?_; rintro e w2 ⟨rfl, rfl⟩)
  obtain ⟨w1, hw1⟩ : ∃ w1, w1 = ((((((((w.alloc (Obj.cells #[Value.pointer (some ⟨p, 0, none⟩)] 23)).alloc (Obj.cells #[Value.slice ad acts.length cap] 22)).alloc (Obj.cells #[Value.bool false] 4)).alloc (Obj.cells #[Value.slice none 0 0] 26)).alloc (Obj.cells #[Value.slice none 0 0] 26)).alloc (Obj.cells #[Value.int IntKind.i64 0] 3)).alloc (Obj.cells #[Value.pointer (some ⟨p, 0, none⟩)] 23)).alloc (Obj.cells #[Value.func (Fn.func 26) #[] #[]] 48)) := ⟨_, rfl⟩
  rw [← hw1]
  have hs1 : w1.heap.size = w.heap.size + 8 := by rw [hw1]; simp
  have hB1 : Below w.heap.size w w1 := by
    rw [hw1]
    exact ((((((((Below.refl _ _).alloc (Nat.le_refl _) _).alloc (by simp) _).alloc (by simp; omega) _).alloc (by simp; omega) _).alloc (by simp; omega) _).alloc (by simp; omega) _).alloc (by simp; omega) _).alloc (by simp; omega) _
  have gt : w1.heap[w.heap.size]? = some (Obj.cells #[Value.pointer (some ⟨p, 0, none⟩)] 23) := by
    have e := World.alloc_heap_new w (Obj.cells #[Value.pointer (some ⟨p, 0, none⟩)] 23)
    try simp only [World.size_alloc] at e
    rw [hw1]
    exact (Below.heap_alloc _ _ _ (by first | (simp; done) | (simp; omega))).trans ((Below.heap_alloc _ _ _ (by first | (simp; done) | (simp; omega))).trans ((Below.heap_alloc _ _ _ (by first | (simp; done) | (simp; omega))).trans ((Below.heap_alloc _ _ _ (by first | (simp; done) | (simp; omega))).trans ((Below.heap_alloc _ _ _ (by first | (simp; done) | (simp; omega))).trans ((Below.heap_alloc _ _ _ (by first | (simp; done) | (simp; omega))).trans ((Below.heap_alloc _ _ _ (by first | (simp; done) | (simp; omega))).trans (e)))))))
  have gm : w1.heap[w.heap.size + 1]? = some (Obj.cells #[Value.slice ad acts.length cap] 22) := by
    have e := World.alloc_heap_new (w.alloc (Obj.cells #[Value.pointer (some ⟨p, 0, none⟩)] 23)) (Obj.cells #[Value.slice ad acts.length cap] 22)
    try simp only [World.size_alloc] at e
    rw [hw1]
    exact (Below.heap_alloc _ _ _ (by first | (simp; done) | (simp; omega))).trans ((Below.heap_alloc _ _ _ (by first | (simp; done) | (simp; omega))).trans ((Below.heap_alloc _ _ _ (by first | (simp; done) | (simp; omega))).trans ((Below.heap_alloc _ _ _ (by first | (simp; done) | (simp; omega))).trans ((Below.heap_alloc _ _ _ (by first | (simp; done) | (simp; omega))).trans ((Below.heap_alloc _ _ _ (by first | (simp; done) | (simp; omega))).trans (e))))))
  have gr : w1.heap[w.heap.size + 1 + 1]? = some (Obj.cells #[Value.bool false] 4) := by
    have e := World.alloc_heap_new ((w.alloc (Obj.cells #[Value.pointer (some ⟨p, 0, none⟩)] 23)).alloc (Obj.cells #[Value.slice ad acts.length cap] 22)) (Obj.cells #[Value.bool false] 4)
    try simp only [World.size_alloc] at e
    rw [hw1]
    exact (Below.heap_alloc _ _ _ (by first | (simp; done) | (simp; omega))).trans ((Below.heap_alloc _ _ _ (by first | (simp; done) | (simp; omega))).trans ((Below.heap_alloc _ _ _ (by first | (simp; done) | (simp; omega))).trans ((Below.heap_alloc _ _ _ (by first | (simp; done) | (simp; omega))).trans ((Below.heap_alloc _ _ _ (by first | (simp; done) | (simp; omega))).trans (e)))))
  have gk : w1.heap[w.heap.size + 1 + 1 + 1]? = some (Obj.cells #[Value.slice none 0 0] 26) := by
    have e := World.alloc_heap_new (((w.alloc (Obj.cells #[Value.pointer (some ⟨p, 0, none⟩)] 23)).alloc (Obj.cells #[Value.slice ad acts.length cap] 22)).alloc (Obj.cells #[Value.bool false] 4)) (Obj.cells #[Value.slice none 0 0] 26)
    try simp only [World.size_alloc] at e
    rw [hw1]
    exact (Below.heap_alloc _ _ _ (by first | (simp; done) | (simp; omega))).trans ((Below.heap_alloc _ _ _ (by first | (simp; done) | (simp; omega))).trans ((Below.heap_alloc _ _ _ (by first | (simp; done) | (simp; omega))).trans ((Below.heap_alloc _ _ _ (by first | (simp; done) | (simp; omega))).trans (e))))
  have gv : w1.heap[w.heap.size + 1 + 1 + 1 + 1]? = some (Obj.cells #[Value.slice none 0 0] 26) := by
    have e := World.alloc_heap_new ((((w.alloc (Obj.cells #[Value.pointer (some ⟨p, 0, none⟩)] 23)).alloc (Obj.cells #[Value.slice ad acts.length cap] 22)).alloc (Obj.cells #[Value.bool false] 4)).alloc (Obj.cells #[Value.slice none 0 0] 26)) (Obj.cells #[Value.slice none 0 0] 26)
    try simp only [World.size_alloc] at e
    rw [hw1]
    exact (Below.heap_alloc _ _ _ (by first | (simp; done) | (simp; omega))).trans ((Below.heap_alloc _ _ _ (by first | (simp; done) | (simp; omega))).trans ((Below.heap_alloc _ _ _ (by first | (simp; done) | (simp; omega))).trans (e)))
  have gn : w1.heap[w.heap.size + 1 + 1 + 1 + 1 + 1]? = some (Obj.cells #[Value.int IntKind.i64 0] 3) := by
    have e := World.alloc_heap_new (((((w.alloc (Obj.cells #[Value.pointer (some ⟨p, 0, none⟩)] 23)).alloc (Obj.cells #[Value.slice ad acts.length cap] 22)).alloc (Obj.cells #[Value.bool false] 4)).alloc (Obj.cells #[Value.slice none 0 0] 26)).alloc (Obj.cells #[Value.slice none 0 0] 26)) (Obj.cells #[Value.int IntKind.i64 0] 3)
    try simp only [World.size_alloc] at e
    rw [hw1]
    exact (Below.heap_alloc _ _ _ (by first | (simp; done) | (simp; omega))).trans ((Below.heap_alloc _ _ _ (by first | (simp; done) | (simp; omega))).trans (e))
  have g6 : w1.heap[w.heap.size + 1 + 1 + 1 + 1 + 1 + 1]? = some (Obj.cells #[Value.pointer (some ⟨p, 0, none⟩)] 23) := by
    have e := World.alloc_heap_new ((((((w.alloc (Obj.cells #[Value.pointer (some ⟨p, 0, none⟩)] 23)).alloc (Obj.cells #[Value.slice ad acts.length cap] 22)).alloc (Obj.cells #[Value.bool false] 4)).alloc (Obj.cells #[Value.slice none 0 0] 26)).alloc (Obj.cells #[Value.slice none 0 0] 26)).alloc (Obj.cells #[Value.int IntKind.i64 0] 3)) (Obj.cells #[Value.pointer (some ⟨p, 0, none⟩)] 23)
    try simp only [World.size_alloc] at e
    rw [hw1]
    exact (Below.heap_alloc _ _ _ (by first | (simp; done) | (simp; omega))).trans (e)
  have g7 : w1.heap[w.heap.size + 1 + 1 + 1 + 1 + 1 + 1 + 1]? = some (Obj.cells #[Value.func (Fn.func 26) #[] #[]] 48) := by
    have e := World.alloc_heap_new (((((((w.alloc (Obj.cells #[Value.pointer (some ⟨p, 0, none⟩)] 23)).alloc (Obj.cells #[Value.slice ad acts.length cap] 22)).alloc (Obj.cells #[Value.bool false] 4)).alloc (Obj.cells #[Value.slice none 0 0] 26)).alloc (Obj.cells #[Value.slice none 0 0] 26)).alloc (Obj.cells #[Value.int IntKind.i64 0] 3)).alloc (Obj.cells #[Value.pointer (some ⟨p, 0, none⟩)] 23)) (Obj.cells #[Value.func (Fn.func 26) #[] #[]] 48)
    try simp only [World.size_alloc] at e
    rw [hw1]
    exact e
  have hpl : p < w.heap.size := lt_of_cell ht.cell
  have hbl : b < w.heap.size := ht.map.lt
  have hpb : p ≠ b := ht.ne
  have hbmap := own_map ht.map
  have c6 := cell_of_block g6 0
  have c7 := cell_of_block g7 0
  simp at c6 c7
  have hseq := ranged1_iter w1 p b n0 (enl l) (w.heap.size + 1 + 1 + 1 + 1 + 1 + 1) (w.heap.size + 1 + 1 + 1 + 1 + 1 + 1 + 1) 26 #[] (fun _ => true) (fun c => c = w.heap.size + 1 + 1 + 1 ∨ c = w.heap.size + 1 + 1 + 1 + 1 ∨ c = w.heap.size + 1 + 1 + 1 + 1 + 1 ∨ c = b) (fun _ => False) (by rintro c (rfl | rfl | rfl | rfl) <;> omega) (by rintro (h | h | h | h) <;> omega) c6 c7 (fun _ h => h.elim)
    (enters_of Try.func26 (by kernel_rfl) rfl) (fun W k _ => meantAll_any k W) (by simp; omega) (ht.below hB1)
  rw [show (enl l).filter (fun q => (fun _ => true) q.1) = enl l from List.filter_eq_self.2 (fun _ _ => rfl)] at hseq
  clear hfn c6 c7 hw1
  refine range_law (gf := 32) (lb := #[.pointer (some ⟨w.heap.size + 1 + 1 + 1 + 1 + 1 + 1, 0, none⟩), .pointer (some ⟨w.heap.size + 1 + 1 + 1 + 1 + 1 + 1 + 1, 0, none⟩)]) rfl (enters_of Try.func32 (by kernel_rfl) rfl) hseq (by rintro c (rfl | rfl | rfl | rfl) <;> omega) (fun _ => rfl)
    (fun M pre W => ∃ kb vb, Ph M (w.heap.size + 1 + 1 + 1) (w.heap.size + 1 + 1 + 1 + 1) 0 w kb vb kb vb (pre.map (·.1)) (pre.map fun q => intOf q.2) W W ∧ Dur w.heap.size w p b (n0 + pre.length) (.slice ad acts.length cap) pre.length W)
    (fun _ _ _ => False)
    ?hI ?hIx ?h0 (fun x => { tmps := #[.pointer (some ⟨p, 0, none⟩), kx, vx, .slice ad acts.length cap, .pointer (some ⟨w.heap.size, 0, none⟩), undef, undef, .pointer (some ⟨w.heap.size + 1, 0, none⟩), .pointer (some ⟨w.heap.size + 1 + 1, 0, none⟩), .pointer (some ⟨w.heap.size + 1 + 1 + 1, 0, none⟩), .pointer (some ⟨w.heap.size + 1 + 1 + 1 + 1, 0, none⟩), .pointer (some ⟨w.heap.size + 1 + 1 + 1 + 1 + 1, 0, none⟩), .func (.func 32) #[] #[.pointer (some ⟨w.heap.size + 1 + 1 + 1 + 1 + 1 + 1, 0, none⟩), .pointer (some ⟨w.heap.size + 1 + 1 + 1 + 1 + 1 + 1 + 1, 0, none⟩)], .int .i64 x.1, x.2, .pointer (some ⟨p, 0, none⟩), .func (.func 32) #[] #[.pointer (some ⟨w.heap.size + 1 + 1 + 1 + 1 + 1 + 1, 0, none⟩), .pointer (some ⟨w.heap.size + 1 + 1 + 1 + 1 + 1 + 1 + 1, 0, none⟩)], .func (.func 32) #[] #[.pointer (some ⟨w.heap.size + 1 + 1 + 1 + 1 + 1 + 1, 0, none⟩), .pointer (some ⟨w.heap.size + 1 + 1 + 1 + 1 + 1 + 1 + 1, 0, none⟩)], .bool false, .func (.func 32) #[] #[.pointer (some ⟨w.heap.size + 1 + 1 + 1 + 1 + 1 + 1, 0, none⟩), .pointer (some ⟨w.heap.size + 1 + 1 + 1 + 1 + 1 + 1 + 1, 0, none⟩)], .int .i64 x.1, x.2, undef, undef, undef, undef, undef, undef, undef, undef, undef, undef, undef, undef, undef, undef, undef, undef, undef, undef, undef, undef, undef, undef, undef, undef, undef, undef, undef, undef, undef, undef, undef, undef, undef, undef, undef, undef, undef, undef, undef, undef, undef, undef, undef, undef, undef, undef, undef, undef, undef, undef, undef, undef, undef, undef, undef, undef, undef, undef, undef, undef, undef, undef, undef], defers := [] }) ?assign ?body ?done ?stop
  case hI =>
    rintro M pre A B ⟨kb, vb, h3, h4⟩ hr
    exact ⟨kb, vb, h3.turn hr (by omega) (by omega) (by omega), h4.turn hr (Nat.le_refl _) (by omega) hpl hbl⟩
  case hIx =>
    rintro c pre A B h hr
    exact h
  case h0 =>
    intro A hA
    have hs := hA.size
    have hBA : Below w.heap.size w A := hB1.trans (hA.mono (by omega))
    refine ⟨_, _, ⟨(hA.block _ (by omega)).trans gk, (hA.block _ (by omega)).trans gv, ⟨rfl, .inl ⟨rfl, rfl⟩⟩, ⟨rfl, .inl ⟨rfl, rfl⟩⟩, .inl rfl, Keep.refl _ _ _, hBA.mono (Nat.zero_le _), Nat.le_refl _⟩, ?_⟩
    exact ⟨Kept.of_below hBA, ⟨_, ht.below hBA⟩, (hA.block _ (by omega)).trans gt, (hA.block _ (by omega)).trans gm, (hA.block _ (by omega)).trans gr, (hA.block _ (by omega)).trans gn⟩
  case assign =>
    intro l x W K hK
    gi_wp2
    exact hK
  case body =>
    rintro lr M pre x W hM hMW ⟨kb, vb, hP, hD⟩ hpre
    obtain ⟨k, xv⟩ := x
    have hmem : (k, xv) ∈ enl l := hpre.sublist.mem (by simp)
    obtain ⟨v, rfl⟩ : ∃ v, xv = .int .i64 v := ⟨_, enl_int l _ hmem⟩
    have hpl2 : pre.length + 1 ≤ 150 := by have := hpre.length_le; simp at this; omega
    have hKl : (pre.map (·.1)).length = pre.length := by simp
    have hVl : (pre.map fun q => intOf q.2).length = pre.length := by simp
    have hgoal : ∀ (W' : World) (kb' vb' : Value), Ph M (w.heap.size + 1 + 1 + 1) (w.heap.size + 1 + 1 + 1 + 1) 0 w kb' vb' kb' vb' (pre.map (·.1) ++ [k]) ((pre.map fun q => intOf q.2) ++ [v]) W' W' →
        Ph M (w.heap.size + 1 + 1 + 1) (w.heap.size + 1 + 1 + 1 + 1) 0 w kb' vb' kb' vb' ((pre ++ [(k, Value.int .i64 v)]).map (·.1)) ((pre ++ [(k, Value.int .i64 v)]).map fun q => intOf q.2) W' W' := by
      intro W' kb' vb' h
      simpa [intOf] using h
    have P0 := hP.drew
    clear hP
    generalize pre.map (·.1) = K at *
    generalize (pre.map fun q => intOf q.2) = V at *
    have hne : w.heap.size + 1 + 1 + 1 ≠ w.heap.size + 1 + 1 + 1 + 1 := by omega
    have hMm : w.heap.size + 1 + 1 + 1 + 1 < M := by omega
    generalize hbkd : w.heap.size + 1 + 1 + 1 = bk at *
    generalize hbvd : bk + 1 = bv at *
    generalize hbnd : bv + 1 = bn at *
    have Hbn : Hid (bn = w.heap.size + 5) := by show bn = w.heap.size + 5; omega
    obtain ⟨i0, hi, hz0, hz1, hz2⟩ := info_parts info3
    clear hseq gt gm gr gk gv gn g6 g7 hB1 hkx hvx hpre hmem ht
    gi_wp2
    gi_cut [] from 22 (fun wr => ∃ kb' vb', Ph M bk bv 0 w kb' vb' kb' vb' (K ++ [k]) (V ++ [v]) W wr)
    case first =>
      refine wpIn_region_tree 8 [0, 1, 4, 5] (.fork 2 (.fork 3 (.step 6 (.step 7 (.step 8 (.step 9 .done)))) 6 (.step 3 (.step 7 (.step 8 (.step 9 .done))))) 6 (.step 2 (.step 3 (.step 7 (.step 8 (.step 9 .done)))))) (fun w' => w'.cell? ⟨bk, 0, none⟩ = some kb ∧ w'.cell? ⟨bv, 0, none⟩ = some vb) (by kernel_rfl) (by kernel_rfl) (fun _ d _ _ _ h => by cases d <;> exact h) ?_ ?_ ?_
      · exact P0.S
      · rintro ⟨a, w, h⟩; exact h
      repeat
        refine wpReads_take (v := ?_) rfl (by rfl) ?_ ?_
        rotate_left
        · rintro w' ⟨hS1, hS2⟩
          go_simp
          try with_reducible rfl
        simp only [Act.put, List.setIfInBounds_toArray, List.set_cons_zero, List.set_cons_succ]
      refine wpReads_nil ?_
      refine wpTree_fork ?_ ?_
      · -- 2
        refine wpTree_run (v := ?_) (w' := ?_) rfl (by rfl) ?_ (.inr ?_) ?_
        rotate_left 2
        · go_simp
          refine ⟨?_, ?_⟩ <;> with_reducible rfl
        · exact (P0.alloc (by omega) _).S
        simp only [Act.put, List.setIfInBounds_toArray, List.set_cons_zero, List.set_cons_succ]
        have Pa := P0.alloc (by omega) (.cells #[.int .i64 k] 3)
        refine wpTree_fork ?_ ?_
        · -- 2 3 6 7
          refine wpTree_step rfl (fun KK hKK => ?_)
          refine step_append_rowAt _ rfl (.tmp 22) (.tmp 24) 26 rfl M 3 i0 (.int .i64 0) 1 8 Try.underlying26 hi hz0 hz1 hz2 rfl (by decide) _ K.length (zI K) rfl Pa.rk 3 _ 1 [Value.int .i64 k] rfl (row_new _ _ _ _ rfl) (by simp) (by simp [Value.oneCell']) (by unfold maxLen; omega) (by omega) Pa.hM ?_
          intro a1 p1 w1 ho1 hg1 hat1
          have P1 := Pa.appK (by omega) (by omega) (by omega) hg1 ho1 hat1
          refine hKK.out _ _ (.inr P1.S) ?_
          clear hKK KK
          simp only [Act.put, List.setIfInBounds_toArray, List.set_cons_zero, List.set_cons_succ]
          refine wpTree_run (v := ?_) (w' := ?_) rfl (by rfl) ?_ (.inr ?_) ?_
          rotate_left 2
          · go_simp
            refine ⟨?_, ?_⟩ <;> with_reducible rfl
          · exact (P1.alloc (by omega) _).S
          simp only [Act.put, List.setIfInBounds_toArray, List.set_cons_zero, List.set_cons_succ]
          have Pb := P1.alloc (by omega) (.cells #[.int .i64 v] 3)
          refine wpTree_step rfl (fun KK hKK => ?_)
          refine step_append_rowAt _ rfl (.tmp 26) (.tmp 28) 26 rfl M 3 i0 (.int .i64 0) 1 8 Try.underlying26 hi hz0 hz1 hz2 rfl (by decide) _ V.length (zI V) rfl Pb.rv 3 _ 1 [Value.int .i64 v] rfl (row_new _ _ _ _ rfl) (by simp) (by simp [Value.oneCell']) (by unfold maxLen; omega) (by omega) Pb.hM ?_
          intro a2 p2 w2 ho2 hg2 hat2
          have P2 := Pb.appV (by omega) (by omega) (by omega) hg2 ho2 hat2
          refine hKK.out _ _ (.inr P2.S) ?_
          clear hKK KK
          simp only [Act.put, List.setIfInBounds_toArray, List.set_cons_zero, List.set_cons_succ]
          obtain ⟨cs1, fs1, cs2, fs2⟩ := P2.stores hne
          refine wpTree_step rfl (fun KK hKK => ?_)
          go_simp
          refine hKK.out _ _ (.inl (Nat.le_refl _)) ?_
          clear hKK KK
          try simp only [Act.put, List.setIfInBounds_toArray, List.set_cons_zero, List.set_cons_succ]
          refine wpTree_step rfl (fun KK hKK => ?_)
          go_simp
          refine hKK.out _ _ (.inl (by decide)) ?_
          clear hKK KK
          refine wpTree_done ?_
          have P3 := P2.fin (by omega) (by omega) hne (by omega) (by omega)
          gi_wp2_with fail
          gi_meet
          simp only [hKl, hVl] at P3
          exact ⟨_, _, P3⟩
        · -- 2 6 3 7
          refine wpTree_run (v := ?_) (w' := ?_) rfl (by rfl) ?_ (.inr ?_) ?_
          rotate_left 2
          · go_simp
            refine ⟨?_, ?_⟩ <;> with_reducible rfl
          · exact (Pa.alloc (by omega) _).S
          simp only [Act.put, List.setIfInBounds_toArray, List.set_cons_zero, List.set_cons_succ]
          have Pb := Pa.alloc (by omega) (.cells #[.int .i64 v] 3)
          refine wpTree_step rfl (fun KK hKK => ?_)
          refine step_append_rowAt _ rfl (.tmp 22) (.tmp 24) 26 rfl M 3 i0 (.int .i64 0) 1 8 Try.underlying26 hi hz0 hz1 hz2 rfl (by decide) _ K.length (zI K) rfl Pb.rk 3 _ 1 [Value.int .i64 k] rfl (row_in ((Below.heap_alloc _ _ _ (by simp)).trans (World.alloc_heap_new W.drew _))) (by simp) (by simp [Value.oneCell']) (by unfold maxLen; omega) (by omega) Pb.hM ?_
          intro a1 p1 w1 ho1 hg1 hat1
          have P1 := Pb.appK (by omega) (by omega) (by omega) hg1 ho1 hat1
          refine hKK.out _ _ (.inr P1.S) ?_
          clear hKK KK
          simp only [Act.put, List.setIfInBounds_toArray, List.set_cons_zero, List.set_cons_succ]
          refine wpTree_step rfl (fun KK hKK => ?_)
          refine step_append_rowAt _ rfl (.tmp 26) (.tmp 28) 26 rfl M 3 i0 (.int .i64 0) 1 8 Try.underlying26 hi hz0 hz1 hz2 rfl (by decide) _ V.length (zI V) rfl P1.rv 3 _ 1 [Value.int .i64 v] rfl ((row_in (by have := World.alloc_heap_new (W.drew.alloc (.cells #[.int .i64 k] 3)) (.cells #[.int .i64 v] 3); rwa [World.size_alloc] at this)).off hg1 (by first | (simp; done) | (simp; omega)) (fun e => by have := (own_lt P0.rk e.symm).2; first | omega | (simp at this; done) | (simp at this; omega))) (by simp) (by simp [Value.oneCell']) (by unfold maxLen; omega) (by omega) P1.hM ?_
          intro a2 p2 w2 ho2 hg2 hat2
          have P2 := P1.appV (by omega) (by omega) (by omega) hg2 ho2 hat2
          refine hKK.out _ _ (.inr P2.S) ?_
          clear hKK KK
          simp only [Act.put, List.setIfInBounds_toArray, List.set_cons_zero, List.set_cons_succ]
          obtain ⟨cs1, fs1, cs2, fs2⟩ := P2.stores hne
          refine wpTree_step rfl (fun KK hKK => ?_)
          go_simp
          refine hKK.out _ _ (.inl (Nat.le_refl _)) ?_
          clear hKK KK
          try simp only [Act.put, List.setIfInBounds_toArray, List.set_cons_zero, List.set_cons_succ]
          refine wpTree_step rfl (fun KK hKK => ?_)
          go_simp
          refine hKK.out _ _ (.inl (by decide)) ?_
          clear hKK KK
          refine wpTree_done ?_
          have P3 := P2.fin (by omega) (by omega) hne (by omega) (by omega)
          gi_wp2_with fail
          gi_meet
          simp only [hKl, hVl] at P3
          exact ⟨_, _, P3⟩
      · -- 6 2 3 7
        refine wpTree_run (v := ?_) (w' := ?_) rfl (by rfl) ?_ (.inr ?_) ?_
        rotate_left 2
        · go_simp
          refine ⟨?_, ?_⟩ <;> with_reducible rfl
        · exact (P0.alloc (by omega) _).S
        simp only [Act.put, List.setIfInBounds_toArray, List.set_cons_zero, List.set_cons_succ]
        have Pa := P0.alloc (by omega) (.cells #[.int .i64 v] 3)
        refine wpTree_run (v := ?_) (w' := ?_) rfl (by rfl) ?_ (.inr ?_) ?_
        rotate_left 2
        · go_simp
          refine ⟨?_, ?_⟩ <;> with_reducible rfl
        · exact (Pa.alloc (by omega) _).S
        simp only [Act.put, List.setIfInBounds_toArray, List.set_cons_zero, List.set_cons_succ]
        have Pb := Pa.alloc (by omega) (.cells #[.int .i64 k] 3)
        refine wpTree_step rfl (fun KK hKK => ?_)
        refine step_append_rowAt _ rfl (.tmp 22) (.tmp 24) 26 rfl M 3 i0 (.int .i64 0) 1 8 Try.underlying26 hi hz0 hz1 hz2 rfl (by decide) _ K.length (zI K) rfl Pb.rk 3 _ 1 [Value.int .i64 k] rfl (row_in (by have := World.alloc_heap_new (W.drew.alloc (.cells #[.int .i64 v] 3)) (.cells #[.int .i64 k] 3); rwa [World.size_alloc] at this)) (by simp) (by simp [Value.oneCell']) (by unfold maxLen; omega) (by omega) Pb.hM ?_
        intro a1 p1 w1 ho1 hg1 hat1
        have P1 := Pb.appK (by omega) (by omega) (by omega) hg1 ho1 hat1
        refine hKK.out _ _ (.inr P1.S) ?_
        clear hKK KK
        simp only [Act.put, List.setIfInBounds_toArray, List.set_cons_zero, List.set_cons_succ]
        refine wpTree_step rfl (fun KK hKK => ?_)
        refine step_append_rowAt _ rfl (.tmp 26) (.tmp 28) 26 rfl M 3 i0 (.int .i64 0) 1 8 Try.underlying26 hi hz0 hz1 hz2 rfl (by decide) _ V.length (zI V) rfl P1.rv 3 _ 1 [Value.int .i64 v] rfl ((row_in ((Below.heap_alloc _ _ _ (by simp)).trans (World.alloc_heap_new W.drew _))).off hg1 (by first | (simp; done) | (simp; omega)) (fun e => by have := (own_lt P0.rk e.symm).2; first | omega | (simp at this; done) | (simp at this; omega))) (by simp) (by simp [Value.oneCell']) (by unfold maxLen; omega) (by omega) P1.hM ?_
        intro a2 p2 w2 ho2 hg2 hat2
        have P2 := P1.appV (by omega) (by omega) (by omega) hg2 ho2 hat2
        refine hKK.out _ _ (.inr P2.S) ?_
        clear hKK KK
        simp only [Act.put, List.setIfInBounds_toArray, List.set_cons_zero, List.set_cons_succ]
        obtain ⟨cs1, fs1, cs2, fs2⟩ := P2.stores hne
        refine wpTree_step rfl (fun KK hKK => ?_)
        go_simp
        refine hKK.out _ _ (.inl (Nat.le_refl _)) ?_
        clear hKK KK
        try simp only [Act.put, List.setIfInBounds_toArray, List.set_cons_zero, List.set_cons_succ]
        refine wpTree_step rfl (fun KK hKK => ?_)
        go_simp
        refine hKK.out _ _ (.inl (by decide)) ?_
        clear hKK KK
        refine wpTree_done ?_
        have P3 := P2.fin (by omega) (by omega) hne (by omega) (by omega)
        gi_wp2_with fail
        gi_meet
        simp only [hKl, hVl] at P3
        exact ⟨_, _, P3⟩
    case rest =>
      obtain ⟨kb', vb', P3⟩ := hcut
      have D3 := hD.keep (by rw [show w.heap.size + 3 = bk by omega, show w.heap.size + 4 = bv by omega]; exact P3.keep) P3.below (Nat.le_refl _) (by omega) hpl hbl
      have hck := P3.S.1
      obtain ⟨l3, hT3⟩ := D3.tab
      have ct := cell_of_block D3.bt 0
      have cm := cell_of_block D3.bm 0
      have cn := cell_of_block D3.bn 0
      have fn := free_of_block D3.bn 0
      rw [← Hbn.out] at cn fn
      simp at ct cm cn
      have hr0 : (0 : Int) ≤ (pre.length : Int) := by omega
      have hbig : decide ((1000 : Int) < (pre.length : Int) + 1) = false := by simp; omega
      have hk3 := P3.keep.wide (T' := fun c => c = bk ∨ c = bv ∨ c = bn ∨ c = b) (by rintro c (h | h) <;> simp [h])
      have fin : ∀ (w5 : World) (kb5 vb5 : Value) (n5 : Nat), Keep M (fun c => c = bk ∨ c = bv ∨ c = bn ∨ c = b) W w5 → Ph M bk bv 0 w kb5 vb5 kb5 vb5 (K ++ [k]) (V ++ [v]) w5 w5 → Dur w.heap.size w p b n5 (.slice ad acts.length cap) pre.length w5 → n5 ≤ n0 + pre.length + 1 →
          Keep M (fun c => c = bk ∨ c = bv ∨ c = bn ∨ c = b) W (w5.setCell ⟨bn, 0, none⟩ (.int .i64 ((pre.length : Int) + 1))) ∧ ∃ kb vb, Ph M bk bv 0 w kb vb kb vb ((pre ++ [(k, Value.int .i64 v)]).map (·.1)) ((pre ++ [(k, Value.int .i64 v)]).map fun q => intOf q.2) (w5.setCell ⟨bn, 0, none⟩ (.int .i64 ((pre.length : Int) + 1))) (w5.setCell ⟨bn, 0, none⟩ (.int .i64 ((pre.length : Int) + 1))) ∧
            Dur w.heap.size w p b (n0 + (pre ++ [(k, Value.int .i64 v)]).length) (.slice ad acts.length cap) (pre ++ [(k, Value.int .i64 v)]).length (w5.setCell ⟨bn, 0, none⟩ (.int .i64 ((pre.length : Int) + 1))) := by
        intro w5 kb5 vb5 n5 q1 q2 q3 q4
        have e := Hbn.out
        have D4 := q3.inc (Nat.le_refl _) hpl hbl ((pre.length : Int) + 1) rfl q4
        rw [← e] at D4
        have P4 := q2.over (grownBy_cell w5 bn (.int .i64 ((pre.length : Int) + 1))) (by omega) (by omega) (by omega)
        refine ⟨q1.setCell ⟨bn, 0, none⟩ (fun _ => .inr (.inr (.inl rfl))) _, _, _, hgoal _ _ _ P4, ?_⟩
        simpa [Nat.add_assoc] using D4
      have Hfin := Lib.hid fin
      clear fin
      by_cases hlt : pre.length < acts.length
      · obtain ⟨a, rfl, hd0, hd1, hd2⟩ := h.loadK D3.old hbmap hlt
        have hwf := h.wf _ (List.getElem_mem hlt)
        have j1 : decide ((pre.length : Int) < (acts.length : Int)) = true := by simp; omega
        have hr1 : (pre.length : Int) < (acts.length : Int) := by omega
        have hTd : TableAt wc.drew p b (n0 + pre.length) l3 := hT3.of_block rfl rfl
        generalize hq0 : acts[pre.length].1 = kd at hd0
        generalize hq1 : acts[pre.length].2.1 = ak at hd1 hwf
        generalize acts[pre.length].2.2 = av at hd2
        by_cases k1 : kd = 1
        · subst k1
          gi_wp2
          refine wpIn_region_M (.cut 11 (.read 0 (.read 1 (.read 2 (.read 3 (.read 4 (.read 5 (.read 6 (.read 7 (.read 8 (.read 9 (.read 10 (.step 11 .done))))))))))))) (by kernel_rfl) (by kernel_rfl) (fun _ d _ _ _ h => by cases d <;> exact h) ?_ ?_
          · rintro ⟨a, w, h⟩; exact h
          refine wpM_cut (fun w' => w' = wc.drew) (rfl) ?_
          refine wpM_read (v := ?_) rfl (by rfl) ?_ ?_
          rotate_left
          · intro w' hS'
            try subst hS'
            go_simp
            try with_reducible rfl
          try simp only [Act.put, List.setIfInBounds_toArray, List.set_cons_zero, List.set_cons_succ]
          refine wpM_read (v := ?_) rfl (by rfl) ?_ ?_
          rotate_left
          · intro w' hS'
            try subst hS'
            go_simp
            try with_reducible rfl
          try simp only [Act.put, List.setIfInBounds_toArray, List.set_cons_zero, List.set_cons_succ]
          refine wpM_read (v := ?_) rfl (by rfl) ?_ ?_
          rotate_left
          · intro w' hS'
            try subst hS'
            go_simp
            try with_reducible rfl
          try simp only [Act.put, List.setIfInBounds_toArray, List.set_cons_zero, List.set_cons_succ]
          refine wpM_read (v := ?_) rfl (by rfl) ?_ ?_
          rotate_left
          · intro w' hS'
            try subst hS'
            go_simp
            try with_reducible rfl
          try simp only [Act.put, List.setIfInBounds_toArray, List.set_cons_zero, List.set_cons_succ]
          refine wpM_read (v := ?_) rfl (by rfl) ?_ ?_
          rotate_left
          · intro w' hS'
            try subst hS'
            go_simp
            try with_reducible rfl
          try simp only [Act.put, List.setIfInBounds_toArray, List.set_cons_zero, List.set_cons_succ]
          refine wpM_read (v := ?_) rfl (by rfl) ?_ ?_
          rotate_left
          · intro w' hS'
            try subst hS'
            go_simp
            try with_reducible rfl
          try simp only [Act.put, List.setIfInBounds_toArray, List.set_cons_zero, List.set_cons_succ]
          refine wpM_read (v := ?_) rfl (by rfl) ?_ ?_
          rotate_left
          · intro w' hS'
            try subst hS'
            go_simp
            try with_reducible rfl
          try simp only [Act.put, List.setIfInBounds_toArray, List.set_cons_zero, List.set_cons_succ]
          refine wpM_read (v := ?_) rfl (by rfl) ?_ ?_
          rotate_left
          · intro w' hS'
            try subst hS'
            go_simp
            try with_reducible rfl
          try simp only [Act.put, List.setIfInBounds_toArray, List.set_cons_zero, List.set_cons_succ]
          refine wpM_read (v := ?_) rfl (by rfl) ?_ ?_
          rotate_left
          · intro w' hS'
            try subst hS'
            go_simp
            try with_reducible rfl
          try simp only [Act.put, List.setIfInBounds_toArray, List.set_cons_zero, List.set_cons_succ]
          refine wpM_read (v := ?_) rfl (by rfl) ?_ ?_
          rotate_left
          · intro w' hS'
            try subst hS'
            go_simp
            try with_reducible rfl
          try simp only [Act.put, List.setIfInBounds_toArray, List.set_cons_zero, List.set_cons_succ]
          refine wpM_read (v := ?_) rfl (by rfl) ?_ ?_
          rotate_left
          · intro w' hS'
            try subst hS'
            go_simp
            try with_reducible rfl
          try simp only [Act.put, List.setIfInBounds_toArray, List.set_cons_zero, List.set_cons_succ]
          refine wpM_step rfl (fun KK hKK => ?_)
          go_simp
          go_at_call 15
          refine (set_any ak av hwf p b (n0 + pre.length) l3 _ hTd (by unfold maxLen; omega)).mono ?_
          rintro e w5 ⟨rfl, hT5, hg5⟩
          refine hKK.out _ _ (by first | exact .inl (by decide) | exact .inr trivial) ?_
          clear hKK KK
          try simp only [Act.put, List.setIfInBounds_toArray, List.set_cons_zero, List.set_cons_succ]
          refine wpM_done ?_
          have D5 := D3.drew.table hg5 ⟨_, hT5⟩ (Nat.le_refl _) hbl
          have cm5 := cell_of_block D5.bm 0
          have cn5 := cell_of_block D5.bn 0
          have fn5 := free_of_block D5.bn 0
          rw [← Hbn.out] at cn5 fn5
          simp at cm5 cn5
          obtain ⟨a5, ha5, f0, f1, f2⟩ := h.loadK D5.old hbmap hlt
          cases ha5
          rw [hq0] at f0
          have hk5 : Keep M (fun c => c = bk ∨ c = bv ∨ c = bn ∨ c = b) W w5 := (show Keep M (fun c => c = bk ∨ c = bv ∨ c = bn ∨ c = b) W wc.drew from ⟨hk3.size, hk3.block⟩).grown hg5 P3.hM (fun r e _ => by cases e; exact .inr (.inr (.inr rfl)))
          have P5 := P3.drew.over hg5 (by omega) (by omega) (by omega)
          have Dh := Lib.hid (And.intro D5 (And.intro P5 hk5))
          clear D5 P5 hk5 hg5 hT5 f1 f2 D3 P3 hk3 h
          gi_wp2
          exact Hfin.out _ _ _ _ Dh.out.2.2 Dh.out.2.1 Dh.out.1 (by omega)
        by_cases k2 : kd = 2
        · subst k2
          gi_wp2
          refine wpIn_region_M (.cut 6 (.read 0 (.read 1 (.read 2 (.read 3 (.read 4 (.read 5 (.step 6 .done)))))))) (by kernel_rfl) (by kernel_rfl) (fun _ d _ _ _ h => by cases d <;> exact h) ?_ ?_
          · rintro ⟨a, w, h⟩; exact h
          refine wpM_cut (fun w' => w' = wc.drew) (rfl) ?_
          refine wpM_read (v := ?_) rfl (by rfl) ?_ ?_
          rotate_left
          · intro w' hS'
            try subst hS'
            go_simp
            try with_reducible rfl
          try simp only [Act.put, List.setIfInBounds_toArray, List.set_cons_zero, List.set_cons_succ]
          refine wpM_read (v := ?_) rfl (by rfl) ?_ ?_
          rotate_left
          · intro w' hS'
            try subst hS'
            go_simp
            try with_reducible rfl
          try simp only [Act.put, List.setIfInBounds_toArray, List.set_cons_zero, List.set_cons_succ]
          refine wpM_read (v := ?_) rfl (by rfl) ?_ ?_
          rotate_left
          · intro w' hS'
            try subst hS'
            go_simp
            try with_reducible rfl
          try simp only [Act.put, List.setIfInBounds_toArray, List.set_cons_zero, List.set_cons_succ]
          refine wpM_read (v := ?_) rfl (by rfl) ?_ ?_
          rotate_left
          · intro w' hS'
            try subst hS'
            go_simp
            try with_reducible rfl
          try simp only [Act.put, List.setIfInBounds_toArray, List.set_cons_zero, List.set_cons_succ]
          refine wpM_read (v := ?_) rfl (by rfl) ?_ ?_
          rotate_left
          · intro w' hS'
            try subst hS'
            go_simp
            try with_reducible rfl
          try simp only [Act.put, List.setIfInBounds_toArray, List.set_cons_zero, List.set_cons_succ]
          refine wpM_read (v := ?_) rfl (by rfl) ?_ ?_
          rotate_left
          · intro w' hS'
            try subst hS'
            go_simp
            try with_reducible rfl
          try simp only [Act.put, List.setIfInBounds_toArray, List.set_cons_zero, List.set_cons_succ]
          refine wpM_step rfl (fun KK hKK => ?_)
          go_simp
          go_at_call 18
          refine (del_any ak hwf p b (n0 + pre.length) l3 _ hTd).mono ?_
          rintro e w5 ⟨rfl, hT5, hg5⟩
          refine hKK.out _ _ (by first | exact .inl (by decide) | exact .inr trivial) ?_
          clear hKK KK
          try simp only [Act.put, List.setIfInBounds_toArray, List.set_cons_zero, List.set_cons_succ]
          refine wpM_done ?_
          have D5 := D3.drew.table hg5 ⟨_, hT5⟩ (Nat.le_refl _) hbl
          have cm5 := cell_of_block D5.bm 0
          have cn5 := cell_of_block D5.bn 0
          have fn5 := free_of_block D5.bn 0
          rw [← Hbn.out] at cn5 fn5
          simp at cm5 cn5
          obtain ⟨a5, ha5, f0, f1, f2⟩ := h.loadK D5.old hbmap hlt
          cases ha5
          rw [hq0] at f0
          have hk5 : Keep M (fun c => c = bk ∨ c = bv ∨ c = bn ∨ c = b) W w5 := (show Keep M (fun c => c = bk ∨ c = bv ∨ c = bn ∨ c = b) W wc.drew from ⟨hk3.size, hk3.block⟩).grown hg5 P3.hM (fun r e _ => by cases e; exact .inr (.inr (.inr rfl)))
          have P5 := P3.drew.over hg5 (by omega) (by omega) (by omega)
          have Dh := Lib.hid (And.intro D5 (And.intro P5 hk5))
          clear D5 P5 hk5 hg5 hT5 f1 f2 D3 P3 hk3 h
          gi_wp2
          exact Hfin.out _ _ _ _ Dh.out.2.2 Dh.out.2.1 Dh.out.1 (by omega)
        · have j2 : (kd == 1) = false := by simpa using k1
          have j3 : (kd == 2) = false := by simpa using k2
          clear h hq0 hq1
          gi_wp2
          exact Hfin.out _ _ _ _ hk3 P3.self D3 (by omega)
      · have j1 : decide ((pre.length : Int) < (acts.length : Int)) = false := by simp; omega
        gi_wp2
        exact Hfin.out _ _ _ _ hk3 P3.self D3 (by omega)
  case done =>
    rintro D M W hD ⟨kb, vb, hP, hDu⟩ hK
    have e1 : (enl l).map (·.1) = l.map (·.1) := by simp [List.map_map, Function.comp_def]
    have e2 : ((enl l).map fun q => intOf q.2) = l.map (·.2) := by simp [List.map_map, Function.comp_def, intOf]
    rw [e1, e2] at hP
    have rk := RowAt.of_owns hP.rk
    have rv := RowAt.of_owns hP.rv
    have ok := row_old hkx hDu.old hbmap
    have ov := row_old hvx hDu.old hbmap
    have q1 := rows_any kb kx (l.map (·.1)) (l.map (·.1)) W rk (by simpa using ok)
    have q2 : ∀ m, Calls Try.prog 11 #[vb, vx] (W.drewN m) fun e w' => e = .returned (.bool true) ∧ ∃ m', w' = W.drewN m' := fun m => by
      have z1 := RowAt.drewN rv m
      have z2 := RowAt.drewN ov m
      refine (rows_any vb vx (l.map (·.2)) (l.map (·.2)) (W.drewN m) z1 (by simpa using z2)).mono ?_
      rintro e w' ⟨rfl, m1, rfl⟩
      exact ⟨by simp, m + m1, by simp⟩
    rw [decide_eq_true rfl] at q1
    have hck := hP.S.1
    have hcv := hP.S.2
    have cr := cell_of_block hDu.br 0
    have fr := free_of_block hDu.br 0
    simp at cr
    have f11 : Fence.wide.fn 11 := trivial
    have Hbr := Lib.hid hDu.br
    have Hold := Lib.hid hDu.old
    clear hP hDu rk rv ok ov e1 e2 h ht hkx hvx
    gi_wp2_with (first
      | (gi_at_call 11; refine (callsIn_wide.2 q1).mono ?_; rintro e w4 ⟨rfl, m4, rfl⟩; clear q1)
      | (gi_at_call 11; refine (callsIn_wide.2 (q2 _)).mono ?_; rintro e w5 ⟨rfl, m5, rfl⟩; clear q2))
    obtain ⟨z1, z2, z3⟩ := dur_fin (m := m5) Hold.out Hbr.out hK (by omega)
    refine ⟨by simp, .inl ⟨_, _, rfl, run_takeDeferred z1, ?_⟩⟩
    refine ⟨.bool true, ?_, rfl, z3⟩
    simp [results, Try.f8, go_sem, z2]
  case stop =>
    rintro D c pre W hD hpre h hK
    exact h.elim
end Go.Proofs.Ytjahfjfanaocpaa
