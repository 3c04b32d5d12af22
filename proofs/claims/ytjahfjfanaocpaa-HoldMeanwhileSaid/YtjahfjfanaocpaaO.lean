/- act: one act in both tables -/
import Derived.Test.YtjahfjfanaocpaaN
import Derived.Test.YtjahfjfanaocpaaT
namespace Go.Proofs.Ytjahfjfanaocpaa
open Go.RowKit Plain Go.Maps Go.Sort Go.Shelf

abbrev actV (kd k v : Int) : Value := .agg #[.int .i64 kd, .int .i64 k, .int .i64 v]

theorem Both.below {w w' : World} {p b x n : Nat} {l : List (Int × Int)} (h : Both w p b x n l) (hB : Below w.heap.size w w') : Both w' p b x n l := by
  refine ⟨h.tab.below hB, ?_⟩
  obtain ⟨kv, vv, h1, h2, h3, h4⟩ := h.ref
  exact ⟨kv, vv, (hB.block x (Array.getElem?_eq_some_iff.1 h1).1).trans h1, h2.below hB (Nat.le_refl _), h3.below hB (Nat.le_refl _), h4⟩
theorem Both.set {w w1 w2 : World} {p b x n m : Nat} {l : List (Int × Int)} (h : Both w p b x n l) {l2 : List (Int × Int)} (h1 : TableAt w1 p b m (enl l2)) (g1 : w.grownBy w1 (some b)) (h2 : RefAt w2 x (l2.map (·.1)) (l2.map (·.2))) (k2 : Kept (fun c => c = x) w1 w2) :
    Both w2 p b x m l2 ∧ Kept (fun c => c = b ∨ c = x) w w2 := by
  have hr := ref_own h.ref (own_map h.tab.map) g1
  refine ⟨⟨tab_ref h1 hr k2, h2⟩, ?_⟩
  refine Kept.trans (Kept.mono (Kept.of_grownBy g1) (fun c _ hc => .inl (by cases hc; rfl))) (Kept.mono k2 (fun c _ hc => .inr hc))

theorem ins_len2 (k : Int) (v : Int) (l : List (Int × Int)) (s : Srt l) : (ins k v l).length ≤ l.length + 1 := ins_len k v l s

/-- the act in its box -/
theorem box_cells {w w2 : World} {b : Nat} {kd k v : Int} (hb : b < w.heap.size) (hg : (w.alloc (.cells #[.int .i64 kd, .int .i64 k, .int .i64 v] 31)).grownBy w2 (some b)) :
    w2.cell? ⟨w.heap.size, 0, none⟩ = some (.int .i64 kd) ∧ w2.cell? ⟨w.heap.size, 1, none⟩ = some (.int .i64 k) ∧ w2.cell? ⟨w.heap.size, 2, none⟩ = some (.int .i64 v) := by
  have h := (hg.block w.heap.size (by simp) (fun e => by cases e; omega)).trans (World.alloc_heap_new w (.cells #[.int .i64 kd, .int .i64 k, .int .i64 v] 31))
  have h0 := cell_of_block h 0
  have h1 := cell_of_block h 1
  have h2 := cell_of_block h 2
  exact ⟨by simpa using h0, by simpa using h1, by simpa using h2⟩

/-- what an act does -/
def step (kd k v : Int) (l : List (Int × Int)) : List (Int × Int) := if kd = 1 then ins k v l else if kd = 2 then rem k l else l

theorem kept_below {R : Nat → Prop} {w w1 w2 : World} (hB : Below w.heap.size w w1) (h : Kept R w1 w2) : Kept R w w2 := Kept.trans (Kept.of_below hB) h

set_option maxHeartbeats 1000000 in
theorem act_set (k v : Int) (hk : (Lit.int .i64 k).wf = true) (p b x n : Nat) (l : List (Int × Int)) (w : World) (h : Both w p b x n l) (hn : n < 100000000) :
    Calls Try.prog 7 #[.pointer (some ⟨p, 0, none⟩), .pointer (some ⟨x, 0, none⟩), actV 1 k v] w fun e w' => e = .returned (.bool true) ∧ Both w' p b x (n + 1) (ins k v l) ∧ Kept (fun c => c = b ∨ c = x) w w' := by
  have hB : Below w.heap.size w (w.alloc (.cells #[.int .i64 1, .int .i64 k, .int .i64 v] 31)) := (Below.refl _ _).alloc (Nat.le_refl _) _
  have hb1 := h.below hB
  have hs := set_any k v hk p b n (enl l) _ hb1.tab (by unfold maxLen; omega)
  have hsrt := srt_enl.1 h.tab.srt
  have hsb := set_both k v l hsrt
  have hle : l.length ≤ n := by have := h.tab.len; simpa using this
  have hbl := h.tab.map.lt
  have hbx := @box_cells w
  have hr := fun w2 (g : (w.alloc (.cells #[.int .i64 1, .int .i64 k, .int .i64 v] 31)).grownBy w2 (some b)) => set_ref x (l.map (·.1)) (l.map (·.2)) k v w2 (ref_own hb1.ref (own_map hb1.tab.map) g) (by simp; omega)
  clear h
  have Hsb := Lib.hid hsb
  clear hsb
  go_enter Try.func7, Try.ntmps7
  go_wp2_with (first
    | (go_at_call 15; refine hs.mono ?_; rintro e w2 ⟨rfl, hT2, hg2⟩; obtain ⟨c0, c1, c2⟩ := hbx hbl hg2; clear hbx)
    | (go_at_call 19; refine (hr _ hg2).mono ?_; rintro e w3 ⟨rfl, hR3, hk3⟩))
  go_ret
  rw [ins_enl] at hT2
  rw [Hsb.out.1, Hsb.out.2] at hR3
  obtain ⟨r1, r2⟩ := hb1.set hT2 hg2 hR3 hk3
  exact ⟨rfl, r1, kept_below hB r2⟩

set_option maxHeartbeats 1000000 in
theorem act_del (k v : Int) (hk : (Lit.int .i64 k).wf = true) (p b x n : Nat) (l : List (Int × Int)) (w : World) (h : Both w p b x n l) (hn : n < 100000000) :
    Calls Try.prog 7 #[.pointer (some ⟨p, 0, none⟩), .pointer (some ⟨x, 0, none⟩), actV 2 k v] w fun e w' => e = .returned (.bool true) ∧ Both w' p b x n (rem k l) ∧ Kept (fun c => c = b ∨ c = x) w w' := by
  have hB : Below w.heap.size w (w.alloc (.cells #[.int .i64 2, .int .i64 k, .int .i64 v] 31)).drew := ((Below.refl _ _).alloc (Nat.le_refl _) _).drew
  have hb1 := h.below hB
  have hs := del_any k hk p b n (enl l) _ hb1.tab
  have hsrt := srt_enl.1 h.tab.srt
  have hsb := del_both k l hsrt
  have hfb := (found_both k l hsrt).1
  have hge : (get? k (enl l)).isSome = (get? k l).isSome := by rw [get_enl, Option.isSome_map]
  have hle : l.length ≤ n := by have := h.tab.len; simpa using this
  have hbl := h.tab.map.lt
  have hbx := @box_cells w
  have hr := fun w2 (g : (w.alloc (.cells #[.int .i64 2, .int .i64 k, .int .i64 v] 31)).drew.grownBy w2 (some b)) => del_ref x (l.map (·.1)) (l.map (·.2)) k w2 (ref_own hb1.ref (own_map hb1.tab.map) g) (by simp; omega)
  rw [hge] at hs
  rw [hfb] at hr
  clear h hge hfb
  have Hsb := Lib.hid hsb
  clear hsb
  generalize (get? k l).isSome = bb at hs hr
  have hself : (bb == bb) = true := by simp
  have c1 : (w.alloc (.cells #[.int .i64 2, .int .i64 k, .int .i64 v] 31)).drew.cell? ⟨w.heap.size, 1, none⟩ = some (.int .i64 k) := (hbx (v := v) hbl ⟨rfl, rfl, rfl, Nat.le_refl _, fun _ _ _ => rfl⟩).2.1
  have c0 : (w.alloc (.cells #[.int .i64 2, .int .i64 k, .int .i64 v] 31)).drew.cell? ⟨w.heap.size, 0, none⟩ = some (.int .i64 2) := (hbx (v := v) hbl ⟨rfl, rfl, rfl, Nat.le_refl _, fun _ _ _ => rfl⟩).1
  clear hbx
  go_enter Try.func7, Try.ntmps7
  go_wp2
  refine wp_region_M (.cut 7 (.read 0 (.read 1 (.read 2 (.read 4 (.read 5 (.read 6 (.step 3 (.cut 8 (.step 7 (.cut 9 (.read 8 (.step 9 .done))))))))))))) (by kernel_rfl) (by kernel_rfl) (fun _ d _ _ _ h => by cases d <;> exact h) ?_
  refine wpM_cut (fun w' => w'.cell? ⟨w.heap.size, 0, none⟩ = some (.int .i64 2) ∧ w'.cell? ⟨w.heap.size, 1, none⟩ = some (.int .i64 k)) (⟨c0, c1⟩) ?_
  refine wpM_read (v := ?_) rfl (by rfl) ?_ ?_
  rotate_left
  · intro w' hS'
    try obtain ⟨hS1, hS2⟩ := hS'
    go_simp
    try with_reducible rfl
  try simp only [Act.put, List.setIfInBounds_toArray, List.set_cons_zero, List.set_cons_succ]
  refine wpM_read (v := ?_) rfl (by rfl) ?_ ?_
  rotate_left
  · intro w' hS'
    try obtain ⟨hS1, hS2⟩ := hS'
    go_simp
    try with_reducible rfl
  try simp only [Act.put, List.setIfInBounds_toArray, List.set_cons_zero, List.set_cons_succ]
  refine wpM_read (v := ?_) rfl (by rfl) ?_ ?_
  rotate_left
  · intro w' hS'
    try obtain ⟨hS1, hS2⟩ := hS'
    go_simp
    try with_reducible rfl
  try simp only [Act.put, List.setIfInBounds_toArray, List.set_cons_zero, List.set_cons_succ]
  refine wpM_read (v := ?_) rfl (by rfl) ?_ ?_
  rotate_left
  · intro w' hS'
    try obtain ⟨hS1, hS2⟩ := hS'
    go_simp
    try with_reducible rfl
  try simp only [Act.put, List.setIfInBounds_toArray, List.set_cons_zero, List.set_cons_succ]
  refine wpM_read (v := ?_) rfl (by rfl) ?_ ?_
  rotate_left
  · intro w' hS'
    try obtain ⟨hS1, hS2⟩ := hS'
    go_simp
    try with_reducible rfl
  try simp only [Act.put, List.setIfInBounds_toArray, List.set_cons_zero, List.set_cons_succ]
  refine wpM_read (v := ?_) rfl (by rfl) ?_ ?_
  rotate_left
  · intro w' hS'
    try obtain ⟨hS1, hS2⟩ := hS'
    go_simp
    try with_reducible rfl
  try simp only [Act.put, List.setIfInBounds_toArray, List.set_cons_zero, List.set_cons_succ]
  refine wpM_step rfl (fun KK hKK => ?_)
  go_simp
  go_at_call 18
  refine (hs).mono ?_
  rintro e w2 ⟨rfl, hT2, hg2⟩
  have hc2 := @box_cells w w2 b 2 k v hbl ⟨hg2.os, hg2.tape, hg2.output, hg2.size, hg2.block⟩
  refine hKK.out _ _ (.inr ⟨hc2.1, hc2.2.1⟩) ?_
  clear hKK KK
  try simp only [Act.put, List.setIfInBounds_toArray, List.set_cons_zero, List.set_cons_succ]
  refine wpM_cut (fun _ => True) (trivial) ?_
  refine wpM_step rfl (fun KK hKK => ?_)
  go_simp
  go_at_call 20
  refine (hr _ hg2).mono ?_
  rintro e w3 ⟨rfl, hR3, hk3⟩
  refine hKK.out _ _ (by first | exact .inl (by decide) | exact .inr trivial) ?_
  clear hKK KK
  try simp only [Act.put, List.setIfInBounds_toArray, List.set_cons_zero, List.set_cons_succ]
  refine wpM_cut (fun _ => True) (trivial) ?_
  refine wpM_read (v := ?_) rfl (by rfl) ?_ ?_
  rotate_left
  · intro w' hS'
    try obtain ⟨hS1, hS2⟩ := hS'
    go_simp
    try with_reducible rfl
  try simp only [Act.put, List.setIfInBounds_toArray, List.set_cons_zero, List.set_cons_succ]
  refine wpM_still (v := ?_) rfl (by rfl) (by first | exact .inl (by decide) | exact .inr trivial) ?_ ?_
  rotate_left
  · go_simp
    try with_reducible rfl
  try simp only [Act.put, List.setIfInBounds_toArray, List.set_cons_zero, List.set_cons_succ]
  refine wpM_done ?_
  go_wp2
  go_ret
  rw [rem_enl] at hT2
  rw [Hsb.out.1, Hsb.out.2] at hR3
  obtain ⟨r1, r2⟩ := hb1.set hT2 hg2 hR3 hk3
  exact ⟨rfl, r1, kept_below hB r2⟩

set_option maxHeartbeats 1000000 in
theorem act_get (k v : Int) (hk : (Lit.int .i64 k).wf = true) (p b x n : Nat) (l : List (Int × Int)) (w : World) (h : Both w p b x n l) :
    Calls Try.prog 7 #[.pointer (some ⟨p, 0, none⟩), .pointer (some ⟨x, 0, none⟩), actV 3 k v] w fun e w' => e = .returned (.bool true) ∧ Both w' p b x n l ∧ Kept (fun c => c = b ∨ c = x) w w' := by
  have hB : Below w.heap.size w (w.alloc (.cells #[.int .i64 3, .int .i64 k, .int .i64 v] 31)) := (Below.refl _ _).alloc (Nat.le_refl _) _
  have hb1 := h.below hB
  have hs := get_any k hk p b n (enl l) _ hb1.tab
  have hsrt := srt_enl.1 h.tab.srt
  have hfb := found_both k l hsrt
  have hge : (get? k (enl l)).isSome = (get? k l).isSome ∧ (get? k (enl l)).getD (.int .i64 0) = .int .i64 ((get? k l).getD 0) := by rw [get_enl, Option.isSome_map]; cases get? k l <;> exact ⟨rfl, rfl⟩
  have hr := refGet_any x (l.map (·.1)) (l.map (·.2)) k _ hb1.ref
  rw [hfb.2, hfb.1] at hr
  rw [hge.1, hge.2] at hs
  clear h hge hfb
  generalize (get? k l).isSome = bb at hs hr
  generalize (get? k l).getD 0 = gg at hs hr
  have hs1 : (gg == gg) = true := by simp
  have hs2 : (bb == bb) = true := by simp
  go_enter Try.func7, Try.ntmps7
  go_wp2_with (first
    | (go_at_call 16; refine hs.mono ?_; rintro e w2 ⟨rfl, rfl⟩)
    | (go_at_call 21; refine hr.mono ?_; rintro e w3 ⟨rfl, m, rfl⟩))
  go_ret
  have hBm := bel_drewN w.heap.size (w.alloc (.cells #[.int .i64 3, .int .i64 k, .int .i64 v] 31)) m
  have hB2 := hB.trans hBm
  exact ⟨rfl, hb1.below (bel_drewN _ _ _), Kept.of_below hB2⟩

theorem rows_drop (w : World) (kv : Value) (L : List Int) (i kb ko n cap : Nat) (h1 : RowAt w 3 kv (L.drop i).length (zI (L.drop i))) (h2 : RowAt w 3 (.slice (some ⟨kb, ko, none⟩) n cap) n (zI L)) (hn : L.length = n) (h0 : 0 < n) (hi : i ≤ n)
    (m : Nat) (ad : Option Addr) (cc : Nat) (hc : (cap = i ∧ ad = some ⟨kb, ko, none⟩ ∧ cc = 0) ∨ (cap ≠ i ∧ ad = some ⟨kb, ko + i, none⟩ ∧ cc = cap - i)) :
    Calls Try.prog 11 #[kv, .slice ad (n - i) cc] (w.drewN m) fun e w' => e = .returned (.bool true) ∧ ∃ m, w' = w.drewN m := by
  have h3 := h2.drop1 h0 (by simp; exact hn) i hi
  have e1 : (zI L).drop i = zI (L.drop i) := by simp [List.map_drop]
  have e2 : n - i = (L.drop i).length := by simp [hn]
  rw [e1] at h3
  rw [e2] at h3 ⊢
  have ha : (if cap = i then some ⟨kb, ko, none⟩ else some ⟨kb, ko + i, none⟩ : Option Addr) = ad ∧ cap - i = cc := by
    rcases hc with ⟨c1, c2, c3⟩ | ⟨c1, c2, c3⟩
    · rw [if_pos c1]; exact ⟨c2.symm, by omega⟩
    · rw [if_neg c1]; exact ⟨c2.symm, c3.symm⟩
  rw [ha.1, ha.2] at h3
  have h1' : RowAt (w.drewN m) 3 kv (L.drop i).length (zI (L.drop i)) := h1
  have h3' : RowAt (w.drewN m) 3 (.slice ad (L.drop i).length cc) (L.drop i).length (zI (L.drop i)) := h3
  refine (rows_any kv _ (L.drop i) (L.drop i) (w.drewN m) h1' h3').mono ?_
  rintro e w' ⟨rfl, m1, rfl⟩
  exact ⟨by simp, m + m1, by simp⟩

theorem RowAt.drewN {w : World} {e : TypeId} {v : Value} {n : Nat} {xs : List Value} (h : RowAt w e v n xs) (m : Nat) : RowAt (w.drewN m) e v n xs := h

set_option maxHeartbeats 2000000 in
theorem act_from (kd k v : Int) (h1 : kd ≠ 1) (h2 : kd ≠ 2) (h3 : kd ≠ 3) (p b x n : Nat) (l : List (Int × Int)) (w : World) (h : Both w p b x n l) (h0 : 0 < l.length) (hn : n < 1000) :
    Calls Try.prog 7 #[.pointer (some ⟨p, 0, none⟩), .pointer (some ⟨x, 0, none⟩), actV kd k v] w fun e w' => e = .returned (.bool true) ∧ Both w' p b x n l ∧ Kept (fun c => c = b ∨ c = x) w w' := by
  have hB : Below w.heap.size w (w.alloc (.cells #[.int .i64 kd, .int .i64 k, .int .i64 v] 31)) := (Below.refl _ _).alloc (Nat.le_refl _) _
  have hb1 := h.below hB
  have hsrt := srt_enl.1 h.tab.srt
  have hle : l.length ≤ n := by have := h.tab.len; simpa using this
  have ht := toldFrom_any _ p b n k l 1000 (by omega) (by decide) (by omega) hb1.tab
  rw [from_both k l hsrt] at ht
  have hbc : ∀ w3, Below (w.alloc (.cells #[.int .i64 kd, .int .i64 k, .int .i64 v] 31)).heap.size (w.alloc (.cells #[.int .i64 kd, .int .i64 k, .int .i64 v] 31)) w3 → w3.cell? ⟨w.heap.size, 1, none⟩ = some (.int .i64 k) := fun w3 hB3 => by
    have h := (hB3.block w.heap.size (by simp)).trans (World.alloc_heap_new w (.cells #[.int .i64 kd, .int .i64 k, .int .i64 v] 31))
    have h1 := cell_of_block h 1
    simpa using h1
  have hpl := pos_le (l.map (·.1)) k
  rw [List.length_map] at hpl
  have hrf := fun w3 (hB3 : Below (w.alloc (.cells #[.int .i64 kd, .int .i64 k, .int .i64 v] 31)).heap.size (w.alloc (.cells #[.int .i64 kd, .int .i64 k, .int .i64 v] 31)) w3) => refFrom_any x (l.map (·.1)) (l.map (·.2)) k w3 (hb1.below hB3).ref
  have hrr := fun w3 (hB3 : Below (w.alloc (.cells #[.int .i64 kd, .int .i64 k, .int .i64 v] 31)).heap.size (w.alloc (.cells #[.int .i64 kd, .int .i64 k, .int .i64 v] 31)) w3) => (hb1.below hB3).ref
  have hfin : ∀ w3, Below (w.alloc (.cells #[.int .i64 kd, .int .i64 k, .int .i64 v] 31)).heap.size (w.alloc (.cells #[.int .i64 kd, .int .i64 k, .int .i64 v] 31)) w3 → ∀ m, Both (w3.drewN m) p b x n l ∧ Kept (fun c => c = b ∨ c = x) w (w3.drewN m) := fun w3 hB3 m => by
    have hB4 := hB3.trans ((bel_drewN w3.heap.size w3 m).mono hB3.size)
    exact ⟨hb1.below hB4, Kept.of_below (hB.trans (hB4.mono (by simp)))⟩
  have d1 : (kd == 1) = false := by simpa using h1
  have d2 : (kd == 2) = false := by simpa using h2
  have d3 : (kd == 3) = false := by simpa using h3
  clear h1 h2 h3 h hb1 hB
  generalize hi : pos (l.map (·.1)) k = i at ht hpl hrf
  clear hi
  generalize hln : l.length = n0 at *
  have Hln := Lib.hid hln
  clear hln
  have hi0 : (0 : Int) ≤ (i : Int) := by omega
  have hi1 : (i : Int) ≤ (n0 : Int) := by omega
  simp only [World.size_alloc] at ht hbc hrf hrr hfin
  go_enter Try.func7, Try.ntmps7
  go_wp2_with (first
    | (go_at_call 17; refine (from_any _ _ _).mono ?_; rintro e w2 ⟨rfl, rfl⟩)
    | (go_at_call 13; refine ht.mono ?_; rintro e w3 ⟨kv, vv, rfl, hr1, hr2, hB3⟩; have c1 := hbc w3 hB3; have hrw := hrf w3 hB3; obtain ⟨kx, vx, e1, e2, e3, e4⟩ := hrr w3 hB3; rw [List.length_map] at e2 e3; rw [Hln.out] at e2 e3; obtain ⟨kb, ko, kcap, rfl, kc, km, kk⟩ := e2.cell h0; obtain ⟨vb, vo, vcap, rfl, vc, vm, vk⟩ := e3.cell h0; clear kk vk; have cx0 := cell_of_block e1 0; have cx1 := cell_of_block e1 1; simp at cx0 cx1; have hi4 : (i : Int) ≤ (kcap : Int) := (by omega); have hi5 : (i : Int) ≤ (vcap : Int) := (by omega); have q1 := rows_drop w3 kv (l.map (·.1)) i kb ko n0 kcap (by simpa using hr1) e2 (by simpa using Hln.out) h0 (by omega); have q2 := rows_drop w3 vv (l.map (·.2)) i vb vo n0 vcap (by simpa using hr2) e3 (by simpa using Hln.out) h0 (by omega); have hf := hfin w3 hB3; clear hbc hrf hrr hfin ht e1 e2 e3 e4 hr1 hr2 hB3 kc km vc vm)
    | (go_at_call 22; refine hrw.mono ?_; rintro e w4 ⟨rfl, m, rfl⟩))
  · refine (q1 m _ _ (.inl ⟨by omega, rfl, rfl⟩)).mono ?_
    rintro e w5 ⟨rfl, m1, rfl⟩
    clear q1
    go_wp2_with fail
    · refine (q2 m1 _ _ (.inl ⟨by omega, rfl, rfl⟩)).mono ?_
      rintro e w6 ⟨rfl, m2, rfl⟩
      clear q2
      go_wp2
      go_ret
      exact ⟨rfl, hf _⟩
    · refine (q2 m1 _ _ (.inr ⟨by omega, rfl, rfl⟩)).mono ?_
      rintro e w6 ⟨rfl, m2, rfl⟩
      clear q2
      go_wp2
      go_ret
      exact ⟨rfl, hf _⟩
  · refine (q1 m _ _ (.inr ⟨by omega, rfl, rfl⟩)).mono ?_
    rintro e w5 ⟨rfl, m1, rfl⟩
    clear q1
    go_wp2_with fail
    · refine (q2 m1 _ _ (.inl ⟨by omega, rfl, rfl⟩)).mono ?_
      rintro e w6 ⟨rfl, m2, rfl⟩
      clear q2
      go_wp2
      go_ret
      exact ⟨rfl, hf _⟩
    · refine (q2 m1 _ _ (.inr ⟨by omega, rfl, rfl⟩)).mono ?_
      rintro e w6 ⟨rfl, m2, rfl⟩
      clear q2
      go_wp2
      go_ret
      exact ⟨rfl, hf _⟩

theorem rows_empty (w : World) (kv : Value) (h1 : RowAt w 3 kv 0 []) (m : Nat) (ad : Option Addr) (cc : Nat) (hc : cc ≤ maxLen) (hn : ad = none → cc = 0) :
    Calls Try.prog 11 #[kv, .slice ad 0 cc] (w.drewN m) fun e w' => e = .returned (.bool true) ∧ ∃ m, w' = w.drewN m := by
  have h1' : RowAt (w.drewN m) 3 kv 0 [] := h1
  have h3' : RowAt (w.drewN m) 3 (.slice ad 0 cc) 0 [] := .inl ⟨rfl, rfl, ad, cc, rfl, hc, hn⟩
  refine (rows_any kv _ [] [] (w.drewN m) h1' h3').mono ?_
  rintro e w' ⟨rfl, m1, rfl⟩
  exact ⟨by simp, m + m1, by simp⟩

theorem row_empty {w : World} {v : Value} (h : RowAt w 3 v 0 []) : (v = .slice none 0 0) ∨ ∃ ad cap, v = .slice (some ad) 0 cap ∧ cap ≤ maxLen := by
  rcases h with ⟨_, _, a, cap, rfl, h1, h2⟩ | ⟨b, off, cap, cur, fr, rfl, h1, h2, _⟩
  · cases a with
    | none => rw [h2 rfl]; exact .inl rfl
    | some ad => exact .inr ⟨ad, cap, rfl, h1⟩
  · exact .inr ⟨_, cap, rfl, h2⟩

set_option maxHeartbeats 2000000 in
theorem act_from0 (kd k v : Int) (h1 : kd ≠ 1) (h2 : kd ≠ 2) (h3 : kd ≠ 3) (p b x n : Nat) (w : World) (h : Both w p b x n []) :
    Calls Try.prog 7 #[.pointer (some ⟨p, 0, none⟩), .pointer (some ⟨x, 0, none⟩), actV kd k v] w fun e w' => e = .returned (.bool true) ∧ Both w' p b x n [] ∧ Kept (fun c => c = b ∨ c = x) w w' := by
  have hB : Below w.heap.size w (w.alloc (.cells #[.int .i64 kd, .int .i64 k, .int .i64 v] 31)) := (Below.refl _ _).alloc (Nat.le_refl _) _
  have hb1 := h.below hB
  have ht := toldFrom_any _ p b n k [] 1000 (by decide) (by decide) (by decide) hb1.tab
  simp only [List.filter_nil, List.map_nil, List.length_nil] at ht
  have hbc : ∀ w3, Below (w.alloc (.cells #[.int .i64 kd, .int .i64 k, .int .i64 v] 31)).heap.size (w.alloc (.cells #[.int .i64 kd, .int .i64 k, .int .i64 v] 31)) w3 → w3.cell? ⟨w.heap.size, 1, none⟩ = some (.int .i64 k) := fun w3 hB3 => by
    have h := (hB3.block w.heap.size (by simp)).trans (World.alloc_heap_new w (.cells #[.int .i64 kd, .int .i64 k, .int .i64 v] 31))
    have h1 := cell_of_block h 1
    simpa using h1
  have hrf := fun w3 (hB3 : Below (w.alloc (.cells #[.int .i64 kd, .int .i64 k, .int .i64 v] 31)).heap.size (w.alloc (.cells #[.int .i64 kd, .int .i64 k, .int .i64 v] 31)) w3) => refFrom_any x [] [] k w3 (hb1.below hB3).ref
  have hrr := fun w3 (hB3 : Below (w.alloc (.cells #[.int .i64 kd, .int .i64 k, .int .i64 v] 31)).heap.size (w.alloc (.cells #[.int .i64 kd, .int .i64 k, .int .i64 v] 31)) w3) => (hb1.below hB3).ref
  have hfin : ∀ w3, Below (w.alloc (.cells #[.int .i64 kd, .int .i64 k, .int .i64 v] 31)).heap.size (w.alloc (.cells #[.int .i64 kd, .int .i64 k, .int .i64 v] 31)) w3 → ∀ m, Both (w3.drewN m) p b x n [] ∧ Kept (fun c => c = b ∨ c = x) w (w3.drewN m) := fun w3 hB3 m => by
    have hB4 := hB3.trans ((bel_drewN w3.heap.size w3 m).mono hB3.size)
    exact ⟨hb1.below hB4, Kept.of_below (hB.trans (hB4.mono (by simp)))⟩
  have d1 : (kd == 1) = false := by simpa using h1
  have d2 : (kd == 2) = false := by simpa using h2
  have d3 : (kd == 3) = false := by simpa using h3
  clear h1 h2 h3 h hb1 hB
  have hp0 : pos [] k = 0 := rfl
  simp only [hp0] at hrf
  clear hp0
  simp only [World.size_alloc] at ht hbc hrf hrr hfin
  go_enter Try.func7, Try.ntmps7
  go_wp2_with (first
    | (go_at_call 17; refine (from_any _ _ _).mono ?_; rintro e w2 ⟨rfl, rfl⟩)
    | (go_at_call 13; refine ht.mono ?_; rintro e w3 ⟨kv, vv, rfl, hr1, hr2, hB3⟩; have c1 := hbc w3 hB3; have hrw := hrf w3 hB3; obtain ⟨kx, vx, e1, e2, e3, e4⟩ := hrr w3 hB3; have q1 := rows_empty w3 kv hr1; have q2 := rows_empty w3 vv hr2; have cx0 := cell_of_block e1 0; have cx1 := cell_of_block e1 1; simp at cx0 cx1; have s1 := row_empty e2; have s2 := row_empty e3; have hf := hfin w3 hB3; clear hbc hrf hrr hfin ht e1 e2 e3 e4 hr1 hr2 hB3)
    | (go_at_call 22; refine hrw.mono ?_; rintro e w4 ⟨rfl, m, rfl⟩; rcases s1 with rfl | ⟨ad, cap, rfl, hcap⟩ <;> rcases s2 with rfl | ⟨ad2, cap2, rfl, hcap2⟩))
  all_goals
    refine (q1 m _ _ (by first | assumption | decide) (fun h => by first | rfl | cases h)).mono ?_
    rintro e w5 ⟨rfl, m1, rfl⟩
    clear q1
    go_wp2_with fail
    refine (q2 m1 _ _ (by first | assumption | decide) (fun h => by first | rfl | cases h)).mono ?_
    rintro e w6 ⟨rfl, m2, rfl⟩
    clear q2
    go_wp2
    go_ret
    exact ⟨rfl, hf _⟩

theorem Both.mono {w : World} {p b x n n' : Nat} {l : List (Int × Int)} (h : Both w p b x n l) (hn : n ≤ n') : Both w p b x n' l :=
  ⟨⟨h.tab.cell, h.tab.map.mono hn, h.tab.srt, Nat.le_trans h.tab.len hn, h.tab.wf⟩, h.ref⟩

theorem act_any (kd k v : Int) (hk : (Lit.int .i64 k).wf = true) (p b x n : Nat) (l : List (Int × Int)) (w : World) (h : Both w p b x n l) (hn : n < 1000) :
    Calls Try.prog 7 #[.pointer (some ⟨p, 0, none⟩), .pointer (some ⟨x, 0, none⟩), actV kd k v] w fun e w' => e = .returned (.bool true) ∧ Both w' p b x (n + 1) (step kd k v l) ∧ Kept (fun c => c = b ∨ c = x) w w' := by
  unfold step
  by_cases h1 : kd = 1
  · subst h1
    simp only [if_true]
    exact act_set k v hk p b x n l w h (by omega)
  · by_cases h2 : kd = 2
    · subst h2
      rw [if_neg (by decide), if_pos rfl]
      exact (act_del k v hk p b x n l w h (by omega)).mono fun e w' ⟨a, b, c⟩ => ⟨a, b.mono (by omega), c⟩
    · rw [if_neg h1, if_neg h2]
      by_cases h3 : kd = 3
      · subst h3
        exact (act_get k v hk p b x n l w h).mono fun e w' ⟨a, b, c⟩ => ⟨a, b.mono (by omega), c⟩
      · by_cases h0 : 0 < l.length
        · exact (act_from kd k v h1 h2 h3 p b x n l w h h0 hn).mono fun e w' ⟨a, b, c⟩ => ⟨a, b.mono (by omega), c⟩
        · obtain rfl : l = [] := List.length_eq_zero_iff.1 (by omega)
          exact (act_from0 kd k v h1 h2 h3 p b x n w h).mono fun e w' ⟨a, b, c⟩ => ⟨a, b.mono (by omega), c⟩
end Go.Proofs.Ytjahfjfanaocpaa
