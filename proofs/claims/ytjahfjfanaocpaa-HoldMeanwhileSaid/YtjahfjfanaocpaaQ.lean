/- HoldPlays: the walk -/
import Derived.Test.YtjahfjfanaocpaaO
import Derived.Laws.Cells
import Derived.Deep.Slices
namespace Go.Proofs.Ytjahfjfanaocpaa
open Go.RowKit Plain Go.Maps Go.Sort Go.Shelf

/-- a script -/
abbrev Script := List (Int × Int × Int)

/-- a slice value of len acts, whose cells are what the script says -/
structure ActsAt (w : World) (ad : Option Addr) (acts : Script) : Prop where
  addr : acts ≠ [] → ∃ a, ad = some a ∧ a.block < w.heap.size ∧ ∀ i (h : i < acts.length), w.cell? (a.add (i * 3)) = some (.int .i64 acts[i].1) ∧ w.cell? (a.add (i * 3 + 1)) = some (.int .i64 acts[i].2.1) ∧ w.cell? (a.add (i * 3 + 2)) = some (.int .i64 acts[i].2.2)
  wf : ∀ q ∈ acts, (Lit.int .i64 q.2.1).wf = true

theorem add_block (a : Addr) (j : Nat) : (a.add j).block = a.block := by
  unfold Addr.add
  split <;> rfl

theorem ActsAt.load {w W : World} {ad : Option Addr} {acts : Script} (h : ActsAt w ad acts) (hB : Below w.heap.size w W) {i : Nat} (hi : i < acts.length) :
    ∃ a, ad = some a ∧ W.cell? (a.add (i * 3)) = some (.int .i64 acts[i].1) ∧ W.cell? ⟨(a.add (i * 3)).block, (a.add (i * 3)).off + 1, none⟩ = some (.int .i64 acts[i].2.1) ∧ W.cell? ⟨(a.add (i * 3)).block, (a.add (i * 3)).off + 2, none⟩ = some (.int .i64 acts[i].2.2) := by
  obtain ⟨a, rfl, hb, hc⟩ := h.addr (by rintro rfl; simp at hi)
  obtain ⟨h0, h1, h2⟩ := hc i hi
  have cc : ∀ j, W.cell? (a.add j) = w.cell? (a.add j) := fun j => hB.cell (by rw [add_block]; exact hb)
  have e1 : (⟨(a.add (i * 3)).block, (a.add (i * 3)).off + 1, none⟩ : Addr) = a.add (i * 3 + 1) := by rw [← Deep.add_add]; simp [Addr.add]
  have e2 : (⟨(a.add (i * 3)).block, (a.add (i * 3)).off + 2, none⟩ : Addr) = a.add (i * 3 + 2) := by rw [← Deep.add_add]; simp [Addr.add]
  exact ⟨a, rfl, (cc _).trans h0, by rw [e1]; exact (cc _).trans h1, by rw [e2]; exact (cc _).trans h2⟩

theorem tail_rows {wr : World} {x n : Nat} {l : List (Int × Int)} {ka va : Option Addr} {kc vc : Nat} (hxl : x < wr.heap.size) (e2 : RowAt wr 3 (.slice ka n kc) n (zI (l.map (·.1)))) (e3 : RowAt wr 3 (.slice va n vc) n (zI (l.map (·.2)))) (hn : n = l.length)
    (cx0 : wr.cell? ⟨x, 0, none⟩ = some (.slice ka n kc)) (cx1 : wr.cell? ⟨x, 1, none⟩ = some (.slice va n vc)) :
    ∀ (w3 : World) (kv vv : Value), RowAt w3 3 kv l.length (zI (l.map (·.1))) → RowAt w3 3 vv l.length (zI (l.map (·.2))) → Below wr.heap.size wr w3 →
      w3.cell? ⟨x, 0, none⟩ = some (.slice ka n kc) ∧ w3.cell? ⟨x, 1, none⟩ = some (.slice va n vc) ∧ (Calls Try.prog 11 #[kv, .slice ka n kc] w3 fun e w' => e = .returned (.bool true) ∧ ∃ m, w' = w3.drewN m) ∧
      ∀ m, Calls Try.prog 11 #[vv, .slice va n vc] (w3.drewN m) fun e w' => e = .returned (.bool true) ∧ ∃ m, w' = w3.drewN m := by
  subst hn
  intro w3 kv vv h1 h2 hB
  have f2 := e2.below hB (Nat.le_refl _)
  have f3 := e3.below hB (Nat.le_refl _)
  refine ⟨(hB.cell (p := ⟨x, 0, none⟩) hxl).trans cx0, (hB.cell (p := ⟨x, 1, none⟩) hxl).trans cx1, ?_, fun m => ?_⟩
  · refine (rows_any kv _ (l.map (·.1)) (l.map (·.1)) w3 (by simpa using h1) (by simpa using f2)).mono ?_
    rintro e w' ⟨rfl, m1, rfl⟩
    exact ⟨by simp, m1, rfl⟩
  · have h2' : RowAt (w3.drewN m) 3 vv l.length (zI (l.map (·.2))) := h2
    have f3' : RowAt (w3.drewN m) 3 (.slice va l.length vc) l.length (zI (l.map (·.2))) := f3
    refine (rows_any vv _ (l.map (·.2)) (l.map (·.2)) (w3.drewN m) (by simpa using h2') (by simpa using f3')).mono ?_
    rintro e w' ⟨rfl, m1, rfl⟩
    exact ⟨by simp, m + m1, by simp⟩

theorem both_new {w1 : World} {p b : Nat} (h : TableAt w1 p b 0 []) : Both (w1.alloc (.cells #[.slice none 0 0, .slice none 0 0] 28)) p b w1.heap.size 0 [] :=
  ⟨h.below ((Below.refl _ _).alloc (Nat.le_refl _) _), .slice none 0 0, .slice none 0 0, World.alloc_heap_new w1 _, .inl ⟨rfl, rfl, none, 0, rfl, by decide, fun _ => rfl⟩, .inl ⟨rfl, rfl, none, 0, rfl, by decide, fun _ => rfl⟩, rfl⟩

set_option maxRecDepth 100000 in
set_option maxHeartbeats 4000000 in
theorem plays_walk (w : World) (ad : Option Addr) (cap : Nat) (acts : Script) (hcap : acts.length ≤ cap) (hmax : cap ≤ maxLen) (h : ActsAt w ad acts) :
    Calls Try.prog 4 #[.slice ad acts.length cap] w fun e w' => e = .returned (.bool true) ∧ Below w.heap.size w w' := by
  go_enter Try.func4, Try.ntmps4
  go_wp2_with (go_at_call 6; refine (new_any _).mono ?_; rintro e w1 ⟨rfl, hT1, hB1⟩)
  have hs1 := hB1.size
  go_loopw [5] (fun i wr => ∃ (k : Nat) (l : List (Int × Int)), k ≤ acts.length ∧ k ≤ 150 ∧ i = .int .i64 k ∧ Both wr (w.heap.size + 1) w.heap.size w1.heap.size k l ∧ Below w.heap.size w wr) (fun i _ => acts.length - (intOf i).toNat)
  case atStart => exact ⟨0, [], Nat.zero_le _, Nat.zero_le _, rfl, both_new hT1, hB1.alloc hs1 _⟩
  case round =>
    obtain ⟨k, l, hk, hk2, rfl, hb, hBw⟩ := hrel
    unfold maxLen at hmax
    by_cases hlt : k < acts.length
    · by_cases hlt2 : k < 150
      · have hbd : Both wr.drew (w.heap.size + 1) w.heap.size w1.heap.size k l := hb.below ((Below.refl _ _).drew)
        have hwf := h.wf _ (List.getElem_mem hlt)
        obtain ⟨a, rfl, hld0, hld1, hld2⟩ := h.load (W := wr) hBw hlt
        have i1 : (0 : Int) ≤ (k : Int) := by omega
        have i2 : (k : Int) < (acts.length : Int) := by omega
        have i3 : decide ((k : Int) < (acts.length : Int)) = true := by simp; omega
        have i4 : decide ((k : Int) < 150) = true := by simp; omega
        clear h
        go_wp2
        refine wp_region_M (.cut 6 (.read 0 (.read 1 (.read 2 (.read 3 (.read 4 (.read 5 (.cut 7 (.step 6 (.cut 8 (.read 7 (.cut 16 (.read 8 (.read 9 (.read 11 (.read 12 (.read 13 (.read 14 (.read 15 (.step 10 (.cut 17 (.read 16 (.cut 18 (.read 17 (.cut 25 (.read 18 (.read 19 (.read 21 (.read 22 (.read 23 (.read 24 (.step 20 (.cut 26 (.step 25 (.cut 27 (.read 26 (.step 27 .done))))))))))))))))))))))))))))))))))))) (by kernel_rfl) (by kernel_rfl) (fun _ d _ _ _ h => by cases d <;> exact h) ?_
        refine wpM_cut (fun w' => w' = wr.drew) (rfl) ?_
        refine wpM_read (v := ?_) rfl (by rfl) ?_ ?_
        rotate_left
        · intro w' hS'
          try subst hS'
          go_simp
          try with_reducible rfl
        try simp only [Act.put, List.setIfInBounds_toArray, List.set_cons_zero, List.set_cons_succ]
        refine wpM_read (v := ?_) rfl (by rfl) ?_ ?_
        rotate_left
        · intro w' hS'
          try subst hS'
          go_simp
          try with_reducible rfl
        try simp only [Act.put, List.setIfInBounds_toArray, List.set_cons_zero, List.set_cons_succ]
        refine wpM_read (v := ?_) rfl (by rfl) ?_ ?_
        rotate_left
        · intro w' hS'
          try subst hS'
          go_simp
          try with_reducible rfl
        try simp only [Act.put, List.setIfInBounds_toArray, List.set_cons_zero, List.set_cons_succ]
        refine wpM_read (v := ?_) rfl (by rfl) ?_ ?_
        rotate_left
        · intro w' hS'
          try subst hS'
          go_simp
          try with_reducible rfl
        try simp only [Act.put, List.setIfInBounds_toArray, List.set_cons_zero, List.set_cons_succ]
        refine wpM_read (v := ?_) rfl (by rfl) ?_ ?_
        rotate_left
        · intro w' hS'
          try subst hS'
          go_simp
          try with_reducible rfl
        try simp only [Act.put, List.setIfInBounds_toArray, List.set_cons_zero, List.set_cons_succ]
        refine wpM_read (v := ?_) rfl (by rfl) ?_ ?_
        rotate_left
        · intro w' hS'
          try subst hS'
          go_simp
          try with_reducible rfl
        try simp only [Act.put, List.setIfInBounds_toArray, List.set_cons_zero, List.set_cons_succ]
        refine wpM_cut (fun _ => True) (trivial) ?_
        refine wpM_step rfl (fun KK hKK => ?_)
        go_simp
        go_at_call 7
        refine (act_any _ _ _ hwf _ _ _ _ _ _ hbd (by omega)).mono ?_
        rintro e w3 ⟨rfl, hb3, hk3⟩
        generalize step acts[k].1 acts[k].2.1 acts[k].2.2 l = l3 at hb3
        obtain ⟨kx, vx, e1, e2, e3, e4⟩ := hb3.ref
        rw [List.length_map] at e2
        obtain ⟨ka, kc, rfl, hkc, hkm⟩ := e2.shape
        have cx0 := cell_of_block e1 0
        simp at cx0
        have hne : ((l3.length : Int) != (l3.length : Int)) = false := by simp
        have hlen3 : l3.length ≤ k + 1 := by have := hb3.tab.len; simpa using this
        refine hKK.out _ _ (by first | exact .inl (by decide) | exact .inr trivial) ?_
        clear hKK KK
        try simp only [Act.put, List.setIfInBounds_toArray, List.set_cons_zero, List.set_cons_succ]
        refine wpM_cut (fun _ => True) (trivial) ?_
        refine wpM_read (v := ?_) rfl (by rfl) ?_ ?_
        rotate_left
        · intro w' hS'
          try subst hS'
          go_simp
          try with_reducible rfl
        try simp only [Act.put, List.setIfInBounds_toArray, List.set_cons_zero, List.set_cons_succ]
        refine wpM_cut (fun w' => w' = w3) (rfl) ?_
        refine wpM_read (v := ?_) rfl (by rfl) ?_ ?_
        rotate_left
        · intro w' hS'
          try subst hS'
          go_simp
          try with_reducible rfl
        try simp only [Act.put, List.setIfInBounds_toArray, List.set_cons_zero, List.set_cons_succ]
        refine wpM_read (v := ?_) rfl (by rfl) ?_ ?_
        rotate_left
        · intro w' hS'
          try subst hS'
          go_simp
          try with_reducible rfl
        try simp only [Act.put, List.setIfInBounds_toArray, List.set_cons_zero, List.set_cons_succ]
        refine wpM_read (v := ?_) rfl (by rfl) ?_ ?_
        rotate_left
        · intro w' hS'
          try subst hS'
          go_simp
          try with_reducible rfl
        try simp only [Act.put, List.setIfInBounds_toArray, List.set_cons_zero, List.set_cons_succ]
        refine wpM_read (v := ?_) rfl (by rfl) ?_ ?_
        rotate_left
        · intro w' hS'
          try subst hS'
          go_simp
          try with_reducible rfl
        try simp only [Act.put, List.setIfInBounds_toArray, List.set_cons_zero, List.set_cons_succ]
        refine wpM_read (v := ?_) rfl (by rfl) ?_ ?_
        rotate_left
        · intro w' hS'
          try subst hS'
          go_simp
          try with_reducible rfl
        try simp only [Act.put, List.setIfInBounds_toArray, List.set_cons_zero, List.set_cons_succ]
        refine wpM_read (v := ?_) rfl (by rfl) ?_ ?_
        rotate_left
        · intro w' hS'
          try subst hS'
          go_simp
          try with_reducible rfl
        try simp only [Act.put, List.setIfInBounds_toArray, List.set_cons_zero, List.set_cons_succ]
        refine wpM_read (v := ?_) rfl (by rfl) ?_ ?_
        rotate_left
        · intro w' hS'
          try subst hS'
          go_simp
          try with_reducible rfl
        try simp only [Act.put, List.setIfInBounds_toArray, List.set_cons_zero, List.set_cons_succ]
        refine wpM_step rfl (fun KK hKK => ?_)
        go_simp
        go_at_call 10
        refine (len_any _ _ _ _ _ hb3.tab).mono ?_
        rintro e w4 ⟨rfl, rfl⟩
        rw [show (enl l3).length = l3.length by simp]
        refine hKK.out _ _ (.inr rfl) ?_
        clear hKK KK
        try simp only [Act.put, List.setIfInBounds_toArray, List.set_cons_zero, List.set_cons_succ]
        refine wpM_cut (fun _ => True) (trivial) ?_
        refine wpM_read (v := ?_) rfl (by rfl) ?_ ?_
        rotate_left
        · intro w' hS'
          try subst hS'
          go_simp
          try with_reducible rfl
        try simp only [Act.put, List.setIfInBounds_toArray, List.set_cons_zero, List.set_cons_succ]
        refine wpM_cut (fun _ => True) (trivial) ?_
        refine wpM_read (v := ?_) rfl (by rfl) ?_ ?_
        rotate_left
        · intro w' hS'
          try subst hS'
          go_simp
          try with_reducible rfl
        try simp only [Act.put, List.setIfInBounds_toArray, List.set_cons_zero, List.set_cons_succ]
        refine wpM_cut (fun w' => w'.cell? ⟨w1.heap.size, 0, none⟩ = some (.slice ka l3.length kc)) (cx0) ?_
        refine wpM_read (v := ?_) rfl (by rfl) ?_ ?_
        rotate_left
        · intro w' hS'
          try subst hS'
          go_simp
          try with_reducible rfl
        try simp only [Act.put, List.setIfInBounds_toArray, List.set_cons_zero, List.set_cons_succ]
        refine wpM_read (v := ?_) rfl (by rfl) ?_ ?_
        rotate_left
        · intro w' hS'
          try subst hS'
          go_simp
          try with_reducible rfl
        try simp only [Act.put, List.setIfInBounds_toArray, List.set_cons_zero, List.set_cons_succ]
        refine wpM_read (v := ?_) rfl (by rfl) ?_ ?_
        rotate_left
        · intro w' hS'
          try subst hS'
          go_simp
          try with_reducible rfl
        try simp only [Act.put, List.setIfInBounds_toArray, List.set_cons_zero, List.set_cons_succ]
        refine wpM_read (v := ?_) rfl (by rfl) ?_ ?_
        rotate_left
        · intro w' hS'
          try subst hS'
          go_simp
          try with_reducible rfl
        try simp only [Act.put, List.setIfInBounds_toArray, List.set_cons_zero, List.set_cons_succ]
        refine wpM_read (v := ?_) rfl (by rfl) ?_ ?_
        rotate_left
        · intro w' hS'
          try subst hS'
          go_simp
          try with_reducible rfl
        try simp only [Act.put, List.setIfInBounds_toArray, List.set_cons_zero, List.set_cons_succ]
        refine wpM_read (v := ?_) rfl (by rfl) ?_ ?_
        rotate_left
        · intro w' hS'
          try subst hS'
          go_simp
          try with_reducible rfl
        try simp only [Act.put, List.setIfInBounds_toArray, List.set_cons_zero, List.set_cons_succ]
        refine wpM_step rfl (fun KK hKK => ?_)
        go_simp
        go_at_call 12
        refine (keys_any _ _ _ _ (by simp; omega) _ hb3.tab).mono ?_
        rintro e w5 ⟨a5, cap5, rfl, hr5, hB5⟩
        have hxl := (Array.getElem?_eq_some_iff.1 e1).1
        have cx5 := (hB5.cell (p := ⟨w1.heap.size, 0, none⟩) hxl).trans cx0
        have hr5 := RowAt.of_owns hr5
        rw [show (enl l3).length = l3.length by simp, show (enl l3).map (·.1) = l3.map (·.1) by simp [List.map_map, Function.comp_def]] at hr5
        rw [show (enl l3).length = l3.length by simp]
        have e5 := e2.below hB5 (Nat.le_refl _)
        have hrows := rows_any _ _ (l3.map (·.1)) (l3.map (·.1)) w5 (by simpa using hr5) (by simpa using e5)
        skip
        refine hKK.out _ _ (.inr cx5) ?_
        clear hKK KK
        try simp only [Act.put, List.setIfInBounds_toArray, List.set_cons_zero, List.set_cons_succ]
        refine wpM_cut (fun _ => True) (trivial) ?_
        refine wpM_step rfl (fun KK hKK => ?_)
        go_simp
        go_at_call 11
        refine (hrows).mono ?_
        rintro e w6 ⟨rfl, m6, rfl⟩
        rw [decide_eq_true rfl]
        refine hKK.out _ _ (by first | exact .inl (by decide) | exact .inr trivial) ?_
        clear hKK KK
        try simp only [Act.put, List.setIfInBounds_toArray, List.set_cons_zero, List.set_cons_succ]
        refine wpM_cut (fun _ => True) (trivial) ?_
        refine wpM_read (v := ?_) rfl (by rfl) ?_ ?_
        rotate_left
        · intro w' hS'
          try subst hS'
          go_simp
          try with_reducible rfl
        try simp only [Act.put, List.setIfInBounds_toArray, List.set_cons_zero, List.set_cons_succ]
        refine wpM_still (v := ?_) rfl (by rfl) (by first | exact .inl (by decide) | exact .inr trivial) ?_ ?_
        rotate_left
        · go_simp
          try with_reducible rfl
        try simp only [Act.put, List.setIfInBounds_toArray, List.set_cons_zero, List.set_cons_succ]
        refine wpM_done ?_
        go_wp2
        have hB3 : Below w.heap.size w w3 := Kept.below hBw.drew hk3 (by rintro c (rfl | rfl) <;> omega)
        have hB6 := hB5.trans ((bel_drewN w5.heap.size w5 m6).mono hB5.size)
        refine ⟨⟨k + 1, l3, by omega, by omega, by go_num, hb3.below hB6, hB3.trans (hB6.mono hB3.size)⟩, ?_⟩
        simp [intOf]
        omega
      · have hle : l.length ≤ k := by have := hb.tab.len; simpa using this
        have i1 : (0 : Int) ≤ (k : Int) := by omega
        have i3 : decide ((k : Int) < (acts.length : Int)) = true := by simp; omega
        have i4 : decide ((k : Int) < 150) = false := by simp; omega
        have ht := toldAll_any wr (w.heap.size + 1) w.heap.size k l 1000 (by omega) (by decide) (by omega) hb.tab
        obtain ⟨kx, vx, e1, e2, e3, e4⟩ := hb.ref
        rw [List.length_map] at e2 e3
        obtain ⟨ka, kc, rfl, hkc, hkm⟩ := e2.shape
        obtain ⟨va, vc, rfl, hvc, hvm⟩ := e3.shape
        have hxl := (Array.getElem?_eq_some_iff.1 e1).1
        have cx0 := cell_of_block e1 0
        have cx1 := cell_of_block e1 1
        simp at cx0 cx1
        have hq := tail_rows (x := w1.heap.size) hxl e2 e3 rfl cx0 cx1
        clear h hb e1 e2 e3 e4 hkc hkm hvc hvm cx0 cx1
        go_wp2_with (first
          | (go_at_call 14; refine (all_any _ _).mono ?_; rintro e w2 ⟨rfl, rfl⟩)
          | (go_at_call 13; refine ht.mono ?_; rintro e w3 ⟨kv, vv, rfl, hr1, hr2, hB3⟩; obtain ⟨cx0, cx1, q1, q2⟩ := hq w3 kv vv hr1 hr2 hB3; have hBw3 := hBw.trans (hB3.mono hBw.size); clear hq ht hr1 hr2 hB3)
          | (go_at_call 11; refine q1.mono ?_; rintro e w4 ⟨rfl, m4, rfl⟩; clear q1)
          | (go_at_call 11; refine (q2 _).mono ?_; rintro e w5 ⟨rfl, m5, rfl⟩; clear q2)
          | (go_at_call 9; refine (known_any _).mono ?_; rintro e w6 ⟨rfl, hB6⟩))
        go_ret
        exact ⟨rfl, hBw3.trans (((bel_drewN _ w3 m5).trans hB6).mono hBw3.size)⟩
    · have hle : l.length ≤ k := by have := hb.tab.len; simpa using this
      have i1 : (0 : Int) ≤ (k : Int) := by omega
      have i3 : decide ((k : Int) < (acts.length : Int)) = false := by simp; omega
      have ht := toldAll_any wr (w.heap.size + 1) w.heap.size k l 1000 (by omega) (by decide) (by omega) hb.tab
      obtain ⟨kx, vx, e1, e2, e3, e4⟩ := hb.ref
      rw [List.length_map] at e2 e3
      obtain ⟨ka, kc, rfl, hkc, hkm⟩ := e2.shape
      obtain ⟨va, vc, rfl, hvc, hvm⟩ := e3.shape
      have hxl := (Array.getElem?_eq_some_iff.1 e1).1
      have cx0 := cell_of_block e1 0
      have cx1 := cell_of_block e1 1
      simp at cx0 cx1
      have hq := tail_rows (x := w1.heap.size) hxl e2 e3 rfl cx0 cx1
      clear h hb e1 e2 e3 e4 hkc hkm hvc hvm cx0 cx1
      go_wp2_with (first
        | (go_at_call 14; refine (all_any _ _).mono ?_; rintro e w2 ⟨rfl, rfl⟩)
        | (go_at_call 13; refine ht.mono ?_; rintro e w3 ⟨kv, vv, rfl, hr1, hr2, hB3⟩; obtain ⟨cx0, cx1, q1, q2⟩ := hq w3 kv vv hr1 hr2 hB3; have hBw3 := hBw.trans (hB3.mono hBw.size); clear hq ht hr1 hr2 hB3)
        | (go_at_call 11; refine q1.mono ?_; rintro e w4 ⟨rfl, m4, rfl⟩; clear q1)
        | (go_at_call 11; refine (q2 _).mono ?_; rintro e w5 ⟨rfl, m5, rfl⟩; clear q2)
        | (go_at_call 9; refine (known_any _).mono ?_; rintro e w6 ⟨rfl, hB6⟩))
      go_ret
      exact ⟨rfl, hBw3.trans (((bel_drewN _ w3 m5).trans hB6).mono hBw3.size)⟩
end Go.Proofs.Ytjahfjfanaocpaa
