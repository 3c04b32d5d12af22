/- the rounds' numbers -/
import Derived.Test.YtjhpemlgcjdpfaaA
import Derived.Deep.WholeRow
namespace Go.Proofs.Ytjhpemlgcjdpfaa
open Go.RowKit

def kNums : List Int := [1116352408, 1899447441, 3049323471, 3921009573, 961987163, 1508970993, 2453635748, 2870763221, 3624381080, 310598401, 607225278, 1426881987, 1925078388, 2162078206, 2614888103, 3248222580, 3835390401, 4022224774, 264347078, 604807628, 770255983, 1249150122, 1555081692, 1996064986, 2554220882, 2821834349, 2952996808, 3210313671, 3336571891, 3584528711, 113926993, 338241895, 666307205, 773529912, 1294757372, 1396182291, 1695183700, 1986661051, 2177026350, 2456956037, 2730485921, 2820302411, 3259730800, 3345764771, 3516065817, 3600352804, 4094571909, 275423344, 430227734, 506948616, 659060556, 883997877, 958139571, 1322822218, 1537002063, 1747873779, 1955562222, 2024104815, 2227730452, 2361852424, 2428436474, 2756734187, 3204031479, 3329325298]
def KK : Array Value := (kNums.map (Value.int .u32)).toArray

theorem wpList_run {P : Program} {ops : Array Oper} {rest : List Oper} {o : Oper} {a : Act} {w w' : World} {Q : Exit → Act → World → Prop} {v : Value} (hgd : o.guard = none) (hy : (execOp a.eval o).run P w = .ok (.value v) w')
    (h : wpList P ops Q rest (a.put o.dst v) w') : wpList P ops Q (o :: rest) a w :=
  wpList_plain hgd fun _ hK => by unfold Oper.wp; rw [hy]; exact hK _ _ h

theorem wpList_skip {P : Program} {ops : Array Oper} {rest : List Oper} {o : Oper} {a : Act} {w w' : World} {Q : Exit → Act → World → Prop} (hgd : o.guard = none) (hy : (execOp a.eval o).run P w = .ok .skip w')
    (h : wpList P ops Q rest (a.put o.dst undef) w') : wpList P ops Q (o :: rest) a w :=
  wpList_plain hgd fun _ hK => by unfold Oper.wp; rw [hy]; exact hK _ _ h

theorem results_cell1 {fn : Func} {p : Tmp} {ty : TypeId} (h : fn.results = #[.cell p ty]) {tmps : Array Value} {P : Program} {w : World} {a : Addr} {v : Value} (hp : tmps.getD p undef = .pointer (some a)) (hl : (loadVar ty a).run P w = .ok v w) : (results fn tmps).run P w = .ok v w := by
  have hp' : tmps[p]?.getD undef = .pointer (some a) := by simpa using hp
  simp only [results, h]
  simp [hp', asAddr, hl]

theorem info110 : (Try.prog.info? 110).map (·.size) = some 64 := by kernel_rfl
theorem KK_size : KK.size = 64 := by kernel_rfl
theorem KK_one : KK.all (·.oneCell') = true := by kernel_rfl
def ZZ : Array Value := Array.replicate 64 (Value.int .u32 0)

set_option maxRecDepth 1000000 in
set_option maxHeartbeats 4000000 in
theorem numbers_any (w : World) : Calls Try.prog 68 #[] w fun e w' => e = .returned (.agg KK) ∧ Below w.heap.size w w' := by
  have hst : (Instr.storeAt 110 (.pointer (some ⟨w.heap.size, 0, none⟩)) (.agg KK)).run Try.prog (w.alloc (.cells ZZ 110)) = .ok () (w.alloc (.cells KK 110)) := run_storeAt_new w 110 ZZ KK (by rw [info110, KK_size]) rfl KK_one
  go_enter Try.func68, Try.ntmps68
  refine wp_seq ?_
  refine wp_region_lit ?_
  refine wpList_run (v := .pointer (some ⟨w.heap.size, 0, none⟩)) (w' := w.alloc (.cells ZZ 110)) rfl (by kernel_rfl) ?_
  refine wp_seq ?_
  refine wp_region_lit ?_
  refine wpList_run (v := .agg KK) (w' := w.alloc (.cells ZZ 110)) rfl (by kernel_rfl) ?_
  refine wpList_skip (w' := w.alloc (.cells KK 110)) rfl ?_ ?_
  · simp only [Act.put, List.setIfInBounds_toArray, List.set_cons_zero, List.set_cons_succ]
    have hst2 := run_storeCells_new (P := Try.prog) w 110 ZZ KK (by rw [info110, KK_size]) rfl KK_one
    go_simp
    exact KK_size
  refine wp_ret ?_
  refine bodyPost_ret (v := .agg KK) ?_ rfl ⟨rfl, (Below.refl _ _).alloc (Nat.le_refl _) _⟩
  have hld := run_loadVar_new (P := Try.prog) w 110 KK 64 107 Try.underlying110 (by rw [info110, KK_size])
  exact results_cell1 (p := 0) (ty := 110) rfl rfl hld
set_option maxRecDepth 1000000 in
set_option maxHeartbeats 4000000 in
theorem k_any (w : World) : Calls Try.prog 83 #[] w fun e w' => e = .returned (.agg KK) ∧ Below w.heap.size w w' := by
  go_enter Try.func83, Try.ntmps83
  have hst : (Instr.storeAt 110 (.pointer (some ⟨w.heap.size, 0, none⟩)) (.agg KK)).run Try.prog (w.alloc (.cells ZZ 110)) = .ok () (w.alloc (.cells KK 110)) := run_storeAt_new w 110 ZZ KK (by rw [info110, KK_size]) rfl KK_one
  refine wp_seq ?_
  refine wp_region_lit ?_
  refine wpList_run (v := .pointer (some ⟨w.heap.size, 0, none⟩)) (w' := w.alloc (.cells ZZ 110)) rfl (by kernel_rfl) ?_
  refine wp_seq ?_
  refine wp_region_lit ?_
  refine wpList_run (v := .agg KK) (w' := w.alloc (.cells ZZ 110)) rfl (by kernel_rfl) ?_
  refine wpList_skip (w' := w.alloc (.cells KK 110)) rfl ?_ ?_
  · simp only [Act.put, List.setIfInBounds_toArray, List.set_cons_zero, List.set_cons_succ]
    have hst2 := run_storeCells_new (P := Try.prog) w 110 ZZ KK (by rw [info110, KK_size]) rfl KK_one
    go_simp
    exact KK_size
  refine wp_ret ?_
  refine bodyPost_ret (v := .agg KK) ?_ rfl ⟨rfl, (Below.refl _ _).alloc (Nat.le_refl _) _⟩
  have hld := run_loadVar_new (P := Try.prog) w 110 KK 64 107 Try.underlying110 (by rw [info110, KK_size])
  exact results_cell1 (p := 0) (ty := 110) rfl rfl hld
end Go.Proofs.Ytjhpemlgcjdpfaa
