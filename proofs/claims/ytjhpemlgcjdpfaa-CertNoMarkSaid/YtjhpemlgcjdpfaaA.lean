/- the digest's small functions -/
import Derived.Test.YtjhpemlgcjdpfaaRows
import Derived.Test.YtjhpemlgcjdpfaaN
import Derived.WalkSpells
import Derived.WalkLawsBesides
import Derived.WalkKit
namespace Go.Proofs.Ytjhpemlgcjdpfaa
open Go.RowKit

def rot (x n : Int) : Int := bits .or .u32 (x / 2 ^ n.toNat) (x * 2 ^ (32 - n).toNat % 4294967296)
def xo (x y : Int) : Int := bits .xor .u32 x y
def sg0 (x : Int) : Int := xo (xo (rot x 7) (rot x 18)) (x / 2 ^ 3)
def sg1 (x : Int) : Int := xo (xo (rot x 17) (rot x 19)) (x / 2 ^ 10)
def bs0 (x : Int) : Int := xo (xo (rot x 2) (rot x 13)) (rot x 22)
def bs1 (x : Int) : Int := xo (xo (rot x 6) (rot x 11)) (rot x 25)
def cho (x y z : Int) : Int := xo (bits .and .u32 x y) (bits .and .u32 (bits .xor .u32 IntKind.u32.max x) z)
def maj (x y z : Int) : Int := xo (xo (bits .and .u32 x y) (bits .and .u32 x z)) (bits .and .u32 y z)

theorem turn_any (x n : Int) (h0 : 0 ≤ n) (h1 : n ≤ 32) (w : World) : Calls Try.prog 110 #[.int .u32 x, .int .u64 n] w fun e w' => e = .returned (.int .u32 (rot x n)) ∧ w = w' := by
  go_enter Try.func110, Try.ntmps110
  go_wp2
  go_ret
  exact ⟨rfl, rfl⟩
theorem r_any (x n : Int) (h0 : 0 ≤ n) (h1 : n ≤ 32) (w : World) : Calls Try.prog 106 #[.int .u32 x, .int .u64 n] w fun e w' => e = .returned (.int .u32 (rot x n)) ∧ w = w' := by
  go_enter Try.func106, Try.ntmps106
  go_wp2
  go_ret
  exact ⟨rfl, rfl⟩
theorem choose_any (x y z : Int) (w : World) : Calls Try.prog 91 #[.int .u32 x, .int .u32 y, .int .u32 z] w fun e w' => e = .returned (.int .u32 (cho x y z)) ∧ w = w' := by
  go_enter Try.func91, Try.ntmps91
  go_wp2
  go_ret
  exact ⟨rfl, rfl⟩
theorem most_any (x y z : Int) (w : World) : Calls Try.prog 93 #[.int .u32 x, .int .u32 y, .int .u32 z] w fun e w' => e = .returned (.int .u32 (maj x y z)) ∧ w = w' := by
  go_enter Try.func93, Try.ntmps93
  go_wp2
  go_ret
  exact ⟨rfl, rfl⟩
theorem s0_any (x : Int) (w : World) : Calls Try.prog 88 #[.int .u32 x] w fun e w' => e = .returned (.int .u32 (sg0 x)) ∧ w = w' := by
  go_enter Try.func88, Try.ntmps88
  go_wp2_with (go_at_call 110; refine (turn_any _ _ (by decide) (by decide) _).mono ?_; rintro e w' ⟨rfl, rfl⟩)
  go_ret
  exact ⟨rfl, rfl⟩
theorem s1_any (x : Int) (w : World) : Calls Try.prog 89 #[.int .u32 x] w fun e w' => e = .returned (.int .u32 (sg1 x)) ∧ w = w' := by
  go_enter Try.func89, Try.ntmps89
  go_wp2_with (go_at_call 110; refine (turn_any _ _ (by decide) (by decide) _).mono ?_; rintro e w' ⟨rfl, rfl⟩)
  go_ret
  exact ⟨rfl, rfl⟩
theorem b1_any (x : Int) (w : World) : Calls Try.prog 90 #[.int .u32 x] w fun e w' => e = .returned (.int .u32 (bs1 x)) ∧ w = w' := by
  go_enter Try.func90, Try.ntmps90
  go_wp2_with (go_at_call 110; refine (turn_any _ _ (by decide) (by decide) _).mono ?_; rintro e w' ⟨rfl, rfl⟩)
  go_ret
  exact ⟨rfl, rfl⟩
theorem b0_any (x : Int) (w : World) : Calls Try.prog 92 #[.int .u32 x] w fun e w' => e = .returned (.int .u32 (bs0 x)) ∧ w = w' := by
  go_enter Try.func92, Try.ntmps92
  go_wp2_with (go_at_call 110; refine (turn_any _ _ (by decide) (by decide) _).mono ?_; rintro e w' ⟨rfl, rfl⟩)
  go_ret
  exact ⟨rfl, rfl⟩
end Go.Proofs.Ytjhpemlgcjdpfaa
