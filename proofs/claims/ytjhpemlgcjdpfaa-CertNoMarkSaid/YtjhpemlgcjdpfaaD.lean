/- the plain law of the digest -/
import Derived.Test.YtjhpemlgcjdpfaaC
namespace Go.Proofs.Ytjhpemlgcjdpfaa
open Go.RowKit

abbrev zB (l : List Int) : List Value := l.map (Value.int .u8)
def ivS : St := ⟨1779033703, 3144134277, 1013904242, 2773480762, 1359893119, 2600822924, 528734635, 1541459225⟩
/-- how many zeros -/
def nz (n : Nat) : Nat := (119 - n % 64) % 64
/-- the length's digits, by their places -/
def dig (n j : Nat) : Int := ((8 * n / 2 ^ (8 * (7 - j)) % 256 : Nat) : Int)
def padded (l : List Int) : List Int := l ++ 128 :: (List.replicate (nz l.length) 0 ++ (List.range 8).map (dig l.length))
def padAt (l : List Int) (i : Nat) : Int := (padded l).getD i 0
def blocks (n : Nat) : Nat := (n + 8) / 64 + 1
def stAt (l : List Int) : Nat → St
  | 0 => ivS
  | k + 1 => comp (fun j => padAt l (64 * k + j)) (stAt l k)
def byteN (s : St) (i : Nat) : Int := s.at (i / 4) / 2 ^ (8 * (3 - i % 4)) % 256
def shaB (l : List Int) : List Int := (List.range 32).map (byteN (stAt l (blocks l.length)))
/-- the digest as an array's cells -/
def shaC (l : List Int) : Array Value := (zB (shaB l)).toArray

theorem shaB_length (l : List Int) : (shaB l).length = 32 := by simp [shaB]
theorem padded_length (l : List Int) : (padded l).length = 64 * blocks l.length := by
  simp [padded, blocks, nz]; omega
theorem padAt_low (l : List Int) {i : Nat} (h : i < l.length) : padAt l i = l[i] := by
  simp [padAt, padded, List.getElem?_append_left h, h]
theorem padAt_mark (l : List Int) : padAt l l.length = 128 := by
  simp [padAt, padded]
theorem padAt_zero (l : List Int) {i : Nat} (h : l.length < i) (h2 : i + 8 < 64 * blocks l.length) : padAt l i = 0 := by
  have hp := padded_length l
  have h3 : i - l.length - 1 < nz l.length := by simp [padded] at hp; omega
  unfold padAt padded
  rw [List.getD_eq_getElem?_getD, List.getElem?_append_right (by omega), show i - l.length = (i - l.length - 1) + 1 by omega, List.getElem?_cons_succ, List.getElem?_append_left (by simpa using h3)]
  simp [h3]
theorem padAt_dig (l : List Int) {j : Nat} (h : j < 8) : padAt l (64 * blocks l.length - 8 + j) = dig l.length j := by
  have hp := padded_length l
  have h3 : l.length + 1 + nz l.length + 8 = 64 * blocks l.length := by simp [padded] at hp; omega
  unfold padAt padded
  rw [List.getD_eq_getElem?_getD, List.getElem?_append_right (by omega), show 64 * blocks l.length - 8 + j - l.length = (nz l.length + j) + 1 by omega, List.getElem?_cons_succ, List.getElem?_append_right (by simp)]
  simp [h]

theorem word_congr {bs bs' : Nat → Int} (h : ∀ j, j < 64 → bs j = bs' j) {i : Nat} (hi : i < 16) : word bs i = word bs' i := by
  unfold word
  rw [h (4 * i) (by omega), h (4 * i + 1) (by omega), h (4 * i + 2) (by omega), h (4 * i + 3) (by omega)]
theorem WW_congr {bs bs' : Nat → Int} (h : ∀ j, j < 64 → bs j = bs' j) (i : Nat) : WW bs i = WW bs' i := by
  induction i using Nat.strongRecOn with
  | _ i ih =>
    by_cases hi : i < 16
    · rw [WW_low _ hi, WW_low _ hi, word_congr h hi]
    · rw [WW_high bs (i := i) (by omega), WW_high bs' (i := i) (by omega), ih (i - 16) (by omega), ih (i - 15) (by omega), ih (i - 7) (by omega), ih (i - 2) (by omega)]
theorem rounds_congr {bs bs' : Nat → Int} (h : ∀ j, j < 64 → bs j = bs' j) (s : St) (n : Nat) : rounds bs n s = rounds bs' n s := by
  induction n with
  | zero => rfl
  | succ n ih => simp only [rounds, ih, WW_congr h]
theorem comp_congr {bs bs' : Nat → Int} (h : ∀ j, j < 64 → bs j = bs' j) (s : St) : comp bs s = comp bs' s := by
  simp only [comp, rounds_congr h]
end Go.Proofs.Ytjhpemlgcjdpfaa
