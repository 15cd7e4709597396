/- Plain arithmetic: a number as bytes of seven bits, the lowest first. Conditions: none. -/
import Derived.Test.YtfigfpfgeoadbaaDoorCrc
namespace Go.Proofs.YtfigfpfgeoadbaaDoor.M
open Go.RowKit
def varL (n : Nat) : List Nat := if h : n > 127 then (n % 128 + 128) :: varL (n / 128) else [n]
termination_by n
decreasing_by omega
def varNums (n : Nat) : List Int := (varL n).map fun (b : Nat) => (b : Int)
theorem varL_small (n : Nat) (h : n < 128) : varL n = [n] := by
  unfold varL
  rw [dif_neg (by omega)]
theorem varL_great (n : Nat) (h : 127 < n) : varL n = (n % 128 + 128) :: varL (n / 128) := by
  rw [varL]
  rw [dif_pos (by omega)]
theorem varNums_small (n : Nat) (h : n < 128) : varNums n = [(n : Int)] := by
  unfold varNums
  rw [varL_small n h]
  rfl
theorem varNums_great (n : Nat) (h : 127 < n) : varNums n = ((n % 128 + 128 : Nat) : Int) :: varNums (n / 128) := by
  unfold varNums
  rw [varL_great n h]
  rfl
theorem varL_len : ∀ (d n : Nat), n < 128 ^ (d + 1) → (varL n).length ≤ d + 1 := by
  intro d
  induction d with
  | zero => intro n h; rw [varL_small n (by omega)]; simp
  | succ d ih =>
    intro n h
    by_cases hn : n < 128
    · rw [varL_small n hn]; simp
    · rw [varL_great n (by omega)]
      have := ih (n / 128) (by rw [Nat.pow_succ] at h; omega)
      simp
      omega
theorem varNums_len (n : Nat) (h : n ≤ 1000000000) : (varNums n).length ≤ 5 := by
  unfold varNums
  rw [List.length_map]
  exact varL_len 4 n (by omega)
end Go.Proofs.YtfigfpfgeoadbaaDoor.M
