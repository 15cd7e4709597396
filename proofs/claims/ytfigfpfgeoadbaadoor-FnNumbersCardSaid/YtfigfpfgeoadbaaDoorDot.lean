/- Plain arithmetic: a sum of products modulo 1009, element by element. Conditions: none. -/
import Derived.Test.YtfigfpfgeoadbaaDoorMod
namespace Go.Proofs.YtfigfpfgeoadbaaDoor.M
def dotN (a b : List Int) : Nat → Nat → Int → Int
  | 0, _, acc => acc
  | d + 1, i, acc => dotN a b d (i + 1) ((acc + a.getD i 0 * b.getD i 0 % 1009) % 1009)
theorem wrap_nat (i : Nat) (h : i ≤ 9000000000000000000) : Go.RowKit.wrap64 ((i : Int) + 1) = ((i + 1 : Nat) : Int) := by
  unfold Go.RowKit.wrap64
  omega
end Go.Proofs.YtfigfpfgeoadbaaDoor.M
