/- Plain arithmetic: products and powers modulo a number, halving of exponents. Conditions: none. -/
import Derived.RowKit
import Derived.Laws.BytesArg
namespace Go.Proofs.YtfigfpfgeoadbaaDoor.M
open Go.RowKit
theorem emod_mul_l (a b m : Int) : a % m * b % m = a * b % m := by
  rw [Int.mul_emod, Int.emod_emod_of_dvd a (Int.dvd_refl m), ← Int.mul_emod]
theorem emod_mul_r (a b m : Int) : a * (b % m) % m = a * b % m := by
  rw [Int.mul_comm, emod_mul_l, Int.mul_comm]
theorem emod_pow (a m : Int) (n : Nat) : (a % m) ^ n % m = a ^ n % m := by
  induction n with
  | zero => simp
  | succ n ih => rw [Int.pow_succ, Int.pow_succ, emod_mul_r, ← emod_mul_l, ih, emod_mul_l]
theorem mul_pow_emod (a x m : Int) (n : Nat) : a * (x % m) ^ n % m = a * x ^ n % m := by
  rw [← emod_mul_r, emod_pow, emod_mul_r]
theorem pow_half (b : Int) (n : Nat) : b ^ n = b ^ (n % 2) * (b * b) ^ (n / 2) := by
  have e : (b * b) ^ (n / 2) = b ^ (2 * (n / 2)) := by
    rw [Int.pow_mul]
    congr 1
    rw [show (2 : Nat) = 1 + 1 from rfl, Int.pow_succ, Int.pow_succ, Int.pow_zero, Int.one_mul]
  rw [e, ← Int.pow_add]
  congr 1
  omega
/-- Go's remainder, out of the one that is never below 0. -/
theorem tm_eq (a m : Int) (h : 0 < m) : Int.tmod a m = a % m - if 0 ≤ a ∨ m ∣ a then 0 else m := by
  rw [Int.tmod_eq_emod]
  congr 1
  split <;> omega
theorem wrap_mul (x y m : Int) (hm : m ≤ 1000000) (hx : 0 ≤ x) (hx1 : x < m) (hy : 0 ≤ y) (hy1 : y < m) : wrap64 (x * y) = x * y := by
  have h0 := Int.mul_nonneg hx hy
  have h1 : x * y ≤ 1000000 * 1000000 := Int.mul_le_mul (by omega) (by omega) hy (by omega)
  unfold wrap64
  omega
theorem i64_bounds {n : Int} (h : (Lit.int .i64 n).wf = true) : -9223372036854775808 ≤ n ∧ n ≤ 9223372036854775807 := by
  simp only [Lit.wf, IntKind.min, IntKind.max, IntKind.signed, IntKind.bits, Bool.and_eq_true, decide_eq_true_eq, if_true] at h
  omega
/-- what FpRoot comes to -/
def rootOf (a : Int) : Int × Bool :=
  if a ^ 3027 % 12107 * (a ^ 3027 % 12107) % 12107 = a % 12107 then (if (0 - a ^ 3027 % 12107) % 12107 < a ^ 3027 % 12107 then (0 - a ^ 3027 % 12107) % 12107 else a ^ 3027 % 12107, true) else (0, false)
/-- what PointOk comes to -/
def okPoint (x y : Int) (z : Bool) : Bool :=
  if z = true then decide (x = 0 ∧ y = 0) else decide (0 ≤ x ∧ x < 12107 ∧ 0 ≤ y ∧ y < 12107 ∧ y * y % 12107 = (x * x * x + x) % 12107)
/-- what PointText comes to -/
def pointText (x y : Int) (z : Bool) : ByteArray :=
  if okPoint x y z = true then (if z = true then ⟨#[0, 0, 0]⟩ else strOfNums [wrap64 (x + 1) / 256 % 256, wrap64 (x + 1) % 256, Int.tmod y 2 % 256]) else ⟨#[]⟩
end Go.Proofs.YtfigfpfgeoadbaaDoor.M
