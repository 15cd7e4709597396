/- Plain arithmetic: a sum of two squares is 0 modulo 12107 only where both are; what is multiplied by the one turned, and by what makes 1 with it. Conditions: none. -/
import Derived.Test.YtfigfpfgeoadbaaFermat
import Derived.Test.YtfigfpfgeoadbaaGauss
namespace Go.Proofs.Ytfigfpfgeoadbaa.M
theorem sq_pow (x : Int) (m : Nat) : (x * x) ^ m = x ^ (2 * m) := by
  rw [Int.pow_mul]
  congr 1
  rw [show (2 : Nat) = 1 + 1 from rfl, Int.pow_succ, Int.pow_succ, Int.pow_zero, Int.one_mul]
theorem neg_pow_odd (x : Int) (m : Nat) : (-x) ^ (2 * m + 1) = -(x ^ (2 * m + 1)) := by
  rw [Int.pow_succ, Int.pow_succ, ← sq_pow, ← sq_pow, Int.neg_mul_neg, Int.mul_neg]
theorem em_pow {a b : Int} (h : a % 12107 = b % 12107) (n : Nat) : a ^ n % 12107 = b ^ n % 12107 := by
  rw [← emod_pow a, h, emod_pow]
theorem sq_fermat (x : Int) (h : x % 12107 ≠ 0) : (x * x) ^ 6053 % 12107 = 1 := by
  have e := sq_pow x 6053
  rw [e]
  exact fermat x h
theorem neg_sq (x : Int) (h : x % 12107 ≠ 0) : (-(x * x)) ^ 6053 % 12107 = 12106 := by
  have e := neg_pow_odd (x * x) 3026
  have e2 : (2 * 3026 + 1 : Nat) = 6053 := by decide
  rw [e2] at e
  rw [e]
  have k := sq_fermat x h
  generalize (x * x) ^ 6053 = y at k ⊢
  omega
theorem norm_ne (a b : Int) (ha : a % 12107 ≠ 0) : (a * a + b * b) % 12107 ≠ 0 := by
  intro h
  by_cases hb : b % 12107 = 0
  · have h2 : b * b % 12107 = 0 := by rw [← emod_mul_l, hb, Int.zero_mul]; rfl
    rw [Int.add_emod, h2, Int.add_zero, Int.emod_emod] at h
    exact ha (no_zero a a h ha)
  · have h1 : (a * a) % 12107 = (-(b * b)) % 12107 := by
      generalize a * a = x at h ⊢
      generalize b * b = y at h ⊢
      omega
    have h2 := em_pow h1 6053
    rw [sq_fermat a ha, neg_sq b hb] at h2
    exact absurd h2 (by decide)
theorem turn_re (a b : Int) : (a * (a % 12107) - b * ((0 - b) % 12107)) % 12107 = (a * a + b * b) % 12107 := by
  rw [em_sub (emod_mul_r a a 12107) (emod_mul_r b (0 - b) 12107)]
  congr 1
  grind
theorem turn_im (a b : Int) : (a * ((0 - b) % 12107) + b * (a % 12107)) % 12107 = 0 := by
  rw [em_add (emod_mul_r a (0 - b) 12107) (emod_mul_r b a 12107)]
  have e : a * (0 - b) + b * a = 0 := by grind
  rw [e]
  rfl
theorem inv_re (a b : Int) (h : (a * a + b * b) % 12107 ≠ 0) : (a * (a * (a * a + b * b) ^ 12105 % 12107) - b * ((0 - b) * (a * a + b * b) ^ 12105 % 12107)) % 12107 = 1 := by
  have k := inv_mul _ h
  generalize (a * a + b * b) ^ 12105 = I at k ⊢
  rw [em_sub (emod_mul_r a (a * I) 12107) (emod_mul_r b ((0 - b) * I) 12107)]
  have e : a * (a * I) - b * ((0 - b) * I) = (a * a + b * b) * I := by grind
  rw [e]
  exact k
theorem inv_im (a b : Int) : (a * ((0 - b) * (a * a + b * b) ^ 12105 % 12107) + b * (a * (a * a + b * b) ^ 12105 % 12107)) % 12107 = 0 := by
  generalize (a * a + b * b) ^ 12105 = I
  rw [em_add (emod_mul_r a ((0 - b) * I) 12107) (emod_mul_r b (a * I) 12107)]
  have e : a * ((0 - b) * I) + b * (a * I) = 0 := by grind
  rw [e]
  rfl
/-- powers together: the product of two is that of the sum of the exponents -/
theorem pow_pow (x : G) (m n : Nat) :
    ((G.pow x m).re % 12107 * ((G.pow x n).re % 12107) - (G.pow x m).im % 12107 * ((G.pow x n).im % 12107)) % 12107 = (G.pow x (m + n)).re % 12107 ∧
    ((G.pow x m).re % 12107 * ((G.pow x n).im % 12107) + (G.pow x m).im % 12107 * ((G.pow x n).re % 12107)) % 12107 = (G.pow x (m + n)).im % 12107 := by
  rw [G.pow_add]
  exact ⟨(G.mul_red _ _).re, (G.mul_red _ _).im⟩
end Go.Proofs.Ytfigfpfgeoadbaa.M
