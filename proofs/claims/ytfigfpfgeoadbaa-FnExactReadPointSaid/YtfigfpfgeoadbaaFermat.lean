/- Plain arithmetic: every number that is not 0 modulo 12107, to the power 12106, is 1 (looked at by the kernel, number by number); so a product is 0 only where a factor is. Conditions: none. -/
import Derived.Test.YtfigfpfgeoadbaaMod
namespace Go.Proofs.Ytfigfpfgeoadbaa.M
/-- a test at all numbers from lo on, 2^d of them -/
def chk (test : Nat → Bool) : Nat → Nat → Bool
  | 0, lo => test lo
  | d + 1, lo => chk test d lo && chk test d (lo + 2 ^ d)
theorem chk_spec (test : Nat → Bool) : ∀ (d lo : Nat), chk test d lo = true → ∀ x, lo ≤ x → x < lo + 2 ^ d → test x = true := by
  intro d
  induction d with
  | zero =>
    intro lo h x h0 h1
    have : x = lo := by simp at h1; omega
    rw [this]; exact h
  | succ d ih =>
    intro lo h x h0 h1
    simp only [chk, Bool.and_eq_true] at h
    rw [Nat.pow_succ] at h1
    by_cases hx : x < lo + 2 ^ d
    · exact ih lo h.1 x h0 hx
    · exact ih _ h.2 x (by omega) (by omega)
set_option maxRecDepth 100000 in
theorem fermat_chk : chk (fun a => a == 0 || decide (12107 ≤ a) || a ^ 12106 % 12107 == 1) 14 0 = true := by decide +kernel
theorem fermat_nat (a : Nat) (h0 : 0 < a) (h1 : a < 12107) : a ^ 12106 % 12107 = 1 := by
  have h := chk_spec _ 14 0 fermat_chk a (by omega) (by omega)
  simp at h
  omega
theorem fermat (a : Int) (h : a % 12107 ≠ 0) : a ^ 12106 % 12107 = 1 := by
  rw [← emod_pow]
  obtain ⟨n, hn⟩ := Int.eq_ofNat_of_zero_le (Int.emod_nonneg a (show (12107 : Int) ≠ 0 by omega))
  have hl := Int.emod_lt_of_pos a (show (0 : Int) < 12107 by omega)
  rw [hn] at h hl ⊢
  have := fermat_nat n (by omega) (by omega)
  have e : ((n ^ 12106 % 12107 : Nat) : Int) = (1 : Nat) := by rw [this]
  simpa [Int.natCast_emod, Int.natCast_pow] using e
theorem inv_mul (a : Int) (h : a % 12107 ≠ 0) : a * a ^ 12105 % 12107 = 1 := by
  rw [Int.mul_comm, ← Int.pow_succ]
  exact fermat a h
theorem no_zero (a b : Int) (h : a * b % 12107 = 0) (ha : a % 12107 ≠ 0) : b % 12107 = 0 := by
  have h1 : a ^ 12105 * (a * b) % 12107 = 0 := by rw [← emod_mul_r, h, Int.mul_zero]; rfl
  rw [← Int.mul_assoc, Int.mul_comm (a ^ 12105), ← emod_mul_l, inv_mul a ha, Int.one_mul] at h1
  exact h1
theorem em_add {a b c d : Int} (h : a % 12107 = b % 12107) (k : c % 12107 = d % 12107) : (a + c) % 12107 = (b + d) % 12107 := by
  rw [Int.add_emod, h, k, ← Int.add_emod]
theorem em_sub {a b c d : Int} (h : a % 12107 = b % 12107) (k : c % 12107 = d % 12107) : (a - c) % 12107 = (b - d) % 12107 := by
  rw [Int.sub_emod, h, k, ← Int.sub_emod]
theorem em_mul {a b c d : Int} (h : a % 12107 = b % 12107) (k : c % 12107 = d % 12107) : a * c % 12107 = b * d % 12107 := by
  rw [Int.mul_emod, h, k, ← Int.mul_emod]
theorem em_self (a : Int) : a % 12107 % 12107 = a % 12107 := Int.emod_emod ..
end Go.Proofs.Ytfigfpfgeoadbaa.M
