/- Proved: TwoMul of the program and of the reference agree at all pairs of ints. Conditions: none. -/
import Derived.Test.YtaaimmobggkhbaaSayFnExactTwoMul
import Derived.Test.YtaaimmobggkhbaaMod
set_option linter.unusedVariables false
set_option linter.unusedSimpArgs false
namespace Go.Proofs.Ytaaimmobggkhbaa.Pure
open Go.RowKit Go.Proofs.Ytaaimmobggkhbaa.PFnExactTwoMul Go.Proofs.YtaaimmobggkhbaaW.PrintWords Go.Proofs.YtaaimmobggkhbaaW.PrintLast Go.Proofs.YtaaimmobggkhbaaW.PrintMore
open Go.Proofs.Ytaaimmobggkhbaa.M

theorem spec_FpOf_eq (a : Int) : spec_FpOf.f a = some (a % 12107) := by
  unfold spec_FpOf.f
  rw [tm_eq a 12107 (by omega)]
  have h0 := Int.emod_nonneg a (show (12107 : Int) ≠ 0 by omega)
  have h1 := Int.emod_lt_of_pos a (show (0 : Int) < 12107 by omega)
  by_cases h : 0 ≤ a ∨ (12107 : Int) ∣ a
  · rw [if_pos h, if_neg (by omega)]
    simp
  · rw [if_neg h, if_pos (by omega)]
    unfold wrap64
    congr 1
    omega
theorem spec_FpAdd_eq (a b : Int) : spec_FpAdd.f a b = some ((a + b) % 12107) := by
  unfold spec_FpAdd.f
  simp only [spec_FpOf_eq, Option.bind_some]
  have h0 := Int.emod_nonneg a (show (12107 : Int) ≠ 0 by omega)
  have h1 := Int.emod_lt_of_pos a (show (0 : Int) < 12107 by omega)
  have h2 := Int.emod_nonneg b (show (12107 : Int) ≠ 0 by omega)
  have h3 := Int.emod_lt_of_pos b (show (0 : Int) < 12107 by omega)
  rw [show wrap64 ((a % 12107) + (b % 12107)) = (a % 12107) + (b % 12107) from by unfold wrap64; omega]
  exact congrArg some (Int.add_emod a b 12107).symm
theorem spec_FpSub_eq (a b : Int) : spec_FpSub.f a b = some ((a - b) % 12107) := by
  unfold spec_FpSub.f
  simp only [spec_FpOf_eq, Option.bind_some]
  have h0 := Int.emod_nonneg a (show (12107 : Int) ≠ 0 by omega)
  have h1 := Int.emod_lt_of_pos a (show (0 : Int) < 12107 by omega)
  have h2 := Int.emod_nonneg b (show (12107 : Int) ≠ 0 by omega)
  have h3 := Int.emod_lt_of_pos b (show (0 : Int) < 12107 by omega)
  rw [show wrap64 ((a % 12107) - (b % 12107)) = (a % 12107) - (b % 12107) from by unfold wrap64; omega]
  exact congrArg some (Int.sub_emod a b 12107).symm
theorem spec_FpMul_eq (a b : Int) : spec_FpMul.f a b = some ((a * b) % 12107) := by
  unfold spec_FpMul.f
  simp only [spec_FpOf_eq, Option.bind_some]
  have h0 := Int.emod_nonneg a (show (12107 : Int) ≠ 0 by omega)
  have h1 := Int.emod_lt_of_pos a (show (0 : Int) < 12107 by omega)
  have h2 := Int.emod_nonneg b (show (12107 : Int) ≠ 0 by omega)
  have h3 := Int.emod_lt_of_pos b (show (0 : Int) < 12107 by omega)
  rw [show wrap64 ((a % 12107) * (b % 12107)) = (a % 12107) * (b % 12107) from wrap_mul _ _ 12107 (by omega) h0 h1 h2 h3]
  exact congrArg some (Int.mul_emod a b 12107).symm
theorem spec_TwoMul_eq (a b c d : Int) : spec_TwoMul.f a b c d = some ((a * c - b * d) % 12107, (a * d + b * c) % 12107) := by
  unfold spec_TwoMul.f
  simp only [spec_FpMul_eq, spec_FpSub_eq, spec_FpAdd_eq, Option.bind_some, Int.emod_add_emod, Int.add_emod_emod, Int.emod_sub_emod, Int.sub_emod_emod]
theorem impl_remainder_eq (a m : Int) (h : 0 < m) (hm : m ≤ 1000000) : impl_remainder.f a m = some (a % m) := by
  unfold impl_remainder.f
  rw [if_neg (by omega), tm_eq a m h]
  have h0 := Int.emod_nonneg a (show m ≠ 0 by omega)
  have h1 := Int.emod_lt_of_pos a h
  by_cases hc : 0 ≤ a ∨ m ∣ a
  · rw [if_pos hc, if_neg (by omega)]
    simp
  · rw [if_neg hc, if_pos (by omega)]
    unfold wrap64
    congr 1
    omega
theorem impl_FpOf_eq (a : Int) : impl_FpOf.f a = some (a % 12107) := by
  unfold impl_FpOf.f
  rw [impl_remainder_eq a 12107 (by omega) (by omega)]
  rfl
theorem impl_FpAdd_eq (a b : Int) : impl_FpAdd.f a b = some ((a + b) % 12107) := by
  unfold impl_FpAdd.f
  simp only [impl_FpOf_eq, Option.bind_some]
  have h0 := Int.emod_nonneg a (show (12107 : Int) ≠ 0 by omega)
  have h1 := Int.emod_lt_of_pos a (show (0 : Int) < 12107 by omega)
  have h2 := Int.emod_nonneg b (show (12107 : Int) ≠ 0 by omega)
  have h3 := Int.emod_lt_of_pos b (show (0 : Int) < 12107 by omega)
  rw [show wrap64 ((a % 12107) + (b % 12107)) = (a % 12107) + (b % 12107) from by unfold wrap64; omega]
  exact congrArg some (Int.add_emod a b 12107).symm
theorem impl_FpSub_eq (a b : Int) : impl_FpSub.f a b = some ((a - b) % 12107) := by
  unfold impl_FpSub.f
  simp only [impl_FpOf_eq, Option.bind_some]
  have h0 := Int.emod_nonneg a (show (12107 : Int) ≠ 0 by omega)
  have h1 := Int.emod_lt_of_pos a (show (0 : Int) < 12107 by omega)
  have h2 := Int.emod_nonneg b (show (12107 : Int) ≠ 0 by omega)
  have h3 := Int.emod_lt_of_pos b (show (0 : Int) < 12107 by omega)
  rw [show wrap64 ((a % 12107) - (b % 12107)) = (a % 12107) - (b % 12107) from by unfold wrap64; omega]
  exact congrArg some (Int.sub_emod a b 12107).symm
theorem impl_FpMul_eq (a b : Int) : impl_FpMul.f a b = some ((a * b) % 12107) := by
  unfold impl_FpMul.f
  simp only [impl_FpOf_eq, Option.bind_some]
  have h0 := Int.emod_nonneg a (show (12107 : Int) ≠ 0 by omega)
  have h1 := Int.emod_lt_of_pos a (show (0 : Int) < 12107 by omega)
  have h2 := Int.emod_nonneg b (show (12107 : Int) ≠ 0 by omega)
  have h3 := Int.emod_lt_of_pos b (show (0 : Int) < 12107 by omega)
  rw [show wrap64 ((a % 12107) * (b % 12107)) = (a % 12107) * (b % 12107) from wrap_mul _ _ 12107 (by omega) h0 h1 h2 h3]
  exact congrArg some (Int.mul_emod a b 12107).symm
theorem impl_TwoMul_eq (a b c d : Int) : impl_TwoMul.f a b c d = some ((a * c - b * d) % 12107, (a * d + b * c) % 12107) := by
  unfold impl_TwoMul.f
  simp only [impl_FpMul_eq, impl_FpSub_eq, impl_FpAdd_eq, Option.bind_some, Int.emod_add_emod, Int.add_emod_emod, Int.emod_sub_emod, Int.sub_emod_emod]
theorem FnExactTwoMul : laws_FnExactTwoMul.Pure := by
  intro a b c d _ _ _ _
  unfold laws_FnExactTwoMul.f laws_toTwo.f laws_eqTwo.f
  simp only [Option.bind_some, spec_TwoMul_eq, impl_TwoMul_eq]
  simp

end Go.Proofs.Ytaaimmobggkhbaa.Pure
