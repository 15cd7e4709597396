/- Proved: PointNeg of the program and of the reference agree at every point. Conditions: none. -/
import Derived.Test.YtaaimmobggkhbaaSayFnExactPointNeg
import Derived.Test.YtaaimmobggkhbaaMod
set_option linter.unusedVariables false
set_option linter.unusedSimpArgs false
namespace Go.Proofs.Ytaaimmobggkhbaa.Pure
open Go.RowKit Go.Proofs.Ytaaimmobggkhbaa.PFnExactPointNeg Go.Proofs.YtaaimmobggkhbaaW.PrintWords Go.Proofs.YtaaimmobggkhbaaW.PrintLast Go.Proofs.YtaaimmobggkhbaaW.PrintMore
open Go.Proofs.Ytaaimmobggkhbaa.M

theorem spec_FpOf_eq (a : Int) : spec_FpOf.f a = some (a % 12107) := by
  unfold spec_FpOf.f
  rw [tm_eq a 12107 (by omega)]
  have h0 := Int.emod_nonneg a (show (12107 : Int) ≠ 0 by omega)
  have h1 := Int.emod_lt_of_pos a (show (0 : Int) < 12107 by omega)
  by_cases h : 0 ≤ a ∨ (12107 : Int) ∣ a
  · rw [if_pos h, if_neg (by omega)]
    simp
  · rw [if_neg h, if_pos (by omega)]
    unfold wrap64
    congr 1
    omega
theorem spec_FpSub_eq (a b : Int) : spec_FpSub.f a b = some ((a - b) % 12107) := by
  unfold spec_FpSub.f
  simp only [spec_FpOf_eq, Option.bind_some]
  have h0 := Int.emod_nonneg a (show (12107 : Int) ≠ 0 by omega)
  have h1 := Int.emod_lt_of_pos a (show (0 : Int) < 12107 by omega)
  have h2 := Int.emod_nonneg b (show (12107 : Int) ≠ 0 by omega)
  have h3 := Int.emod_lt_of_pos b (show (0 : Int) < 12107 by omega)
  rw [show wrap64 ((a % 12107) - (b % 12107)) = (a % 12107) - (b % 12107) from by unfold wrap64; omega]
  exact congrArg some (Int.sub_emod a b 12107).symm
theorem spec_PointNeg_eq (x y : Int) (z : Bool) : spec_PointNeg.f x y z = some (if z = true then (0, 0, true) else (x, (0 - y) % 12107, false)) := by
  unfold spec_PointNeg.f spec_l07Zero.f
  cases z
  · simp only [Bool.false_eq_true, if_false, spec_FpSub_eq, Option.bind_some]
  · simp
theorem impl_remainder_eq (a m : Int) (h : 0 < m) (hm : m ≤ 1000000) : impl_remainder.f a m = some (a % m) := by
  unfold impl_remainder.f
  rw [if_neg (by omega), tm_eq a m h]
  have h0 := Int.emod_nonneg a (show m ≠ 0 by omega)
  have h1 := Int.emod_lt_of_pos a h
  by_cases hc : 0 ≤ a ∨ m ∣ a
  · rw [if_pos hc, if_neg (by omega)]
    simp
  · rw [if_neg hc, if_pos (by omega)]
    unfold wrap64
    congr 1
    omega
theorem impl_FpOf_eq (a : Int) : impl_FpOf.f a = some (a % 12107) := by
  unfold impl_FpOf.f
  rw [impl_remainder_eq a 12107 (by omega) (by omega)]
  rfl
theorem impl_FpSub_eq (a b : Int) : impl_FpSub.f a b = some ((a - b) % 12107) := by
  unfold impl_FpSub.f
  simp only [impl_FpOf_eq, Option.bind_some]
  have h0 := Int.emod_nonneg a (show (12107 : Int) ≠ 0 by omega)
  have h1 := Int.emod_lt_of_pos a (show (0 : Int) < 12107 by omega)
  have h2 := Int.emod_nonneg b (show (12107 : Int) ≠ 0 by omega)
  have h3 := Int.emod_lt_of_pos b (show (0 : Int) < 12107 by omega)
  rw [show wrap64 ((a % 12107) - (b % 12107)) = (a % 12107) - (b % 12107) from by unfold wrap64; omega]
  exact congrArg some (Int.sub_emod a b 12107).symm
theorem impl_PointNeg_eq (x y : Int) (z : Bool) : impl_PointNeg.f x y z = some (if z = true then (0, 0, true) else (x, (0 - y) % 12107, false)) := by
  unfold impl_PointNeg.f
  cases z
  · simp only [Bool.false_eq_true, if_false, impl_FpSub_eq, Option.bind_some]
  · simp
theorem FnExactPointNeg : laws_FnExactPointNeg.Pure := by
  intro x y z _ _
  unfold laws_FnExactPointNeg.f laws_toPoint.f laws_eqPoint.f
  simp only [Option.bind_some, spec_PointNeg_eq, impl_PointNeg_eq]
  simp

end Go.Proofs.Ytaaimmobggkhbaa.Pure
