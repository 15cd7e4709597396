/- Proved: PointText of the program and of the reference agree at every point. Conditions: none. -/
import Derived.Test.YtaniffkmdiibpaaSayFnExactPointText
import Derived.Test.YtaniffkmdiibpaaMod
set_option linter.unusedVariables false
set_option linter.unusedSimpArgs false
namespace Go.Proofs.Ytaniffkmdiibpaa.Pure
open Go.RowKit Go.Proofs.Ytaniffkmdiibpaa.PFnExactPointText Go.Proofs.YtaniffkmdiibpaaW.PrintWords Go.Proofs.YtaniffkmdiibpaaW.PrintLast Go.Proofs.YtaniffkmdiibpaaW.PrintMore
open Go.Proofs.Ytaniffkmdiibpaa.M

theorem spec_FpOk_eq (a : Int) : spec_FpOk.f a = some (decide (0 ≤ a ∧ a < 12107)) := by
  unfold spec_FpOk.f spec_l01In.f
  by_cases h : a ≥ 0
  · rw [if_pos h]
    (try simp only [Option.bind_some])
    congr 1
    rw [decide_eq_decide]
    omega
  · rw [if_neg h]
    (try simp only [Option.bind_some])
    congr 1
    symm
    rw [decide_eq_false_iff_not]
    omega
theorem spec_FpOf_eq (a : Int) : spec_FpOf.f a = some (a % 12107) := by
  unfold spec_FpOf.f
  rw [tm_eq a 12107 (by omega)]
  have h0 := Int.emod_nonneg a (show (12107 : Int) ≠ 0 by omega)
  have h1 := Int.emod_lt_of_pos a (show (0 : Int) < 12107 by omega)
  by_cases h : 0 ≤ a ∨ (12107 : Int) ∣ a
  · rw [if_pos h, if_neg (by omega)]
    simp
  · rw [if_neg h, if_pos (by omega)]
    unfold wrap64
    congr 1
    omega
theorem spec_FpMul_eq (a b : Int) : spec_FpMul.f a b = some ((a * b) % 12107) := by
  unfold spec_FpMul.f
  simp only [spec_FpOf_eq, Option.bind_some]
  have h0 := Int.emod_nonneg a (show (12107 : Int) ≠ 0 by omega)
  have h1 := Int.emod_lt_of_pos a (show (0 : Int) < 12107 by omega)
  have h2 := Int.emod_nonneg b (show (12107 : Int) ≠ 0 by omega)
  have h3 := Int.emod_lt_of_pos b (show (0 : Int) < 12107 by omega)
  rw [show wrap64 ((a % 12107) * (b % 12107)) = (a % 12107) * (b % 12107) from wrap_mul _ _ 12107 (by omega) h0 h1 h2 h3]
  exact congrArg some (Int.mul_emod a b 12107).symm
theorem spec_FpAdd_eq (a b : Int) : spec_FpAdd.f a b = some ((a + b) % 12107) := by
  unfold spec_FpAdd.f
  simp only [spec_FpOf_eq, Option.bind_some]
  have h0 := Int.emod_nonneg a (show (12107 : Int) ≠ 0 by omega)
  have h1 := Int.emod_lt_of_pos a (show (0 : Int) < 12107 by omega)
  have h2 := Int.emod_nonneg b (show (12107 : Int) ≠ 0 by omega)
  have h3 := Int.emod_lt_of_pos b (show (0 : Int) < 12107 by omega)
  rw [show wrap64 ((a % 12107) + (b % 12107)) = (a % 12107) + (b % 12107) from by unfold wrap64; omega]
  exact congrArg some (Int.add_emod a b 12107).symm
theorem spec_l07Right_eq (x : Int) : spec_l07Right.f x = some ((x * x * x + x) % 12107) := by
  unfold spec_l07Right.f
  simp only [spec_FpMul_eq, spec_FpAdd_eq, Option.bind_some, Int.emod_add_emod, emod_mul_l]
  rw [Int.add_emod, emod_mul_l, ← Int.add_emod]
theorem spec_PointOk_eq (x y : Int) (z : Bool) : spec_PointOk.f x y z = some (okPoint x y z) := by
  unfold spec_PointOk.f okPoint
  cases z
  · simp only [Bool.false_eq_true, if_false, spec_FpOk_eq, spec_FpMul_eq, spec_l07Right_eq, Option.bind_some, decide_eq_true_eq]
    by_cases hx : 0 ≤ x ∧ x < 12107
    · rw [if_pos hx]
      by_cases hy : 0 ≤ y ∧ y < 12107
      · rw [if_pos hy]
        congr 1
        rw [Bool.eq_iff_iff, beq_iff_eq, decide_eq_true_eq]
        exact ⟨fun h => ⟨hx.1, hx.2, hy.1, hy.2, h⟩, fun h => h.2.2.2.2⟩
      · rw [if_neg hy]
        congr 1
        symm
        rw [decide_eq_false_iff_not]
        exact fun h => hy ⟨h.2.2.1, h.2.2.2.1⟩
    · rw [if_neg hx]
      congr 1
      symm
      rw [decide_eq_false_iff_not]
      exact fun h => hx ⟨h.1, h.2.1⟩
  · simp only [if_true]
    by_cases hx : x = 0
    · rw [if_pos hx]
      congr 1
      rw [Bool.eq_iff_iff, beq_iff_eq, decide_eq_true_eq]
      exact ⟨fun h => ⟨hx, h⟩, fun h => h.2⟩
    · rw [if_neg hx]
      congr 1
      symm
      rw [decide_eq_false_iff_not]
      exact fun h => hx h.1
theorem spec_PointText_eq (x y : Int) (z : Bool) : spec_PointText.f x y z = some (pointText x y z) := by
  unfold spec_PointText.f pointText
  rw [spec_PointOk_eq]
  simp only [Option.bind_some]
  cases okPoint x y z <;> cases z <;> simp
theorem impl_FpOk_eq (a : Int) : impl_FpOk.f a = some (decide (0 ≤ a ∧ a < 12107)) := by
  unfold impl_FpOk.f
  by_cases h : a ≥ 0
  · rw [if_pos h]
    (try simp only [Option.bind_some])
    congr 1
    rw [decide_eq_decide]
    omega
  · rw [if_neg h]
    (try simp only [Option.bind_some])
    congr 1
    symm
    rw [decide_eq_false_iff_not]
    omega
theorem impl_remainder_eq (a m : Int) (h : 0 < m) (hm : m ≤ 1000000) : impl_remainder.f a m = some (a % m) := by
  unfold impl_remainder.f
  rw [if_neg (by omega), tm_eq a m h]
  have h0 := Int.emod_nonneg a (show m ≠ 0 by omega)
  have h1 := Int.emod_lt_of_pos a h
  by_cases hc : 0 ≤ a ∨ m ∣ a
  · rw [if_pos hc, if_neg (by omega)]
    simp
  · rw [if_neg hc, if_pos (by omega)]
    unfold wrap64
    congr 1
    omega
theorem impl_FpOf_eq (a : Int) : impl_FpOf.f a = some (a % 12107) := by
  unfold impl_FpOf.f
  rw [impl_remainder_eq a 12107 (by omega) (by omega)]
  rfl
theorem impl_FpMul_eq (a b : Int) : impl_FpMul.f a b = some ((a * b) % 12107) := by
  unfold impl_FpMul.f
  simp only [impl_FpOf_eq, Option.bind_some]
  have h0 := Int.emod_nonneg a (show (12107 : Int) ≠ 0 by omega)
  have h1 := Int.emod_lt_of_pos a (show (0 : Int) < 12107 by omega)
  have h2 := Int.emod_nonneg b (show (12107 : Int) ≠ 0 by omega)
  have h3 := Int.emod_lt_of_pos b (show (0 : Int) < 12107 by omega)
  rw [show wrap64 ((a % 12107) * (b % 12107)) = (a % 12107) * (b % 12107) from wrap_mul _ _ 12107 (by omega) h0 h1 h2 h3]
  exact congrArg some (Int.mul_emod a b 12107).symm
theorem impl_FpAdd_eq (a b : Int) : impl_FpAdd.f a b = some ((a + b) % 12107) := by
  unfold impl_FpAdd.f
  simp only [impl_FpOf_eq, Option.bind_some]
  have h0 := Int.emod_nonneg a (show (12107 : Int) ≠ 0 by omega)
  have h1 := Int.emod_lt_of_pos a (show (0 : Int) < 12107 by omega)
  have h2 := Int.emod_nonneg b (show (12107 : Int) ≠ 0 by omega)
  have h3 := Int.emod_lt_of_pos b (show (0 : Int) < 12107 by omega)
  rw [show wrap64 ((a % 12107) + (b % 12107)) = (a % 12107) + (b % 12107) from by unfold wrap64; omega]
  exact congrArg some (Int.add_emod a b 12107).symm
theorem impl_curveAt_eq (x : Int) : impl_curveAt.f x = some ((x * x * x + x) % 12107) := by
  unfold impl_curveAt.f
  simp only [impl_FpMul_eq, impl_FpAdd_eq, Option.bind_some, Int.emod_add_emod, emod_mul_l]
  rw [Int.add_emod, emod_mul_l, ← Int.add_emod]
theorem impl_PointOk_eq (x y : Int) (z : Bool) : impl_PointOk.f x y z = some (okPoint x y z) := by
  unfold impl_PointOk.f okPoint
  cases z
  · simp only [Bool.false_eq_true, if_false, impl_FpOk_eq, impl_FpMul_eq, impl_curveAt_eq, Option.bind_some, decide_eq_true_eq]
    by_cases hx : 0 ≤ x ∧ x < 12107
    · rw [if_pos hx]
      by_cases hy : 0 ≤ y ∧ y < 12107
      · rw [if_pos hy]
        congr 1
        rw [Bool.eq_iff_iff, beq_iff_eq, decide_eq_true_eq]
        exact ⟨fun h => ⟨hx.1, hx.2, hy.1, hy.2, h⟩, fun h => h.2.2.2.2⟩
      · rw [if_neg hy]
        congr 1
        symm
        rw [decide_eq_false_iff_not]
        exact fun h => hy ⟨h.2.2.1, h.2.2.2.1⟩
    · rw [if_neg hx]
      congr 1
      symm
      rw [decide_eq_false_iff_not]
      exact fun h => hx ⟨h.1, h.2.1⟩
  · simp only [if_true]
    by_cases hx : x = 0
    · rw [if_pos hx]
      congr 1
      rw [Bool.eq_iff_iff, beq_iff_eq, decide_eq_true_eq]
      exact ⟨fun h => ⟨hx, h⟩, fun h => h.2⟩
    · rw [if_neg hx]
      congr 1
      symm
      rw [decide_eq_false_iff_not]
      exact fun h => hx h.1
theorem impl_PointText_eq (x y : Int) (z : Bool) : impl_PointText.f x y z = some (pointText x y z) := by
  unfold impl_PointText.f pointText
  rw [impl_PointOk_eq]
  simp only [Option.bind_some]
  cases okPoint x y z <;> cases z <;> simp
theorem FnExactPointText : laws_FnExactPointText.Pure := by
  intro x y z _ _
  unfold laws_FnExactPointText.f laws_toPoint.f
  simp only [Option.bind_some, spec_PointText_eq, impl_PointText_eq]
  simp

end Go.Proofs.Ytaniffkmdiibpaa.Pure
